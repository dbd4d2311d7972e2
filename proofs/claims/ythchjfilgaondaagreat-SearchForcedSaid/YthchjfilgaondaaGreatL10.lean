import Derived.Test.YthchjfilgaondaaGreatL9
import Derived.ChangeSame
/- Rules. -/
set_option maxRecDepth 1000000
set_option maxHeartbeats 40000000
set_option linter.unusedVariables false
set_option linter.unusedSimpArgs false
set_option linter.unusedSectionVars false
set_option linter.unnecessarySimpa false
namespace Go.Sl
open Go Go.ChangeShapes
theorem C6O {w w':World} (l:Le (hp w) (hp w')):w.keptBut w' (λ_=>False):=by
 refine ⟨l.os,l.output,λi hi=>?_⟩
 have h1:w.heap[i]?=some w.heap[i]:=Array.getElem?_eq_getElem hi
 have h2:w'.heap[i]?=some w.heap[i]:=l.get i _ h1
 rw [h1,h2]
 cases w.heap[i] with
 | cells c t fr=>exact ⟨rfl,rfl,rfl,λ_ _=>rfl⟩
 | map es c=>exact .inr ⟨rfl,rfl⟩
 | _=>rfl
theorem I7.D5f {P:Program} {f:FuncId} {args:List Value} {h:PH} {L:List E5} {R R':Value→PH→List E5→Prop} (s:I7 P f args h L R) (q:∀ v g M,R v g M→R' v g M):I7 P f args h L R':=
 ⟨s.1,λw i=>(s.2 w i).mono λe w' ⟨v,g,M,he,l,j,r⟩=>⟨v,g,M,he,l,j,q _ _ _ r⟩⟩
end Go.Sl
namespace Go.Sl
open Go
section
variable {P:Program} {ρ:Env} {X:World→Prop} {d:Option Nat} {ty:TypeId} {pos:String} {af:Array Edge} {g:Option (Nat×Bool)}
end
section
variable {ro:Option Nat} {P:Program} {n:Nat} {D:List Deferred} {ρ:Env} {h:PH} {L:List E5} {Q:Exit→Act→World→Prop} {K:Act→World→Prop} {X:World→Prop}
variable {d:Option Nat} {ty:TypeId} {pos:String} {af:Array Edge} {g:Option (Nat×Bool)}
end
section
variable {ro:Option Nat} {P:Program} {n:Nat} {D:List Deferred} {ρ:Env} {h:PH} {L:List E5} {Q:Exit→Act→World→Prop} {K:Act→World→Prop}
variable {ty:TypeId} {pos:String} {af:Array Edge} {g:Option (Nat×Bool)}
end
end Go.Sl
namespace Go.Sl
open Go
class LeI (a b:PH):Prop where
 le:Le a b
instance (priority:=high) LeI.refl {a:PH}:LeI a a:=⟨Le.refl a⟩
instance LeI.step {a b c:PH} [l:Le b c] [i:LeI a b]:LeI a c:=⟨i.le.trans l⟩
theorem Li {a b:PH} [i:LeI a b]:Le a b:=i.le
class MonoC {α:Type} (E:Vr α):Prop where
 m:A1i E
instance {k:IntKind}:MonoC (VI k):=⟨VI.mono⟩
instance:MonoC VB:=⟨VB.mono⟩
instance:MonoC VS:=⟨VS.mono⟩
instance:MonoC VFn:=⟨VFn.mono⟩
instance {α:Type} {E:Vr α} {sz:Nat} [m:MonoC E]:MonoC (VSl E sz):=⟨VSl.mono m.m⟩
instance {α:Type} {E:Vr α} [m:MonoC E]:MonoC (VPt E):=⟨VPt.mono m.m⟩
section
variable {α:Type} {E:Vr α} {h g:PH} [m:MonoC E] [l:LeI h g]
theorem G9.u {sz:Nat} {v:Value} {xs:List α} (f:G9 E sz h v xs):G9 E sz g v xs:=f.mono m.m l.le
theorem A8.u {css:List (List Value)} {xs:List α} (f:A8 E h css xs):A8 E g css xs:=f.mono m.m l.le
theorem Pt.u {v:Value} {x:α} (f:Pt E h v x):Pt E g v x:=f.mono m.m l.le
theorem OPt.u {v:Value} {x:Option α} (f:OPt E h v x):OPt E g v x:=f.mono m.m l.le
end
section
variable {κ α:Type} [DecidableEq κ] {ek:κ→Value} {agg:Bool} {E:Vr α} {h g:PH} [m:MonoC E] [l:LeI h g]
omit [DecidableEq κ] in
theorem Mp.u {v:Value} {x:List (κ×α)} (f:Mp ek agg E h v x):Mp ek agg E g v x:=f.mono m.m l.le
omit [DecidableEq κ] in
theorem V7.u {n:Nat} {es:List MapEntry} {x:List (κ×α)} (f:V7 ek agg E h n es x):V7 ek agg E g n es x:=V7.mono m.m l.le f
omit [DecidableEq κ] in
theorem Lf.u {es:List MapEntry} {seen:Array Nat} {todo:List (κ×α)} (f:Lf ek agg E h es seen todo):Lf ek agg E g es seen todo:=f.mono m.m l.le
omit [DecidableEq κ] in
instance:MonoC (VMp ek agg E):=⟨VMp.mono m.m⟩
end
theorem Y2.u {h g:PH} {p:Addr} {cs:List Value} [l:LeI h g] (a:Y2 h p cs):Y2 g p cs:=a.mono l.le
end Go.Sl
