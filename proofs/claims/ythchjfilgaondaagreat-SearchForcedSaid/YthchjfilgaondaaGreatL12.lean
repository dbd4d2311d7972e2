import Derived.Test.YthchjfilgaondaaGreatL11
import Derived.ProofKit
import Derived.Carry
import Derived.OpenShut
import GoSem.ClaimGoes
import Derived.Test.YthchjfilgaondaaGreatL10
/- Rules. -/
set_option maxRecDepth 1000000
set_option maxHeartbeats 40000000
set_option linter.unusedVariables false
set_option linter.unusedSimpArgs false
set_option linter.unusedSectionVars false
set_option linter.unnecessarySimpa false
namespace Go.Sl
open Go Go.RowKit Go.ChangeShapes Go.WideShapes
theorem C9F {w w':World} (l:Le (hp w) (hp w')):Below w.heap.size w w':=by
 have key:∀ k,k<w.heap.size→w'.heap[k]?=w.heap[k]?:=λk hk=>by
  have h:=Array.getElem?_eq_getElem hk
  rw [h]
  exact l.get k _ h
 refine ⟨l.os,l.tape,l.output,?_,key⟩
 by_cases h0:w.heap.size=0
 ·omega
 ·have:=key (w.heap.size - 1) (by omega)
  rw [Array.getElem?_eq_getElem (show w.heap.size - 1<w.heap.size by omega)] at this
  have:=(Array.getElem?_eq_some_iff.1 this).1
  omega
theorem I7.below {P:Program} {f:FuncId} {args:List Value} {v0:Value} {w:World} (s:I7 P f args (hp w) [] λv _ _=>v=v0):Calls P f args.toArray w λe w'=>e=.returned v0∧w.keptBut w' (λ_=>False)∧Below w.heap.size w w':=by
 refine (s.2 w (Inv.all w)).mono ?_
 rintro e w' ⟨v,h',L',rfl,l,i,rfl⟩
 exact ⟨rfl,C6O (l.trans i.le),C9F (l.trans i.le)⟩
theorem C3S {W W':World} (hb:Below W.heap.size W W') (a:Addr) (h:a.block<W.heap.size):W'.frozen? a=W.frozen? a:=by
 unfold World.frozen?
 rw [hb.block _ h]
theorem C8e {H:Type} {enc:TypeId×Value→H} {P:Program} {f:Func} {s:ChangeSpec} {apart fresh handsOn again:Bool} {W W':World} {args:Array Value} {v:Value} {ds gs:List (DataW H)} {before:List MemPlace}
  (hW:DataW.Whole enc P f.params.toList s.vars apart W args.toList ds gs before) (hvn:s.vars=[])
  (hres:∀ (b:Nat) (sp:Nat→Bool) (hd:Bool),DataW.TrodAll enc P W' b sp hd f.resultTypes.toList (v.resultList f.resultTypes.size) (s.fn H (ds++gs)).results [])
  (hargs:∀ sp:Nat→Bool,(∀ p∈before,sp p.block=true)→DataW.TrodAll enc P W' 0 sp true f.params.toList args.toList (s.fn H (ds++gs)).args before)
  (hv0:(s.fn H (ds++gs)).vars=[])
  (hk:W.keptBut W' (λ_=>False)) (hb:Below W.heap.size W W')
  (hok:∀ (j:Nat) (t:TypeId) (r:Value),f.resultTypes[j]?=some t→(v.resultList f.resultTypes.size)[j]?=some r→Value.okWide P W' .any 0 t r) :
  s.post enc P f apart fresh handsOn again W args v W':=by
 have hold:∀ p∈before,(λb=>decide (b<W.heap.size)) p.block=true:=λp hp=>by simpa using hW.lt p hp
 have hvars:∀ sp:Nat→Bool,DataW.TrodVars enc P W' sp s.vars (s.fn H (ds++gs)).vars []:=λsp=>by rw [hvn,hv0]; rfl
 have hW0:=hW
 refine ⟨ds,gs,before,[],before,[],hW,hres _ _ _,hargs _ hold,hvars _,World.keptBut_mono (λp hp=>hp.elim) hk,λ_=>?_⟩
 obtain ⟨_,_,_,_,_,hz,hn⟩:=hW
 refine ⟨hok,_,_,([]++before)++[],⟨[]++before,[],trodAll_append (hargs _ (λ_ _=>rfl)) (hres _ _ _),hvars _,rfl,?_,?_⟩,?_⟩
 ·intro b off hp
  have hp':MemPlace.cell b off∈before:=by simpa using hp
  rw [C3S hb ⟨b,off,none⟩ (by simpa [MemPlace.block] using hW0.lt _ hp')]
  exact hz b off hp'
 ·intro ha
  have:=hn ha
  simpa using this
 ·intro p hp _
  simpa using hp
theorem trod_below {H:Type} {enc:TypeId×Value→H} {P:Program} {t:TypeId} (hl:laidOutB P=true) (hr:P.readableRec t=true) (hrow:t<P.types.size) {W W':World} {v:Value} {d:DataW H} {ps:List MemPlace} {sp:Nat→Bool}
  (h:DataW.Trod enc P W 0 (λ_=>true) true t v d ps) (hb:Below W.heap.size W W') (hlt:∀ x∈ps,x.block<W.heap.size) (hs:∀ x∈ps,sp x.block=true) :
  DataW.Trod enc P W' 0 sp true t v d ps:=
 WideElems.Trod_stays hl hr hrow h (λx hx=>hb.same (hlt x hx)) hs
theorem B5R {H:Type} {enc:TypeId×Value→H} {P:Program} (hl:laidOutB P=true) {W W':World} (hb:Below W.heap.size W W') {sp:Nat→Bool} :
  ∀ {ts:List TypeId} {vs:List Value} {ds:List (DataW H)} {ps:List MemPlace},(ts.all λt=>P.readableRec t && decide (t<P.types.size))=true→DataW.TrodAll enc P W 0 (λ_=>true) true ts vs ds ps→
  (∀ x∈ps,x.block<W.heap.size)→(∀ x∈ps,sp x.block=true)→DataW.TrodAll enc P W' 0 sp true ts vs ds ps
 | [],vs,ds,ps,_,h,_,_=>by
  obtain ⟨rfl,rfl,rfl⟩:=trodAll_nil h
  rfl
 | t::ts,vs,ds,ps,ht,h,hlt,hs=>by
  obtain ⟨v,vs',d,ds',p,q,rfl,rfl,rfl,hd,hr⟩:=trodAll_cons h
  simp only [List.all_cons,Bool.and_eq_true,decide_eq_true_eq] at ht
  exact trodAll_cons_mk (trod_below hl ht.1.1 ht.1.2 hd hb (λx hx=>hlt x (List.mem_append_left _ hx)) (λx hx=>hs x (List.mem_append_left _ hx)))
   (B5R hl hb ht.2 hr (λx hx=>hlt x (List.mem_append_right _ hx)) (λx hx=>hs x (List.mem_append_right _ hx)))
theorem D2z {v:Value} {cs:List Value} (h:v.cells.toList=cs) (hl:cs.length≠1):v=.agg cs.toArray:=by
 subst h
 cases v <;> first | rfl | exact absurd rfl hl
theorem D2x {v a:Value} (h:v.cells.toList=[a]) (ha:∀ cs,v≠.agg cs):v=a:=by
 cases v <;> first | exact (List.cons.inj h).1 | exact absurd rfl (ha _)
end Go.Sl
namespace Go.Sl
open Go
abbrev qi (n:Int):Value:=.int .i64 n
abbrev qp (b:Nat):Value:=.pointer (some ⟨b,0,none⟩)
abbrev qs:Value:=.slice none 0 0
abbrev qe:ByteArray:=⟨#[]⟩
def PT.vs:List Nat→PT→PT
 | [],t=>t
 | i::l,t=>.v i (PT.vs l t)
theorem bE {α β:Type} {x:Option α} {f:α→Option β} {b:β} {p:Prop} (H:Option.bind x f=some b) (k:∀ a,x=some a→f a=some b→p):p:=by
 obtain ⟨a,e,h⟩:=bnd H
 exact k a e h
section
variable {ro:Option Nat} {P:Program} {n:Nat} {D:List Deferred} {ρ:Env} {h:PH} {L:List E5} {Q:Exit→Act→World→Prop}
variable {K:Act→World→Prop} {ty:TypeId} {pos:String} {af:Array Edge} {g:Option (Nat×Bool)}
theorem O.b1 {α:Type} {E:Vr α} {y:α} {dd:Nat} {t et by_:Nat} {x:Operand} {v zv:Value} (ht:A0T P t=some (et,1,by_)) (hz:zer P et=some zv) (hzs:Nat.beq zv.cells.size 1=true) (e:ev ρ x=some v) (hE:E h [v] y) (hv:v.cells=[v].toArray) (hd:Nat.blt dd n=true)
  (kk:∀ b,A8 E h [[v]] [y]→T n D ((dd,.slice (some ⟨b,0,none⟩) 1 1)::ρ) h (F3 et 1 (.slice (some ⟨b,0,none⟩) 1 1) [[v]]::L) K) :
  T n D ρ h L (λa w=>Oper.wr ⟨some dd,.buildSlice t 1 (((List.range' 0 [x].length).zip [x]).toArray),ty,pos,af,g⟩ ro P a w K Q):=
 O.bs (k:=1) (xs:=[x]) (css:=[[v]]) ht hz (by rw [hzs]; rfl) (e:=by simp [evs,e]) (hk:=rfl) (hv:=CO.eq (CO.cons hv CO.nil)) (hw:=A1J.of rfl) (hd:=hd) λb=>kk b (A8.cons hE A8.nil)
theorem T.ag {α:Type} {h₀ h':PH} {st:α→Env} {Ls:α→List E5} {pre:α→PH→Prop} {μ:α→Nat} {x:α} (y:α) (hpre:pre y h') (hl:Le h₀ h':=by exact Li) (hlt:μ y<μ x:=by exact Nat.lt_succ_self _)
  (hρ:A5b ρ (st y):=by repeat' first | exact trivial | refine ⟨rfl,?_⟩ | refine A5b.app ?_ ?_) (hL:L=Ls y:=by rfl):T n D ρ h' L (C4H n D h₀ st Ls pre μ x):=T.again y hl hlt hpre hρ hL
theorem T.mt {α:Type} {h₀ h':PH} {st:α→Env} {Ls:α→List E5} {pre:α→PH→Prop} (y:α) (hpre:pre y h') (hl:Le h₀ h':=by exact Li)
  (hρ:A5b ρ (st y):=by repeat' first | exact trivial | refine ⟨rfl,?_⟩ | refine A5b.app ?_ ?_) (hL:L=Ls y:=by rfl):T n D ρ h' L (Met n D h₀ st Ls pre):=T.met y hl hpre hρ hL
end
section
variable {P:Program} {fn:Func} {n:Nat} {ρ:Env} {h₀ h:PH} {L:List E5} {R:Value→PH→List E5→Prop}
theorem T.rl {rs:List ResultVar} {vs:List Value} (hr:fn.results=rs.toArray) (hv:RVs P (XI h L) ρ rs vs) (hR:R (B6X vs) h L) (hl:Le h₀ h:=by exact Li) :
  T n [] ρ h L (bodyPost P fn (λe w'=>∃ v h' L',e=.returned v∧Le h₀ h'∧Inv w' h' L'∧R v h' L') .ret):=T.D4L hr hv hl hR
end
end Go.Sl
namespace Go.Sl
open Go
theorem E1 {β:Type} {x:Option β} {r:β} {P:Prop} (H:x=some r) (k:x=some r→P:=by
 intro H; cases H
 first | exact T.rl z (Rv z) ⟨z,z⟩ | exact T.rl z (RVs.cons (RV.tmp z) (Rv z)) ⟨z,z⟩ | exact T.rl z (RVs.cons (RV.tmp z) (RVs.cons (RV.tmp z) (Rv z))) ⟨z,z⟩):P:=k H
section
variable {ro:Option Nat} {P:Program} {n:Nat} {D:List Deferred} {ρ:Env} {h:PH} {L:List E5} {Q:Exit→Act→World→Prop}
variable {K:Act→World→Prop}
theorem Ks (k:T n D ρ h L K):T n D ρ h L (Code.skip.wr ro P (Exit.then K Q)):=T.skip (T.thN k)
end
end Go.Sl
namespace Go.Sl
open Go
instance {A:E5} {l L L':List E5} [e:Nf (l++L) L']:Nf ((A::l)++L) (A::L'):=⟨by rw [←e.eq]; rfl⟩
instance {L L':List E5} [e:Nf L L']:Nf ([]++L) L':=⟨by rw [←e.eq]; rfl⟩
class Frt (j:Nat) (L:List E5) (L':outParam (List E5)):Prop where
 p:∃ A,L[j]?=some A∧L'=A::L.eraseIdx j
instance {A:E5} {L:List E5}:Frt 0 (A::L) (A::L):=⟨A,rfl,rfl⟩
instance {A B:E5} {L L':List E5} {j:Nat} [e:Frt j L (B::L')]:Frt (j+1) (A::L) (B::A::L'):=by
 obtain ⟨C,h1,h2⟩:=e.p
 cases h2
 exact ⟨B,h1,rfl⟩
class Frs (js:List Nat) (L:List E5) (L':outParam (List E5)):Prop where
 p:∀ {n:Nat} {D:List Deferred} {ρ:Env} {h:PH} {K:Act→World→Prop},T n D ρ h L' K→T n D ρ h L K
instance {L:List E5}:Frs [] L L:=⟨id⟩
instance {j:Nat} {js:List Nat} {L L1 L2:List E5} [a:Frt j L L1] [b:Frs js L1 L2]:Frs (j::js) L L2:=⟨λk=>by
 obtain ⟨C,h1,h2⟩:=a.p
 subst h2
 exact T.front j h1 (b.p k)⟩
section
variable {ro:Option Nat} {P:Program} {n:Nat} {D:List Deferred} {ρ:Env} {h:PH} {L:List E5} {Q:Exit→Act→World→Prop} {K:Act→World→Prop}
theorem T.fs (js:List Nat) {L1 L2:List E5} [a:Nf L L1] [b:Frs js L1 L2] (k:T n D ρ h L2 K):T n D ρ h L K:=by rw [a.eq]; exact b.p k
theorem T.lk {β:Type} {c:Code} (ks:List Nat) (x₀:Nat×β) (F:Nat×β→Env×List E5×(PH→Prop)) (hp:(F x₀).2.2 h) {σ:Env}
  (round:∀ x h',Le h h'→(F x).2.2 h'→T n D ((F x).1++σ) h' (F x).2.1 (c.wr ro P (Exit.then (C4H n D h (λx=>(F x).1++σ) (λx=>(F x).2.1) (λx=>(F x).2.2) (λx=>x.1) x) Q)))
  (hσ:picks ρ ks=some σ:=by rfl) (hρ:A5b ρ (F x₀).1:=by repeat' first | exact trivial | refine ⟨rfl,?_⟩) (hL:L=(F x₀).2.1:=by rfl):T n D ρ h L ((Code.loop c).wr ro P Q):=
 T.C3f ks hσ (λx=>(F x).1) (λx=>(F x).2.1) (λx=>(F x).2.2) (λx=>x.1) x₀ hρ hL hp round
theorem T.ck {α:Type} {c:Code} (ks:List Nat) (F:α→Env×List E5×(PH→Prop)) {σ:Env}
  (k1:T n D ρ h L (c.wr ro P (Exit.then (Met n D h (λx=>(F x).1++σ) (λx=>(F x).2.1) (λx=>(F x).2.2)) Q))) (k2:∀ y h',Le h h'→(F y).2.2 h'→T n D ((F y).1++σ) h' (F y).2.1 K)
  (hσ:picks ρ ks=some σ:=by rfl):T n D ρ h L (c.wr ro P (Exit.then K Q)):=T.D4N ks hσ (λx=>(F x).1) (λx=>(F x).2.1) (λx=>(F x).2.2) k1 k2
end
section
variable {ro:Option Nat} {P:Program} {n:Nat} {D:List Deferred} {ρ:Env} {h:PH} {L:List E5} {Q:Exit→Act→World→Prop} {K:Act→World→Prop} {ty:TypeId} {pos:String} {af:Array Edge} {g:Option (Nat×Bool)}
theorem O.cs {dd:Nat} {f:FuncId} {xs:List Operand} {ts:Array TypeId} {vs:List Value} {x:Value} (s:I7 P f vs h L (λv _ L'=>v=x∧L'=L)) (k:∀ h',Le h h'→T n D ((dd,x)::ρ) h' L K)
  (e:evs ρ xs=some vs:=by rfl) (hd:Nat.blt dd n=true:=by rfl) :
  T n D ρ h L (λa w=>Oper.wr ⟨some dd,.call ⟨.value (.func f),xs.toArray,ts⟩,ty,pos,af,g⟩ ro P a w K Q):=
 O.G6 e s hd λv h' L' l r=>by obtain ⟨rfl,rfl⟩:=r; exact k h' l
variable {ops:Array Oper} {rest:List Oper} {d d':Nat} {op op':Op} {ty':TypeId} {pos':String} {af':Array Edge} {g':Option (Nat×Bool)} {v:Value} {x:Operand} {id:Nat} {y:Code}
theorem Nr (k:T n D ρ h L (Q .ret)):T n D ρ h L (lwr ro P ops (Exit.then (Code.ret.wr ro P Q) Q) []):=Nt (T.ret k)
theorem An (e:ev ρ x=some v) (k:T n D ((d,v)::ρ) h L K) (hg:gd ops ρ g=true:=by rfl) (hd:Nat.blt d n=true:=by rfl):T n D ρ h L (lwr ro P ops (Exit.then K Q) [⟨some d,.assign x,ty,pos,af,g⟩]):=Ag e (Nt k) hg hd
theorem Sm {l:List Oper} (e:ev ρ x=some v) (k:T n D ((d,v)::ρ) h L (lwr ro P ((⟨some d,.move x,ty,pos,af,g⟩::l).toArray) (Exit.then (y.wr ro P Q) Q) l)) (hg:gd ((⟨some d,.move x,ty,pos,af,g⟩::l).toArray) ρ g=true:=by rfl) (hd:Nat.blt d n=true:=by rfl) :
  T n D ρ h L ((Code.seq (Code.region id ((⟨some d,.move x,ty,pos,af,g⟩::l).toArray) false) y).wr ro P Q):=Sr (Mv e k hg hd)
theorem Sg {l:List Oper} (e:ev ρ x=some v) (k:T n D ((d,v)::ρ) h L (lwr ro P ((⟨some d,.assign x,ty,pos,af,g⟩::l).toArray) (Exit.then (y.wr ro P Q) Q) l)) (hg:gd ((⟨some d,.assign x,ty,pos,af,g⟩::l).toArray) ρ g=true:=by rfl) (hd:Nat.blt d n=true:=by rfl) :
  T n D ρ h L ((Code.seq (Code.region id ((⟨some d,.assign x,ty,pos,af,g⟩::l).toArray) false) y).wr ro P Q):=Sr (Ag e k hg hd)
theorem S2 (k:T n D ((d',undef)::(d,undef)::ρ) h L (lwr ro P ops Q rest)) (hg:gn ops ρ g=true:=by rfl) (hd:Nat.blt d n=true:=by rfl) (hg':gn ops ((d,undef)::ρ) g'=true:=by rfl) (hd':Nat.blt d' n=true:=by rfl) :
  T n D ρ h L (lwr ro P ops Q (⟨some d,op,ty,pos,af,g⟩::⟨some d',op',ty',pos',af',g'⟩::rest)):=Sk (Sk k hg' hd') hg hd
end
section
variable {ro:Option Nat} {P:Program} {n:Nat} {D:List Deferred} {ρ:Env} {h:PH} {L:List E5} {Q:Exit→Act→World→Prop} {X0 X1:World→Prop} {ph:Bool} {p i i':Nat} {r:PT}
variable {ops:Array Oper} {d d':Nat} {op op':Op} {ty ty':TypeId} {pos pos':String} {af af':Array Edge} {g g':Option (Nat×Bool)}
theorem T2 [c:CalmC Q] (ho:ops[i]?=some ⟨some d,op,ty,pos,af,g⟩) (ho':ops[i']?=some ⟨some d',op',ty',pos',af',g'⟩) (k:T n D ((d',undef)::(d,undef)::ρ) h L (wpT ro P ops p X0 X1 Q r ph))
  (hg:gn ops ρ g=true:=by rfl) (hd:Nat.blt d n=true:=by rfl) (hg':gn ops ((d,undef)::ρ) g'=true:=by rfl) (hd':Nat.blt d' n=true:=by rfl):T n D ρ h L (wpT ro P ops p X0 X1 Q (.v i (.v i' r)) ph):=Tk ho (Tk ho' k hg' hd') hg hd
end
end Go.Sl
namespace Go.Sl
open Go
theorem ev0 {d:Nat} {v:Value} {ρ:Env}:ev ((d,v)::ρ) (.tmp d)=some v:=by simp [ev,lk]
theorem BT:(∀ b,(b && true)=b)∧(∀ b,(true && b)=b)∧ones []=true∧∀ v vs,ones (v::vs)=(v.oneCell' && ones vs):=⟨Bool.and_true,Bool.true_and,rfl,λ_ _=>rfl⟩
abbrev FnW (P:Program) (f:FuncId) (args:List Value) (h:PH) (L:List E5) (x:Value):Prop:=I7 P f args h L (λv _ L'=>v=x∧L'=L)
theorem X3 {h:PH} {L As As' M M':List E5} {ph:Bool} (js ks:List Nat) (e:frs L js=some (As++M)) (e':frs L ks=some (As'++M')):∀ w,Inv w h L→SX (XA h As') (XA h As) ph w:=SX.two (XA.fr js Lr e) (XA.fr ks Lr e')
theorem X2 {h:PH} {L As As' M M':List E5} {ph:Bool} (e:frs L []=some (As++M)) (e':frs L []=some (As'++M')):∀ w,Inv w h L→SX (XA h As') (XA h As) ph w:=X3 [] [] e e'
section
variable {ro:Option Nat} {P:Program} {n:Nat} {D:List Deferred} {ρ:Env} {h:PH} {L:List E5} {Q:Exit→Act→World→Prop} {X0 X1:World→Prop} {ph:Bool} {p i i' i2:Nat} {r:PT}
variable {ops:Array Oper} {rest:List Oper} {d d' d2:Nat} {op:Op} {ty ty' ty2 t u:TypeId} {pos pos' pos2:String} {af af' af2:Array Edge} {g g' g2:Option (Nat×Bool)} {v:Value} {x y c:Operand} {s f off m:Nat} {a:Addr} {cs vs:List Value} {K:IntKind} {b b':Int}
theorem Kt (e:ev ρ x=some v) (k:T n D ((d,v)::ρ) h L (lwr ro P ops Q rest)) (hc:ev ρ c=some (.bool true):=by rfl) (hg:gd ops ρ g=true:=by rfl) (hd:Nat.blt d n=true:=by rfl):T n D ρ h L (lwr ro P ops Q (⟨some d,.pick c x y,ty,pos,af,g⟩::rest)):=Vv (V.pkT hc e) k hg hd
theorem Kf (e:ev ρ y=some v) (k:T n D ((d,v)::ρ) h L (lwr ro P ops Q rest)) (hc:ev ρ c=some (.bool false):=by rfl) (hg:gd ops ρ g=true:=by rfl) (hd:Nat.blt d n=true:=by rfl):T n D ρ h L (lwr ro P ops Q (⟨some d,.pick c x y,ty,pos,af,g⟩::rest)):=Vv (V.pkF hc e) k hg hd
theorem Wx {j:Nat} (e:ev ρ x=some (.tuple vs.toArray)) (hi:vs[j]?=some v) (k:T n D ((d,v)::ρ) h L (lwr ro P ops Q rest)) (hg:gd ops ρ g=true:=by rfl) (hd:Nat.blt d n=true:=by rfl):T n D ρ h L (lwr ro P ops Q (⟨some d,.extract x j,ty,pos,af,g⟩::rest)):=Vv (V.ext e hi) k hg hd
theorem Wl (e:ev ρ x=some (.int K b)) (e':ev ρ y=some (.int K b')) (k:T n D ((d,.bool (decide (b<b')))::ρ) h L (lwr ro P ops Q rest)) (hg:gd ops ρ g=true:=by rfl) (hd:Nat.blt d n=true:=by rfl):T n D ρ h L (lwr ro P ops Q (⟨some d,.binOp .lss t x y u,ty,pos,af,g⟩::rest)):=Vv (V.lt e e') k hg hd
theorem We (e:ev ρ x=some (.int K b)) (e':ev ρ y=some (.int K b')) (k:T n D ((d,.bool (decide (b=b')))::ρ) h L (lwr ro P ops Q rest)) (hg:gd ops ρ g=true:=by rfl) (hd:Nat.blt d n=true:=by rfl):T n D ρ h L (lwr ro P ops Q (⟨some d,.binOp .eql t x y u,ty,pos,af,g⟩::rest)):=Vv (V.eq e e') k hg hd
theorem Wn (e:ev ρ x=some (.int K b)) (e':ev ρ y=some (.int K b')) (k:T n D ((d,.bool (!decide (b=b')))::ρ) h L (lwr ro P ops Q rest)) (hg:gd ops ρ g=true:=by rfl) (hd:Nat.blt d n=true:=by rfl):T n D ρ h L (lwr ro P ops Q (⟨some d,.binOp .neq t x y u,ty,pos,af,g⟩::rest)):=Vv (V.ne e e') k hg hd
theorem Wg (e:ev ρ x=some (.int K b)) (e':ev ρ y=some (.int K b')) (k:T n D ((d,.bool (decide (b'<b)))::ρ) h L (lwr ro P ops Q rest)) (hg:gd ops ρ g=true:=by rfl) (hd:Nat.blt d n=true:=by rfl):T n D ρ h L (lwr ro P ops Q (⟨some d,.binOp .gtr t x y u,ty,pos,af,g⟩::rest)):=Vv (V.gt e e') k hg hd
theorem NF (e:ev ρ x=some (.pointer (some a))) (hf:O5 P s f=some off) (k:T n D ((d',.pointer (some (a.add off)))::(d,.pointer (some a))::ρ) h L (lwr ro P ops Q rest))
  (hg:gd ops ρ g=true:=by rfl) (hd:Nat.blt d n=true:=by rfl) (hg':gd ops ((d,.pointer (some a))::ρ) g'=true:=by rfl) (hd':Nat.blt d' n=true:=by rfl) :
  T n D ρ h L (lwr ro P ops Q (⟨some d,.nilCheck x,ty,pos,af,g⟩::⟨some d',.fieldAddr s (.tmp d) f,ty',pos',af',g'⟩::rest)):=Vv (V.nck e) (Vv (V.fa hf ev0) k hg' hd') hg hd
theorem NL (e:ev ρ x=some (.pointer (some a))) (hf:O5 P s f=some off) (ht:U1 P t=some (false,m)) (hA:Y2 h a cs) (hk:cs[off]?=some v) (k:T n D ((d2,v)::(d',.pointer (some (a.add off)))::(d,.pointer (some a))::ρ) h L (lwr ro P ops Q rest))
  (hg:gd ops ρ g=true:=by rfl) (hd:Nat.blt d n=true:=by rfl) (hg':gd ops ((d,.pointer (some a))::ρ) g'=true:=by rfl) (hd':Nat.blt d' n=true:=by rfl) (hg2:gd ops ((d',.pointer (some (a.add off)))::(d,.pointer (some a))::ρ) g2=true:=by rfl) (hd2:Nat.blt d2 n=true:=by rfl) :
  T n D ρ h L (lwr ro P ops Q (⟨some d,.nilCheck x,ty,pos,af,g⟩::⟨some d',.fieldAddr s (.tmp d) f,ty',pos',af',g'⟩::⟨some d2,.load t (.tmp d'),ty2,pos2,af2,g2⟩::rest)):=NF e hf (Vv (V.ldf ht ev0 hA hk) k hg2 hd2) hg hd hg' hd'
theorem TF [w:CalmC Q] (ho:ops[i]?=some ⟨some d,.nilCheck x,ty,pos,af,g⟩) (ho':ops[i']?=some ⟨some d',.fieldAddr s (.tmp d) f,ty',pos',af',g'⟩) (e:ev ρ x=some (.pointer (some a))) (hf:O5 P s f=some off) (k:T n D ((d',.pointer (some (a.add off)))::(d,.pointer (some a))::ρ) h L (wpT ro P ops p X0 X1 Q r ph))
  (hg:gd ops ρ g=true:=by rfl) (hd:Nat.blt d n=true:=by rfl) (hg':gd ops ((d,.pointer (some a))::ρ) g'=true:=by rfl) (hd':Nat.blt d' n=true:=by rfl):T n D ρ h L (wpT ro P ops p X0 X1 Q (.v i (.v i' r)) ph):=Tv ho (V.nck e) (Tv ho' (V.fa hf ev0) k hg' hd') hg hd
theorem TL [w:CalmC Q] [HX X1 h] (ho:ops[i]?=some ⟨some d,.nilCheck x,ty,pos,af,g⟩) (ho':ops[i']?=some ⟨some d',.fieldAddr s (.tmp d) f,ty',pos',af',g'⟩) (ho2:ops[i2]?=some ⟨some d2,.load t (.tmp d'),ty2,pos2,af2,g2⟩) (e:ev ρ x=some (.pointer (some a))) (hf:O5 P s f=some off) (ht:U1 P t=some (false,m)) (hA:Y2 h a cs) (hk:cs[off]?=some v)
  (k:T n D ((d2,v)::(d',.pointer (some (a.add off)))::(d,.pointer (some a))::ρ) h L (wpT ro P ops p X0 X1 Q r ph))
  (hg:gd ops ρ g=true:=by rfl) (hd:Nat.blt d n=true:=by rfl) (hg':gd ops ((d,.pointer (some a))::ρ) g'=true:=by rfl) (hd':Nat.blt d' n=true:=by rfl) (hg2:gd ops ((d',.pointer (some (a.add off)))::(d,.pointer (some a))::ρ) g2=true:=by rfl) (hd2:Nat.blt d2 n=true:=by rfl) :
  T n D ρ h L (wpT ro P ops p X0 X1 Q (.v i (.v i' (.v i2 r))) ph):=TF ho ho' e hf (Tv ho2 (V.ldf ht ev0 hA hk) k hg2 hd2) hg hd hg' hd'
end
end Go.Sl
namespace Go.Sl
open Go
def mks (ms:List Nat):List Deferred:=ms.map mark
def mkB (ms:List Nat):List E5:=ms.map λb=>blk b (.deferred (some []))
section
variable {ro:Option Nat} {P:Program} {n:Nat} {D:List Deferred} {ρ:Env} {h:PH} {L:List E5} {Q:Exit→Act→World→Prop}
def AgM {β:Type} (n:Nat) (D:List Deferred) (h₀:PH) (F:Nat×List Nat×β→Env×List E5×(PH→Prop)) (σ:Env) (x:Nat×List Nat×β) (a:Act) (w:World):Prop:=
 ∃ y h',y.1<x.1∧Le h₀ h'∧(F y).2.2 h'∧Fr n (mks y.2.1++D) ((F y).1++σ) a∧Inv w h' (F y).2.1
theorem T.lkM {β:Type} {c:Code} (ks:List Nat) (x₀:Nat×List Nat×β) (F:Nat×List Nat×β→Env×List E5×(PH→Prop)) (h0:x₀.2.1=[]) (hp:(F x₀).2.2 h) {σ:Env}
  (round:∀ x h',Le h h'→(F x).2.2 h'→T n (mks x.2.1++D) ((F x).1++σ) h' (F x).2.1 (c.wr ro P (Exit.then (AgM n D h F σ x) Q)))
  (hσ:picks ρ ks=some σ:=by rfl) (hρ:A5b ρ (F x₀).1:=by repeat' first | exact trivial | refine ⟨rfl,?_⟩) (hL:L=(F x₀).2.1:=by rfl):T n D ρ h L ((Code.loop c).wr ro P Q):=by
 intro a w f i
 subst hL
 have f0:Fr n (mks x₀.2.1++D) ρ a:=by rw [h0]; exact f
 refine wpIn_loop_ghost (λk a w=>∃ y h',y.1=k∧Le h h'∧(F y).2.2 h'∧Fr n (mks y.2.1++D) ((F y).1++σ) a∧Inv w h' (F y).2.1) x₀.1 ⟨x₀,h,rfl,Le.refl h,hp,f0.sub (Sub.of (hρ.app (B8l hσ))),i⟩ ?_
 rintro k a w ⟨y,h',rfl,hl,hpre,hf,hi⟩
 refine wpIn_mono (round y h' hl hpre a w hf hi) ?_
 intro e a' w' q
 cases e with
 | normal=>
  obtain ⟨z,h'',hlt,hle,hz,hfz,hiz⟩:=q
  exact ⟨z.1,hlt,z,h'',rfl,hle,hz,hfz,hiz⟩
 | exit id=>exact q
 | goto l=>exact q
 | ret=>exact q
 | panic ch=>exact q
 | outgrown=>exact q
theorem T.agM {β:Type} {h₀ h':PH} {F:Nat×List Nat×β→Env×List E5×(PH→Prop)} {σ:Env} {x:Nat×List Nat×β} {D':List Deferred} (y:Nat×List Nat×β) (hpre:(F y).2.2 h') (hl:Le h₀ h':=by exact Li) (hlt:y.1<x.1:=by exact Nat.lt_succ_self _)
  (hρ:A5b ρ ((F y).1++σ):=by repeat' first | exact trivial | refine ⟨rfl,?_⟩ | refine A5b.app ?_ ?_) (hL:L=(F y).2.1:=by rfl) (hD:D'=mks y.2.1++D:=by rfl):T n D' ρ h' L (AgM n D h₀ F σ x):=
 λ_ _ f i=>⟨y,h',hlt,hl,hpre,hD ▸ f.sub (Sub.of hρ),hL ▸ i⟩
end
section
variable {P:Program} {fn:Func} {n:Nat} {D:List Deferred} {ρ:Env} {h₀ h:PH} {L:List E5} {R:Value→PH→List E5→Prop}
theorem T.D4n {A:E5} (k:T n D ρ h (A::L) (LV P fn h₀ R)):∀ {ms:List Nat},T n (mks ms++D) ρ h (A::(mkB ms++L)) (LV P fn h₀ R)
 | []=>k
 | b::ms=>T.A7t (D:=mks ms++D) (L:=A::blk b (.deferred (some []))::(mkB ms++L)) (j:=1) rfl (T.D4n k)
end
end Go.Sl
namespace Go.Sl
open Go
section
variable {ro:Option Nat} {P:Program} {n:Nat} {D:List Deferred} {ρ:Env} {h:PH} {L:List E5} {Q:Exit→Act→World→Prop} {X0 X1:World→Prop} {ph:Bool} {p i:Nat} {r:PT}
variable {ops:Array Oper} {rest:List Oper} {d:Nat} {ty t u:TypeId} {pos:String} {af:Array Edge} {g:Option (Nat×Bool)} {v:Value} {x:Operand} {m:Nat} {a:Addr} {cs:List Value} {id:Nat} {K1 K2:Act→World→Prop}
theorem Wd (k:Nat) (ht:U1 P t=some (false,m)) (e:ev ρ x=some (.pointer (some (a.add k)))) (hA:Y2 h a cs) (hk:cs[k]?=some v) (q:T n D ((d,v)::ρ) h L (lwr ro P ops Q rest)) (hg:gd ops ρ g=true:=by rfl) (hd:Nat.blt d n=true:=by rfl):T n D ρ h L (lwr ro P ops Q (⟨some d,.load t x,ty,pos,af,g⟩::rest)):=Vv (V.ldf ht e hA hk) q hg hd
theorem Td [w:CalmC Q] [HX X1 h] (ho:ops[i]?=some ⟨some d,.load t x,ty,pos,af,g⟩) (k:Nat) (ht:U1 P t=some (false,m)) (e:ev ρ x=some (.pointer (some (a.add k)))) (hA:Y2 h a cs) (hk:cs[k]?=some v) (q:T n D ((d,v)::ρ) h L (wpT ro P ops p X0 X1 Q r ph)) (hg:gd ops ρ g=true:=by rfl) (hd:Nat.blt d n=true:=by rfl):T n D ρ h L (wpT ro P ops p X0 X1 Q (.v i r) ph):=Tv ho (V.ldf ht e hA hk) q hg hd
theorem Ws {y:Operand} {b c z:Int} (e:ev ρ x=some (.int .i64 b)) (e':ev ρ y=some (.int .i64 c)) (hz:J5 (b+c)=some z) (q:T n D ((d,.int .i64 z)::ρ) h L (lwr ro P ops Q rest)) (hg:gd ops ρ g=true:=by rfl) (hd:Nat.blt d n=true:=by rfl):T n D ρ h L (lwr ro P ops Q (⟨some d,.binOp .add t x y u,ty,pos,af,g⟩::rest)):=Vv (V.C6P e e' hz) q hg hd
theorem Xt (k:T n D ρ h L (Q (.exit id))):T n D ρ h L ((Code.exit id).wr ro P (Exit.then K1 (Exit.then K2 Q))):=T.exit (Te (Te k))
end
end Go.Sl
