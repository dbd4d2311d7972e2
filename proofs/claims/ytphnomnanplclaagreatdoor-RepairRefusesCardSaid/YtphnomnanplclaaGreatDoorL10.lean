import Derived.Test.YtphnomnanplclaaGreatDoorL9
import Derived.ChangeSame
/- A small logic for calls: what is owned, what no longer changes; rules for each operation. -/
set_option maxRecDepth 1000000
set_option maxHeartbeats 40000000
set_option linter.unusedVariables false
set_option linter.unusedSimpArgs false
set_option linter.unnecessarySimpa false
namespace Go.Sl
open Go Go.ChangeShapes
theorem C3S {w w' : World} (l : Le (hp w) (hp w')) : w.keptBut w' (fun _=>False):=by
  refine ⟨l.os,l.output,fun i hi=>?_⟩
  have h1 : w.heap[i]? = some w.heap[i]:=Array.getElem?_eq_getElem hi
  have h2 : w'.heap[i]? = some w.heap[i]:=l.get i _ h1
  rw [h1,h2]
  cases w.heap[i] with
  | cells c t fr=>exact ⟨rfl,rfl,rfl,fun _ _=>rfl⟩
  | map es c=>exact .inr ⟨rfl,rfl⟩
  | _=>rfl
theorem H5.C8y {P : Program} {f : FuncId} {args : List Value} {h : PH} {L : List E9} {R R' : Value→PH→List E9→Prop} (s : H5 P f args h L R) (q : ∀ v g M,R v g M→R' v g M) : H5 P f args h L R':=
  ⟨s.1,fun w i=>(s.2 w i).mono fun e w' ⟨v,g,M,he,l,j,r⟩=>⟨v,g,M,he,l,j,q _ _ _ r⟩⟩
end Go.Sl
namespace Go.Sl
open Go
def C5R (P : Program) (t : TypeId) : Option (List Value×Nat×Nat):=
  match zer P t,P.underlying t with
  | some z,some (.array n e)=>match P.info? e with
    | some i=>some (z.cells.toList,n,i.size)
    | none=>none
  | _,_=>none
inductive A4Q (sz : Nat) : List Value→List (Nat×Value)→List Value→Prop where
  | nil {cs : List Value} : A4Q sz cs [] cs
  | cons {cs ds us : List Value} {i : Nat} {v : Value} {ps : List (Nat×Value)} : v.cells = us.toArray→(Nat.beq us.length sz && Nat.ble (i * sz + us.length) cs.length) = true→A4Q sz (over cs us (i * sz)) ps ds→A4Q sz cs ((i,v)::ps) ds
theorem A4Q.run {sz : Nat} {cs ds : List Value} {ps : List (Nat×Value)} (f : A4Q sz cs ps ds) : Instr.fill (fun i=>some (i * sz,sz)) cs.toArray ps = some ds.toArray:=by
  induction f with
  | nil=>rfl
  | @cons cs ds us i v ps hv hl _ ih=>
    simp only [Bool.and_eq_true] at hl
    have h1:=Nat.eq_of_beq_eq_true hl.1
    have h2:=Nat.le_of_ble_eq_true hl.2
    simp only [Instr.fill,hv]
    rw [if_neg (by simp; omega)]
    have:=C0L us 0 (i * sz) cs (by omega)
    simp only [Nat.add_zero] at this
    rw [←ih,←this,←Array.foldl_toList]
    simp
section
variable {P : Program} {ρ : Env} {X : World→Prop} {d : Option Nat} {ty : TypeId} {pos : String} {af : Array Edge} {g : Option (Nat×Bool)}
theorem C2N {t : TypeId} {zs : List Value} {n sz : Nat} (h : C5R P t = some (zs,n,sz)) : ∃ z e,(∀ w,(zeroValue t).run P w = .ok z w)∧z.cells = zs.toArray∧(∀ w,(underlying t).run P w = .ok (.array n e) w)∧(∀ w,(sizeOf e).run P w = .ok sz w):=by
  unfold C5R at h
  split at h
  · rename_i z n e hz hu
    split at h
    · rename_i i hi
      cases h
      exact ⟨z,e,fun w=>A5t hz w,by simp,fun w=>run_underlying hu w,fun w=>run_sizeOf hi w⟩
    · cases h
  · cases h
theorem V.C8O {t : TypeId} {xs : List (Nat×Operand)} {vs : List (Nat×Value)} {zs cs : List Value} {n sz : Nat} (hb : C5R P t = some (zs,n,sz)) (e : evp ρ xs = some vs) (f : A4Q sz zs vs cs) :
    Val P X ρ ⟨d,.build t xs.toArray,ty,pos,af,g⟩ (.agg cs.toArray):=fun a w _ hs=>by
  obtain ⟨z,el,h1,h2,h3,h4⟩:=C2N hb
  have he:=hs.evp e
  have hfill:=f.run
  have hp : ((xs.toArray.map fun (i,x)=>(i,a.eval x)) : Array (Nat×Value)).toList = vs:=by rw [←he]; simp
  simp only [execOp,Instr.build,Sem.run_bind,h1,h2,h3,h4,Result.andThen_ok,hp,hfill,Sem.run_pure]
theorem V.ixA {x ix : Operand} {t : TypeId} {zs : List Value} {n sz i : Nat} {k : IntKind} {p : Addr} (hb : C5R P t = some (zs,n,sz)) (e : ev ρ x = some (.pointer (some p))) (e' : ev ρ ix = some (.int k (Int.ofNat i))) (hi : Nat.blt i n = true) :
    Val P X ρ ⟨d,.indexAddr t x ix,ty,pos,af,g⟩ (.pointer (some (p.add (i * sz)))):=fun a w _ hs=>by
  obtain ⟨z,el,h1,h2,h3,h4⟩:=C2N hb
  have hi' : i < n:=Nat.le_of_ble_eq_true hi
  have hii : (0 : Int)≤Int.ofNat i∧Int.ofNat i < (n : Int):=⟨Int.natCast_nonneg i,by simpa using hi'⟩
  simp only [execOp,hs.ev e,hs.ev e',Instr.indexAt,asIntOf,asInt,Sem.run_bind,Sem.run_pure,h3,h4,Result.andThen_ok,Instr.sureAddr,if_pos hii]
  rfl
end
theorem C7b {c : Prop} [Decidable c] {α : Type} {u v : Option α} {r : α} (H : (bif decide c then u else v) = some r) : (c∧u = some r)∨v = some r:=by
  by_cases h : c
  · rw [decide_eq_true h] at H; exact .inl ⟨h,H⟩
  · rw [decide_eq_false h] at H; exact .inr H
section
variable {ro : Option Nat} {P : Program} {n : Nat} {D : List Deferred} {ρ : Env} {h : PH} {L : List E9} {Q : Exit→Act→World→Prop} {K : Act→World→Prop} {X : World→Prop}
variable {d : Option Nat} {ty : TypeId} {pos : String} {af : Array Edge} {g : Option (Nat×Bool)}
end
theorem Yld.two {P : Program} {f : FuncId} {us vs cs : List Value} {h : PH} {A B : E9} {u : Value} {R : List E9→Value→PH→List E9→Prop} {S : PH→List E9→Prop} (s : ∀ L,H5 P f (us ++ vs ++ cs) h (A::B::L) (R L))
    (k : ∀ L v h' L',R L v h' L'→v = u∧∃ A' B',L' = A'::B'::L∧S h' [A',B']) (As L : List E9) :
    Yld P (.func (.func f) us.toArray cs.toArray) vs h (As ++ ([A,B] ++ L)) fun v h' L'=>∃ La,v = u∧L' = As ++ (La ++ L)∧S h' La:=
  Yld.fn (H5.perm (List.perm_append_comm_assoc [A,B] As L) (s (As ++ L)) fun v h' L' r=>by
    obtain ⟨rfl,A',B',rfl,q⟩:=k _ _ _ _ r
    exact ⟨_,List.perm_append_comm_assoc [A',B'] As L,[A',B'],rfl,rfl,q⟩)
def DX (v : Value) (lo m sz : Nat) (dv : Value) : Prop:=∃ a c,dv = .slice a m c∧(0 < m→∃ b off len cap,v = .slice (some ⟨b,off,none⟩) len cap∧a = some ⟨b,off + lo * sz,none⟩)
theorem DX.C2Y {L : List E9} {h : PH} {w : World} {j E N sz : Nat} {v : Value} {css : List (List Value)} {lo hi : Int} (iv : Inv w h L) (hj : L[j]? = some (D8 E sz v css)) (hl : css.length = N) (hb : 0≤lo∧lo≤hi∧hi≤(N : Int)) : DX v lo.toNat (hi.toNat - lo.toNat) sz (B0G v lo.toNat hi.toNat sz):=by
  subst hl
  obtain ⟨_,hr⟩:=iv.row hj
  rcases hr with ⟨rfl,rfl⟩ | ⟨b,off,cap,bs,rfl,h1,_⟩
  · simp at hb; obtain ⟨rfl,rfl⟩ : lo = 0∧hi = 0:=by omega
    exact ⟨none,0,rfl,fun h0=>by simp at h0⟩
  · refine ⟨_,_,rfl,fun h0=>⟨b,off,_,_,rfl,?_⟩⟩
    have : ¬ (cap = lo.toNat):=by omega
    simp only [if_neg this,Option.map_some,A0E _ _ (show (⟨b,off,none⟩ : Addr).spot = none from rfl)]
section
variable {ro : Option Nat} {P : Program} {n : Nat} {D : List Deferred} {ρ : Env} {h : PH} {L : List E9} {Q : Exit→Act→World→Prop} {K : Act→World→Prop}
variable {ty : TypeId} {pos : String} {af : Array Edge} {g : Option (Nat×Bool)}
end
end Go.Sl
namespace Go.Sl
open Go
class LeI (a b : PH) : Prop where
  le : Le a b
instance (priority:=high) LeI.refl {a : PH} : LeI a a:=⟨Le.refl a⟩
instance LeI.step {a b c : PH} [l : Le b c] [i : LeI a b] : LeI a c:=⟨i.le.trans l⟩
theorem Li {a b : PH} [i : LeI a b] : Le a b:=i.le
class MonoC {α : Type} (E : Vr α) : Prop where
  m : A0R E
instance {k : IntKind} : MonoC (VI k):=⟨VI.mono⟩
instance : MonoC VB:=⟨VB.mono⟩
instance : MonoC VS:=⟨VS.mono⟩
instance : MonoC VFn:=⟨VFn.mono⟩
instance {α : Type} {E : Vr α} {sz : Nat} [m : MonoC E] : MonoC (VSl E sz):=⟨VSl.mono m.m⟩
instance {α : Type} {E : Vr α} [m : MonoC E] : MonoC (VPt E):=⟨VPt.mono m.m⟩
section
variable {α : Type} {E : Vr α} {h g : PH} [m : MonoC E] [l : LeI h g]
theorem G9.u {sz : Nat} {v : Value} {xs : List α} (f : G9 E sz h v xs) : G9 E sz g v xs:=f.mono m.m l.le
theorem A7.u {css : List (List Value)} {xs : List α} (f : A7 E h css xs) : A7 E g css xs:=f.mono m.m l.le
theorem Pt.u {v : Value} {x : α} (f : Pt E h v x) : Pt E g v x:=f.mono m.m l.le
theorem OPt.u {v : Value} {x : Option α} (f : OPt E h v x) : OPt E g v x:=f.mono m.m l.le
end
section
variable {κ α : Type} [DecidableEq κ] {ek : κ→Value} {agg : Bool} {E : Vr α} {h g : PH} [m : MonoC E] [l : LeI h g]
omit [DecidableEq κ] in
theorem Mp.u {v : Value} {x : List (κ×α)} (f : Mp ek agg E h v x) : Mp ek agg E g v x:=f.mono m.m l.le
omit [DecidableEq κ] in
theorem Z6.u {n : Nat} {es : List MapEntry} {x : List (κ×α)} (f : Z6 ek agg E h n es x) : Z6 ek agg E g n es x:=Z6.mono m.m l.le f
omit [DecidableEq κ] in
theorem Lf.u {es : List MapEntry} {seen : Array Nat} {todo : List (κ×α)} (f : Lf ek agg E h es seen todo) : Lf ek agg E g es seen todo:=f.mono m.m l.le
omit [DecidableEq κ] in
instance : MonoC (VMp ek agg E):=⟨VMp.mono m.m⟩
end
theorem AtC.u {h g : PH} {p : Addr} {cs : List Value} [l : LeI h g] (a : AtC h p cs) : AtC g p cs:=a.mono l.le
theorem LkH.u {P : Program} {t : TypeId} {v key u u' : Value} {h g : PH} [l : LeI h g] (q : LkH P t v key u u' h) : LkH P t v key u u' g:=q.mono l.le
end Go.Sl
