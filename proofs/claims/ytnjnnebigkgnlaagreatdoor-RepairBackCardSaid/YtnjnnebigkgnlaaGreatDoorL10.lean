import Derived.Test.YtnjnnebigkgnlaaGreatDoorL9
import Derived.ChangeSame
/- A small logic for calls: what is owned, what no longer changes; rules for each operation. -/
set_option maxRecDepth 1000000
set_option maxHeartbeats 40000000
set_option linter.unusedVariables false
set_option linter.unusedSimpArgs false
set_option linter.unnecessarySimpa false
namespace Go.Sl
open Go Go.ChangeShapes
theorem C6b {w w' : World} (l : Le (hp w) (hp w')) : w.keptBut w' (fun _=>False):=by
 refine ⟨l.os,l.output,fun i hi=>?_⟩
 have h1 : w.heap[i]? = some w.heap[i]:=Array.getElem?_eq_getElem hi
 have h2 : w'.heap[i]? = some w.heap[i]:=l.get i _ h1
 rw [h1,h2]
 cases w.heap[i] with
 | cells c t fr=>exact ⟨rfl,rfl,rfl,fun _ _=>rfl⟩
 | map es c=>exact .inr ⟨rfl,rfl⟩
 | _=>rfl
theorem G8.D2W {P : Program} {f : FuncId} {args : List Value} {h : PH} {L : List E9} {R R' : Value→PH→List E9→Prop} (s : G8 P f args h L R) (q : ∀ v g M,R v g M→R' v g M) : G8 P f args h L R':=
 ⟨s.1,fun w i=>(s.2 w i).mono fun e w' ⟨v,g,M,he,l,j,r⟩=>⟨v,g,M,he,l,j,q _ _ _ r⟩⟩
end Go.Sl
namespace Go.Sl
open Go
def C8h (P : Program) (t : TypeId) : Option (List Value×Nat×Nat):=
 match zer P t,P.underlying t with
 | some z,some (.array n e)=>match P.info? e with
  | some i=>some (z.cells.toList,n,i.size)
  | none=>none
 | _,_=>none
inductive A6y (sz : Nat) : List Value→List (Nat×Value)→List Value→Prop where
 | nil {cs : List Value} : A6y sz cs [] cs
 | cons {cs ds us : List Value} {i : Nat} {v : Value} {ps : List (Nat×Value)} : v.cells = us.toArray→(Nat.beq us.length sz && Nat.ble (i * sz + us.length) cs.length) = true→A6y sz (over cs us (i * sz)) ps ds→A6y sz cs ((i,v)::ps) ds
theorem A6y.run {sz : Nat} {cs ds : List Value} {ps : List (Nat×Value)} (f : A6y sz cs ps ds) : Instr.fill (fun i=>some (i * sz,sz)) cs.toArray ps = some ds.toArray:=by
 induction f with
 | nil=>rfl
 | @cons cs ds us i v ps hv hl _ ih=>
  simp only [Bool.and_eq_true] at hl
  have h1:=Nat.eq_of_beq_eq_true hl.1
  have h2:=Nat.le_of_ble_eq_true hl.2
  simp only [Instr.fill,hv]
  rw [if_neg (by simp; omega)]
  have:=C2W us 0 (i * sz) cs (by omega)
  simp only [Nat.add_zero] at this
  rw [←ih,←this,←Array.foldl_toList]
  simp
section
variable {P : Program} {ρ : Env} {X : World→Prop} {d : Option Nat} {ty : TypeId} {pos : String} {af : Array Edge} {g : Option (Nat×Bool)}
theorem C5j {t : TypeId} {zs : List Value} {n sz : Nat} (h : C8h P t = some (zs,n,sz)) : ∃ z e,(∀ w,(zeroValue t).run P w = .ok z w)∧z.cells = zs.toArray∧(∀ w,(underlying t).run P w = .ok (.array n e) w)∧(∀ w,(sizeOf e).run P w = .ok sz w):=by
 unfold C8h at h
 split at h
 ·rename_i z n e hz hu
  split at h
  ·rename_i i hi
   cases h
   exact ⟨z,e,fun w=>A5U hz w,by simp,fun w=>run_underlying hu w,fun w=>run_sizeOf hi w⟩
  ·cases h
 ·cases h
theorem V.D2N {t : TypeId} {xs : List (Nat×Operand)} {vs : List (Nat×Value)} {zs cs : List Value} {n sz : Nat} (hb : C8h P t = some (zs,n,sz)) (e : evp ρ xs = some vs) (f : A6y sz zs vs cs) :
  Val P X ρ ⟨d,.build t xs.toArray,ty,pos,af,g⟩ (.agg cs.toArray):=fun a w _ hs=>by
 obtain ⟨z,el,h1,h2,h3,h4⟩:=C5j hb
 have he:=hs.evp e
 have hfill:=f.run
 have hp : ((xs.toArray.map fun (i,x)=>(i,a.eval x)) : Array (Nat×Value)).toList = vs:=by rw [←he]; simp
 simp only [execOp,Instr.build,Sem.run_bind,h1,h2,h3,h4,Result.andThen_ok,hp,hfill,Sem.run_pure]
theorem V.ixA {x ix : Operand} {t : TypeId} {zs : List Value} {n sz i : Nat} {k : IntKind} {p : Addr} (hb : C8h P t = some (zs,n,sz)) (e : ev ρ x = some (.pointer (some p))) (e' : ev ρ ix = some (.int k (Int.ofNat i))) (hi : Nat.blt i n = true) :
  Val P X ρ ⟨d,.indexAddr t x ix,ty,pos,af,g⟩ (.pointer (some (p.add (i * sz)))):=fun a w _ hs=>by
 obtain ⟨z,el,h1,h2,h3,h4⟩:=C5j hb
 have hi' : i < n:=Nat.le_of_ble_eq_true hi
 have hii : (0 : Int)≤Int.ofNat i∧Int.ofNat i < (n : Int):=⟨Int.natCast_nonneg i,by simpa using hi'⟩
 simp only [execOp,hs.ev e,hs.ev e',Instr.indexAt,asIntOf,asInt,Sem.run_bind,Sem.run_pure,h3,h4,Result.andThen_ok,Instr.sureAddr,if_pos hii]
 rfl
end
def emV (lo hi : Int) : Option Unit:=bif Nat.beq hi.toNat lo.toNat then some () else none
theorem C8o {lo hi : Int} {u : Unit} (h : emV lo hi = some u) : hi.toNat = lo.toNat:=by
 unfold emV at h
 cases hb : Nat.beq hi.toNat lo.toNat with
 | true=>exact Nat.eq_of_beq_eq_true hb
 | false=>simp [hb] at h
theorem C8G {c : Prop} [Decidable c] {α : Type} {u v : Option α} {r : α} (H : (bif decide c then u else v) = some r) : (c∧u = some r)∨v = some r:=by
 by_cases h : c
 ·rw [decide_eq_true h] at H; exact .inl ⟨h,H⟩
 ·rw [decide_eq_false h] at H; exact .inr H
def D1w (v : Value) (lo hi m sz : Nat) : Value:=match v with
 | .slice a _ _=>.slice (if m = lo then a else a.map (·.add (lo * sz))) (hi - lo) (m - lo)
 | v=>v
theorem D0m {lo hi : Int} {N : Nat} {css : List (List Value)} {u : Unit} (hl : css.length = N) (hb : bdV lo hi (N : Int) = some u) : 0≤hi∧hi≤(css.length : Int):=by
 have:=A1I hb; omega
theorem C8x {lo hi : Int} {N : Nat} {css : List (List Value)} {u : Unit} (hl : css.length = N) (hb : bdV lo hi (N : Int) = some u) : hi.toNat≤css.length:=by
 have:=A1I hb; omega
theorem C7Y {lo hi : Int} {N M : Nat} {a b : List (List Value)} {u : Unit} (h1 : a.length = N) (h2 : b.length = M) (h3 : b.length = a.length) (hb : bdV lo hi (N : Int) = some u) : bdV lo hi (M : Int) = some ():=by
 have e : M = N:=by omega
 rw [e]; exact hb
theorem C7L {et sz : Nat} {v : Value} {css : List (List Value)} {u : Int} (hu : 0≤u∧u≤css.length) (mm : B7v) (hh : D5 et sz v css mm) : D5 et sz (A5n v (0 : Int).toNat u.toNat sz) (css.take u.toNat) mm:=by
 obtain ⟨hw,hr⟩:=hh
 refine ⟨O4.take hw,?_⟩
 rcases hr with ⟨rfl,rfl⟩ | ⟨b,off,cap,bs,rfl,h1,hb,hsz,hel⟩
 ·left; simp at hu; obtain rfl : u = 0:=by omega
  simp [A5n]
 ·have hl : (css.take u.toNat).length = u.toNat:=by simp; omega
  by_cases h0 : cap = 0
  ·have hc0 : css = []:=by cases css with
    | nil=>rfl
    | cons c css=>simp at h1; omega
   subst hc0; simp at hu; obtain rfl : u = 0:=by omega
   subst h0
   right; exact ⟨b,off,0,bs,by simp [A5n],by simp,hb,hsz,by simp⟩
  ·right
   refine ⟨b,off,cap,bs,?_,by omega,hb,hsz,fun i w e=>hel i w ?_⟩
   ·rw [hl]; simp [A5n,h0,Addr.add]
   ·have hp : (css.take u.toNat).flatten <+: css.flatten:=by
     conv=>rhs; rw [←List.take_append_drop u.toNat css]
     rw [List.flatten_append]; exact List.prefix_append _ _
    obtain ⟨s,hs⟩:=hp
    rw [←hs,List.getElem?_append_left]
    ·exact e
    ·rcases Nat.lt_or_ge i (css.take u.toNat).flatten.length with z | z
     ·exact z
     ·simp [List.getElem?_eq_none z] at e
section
variable {ro : Option Nat} {P : Program} {n : Nat} {D : List Deferred} {ρ : Env} {h : PH} {L : List E9} {Q : Exit→Act→World→Prop} {K : Act→World→Prop} {X : World→Prop}
variable {d : Option Nat} {ty : TypeId} {pos : String} {af : Array Edge} {g : Option (Nat×Bool)}
theorem T.C6M {et sz : Nat} {v : Value} {css : List (List Value)} {u : Int} (hu : 0≤u∧u≤(css.length : Int)) (k : T n D ρ h (D5 et sz (A5n v (0 : Int).toNat u.toNat sz) (css.take u.toNat)::L) K) : T n D ρ h (D5 et sz v css::L) K:=
 fun a w f i=>k a w f (i.weak fun mm hh=>C7L hu mm hh)
theorem V.sl3 {x lo hi mx : Operand} {t et sz by_ j N : Nat} {v : Value} {css : List (List Value)} {l u m : Int} {k1 k2 k3 : IntKind} (ht : A0X P t = some (et,sz,by_)) (e : ev ρ x = some v) (hj : L[j]? = some (D5 et sz v css)) (hl : css.length = N)
  (e1 : ev ρ lo = some (.int k1 l)) (e2 : ev ρ hi = some (.int k2 u)) (e3 : ev ρ mx = some (.int k3 m)) (b1 : 0≤l∧l≤u∧u≤m) (b2 : 0≤u∧u≤m∧m≤(N : Int)) :
  Val P (XI h L) ρ ⟨d,.slice t x (some lo) (some hi) (some mx),ty,pos,af,g⟩ (D1w v l.toNat u.toNat m.toNat sz):=fun a w iv hs=>by
 obtain ⟨p,c,hv,hc⟩:=A7a (show Inv w h L from iv) hj
 subst hv
 obtain ⟨f1,f2,_⟩:=A2Q ht
 obtain ⟨l',rfl⟩ : ∃ l' : Nat,l = (l' : Int):=⟨l.toNat,by omega⟩
 obtain ⟨u',rfl⟩ : ∃ u' : Nat,u = (u' : Int):=⟨u.toNat,by omega⟩
 obtain ⟨m',rfl⟩ : ∃ m' : Nat,m = (m' : Int):=⟨m.toNat,by omega⟩
 have g1 : l'≤u':=by omega
 have g2 : u'≤m':=by omega
 have g3 : m'≤c:=by omega
 simp [execOp,hs.ev e,hs.ev e1,hs.ev e2,hs.ev e3,Instr.sliceAt,Instr.slice,f1,f2,Instr.sliceBounds,Instr.sliceBound,asIntOf,g1,g2,g3,D1w]
theorem V.D2b {x lo hi : Operand} {t et sz by_ j N q : Nat} {v : Value} {css : List (List Value)} {l u : Int} {k1 k2 : IntKind} (ht : A0X P t = some (et,sz,by_)) (e : ev ρ x = some (A5n v (0 : Int).toNat q sz)) (hj : L[j]? = some (D5 et sz v css)) (hl : css.length = N)
  (e1 : ev ρ lo = some (.int k1 l)) (e2 : ev ρ hi = some (.int k2 u)) (hb : 0≤l∧l≤u∧u≤(N : Int)) :
  Val P (XI h L) ρ ⟨d,.slice t x (some lo) (some hi) none,ty,pos,af,g⟩ (A5n v l.toNat u.toNat sz):=fun a w iv hs=>by
 obtain ⟨p,c,hv,hc⟩:=A7a (show Inv w h L from iv) hj
 subst hv
 obtain ⟨l',rfl⟩ : ∃ l' : Nat,l = (l' : Int):=⟨l.toNat,by omega⟩
 obtain ⟨u',rfl⟩ : ∃ u' : Nat,u = (u' : Int):=⟨u.toNat,by omega⟩
 have:=B9P (P:=P) (a:=(if c = 0 then p else p.map (·.add (0 * sz)))) (len:=q) (cap:=c) (lo:=l') (hi:=u') ht (by omega) (by omega) (.inr ⟨k1,rfl⟩) (.inr ⟨k2,rfl⟩) w
 have e0 : a.eval x = .slice (if c = 0 then p else p.map (·.add (0 * sz))) q c:=by rw [hs.ev e]; simp [A5n]
 have h0 : (if c = 0 then p else p.map (·.add (0 * sz))) = p:=by
  split
  ·rfl
  ·cases p <;> simp [Addr.add]
 rw [h0] at this e0
 simp only [execOp,e0,hs.ev e1,hs.ev e2,Option.map_some,Option.map_none]
 simp [this,A5n]
theorem V.apE {x y : Operand} {t u et sz by_ et' sz' by' j lo hi lo' hi' : Nat} {v zv : Value} {css : List (List Value)} (ht : A0X P t = some (et,sz,by_)) (hu : A0X P u = some (et',sz',by')) (hz : zer P et = some zv) (e : ev ρ x = some (A5n v lo hi sz)) (e' : ev ρ y = some (A5n v lo' hi' sz)) (hj : L[j]? = some (D5 et sz v css)) (hb : hi' = lo') (hh : hi≤css.length) :
  Val P (XI h L) ρ ⟨d,.call ⟨.builtin .append,#[x,y],#[t,u]⟩,ty,pos,af,g⟩ (A5n v lo hi sz):=fun a w iv hs=>by
 obtain ⟨p,c,hv,hc⟩:=A7a (show Inv w h L from iv) hj
 subst hv
 obtain ⟨f1,f2,_⟩:=A2Q ht
 obtain ⟨g1,_,_⟩:=A2Q hu
 subst hb
 have h1 : hi - lo≤c - lo:=by omega
 have h2 : a.eval y = .slice (if c = hi' then p else p.map (·.add (hi' * sz))) 0 (c - hi'):=by rw [hs.ev e']; simp [A5n]
 have h3 : a.eval x = .slice (if c = lo then p else p.map (·.add (lo * sz))) (hi - lo) (c - lo):=by rw [hs.ev e]; rfl
 have h4 : ∀ q : Option Addr,(Builtin.firstCells sz 0 (.slice q 0 (c - hi'))).run P w = .ok #[] w:=fun q=>by
  cases q <;> simp [Builtin.firstCells,loadCells,loadCellsFrom]
 have hne : (P.underlying u) = some (.slice et'):=by
  unfold A0X at hu
  cases hq : P.underlying u with
  | none=>simp [hq] at hu
  | some q=>cases q <;> simp [hq] at hu; rename_i e'; cases hi : P.info? e' <;> simp [hi] at hu; obtain ⟨rfl,_⟩:=hu; rfl
 simp only [execOp,resolve,invoke,builtin,Builtin.append_]
 simp [h2,h3,f1,f2,g1,Builtin.lenOf,h4,h1,A5n]
 cases (if c = lo then p else p.map (·.add (lo * sz))) <;> simp [storeCells]
end
theorem Yld.two {P : Program} {f : FuncId} {us vs cs : List Value} {h : PH} {A B : E9} {u : Value} {R : List E9→Value→PH→List E9→Prop} {S : PH→List E9→Prop} (s : ∀ L,G8 P f (us ++ vs ++ cs) h (A::B::L) (R L))
  (k : ∀ L v h' L',R L v h' L'→v = u∧∃ A' B',L' = A'::B'::L∧S h' [A',B']) (As L : List E9) :
  Yld P (.func (.func f) us.toArray cs.toArray) vs h (As ++ ([A,B] ++ L)) fun v h' L'=>∃ La,v = u∧L' = As ++ (La ++ L)∧S h' La:=
 Yld.fn (G8.perm (List.perm_append_comm_assoc [A,B] As L) (s (As ++ L)) fun v h' L' r=>by
  obtain ⟨rfl,A',B',rfl,q⟩:=k _ _ _ _ r
  exact ⟨_,List.perm_append_comm_assoc [A',B'] As L,[A',B'],rfl,rfl,q⟩)
theorem C7s {sz m : Nat} {zs : List Value} (h0 : zs.length = sz) (h1 : 0 < sz) : (Builtin.zeroCells zs.toArray m).toList = (List.replicate m zs).flatten:=by
 have hl : ((List.replicate m zs).flatten).length = m * sz:=by simp [h0]
 unfold Builtin.zeroCells
 apply List.ext_getElem?
 intro i
 rcases Nat.lt_or_ge i (m * sz) with hi | hi
 ·have e1 : ((Array.range (m * zs.toArray.size)).map fun i=>zs.toArray[i % zs.toArray.size]!).toList[i]? = zs[i % sz]?:=by
   have hlt : i % sz < zs.length:=by rw [h0]; exact Nat.mod_lt _ h1
   have e2 : zs.toArray[i % sz]! = zs[i % sz]'hlt:=by simp [hlt]
   rw [List.getElem?_eq_getElem hlt,←e2]
   simp [h0,hi]
  rw [e1]
  clear e1 hl
  induction m generalizing i with
  | zero=>simp at hi
  | succ m ih=>
   rw [List.replicate_succ,List.flatten_cons]
   rcases Nat.lt_or_ge i sz with h | h
   ·rw [List.getElem?_append_left (by omega),Nat.mod_eq_of_lt h]
   ·rw [List.getElem?_append_right (by omega),h0]
    have hm : i - sz < m * sz:=by rw [Nat.succ_mul] at hi; omega
    rw [←ih (i - sz) hm,Nat.mod_eq_sub_mod h]
 ·rw [List.getElem?_eq_none (by simp [h0]; exact hi),List.getElem?_eq_none (by rw [hl]; exact hi)]
theorem C2J : ∀ {zs : List Value},ones zs = true→∀ u ∈ zs,u.oneCell' = true
 | [],_,u,hu=>by cases hu
 | c::q,h,u,hu=>by
  simp only [ones,Bool.and_eq_true] at h
  rcases List.mem_cons.1 hu with rfl | hu
  ·exact h.1
  ·exact C2J h.2 u hu
def DX (v : Value) (lo m sz : Nat) (dv : Value) : Prop:=∃ a c,dv = .slice a m c∧(0 < m→∃ b off len cap,v = .slice (some ⟨b,off,none⟩) len cap∧a = some ⟨b,off + lo * sz,none⟩)
theorem DX.B8I {L : List E9} {h : PH} {w : World} {j E N sz : Nat} {v : Value} {css : List (List Value)} {lo hi : Int} (iv : Inv w h L) (hj : L[j]? = some (D5 E sz v css)) (hl : css.length = N) (hb : 0≤lo∧lo≤hi∧hi≤(N : Int)) : DX v lo.toNat (hi.toNat - lo.toNat) sz (A5n v lo.toNat hi.toNat sz):=by
 subst hl
 obtain ⟨_,hr⟩:=iv.row hj
 rcases hr with ⟨rfl,rfl⟩ | ⟨b,off,cap,bs,rfl,h1,_⟩
 ·simp at hb; obtain ⟨rfl,rfl⟩ : lo = 0∧hi = 0:=by omega
  exact ⟨none,0,rfl,fun h0=>by simp at h0⟩
 ·refine ⟨_,_,rfl,fun h0=>⟨b,off,_,_,rfl,?_⟩⟩
  have : ¬ (cap = lo.toNat):=by omega
  simp only [if_neg this,Option.map_some,A0L _ _ (show (⟨b,off,none⟩ : Addr).spot = none from rfl)]
theorem C9g {css : List (List Value)} {vs : List Value} {ds : List (List Value)} {bs : Array Value} {sz off lo m : Nat} (hw : O4 sz css) (hd : ds.flatten = vs) (hn : vs.length = m * sz) (hdl : ds.length = m) (hm : lo + m≤css.length) (hs : off + css.length * sz≤bs.size)
  (hel : ∀ i u,css.flatten[i]? = some u→bs[off + i]? = some u) : ∀ i u,(A2E css lo ds).flatten[i]? = some u→(over bs.toList vs (off + lo * sz)).toArray[off + i]? = some u:=by
 intro i u e
 have l1 : (css.take lo).flatten.length = lo * sz:=by rw [A1M (O4.take hw)]; simp only [List.length_take]; rw [Nat.min_eq_left (by omega)]
 have l2 : ((css.drop lo).take m).flatten.length = m * sz:=by rw [A1M (O4.take (O4.drop hw))]; simp only [List.length_take,List.length_drop]; rw [Nat.min_eq_left (by omega)]
 have hc : css.flatten = (css.take lo).flatten ++ (((css.drop lo).take m).flatten ++ (css.drop (lo + m)).flatten):=by
  rw [←List.flatten_append,←List.flatten_append,←List.drop_drop,List.take_append_drop,List.take_append_drop]
 have hp : (A2E css lo ds).flatten = (css.take lo).flatten ++ (vs ++ (css.drop (lo + m)).flatten):=by
  unfold A2E; rw [hdl,List.flatten_append,List.flatten_append,hd,List.append_assoc]
 have hmul : lo * sz + m * sz≤css.length * sz:=by rw [←Nat.add_mul]; exact Nat.mul_le_mul_right _ hm
 have hbl : bs.toList.length = bs.size:=by simp
 rw [hp] at e
 unfold over
 rw [List.getElem?_toArray]
 have lt : (bs.toList.take (off + lo * sz)).length = off + lo * sz:=by simp; omega
 rcases Nat.lt_or_ge i (lo * sz) with h | h
 ·rw [List.getElem?_append_left (by omega)] at e
  have q : css.flatten[i]? = some u:=by rw [hc,List.getElem?_append_left (by omega)]; exact e
  rw [List.append_assoc,List.getElem?_append_left (by omega),List.getElem?_take,if_pos (by omega)]
  simpa using hel i u q
 ·rw [List.getElem?_append_right (by omega),l1] at e
  rw [List.append_assoc,List.getElem?_append_right (by omega),lt]
  have ex : off + i - (off + lo * sz) = i - lo * sz:=by omega
  rw [ex]
  rcases Nat.lt_or_ge (i - lo * sz) (m * sz) with h2 | h2
  ·rw [List.getElem?_append_left (by omega)] at e ⊢; exact e
  ·rw [List.getElem?_append_right (by omega)] at e ⊢
   have q : css.flatten[i]? = some u:=by
    rw [hc,List.getElem?_append_right (by omega),l1,List.getElem?_append_right (by omega),l2,←hn]; exact e
   rw [List.getElem?_drop]
   have ey : off + lo * sz + vs.length + (i - lo * sz - vs.length) = off + i:=by omega
   rw [ey]; simpa using hel i u q
section
variable {ro : Option Nat} {P : Program} {n : Nat} {D : List Deferred} {ρ : Env} {h : PH} {L : List E9} {Q : Exit→Act→World→Prop} {K : Act→World→Prop}
variable {ty : TypeId} {pos : String} {af : Array Edge} {g : Option (Nat×Bool)}
theorem O.D0G {x : Operand} {t et sz by_ j lo m : Nat} {v dv z : Value} {zs : List Value} {css : List (List Value)} (ht : A0X P t = some (et,sz,by_)) (hz : zer P et = some z) (hz1 : z.cells = zs.toArray) (hz2 : (ones zs && Nat.beq zs.length sz && Nat.blt 0 sz) = true) (e : ev ρ x = some dv) (hj : L[j]? = some (D5 et sz v css))
  (hd1 : ∀ w,Inv w h L→DX v lo m sz dv) (hm : lo + m≤css.length)
  (kk : T n D ρ h (D5 et sz v (A2E css lo (List.replicate m zs))::L.eraseIdx j) K) :
  T n D ρ h L (fun a w=>Oper.wr ⟨none,.call ⟨.builtin .clear,#[x],#[t]⟩,ty,pos,af,g⟩ ro P a w K Q):=fun a w f iv=>by
 obtain ⟨e1,e2,e3⟩:=A2Q ht
 obtain ⟨ba,c,rfl,hne⟩:=hd1 w iv
 have iv1:=iv.front hj
 simp only [Bool.and_eq_true] at hz2
 have hzl:=Nat.eq_of_beq_eq_true hz2.1.2
 have hz0 : 0 < sz:=Nat.le_of_ble_eq_true hz2.2
 have key : ∃ w',(execOp a.eval ⟨none,.call ⟨.builtin .clear,#[x],#[t]⟩,ty,pos,af,g⟩).run P w = .ok (.value (.tuple #[])) w'∧Inv w' h (D5 et sz v (A2E css lo (List.replicate m zs))::L.eraseIdx j):=by
  by_cases h0 : 0 < m
  ·obtain ⟨b,off,len,cap,rfl,rfl⟩:=hne h0
   obtain ⟨m',rfl⟩ : ∃ k,m = k + 1:=⟨m - 1,by omega⟩
   obtain ⟨mm,ia,il,id,m1,m2,d',l1,l2,hrow,s⟩:=iv1
   obtain ⟨hw,hr⟩:=hrow
   rcases hr with ⟨hv,rfl⟩ | ⟨b',off',cap',bs,hv,h1,hb,hsz,hel⟩
   ·simp at hm
   ·simp at hv; obtain ⟨⟨rfl,rfl⟩,rfl,rfl⟩:=hv
    have hwb : w.heap[b]? = some (.cells bs.toList.toArray et (0,0)):=by rw [Array.toArray_toList]; exact il b _ (l1 b _ hb)
    have hvl : ((List.replicate (m' + 1) zs).flatten).length = (m' + 1) * sz:=by simp [hzl]
    have hmul : (lo + (m' + 1)) * sz≤cap * sz:=Nat.mul_le_mul_right _ (by omega)
    have hmul2 : css.length * sz≤cap * sz:=Nat.mul_le_mul_right _ h1
    rw [Nat.add_mul] at hmul
    obtain ⟨w',r1,r2,r3,r4,r5,r6⟩:=A8x (P:=P) (b:=b) (el:=et) ((List.replicate (m' + 1) zs).flatten) 0 bs.toList w (off + lo * sz) (by
     intro u hu
     simp only [List.mem_flatten,List.mem_replicate] at hu
     obtain ⟨q,⟨_,hq⟩,hu⟩:=hu
     exact C2J hz2.1.1 u (hq ▸ hu)) hwb (by simp only [Nat.add_zero,hvl,Array.length_toList]; omega)
    refine ⟨w',?_,?_⟩
    ·have hc:=C7s (m:=m' + 1) hzl hz0
     simp [execOp,resolve,invoke,builtin,f.has.ev e,Builtin.clear_,e1,A5U hz,hz1,hc,r1]
    ·have iv2 : Inv w h (blk b (.cells bs et (0,0))::L.eraseIdx j):=⟨mm,ia,il,id,m1,m2,d',l1,l2,hb,s⟩
     have iv3 : Inv w' h (blk b (.cells (over bs.toList ((List.replicate (m' + 1) zs).flatten) (off + lo * sz)).toArray et (0,0))::L.eraseIdx j):=iv2.set (by simpa using r2) r3 r4 r5 r6
     refine iv3.weak fun q hq=>⟨?_,.inr ⟨b,off,cap,_,?_,?_,hq,?_,?_⟩⟩
     ·intro c hc
      unfold A2E at hc
      simp only [List.mem_append] at hc
      rcases hc with (hc | hc) | hc
      ·exact hw c (List.mem_of_mem_take hc)
      ·rw [(List.mem_replicate.1 hc).2]; exact hzl
      ·exact hw c (List.mem_of_mem_drop hc)
     ·rw [B2K (by simpa using hm)]
     ·rw [B2K (by simpa using hm)]; exact h1
     ·simp [over,hvl]; omega
     ·exact C9g hw rfl hvl (by simp) hm (by omega) hel
  ·have hm0 : m = 0:=by omega
   subst hm0
   refine ⟨w,?_,by simpa [B6q] using iv1⟩
   cases ba <;> simp [execOp,resolve,invoke,builtin,f.has.ev e,Builtin.clear_,e1]
 obtain ⟨w',r1,r2⟩:=key
 exact A0T r1 (kk _ w' f r2)
end
theorem A7.D2Z {α : Type} {E : Vr α} {h : PH} {css : List (List Value)} {xs zs : List α} {lo m : Nat} {z : α} {c : List Value} (f : A7 E h css xs) (hz : E h c z) (hm : lo + m≤css.length) (e : some (A2E xs lo (List.replicate m z)) = some zs) : A7 E h (A2E css lo (List.replicate m c)) zs:=by
 cases e
 refine A7.put f ⟨by simp,fun i x e=>?_⟩ (by have:=f.len; omega)
 rw [List.getElem?_replicate] at e
 split at e
 ·rename_i hi; cases e; exact ⟨c,by rw [List.getElem?_replicate,if_pos hi],hz⟩
 ·cases e
end Go.Sl
namespace Go.Sl
open Go
class LeI (a b : PH) : Prop where
 le : Le a b
instance (priority:=high) LeI.refl {a : PH} : LeI a a:=⟨Le.refl a⟩
instance LeI.step {a b c : PH} [l : Le b c] [i : LeI a b] : LeI a c:=⟨i.le.trans l⟩
theorem Li {a b : PH} [i : LeI a b] : Le a b:=i.le
class MonoC {α : Type} (E : Vr α) : Prop where
 m : A0Y E
instance {k : IntKind} : MonoC (VI k):=⟨VI.mono⟩
instance : MonoC VB:=⟨VB.mono⟩
instance : MonoC VS:=⟨VS.mono⟩
instance : MonoC VFn:=⟨VFn.mono⟩
instance {α : Type} {E : Vr α} {sz : Nat} [m : MonoC E] : MonoC (VSl E sz):=⟨VSl.mono m.m⟩
instance {α : Type} {E : Vr α} [m : MonoC E] : MonoC (VPt E):=⟨VPt.mono m.m⟩
section
variable {α : Type} {E : Vr α} {h g : PH} [m : MonoC E] [l : LeI h g]
theorem G6.u {sz : Nat} {v : Value} {xs : List α} (f : G6 E sz h v xs) : G6 E sz g v xs:=f.mono m.m l.le
theorem A7.u {css : List (List Value)} {xs : List α} (f : A7 E h css xs) : A7 E g css xs:=f.mono m.m l.le
theorem Pt.u {v : Value} {x : α} (f : Pt E h v x) : Pt E g v x:=f.mono m.m l.le
theorem OPt.u {v : Value} {x : Option α} (f : OPt E h v x) : OPt E g v x:=f.mono m.m l.le
end
section
variable {κ α : Type} [DecidableEq κ] {ek : κ→Value} {agg : Bool} {E : Vr α} {h g : PH} [m : MonoC E] [l : LeI h g]
omit [DecidableEq κ] in
theorem Mp.u {v : Value} {x : List (κ×α)} (f : Mp ek agg E h v x) : Mp ek agg E g v x:=f.mono m.m l.le
omit [DecidableEq κ] in
theorem A0v.u {n : Nat} {es : List MapEntry} {x : List (κ×α)} (f : A0v ek agg E h n es x) : A0v ek agg E g n es x:=A0v.mono m.m l.le f
omit [DecidableEq κ] in
omit [DecidableEq κ] in
instance : MonoC (VMp ek agg E):=⟨VMp.mono m.m⟩
end
theorem AtC.u {h g : PH} {p : Addr} {cs : List Value} [l : LeI h g] (a : AtC h p cs) : AtC g p cs:=a.mono l.le
end Go.Sl
