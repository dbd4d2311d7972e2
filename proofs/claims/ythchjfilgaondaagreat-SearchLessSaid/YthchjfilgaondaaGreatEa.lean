import Derived.Test.YthchjfilgaondaaGreatL8
import Derived.Test.YthchjfilgaondaaGreatDa
import Derived.KernelRfl
/- The closed function, evaluated by the kernel. -/
set_option maxRecDepth 1000000
set_option maxHeartbeats 40000000
set_option linter.unusedVariables false
set_option linter.unusedSimpArgs false
set_option linter.unnecessarySimpa false
namespace Go.Pl
open Go Go.Sl
theorem Oz {α β:Type} (a:α) (f:α→Option β):Option.bind (some a) f = f a:=rfl
theorem Dt {p:Prop} [Decidable p] (e:p):decide p = true:=decide_eq_true e
theorem Df {p:Prop} [Decidable p] (e:¬p):decide p = false:=decide_eq_false e
theorem Cy {α:Type} (a b:α):cond true a b = a:=rfl
theorem Cn {α:Type} (a b:α):cond false a b = b:=rfl
theorem Lg {α:Type} {l:List α} {i:Nat} (h:i<l.length):l[i]? = some l[i]:=List.getElem?_eq_getElem h
theorem Zn {a:Int} (h:0≤a):∃ n:Nat,a = n:=Int.eq_ofNat_of_zero_le h
theorem Cd {α:Type} (p:Prop) [Decidable p] (t e:α):cond (decide p) t e = if p then t else e:=Bool.cond_decide p t e
theorem A0N {x:Int} (h:-9223372036854775808≤x) (h':x≤9223372036854775807):J8 x=some x:=by
 unfold J8
 cases x with
 | ofNat n=>
  have:Nat.ble n 9223372036854775807=true:=Nat.ble_eq_true_of_le (by simp at h'; omega)
  simp [this]
 | negSucc n=>
  have:Nat.ble n 9223372036854775807=true:=Nat.ble_eq_true_of_le (by omega)
  simp [this]
theorem I4 {n:Nat} (h:n < 9223372036854775807):J8 ((n:Int) + 1)=some ((n + 1:Nat):Int):=by
 rw [A0N (by omega) (by omega)]; rfl
theorem K9 {α:Type} {xs:List α} {n:Nat} {x:α} (h:xs[n]?=some x):H5 xs (n:Int)=some x:=h
theorem X8 {α:Type} {xs:List α} {n:Nat} (h:n < xs.length):H5 xs (n:Int)=some xs[n]:=by
 rw [K9 (Lg h)]
theorem Q6 {α:Type} {xs:List α} {n:Nat} {x:α} (h:xs[n]?=some x):n < xs.length:=by
 obtain ⟨h,_⟩:=List.getElem?_eq_some_iff.1 h; exact h
theorem D2A {α:Type} {b:Bool} {x y:α} (h:b=true):(bif b then x else y)=x:=by subst h; rfl
def A7a {α τ ρ:Type} (body:α→Nat→τ→α⊕ρ) (fin:α→ρ):α→Nat→List τ→ρ
 | a,_,[]=>fin a
 | a,i,x::xs=>match body a i x with
  | .inl a'=>A7a body fin a' (i + 1) xs
  | .inr r=>r
theorem C7I {σ ρ α τ:Type} {f:σ→Option (σ⊕ρ)} (st:α→Nat→σ) (xs:List τ) (body:α→Nat→τ→α⊕ρ) (fin:α→ρ) (I:α→Nat→Prop)
  (h1:∀ a i x,xs[i]?=some x→I a i→match body a i x with
   | .inl a'=>f (st a i)=some (.inl (st a' (i + 1)))∧I a' (i + 1)
   | .inr r=>f (st a i)=some (.inr r))
  (h2:∀ a,I a xs.length→f (st a xs.length)=some (.inr (fin a))) :
  ∀ (n k:Nat) (a:α),I a k→k≤xs.length→xs.length - k < n→iter f n (st a k)=some (A7a body fin a k (xs.drop k)):=by
 intro n
 induction n with
 | zero=>intro k a _ _ h; omega
 | succ n ih=>
  intro k a hI hk hn
  by_cases hl:k=xs.length
  ·subst hl
   simp only [iter,h2 a hI,Oz,List.drop_length,A7a]
  ·have hlt:k < xs.length:=by omega
   have hx:=Lg hlt
   have:=h1 a k _ hx hI
   rw [List.drop_eq_getElem_cons hlt]
   cases hb:body a k xs[k] with
   | inl a'=>
    rw [hb] at this
    simp only [iter,this.1,Oz,A7a,hb]
    exact ih (k + 1) a' this.2 (by omega) (by omega)
   | inr r=>
    rw [hb] at this
    simp only [iter,this,Oz,A7a,hb]
theorem A9i {σ ρ α τ:Type} {f:σ→Option (σ⊕ρ)} (st:α→Nat→σ) (xs:List τ) (body:α→Nat→τ→α⊕ρ) (fin:α→ρ) (I:α→Nat→Prop) {a:α} (h0:I a 0) {n:Nat} (hn:xs.length < n)
  (h1:∀ a i x,xs[i]?=some x→I a i→match body a i x with
   | .inl a'=>f (st a i)=some (.inl (st a' (i + 1)))∧I a' (i + 1)
   | .inr r=>f (st a i)=some (.inr r))
  (h2:∀ a,I a xs.length→f (st a xs.length)=some (.inr (fin a))):iter f n (st a 0)=some (A7a body fin a 0 xs):=by
 have:=C7I st xs body fin I h1 h2 n 0 a h0 (Nat.zero_le _) (by omega)
 simpa using this
def A0M {τ ρ:Type} (bad:Nat→τ→Option ρ) (fin:ρ):Nat→List τ→ρ
 | _,[]=>fin
 | i,x::xs=>match bad i x with
  | some r=>r
  | none=>A0M bad fin (i + 1) xs
theorem A1G {ρ τ:Type} {f:Int→Option (Int⊕ρ)} (xs:List τ) (bad:Nat→τ→Option ρ) (fin:ρ) {n:Nat} (hn:xs.length < n)
  (h1:∀ (i:Nat) x,xs[i]?=some x→f i=some (match bad i x with | some r=>.inr r | none=>.inl ((i + 1:Nat):Int)))
  (h2:f xs.length=some (.inr fin)):iter f n (0:Int)=some (A0M bad fin 0 xs):=by
 have key:∀ (n k:Nat),k≤xs.length→xs.length - k < n→iter f n (k:Int)=some (A0M bad fin k (xs.drop k)):=by
  intro n
  induction n with
  | zero=>intro k _ h; omega
  | succ n ih=>
   intro k hk hn
   by_cases hl:k=xs.length
   ·subst hl
    simp only [iter,h2,Oz,List.drop_length,A0M]
   ·have hlt:k < xs.length:=by omega
    have:=h1 k _ (Lg hlt)
    rw [List.drop_eq_getElem_cons hlt]
    cases hb:bad k xs[k] with
    | none=>
     rw [hb] at this
     simp only [iter,this,Oz,A0M,hb]
     exact ih (k + 1) (by omega) (by omega)
    | some r=>
     rw [hb] at this
     simp only [iter,this,Oz,A0M,hb]
 have:=key n 0 (Nat.zero_le _) (by omega)
 simpa using this
theorem B0j {τ ρ:Type} (bad:Nat→τ→Option ρ) (ok:τ→Bool) (r fin:ρ) (hb:∀ i x,bad i x=if ok x then none else some r) :
  ∀ (xs:List τ) (i:Nat),A0M bad fin i xs=if xs.all ok then fin else r:=by
 intro xs
 induction xs with
 | nil=>intro i; rfl
 | cons x xs ih=>
  intro i
  simp only [A0M,List.all_cons]
  rw [hb]
  by_cases hx:ok x=true
  ·simp [hx,ih]
  ·simp [hx]
theorem fuel {n:Nat} (h:n≤9223372036854775807):n < FUEL:=Nat.lt_of_le_of_lt h (by decide)
theorem C4A:∀ (x y:List UInt8),Op.bytesLess x y=decide (x < y)
 | [],[]=>by simp [Op.bytesLess]
 | _::_,[]=>by simp [Op.bytesLess]
 | [],_::_=>by simp [Op.bytesLess]
 | a::x,b::y=>by
  rw [Op.bytesLess,C4A x y]
  simp only [List.cons_lt_cons_iff]
  by_cases h1:a < b <;> by_cases h2:a=b <;> by_cases h3:x < y <;> simp [h1,h2,h3]
theorem C9e:∀ (x y:List UInt8),Lib.compareBytes x y < 0↔x < y
 | [],[]=>by simp [Lib.compareBytes]
 | _::_,[]=>by simp [Lib.compareBytes]
 | [],_::_=>by simp [Lib.compareBytes]
 | a::x,b::y=>by
  have ih:=C9e x y
  simp only [Lib.compareBytes,List.cons_lt_cons_iff]
  by_cases h1:a < b
  ·simp [h1]
  ·by_cases h2:b < a
   ·have:a ≠ b:=fun e=>by subst e; exact h1 h2
    simp [h1,h2,this]
   ·have:a=b:=UInt8.le_antisymm (UInt8.not_lt.1 h2) (UInt8.not_lt.1 h1)
    subst this
    simp [ih]
theorem C6l:∀ (x y:List UInt8),Lib.compareBytes x y=0↔x=y
 | [],[]=>by simp [Lib.compareBytes]
 | _::_,[]=>by simp [Lib.compareBytes]
 | [],_::_=>by simp [Lib.compareBytes]
 | a::x,b::y=>by
  have ih:=C6l x y
  simp only [Lib.compareBytes,List.cons.injEq]
  by_cases h1:a < b
  ·have:a ≠ b:=fun e=>by subst e; exact UInt8.lt_irrefl _ h1
   simp [h1,this]
  ·by_cases h2:b < a
   ·have:a ≠ b:=fun e=>by subst e; exact h1 h2
    simp [h1,h2,this]
   ·have:a=b:=UInt8.le_antisymm (UInt8.not_lt.1 h2) (UInt8.not_lt.1 h1)
    subst this
    simp [ih]
theorem B3b (a b:ByteArray):B8W a b=0↔a=b:=by
 unfold B8W
 rw [C6l]
 constructor
 ·intro h; cases a; cases b; simp only [ByteArray.mk.injEq]; exact Array.toList_inj.1 h
 ·rintro rfl; rfl
end Go.Pl
namespace Go.Pl
open Go Go.Sl Go.Dm
theorem mx:maxLen=9223372036854775807:=by decide
def B7n (c:UInt8):Bool:=decide (97≤c.toNat) && decide (c.toNat≤122)
def A4J (s:ByteArray):Bool:=decide (1≤s.size) && decide (s.size≤12) && s.data.toList.all B7n
theorem B9V (s:ByteArray):s.data.toList.length=s.size:=by rw [Array.length_toList]; rfl
theorem D0O {s:ByteArray} {n:Nat} {c:UInt8} (h:s.data.toList[n]?=some c):B8F s (n:Int)=some (c.toNat:Int):=by
 show (s.data.toList[n]?).map _=_
 rw [h]
 rfl
theorem C2g {s:ByteArray} (hs:s.size≤maxLen):iter (A4A s) FUEL (0:Int)=some (if s.data.toList.all B7n then .inl () else .inr false):=by
 rw [mx] at hs
 rw [A1G s.data.toList (fun i c=>if B7n c then none else some (.inr false)) (.inl ()) (by rw [B9V]; exact fuel hs),B0j (ρ:=Unit⊕Bool) (fun i c=>if B7n c then none else some (.inr false)) B7n (.inr false) (.inl ()) (fun i x=>rfl)]
 ·intro i c h
  have hi:=Q6 h
  rw [B9V] at hi
  simp only [A4A,D0O h,Oz,Cd]
  rw [if_pos (by omega),I4 (by omega)]
  by_cases h1:(c.toNat:Int) < 97
  ·have:B7n c=false:=by simp [B7n]; omega
   simp [h1,this]
  ·by_cases h2:(122:Int) < c.toNat
   ·have:B7n c=false:=by simp [B7n]; omega
    simp [h1,h2,this]
   ·have:B7n c=true:=by simp [B7n]; omega
    simp [h1,h2,this]
 ·simp [A4A,B9V]
theorem C3S {s:ByteArray} (hs:s.size≤maxLen):B4c s=some (A4J s):=by
 have e1:decide ((1:Int)≤(s.size:Int))=decide (1≤s.size):=decide_eq_decide.2 (by omega)
 have e2:decide ((s.size:Int)≤(12:Int))=decide (s.size≤12):=decide_eq_decide.2 (by omega)
 simp only [B4c,C2g hs,Oz,A4J,e1,e2]
 cases s.data.toList.all B7n <;> cases decide (1≤s.size) <;> cases decide (s.size≤12) <;> rfl
theorem A7G {s:ByteArray} (hs:s.size≤maxLen):A7o s=some (A4J s):=by
 have e:B0X s=A4A s:=rfl
 have e1:decide ((s.size:Int)=(0:Int))=!decide (1≤s.size):=by rw [←decide_not]; exact decide_eq_decide.2 (by omega)
 have e2:decide ((12:Int) < (s.size:Int))=!decide (s.size≤12):=by rw [←decide_not]; exact decide_eq_decide.2 (by omega)
 simp only [A7o,e,C2g hs,Oz,A4J,e1,e2]
 cases s.data.toList.all B7n <;> cases decide (1≤s.size) <;> cases decide (s.size≤12) <;> rfl
theorem B6W {s:ByteArray} (hs:s.size≤maxLen):A9k s=some (A4J s):=A7G hs
def Z6 {α:Type} (p:α→Bool):Nat→List α→Int
 | _,[]=>-1
 | i,x::l=>if p x then (i:Int) else Z6 p (i + 1) l
theorem B1A {α:Type} (p:α→Bool) (l:List α):∀ i,(Z6 p i l < 0)=(l.any p=false):=by
 induction l with
 | nil=>intro i; simp [Z6]
 | cons x l ih=>
  intro i
  simp only [Z6,List.any_cons]
  cases h:p x
  ·simp [ih]
  ·simp
theorem B1q {α:Type} (p:α→Bool) (l:List α) (i:Nat):(0≤Z6 p i l)=(l.any p=true):=by
 have:=B1A p l i
 cases h:l.any p
 ·rw [h] at this; simp at this ⊢; omega
 ·rw [h] at this; simp at this ⊢; omega
theorem B9N {α:Type} (p:α→Bool) (l:List α):∀ i,0≤Z6 p i l→∃ k:Nat,Z6 p i l=((i + k:Nat):Int)∧k < l.length:=by
 induction l with
 | nil=>intro i h; simp [Z6] at h
 | cons x l ih=>
  intro i h
  simp only [Z6] at h ⊢
  cases hp:p x
  ·simp only [hp] at h
   obtain ⟨k,e,hk⟩:=ih (i + 1) (by simpa using h)
   exact ⟨k + 1,by simp only [Bool.false_eq_true,if_false]; rw [e]; congr 1; omega,by simpa using hk⟩
  ·exact ⟨0,by simp,by simp⟩
theorem A9G {α:Type} (p:α→Bool) (l:List α):∀ i,l.any p=false→Z6 p i l=-1:=by
 induction l with
 | nil=>intro i _; rfl
 | cons x l ih=>
  intro i hq
  simp only [List.any_cons,Bool.or_eq_false_iff] at hq
  simp only [Z6,hq.1,Bool.false_eq_true,if_false]
  exact ih (i + 1) hq.2
theorem B8s {α:Type} (p:α→Bool) (l:List α):∀ i,A0M (fun (i:Nat) x=>if p x then some (.inr (i:Int)) else none) (.inl ():Unit⊕Int) i l=if l.any p then .inr (Z6 p i l) else .inl ():=by
 induction l with
 | nil=>intro i; rfl
 | cons x l ih=>
  intro i
  simp only [A0M,Z6,List.any_cons]
  by_cases h:p x=true <;> simp [h,ih]
theorem B1I {α:Type} {f:Int→Option (Int⊕(Unit⊕Int))} (l:List α) (p:α→Bool) (hl:l.length≤maxLen)
  (h1:∀ (i:Nat) x,l[i]?=some x→f i=some (if p x then .inr (.inr (i:Int)) else .inl ((i + 1:Nat):Int))) (h2:f l.length=some (.inr (.inl ()))) :
  (iter f FUEL (0:Int)).bind (fun o=>match o with | .inl _=>some (-1:Int) | .inr p=>some p)=some (Z6 p 0 l):=by
 rw [mx] at hl
 rw [A1G l (fun i x=>if p x then some (.inr (i:Int)) else none) (.inl ()) (fuel hl) (fun i x h=>by rw [h1 i x h]; cases p x <;> rfl) h2,B8s]
 cases hq:l.any p
 ·simp [A9G p l 0 hq]
 ·simp
theorem D3f {l:List D5} (hl:l.length≤maxLen) {f:D5→Option Bool} {p:D5→Bool} (hf:∀ x,f x=some (p x)):A2g l f=some (Z6 p 0 l):=by
 unfold A2g
 refine B1I l p hl (fun i x h=>?_) (by simp [A2i])
 have hi:=Q6 h
 rw [mx] at hl
 simp only [A2i,K9 h,hf,Oz,Cd]
 rw [if_pos (by omega),I4 (by omega)]
 cases p x <;> simp
theorem D3N {l:List E8} (hl:l.length≤maxLen) {f:E8→Option Bool} {p:E8→Bool} (hf:∀ x,f x=some (p x)):A3L l f=some (Z6 p 0 l):=by
 unfold A3L
 refine B1I l p hl (fun i x h=>?_) (by simp [A2l])
 have hi:=Q6 h
 rw [mx] at hl
 simp only [A2l,K9 h,hf,Oz,Cd]
 rw [if_pos (by omega),I4 (by omega)]
 cases p x <;> simp
theorem B0F {p:C9} (hl:p.A8.length≤maxLen) (n:ByteArray):A0O p n=some (Z6 (fun x=>decide (x.F7=n)) 0 p.A8):=by
 simp only [A0O,D3N hl (f:=fun y0=>B1P y0 n) (fun x=>rfl),Oz]
end Go.Pl
namespace Go.Pl
open Go Go.Sl Go.Dm
def M6 (t:D5):Int:=
 if t.Q4=1 then (if t.fA < 1∨24 < t.fA∨t.fB ≠ 0 then 0 else t.fA)
 else if t.Q4=2 then (if t.fA < 1∨11 < t.fA∨t.fB < 0∨2 < t.fB then 0 else 2 * t.fA + t.fB)
 else if t.Q4=3 then (if t.fA < 1∨8 < t.fA∨t.fB < 1∨8 < t.fB then 0 else t.fA + 2 * t.fB)
 else if t.Q4=4 then (if t.fA < 1∨24 < t.fA∨t.fB < 0∨t.fA < t.fB then 0 else t.fA)
 else 0
theorem Z8 (t:D5):0≤M6 t∧M6 t≤24:=by
 unfold M6
 repeat' split
 all_goals omega
theorem C1E (a b:Int):A3u a b=some (if a < 1∨24 < a∨b ≠ 0 then 0 else a):=by
 simp only [A3u,Cd]
 by_cases h1:a < 1 <;> by_cases h2:24 < a <;> by_cases h3:b=0 <;> simp [h1,h2,h3]
theorem C3D (a b:Int):A4k a b=some (if a < 1∨11 < a∨b < 0∨2 < b then 0 else 2 * a + b):=by
 simp only [A4k,Cd]
 by_cases h1:a < 1
 ·simp [h1]
 by_cases h2:11 < a
 ·simp [h1,h2]
 by_cases h3:b < 0
 ·simp [h1,h2,h3]
 by_cases h4:2 < b
 ·simp [h1,h2,h3,h4]
 simp only [h1,h2,h3,h4,if_false,or_self]
 rw [A0N (by omega) (by omega)]
 simp only [Oz]
 rw [A0N (by omega) (by omega)]
 rfl
theorem C2P (a b:Int):A4i a b=some (if a < 1∨8 < a∨b < 1∨8 < b then 0 else a + 2 * b):=by
 simp only [A4i,Cd]
 by_cases h1:a < 1
 ·simp [h1]
 by_cases h2:8 < a
 ·simp [h1,h2]
 by_cases h3:b < 1
 ·simp [h1,h2,h3]
 by_cases h4:8 < b
 ·simp [h1,h2,h3,h4]
 simp only [h1,h2,h3,h4,if_false,or_self]
 rw [A0N (by omega) (by omega)]
 simp only [Oz]
 rw [A0N (by omega) (by omega)]
 rfl
theorem C4v (a b:Int):A4V a b=some (if a < 1∨24 < a∨b < 0∨a < b then 0 else a):=by
 simp only [A4V,Cd]
 by_cases h1:a < 1 <;> by_cases h2:24 < a <;> by_cases h3:b < 0 <;> by_cases h4:a < b <;> simp [h1,h2,h3,h4]
theorem A2c (t:D5):A2F t=some (M6 t):=by
 simp only [A2F,Y0,B1o,Cd,M6]
 by_cases h1:t.Q4=1
 ·simp [h1,C1E]
 by_cases h2:t.Q4=2
 ·simp [h2,C3D]
 by_cases h3:t.Q4=3
 ·simp [h3,C2P]
 by_cases h4:t.Q4=4
 ·simp [h4,C4v]
 simp [h1,h2,h3,h4]
def A9S (n:Int):Int→List Int→Bool
 | _,[]=>true
 | last,k::l=>decide (last < k) && decide (k < n) && A9S n k l
def A5D (t:D5):Int:=
 if A4J t.F7=false then 4 else if M6 t=0 then 10 else if A9S (M6 t) (-1) t.A2M=false then 11
 else if t.fX < 0∨1000 < t.fX∨t.fY < 0∨1000 < t.fY then 2 else 0
theorem C7v {t:D5} (n:Int) (hl:t.A2M.length≤maxLen):iter (A1q t n) FUEL ((0:Int),(-1:Int))=some (if A9S n (-1) t.A2M then .inl () else .inr 11):=by
 rw [mx] at hl
 have:=A9i (f:=A1q t n) (fun (a:Int) (i:Nat)=>((i:Int),a)) t.A2M (fun a i x=>if a < x∧x < n then .inl x else .inr (.inr 11)) (fun _=>.inl ()) (fun _ _=>True) (a:=-1) trivial (n:=FUEL) (fuel (by omega))
  (fun a i x h _=>by
   have hi:=Q6 h
   have hr:=I4 (n:=i) (by omega)
   have hlt:(i:Int) < (t.A2M.length:Int):=by omega
   by_cases hc:a < x∧x < n
   ·have h1:¬ x≤a:=by omega
    have h2:¬ n≤x:=by omega
    simp only [if_pos hc]
    exact ⟨by simp only [A1q,K9 h,hr,Oz,Cd,if_pos hlt,if_neg h1,if_neg h2],trivial⟩
   ·simp only [if_neg hc]
    by_cases h1:x≤a
    ·simp only [A1q,K9 h,hr,Oz,Cd,if_pos hlt,if_pos h1]
    ·have h2:n≤x:=by omega
     simp only [A1q,K9 h,hr,Oz,Cd,if_pos hlt,if_neg h1,if_pos h2])
  (fun a _=>by simp [A1q])
 rw [show ((0:Int),(-1:Int))=(fun (a:Int) (i:Nat)=>((i:Int),a)) (-1) 0 from rfl,this]
 have key:∀ (l:List Int) (a:Int) (i:Nat),A7a (fun (a:Int) (i:Nat) (x:Int)=>if a < x∧x < n then Sum.inl x else Sum.inr (Sum.inr 11)) (fun _=>Sum.inl ()) a i l=(if A9S n a l then .inl () else .inr 11:Unit⊕Int):=by
  intro l
  induction l with
  | nil=>intro a i; rfl
  | cons x l ih=>
   intro a i
   by_cases hx:a < x∧x < n
   ·simp [A7a,A9S,hx,ih]
   ·by_cases h1:a < x
    ·have:¬ x < n:=fun q=>hx ⟨h1,q⟩
     simp [A7a,A9S,this]
    ·simp [A7a,A9S,h1]
 rw [key]
def OkT (t:D5):Prop:=t.F7.size≤maxLen∧t.A2M.length≤maxLen
theorem B1g {t:D5} (h:OkT t):A5I t=some (A5D t):=by
 simp only [A5I,B5h,A2c,C3S h.1,C7v _ h.2,Oz,Cd,A5D]
 cases A4J t.F7
 ·simp
 by_cases h0:M6 t=0
 ·simp [h0]
 cases A9S (M6 t) (-1) t.A2M
 ·simp [h0]
 by_cases h1:t.fX < 0 <;> by_cases h2:1000 < t.fX <;> by_cases h3:t.fY < 0 <;> by_cases h4:1000 < t.fY <;> simp [h0,h1,h2,h3,h4]
end Go.Pl
namespace Go.Pl
open Go Go.Sl Go.Dm
theorem A9F {α:Type} {l:List α} {i:Nat} (h:i≤l.length):sbL l 0 (i:Int)=some (l.take i):=by
 have:sbL l 0 (i:Int)=(bif Nat.ble 0 i && Nat.ble i l.length then some (Sl.sub l 0 i) else none):=rfl
 rw [this,show Nat.ble 0 i=true from Nat.ble_eq_true_of_le (Nat.zero_le _),Nat.ble_eq_true_of_le h]
 simp [Sl.sub]
theorem C7g {τ R:Type} (bad:Nat→τ→Option (Unit⊕R)) (hb:∀ i x r,bad i x=some r→∃ q,r=.inr q):∀ (xs:List τ) (i:Nat),A0M bad (.inl ()) i xs=.inl ()→∀ k x,xs[k]?=some x→bad (i + k) x=none:=by
 intro xs
 induction xs with
 | nil=>intro i _ k x h; simp at h
 | cons y xs ih=>
  intro i h k x hk
  simp only [A0M] at h
  cases hy:bad i y with
  | some r=>
   rw [hy] at h
   obtain ⟨q,rfl⟩:=hb _ _ _ hy
   cases h
  | none=>
   rw [hy] at h
   cases k with
   | zero=>simp at hk; subst hk; exact hy
   | succ k=>
    have:=ih (i + 1) h k x (by simpa using hk)
    rwa [show i + (k + 1)=i + 1 + k by omega]
def B6b (l:List D5) (i:Nat) (x:D5):Option (Unit⊕(Int×Int)):=
 if A5D x ≠ 0 then some (.inr ((i:Int),A5D x)) else if (l.take i).any (fun y=>decide (y.F7=x.F7)) then some (.inr ((i:Int),5)) else none
def C8w:Unit⊕(Int×Int)→Int×Int
 | .inl _=>(0,0)
 | .inr p=>p
def A8F (l:List D5):Int×Int:=if 16 < l.length then (0,7) else C8w (A0M (B6b l) (.inl ()) 0 l)
def B7Z (l:List D5):Prop:=l.length≤maxLen∧∀ t ∈ l,OkT t
theorem A0T {α:Type} {l:List α} {i:Nat} {x:α} (h:l[i]?=some x):x ∈ l:=by
 obtain ⟨hi,rfl⟩:=List.getElem?_eq_some_iff.1 h
 exact List.getElem_mem hi
theorem B1G {l:List D5} (h:B7Z l):A5u l=some (A8F l):=by
 have hl:=h.1
 rw [mx] at hl
 simp only [A5u,A8F,Cd]
 by_cases h16:16 < l.length
 ·have:(16:Int) < (l.length:Int):=by omega
  simp [h16,this]
 have n16:¬ (16:Int) < (l.length:Int):=by omega
 rw [if_neg n16,if_neg h16,A1G l (B6b l) (.inl ()) (fuel (by omega)) (fun i x hx=>by
   have hi:=Q6 hx
   simp only [A4t,K9 hx,B1g (h.2 x (A0T hx)),A9F (Nat.le_of_lt hi),Oz,Cd,A4b,
    D3f (l:=l.take i) (by rw [mx]; simp; omega) (f:=fun y0=>A6I y0 x) (p:=fun y=>decide (y.F7=x.F7)) (fun y=>rfl),B1q]
   rw [if_pos (by omega),I4 (by omega)]
   unfold B6b
   by_cases h1:A5D x=0
   ·cases h2:(l.take i).any (fun y=>decide (y.F7=x.F7)) <;> simp [h1,h2]
   ·simp [h1]) (by simp [A4t])]
 cases A0M (B6b l) (.inl ()) 0 l <;> rfl
theorem D1W (l:List D5):∀ i x r,B6b l i x=some r→∃ q,r=.inr q:=by
 intro i x r h
 unfold B6b at h
 split at h
 ·cases h; exact ⟨_,rfl⟩
 ·split at h
  ·cases h; exact ⟨_,rfl⟩
  ·cases h
theorem C9T (l:List D5):∀ (xs:List D5) (i:Nat),(C8w (A0M (B6b l) (.inl ()) i xs)).2=0→A0M (B6b l) (.inl ()) i xs=.inl ():=by
 intro xs
 induction xs with
 | nil=>intro i _; rfl
 | cons x xs ih=>
  intro i h
  simp only [A0M] at h ⊢
  cases hb:B6b l i x with
  | none=>rw [hb] at h; exact ih (i + 1) h
  | some r=>
   rw [hb] at h
   exfalso
   unfold B6b at hb
   split at hb
   ·rename_i hc
    cases hb; exact hc h
   ·split at hb
    ·cases hb; simp [C8w] at h
    ·cases hb
theorem B9d {l:List D5} (h:(A8F l).2=0):l.length≤16∧∀ t ∈ l,A5D t=0:=by
 unfold A8F at h
 by_cases h16:16 < l.length
 ·simp [h16] at h
 rw [if_neg h16] at h
 refine ⟨by omega,fun t ht=>?_⟩
 obtain ⟨k,hk⟩:=List.getElem?_of_mem ht
 have:=C7g (B6b l) (D1W l) l 0 (C9T l l 0 h) k t hk
 unfold B6b at this
 by_cases h0:A5D t=0
 ·exact h0
 ·simp [h0] at this
theorem A7O {l:List D5} (h:B7Z l):A3f l=some (decide ((A8F l).2=0)):=by
 simp only [A3f,B1G h,Oz]
def U2 (l:List D5):Int:=(l.map M6).sum
theorem A3c (l:List D5):0≤U2 l∧U2 l≤24 * l.length:=by
 induction l with
 | nil=>simp [U2]
 | cons t l ih=>
  have:=Z8 t
  simp only [U2,List.map_cons,List.sum_cons,List.length_cons] at ih ⊢
  omega
theorem C3W (l:List D5):∀ (a:Int) (i:Nat),A7a (fun (a:Int) (i:Nat) (x:D5)=>(Sum.inl (a + M6 x):Int⊕Int)) (fun a=>a) a i l=a + U2 l:=by
 induction l with
 | nil=>intro a i; simp [A7a,U2]
 | cons x l ih=>
  intro a i
  simp only [A7a,ih,U2,List.map_cons,List.sum_cons]
  omega
theorem B0f (l:List D5) (i:Nat) {x:D5} (h:l[i]?=some x):U2 (l.take (i + 1))=U2 (l.take i) + M6 x:=by
 obtain ⟨hi,rfl⟩:=List.getElem?_eq_some_iff.1 h
 rw [List.take_add_one,Lg hi]
 simp only [U2,Option.toList,List.map_append,List.sum_append,List.map_cons,List.map_nil,List.sum_cons,List.sum_nil,Int.add_zero]
theorem B9Z {l:List D5} (hl:l.length≤16):iter (A3G l) FUEL ((0:Int),(0:Int))=some (U2 l):=by
 have:=A9i (f:=A3G l) (fun (a:Int) (i:Nat)=>((i:Int),a)) l (fun a i x=>.inl (a + M6 x)) (fun a=>a) (fun a i=>a=U2 (l.take i)) (a:=0) (by simp [U2]) (n:=FUEL) (fuel (by omega))
  (fun a i x h hI=>by
   have hi:=Q6 h
   have b1:=A3c (l.take i)
   have b2:=Z8 x
   simp only [List.length_take] at b1
   simp only [A3G,K9 h,A2c,Oz,Cd]
   rw [if_pos (by omega),I4 (by omega),A0N (by omega) (by omega)]
   exact ⟨rfl,by rw [B0f l i h,hI]⟩)
  (fun a _=>by simp [A3G])
 rw [show ((0:Int),(0:Int))=(fun (a:Int) (i:Nat)=>((i:Int),a)) 0 0 from rfl,this,C3W]
 simp
theorem B1d {l:List D5} (h:B7Z l) (hc:(A8F l).2=0):A2r l=some (U2 l):=by
 have hl:=(B9d hc).1
 simp only [A2r,A7O h,hc,Oz,decide_true,Bool.not_true,Cn]
 rw [A0N (by omega) (by omega)]
 simp only [Oz]
 cases l with
 | nil=>simp [A2o,A7T,U2]; rfl
 | cons t l=>
  generalize hL:t::l=L at *
  have hne:0 < L.length:=by rw [←hL]; simp
  have hlast:(L.length:Int) - 1=((L.length - 1:Nat):Int):=by omega
  have hx:=Lg (show L.length - 1 < L.length by omega)
  have b1:=A3c (L.take (L.length - 1))
  have b2:=Z8 L[L.length - 1]
  have b3:(L.take (L.length - 1)).length≤16:=by simp; omega
  have hs:=B0f L (L.length - 1) hx
  rw [show L.length - 1 + 1=L.length by omega,List.take_length] at hs
  rw [hlast]
  simp only [A2o,A7T,A7O h,hc,A9F (show L.length - 1≤L.length by omega),B9Z b3,Oz,Cd]
  rw [if_neg (by omega),if_neg (by omega),if_neg (by omega),hlast,A0N (by omega) (by omega)]
  simp only [decide_true,Bool.not_true,Cn,Oz,K9 hx,A2c]
  rw [A0N (by omega) (by omega),hs]
  rfl
end Go.Pl
namespace Go.Pl
open Go Go.Sl Go.Dm
def V3 {τ R:Type} (bad:Nat→τ→Option R):Nat→List τ→Option R
 | _,[]=>none
 | i,x::xs=>match bad i x with
  | some r=>some r
  | none=>V3 bad (i + 1) xs
def toE {R:Type}:Option R→Unit⊕R
 | none=>.inl ()
 | some r=>.inr r
theorem C0S {τ R:Type} {f:Int→Option (Int⊕(Unit⊕R))} (xs:List τ) (bad:Nat→τ→Option R) (hn:xs.length≤maxLen)
  (h1:∀ (i:Nat) x,xs[i]?=some x→f i=some (match bad i x with | some r=>.inr (.inr r) | none=>.inl ((i + 1:Nat):Int))) (h2:f xs.length=some (.inr (.inl ()))) :
  iter f FUEL (0:Int)=some (toE (V3 bad 0 xs)):=by
 rw [mx] at hn
 rw [A1G xs (fun i x=>(bad i x).map Sum.inr) (.inl ()) (fuel hn) (fun i x hx=>by rw [h1 i x hx]; cases bad i x <;> rfl) h2]
 have key:∀ (ys:List τ) (i:Nat),A0M (fun i x=>(bad i x).map Sum.inr) (.inl ()) i ys=toE (V3 bad i ys):=by
  intro ys
  induction ys with
  | nil=>intro i; rfl
  | cons y ys ih=>
   intro i
   simp only [A0M,V3]
   cases bad i y with
   | none=>exact ih (i + 1)
   | some r=>rfl
 rw [key]
theorem C5b {σ ρ τ R:Type} {f:σ→Option (σ⊕ρ)} (xs:List τ) (bad:Nat→τ→Option R) (St:σ→Nat→Prop) (Er:R→ρ) (Fin:ρ→Prop)
  (h1:∀ s (i:Nat) x,xs[i]?=some x→St s i→match bad i x with | some r=>f s=some (.inr (Er r)) | none=>∃ s',f s=some (.inl s')∧St s' (i + 1))
  (h2:∀ s,St s xs.length→∃ o,f s=some (.inr o)∧Fin o) :
  ∀ (n k:Nat) (s:σ),St s k→k≤xs.length→xs.length - k < n→match V3 bad k (xs.drop k) with | some r=>iter f n s=some (Er r) | none=>∃ o,iter f n s=some o∧Fin o:=by
 intro n
 induction n with
 | zero=>intro k s _ _ h; omega
 | succ n ih=>
  intro k s hs hk hn
  by_cases hl:k=xs.length
  ·subst hl
   obtain ⟨o,ho,hf⟩:=h2 s hs
   simp only [List.drop_length,V3]
   exact ⟨o,by simp only [iter,ho,Oz],hf⟩
  ·have hlt:k < xs.length:=by omega
   have:=h1 s k _ (Lg hlt) hs
   rw [List.drop_eq_getElem_cons hlt]
   simp only [V3]
   cases hb:bad k xs[k] with
   | some r=>
    rw [hb] at this
    simp only [iter,this,Oz]
   | none=>
    rw [hb] at this
    obtain ⟨s',e,hs'⟩:=this
    have:=ih (k + 1) s' hs' (by omega) (by omega)
    simp only [iter,e,Oz]
    exact this
theorem M8 {σ ρ:Type} {f:σ→Option (σ⊕ρ)} (I:σ→Prop) (μ:σ→Nat) (Q:ρ→Prop)
  (h:∀ s,I s→(∃ s',f s=some (.inl s')∧I s'∧μ s' < μ s)∨∃ r,f s=some (.inr r)∧Q r):∀ n s,I s→μ s < n→∃ r,iter f n s=some r∧Q r:=by
 intro n
 induction n with
 | zero=>intro s _ h; omega
 | succ n ih=>
  intro s hs hn
  rcases h s hs with ⟨s',e,hi,hm⟩ | ⟨r,e,hq⟩
  ·obtain ⟨r,hr,hq⟩:=ih s' hi (by omega)
   exact ⟨r,by simp only [iter,e,Oz]; exact hr,hq⟩
  ·exact ⟨r,by simp only [iter,e,Oz],hq⟩
theorem C3N (a b:ByteArray):sLt a b=decide (a.data.toList < b.data.toList):=by
 rw [sLt,Lib.toList_data,Lib.toList_data,C4A]
theorem C8e {a b:ByteArray} (h:a.data.toList=b.data.toList):a=b:=by
 cases a; cases b; simp only [ByteArray.mk.injEq]; exact Array.toList_inj.1 h
theorem C9B:∀ x y:List UInt8,x < y∨x=y∨y < x
 | [],[]=>.inr (.inl rfl)
 | [],_::_=>.inl (by simp)
 | _::_,[]=>.inr (.inr (by simp))
 | a::x,b::y=>by
  simp only [List.cons_lt_cons_iff,List.cons.injEq]
  by_cases h1:a < b
  ·exact .inl (.inl h1)
  ·by_cases h2:b < a
   ·exact .inr (.inr (.inl h2))
   ·have:a=b:=UInt8.le_antisymm (UInt8.not_lt.1 h2) (UInt8.not_lt.1 h1)
    subst this
    rcases C9B x y with h | h | h
    ·exact .inl (.inr ⟨rfl,h⟩)
    ·exact .inr (.inl ⟨rfl,h⟩)
    ·exact .inr (.inr (.inr ⟨rfl,h⟩))
theorem C9x:∀ x:List UInt8,¬ x < x
 | []=>by simp
 | a::x=>by
  simp only [List.cons_lt_cons_iff]
  rintro (h | ⟨_,h⟩)
  ·exact UInt8.lt_irrefl _ h
  ·exact C9x x h
theorem lt_trans:∀ {x y z:List UInt8},x < y→y < z→x < z
 | [],_::_,[],_,h=>by simp at h
 | [],_,_::_,_,_=>by simp
 | [],[],[],h,_=>h
 | _::_,[],_,h,_=>by simp at h
 | _::_,_::_,[],_,h=>by simp at h
 | a::x,b::y,c::z,h,k=>by
  simp only [List.cons_lt_cons_iff] at h k ⊢
  rcases h with h | ⟨rfl,h⟩
  ·rcases k with k | ⟨rfl,k⟩
   ·exact .inl (UInt8.lt_trans h k)
   ·exact .inl h
  ·rcases k with k | ⟨rfl,k⟩
   ·exact .inl k
   ·exact .inr ⟨rfl,lt_trans h k⟩
theorem B3U (a:ByteArray):sLt a a=false:=by rw [C3N]; simpa using C9x _
theorem B8e {a b c:ByteArray} (h:sLt a b=true) (k:sLt b c=true):sLt a c=true:=by
 rw [C3N,decide_eq_true_eq] at *
 exact lt_trans h k
theorem C6C (a b:ByteArray):sLt a b=true∨a=b∨sLt b a=true:=by
 simp only [C3N,decide_eq_true_eq]
 rcases C9B a.data.toList b.data.toList with h | h | h
 ·exact .inl h
 ·exact .inr (.inl (C8e h))
 ·exact .inr (.inr h)
theorem C6t (a b:ByteArray):(B8W a b < 0)↔sLt a b=true:=by
 rw [C3N,decide_eq_true_eq]; exact C9e _ _
def A3X (s:ByteArray):Bool:=decide (s=(⟨#[]⟩:ByteArray)) || A4J s
theorem B1j {s:ByteArray} (hs:s.size≤maxLen):A7x s=some (A3X s):=by
 simp only [A7x,A7G hs,Oz,A3X]
 cases decide (s=(⟨#[]⟩:ByteArray)) <;> rfl
def B9M (l:List ByteArray) (i:Nat) (x:ByteArray):Option Int:=
 if A4J x=true∧(i=0∨sLt (l.getD (i - 1) ⟨#[]⟩) x=true) then none else some 22
structure OkG (g:E8):Prop where
 name:g.F7.size≤maxLen
 rank:g.A1S.size≤maxLen
 court:g.W9.size≤maxLen
 diet:g.A0t.size≤maxLen
 C9f:g.O4.length≤maxLen
 ton:∀ s ∈ g.O4,s.size≤maxLen
theorem B3i {α:Type} {l:List α} {i:Nat} (d:α) (hi:i < l.length) (h0:i ≠ 0):l[i - 1]?=some (l.getD (i - 1) d):=by
 rw [List.getD_eq_getElem?_getD,Lg (show i - 1 < l.length by omega)]; rfl
theorem C7W {g:E8} (h:OkG g):iter (A3V g) FUEL (0:Int)=some (toE (V3 (B9M g.O4) 0 g.O4)):=by
 have hl:=h.C9f
 rw [mx] at hl
 refine C0S g.O4 _ h.C9f (fun i x hx=>?_) (by simp [A3V])
 have hi:=Q6 hx
 have hr:=I4 (n:=i) (by omega)
 have hlt:(i:Int) < (g.O4.length:Int):=by omega
 simp only [A3V,B3N,K9 hx,A7G (h.ton x (A0T hx)),hr,Oz,Cd,if_pos hlt]
 unfold B9M
 cases A4J x
 ·simp
 by_cases h0:i=0
 ·subst h0; simp
 have hp:(0:Int) < i:=by omega
 have hc:((i:Int) - 1)=((i - 1:Nat):Int):=by omega
 rw [if_pos hp,hc,A0N (x:=((i - 1:Nat):Int)) (by omega) (by omega)]
 simp only [Oz,K9 (B3i ⟨#[]⟩ hi h0),h0,false_or]
 cases sLt (g.O4.getD (i - 1) ⟨#[]⟩) x <;> simp
def A9N (g:E8):Int:=
 if (A4J g.F7 && A3X g.A1S && A3X g.W9 && A3X g.A0t)=false then 4
 else if g.A0h < 0∨9999 < g.A0h then 21
 else if g.A0r < 0∨2 < g.A0r then 20
 else if 4 < g.O4.length then 22
 else (V3 (B9M g.O4) 0 g.O4).getD 0
theorem B9l {g:E8} (h:OkG g):B0G g=some (A9N g):=by
 simp only [B0G,B3a,A7G h.name,B1j h.rank,B1j h.court,B1j h.diet,C7W h,Oz,A9N]
 cases A4J g.F7 <;> cases A3X g.A1S <;> cases A3X g.W9 <;> cases A3X g.A0t
 all_goals simp only [Bool.not_false,Bool.not_true,Cy,Cn,Oz,Bool.true_and,Bool.false_and,Bool.and_false,Bool.and_true,if_true,Bool.true_eq_false,if_false]
 have e4:((4:Int) < (g.O4.length:Int))↔4 < g.O4.length:=by omega
 simp only [Cd,e4]
 by_cases h1:g.A0h < 0 <;> by_cases h2:9999 < g.A0h <;> simp only [h1,h2,if_true,if_false,Oz,decide_true,decide_false,Cy,Cn,true_or,or_true,or_self]
 by_cases h3:g.A0r < 0 <;> by_cases h4:2 < g.A0r <;> simp only [h3,h4,if_true,if_false,Oz,decide_true,decide_false,Cy,Cn,true_or,or_true,or_self]
 by_cases h5:4 < g.O4.length
 ·simp only [h5,if_true]
 ·simp only [h5,if_false]
  cases V3 (B9M g.O4) 0 g.O4 <;> rfl
end Go.Pl
namespace Go.Pl
open Go Go.Sl Go.Dm
def B1i (gs:List E8) (i:Nat) (g:E8):Option (Int×Int):=
 if A9N g ≠ 0 then some ((i:Int),A9N g) else if (gs.take i).any (fun y=>decide (y.F7=g.F7)) then some ((i:Int),5) else if 64≤i then some ((i:Int),7) else none
theorem C0v {g:E8} (h:A9N g=0):g.O4.length≤4:=by
 unfold A9N at h
 split at h
 ·omega
 split at h
 ·omega
 split at h
 ·omega
 split at h
 ·omega
 omega
theorem C2C {g:E8} (h:g.O4.length≤4):A8W g=some g:=by
 have:apL ([]:List ByteArray) g.O4=some g.O4:=by
  unfold apL
  rw [show Nat.ble (([]:List ByteArray).length + g.O4.length) 1073741824=true from Nat.ble_eq_true_of_le (by simp; omega)]
  rfl
 simp only [A8W,A4e,this,Oz]
theorem Z4 {α:Type} {l:List α} {x:α} (h:l.length≤1000):apL l [x]=some (l ++ [x]):=by
 unfold apL
 rw [show Nat.ble (l.length + [x].length) 1073741824=true from Nat.ble_eq_true_of_le (by simp; omega)]
 rfl
theorem A9l {κ α:Type} [DecidableEq κ] (m:List (κ×α)) (k:κ) (x:α) (k':κ):A4c (A2q m k x) k'=if k'=k then some x else A4c m k':=by
 induction m with
 | nil=>
  simp only [A2q,A4c,Cd]
 | cons p m ih=>
  obtain ⟨q,y⟩:=p
  simp only [A2q]
  by_cases hk:k=q
  ·subst hk
   simp only [decide_true,Cy,A4c,Cd]
   by_cases h:k'=k <;> simp [h]
  ·simp only [hk,decide_false,Cn,A4c,Cd,ih]
   by_cases h1:k'=q
   ·subst h1
    have:¬ k'=k:=fun e=>hk e.symm
    simp [this]
   ·simp [h1]
def Knows (m:List (ByteArray×Int)) (gs:List E8):Prop:=(∀ n,(A4c m n).isSome=gs.any (fun y=>decide (y.F7=n)))∧∀ n v,A4c m n=some v→∃ k:Nat,v=(k:Int)∧k < gs.length
theorem C1X {m:List (ByteArray×Int)} {gs:List E8} (h:Knows m gs) (n:ByteArray) (z:Int):∃ v,lkM m n z=some (v,gs.any (fun y=>decide (y.F7=n))):=by
 unfold lkM
 have:=h.1 n
 cases hm:A4c m n with
 | none=>rw [hm] at this; exact ⟨z,by rw [←this]; rfl⟩
 | some x=>rw [hm] at this; exact ⟨x,by rw [←this]; rfl⟩
theorem C7Y {gs:List E8} {i:Nat} {g:E8} (h:gs[i]?=some g) (n:ByteArray):(gs.take (i + 1)).any (fun y=>decide (y.F7=n))=((gs.take i).any (fun y=>decide (y.F7=n)) || decide (g.F7=n)):=by
 obtain ⟨hi,rfl⟩:=List.getElem?_eq_some_iff.1 h
 rw [List.take_add_one,Lg hi]
 simp only [List.any_append,Option.toList,List.any_cons,List.any_nil,Bool.or_false]
theorem A7m {α:Type} {l:List α} {i:Nat} {x:α} (h:l[i]?=some x):l.take (i + 1)=l.take i ++ [x]:=by
 obtain ⟨hi,rfl⟩:=List.getElem?_eq_some_iff.1 h
 rw [List.take_add_one,Lg hi]
 rfl
structure OkR (r:Q7):Prop where
 gs:r.A8.length≤maxLen
 g:∀ g ∈ r.A8,OkG g
 ts:r.M9.length≤maxLen
theorem C0o {r:Q7} (h:OkR r) :
  match V3 (B1i r.A8) 0 r.A8 with
  | some p=>iter (A2x r) FUEL (([]:List E8),([]:List H7),([]:List (ByteArray×Int)),(0:Int))=some (.inr (none,p.1,p.2))
  | none=>∃ o,iter (A2x r) FUEL (([]:List E8),([]:List H7),([]:List (ByteArray×Int)),(0:Int))=some o∧∃ m,o=.inl (r.A8,[],m)∧Knows m r.A8:=by
 have hl:=h.gs
 rw [mx] at hl
 have:=C5b (f:=A2x r) r.A8 (B1i r.A8) (fun s i=>i≤64∧∃ m,s=(r.A8.take i,[],m,(i:Int))∧Knows m (r.A8.take i)) (fun p=>.inr (none,p.1,p.2))
  (fun o=>∃ m,o=.inl (r.A8,[],m)∧Knows m r.A8)
  (fun s i g hg hs=>by
   obtain ⟨h64,m,rfl,hm⟩:=hs
   have hi:=Q6 hg
   have hr:=I4 (n:=i) (by omega)
   have hlt:(i:Int) < (r.A8.length:Int):=by omega
   have hlen:(r.A8.take i).length=i:=by simp; omega
   obtain ⟨v,hv⟩:=C1X hm g.F7 0
   simp only [A2x,K9 hg,C0H,A4y,B9l (h.g g (A0T hg)),Oz,Cd,if_pos hlt,Cn]
   unfold B1i
   by_cases h0:A9N g=0
   ·have hton:=C0v h0
    simp only [h0,decide_true,Bool.not_true,Cn,B8z,hv,Oz,ne_eq,not_true,if_false]
    cases ha:(r.A8.take i).any (fun y=>decide (y.F7=g.F7))
    ·simp only [Cn,Bool.false_eq_true,if_false,hlen,Cd]
     by_cases h6:64≤i
     ·have:(i:Int)=64:=by omega
      simp [this,h6]
     ·have:¬ (i:Int)=64:=by omega
      simp only [this,if_false,h6,Oz,C2C hton,Z4 (show (r.A8.take i).length≤1000 by omega),decide_true,Bool.not_true,Cn,hr]
      refine ⟨_,rfl,by omega,A2q m g.F7 (i:Int),?_,?_⟩
      ·rw [A7m hg]
      ·refine ⟨fun n=>?_,fun n v hv=>?_⟩
       rotate_left
       ·rw [A9l] at hv
        rw [List.length_take]
        split at hv
        ·cases hv; exact ⟨i,rfl,by omega⟩
        ·obtain ⟨k,e,hk⟩:=hm.2 n v hv
         exact ⟨k,e,by omega⟩
       rw [A9l,C7Y hg]
       have:=hm.1 n
       by_cases hn:n=g.F7
       ·subst hn; simp
       ·have hn':¬ g.F7=n:=fun e=>hn e.symm
        simp [hn,hn',this]
    ·simp
   ·simp [h0])
  (fun s hs=>by
   obtain ⟨_,m,rfl,hm⟩:=hs
   rw [List.take_length] at hm
   refine ⟨.inl (r.A8,[],m),by simp [A2x],m,rfl,hm⟩)
  FUEL 0 ([],[],[],0) ⟨by omega,[],by simp,fun n=>by simp [A4c],fun n v h=>by cases h⟩ (Nat.zero_le _) (fuel (by omega))
 rw [List.drop_zero] at this
 cases hF:V3 (B1i r.A8) 0 r.A8 with
 | some p=>rw [hF] at this; exact this
 | none=>rw [hF] at this; exact this
def tLt (a b:H7):Bool:=sLt a.fA b.fA || (decide (a.fA=b.fA) && sLt a.fB b.fB)
def B1D (a b:H7):Int:=if B8W a.fA b.fA=0 then B8W a.fB b.fB else B8W a.fA b.fA
theorem B3A (a b:H7):A1f a b=some (B1D a b):=by
 simp only [A1f,strings_Compare,bytealg_CompareString,Oz,B1D]
 by_cases h:B8W a.fA b.fA=0 <;> simp [h]
theorem C3Q (a b:H7):(B1D a b < 0)↔tLt a b=true:=by
 unfold B1D tLt
 by_cases h:B8W a.fA b.fA=0
 ·have e:=(B3b _ _).1 h
  rw [if_pos h,C6t]
  simp [e,B3U]
 ·have e:¬ a.fA=b.fA:=fun q=>h ((B3b _ _).2 q)
  rw [if_neg h,C6t]
  simp [e]
theorem C4K (a b:H7):(B1D a b=0)↔(a.fA=b.fA∧a.fB=b.fB):=by
 unfold B1D
 by_cases h:B8W a.fA b.fA=0
 ·rw [if_pos h,B3b]
  have:=(B3b _ _).1 h
  simp [this]
 ·rw [if_neg h]
  have:¬ a.fA=b.fA:=fun q=>h ((B3b _ _).2 q)
  simp [h,this]
theorem C2k {a b c:H7} (h:tLt a b=true) (k:tLt b c=true):tLt a c=true:=by
 simp only [tLt,Bool.or_eq_true,Bool.and_eq_true,decide_eq_true_eq] at *
 rcases h with h | ⟨h1,h2⟩
 ·rcases k with k | ⟨k1,k2⟩
  ·exact .inl (B8e h k)
  ·exact .inl (k1 ▸ h)
 ·rcases k with k | ⟨k1,k2⟩
  ·exact .inl (h1 ▸ k)
  ·exact .inr ⟨h1.trans k1,B8e h2 k2⟩
theorem C6W (a b:H7):tLt a b=true∨(a.fA=b.fA∧a.fB=b.fB)∨tLt b a=true:=by
 simp only [tLt,Bool.or_eq_true,Bool.and_eq_true,decide_eq_true_eq]
 rcases C6C a.fA b.fA with h | h | h
 ·exact .inl (.inl h)
 ·rcases C6C a.fB b.fB with k | k | k
  ·exact .inl (.inr ⟨h,k⟩)
  ·exact .inr (.inl ⟨h,k⟩)
  ·exact .inr (.inr (.inr ⟨h.symm,k⟩))
 ·exact .inr (.inr (.inl h))
theorem C3v {a b:H7} (h1:a.fA=b.fA) (h2:a.fB=b.fB):tLt a b=false:=by
 simp [tLt,h1,h2,B3U]
theorem B9h {a b:H7} (h:tLt a b=true):tLt b a=false:=by
 cases k:tLt b a with
 | false=>rfl
 | true=>have:=C2k h k; rw [C3v rfl rfl] at this; cases this
theorem wrap_u64 {x:Int} (h:0≤x) (h':x≤18446744073709551615):IntKind.u64.wrap x=x:=by
 simp [IntKind.wrap,IntKind.bits,IntKind.signed]; omega
theorem wrap_i64 {x:Int} (h:0≤x) (h':x≤9223372036854775807):IntKind.i64.wrap x=x:=by
 have:IntKind.i64.wrap x=if x % 18446744073709551616 ≥ 9223372036854775808 then x % 18446744073709551616 - 18446744073709551616 else x % 18446744073709551616:=by
  simp [IntKind.wrap,IntKind.bits,IntKind.signed]
 rw [this]
 split <;> omega
theorem C4x {L:List H7} {q:H7} {m:Nat} (hm:m≤L.length) (hL:L.length≤1000) (lo:∀ k x,L[k]?=some x→k < m→B1D x q < 0) (hi:∀ k x,L[k]?=some x→m≤k→¬ B1D x q < 0) :
  iter (A0X L q A1f) FUEL ((L.length:Int),(0:Int))=some (m:Int):=by
 have:=M8 (f:=A0X L q A1f) (fun s=>∃ j i:Nat,s=((j:Int),(i:Int))∧i≤m∧m≤j∧j≤L.length) (fun s=>(s.1 - s.2).toNat) (fun r=>r=(m:Int))
  (fun s hs=>by
   obtain ⟨j,i,rfl,h1,h2,h3⟩:=hs
   by_cases hc:i < j
   ·left
    have hlt:(i:Int) < (j:Int):=by omega
    have hmid:(i + j) / 2 < L.length:=by omega
    have hx:=Lg hmid
    have hs:A3P .u64 ((i + j:Nat):Int) (1:Int)=some (((i + j) / 2:Nat):Int):=by
     show (bif Nat.ble 1 (IntKind.u64.bits) then some (Int.ofNat ((i + j) / 2 ^ 1)) else none)=_
     rw [show Nat.ble 1 (IntKind.u64.bits)=true from rfl,Nat.pow_one]
     rfl
    have hsum:(i:Int) + (j:Int)=((i + j:Nat):Int):=by omega
    have e1:A0P .u64 ((i + j:Nat):Int)=some ((i + j:Nat):Int):=by
     unfold A0P; rw [wrap_u64 (by omega) (by omega)]; simp
    have e2:A0P .i64 (((i + j) / 2:Nat):Int)=some (((i + j) / 2:Nat):Int):=by
     unfold A0P; rw [wrap_i64 (by omega) (by omega)]; simp
    simp only [A0X,hsum,A0N (x:=((i + j:Nat):Int)) (by omega) (by omega),e1,hs,e2,K9 hx,B3A,Oz,Cd,if_pos hlt]
    by_cases ho:B1D L[(i + j) / 2] q < 0
    ·have:(i + j) / 2 < m:=by
      apply Classical.byContradiction
      intro hn
      exact hi _ _ hx (by omega) ho
     rw [if_pos ho,I4 (by omega)]
     refine ⟨_,rfl,⟨j,(i + j) / 2 + 1,rfl,by omega,by omega,by omega⟩,?_⟩
     simp only
     omega
    ·have:m≤(i + j) / 2:=by
      apply Classical.byContradiction
      intro hn
      exact ho (lo _ _ hx (by omega))
     rw [if_neg ho]
     refine ⟨_,rfl,⟨(i + j) / 2,i,rfl,by omega,by omega,by omega⟩,?_⟩
     simp only
     omega
   ·right
    have hnl:¬ (i:Int) < (j:Int):=by omega
    refine ⟨(i:Int),by simp only [A0X,Cd,if_neg hnl],by omega⟩)
  FUEL ((L.length:Int),(0:Int)) ⟨L.length,0,rfl,Nat.zero_le _,hm,Nat.le_refl _⟩ (by simp only; exact fuel (by omega))
 obtain ⟨r,hr,rfl⟩:=this
 exact hr
end Go.Pl
namespace Go.Pl
open Go Go.Sl Go.Dm
theorem A8p {τ R:Type} {bad:Nat→τ→Option R}:∀ (xs:List τ) (i:Nat),V3 bad i xs=none→∀ k x,xs[k]?=some x→bad (i + k) x=none:=by
 intro xs
 induction xs with
 | nil=>intro i _ k x h; simp at h
 | cons y xs ih=>
  intro i h k x hk
  simp only [V3] at h
  cases hy:bad i y with
  | some r=>rw [hy] at h; cases h
  | none=>
   rw [hy] at h
   cases k with
   | zero=>simp at hk; subst hk; exact hy
   | succ k=>
    have:=ih (i + 1) h k x (by simpa using hk)
    rwa [show i + (k + 1)=i + 1 + k by omega]
theorem D1P {gs:List E8} (h:V3 (B1i gs) 0 gs=none):gs.length≤64:=by
 apply Classical.byContradiction
 intro hn
 have hx:=Lg (show 64 < gs.length by omega)
 have:=A8p gs 0 h 64 _ hx
 unfold B1i at this
 split at this
 ·cases this
 ·split at this
  ·cases this
  ·simp at this
def A6y:H7:=⟨⟨#[]⟩,⟨#[]⟩,0⟩
def isG (gs:List E8) (n:ByteArray):Bool:=gs.any (fun y=>decide (y.F7=n))
def B8g (r:Q7) (i:Nat) (t:H7):Option (Int×Int):=
 if (t.H6 ≠ 1∧t.H6 ≠ 2)∨sLt t.fA t.fB=false∨(i ≠ 0∧tLt t (r.M9.getD (i - 1) A6y)=true) then some ((r.A8.length:Int) + i,23)
 else if isG r.A8 t.fA=false∨isG r.A8 t.fB=false then some ((r.A8.length:Int) + i,6)
 else if i ≠ 0∧tLt (r.M9.getD (i - 1) A6y) t=false then some ((r.A8.length:Int) + i,5)
 else if 256≤i then some ((r.A8.length:Int) + i,7) else none
theorem D1V (a b:H7):decide (B1D a b≤0)=!tLt b a:=by
 have h1:=C3Q a b
 have h2:=C4K a b
 rcases C6W a b with h | h | h
 ·have:=h1.2 h
  rw [B9h h]
  simp; omega
 ·have e:=h2.2 h
  rw [C3v h.1.symm h.2.symm]
  simp; omega
 ·rw [h]
  have n1:¬ B1D a b < 0:=fun q=>by have:=h1.1 q; rw [B9h h] at this; cases this
  have n2:¬ B1D a b=0:=fun q=>by have:=h2.1 q; rw [C3v this.1.symm this.2.symm] at h; cases h
  simp; omega
theorem C3e {a b:ByteArray} (h:sLt a b=true) (k:Int):A7q a b k=some ⟨a,b,k⟩:=by
 simp only [A7q,minS,maxS,h,Bool.true_or,Bool.not_true,Cy,Cn]
theorem C7N {gs:List E8} {L:List H7} {m:List (ByteArray×Int)} {t:H7} (hAB:sLt t.fA t.fB=true) (hL:L.length≤1000) (hn:∀ (k:Nat) x,L[k]?=some x→tLt x t=true) :
  A2t ⟨⟨gs,L⟩,m⟩ t.fA t.fB=some ((L.length:Int),false):=by
 have e:∀ x:H7,B1D x ⟨t.fA,t.fB,0⟩=B1D x t:=fun x=>rfl
 simp only [A2t,C3e hAB,Oz,B1H]
 rw [C4x (m:=L.length) (Nat.le_refl _) hL (fun k x hx _=>by rw [e,C3Q]; exact hn k x hx) (fun k x hx hk=>by have:=Q6 hx; omega)]
 simp
theorem C7r {gs:List E8} {L:List H7} {m:List (ByteArray×Int)} {t p:H7} (hAB:sLt t.fA t.fB=true) (hL:L.length≤1000) (h0:L ≠ []) (hp:L[L.length - 1]?=some p) (hs:p.fA=t.fA∧p.fB=t.fB)
  (hn:∀ (k:Nat) x,L[k]?=some x→k + 1 < L.length→tLt x p=true):∃ z,A2t ⟨⟨gs,L⟩,m⟩ t.fA t.fB=some (z,true):=by
 have e:∀ x:H7,B1D x ⟨t.fA,t.fB,0⟩=B1D x p:=fun x=>by unfold B1D; rw [hs.1,hs.2]
 have hpos:0 < L.length:=List.length_pos_iff.2 h0
 have h00:B1D p p=0:=(C4K p p).2 ⟨rfl,rfl⟩
 simp only [A2t,C3e hAB,Oz,B1H]
 rw [C4x (m:=L.length - 1) (by omega) hL (fun k x hx hk=>by rw [e,C3Q]; exact hn k x hx (by omega)) (fun k x hx hk=>by
  have:=Q6 hx
  have hk':k=L.length - 1:=by omega
  subst hk'
  rw [hp] at hx
  cases hx
  rw [e,h00]
  omega)]
 have hlt:((L.length - 1:Nat):Int) < (L.length:Int):=by omega
 simp only [Oz,Cd,if_pos hlt,K9 hp,B3A,e,h00]
 exact ⟨_,rfl⟩
theorem C5H {gs:List E8} {L:List H7} {m:List (ByteArray×Int)} (hk:Knows m gs) (a b:ByteArray) :
  iter (A8q ⟨⟨gs,L⟩,m⟩ a b) FUEL (0:Int)=some (if isG gs a=true∧isG gs b=true then .inl () else .inr ((6:Int),⟨⟨gs,L⟩,m⟩)):=by
 rw [C0S [a,b] (fun i n=>if isG gs n then none else some ((6:Int),(⟨⟨gs,L⟩,m⟩:L6))) (by rw [mx]; simp) (fun i n hn=>by
  have hi:=Q6 hn
  obtain ⟨v,hv⟩:=C1X hk n 0
  have hlt:(i:Int) < ([a,b].length:Int):=by omega
  have hr:=I4 (n:=i) (by simp at hi; omega)
  simp only [A8q,K9 hn,hv,hr,Oz,Cd,if_pos hlt]
  unfold isG
  cases gs.any (fun y=>decide (y.F7=n)) <;> simp) (by simp [A8q])]
 simp only [V3]
 cases isG gs a <;> cases isG gs b <;> rfl
def Asc (l:List H7):Prop:=∀ (a b:Nat) (x y:H7),a < b→l[a]?=some x→l[b]?=some y→tLt x y=true
theorem C4I {gs:List E8} {L:List H7} {m:List (ByteArray×Int)} (hk:Knows m gs) {t:H7} (hAB:sLt t.fA t.fB=true) :
  B6j ⟨⟨gs,L⟩,m⟩ t.fA t.fB t.H6=if t.H6 ≠ 1∧t.H6 ≠ 2 then some ((23:Int),⟨⟨gs,L⟩,m⟩) else if isG gs t.fA=false∨isG gs t.fB=false then some ((6:Int),⟨⟨gs,L⟩,m⟩) else A6k ⟨⟨gs,L⟩,m⟩ t.fA t.fB t.H6:=by
 have hne:¬ t.fA=t.fB:=fun e=>by rw [e,B3U] at hAB; cases hAB
 simp only [B6j,A4y,Oz,Cn,C5H hk,hne,decide_false]
 by_cases k1:t.H6=1
 ·cases isG gs t.fA <;> cases isG gs t.fB <;> simp [k1]
 ·by_cases k2:t.H6=2
  ·cases isG gs t.fA <;> cases isG gs t.fB <;> simp [k1,k2]
  ·simp [k1,k2]
theorem C5G {gs:List E8} {L:List H7} {m:List (ByteArray×Int)} {t:H7} {z:Int} (hp:A2t ⟨⟨gs,L⟩,m⟩ t.fA t.fB=some (z,true)) :
  A6k ⟨⟨gs,L⟩,m⟩ t.fA t.fB t.H6=some ((5:Int),⟨⟨gs,L⟩,m⟩):=by
 simp only [A6k,hp,Oz,Cy]
theorem C5S {gs:List E8} {L:List H7} {m:List (ByteArray×Int)} {t:H7} (hAB:sLt t.fA t.fB=true) (hL:L.length≤256) (hp:A2t ⟨⟨gs,L⟩,m⟩ t.fA t.fB=some ((L.length:Int),false)) :
  A6k ⟨⟨gs,L⟩,m⟩ t.fA t.fB t.H6=some (if 256≤L.length then ((7:Int),⟨⟨gs,L⟩,m⟩) else ((0:Int),⟨⟨gs,L ++ [t]⟩,m⟩)):=by
 simp only [A6k,hp,Oz,Cn,Cd]
 by_cases h:256≤L.length
 ·have:(L.length:Int)=256:=by omega
  simp [this,h]
 ·have h':¬ (L.length:Int)=256:=by omega
  have hb:bdV (L.length:Int) (L.length:Int) (L.length:Int)=some ():=by
   unfold bdV
   simp
  rw [if_neg h',if_neg h,C3e hAB]
  simp only [Oz,B7l,hb,Z4 (show L.length≤1000 by omega)]
  simp
theorem C0a {r:Q7} (h:OkR r) (hg:r.A8.length≤64) {m:List (ByteArray×Int)} (hm:Knows m r.A8) :
  match V3 (B8g r) 0 r.M9 with
  | some p=>iter (A2y r) FUEL (r.A8,([]:List H7),m,(0:Int))=some (.inr (none,p.1,p.2))
  | none=>∃ o,iter (A2y r) FUEL (r.A8,([]:List H7),m,(0:Int))=some o∧o=.inl (r.A8,r.M9,m):=by
 have hl:=h.ts
 rw [mx] at hl
 have:=C5b (f:=A2y r) r.M9 (B8g r) (fun s i=>i≤256∧s=(r.A8,r.M9.take i,m,(i:Int))∧Asc (r.M9.take i)) (fun p=>.inr (none,p.1,p.2))
  (fun o=>o=.inl (r.A8,r.M9,m))
  (fun s i t ht hs=>by
   obtain ⟨h256,rfl,hasc⟩:=hs
   have hi:=Q6 ht
   have hr:=I4 (n:=i) (by omega)
   have hra:J8 ((r.A8.length:Int) + (i:Int))=some ((r.A8.length:Int) + (i:Int)):=A0N (by omega) (by omega)
   have hlt:(i:Int) < (r.M9.length:Int):=by omega
   have hlen:(r.M9.take i).length=i:=by simp; omega
   have n23:(!decide ((23:Int)=(0:Int)))=true:=by decide
   simp only [A2y,B5g,K9 ht,hra,hr,Oz,Cd,if_pos hlt,n23,Cy]
   have hord:(if (i:Int)=0 then some true else Option.bind (J8 ((i:Int) - 1)) fun t165=>Option.bind (H5 r.M9 t165) fun e166=>Option.bind (A1f e166 t) fun t169=>some (decide (t169≤(0:Int)))) =
     some (!decide (i ≠ 0∧tLt t (r.M9.getD (i - 1) A6y)=true)):=by
    by_cases h0:i=0
    ·subst h0; simp
    ·have hp:=B3i (l:=r.M9) A6y hi h0
     have hc:((i:Int) - 1)=((i - 1:Nat):Int):=by omega
     have hne:¬ (i:Int)=0:=by omega
     rw [if_neg hne,hc,A0N (x:=((i - 1:Nat):Int)) (by omega) (by omega)]
     simp only [Oz,K9 hp,B3A,D1V,h0,ne_eq,not_false_iff,true_and]
     cases tLt t (r.M9.getD (i - 1) A6y) <;> simp
   rw [hord]
   unfold B8g
   cases hAB:sLt t.fA t.fB
   ·simp
   by_cases hq:i ≠ 0∧tLt t (r.M9.getD (i - 1) A6y)=true
   ·rw [if_pos (.inr (.inr hq)),Dt hq]
    rfl
   rw [Df hq]
   simp only [Bool.not_false,Cy,Oz,C4I hm hAB]
   by_cases hk:t.H6 ≠ 1∧t.H6 ≠ 2
   ·rw [if_pos (.inl hk),if_pos hk]
    rfl
   have c1:¬ ((t.H6 ≠ 1∧t.H6 ≠ 2)∨true=false∨(i ≠ 0∧tLt t (r.M9.getD (i - 1) A6y)=true)):=by
    rintro (q | q | q)
    ·exact hk q
    ·cases q
    ·exact hq q
   rw [if_neg c1,if_neg hk]
   by_cases hn:isG r.A8 t.fA=false∨isG r.A8 t.fB=false
   ·rw [if_pos hn,if_pos hn]
    rfl
   rw [if_neg hn,if_neg hn]
   by_cases h5:i ≠ 0∧tLt (r.M9.getD (i - 1) A6y) t=false
   ·rw [if_pos h5]
    have hp:=B3i (l:=r.M9) A6y hi h5.1
    have hsame:(r.M9.getD (i - 1) A6y).fA=t.fA∧(r.M9.getD (i - 1) A6y).fB=t.fB:=by
     rcases C6W (r.M9.getD (i - 1) A6y) t with q | q | q
     ·rw [h5.2] at q; cases q
     ·exact q
     ·exact absurd ⟨h5.1,q⟩ hq
    have hpt:(r.M9.take i)[(r.M9.take i).length - 1]?=some (r.M9.getD (i - 1) A6y):=by
     rw [hlen,List.getElem?_take,if_pos (by omega)]
     exact hp
    obtain ⟨z,hz⟩:=C7r (gs:=r.A8) (m:=m) hAB (show (r.M9.take i).length≤1000 by omega) (fun e=>by rw [e] at hlen; simp at hlen; exact h5.1 hlen.symm) hpt hsame (fun k x hx hk=>hasc k _ x _ (by omega) hx hpt)
    rw [C5G hz]
    rfl
   rw [if_neg h5]
   have hnew:∀ (k:Nat) x,(r.M9.take i)[k]?=some x→tLt x t=true:=by
    intro k x hx
    have hk':=Q6 hx
    have h0:i ≠ 0:=by omega
    have hp:=B3i (l:=r.M9) A6y hi h0
    have hl1:tLt (r.M9.getD (i - 1) A6y) t=true:=by
     cases q:tLt (r.M9.getD (i - 1) A6y) t with
     | true=>rfl
     | false=>exact absurd ⟨h0,q⟩ h5
    have hpt:(r.M9.take i)[i - 1]?=some (r.M9.getD (i - 1) A6y):=by
     rw [List.getElem?_take,if_pos (by omega)]
     exact hp
    by_cases hki:k=i - 1
    ·subst hki
     rw [hpt] at hx
     cases hx
     exact hl1
    ·exact C2k (hasc k (i - 1) x _ (by omega) hx hpt) hl1
   have hpl:=C7N (gs:=r.A8) (m:=m) hAB (show (r.M9.take i).length≤1000 by omega) hnew
   rw [C5S hAB (by omega) hpl,hlen]
   by_cases h6:256≤i
   ·rw [if_pos h6,if_pos h6]
    rfl
   ·rw [if_neg h6,if_neg h6]
    refine ⟨_,rfl,by omega,?_,?_⟩
    ·rw [A7m ht]
    ·rw [A7m ht]
     intro a b x y hab hx hy
     have hb:=Q6 hy
     simp only [List.length_append,hlen,List.length_cons,List.length_nil] at hb
     rw [List.getElem?_append_left (by omega)] at hx
     by_cases hbi:b < i
     ·rw [List.getElem?_append_left (by omega)] at hy
      exact hasc a b x y hab hx hy
     ·have:b=i:=by omega
      subst this
      rw [List.getElem?_append_right (by omega),hlen] at hy
      simp at hy
      subst hy
      exact hnew a x hx)
  (fun s hs=>by
   obtain ⟨_,rfl,_⟩:=hs
   exact ⟨.inl (r.A8,r.M9,m),by simp [A2y],rfl⟩)
  FUEL 0 (r.A8,[],m,0) ⟨by omega,by simp,fun a b x y _ hx _=>by simp at hx⟩ (Nat.zero_le _) (fuel (by omega))
 rw [List.drop_zero] at this
 cases hF:V3 (B8g r) 0 r.M9 with
 | some p=>rw [hF] at this; exact this
 | none=>rw [hF] at this; exact this
def B4v (r:Q7):Int×Int:=match V3 (B1i r.A8) 0 r.A8 with
 | some p=>p
 | none=>(V3 (B8g r) 0 r.M9).getD (0,0)
theorem B5B {r:Q7} (h:OkR r):A5A r=some (B4v r):=by
 have h0:=C0o h
 simp only [A5A,A7t,B4d,Oz,B4v]
 cases hF:V3 (B1i r.A8) 0 r.A8 with
 | some p=>rw [hF] at h0; simp only at h0; rw [h0]; rfl
 | none=>
  rw [hF] at h0
  obtain ⟨o,ho,m,rfl,hm⟩:=h0
  have h1:=C0a h (D1P hF) hm
  rw [ho]
  simp only [Oz]
  cases hT:V3 (B8g r) 0 r.M9 with
  | some p=>rw [hT] at h1; simp only at h1; rw [h1]; rfl
  | none=>
   rw [hT] at h1
   obtain ⟨o,ho,rfl⟩:=h1
   rw [ho]
   rfl
theorem D0x {r:Q7} (h:(B4v r).2=0):r.A8.length≤64:=by
 unfold B4v at h
 cases hF:V3 (B1i r.A8) 0 r.A8 with
 | none=>exact D1P hF
 | some p=>
  rw [hF] at h
  exfalso
  have key:∀ (xs:List E8) (i:Nat) (p:Int×Int),V3 (B1i r.A8) i xs=some p→p.2 ≠ 0:=by
   intro xs
   induction xs with
   | nil=>intro i p h; cases h
   | cons x xs ih=>
    intro i p h
    simp only [V3] at h
    cases hb:B1i r.A8 i x with
    | none=>rw [hb] at h; exact ih _ _ h
    | some q=>
     rw [hb] at h
     cases h
     unfold B1i at hb
     split at hb
     ·rename_i hc; cases hb; exact hc
     ·split at hb
      ·cases hb; simp
      ·split at hb
       ·cases hb; simp
       ·cases hb
  exact key _ _ _ hF h
end Go.Pl
namespace Go.Pl
open Go Go.Sl Go.Dm
structure OkU (r:F3):Prop where
 kind:0≤r.H6∧r.H6≤255
 a:r.fA.size≤maxLen
def A6Z (p:C9) (n:ByteArray):Int:=Z6 (fun x=>decide (x.F7=n)) 0 p.A8
def A4n (p:C9) (n:ByteArray):Int:=Z6 (fun x=>decide (x.F7=n)) 0 p.C8
theorem C3x {p:C9} (h:B7Z p.C8) (hc:(A8F p.C8).2=0) (n:ByteArray):B3W p.C8 n=some (bif decide (A4n p n < 0) then ((0:Int),false) else (A4n p n,true)):=by
 simp only [B3W,D3f h.1 (f:=fun y0=>B1R y0 n) (p:=fun x=>decide (x.F7=n)) (fun x=>rfl),A7O h,hc,Oz,A4n]
 by_cases hq:Z6 (fun x:D5=>decide (x.F7=n)) 0 p.C8 < 0 <;> simp [hq]
theorem C9m {t:D5} (h:A5D t=0):(A8F [t]).2=0:=by
 simp [A8F,A0M,B6b,h,C8w]
theorem C5E {p:C9} (h:B7Z p.C8) (hc:(A8F p.C8).2=0) {n:ByteArray} (hn:0≤A4n p n):∃ t:D5,p.C8[(A4n p n).toNat]?=some t∧
  (Option.bind (J8 (A4n p n + (1:Int))) fun t162=>Option.bind (sbL p.C8 (A4n p n) t162) fun t163=>Option.bind (A2r t163) fun t168=>Option.bind (J8 (t168 - (1:Int))) fun t176=>some t176)=some (M6 t - 1):=by
 have hl:=h.1
 rw [mx] at hl
 obtain ⟨k,e,hk⟩:=B9N _ _ 0 hn
 rw [Nat.zero_add] at e
 have e':A4n p n=(k:Int):=e
 have hx:=Lg hk
 have hm:=A0T hx
 have h0:=(B9d hc).2 _ hm
 have hs:=Z8 p.C8[k]
 have hsb:sbL p.C8 (k:Int) ((k + 1:Nat):Int)=some [p.C8[k]]:=by
  have:sbL p.C8 (k:Int) ((k + 1:Nat):Int)=(bif Nat.ble k (k + 1) && Nat.ble (k + 1) p.C8.length then some (Sl.sub p.C8 k (k + 1)) else none):=rfl
  rw [this,Nat.ble_eq_true_of_le (Nat.le_succ k),Nat.ble_eq_true_of_le hk]
  simp only [Bool.and_self,Cy,Sl.sub]
  congr 1
  rw [List.drop_take,Nat.add_sub_cancel_left,List.drop_eq_getElem_cons hk]
  rfl
 have hc1:A2r [p.C8[k]]=some (M6 p.C8[k]):=by
  rw [B1d ⟨by rw [mx]; simp,fun t ht=>by simp at ht; subst ht; exact h.2 _ hm⟩ (C9m h0)]
  simp [U2]
 refine ⟨p.C8[k],by rw [e']; exact hx,?_⟩
 rw [e',I4 (by omega)]
 simp only [Oz,hsb,hc1]
 rw [A0N (by omega) (by omega)]
 rfl
def KM:List (Int×G7):=(A9C).getD []
theorem B9o:A9C=some KM:=rfl
theorem C7K {m:List (Int×G7)} {k:Int} (h:∀ x ∈ m,k ≠ x.1):A4c m k=none:=by
 induction m with
 | nil=>rfl
 | cons x m ih=>
  obtain ⟨a,b⟩:=x
  simp only [A4c]
  rw [Df (h (a,b) (List.mem_cons_self ..)),Cn]
  exact ih (fun y hy=>h y (List.mem_cons_of_mem _ hy))
def zK:G7:=G7.mk (⟨#[]⟩:ByteArray) (0:Int) false (0:Int) false (0:Int) false (0:Nat)
theorem D0z:KM.all (fun x=>decide (1≤x.1) && decide (x.1≤18))=true:=rfl
theorem C8E {k:Int} (h:k < 1∨18 < k):lkM KM k zK=some (zK,false):=by
 unfold lkM
 rw [C7K (fun x hx e=>by
  have:=List.all_eq_true.1 D0z x hx
  simp only [Bool.and_eq_true,decide_eq_true_eq] at this
  omega)]
theorem D1C:lkM KM (1:Int) zK=some ((G7.mk (⟨#[97,112,97,114,116]⟩:ByteArray) (103:Int) true (0:Int) true (0:Int) false (87:Nat)),true):=rfl
theorem D1T:lkM KM (2:Int) zK=some ((G7.mk (⟨#[98,101,115,105,100,101]⟩:ByteArray) (103:Int) true (0:Int) false (0:Int) false (88:Nat)),true):=rfl
theorem D2c:lkM KM (3:Int) zK=some ((G7.mk (⟨#[97,99,114,111,115,115]⟩:ByteArray) (103:Int) true (0:Int) false (0:Int) false (89:Nat)),true):=rfl
theorem D1N:lkM KM (4:Int) zK=some ((G7.mk (⟨#[110,101,97,114]⟩:ByteArray) (103:Int) true (0:Int) true (1:Int) false (90:Nat)),true):=rfl
theorem D2i:lkM KM (5:Int) zK=some ((G7.mk (⟨#[116,111,103,101,116,104,101,114]⟩:ByteArray) (103:Int) true (0:Int) false (0:Int) false (91:Nat)),true):=rfl
theorem D1L:lkM KM (6:Int) zK=some ((G7.mk (⟨#[97,116]⟩:ByteArray) (103:Int) false (116:Int) false (0:Int) false (92:Nat)),true):=rfl
theorem C9Z:lkM KM (7:Int) zK=some ((G7.mk (⟨#[115,101,97,116]⟩:ByteArray) (103:Int) false (116:Int) true (0:Int) true (93:Nat)),true):=rfl
theorem D1p:lkM KM (8:Int) zK=some ((G7.mk (⟨#[97,108,116,101,114,110,97,116,101]⟩:ByteArray) (0:Int) false (101:Int) false (0:Int) false (94:Nat)),true):=rfl
theorem D1Z:lkM KM (9:Int) zK=some ((G7.mk (⟨#[104,111,115,116]⟩:ByteArray) (0:Int) false (101:Int) false (0:Int) false (95:Nat)),true):=rfl
theorem C8m:lkM KM (10:Int) zK=some ((G7.mk (⟨#[114,101,97,99,104]⟩:ByteArray) (101:Int) false (0:Int) false (0:Int) false (96:Nat)),true):=rfl
theorem C7Z:lkM KM (11:Int) zK=some ((G7.mk (⟨#[115,112,101,97,107]⟩:ByteArray) (0:Int) false (101:Int) false (0:Int) false (97:Nat)),true):=rfl
theorem C8t:lkM KM (12:Int) zK=some ((G7.mk (⟨#[112,101,97,99,101]⟩:ByteArray) (0:Int) false (101:Int) false (0:Int) false (98:Nat)),true):=rfl
theorem C8M:lkM KM (13:Int) zK=some ((G7.mk (⟨#[99,111,109,112,97,110,121]⟩:ByteArray) (0:Int) false (101:Int) false (0:Int) false (99:Nat)),true):=rfl
theorem C8v:lkM KM (14:Int) zK=some ((G7.mk (⟨#[104,111,110,111,117,114]⟩:ByteArray) (0:Int) false (101:Int) false (0:Int) false (100:Nat)),true):=rfl
theorem C8J:lkM KM (15:Int) zK=some ((G7.mk (⟨#[102,105,108,108]⟩:ByteArray) (0:Int) false (101:Int) true (0:Int) false (101:Nat)),true):=rfl
theorem C8Z:lkM KM (16:Int) zK=some ((G7.mk (⟨#[108,105,109,105,116]⟩:ByteArray) (0:Int) false (101:Int) true (0:Int) false (102:Nat)),true):=rfl
theorem C8r:lkM KM (17:Int) zK=some ((G7.mk (⟨#[107,105,116,99,104,101,110]⟩:ByteArray) (100:Int) false (116:Int) false (0:Int) false (103:Nat)),true):=rfl
theorem C7X:lkM KM (18:Int) zK=some ((G7.mk (⟨#[109,105,120]⟩:ByteArray) (0:Int) false (101:Int) false (0:Int) false (104:Nat)),true):=rfl
theorem C7q (K:G7) (r:F3):∃ b,A0w K r=some b:=by
 unfold A0w A0p A0n
 cases !decide (K.fa=(0:Int)) <;> cases K.fb <;> cases !decide (K.ft=(0:Int)) <;> cases decide (r.J2=(⟨#[]⟩:ByteArray)) <;> cases decide (r.fA=(⟨#[]⟩:ByteArray)) <;> cases decide (r.fB=(⟨#[]⟩:ByteArray)) <;> cases K.fn <;> exact ⟨_,rfl⟩
section
variable {p:C9} (hT:B7Z p.C8) (hc:(A8F p.C8).2=0) (hg:p.A8.length≤maxLen) {r:F3} (ha:r.fA.size≤maxLen)
include hT hc hg ha
theorem D2f {K:G7} (hs:K.A6j=true→K.ft=116):∃ c,A1D K p r=some c:=by
 have who:∀ n,A0O p n=some (A6Z p n):=fun n=>B0F hg n
 unfold A1D
 cases decide (K.A7b=(⟨#[]⟩:ByteArray)) with
 | true=>exact ⟨_,rfl⟩
 | false=>
  obtain ⟨b1,h1⟩:∃ b,(bif decide (r.J3 < (0:Int)) then some true else some (decide ((1000:Int) < r.J3)))=some b:=by cases decide (r.J3 < (0:Int)) <;> exact ⟨_,rfl⟩
  rw [Cn,h1,Oz]
  cases b1 with
  | true=>exact ⟨_,rfl⟩
  | false=>
   obtain ⟨b2,h2⟩:=C7q K r
   rw [Cn,h2,Oz]
   cases b2 with
   | false=>exact ⟨_,rfl⟩
   | true=>
    obtain ⟨b3,h3⟩:∃ b,(bif decide (K.fa=(103:Int)) then Option.bind (A0O p r.fA) fun t50=>some (decide (t50 < (0:Int))) else some false)=some b:=by
     rw [who]; cases decide (K.fa=(103:Int)) <;> exact ⟨_,rfl⟩
    simp only [Bool.not_true,Cn]
    rw [h3,Oz]
    unfold A7Y
    obtain ⟨b4,h4⟩:∃ b,(bif b3 then some b3 else A3H K p r)=some b:=by
     unfold A3H
     simp only [who,Oz]
     cases b3 <;> cases decide (K.fa=(101:Int)) <;> cases !decide (r.fA=(⟨#[]⟩:ByteArray)) <;> cases decide (A6Z p r.fA < 0) <;> cases K.fb <;> exact ⟨_,rfl⟩
    rw [h4,Oz]
    cases b4 with
    | true=>exact ⟨_,rfl⟩
    | false=>
     obtain ⟨b5,h5⟩:∃ b,(bif decide (K.fa=(100:Int)) then Option.bind (A9k r.fA) fun t113=>some (!t113) else some false)=some b:=by
      rw [B6W ha]; cases decide (K.fa=(100:Int)) <;> exact ⟨_,rfl⟩
     rw [Cn,h5,Oz]
     cases b5 with
     | true=>exact ⟨_,rfl⟩
     | false=>
      obtain ⟨b6,h6⟩:∃ b,(bif K.fb then some (decide (r.fA=r.fB)) else some false)=some b:=by cases K.fb <;> exact ⟨_,rfl⟩
      rw [Cn,h6,Oz]
      cases b6 with
      | true=>exact ⟨_,rfl⟩
      | false=>
       rw [Cn]
       unfold A7S
       rw [C3x hT hc]
       by_cases hlt:A4n p r.J2 < 0
       ·rw [Dt hlt,Cy,Oz]
        simp only [Bool.not_false,Cy]
        obtain ⟨b8,h8,h9⟩:∃ b,(bif decide (K.ft=(116:Int)) then some true else bif decide (K.ft=(101:Int)) then bif !decide (r.J2=(⟨#[]⟩:ByteArray)) then some true else some false else some false)=some b∧(b=false→K.ft ≠ 116):=by
         by_cases h116:K.ft=116
         ·rw [Dt h116]; exact ⟨_,rfl,fun h=>by cases h⟩
         ·rw [Df h116]; cases decide (K.ft=(101:Int)) <;> cases !decide (r.J2=(⟨#[]⟩:ByteArray)) <;> exact ⟨_,rfl,fun _=>h116⟩
        rw [h8,Oz]
        unfold A3F
        cases b8 with
        | true=>exact ⟨_,rfl⟩
        | false=>
         have hns:K.A6j=false:=by
          cases h:K.A6j with
          | false=>rfl
          | true=>exact absurd (hs h) (h9 rfl)
         rw [hns]
         simp only [Cn,Oz]
         cases K.fn <;> cases decide (r.fN < K.flo) <;> cases decide (24 < r.fN) <;> exact ⟨_,rfl⟩
       ·obtain ⟨t,_,ht⟩:=C5E hT hc (n:=r.J2) (by omega)
        rw [Df hlt,Cn,Oz]
        simp only [Bool.not_true,Cn]
        obtain ⟨b8,h8⟩:∃ b,(bif decide (K.ft=(116:Int)) then bif decide (K.ft=(101:Int)) then bif !decide (r.J2=(⟨#[]⟩:ByteArray)) then some false else some false else some false else bif decide (K.ft=(101:Int)) then bif !decide (r.J2=(⟨#[]⟩:ByteArray)) then some false else some false else some false)=some b:=by
         cases decide (K.ft=(116:Int)) <;> cases decide (K.ft=(101:Int)) <;> cases !decide (r.J2=(⟨#[]⟩:ByteArray)) <;> exact ⟨_,rfl⟩
        rw [h8,Oz]
        unfold A3F
        rw [ht]
        cases b8 <;> cases K.A6j <;> simp only [Cy,Cn,Oz] <;> cases K.fn <;> first | exact ⟨_,rfl⟩ | (cases decide (r.fN < K.flo) <;> first | exact ⟨_,rfl⟩ | (cases decide (24 < r.fN) <;> cases decide (M6 t - 1 < r.fN) <;> exact ⟨_,rfl⟩))
end
def KK (k:Int):G7:=((lkM KM k zK).getD (zK,false)).1
def rCk (p:C9) (r:F3):Int:=(A1D (KK r.H6) p r).getD 0
theorem C4Y {k:Int} {K:G7} {b:Bool} (h:lkM KM k zK=some (K,b)):KK k=K:=by unfold KK; rw [h]; rfl
theorem D2a {k:Int}:∃ b,lkM KM k zK=some (KK k,b)∧((KK k).A6j=true→(KK k).ft=116):=by
 by_cases ho:k < 1∨18 < k
 ·have:=C8E ho; rw [C4Y this]; exact ⟨_,this,fun h=>by cases h⟩
 ·rcases (show k=1∨k=2∨k=3∨k=4∨k=5∨k=6∨k=7∨k=8∨k=9∨k=10∨k=11∨k=12∨k=13∨k=14∨k=15∨k=16∨k=17∨k=18 by omega) with rfl | rfl | rfl | rfl | rfl | rfl | rfl | rfl | rfl | rfl | rfl | rfl | rfl | rfl | rfl | rfl | rfl | rfl
  all_goals first | exact ⟨_,rfl,fun _=>by rw [C4Y C9Z]⟩ | exact ⟨_,rfl,fun h=>by cases h⟩
theorem C9K {p:C9} (hT:B7Z p.C8) (hc:(A8F p.C8).2=0) (hg:p.A8.length≤maxLen) {r:F3} (hr:OkU r):∃ ok,lkM KM r.H6 zK=some (KK r.H6,ok)∧A1D (KK r.H6) p r=some (rCk p r):=by
 obtain ⟨b,h1,h2⟩:=D2a (k:=r.H6)
 obtain ⟨c,h3⟩:=D2f hT hc hg hr.a h2
 exact ⟨b,h1,by unfold rCk; rw [h3]; rfl⟩
end Go.Pl
namespace Go.Pl
open Go Go.Sl Go.Dm
def A6w (c:Int):Bool:=decide (0≤c) && decide (c < 64)
def B7F (p:C9):Int×Int:=
 if (A8F p.C8).2 ≠ 0 then A8F p.C8
 else if (B4v (Q7.mk p.A8 p.M9)).2 ≠ 0 then B4v (Q7.mk p.A8 p.M9)
 else if p.R8.length ≠ 0∧p.R8.length ≠ p.A8.length then (0,44)
 else if p.R8.all A6w=false then (0,44)
 else if U2 p.C8 < p.A8.length then (0,45) else (0,0)
structure OkP (p:C9):Prop where
 ts:B7Z p.C8
 r:OkR (Q7.mk p.A8 p.M9)
 cl:p.R8.length≤maxLen
 ru:p.F9.length≤maxLen
 u:∀ r ∈ p.F9,OkU r
theorem D2C {p:C9} (h:p.R8.length≤maxLen):iter (A5r p) FUEL (0:Int)=some (if p.R8.all A6w then .inl () else .inr (0,44)):=by
 rw [mx] at h
 rw [A1G p.R8 (fun i c=>if A6w c then none else some (.inr (0,44))) (.inl ()) (fuel h),B0j (ρ:=Unit⊕(Int×Int)) (fun i c=>if A6w c then none else some (.inr (0,44))) A6w (.inr (0,44)) (.inl ()) (fun i x=>rfl)]
 ·intro i c hx
  have hi:=Q6 hx
  simp only [A5r,K9 hx,Oz,Cd]
  rw [if_pos (by omega),I4 (by omega)]
  by_cases h1:c < 0
  ·have:A6w c=false:=by simp [A6w]; omega
   simp [h1,this]
  ·by_cases h2:64≤c
   ·have:A6w c=false:=by simp [A6w]; omega
    simp [h1,h2,this]
   ·have:A6w c=true:=by simp [A6w]; omega
    simp [h1,h2,this]
 ·simp [A5r]
theorem C1P {p:C9} (h:OkP p):B2v p=some (B7F p):=by
 simp only [B2v,B1G h.ts,Oz,B7F]
 by_cases hh:(A8F p.C8).2=0
 ·have hr:=B5B h.r
  simp only [hh,hr,Oz]
  by_cases h2:(B4v (Q7.mk p.A8 p.M9)).2=0
  ·simp only [h2,B4R,D2C h.cl,B1d h.ts hh,Oz]
   by_cases c0:p.R8.length=0
   ·have hn:¬ (0:Int) < (p.R8.length:Int):=by omega
    cases p.R8.all A6w
    ·simp [hn,c0]
    ·by_cases c3:U2 p.C8 < p.A8.length <;> simp [hn,c0,c3]
   ·have hn:(0:Int) < (p.R8.length:Int):=by omega
    have hn':0 < p.R8.length:=by omega
    by_cases c1:p.R8.length=p.A8.length
    ·have c1':(p.R8.length:Int)=(p.A8.length:Int):=by omega
     cases p.R8.all A6w
     ·simp [hn,c0,c1,c1']
     ·by_cases c3:U2 p.C8 < p.A8.length <;> simp [hn,c0,c1,c1',c3]
    ·have c1':¬ (p.R8.length:Int)=(p.A8.length:Int):=by omega
     simp [hn,hn',c0,c1,c1']
  ·simp [h2]
 ·simp [hh]
theorem B4l {p:C9} (h:(B7F p).2=0):(A8F p.C8).2=0:=by
 unfold B7F at h
 by_cases hh:(A8F p.C8).2=0
 ·exact hh
 ·rw [if_pos hh] at h; exact absurd h hh
def B7O (p:C9) (i:Nat) (r:F3):Option (Int×Int):=if rCk p r ≠ 0 then some ((i:Int),rCk p r) else if i=64 then some ((i:Int),7) else none
def C4L (p:C9):Int×Int:=if (B7F p).2 ≠ 0 then B7F p else (V3 (B7O p) 0 p.F9).getD (0,0)
theorem D0S {p:C9} (h:OkP p) (hb:(B7F p).2=0):iter (A5g p KM) FUEL (0:Int)=some (toE (V3 (B7O p) 0 p.F9)):=by
 have hl:=h.ru
 rw [mx] at hl
 refine C0S p.F9 (B7O p) h.ru (fun i r hx=>?_) (by simp [A5g])
 have hi:=Q6 hx
 obtain ⟨ok,lk,k1⟩:=C9K h.ts (B4l hb) h.r.gs (h.u r (A0T hx))
 have lk':lkM KM r.H6 (G7.mk (⟨#[]⟩:ByteArray) (0:Int) false (0:Int) false (0:Int) false (0:Nat))=some (KK r.H6,ok):=lk
 simp only [A5g,K9 hx,lk',k1,Oz]
 rw [D2A (Dt (show (i:Int) < (p.F9.length:Int) by omega)),I4 (by omega)]
 unfold B7O
 generalize rCk p r=c
 have e64:((i:Int)=64)↔i=64:=by omega
 by_cases h0:c=0
 ·by_cases h64:i=64
  ·subst h64; simp [h0]
  ·simp [h0,e64,h64]
 ·simp [h0]
theorem A3I {p:C9} (h:OkP p):A2u p=some (C4L p):=by
 simp only [A2u,C1P h,B9o,Oz,C4L]
 by_cases hb:(B7F p).2=0
 ·simp only [hb,D0S h hb,Oz]
  cases V3 (B7O p) 0 p.F9 <;> rfl
 ·simp [hb]
end Go.Pl
namespace Go.Pl
open Go Go.Sl Go.Dm
structure OkH (l:List D5):Prop where
 ok:B7Z l
 v:(A8F l).2=0
theorem OkH.len {l:List D5} (h:OkH l):l.length≤16:=(B9d h.v).1
theorem OkH.t {l:List D5} (h:OkH l) {t:D5} (ht:t ∈ l):A5D t=0:=(B9d h.v).2 t ht
theorem OkH.valid {l:List D5} (h:OkH l):A3f l=some true:=by rw [A7O h.ok,h.v]; rfl
def whR:List D5→Int→Nat→Option (Nat×Int)
 | [],_,_=>none
 | t::l,s,i=>if s < M6 t then some (i,s) else whR l (s - M6 t) (i + 1)
def whO:Option (Nat×Int)→Int×Int×Bool
 | some (i,k)=>((i:Int),k,true)
 | none=>(0,0,false)
theorem C5J {l:List D5} (hl:l.length≤16) {s:Int} (h0:0≤s) (h1:s≤maxLen) :
  iter (A3J l) FUEL (s,(0:Int))=some (match whR l s 0 with | some (i,k)=>.inr ((i:Int),k,true) | none=>.inl ()):=by
 rw [mx] at h1
 have key:∀ (m:Nat) (s:Int) (k n:Nat),l.length - k=m→k≤l.length→0≤s→s≤9223372036854775807→l.length - k < n→
   iter (A3J l) n (s,(k:Int))=some (match whR (l.drop k) s k with | some (i,k)=>.inr ((i:Int),k,true) | none=>.inl ()):=by
  intro m
  induction m with
  | zero=>
   intro s k n hm hk hs hs' hn
   obtain ⟨n,rfl⟩:∃ n',n=n' + 1:=⟨n - 1,by omega⟩
   have:k=l.length:=by omega
   subst this
   simp [iter,A3J,whR]
  | succ m ih=>
   intro s k n hm hk hs hs' hn
   obtain ⟨n,rfl⟩:∃ n',n=n' + 1:=⟨n - 1,by omega⟩
   have hlt:k < l.length:=by omega
   have hx:=Lg hlt
   have hb:=Z8 l[k]
   rw [List.drop_eq_getElem_cons hlt]
   simp only [iter,A3J,K9 hx,A2c,Oz,Cd,whR]
   rw [if_pos (by omega)]
   by_cases hc:s < M6 l[k]
   ·simp [hc]
   ·rw [if_neg hc,if_neg hc,A0N (by omega) (by omega),I4 (by omega)]
    simp only [Oz]
    exact ih (s - M6 l[k]) (k + 1) n (by omega) (by omega) (by omega) (by omega) (by omega)
 have:=key l.length s 0 FUEL (by omega) (by omega) h0 h1 (fuel (by omega))
 simpa using this
theorem C8O {l:List D5} (h:OkH l) {s:Int} (h1:s≤maxLen):A3a l s=some (whO (if s < 0 then none else whR l s 0)):=by
 simp only [A3a,h.valid,Oz,Cd]
 by_cases h0:s < 0
 ·simp [h0,whO]
 ·simp only [h0,if_false,Oz,Bool.not_true,Cn,C5J h.len (by omega:0≤s) h1]
  cases whR l s 0 with
  | none=>rfl
  | some p=>rfl
theorem C3Y:∀ (l:List D5) (s:Int) (i:Nat) {j:Nat} {k:Int},0≤s→whR l s i=some (j,k)→∃ t,l[j - i]?=some t∧i≤j∧0≤k∧k < M6 t∧s=U2 (l.take (j - i)) + k
 | [],_,_,_,_,_,h=>by cases h
 | x::l,s,i,j,k,h0,h=>by
  simp only [whR] at h
  split at h
  ·rename_i hc
   cases h
   exact ⟨x,by simp,Nat.le_refl _,h0,hc,by simp [U2]⟩
  ·rename_i hc
   obtain ⟨t,h1,h2,h3,h4,h5⟩:=C3Y l (s - M6 x) (i + 1) (by omega) h
   refine ⟨t,?_,by omega,h3,h4,?_⟩
   ·rw [show j - i=(j - (i + 1)) + 1 by omega]; exact h1
   ·rw [show j - i=(j - (i + 1)) + 1 by omega]
    simp only [U2,List.take_succ_cons,List.map_cons,List.sum_cons] at h5 ⊢
    omega
end Go.Pl
namespace Go.Pl
open Go Go.Sl Go.Dm
theorem A2p {x:Int} (h:-1000000000≤x) (h':x≤1000000000):J8 x=some x:=A0N (by omega) (by omega)
theorem B3Z {b c:Int} (h:0≤b) (h':b≤1000000000) (hc:0 < c):A5G b c=some (b / c):=by
 obtain ⟨m,rfl⟩:=Zn h
 obtain ⟨n,rfl⟩:=Zn (Int.le_of_lt hc)
 obtain ⟨n,rfl⟩:∃ k,n=k + 1:=⟨n - 1,by omega⟩
 unfold A5G
 have:Nat.ble m 9223372036854775807=true:=Nat.ble_eq_true_of_le (by omega)
 simp only [this,Cy]
 rfl
theorem C3u {b c:Int} (h:0≤b) (hc:0 < c):V9 b c=some (b % c):=by
 obtain ⟨m,rfl⟩:=Zn h
 obtain ⟨n,rfl⟩:=Zn (Int.le_of_lt hc)
 obtain ⟨n,rfl⟩:∃ k,n=k + 1:=⟨n - 1,by omega⟩
 rfl
theorem shapes {t:D5} (h:M6 t ≠ 0):(t.Q4=1∧1≤t.fA∧t.fA≤24∧t.fB=0)∨(t.Q4=2∧1≤t.fA∧t.fA≤11∧0≤t.fB∧t.fB≤2)∨(t.Q4=3∧1≤t.fA∧t.fA≤8∧1≤t.fB∧t.fB≤8)∨(t.Q4=4∧1≤t.fA∧t.fA≤24∧0≤t.fB∧t.fB≤t.fA):=by
 unfold M6 at h
 split at h
 ·split at h
  ·exact absurd rfl h
  ·left; omega
 ·split at h
  ·split at h
   ·exact absurd rfl h
   ·right; left; omega
  ·split at h
   ·split at h
    ·exact absurd rfl h
    ·right; right; left; omega
   ·split at h
    ·split at h
     ·exact absurd rfl h
     ·right; right; right; omega
    ·exact absurd rfl h
theorem D1y {s:Int} (hs:s=1):Y0 s=some (A1n.mk (⟨#[114,111,117,110,100]⟩:ByteArray) A3u A2L A2O B7W A8C,true):=by subst hs; rfl
theorem D0I {s:Int} (hs:s=2):Y0 s=some (A1n.mk (⟨#[108,111,110,103]⟩:ByteArray) A4k A3r A3n A3j A9H,true):=by subst hs; rfl
theorem D1z {s:Int} (hs:s=3):Y0 s=some (A1n.mk (⟨#[104,111,114,115,101,115,104,111,101]⟩:ByteArray) A4i A3z A3s B4q B0i,true):=by subst hs; rfl
theorem D2n {s:Int} (hs:s=4):Y0 s=some (A1n.mk (⟨#[114,111,119]⟩:ByteArray) A4V A3T B7T B3X B1h,true):=by subst hs; rfl
theorem B3G {α:Type} {b:Bool} {x y:Option α} (h:b=true→∃ z,x=some z) (k:b=false→∃ z,y=some z):∃ z,(bif b then x else y)=some z:=by
 cases b
 ·exact k rfl
 ·exact h rfl
theorem B5Y {α:Type} {p:Prop} [Decidable p] {x y:Option α} (h:p→∃ z,x=some z) (k:¬ p→∃ z,y=some z):∃ z,(bif decide p then x else y)=some z:=by
 by_cases hp:p
 ·simp only [hp,decide_true,Cy]; exact h hp
 ·simp only [hp,decide_false,Cn]; exact k hp
theorem A3e {α:Type} {p:Prop} [Decidable p] {x y:Option α} (h:¬ p→∃ z,x=some z) (k:p→∃ z,y=some z):∃ z,(bif !decide p then x else y)=some z:=by
 by_cases hp:p
 ·simp only [hp,decide_true,Bool.not_true,Cn]; exact k hp
 ·simp only [hp,decide_false,Bool.not_false,Cy]; exact h hp
theorem A4H {α β:Type} {x:Option α} {f:α→Option β} (h:∃ a,x=some a∧∃ z,f a=some z):∃ z,Option.bind x f=some z:=by
 obtain ⟨a,e,z,k⟩:=h
 exact ⟨z,by rw [e]; exact k⟩
theorem B5P {β:Type} {x:Int} {f:Int→Option β} (h:-1000000000≤x) (h':x≤1000000000) (k:∃ z,f x=some z):∃ z,Option.bind (J8 x) f=some z:=A4H ⟨x,A2p h h',k⟩
theorem B6h {β:Type} {b c:Int} {f:Int→Option β} (h:0≤b) (h':b≤1000000000) (hc:0 < c) (k:∃ z,f (b / c)=some z):∃ z,Option.bind (A5G b c) f=some z:=A4H ⟨_,B3Z h h' hc,k⟩
theorem B5K {β:Type} {b c:Int} {f:Int→Option β} (h:0≤b) (hc:0 < c) (k:∃ z,f (b % c)=some z):∃ z,Option.bind (V9 b c) f=some z:=A4H ⟨_,C3u h hc,k⟩
theorem A4K {α β:Type} {x:Option α} {f:α→Option β} (h:∃ a,x=some a) (k:∀ a,∃ z,f a=some z):∃ z,Option.bind x f=some z:=by
 obtain ⟨a,e⟩:=h
 exact A4H ⟨a,e,k a⟩
theorem C8L {a b:Int} (h:0≤a) (h':a≤24) (k:0≤b) (k':b≤24):∃ z,B1E a b=some z∧0≤z∧z≤25:=⟨a + min b 1,by simp (disch:=omega) only [B1E,A2p,Oz],by omega,by omega⟩
theorem B9A {a b m M:Int} (h1:1≤a) (h2:a≤24) (hm:0≤m) (hM:M < 24) (hmM:m≤M):∃ z,A2L a b m M=some z:=by
 unfold A2L
 repeat' (first | exact ⟨_,rfl⟩ | refine B5P (by omega) (by omega) ?_ | refine B6h (by omega) (by omega) (by omega) ?_ | refine B5K (by omega) (by omega) ?_ | refine B5Y (fun _=>?_) (fun _=>?_) | refine A3e (fun _=>?_) (fun _=>?_) | refine B3G (fun _=>?_) (fun _=>?_) | refine A4K ?_ (fun _=>?_))
theorem C1y {a b m M:Int} (h1:1≤a) (h2:a≤24) (h3:0≤b) (h4:b≤24) (hm:0≤m) (hM:M < 24) (hmM:m≤M):∃ z,A3r a b m M=some z:=by
 obtain ⟨z,e,z0,z1⟩:=C8L (a:=a) (b:=b) (by omega) h2 h3 h4
 unfold A3r A9X
 refine A4H ⟨z,e,?_⟩
 repeat' (first | exact ⟨_,rfl⟩ | refine B5P (by omega) (by omega) ?_ | refine B6h (by omega) (by omega) (by omega) ?_ | refine B5K (by omega) (by omega) ?_ | refine B5Y (fun _=>?_) (fun _=>?_) | refine A3e (fun _=>?_) (fun _=>?_) | refine B3G (fun _=>?_) (fun _=>?_) | refine A4K ?_ (fun _=>?_))
theorem C1s {a b m M:Int} (h1:1≤a) (h2:a≤24) (hm:0≤m) (hM:M < 24) (hmM:m≤M):∃ z,A3z a b m M=some z:=by
 unfold A3z
 repeat' (first | exact ⟨_,rfl⟩ | refine B5P (by omega) (by omega) ?_ | refine B6h (by omega) (by omega) (by omega) ?_ | refine B5K (by omega) (by omega) ?_ | refine B5Y (fun _=>?_) (fun _=>?_) | refine A3e (fun _=>?_) (fun _=>?_) | refine B3G (fun _=>?_) (fun _=>?_) | refine A4K ?_ (fun _=>?_))
theorem C3M {a b m M:Int} (h1:1≤a) (h2:a≤24) (h3:0≤b) (h4:b≤24) (hm:0≤m) (hM:M < 24) (hmM:m≤M):∃ z,A3T a b m M=some z:=by
 unfold A3T
 repeat' (first | exact ⟨_,rfl⟩ | refine B5P (by omega) (by omega) ?_ | refine B6h (by omega) (by omega) (by omega) ?_ | refine B5K (by omega) (by omega) ?_ | refine B5Y (fun _=>?_) (fun _=>?_) | refine A3e (fun _=>?_) (fun _=>?_) | refine B3G (fun _=>?_) (fun _=>?_) | refine A4K ?_ (fun _=>?_))
theorem C0t {a b m M:Int} (h1:1≤a) (h2:a≤24) (hm:0≤m) (hM:M < 24) (hmM:m≤M):∃ z,A2O a b m M=some z:=by
 unfold A2O
 repeat' (first | exact ⟨_,rfl⟩ | refine B5P (by omega) (by omega) ?_ | refine B6h (by omega) (by omega) (by omega) ?_ | refine B5K (by omega) (by omega) ?_ | refine B5Y (fun _=>?_) (fun _=>?_) | refine A3e (fun _=>?_) (fun _=>?_) | refine B3G (fun _=>?_) (fun _=>?_) | refine A4K ?_ (fun _=>?_))
theorem C1b {a b m M:Int} (h1:1≤a) (h2:a≤24) (h3:0≤b) (h4:b≤24) (hm:0≤m) (hM:M < 24) (hmM:m≤M):∃ z,A3n a b m M=some z:=by
 obtain ⟨z,e,z0,z1⟩:=C8L (a:=a) (b:=b) (by omega) h2 h3 h4
 unfold A3n
 rw [e]
 simp only [Oz]
 repeat' (first | exact ⟨_,rfl⟩ | refine B5P (by omega) (by omega) ?_ | refine B6h (by omega) (by omega) (by omega) ?_ | refine B5K (by omega) (by omega) ?_ | refine B5Y (fun _=>?_) (fun _=>?_) | refine A3e (fun _=>?_) (fun _=>?_) | refine B3G (fun _=>?_) (fun _=>?_) | refine A4K ?_ (fun _=>?_))
theorem C1K {a b m M:Int} (h1:1≤a) (h2:a≤24) (h3:0≤b) (h4:b≤24) (hm:0≤m) (hM:M < 24) (hmM:m≤M):∃ z,A3s a b m M=some z:=by
 unfold A3s
 repeat' (first | exact ⟨_,rfl⟩ | refine B5P (by omega) (by omega) ?_ | refine B6h (by omega) (by omega) (by omega) ?_ | refine B5K (by omega) (by omega) ?_ | refine B5Y (fun _=>?_) (fun _=>?_) | refine A3e (fun _=>?_) (fun _=>?_) | refine B3G (fun _=>?_) (fun _=>?_) | refine A4K ?_ (fun _=>?_))
theorem B4o {t:D5} (h:M6 t ≠ 0) {x y:Int} (hx:0≤x) (hx':x < 24) (hy:0≤y) (hy':y < 24):∃ b,A4f t x y=some b:=by
 have k1:0≤min x y:=by omega
 have k2:max x y < 24:=by omega
 have k3:min x y≤max x y:=by omega
 unfold A4f
 rcases shapes h with ⟨hs,h1,h2,h3⟩ | ⟨hs,h1,h2,h3,h4⟩ | ⟨hs,h1,h2,h3,h4⟩ | ⟨hs,h1,h2,h3,h4⟩
 ·refine A4H ⟨_,D1y hs,A3e (fun _=>A4K (B9A (b:=t.fB) h1 h2 k1 k2 k3) fun _=>⟨_,rfl⟩) (fun _=>⟨_,rfl⟩)⟩
 ·refine A4H ⟨_,D0I hs,A3e (fun _=>A4K (C1y h1 (by omega) h3 (by omega) k1 k2 k3) fun _=>⟨_,rfl⟩) (fun _=>⟨_,rfl⟩)⟩
 ·refine A4H ⟨_,D1z hs,A3e (fun _=>A4K (C1s (b:=t.fB) h1 (by omega) k1 k2 k3) fun _=>⟨_,rfl⟩) (fun _=>⟨_,rfl⟩)⟩
 ·refine A4H ⟨_,D2n hs,A3e (fun _=>A4K (C3M h1 h2 h3 (by omega) k1 k2 k3) fun _=>⟨_,rfl⟩) (fun _=>⟨_,rfl⟩)⟩
theorem B4m {t:D5} (h:M6 t ≠ 0) {x y:Int} (hx:0≤x) (hx':x < 24) (hy:0≤y) (hy':y < 24):∃ b,A3S t x y=some b:=by
 have k1:0≤min x y:=by omega
 have k2:max x y < 24:=by omega
 have k3:min x y≤max x y:=by omega
 unfold A3S
 rcases shapes h with ⟨hs,h1,h2,h3⟩ | ⟨hs,h1,h2,h3,h4⟩ | ⟨hs,h1,h2,h3,h4⟩ | ⟨hs,h1,h2,h3,h4⟩
 ·refine A4H ⟨_,D1y hs,A3e (fun _=>A4K (C0t (b:=t.fB) h1 h2 k1 k2 k3) fun _=>⟨_,rfl⟩) (fun _=>⟨_,rfl⟩)⟩
 ·refine A4H ⟨_,D0I hs,A3e (fun _=>A4K (C1b h1 (by omega) h3 (by omega) k1 k2 k3) fun _=>⟨_,rfl⟩) (fun _=>⟨_,rfl⟩)⟩
 ·refine A4H ⟨_,D1z hs,A3e (fun _=>A4K (C1K h1 (by omega) (by omega) (by omega) k1 k2 k3) fun _=>⟨_,rfl⟩) (fun _=>⟨_,rfl⟩)⟩
 ·refine A4H ⟨_,D2n hs,A3e (fun _=>⟨_,rfl⟩) (fun _=>⟨_,rfl⟩)⟩
theorem D0w {t:D5} (h:M6 t ≠ 0) {x y:Int} (hx:0≤x) (hx':x < 24) (hy:0≤y) (hy':y < 24):∃ b,B4h t x y=some b:=by
 unfold B4h
 refine A4K (B4o h hx hx' hy hy') fun b=>B3G (fun _=>⟨_,rfl⟩) fun _=>A4K (B4m h hx hx' hy hy') fun _=>⟨_,rfl⟩
theorem C9o {t:D5} (hs:t.Q4=1) (h1:1≤t.fA) (h2:t.fA≤24) (h3:t.fB=0):M6 t=t.fA:=by
 unfold M6; rw [if_pos hs,if_neg (by omega)]
theorem C5A {t:D5} (hs:t.Q4=2) (h1:1≤t.fA) (h2:t.fA≤11) (h3:0≤t.fB) (h4:t.fB≤2):M6 t=2 * t.fA + t.fB:=by
 unfold M6; rw [if_neg (by omega),if_pos hs,if_neg (by omega)]
theorem C9v {t:D5} (hs:t.Q4=3) (h1:1≤t.fA) (h2:t.fA≤8) (h3:1≤t.fB) (h4:t.fB≤8):M6 t=t.fA + 2 * t.fB:=by
 unfold M6; rw [if_neg (by omega),if_neg (by omega),if_pos hs,if_neg (by omega)]
theorem C8j {t:D5} (hs:t.Q4=4) (h1:1≤t.fA) (h2:t.fA≤24) (h3:0≤t.fB) (h4:t.fB≤t.fA):M6 t=t.fA:=by
 unfold M6; rw [if_neg (by omega),if_neg (by omega),if_neg (by omega),if_pos hs,if_neg (by omega)]
theorem C7j {t:D5} (h:M6 t ≠ 0):∃ lay k,Y0 t.Q4=some (lay,true)∧lay.B9f t.fA t.fB=some k∧0≤k∧k < M6 t:=by
 rcases shapes h with ⟨hs,h1,h2,h3⟩ | ⟨hs,h1,h2,h3,h4⟩ | ⟨hs,h1,h2,h3,h4⟩ | ⟨hs,h1,h2,h3,h4⟩
 ·exact ⟨_,0,D1y hs,rfl,by omega,by rw [C9o hs h1 h2 h3]; omega⟩
 ·by_cases hb:0 < t.fB
  ·exact ⟨_,t.fA,D0I hs,by simp only [A3j,hb,decide_true,Cy],by omega,by rw [C5A hs h1 h2 h3 h4]; omega⟩
  ·exact ⟨_,t.fA / 2,D0I hs,by simp only [A3j,hb,decide_false,Cn,B3Z (show 0≤t.fA by omega) (show t.fA≤1000000000 by omega) (show (0:Int) < 2 by omega),Oz],by omega,by rw [C5A hs h1 h2 h3 h4]; omega⟩
 ·exact ⟨_,t.fB + t.fA / 2,D1z hs,by simp only [B4q,B3Z (show 0≤t.fA by omega) (show t.fA≤1000000000 by omega) (show (0:Int) < 2 by omega),A2p (show -1000000000≤t.fB + t.fA / 2 by omega) (by omega),Oz],by omega,by rw [C9v hs h1 h2 h3 h4]; omega⟩
 ·exact ⟨_,t.fA / 2,D2n hs,by simp only [B3X,B3Z (show 0≤t.fA by omega) (show t.fA≤1000000000 by omega) (show (0:Int) < 2 by omega),Oz],by omega,by rw [C8j hs h1 h2 h3 h4]; omega⟩
end Go.Pl
namespace Go.Pl
open Go Go.Sl Go.Dm
def neg (l:List Int):Nat:=l.countP (fun x=>decide (x < 0))
theorem C4f {α:Type} (x:α) (l:List α):sbL (x::l) (1:Int) ((x::l).length:Int)=some l:=by
 show (bif Nat.ble 1 (x::l).length && Nat.ble (x::l).length (x::l).length then some (sub (x::l) 1 (x::l).length) else none)=some l
 have h1:Nat.ble 1 (x::l).length=true:=Nat.ble_eq_true_of_le (by simp)
 have h2:Nat.ble (x::l).length (x::l).length=true:=Nat.ble_eq_true_of_le (Nat.le_refl _)
 rw [h1,h2]
 simp [sub]
theorem B2p {α:Type} {xs ys:List α} (h:xs.length + ys.length≤1000000000):apL xs ys=some (xs ++ ys):=by
 unfold apL
 have:Nat.ble (xs.length + ys.length) 1073741824=true:=Nat.ble_eq_true_of_le (by omega)
 rw [this]; rfl
theorem D1s {α:Type} {n:Int} {z:α} (h:0≤n) (h':n≤1000000):mkL n z=some (List.replicate n.toNat z):=by
 obtain ⟨m,rfl⟩:=Zn h
 show (bif Nat.ble m 1073741824 then _ else _)=_
 have:Nat.ble m 1073741824=true:=Nat.ble_eq_true_of_le (by omega)
 rw [this]; rfl
theorem C6V {l:List Int} {i:Nat} {x:Int} (h:l[i]?=some x) (hx:x < 0) {a:Int} (ha:0≤a):neg (l.set i a) + 1=neg l:=by
 obtain ⟨hi,rfl⟩:=List.getElem?_eq_some_iff.1 h
 have hp:0 < l.countP (fun x=>decide (x < 0)):=List.countP_pos_iff.2 ⟨l[i],List.getElem_mem hi,by simpa using hx⟩
 unfold neg
 rw [List.countP_set hi]
 have:¬ a < 0:=by omega
 simp [hx,this]
 omega
theorem C8f (l:List Int):neg l≤l.length:=List.countP_le_length
structure StI (n:Nat) (out queue:List Int):Prop where
 len:out.length=n
 bd:∀ x ∈ out,-1≤x∧x + neg out≤n
 q:∀ k ∈ queue,0≤k∧k < n
theorem C4H {t:D5} (h:M6 t ≠ 0) {n:Nat} (hn:(n:Int)=M6 t) {out0:List Int} (h0:out0.length=n) {e:Int} (he:0≤e∧e < n) (M:Nat) (hM:M≤100) :
  ∀ (out queue:List Int),StI n out queue→2 * neg out + queue.length≤M→∃ r,iter (A7W t out0 e) FUEL (out,(0:Int),queue)=some r∧StI n r.1 r.2∧2 * neg r.1 + r.2.length≤M:=by
 intro out queue hI hm
 have hb:=Z8 t
 refine M8 (fun s=>∃ k:Nat,s.2.1=(k:Int)∧k≤n∧StI n s.1 s.2.2∧2 * neg s.1 + s.2.2.length≤M) (fun s=>n - s.2.1.toNat) _ ?_ FUEL _ ⟨0,rfl,by omega,hI,hm⟩ (fuel (by simp; omega))
 rintro ⟨out,i,queue⟩ ⟨k,hk,hkn,hI,hm⟩
 simp only at hk hm hI
 subst hk
 simp only [A7W,B4X,Cd]
 by_cases hlt:(k:Int) < (out0.length:Int)
 ·left
  have hk':k < out.length:=by rw [hI.len]; omega
  have hx:=Lg hk'
  obtain ⟨b,hb'⟩:=D0w h he.1 (show e < 24 by omega) (show (0:Int)≤(k:Int) by omega) (show (k:Int) < 24 by omega)
  rw [if_pos hlt]
  simp only [K9 hx,hb',I4 (show k < 9223372036854775807 by omega),Oz]
  have go:∃ s',(some (Sum.inl (out,((k + 1:Nat):Int),queue)):Option ((List Int×Int×List Int)⊕(List Int×List Int)))=some (Sum.inl s')∧(∃ k:Nat,s'.2.1=(k:Int)∧k≤n∧StI n s'.1 s'.2.2∧2 * neg s'.1 + s'.2.2.length≤M)∧n - s'.2.1.toNat < n - (k:Int).toNat:=
   ⟨_,rfl,⟨k + 1,rfl,by omega,hI,hm⟩,by simp; omega⟩
  by_cases hneg:out[k] < 0
  ·simp only [hneg,if_true,Oz]
   cases b
   ·exact go
   ·simp only [Cy]
    obtain ⟨e',rfl⟩:=Zn he.1
    have he':e' < out.length:=by rw [hI.len]; omega
    have hxe:=Lg he'
    have hbe:=hI.bd _ (List.getElem_mem he')
    have hns:=C6V hx hneg (a:=out[e'] + 1) (by omega)
    have hle:=C8f out
    rw [K9 hxe]
    simp only [Oz,A2p (show -1000000000≤out[e'] + 1 by omega) (by omega),Int.toNat_natCast,B2p (show queue.length + [(k:Int)].length≤1000000000 by simp; omega)]
    refine ⟨_,rfl,⟨k + 1,rfl,by omega,⟨by simp [hI.len],fun x hx'=>?_,fun q hq=>?_⟩,by simp; omega⟩,by simp; omega⟩
    ·dsimp only at hx' ⊢
     rcases List.mem_or_eq_of_mem_set hx' with hx' | rfl
     ·have:=hI.bd x hx'; omega
     ·omega
    ·dsimp only at hq
     rcases List.mem_append.1 hq with hq | hq
     ·exact hI.q q hq
     ·rw [List.mem_singleton] at hq; subst hq; omega
  ·simp only [hneg,if_false,Oz,Cn]
   exact go
 ·right
  rw [if_neg hlt]
  exact ⟨_,rfl,hI,hm⟩
theorem C8a {t:D5} (h:M6 t ≠ 0) {k:Int} (hk:0≤k) (hk':k < M6 t):∃ r,B1O t k=some r∧(r.length:Int)=M6 t∧∀ x ∈ r,-1≤x∧x≤24:=by
 have hb:=Z8 t
 obtain ⟨n,hn⟩:=Zn hb.1
 simp only [B1O,A2c,hn,Oz,D1s (show (0:Int)≤(n:Int) by omega) (by omega)]
 have l0:iter (A3A (List.replicate n (0:Int))) FUEL ((0:Int),List.replicate n (0:Int))=some (List.replicate n (-1:Int)):=by
  have:=A9i (f:=A3A (List.replicate n (0:Int))) (fun (a:List Int) (i:Nat)=>((i:Int),a)) (List.replicate n (0:Int)) (fun a i x=>.inl (a.set i (-1))) (fun a=>a) (fun a i=>a.length=n) (a:=List.replicate n (0:Int)) (by simp) (n:=FUEL) (fuel (by simp; omega))
   (fun a i x h hI=>by
    have hi:=Q6 h
    have hI:a.length=n:=hI
    have hi':i < n:=by simpa using hi
    have hx:=Lg (show i < a.length by omega)
    simp only [A3A,K9 hx,Oz,Cd,I4 (show i < 9223372036854775807 by omega),Int.toNat_natCast]
    rw [if_pos (by omega)]
    exact ⟨rfl,by simp [hI]⟩)
   (fun a _=>by simp [A3A])
  rw [show ((0:Int),List.replicate n (0:Int))=(fun (a:List Int) (i:Nat)=>((i:Int),a)) (List.replicate n (0:Int)) 0 from rfl,this]
  congr 1
  have key:∀ (m:Nat) (a:List Int) (i:Nat),i + m=a.length→A7a (fun (a:List Int) (i:Nat) (x:Int)=>(Sum.inl (a.set i (-1)):List Int⊕List Int)) (fun a=>a) a i (List.replicate m (0:Int))=a.take i ++ List.replicate m (-1):=by
   intro m
   induction m with
   | zero=>intro a i hi; simp [A7a,List.take_of_length_le (show a.length≤i by omega)]
   | succ m ih=>
    intro a i hi
    rw [List.replicate_succ]
    simp only [A7a]
    rw [ih _ (i + 1) (by simp; omega),List.take_add_one,List.take_set_of_le (Nat.le_refl _),List.getElem?_set_self (by omega)]
    simp [List.replicate_succ]
  rw [key n (List.replicate n 0) 0 (by simp)]
  simp
 simp only [Int.toNat_natCast,l0,Oz]
 obtain ⟨k,rfl⟩:=Zn hk
 have hx:(List.replicate n (-1:Int))[k]?=some (-1):=by rw [List.getElem?_replicate]; simp; omega
 simp only [K9 hx,Oz,Int.toNat_natCast]
 have hns:=C6V hx (by omega) (a:=(0:Int)) (by omega)
 have hle:=C8f (List.replicate n (-1:Int))
 rw [List.length_replicate] at hle
 obtain ⟨r,hr,hI⟩:=M8 (f:=A7z t) (fun s=>StI n s.1 s.2∧2 * neg s.1 + s.2.length≤100) (fun s=>2 * neg s.1 + s.2.length) (fun r=>∃ q,StI n r q) (fun s hs=>by
  obtain ⟨out,queue⟩:=s
  obtain ⟨hI,hm⟩:=hs
  simp only [A7z,Cd]
  cases queue with
  | nil=>right; exact ⟨_,rfl,[],hI⟩
  | cons e queue=>
   left
   have he:=hI.q e (by simp)
   rw [if_pos (by simp only [List.length_cons]; omega)]
   obtain ⟨r,hr,h1,h2⟩:=C4H h hn.symm hI.len he (2 * neg out + queue.length) (by simp at hm; omega) out queue ⟨hI.len,hI.bd,fun k hk=>hI.q k (by simp [hk])⟩ (Nat.le_refl _)
   simp only [show H5 (e::queue) (0:Int)=some e from rfl,Oz,C4f,hr]
   exact ⟨_,rfl,⟨h1,by simp at hm ⊢; omega⟩,by simp; omega⟩) FUEL ((List.replicate n (-1:Int)).set k 0,[(k:Int)])
  ⟨⟨by simp,fun x hx=>by
   dsimp only at hx ⊢
   rcases List.mem_or_eq_of_mem_set hx with hx | rfl
   ·rw [List.mem_replicate] at hx; omega
   ·omega,fun q hq=>by rw [List.mem_singleton] at hq; subst hq; omega⟩,by dsimp only; simp; omega⟩ (fuel (by dsimp only; simp; omega))
 obtain ⟨q,hI⟩:=hI
 exact ⟨r,by rw [hr]; rfl,by rw [hI.len],fun x hx=>by have:=hI.bd x hx; omega⟩
end Go.Pl
namespace Go.Pl
open Go Go.Sl Go.Dm
theorem B7M {l:List Int} (hl:l.length≤maxLen) (v:Int):A0Z l v=some (l.any fun y=>decide (v=y)):=by
 have:A3Y l v=some (Z6 (fun y=>decide (v=y)) 0 l):=by
  unfold A3Y
  refine B1I l _ hl (fun i x h=>?_) (by simp [A2J])
  have hi:=Q6 h
  rw [mx] at hl
  simp only [A2J,K9 h,Oz,Cd]
  rw [if_pos (by omega),I4 (by omega)]
  by_cases hx:v=x <;> simp [hx]
 simp only [A0Z,this,Oz]
 congr 1
 have:=B1q (fun y=>decide (v=y)) l 0
 cases h:l.any fun y=>decide (v=y)
 ·rw [h] at this; simp at this; exact Df (by omega)
 ·rw [h] at this; simp at this; exact Dt this
theorem containsS {l:List ByteArray} (hl:l.length≤maxLen) (v:ByteArray):A6K l v=some (l.any fun y=>decide (v=y)):=by
 have:B0y l v=some (Z6 (fun y=>decide (v=y)) 0 l):=by
  unfold B0y
  refine B1I l _ hl (fun i x h=>?_) (by simp [A6x])
  have hi:=Q6 h
  rw [mx] at hl
  simp only [A6x,K9 h,Oz,Cd]
  rw [if_pos (by omega),I4 (by omega)]
  by_cases hx:v=x <;> simp [hx]
 simp only [A6K,this,Oz]
 congr 1
 have:=B1q (fun y=>decide (v=y)) l 0
 cases h:l.any fun y=>decide (v=y)
 ·rw [h] at this; simp at this; exact Df (by omega)
 ·rw [h] at this; simp at this; exact Dt this
theorem C2m {t:D5} (h:M6 t ≠ 0):∃ r,A4h t=some r∧(r.length:Int)=M6 t:=by
 obtain ⟨lay,k,e1,e2,h1,h2⟩:=C7j h
 obtain ⟨r,e3,hr,hb⟩:=C8a h h1 h2
 have hs:=Z8 t
 simp only [A4h,e1,e2,e3,Oz]
 obtain ⟨q,hq,hl⟩:=M8 (f:=A6V r) (fun s=>s.1.length=r.length∧∃ k:Nat,s.2=(k:Int)∧k≤r.length) (fun s=>r.length - s.2.toNat) (fun q=>q.length=r.length) (fun s hs'=>by
  obtain ⟨a,i⟩:=s
  obtain ⟨hl,k,rfl,hk⟩:=hs'
  simp only at hl hk
  simp only [A6V,Cd]
  by_cases hlt:(k:Int) < (r.length:Int)
  ·left
   have hx:=Lg (show k < a.length by omega)
   rw [if_pos hlt]
   simp only [K9 hx,Oz,I4 (show k < 9223372036854775807 by omega),Int.toNat_natCast]
   by_cases hn:a[k] < 0
   ·rw [if_pos hn]
    exact ⟨_,rfl,⟨by simpa using hl,k + 1,rfl,by omega⟩,by dsimp only; omega⟩
   ·rw [if_neg hn]
    exact ⟨_,rfl,⟨hl,k + 1,rfl,by omega⟩,by dsimp only; omega⟩
  ·right
   rw [if_neg hlt]
   exact ⟨_,rfl,hl⟩) FUEL (r,(0:Int)) ⟨rfl,0,rfl,by omega⟩ (fuel (by dsimp only; omega))
 exact ⟨q,by rw [hq]; rfl,by rw [hl,hr]⟩
theorem A5K {l:List D5} (h:OkH l):0≤U2 l∧U2 l≤384:=by
 have:=A3c l
 have:=h.len
 omega
theorem B3Q {l:List D5} (h:OkH l) {s:Int} (h1:s≤1000000):(A3a l s=some (0,0,false))∨∃ (i:Nat) (k:Int) (t:D5),A3a l s=some ((i:Int),k,true)∧l[i]?=some t∧0≤k∧k < M6 t∧s=U2 (l.take i) + k:=by
 rw [C8O h (by rw [mx]; omega)]
 by_cases h0:s < 0
 ·left; rw [if_pos h0]; rfl
 ·rw [if_neg h0]
  cases hw:whR l s 0 with
  | none=>left; rfl
  | some p=>
   obtain ⟨i,k⟩:=p
   obtain ⟨t,ht,_,hk,hk',hs⟩:=C3Y l s 0 (by omega) hw
   exact .inr ⟨i,k,t,rfl,by simpa using ht,hk,hk',by simpa using hs⟩
theorem C9A {l:List D5} (h:OkH l) {s:Int} (h1:s≤1000000):∃ v,B1Q l s=some v:=by
 unfold B1Q
 rcases B3Q h h1 with e | ⟨i,k,t,e,ht,hk,hk',_⟩
 ·rw [e]; exact ⟨_,rfl⟩
 ·obtain ⟨r,hr,hl⟩:=C2m (t:=t) (by omega)
  obtain ⟨k,rfl⟩:=Zn hk
  have hx:=Lg (show k < r.length by omega)
  rw [e]
  simp only [Oz,Bool.not_true,Cn,K9 ht,hr,K9 hx]
  exact ⟨_,rfl⟩
theorem D0b {l:List D5} (h:OkH l) {s:Int} (h1:s≤1000000):∃ v,B4j l s=some v:=by
 unfold B4j
 rcases B3Q h h1 with e | ⟨i,k,t,e,ht,hk,hk',_⟩
 ·rw [e]; exact ⟨_,rfl⟩
 ·rw [e]
  simp only [Oz,Cy,K9 ht,B7M (h.ok.2 t (A0T ht)).2]
  exact ⟨_,rfl⟩
theorem C6z {l:List D5} (h:OkH l) {a b:Int} (h1:a≤1000000) (h2:b≤1000000):(∃ z,A9o l a b=some (z,0,0,false))∨∃ t x y,A9o l a b=some (t,x,y,true)∧t ∈ l∧0≤x∧x < M6 t∧0≤y∧y < M6 t:=by
 unfold A9o
 rcases B3Q h h1 with e | ⟨i,k,t,e,ht,hk,hk',_⟩
 ·rcases B3Q h h2 with e' | ⟨i',k',t',e',ht',hj,hj',_⟩ <;> (rw [e,e']; exact .inl ⟨_,rfl⟩)
 ·rcases B3Q h h2 with e' | ⟨i',k',t',e',ht',hj,hj',_⟩
  ·rw [e,e']; exact .inl ⟨_,rfl⟩
  ·rw [e,e']
   by_cases hi:(i:Int)=(i':Int)
   ·have:i=i':=by omega
    subst this
    rw [ht] at ht'
    cases ht'
    right
    refine ⟨t,k,k',?_,A0T ht,hk,hk',hj,hj'⟩
    simp [K9 ht]
   ·left
    refine ⟨D5.mk (⟨#[]⟩:ByteArray) (0:Int) (0:Int) (0:Int) ([]:List Int) (0:Int) (0:Int),?_⟩
    simp only [Oz,Bool.not_true,Cn,hi,decide_false,Bool.not_false,Cy]
theorem C7B {l:List D5} (h:OkH l) {a b:Int} (h1:a≤1000000) (h2:b≤1000000):∃ z,B0r l a b=some z:=by
 unfold B0r
 rcases C6z h h1 h2 with ⟨z,e⟩ | ⟨t,x,y,e,ht,hx,hx',hy,hy'⟩
 ·rw [e]; exact ⟨_,rfl⟩
 ·have:=Z8 t
  obtain ⟨z,hz⟩:=B4o (t:=t) (by omega) hx (by omega) hy (by omega)
  rw [e]
  simp only [Oz,Cy,hz]
  exact ⟨_,rfl⟩
theorem C7A {l:List D5} (h:OkH l) {a b:Int} (h1:a≤1000000) (h2:b≤1000000):∃ z,B0H l a b=some z:=by
 unfold B0H
 rcases C6z h h1 h2 with ⟨z,e⟩ | ⟨t,x,y,e,ht,hx,hx',hy,hy'⟩
 ·rw [e]; exact ⟨_,rfl⟩
 ·have:=Z8 t
  obtain ⟨z,hz⟩:=B4m (t:=t) (by omega) hx (by omega) hy (by omega)
  rw [e]
  simp only [Oz,Cy,hz]
  exact ⟨_,rfl⟩
theorem C4N {f:Nat} {n:Nat} (hf:f≤1000) (hn:n≤1000) {so:Int→Option Bool} (h:∀ k:Int,f≤k→k < f + n→∃ b,so k=some b) :
  ∃ r,A9s (f:Int) (n:Int) so=some r∧r.length≤n∧∀ x ∈ r,(f:Int)≤x∧x < f + n:=by
 obtain ⟨r,hr,hl⟩:=M8 (f:=A8e (f:Int) (n:Int) so) (fun s=>∃ k:Nat,s.2=((f + k:Nat):Int)∧k≤n∧s.1.length≤k∧∀ x ∈ s.1,(f:Int)≤x∧x < f + n) (fun s=>f + n - s.2.toNat) (fun r=>r.length≤n∧∀ x ∈ r,(f:Int)≤x∧x < f + n) (fun s hs=>by
  obtain ⟨a,i⟩:=s
  obtain ⟨k,hk,hkn,hl,hx⟩:=hs
  simp only at hk hl hx
  subst hk
  simp only [A8e,A2p (show -1000000000≤(f:Int) + (n:Int) by omega) (by omega),Oz,Cd]
  by_cases hlt:((f + k:Nat):Int) < (f:Int) + (n:Int)
  ·left
   obtain ⟨b,hb⟩:=h ((f + k:Nat):Int) (by omega) (by omega)
   rw [if_pos hlt,hb]
   simp only [Oz,I4 (show f + k < 9223372036854775807 by omega),Z4 (show a.length≤1000 by omega)]
   cases b
   ·exact ⟨_,rfl,⟨k + 1,rfl,by omega,by dsimp only; omega,hx⟩,by dsimp only; omega⟩
   ·refine ⟨_,rfl,⟨k + 1,rfl,by omega,by simp; omega,fun x hx'=>?_⟩,by dsimp only; omega⟩
    rcases List.mem_append.1 hx' with hx' | hx'
    ·exact hx x hx'
    ·rw [List.mem_singleton] at hx'; subst hx'; omega
  ·right
   rw [if_neg hlt]
   exact ⟨_,rfl,by omega,hx⟩) FUEL (([]:List Int),(f:Int)) ⟨0,rfl,by omega,by simp,fun x hx=>by cases hx⟩ (fuel (by dsimp only; omega))
 exact ⟨r,by simp only [A9s,hr,Oz],hl⟩
end Go.Pl
namespace Go.Pl
open Go Go.Sl Go.Dm
structure TbI (T N k:Nat) (tb lv:List Int) (op:List Bool) (bs ac:List (List Int)):Prop where
 tbl:tb.length=k
 lvl:lv.length=k
 opl:op.length=k
 bsl:bs.length=k
 acl:ac.length=k
 tbv:∀ x ∈ tb,0≤x∧x < T
 bsv:∀ r ∈ bs,r.length≤24∧∀ x ∈ r,0≤x∧x < N
 acv:∀ r ∈ ac,r.length≤24∧∀ x ∈ r,0≤x∧x < N
theorem B0o {α:Type} {P:α→Prop} {l:List α} {y:α} (h:∀ x ∈ l,P x) (hy:P y):∀ x ∈ l ++ [y],P x:=fun x hx=>by
 rcases List.mem_append.1 hx with hx | hx
 ·exact h x hx
 ·rw [List.mem_singleton] at hx; subst hx; exact hy
theorem C7b {p:C9} (h:OkH p.C8) {ti f n N:Nat} (hti:ti < p.C8.length) (hfn:f + n≤N) (hN:N≤384) (hn:n≤24) :
  ∀ (tb lv:List Int) (op:List Bool) (bs ac:List (List Int)),TbI p.C8.length N f tb lv op bs ac→
   ∃ r,iter (B0u p (ti:Int) (f:Int) (n:Int)) FUEL (tb,lv,op,bs,ac,(f:Int))=some r∧TbI p.C8.length N (f + n) r.1 r.2.1 r.2.2.1 r.2.2.2.1 r.2.2.2.2:=by
 intro tb lv op bs ac hI
 refine M8 (fun s=>∃ k:Nat,s.2.2.2.2.2=((f + k:Nat):Int)∧k≤n∧TbI p.C8.length N (f + k) s.1 s.2.1 s.2.2.1 s.2.2.2.1 s.2.2.2.2.1) (fun s=>f + n - s.2.2.2.2.2.toNat) _ ?_ FUEL _ ⟨0,rfl,by omega,hI⟩ (fuel (by dsimp only; omega))
 rintro ⟨tb,lv,op,bs,ac,i⟩ ⟨k,hk,hkn,hI⟩
 simp only at hk hI
 subst hk
 have h16:=h.len
 simp only [B0u,A2p (show -1000000000≤(f:Int) + (n:Int) by omega) (by omega),Oz,Cd]
 by_cases hlt:((f + k:Nat):Int) < (f:Int) + (n:Int)
 ·left
  obtain ⟨v1,e1⟩:=C9A h (s:=((f + k:Nat):Int)) (by omega)
  obtain ⟨v2,e2⟩:=D0b h (s:=((f + k:Nat):Int)) (by omega)
  obtain ⟨v3,e3,l3,b3⟩:=C4N (f:=f) (n:=n) (by omega) (by omega) (so:=fun y0=>B0d y0 p ((f + k:Nat):Int)) (fun q hq hq'=>by
   obtain ⟨z,hz⟩:=C7B h (a:=((f + k:Nat):Int)) (b:=q) (by omega) (by omega)
   exact ⟨z,by simp only [B0d,hz,Oz]⟩)
  obtain ⟨v4,e4,l4,b4⟩:=C4N (f:=f) (n:=n) (by omega) (by omega) (so:=fun y0=>A9Z y0 p ((f + k:Nat):Int)) (fun q hq hq'=>by
   obtain ⟨z,hz⟩:=C7A h (a:=((f + k:Nat):Int)) (b:=q) (by omega) (by omega)
   exact ⟨z,by simp only [A9Z,hz,Oz]⟩)
  rw [if_pos hlt]
  simp only [B8m,e1,e2,e3,e4,Z4 (show tb.length≤1000 by rw [hI.tbl]; omega),Z4 (show lv.length≤1000 by rw [hI.lvl]; omega),Z4 (show op.length≤1000 by rw [hI.opl]; omega),Z4 (show bs.length≤1000 by rw [hI.bsl]; omega),Z4 (show ac.length≤1000 by rw [hI.acl]; omega),Oz,I4 (show f + k < 9223372036854775807 by omega)]
  refine ⟨_,rfl,⟨k + 1,rfl,by omega,?_⟩,by dsimp only; omega⟩
  dsimp only
  exact ⟨by simp [hI.tbl]; omega,by simp [hI.lvl]; omega,by simp [hI.opl]; omega,by simp [hI.bsl]; omega,by simp [hI.acl]; omega,
   B0o hI.tbv ⟨by omega,by omega⟩,B0o hI.bsv ⟨by omega,fun x hx=>by have:=b3 x hx; omega⟩,B0o hI.acv ⟨by omega,fun x hx=>by have:=b4 x hx; omega⟩⟩
 ·right
  rw [if_neg hlt]
  have:k=n:=by omega
  subst this
  exact ⟨_,rfl,hI⟩
theorem C8Q (t:D5):U2 [t]=M6 t:=by simp [U2]
theorem OkH.one {l:List D5} (h:OkH l) {t:D5} (ht:t ∈ l):OkH [t]:=by
 refine ⟨⟨by rw [mx]; simp,fun x hx=>by rw [List.mem_singleton] at hx; subst hx; exact h.ok.2 x ht⟩,?_⟩
 have h0:=h.t ht
 simp [A8F,A0M,B6b,h0,C8w]
theorem OkH.first {l:List D5} (h:OkH l) {i:Nat} (hi:i < l.length):A2o l (i:Int)=some (U2 (l.take i)):=by
 have h16:=h.len
 unfold A2o
 have h1:decide ((i:Int) < 0)=false:=Df (by omega)
 have h2:decide ((l.length:Int)≤(i:Int))=false:=Df (by omega)
 simp only [h1,h2,Cn,h.valid,Oz,Bool.not_true,A9F (Nat.le_of_lt hi),B9Z (show (l.take i).length≤16 by simp; omega)]
theorem D0F {α:Type} {l:List α} {i:Nat} {x:α} (h:l[i]?=some x):sbL l (i:Int) ((i + 1:Nat):Int)=some [x]:=by
 obtain ⟨hi,rfl⟩:=List.getElem?_eq_some_iff.1 h
 show (bif Nat.ble i (i + 1) && Nat.ble (i + 1) l.length then some (sub l i (i + 1)) else none)=some [l[i]]
 have h1:Nat.ble i (i + 1)=true:=Nat.ble_eq_true_of_le (by omega)
 have h2:Nat.ble (i + 1) l.length=true:=Nat.ble_eq_true_of_le hi
 rw [h1,h2]
 simp only [Bool.and_self,Cy,sub]
 congr 1
 rw [List.take_add_one,List.drop_append,Lg hi]
 simp [Nat.min_eq_left (Nat.le_of_lt hi)]
theorem B3k (l:List D5):∀ i,U2 (l.take i)≤U2 l:=by
 intro i
 have:U2 l=U2 (l.take i) + U2 (l.drop i):=by
  conv=>lhs; rw [←List.take_append_drop i l]
  simp only [U2,List.map_append,List.sum_append]
 have:=(A3c (l.drop i)).1
 omega
theorem C7G {p:C9} (h:OkH p.C8) {N:Nat} (hN:U2 p.C8=(N:Int)) :
  ∃ r,iter (A5X p) FUEL (([]:List Int),([]:List Int),([]:List Bool),([]:List (List Int)),([]:List (List Int)),(0:Int))=some r∧TbI p.C8.length N N r.1 r.2.1 r.2.2.1 r.2.2.2.1 r.2.2.2.2:=by
 have h16:=h.len
 have hs:=A5K h
 refine M8 (fun s=>∃ k:Nat,s.2.2.2.2.2=(k:Int)∧k≤p.C8.length∧∃ f:Nat,(f:Int)=U2 (p.C8.take k)∧TbI p.C8.length N f s.1 s.2.1 s.2.2.1 s.2.2.2.1 s.2.2.2.2.1) (fun s=>p.C8.length - s.2.2.2.2.2.toNat) _ ?_ FUEL _
  ⟨0,rfl,by omega,0,by simp [U2],TbI.mk rfl rfl rfl rfl rfl (fun x hx=>by cases hx) (fun x hx=>by cases hx) (fun x hx=>by cases hx)⟩ (fuel (by dsimp only; omega))
 rintro ⟨tb,lv,op,bs,ac,i⟩ ⟨k,hk,hkn,f,hf,hI⟩
 simp only at hk hI
 subst hk
 simp only [A5X,Cd]
 by_cases hlt:(k:Int) < (p.C8.length:Int)
 ·left
  have hk':k < p.C8.length:=by omega
  have hx:=Lg hk'
  have hm:=List.getElem_mem hk'
  have hb:=Z8 p.C8[k]
  obtain ⟨n,hn⟩:=Zn hb.1
  have hts:=B0f p.C8 k hx
  have htl:=B3k p.C8 (k + 1)
  have hcount:A2r [p.C8[k]]=some (n:Int):=by rw [B1d (h.one hm).ok (h.one hm).v,C8Q,hn]
  rw [if_pos hlt]
  simp only [h.first hk',←hf,I4 (show k < 9223372036854775807 by omega),D0F hx,hcount,Oz]
  obtain ⟨r,hr,hI'⟩:=C7b h hk' (f:=f) (n:=n) (N:=N) (by omega) (by omega) (by omega) tb lv op bs ac hI
  rw [hr]
  simp only [Oz]
  exact ⟨_,rfl,⟨k + 1,rfl,by omega,f + n,by rw [hts]; omega,hI'⟩,by dsimp only; omega⟩
 ·right
  rw [if_neg hlt]
  have:k=p.C8.length:=by omega
  subst this
  rw [List.take_length] at hf
  have:f=N:=by omega
  subst this
  exact ⟨_,rfl,hI⟩
end Go.Pl
namespace Go.Pl
open Go Go.Sl Go.Dm
theorem C9U (p q:Nat→Bool) (k:Nat) (hk:p k=true) (hq:q k=false) (he:∀ i,i ≠ k→p i=q i):∀ N,k < N→(List.range N).countP p=(List.range N).countP q + 1:=by
 intro N
 induction N with
 | zero=>intro h; omega
 | succ N ih=>
  intro h
  rw [List.range_succ,List.countP_append,List.countP_append]
  by_cases hkn:k=N
  ·subst hkn
   have:(List.range k).countP p=(List.range k).countP q:=List.countP_congr (fun i hi=>by
    rw [List.mem_range] at hi
    rw [he i (by omega)])
   simp [this,hk,hq]
  ·rw [ih (by omega)]
   have:=he N (fun e=>hkn e.symm)
   simp [this]
   omega
def unv (N:Nat) (out:List (Int×Int)):Nat:=(List.range N).countP (fun i:Nat=>(A4c out (i:Int)).isNone)
theorem D0L {N:Nat} {out:List (Int×Int)} {k:Nat} (hk:k < N) (h:A4c out (k:Int)=none) (v:Int):unv N (A2q out (k:Int) v) + 1=unv N out:=by
 unfold unv
 rw [C9U (fun i:Nat=>(A4c out (i:Int)).isNone) (fun i:Nat=>(A4c (A2q out (k:Int) v) (i:Int)).isNone) k (by simp [h]) (by simp [A9l]) (fun i hi=>by
  have:¬ (i:Int)=(k:Int):=by omega
  simp [A9l,this]) N hk]
theorem C3b (N:Nat) (out:List (Int×Int)):unv N out≤N:=by
 unfold unv
 have:=List.countP_le_length (p:=fun i:Nat=>(A4c out (i:Int)).isNone) (l:=List.range N)
 simpa using this
structure WI (N:Nat) (out:List (Int×Int)) (line:List Int):Prop where
 mv:∀ k v,A4c out k=some v→0≤v∧v + unv N out≤N
 ln:∀ x ∈ line,0≤x∧x < N
theorem C5Y (m:List (Int×Int)) (k:Int):(∃ v,lkM m k (0:Int)=some (v,true)∧A4c m k=some v)∨(lkM m k (0:Int)=some (0,false)∧A4c m k=none):=by
 unfold lkM
 cases h:A4c m k with
 | none=>right; exact ⟨rfl,rfl⟩
 | some v=>left; exact ⟨v,rfl,rfl⟩
theorem C5P {N M:Nat} (hM:M≤2000) (hN:N≤384) {es:List Int} (hl:es.length≤24) (he:∀ x ∈ es,0≤x∧x < N) (hd:Int) :
  ∀ out rest,WI N out (hd::rest)→2 * unv N out + (hd::rest).length≤M→∃ r,iter (A7K es) FUEL ((0:Int),out,hd::rest)=some r∧∃ rest',r.2=hd::rest'∧WI N r.1 (hd::rest')∧2 * unv N r.1 + (hd::rest').length≤M:=by
 intro out rest hI hm
 refine M8 (fun s=>∃ k:Nat,s.1=(k:Int)∧k≤es.length∧∃ rest,s.2.2=hd::rest∧WI N s.2.1 (hd::rest)∧2 * unv N s.2.1 + (hd::rest).length≤M) (fun s=>es.length - s.1.toNat) _ ?_ FUEL _ ⟨0,rfl,by omega,rest,rfl,hI,hm⟩ (fuel (by dsimp only; omega))
 rintro ⟨i,out,line⟩ ⟨k,hk,hkn,rest,hr,hI,hm⟩
 simp only at hk hr hI hm
 subst hk; subst hr
 simp only [A7K,B5b,Cd]
 by_cases hlt:(k:Int) < (es.length:Int)
 ·left
  have hk':k < es.length:=by omega
  have hx:=Lg hk'
  have hb:=he _ (List.getElem_mem hk')
  generalize es[k]=e at hx hb
  rw [if_pos hlt]
  simp only [K9 hx,Oz,I4 (show k < 9223372036854775807 by omega)]
  rcases C5Y out e with ⟨v,h1,h2⟩ | ⟨h1,h2⟩
  ·rw [h1]
   exact ⟨_,rfl,⟨k + 1,rfl,by omega,rest,rfl,hI,hm⟩,by dsimp only; omega⟩
  ·rw [h1]
   have hle:=C3b N out
   obtain ⟨v,ok,h3,h4⟩:∃ v ok,lkM out hd (0:Int)=some (v,ok)∧0≤v∧v + unv N out≤N:=by
    rcases C5Y out hd with ⟨v,h3,h4⟩ | ⟨h3,_⟩
    ·exact ⟨v,_,h3,hI.mv _ _ h4⟩
    ·exact ⟨0,_,h3,by omega,by omega⟩
   obtain ⟨e',rfl⟩:=Zn hb.1
   have hu:=D0L (N:=N) (k:=e') (by omega) h2 (v + 1)
   simp only [Oz,Bool.not_false,Cy,show H5 (hd::rest) (0:Int)=some hd from rfl,h3,A2p (show -1000000000≤v + 1 by omega) (by omega),B2p (show (hd::rest).length + [(e':Int)].length≤1000000000 by simp at hm ⊢; omega)]
   refine ⟨_,rfl,⟨k + 1,rfl,by omega,rest ++ [(e':Int)],rfl,⟨fun q w hq=>?_,fun x hx=>?_⟩,by simp at hm ⊢; omega⟩,by dsimp only; omega⟩
   ·dsimp only at hq ⊢
    rw [A9l] at hq
    split at hq
    ·cases hq; omega
    ·have:=hI.mv q w hq; omega
   ·rw [←List.cons_append] at hx
    exact B0o hI.ln (y:=(e':Int)) ⟨by omega,by omega⟩ x hx
 ·right
  rw [if_neg hlt]
  exact ⟨_,rfl,rest,rfl,hI,hm⟩
theorem D0q {j:P9} {N:Nat} (hN:N≤384) (hb:j.Y5.length=N) (ha:j.A0D.length=N) (hbv:∀ r ∈ j.Y5,r.length≤24∧∀ x ∈ r,0≤x∧x < N) (hav:∀ r ∈ j.A0D,r.length≤24∧∀ x ∈ r,0≤x∧x < N)
  {f:Nat} (hf:f < N):∃ r,B1X j (f:Int)=some r∧∀ k v,A4c r k=some v→0≤v∧v≤N:=by
 unfold B1X
 have hmv:∀ k v,A4c (A2q ([]:List (Int×Int)) (f:Int) (0:Int)) k=some v→0≤v∧v + unv N (A2q ([]:List (Int×Int)) (f:Int) (0:Int))≤N:=fun k v h=>by
  rw [A9l] at h
  have:=C3b N (A2q ([]:List (Int×Int)) (f:Int) (0:Int))
  split at h
  ·cases h; omega
  ·cases h
 have hln:∀ x ∈ [(f:Int)],0≤x∧x < N:=fun x hx=>by rw [List.mem_singleton] at hx; subst hx; omega
 obtain ⟨r,hr,hq⟩:=M8 (f:=A8d j) (fun s=>WI N s.1 s.2∧2 * unv N s.1 + s.2.length≤2000) (fun s=>2 * unv N s.1 + s.2.length) (fun r=>∀ k v,A4c r k=some v→0≤v∧v≤N) (fun s hs=>by
  obtain ⟨out,line⟩:=s
  obtain ⟨hI,hm⟩:=hs
  simp only at hI hm
  simp only [A8d,Cd]
  cases line with
  | nil=>right; exact ⟨_,rfl,fun k v h=>by have:=hI.mv k v h; omega⟩
  | cons hd rest=>
   left
   have hh:=hI.ln hd (by simp)
   obtain ⟨d,rfl⟩:=Zn hh.1
   have h1:=Lg (show d < j.Y5.length by omega)
   have h2:=Lg (show d < j.A0D.length by omega)
   have v1:=hbv _ (List.getElem_mem (show d < j.Y5.length by omega))
   have v2:=hav _ (List.getElem_mem (show d < j.A0D.length by omega))
   generalize j.Y5[d]=e1 at h1 v1
   generalize j.A0D[d]=e2 at h2 v2
   rw [if_pos (by simp only [List.length_cons]; omega)]
   have g0:H5 ((d:Int)::rest) (0:Int)=some (d:Int):=rfl
   obtain ⟨q,hq,rest',e,hI',hm'⟩:=M8 (f:=A7H e1 e2) (fun s=>∃ k:Nat,s.1=(k:Int)∧k≤2∧∃ rest',s.2.2=(d:Int)::rest'∧WI N s.2.1 ((d:Int)::rest')∧2 * unv N s.2.1 + ((d:Int)::rest').length≤2 * unv N out + ((d:Int)::rest).length) (fun s=>2 - s.1.toNat)
    (fun r=>∃ rest',r.2=(d:Int)::rest'∧WI N r.1 ((d:Int)::rest')∧2 * unv N r.1 + ((d:Int)::rest').length≤2 * unv N out + ((d:Int)::rest).length) (fun s hs=>by
     obtain ⟨i,out',line'⟩:=s
     obtain ⟨k,hk,hk2,rest',e,hI',hm'⟩:=hs
     simp only at hk e hI' hm'
     subst hk; subst e
     simp only [A7H,Cd]
     by_cases hlt:(k:Int) < ([e1,e2].length:Int)
     ·left
      have hk':k < [e1,e2].length:=by omega
      have hx:=Lg hk'
      have hv:[e1,e2][k].length≤24∧∀ x ∈ [e1,e2][k],0≤x∧x < N:=by
       have:=List.getElem_mem hk'
       simp only [List.mem_cons,List.not_mem_nil,or_false] at this
       rcases this with h | h
       ·rw [h]; exact v1
       ·rw [h]; exact v2
      generalize [e1,e2][k]=es at hx hv
      obtain ⟨q,hq,rest'',e,hI'',hm''⟩:=C5P (M:=2 * unv N out + ((d:Int)::rest).length) hm hN hv.1 hv.2 (d:Int) out' rest' hI' hm'
      rw [if_pos hlt]
      simp only [K9 hx,hq,Oz,I4 (show k < 9223372036854775807 by simp at hk'; omega)]
      exact ⟨_,rfl,⟨k + 1,rfl,by simp at hk'; omega,rest'',e,hI'',hm''⟩,by simp at hk' ⊢; omega⟩
     ·right
      rw [if_neg hlt]
      exact ⟨_,rfl,rest',rfl,hI',hm'⟩) FUEL ((0:Int),out,(d:Int)::rest) ⟨0,rfl,by omega,rest,rfl,hI,Nat.le_refl _⟩ (fuel (by dsimp only; omega))
   obtain ⟨out',line'⟩:=q
   simp only at e hI' hm'
   subst e
   simp only [g0,K9 h1,K9 h2,Oz,hq,C4f]
   simp only [List.length_cons] at hm hm'
   exact ⟨_,rfl,⟨⟨hI'.mv,fun x hx=>hI'.ln x (by simp [hx])⟩,by dsimp only; omega⟩,by simp only [List.length_cons]; omega⟩) FUEL (A2q ([]:List (Int×Int)) (f:Int) (0:Int),[(f:Int)])
  ⟨WI.mk hmv hln,by have:=C3b N (A2q ([]:List (Int×Int)) (f:Int) (0:Int)); simp; omega⟩ (fuel (by have:=C3b N (A2q ([]:List (Int×Int)) (f:Int) (0:Int)); simp; omega))
 exact ⟨r,by simp only [Oz,hr],hq⟩
end Go.Pl
namespace Go.Pl
open Go Go.Sl Go.Dm
theorem B4r {τ:Type} {bad:Nat→τ→Option (Int×Int)} (hb:∀ i x p,bad i x=some p→p.2 ≠ 0):∀ (xs:List τ) (i:Nat) {p:Int×Int},V3 bad i xs=some p→p.2 ≠ 0
 | [],_,_,h=>by cases h
 | x::xs,i,p,h=>by
  simp only [V3] at h
  cases hx:bad i x with
  | none=>rw [hx] at h; exact B4r hb xs _ h
  | some q=>rw [hx] at h; cases h; exact hb _ _ _ hx
theorem D0j (gs:List E8):∀ i x p,B1i gs i x=some p→p.2 ≠ 0:=fun i x p h=>by
 unfold B1i at h
 split at h
 ·rename_i hc; cases h; exact hc
 ·split at h
  ·cases h; simp
  ·split at h
   ·cases h; simp
   ·cases h
theorem D0J (r:Q7):∀ i x p,B8g r i x=some p→p.2 ≠ 0:=fun i x p h=>by
 unfold B8g at h
 repeat' split at h
 all_goals (cases h; try simp)
theorem B7t {r:Q7} (h:(B4v r).2=0):V3 (B1i r.A8) 0 r.A8=none∧V3 (B8g r) 0 r.M9=none:=by
 unfold B4v at h
 cases hF:V3 (B1i r.A8) 0 r.A8 with
 | some p=>rw [hF] at h; exact absurd h (B4r (D0j _) _ _ hF)
 | none=>
  rw [hF] at h
  cases hT:V3 (B8g r) 0 r.M9 with
  | some p=>rw [hT] at h; exact absurd h (B4r (D0J _) _ _ hT)
  | none=>exact ⟨rfl,rfl⟩
theorem C9P {r:Q7} (h:OkR r) (hc:(B4v r).2=0):∃ m,A7t r=some (some ⟨⟨r.A8,r.M9⟩,m⟩,0,0)∧Knows m r.A8:=by
 obtain ⟨hF,hT⟩:=B7t hc
 have h0:=C0o h
 rw [hF] at h0
 obtain ⟨o,ho,m,rfl,hm⟩:=h0
 have h1:=C0a h (D1P hF) hm
 rw [hT] at h1
 obtain ⟨o,ho',rfl⟩:=h1
 refine ⟨m,?_,hm⟩
 simp only [A7t,B4d,Oz,ho,ho']
theorem D1B {r:Q7} (hc:(B4v r).2=0) {g:E8} (hg:g ∈ r.A8):A9N g=0:=by
 obtain ⟨k,hk⟩:=List.getElem?_of_mem hg
 have:=A8p _ 0 (B7t hc).1 k g hk
 unfold B1i at this
 split at this
 ·cases this
 ·rename_i h; exact Classical.byContradiction fun e=>h e
theorem C6Y {r:Q7} (hc:(B4v r).2=0):r.M9.length≤256:=by
 apply Classical.byContradiction
 intro hn
 have hx:=Lg (show 256 < r.M9.length by omega)
 have:=A8p _ 0 (B7t hc).2 256 _ hx
 unfold B8g at this
 repeat' split at this
 all_goals first | omega | cases this
theorem C5W {g:E8} (h:g.O4.length≤4):B0V g=some g:=C2C h
structure BkI (gs:List E8) (ts:List H7) (m:List (ByteArray×Int)):Prop where
 k:Knows m gs
 g:∀ g ∈ gs,g.O4.length≤4
 t:ts.length≤256
def zG:E8:=E8.mk (⟨#[]⟩:ByteArray) (⟨#[]⟩:ByteArray) (⟨#[]⟩:ByteArray) (0:Int) (0:Int) (⟨#[]⟩:ByteArray) false false ([]:List ByteArray)
theorem find_ok {gs:List E8} {ts:List H7} {m:List (ByteArray×Int)} (h:BkI gs ts m) (n:ByteArray):∃ g b,B1v ⟨⟨gs,ts⟩,m⟩ n=some (g,b)∧g.O4.length≤4:=by
 simp only [B1v,A4y,Oz,Cn]
 cases hm:A4c m n with
 | none=>
  have:lkM m n (0:Int)=some (0,false):=by unfold lkM; rw [hm]
  rw [this]
  exact ⟨zG,_,rfl,by simp [zG]⟩
 | some v=>
  have:lkM m n (0:Int)=some (v,true):=by unfold lkM; rw [hm]
  obtain ⟨k,rfl,hk⟩:=h.k.2 n v hm
  have hx:=Lg hk
  have ht:=h.g _ (List.getElem_mem hk)
  rw [this]
  simp only [Oz,Bool.not_true,Cn,K9 hx,C5W ht]
  exact ⟨_,_,rfl,ht⟩
theorem D4k {l:List ByteArray} (hl:l.length≤1000) {f:ByteArray→Option Bool} (hf:∀ x,∃ b,f x=some b):∃ v,A4B l f=some (v,l)∧(v=-1∨∃ k:Nat,v=(k:Int)∧k < l.length):=by
 unfold A4B
 obtain ⟨r,hr,hq⟩:=M8 (f:=A2A l f) (fun s=>∃ k:Nat,s=(k:Int)∧k≤l.length) (fun s=>l.length - s.toNat) (fun r=>r=.inl ()∨∃ k:Nat,r=.inr ((k:Int),l)∧k < l.length) (fun s hs=>by
  obtain ⟨k,rfl,hk⟩:=hs
  simp only [A2A,Cd]
  by_cases hlt:(k:Int) < (l.length:Int)
  ·have hk':k < l.length:=by omega
   have hx:=Lg hk'
   obtain ⟨b,hb⟩:=hf l[k]
   rw [if_pos hlt]
   simp only [K9 hx,hb,Oz,I4 (show k < 9223372036854775807 by omega)]
   cases b
   ·left; exact ⟨_,rfl,⟨k + 1,rfl,by omega⟩,by omega⟩
   ·right; exact ⟨_,rfl,.inr ⟨k,rfl,hk'⟩⟩
  ·right; rw [if_neg hlt]; exact ⟨_,rfl,.inl rfl⟩) FUEL 0 ⟨0,rfl,by omega⟩ (fuel (by simp; omega))
 rw [hr]
 rcases hq with rfl | ⟨k,rfl,hk⟩
 ·exact ⟨_,rfl,.inl rfl⟩
 ·exact ⟨_,rfl,.inr ⟨k,rfl,hk⟩⟩
theorem D2k {i n:Nat} (h:i≤n):bdV (i:Int) (n:Int) (n:Int)=some ():=by
 unfold bdV
 have:((i:Int)≤(n:Int)):=by omega
 simp [this]
theorem D4d {l:List ByteArray} (hl:l.length≤1000) {f:ByteArray→Option Bool} (hf:∀ x,∃ b,f x=some b):∃ r,A2N l f=some r:=by
 obtain ⟨v,e,hv⟩:=D4k hl hf
 simp only [A2N,e,Oz,Cd]
 rcases hv with rfl | ⟨k,rfl,hk⟩
 ·exact ⟨_,rfl⟩
 ·rw [if_neg (by omega)]
  simp only [I4 (show k < 9223372036854775807 by omega),Oz]
  obtain ⟨r,hr,i,hi,hi'⟩:=M8 (f:=A2C f) (fun s=>∃ i j:Nat,s.2.1=(i:Int)∧s.2.2=(j:Int)∧i < j∧j≤s.1.length∧s.1.length=l.length) (fun s=>l.length - s.2.2.toNat) (fun r=>∃ i:Nat,r.2=(i:Int)∧i≤r.1.length) (fun s hs=>by
   obtain ⟨a,x,y⟩:=s
   obtain ⟨i,j,hi,hj,hij,hj',hl'⟩:=hs
   simp only at hi hj hj' hl'
   subst hi; subst hj
   simp only [A2C,Cd]
   by_cases hlt:(j:Int) < (a.length:Int)
   ·left
    have hx:=Lg (show j < a.length by omega)
    have hx':=Lg (show i < a.length by omega)
    obtain ⟨b,hb⟩:=hf a[j]
    rw [if_pos hlt]
    simp only [K9 hx,K9 hx',hb,Oz,I4 (show j < 9223372036854775807 by omega),I4 (show i < 9223372036854775807 by omega)]
    cases b
    ·exact ⟨_,rfl,⟨i + 1,j + 1,rfl,rfl,by omega,by simp; omega,by simp; omega⟩,by dsimp only; omega⟩
    ·exact ⟨_,rfl,⟨i,j + 1,rfl,rfl,by omega,by dsimp only; omega,hl'⟩,by dsimp only; omega⟩
   ·right
    rw [if_neg hlt]
    exact ⟨_,rfl,i,rfl,by dsimp only; omega⟩) FUEL (l,(k:Int),((k + 1:Nat):Int)) ⟨k,k + 1,rfl,rfl,by omega,hk,rfl⟩ (fuel (by dsimp only; omega))
  obtain ⟨a,x⟩:=r
  simp only at hi hi'
  subst hi
  rw [hr]
  simp only [Oz,D2k hi',Int.toNat_natCast]
  have hlen:i≤(A3k a i (List.replicate (a.length - i) (⟨#[]⟩:ByteArray))).length:=by
   rw [C8X (by simp; omega)]; exact hi'
  rw [A9F hlen]
  exact ⟨_,rfl⟩
theorem C7z {gs:List E8} {ts:List H7} {m:List (ByteArray×Int)} (h:BkI gs ts m) (n n':ByteArray):∃ r,B0m ⟨⟨gs,ts⟩,m⟩ n n'=some r:=by
 obtain ⟨g,b,e,hg⟩:=find_ok h n
 obtain ⟨g',b',e',hg'⟩:=find_ok h n'
 simp only [B0m,e,e',Oz]
 cases b
 ·exact ⟨_,rfl⟩
 cases b'
 ·exact ⟨_,rfl⟩
 obtain ⟨r,hr⟩:=D4d (l:=g.O4) (by omega) (f:=fun y0=>A4z y0 g') (fun x=>by
  simp only [A4z,containsS (l:=g'.O4) (by rw [mx]; omega),Oz]
  exact ⟨_,rfl⟩)
 simp only [Bool.not_true,Cn]
 have hr':A2N g.O4 (fun y0=>A4z y0 (E8.mk g'.F7 g'.A1S g'.W9 g'.A0h g'.A0r g'.A0t g'.A0s g'.Y6 g'.O4))=some r:=hr
 rw [hr']
 exact ⟨_,rfl⟩
theorem D1k {L:List H7} (hL:L.length≤1000) (q:H7):∃ i:Nat,iter (A0X L q A1f) FUEL ((L.length:Int),(0:Int))=some (i:Int)∧i≤L.length:=by
 obtain ⟨r,hr,i,rfl,hi⟩:=M8 (f:=A0X L q A1f) (fun s=>∃ j i:Nat,s=((j:Int),(i:Int))∧i≤j∧j≤L.length) (fun s=>(s.1 - s.2).toNat) (fun r=>∃ i:Nat,r=(i:Int)∧i≤L.length)
  (fun s hs=>by
   obtain ⟨j,i,rfl,h1,h3⟩:=hs
   by_cases hc:i < j
   ·left
    have hlt:(i:Int) < (j:Int):=by omega
    have hmid:(i + j) / 2 < L.length:=by omega
    have hx:=Lg hmid
    have hs:A3P .u64 ((i + j:Nat):Int) (1:Int)=some (((i + j) / 2:Nat):Int):=by
     show (bif Nat.ble 1 (IntKind.u64.bits) then some (Int.ofNat ((i + j) / 2 ^ 1)) else none)=_
     rw [show Nat.ble 1 (IntKind.u64.bits)=true from rfl,Nat.pow_one]
     rfl
    have hsum:(i:Int) + (j:Int)=((i + j:Nat):Int):=by omega
    have e1:A0P .u64 ((i + j:Nat):Int)=some ((i + j:Nat):Int):=by
     unfold A0P; rw [wrap_u64 (by omega) (by omega)]; simp
    have e2:A0P .i64 (((i + j) / 2:Nat):Int)=some (((i + j) / 2:Nat):Int):=by
     unfold A0P; rw [wrap_i64 (by omega) (by omega)]; simp
    simp only [A0X,hsum,A0N (x:=((i + j:Nat):Int)) (by omega) (by omega),e1,hs,e2,K9 hx,B3A,Oz,Cd,if_pos hlt]
    by_cases ho:B1D L[(i + j) / 2] q < 0
    ·rw [if_pos ho,I4 (by omega)]
     exact ⟨_,rfl,⟨j,(i + j) / 2 + 1,rfl,by omega,h3⟩,by simp; omega⟩
    ·rw [if_neg ho]
     exact ⟨_,rfl,⟨(i + j) / 2,i,rfl,by omega,by omega⟩,by simp; omega⟩
   ·right
    have hlt:¬ (i:Int) < (j:Int):=by omega
    simp only [A0X,Cd,if_neg hlt]
    exact ⟨_,rfl,i,rfl,by omega⟩) FUEL ((L.length:Int),(0:Int)) ⟨L.length,0,rfl,by omega,by omega⟩ (fuel (by simp; omega))
 exact ⟨i,hr,hi⟩
theorem C9Q {gs:List E8} {ts:List H7} {m:List (ByteArray×Int)} (h:BkI gs ts m) (n n':ByteArray):∃ v b,B4n ⟨⟨gs,ts⟩,m⟩ n n'=some (v,b):=by
 have ht:=h.t
 obtain ⟨i,hi,hi'⟩:=D1k (L:=ts) (by omega) (H7.mk (minS n n') (maxS n n') (0:Int))
 simp only [B4n,A4y,A2t,A7q,B1H,hi,Oz,Cn,Cd]
 by_cases hlt:(i:Int) < (ts.length:Int)
 ·have hx:=Lg (show i < ts.length by omega)
  rw [if_pos hlt]
  simp only [K9 hx,B3A,Oz]
  cases decide (B1D ts[i] (H7.mk (minS n n') (maxS n n') (0:Int))=0)
  ·exact ⟨_,_,rfl⟩
  ·exact ⟨_,_,rfl⟩
 ·rw [if_neg hlt]
  exact ⟨_,_,rfl⟩
end Go.Pl
namespace Go.Pl
open Go Go.Sl Go.Dm
structure Vld (p:C9):Prop where
 ok:OkP p
 v:(C4L p).2=0
theorem D0P (p:C9):∀ i x q,B7O p i x=some q→q.2 ≠ 0:=fun i x q h=>by
 unfold B7O at h
 split at h
 ·rename_i hc; cases h; exact hc
 ·split at h
  ·cases h; simp
  ·cases h
theorem Vld.b {p:C9} (h:Vld p):(B7F p).2=0:=by
 have:=h.v
 unfold C4L at this
 split at this
 ·rename_i hc; exact absurd this hc
 ·rename_i hc; exact Classical.byContradiction fun e=>hc e
theorem Vld.rules {p:C9} (h:Vld p):V3 (B7O p) 0 p.F9=none:=by
 have:=h.v
 unfold C4L at this
 rw [if_neg (by simp [h.b])] at this
 cases hF:V3 (B7O p) 0 p.F9 with
 | none=>rfl
 | some q=>rw [hF] at this; exact absurd this (B4r (D0P p) _ _ hF)
theorem Vld.eq {p:C9} (h:Vld p):C4L p=(0,0):=by
 unfold C4L
 rw [if_neg (by simp [h.b]),h.rules]
 rfl
theorem Vld.h {p:C9} (h:Vld p):OkH p.C8:=⟨h.ok.ts,B4l h.b⟩
theorem Vld.roll {p:C9} (h:Vld p):(B4v (Q7.mk p.A8 p.M9)).2=0:=by
 have:=h.b
 unfold B7F at this
 rw [if_neg (by simp [B4l h.b])] at this
 split at this
 ·rename_i hc; exact absurd this hc
 ·rename_i hc; exact Classical.byContradiction fun e=>hc e
theorem Vld.rest {p:C9} (h:Vld p):(p.R8.length=0∨p.R8.length=p.A8.length)∧p.R8.all A6w=true∧(p.A8.length:Int)≤U2 p.C8:=by
 have:=h.b
 unfold B7F at this
 rw [if_neg (by simp [B4l h.b]),if_neg (by simp [h.roll])] at this
 split at this
 ·simp at this
 rename_i h1
 split at this
 ·simp at this
 rename_i h2
 split at this
 ·simp at this
 rename_i h3
 refine ⟨by omega,by simpa using h2,by omega⟩
theorem Vld.B2y {p:C9} (h:Vld p):p.A8.length≤64:=D0x (r:=Q7.mk p.A8 p.M9) h.roll
theorem Vld.ties {p:C9} (h:Vld p):p.M9.length≤256:=C6Y (r:=Q7.mk p.A8 p.M9) h.roll
theorem Vld.C9f {p:C9} (h:Vld p) {g:E8} (hg:g ∈ p.A8):g.O4.length≤4:=C0v (D1B (r:=Q7.mk p.A8 p.M9) h.roll hg)
theorem Vld.D2m {p:C9} (h:Vld p):p.F9.length≤64:=by
 apply Classical.byContradiction
 intro hn
 have hx:=Lg (show 64 < p.F9.length by omega)
 have:=A8p _ 0 h.rules 64 _ hx
 unfold B7O at this
 split at this
 ·cases this
 ·rw [if_pos (by omega)] at this; cases this
theorem Vld.rule {p:C9} (h:Vld p) {r:F3} (hr:r ∈ p.F9):rCk p r=0:=by
 obtain ⟨k,hk⟩:=List.getElem?_of_mem hr
 have:=A8p _ 0 h.rules k r hk
 unfold B7O at this
 split at this
 ·cases this
 ·rename_i hc; exact Classical.byContradiction fun e=>hc e
theorem B9C:∀ (l:List Int) (n a:Int),a < n→A9S n a l=true→a + l.length < n
 | [],n,a,h,_=>by simp; omega
 | x::l,n,a,h,k=>by
  simp only [A9S,Bool.and_eq_true,decide_eq_true_eq] at k
  have:=B9C l n x k.1.2 k.2
  simp only [List.length_cons]
  omega
theorem A6O {t:D5} (h:A5D t=0):A4J t.F7=true∧M6 t ≠ 0∧A9S (M6 t) (-1) t.A2M=true:=by
 unfold A5D at h
 split at h
 ·omega
 rename_i h1
 split at h
 ·omega
 rename_i h2
 split at h
 ·omega
 rename_i h3
 exact ⟨by simpa using h1,h2,by simpa using h3⟩
theorem C4h {t:D5} (h:A5D t=0):t.A2M.length≤24:=by
 have hb:=Z8 t
 obtain ⟨_,h2,h3⟩:=A6O h
 have:=B9C t.A2M (M6 t) (-1) (by omega) h3
 omega
theorem D1X {l:List D5} (h:l.length≤1000):A7B l=some l:=by simp only [A7B,B2p (show ([]:List D5).length + l.length≤1000000000 by simp; omega),Oz,List.nil_append]
theorem D1q {l:List E8} (h:l.length≤1000):A8a l=some l:=by simp only [A8a,B2p (show ([]:List E8).length + l.length≤1000000000 by simp; omega),Oz,List.nil_append]
theorem C8A {l:List H7} (h:l.length≤1000):B0z l=some l:=by simp only [B0z,B2p (show ([]:List H7).length + l.length≤1000000000 by simp; omega),Oz,List.nil_append]
theorem C3c {l:List Int} (h:l.length≤1000):A0Y l=some l:=by simp only [A0Y,B2p (show ([]:List Int).length + l.length≤1000000000 by simp; omega),Oz,List.nil_append]
theorem D1Q {l:List ByteArray} (h:l.length≤1000):A4e l=some l:=by simp only [A4e,B2p (show ([]:List ByteArray).length + l.length≤1000000000 by simp; omega),Oz,List.nil_append]
theorem D1x {l:List F3} (h:l.length≤1000):A8Y l=some l:=by simp only [A8Y,B2p (show ([]:List F3).length + l.length≤1000000000 by simp; omega),Oz,List.nil_append]
theorem C0M {α τ ρ:Type} (body:α→Nat→τ→α⊕ρ) (fin:α→ρ) (hb:∀ a i x,body a i x=.inl a):∀ (xs:List τ) (a:α) (i:Nat),A7a body fin a i xs=fin a
 | [],_,_=>rfl
 | x::xs,a,i=>by simp only [A7a,hb]; exact C0M body fin hb xs a (i + 1)
theorem B6o {α:Type} {l:List α} {i:Nat} {x:α} (h:l[i]?=some x):l.set i x=l:=by
 obtain ⟨hi,rfl⟩:=List.getElem?_eq_some_iff.1 h
 exact List.set_getElem_self hi
theorem B3E {p:C9} (h:Vld p):A5W p=some p:=by
 have h16:=h.h.len
 have hg:=h.B2y
 have ht:=h.ties
 have hr:=h.D2m
 have hc:=h.rest.1
 have l0:iter (A2P p.C8) FUEL (p.C8,(0:Int))=some p.C8:=by
  have:=A9i (f:=A2P p.C8) (fun (a:List D5) (i:Nat)=>(a,(i:Int))) p.C8 (fun a i x=>.inl a) (fun a=>a) (fun a i=>a=p.C8) (a:=p.C8) rfl (n:=FUEL) (fuel (by omega))
   (fun a i x hx hI=>by
    subst hI
    have hi:=Q6 hx
    have ho:=C4h (h.h.t (A0T hx))
    simp only [A2P,K9 hx,C3c (show x.A2M.length≤1000 by omega),Oz,Cd,I4 (show i < 9223372036854775807 by omega),Int.toNat_natCast]
    rw [if_pos (by omega)]
    exact ⟨by rw [show D5.mk x.F7 x.Q4 x.fA x.fB x.A2M x.fX x.fY=x from rfl,B6o hx],trivial⟩)
   (fun a _=>by simp [A2P])
  rw [show (p.C8,(0:Int))=(fun (a:List D5) (i:Nat)=>(a,(i:Int))) p.C8 0 from rfl,this,C0M _ _ (fun _ _ _=>rfl)]
 have l1:iter (A2Q p.A8) FUEL (p.A8,(0:Int))=some p.A8:=by
  have:=A9i (f:=A2Q p.A8) (fun (a:List E8) (i:Nat)=>(a,(i:Int))) p.A8 (fun a i x=>.inl a) (fun a=>a) (fun a i=>a=p.A8) (a:=p.A8) rfl (n:=FUEL) (fuel (by omega))
   (fun a i x hx hI=>by
    subst hI
    have hi:=Q6 hx
    have ho:=h.C9f (A0T hx)
    simp only [A2Q,K9 hx,D1Q (show x.O4.length≤1000 by omega),Oz,Cd,I4 (show i < 9223372036854775807 by omega),Int.toNat_natCast]
    rw [if_pos (by omega)]
    exact ⟨by rw [show E8.mk x.F7 x.A1S x.W9 x.A0h x.A0r x.A0t x.A0s x.Y6 x.O4=x from rfl,B6o hx],trivial⟩)
   (fun a _=>by simp [A2Q])
  rw [show (p.A8,(0:Int))=(fun (a:List E8) (i:Nat)=>(a,(i:Int))) p.A8 0 from rfl,this,C0M _ _ (fun _ _ _=>rfl)]
 simp only [A5W,D1X (show p.C8.length≤1000 by omega),l0,D1q (show p.A8.length≤1000 by omega),l1,C8A (show p.M9.length≤1000 by omega),C3c (show p.R8.length≤1000 by omega),D1x (show p.F9.length≤1000 by omega),Oz]
structure JOk (j:P9) (p:C9) (N:Nat):Prop where
 given:j.P6=p
 kinds:j.B7L=KM
 n:(N:Int)=U2 p.C8
 tb:TbI p.C8.length N N j.A0d j.B6f j.C2v j.Y5 j.A0D
 st:j.A2E.length=N
 stv:∀ r ∈ j.A2E,∀ k v,A4c r k=some v→0≤v∧v≤N
 cm:j.B0q.length=p.A8.length
 cmv:∀ r ∈ j.B0q,r.length=p.A8.length
 ti:j.A0E.length=p.A8.length
 tiv:∀ r ∈ j.A0E,r.length=p.A8.length
theorem D1S {p:C9} (h:Vld p):∃ j N,A6R p=some (some j,0,0)∧JOk j p N:=by
 obtain ⟨N,hN⟩:=Zn (A3c p.C8).1
 have hs:=A5K h.h
 have hg:=h.B2y
 obtain ⟨⟨tb,lv,op,bs,ac⟩,e1,hI⟩:=C7G h.h hN
 dsimp only at hI
 obtain ⟨st,e2,h2,h2v⟩:∃ st,iter (A6f p KM tb lv op bs ac) FUEL (([]:List (List (Int×Int))),(0:Int))=some st∧st.length=N∧∀ r ∈ st,∀ k v:Int,A4c r k=some v→0≤v∧v≤(N:Int):=by
  refine M8 (fun s=>∃ k:Nat,s.2=(k:Int)∧k≤N∧s.1.length=k∧∀ r ∈ s.1,∀ k v:Int,A4c r k=some v→0≤v∧v≤(N:Int)) (fun s=>N - s.2.toNat) _ ?_ FUEL _ ⟨0,rfl,by omega,rfl,fun r hr=>by cases hr⟩ (fuel (by dsimp only; omega))
  rintro ⟨st,i⟩ ⟨k,hk,hkn,hl,hv⟩
  simp only at hk hl hv
  subst hk
  simp only [A6f,hI.tbl,Cd]
  by_cases hlt:(k:Int) < (N:Int)
  ·left
   obtain ⟨r,hr,hrv⟩:=D0q (j:=P9.mk p KM tb lv op bs ac st ([]:List (List Bool)) ([]:List (List Int))) (N:=N) (by omega) hI.bsl hI.acl hI.bsv hI.acv (f:=k) (by omega)
   rw [if_pos hlt]
   simp only [hr,Z4 (show st.length≤1000 by omega),Oz,I4 (show k < 9223372036854775807 by omega)]
   exact ⟨_,rfl,⟨k + 1,rfl,by omega,by simp [hl],B0o hv hrv⟩,by dsimp only; omega⟩
  ·right
   rw [if_neg hlt]
   exact ⟨_,rfl,by omega,hv⟩
 obtain ⟨m,e3,hK⟩:=C9P h.ok.r h.roll
 have hB:BkI p.A8 p.M9 m:=⟨hK,fun g hg=>h.C9f hg,h.ties⟩
 obtain ⟨⟨cm,ti⟩,e4,h41,h42,h43,h44⟩:∃ r,iter (A5R p) FUEL (([]:List (List Bool)),([]:List (List Int)),some (⟨⟨p.A8,p.M9⟩,m⟩:L6),(0:Int))=some r∧r.1.length=p.A8.length∧(∀ x ∈ r.1,x.length=p.A8.length)∧r.2.length=p.A8.length∧(∀ x ∈ r.2,x.length=p.A8.length):=by
  refine M8 (fun s=>∃ k:Nat,s.2.2.2=(k:Int)∧k≤p.A8.length∧s.2.2.1=some (⟨⟨p.A8,p.M9⟩,m⟩:L6)∧s.1.length=k∧(∀ x ∈ s.1,x.length=p.A8.length)∧s.2.1.length=k∧(∀ x ∈ s.2.1,x.length=p.A8.length)) (fun s=>p.A8.length - s.2.2.2.toNat) _ ?_ FUEL _ ⟨0,rfl,by omega,rfl,rfl,fun x hx=>(by cases hx),rfl,fun x hx=>(by cases hx)⟩ (fuel (by dsimp only; omega))
  rintro ⟨cm,ti,b,i⟩ ⟨k,hk,hkn,hb,h1,h2,h3,h4⟩
  simp only at hk hb h1 h2 h3 h4
  subst hk; subst hb
  simp only [A5R,Cd]
  by_cases hlt:(k:Int) < (p.A8.length:Int)
  ·left
   have hx:=Lg (show k < p.A8.length by omega)
   generalize p.A8[k]=g at hx
   obtain ⟨⟨b',c,q⟩,e,hb',hc,hq⟩:∃ r,iter (B0M p g) FUEL (some (⟨⟨p.A8,p.M9⟩,m⟩:L6),(0:Int),([]:List Bool),([]:List Int))=some r∧r.1=some (⟨⟨p.A8,p.M9⟩,m⟩:L6)∧r.2.1.length=p.A8.length∧r.2.2.length=p.A8.length:=by
    refine M8 (fun s=>∃ k:Nat,s.2.1=(k:Int)∧k≤p.A8.length∧s.1=some (⟨⟨p.A8,p.M9⟩,m⟩:L6)∧s.2.2.1.length=k∧s.2.2.2.length=k) (fun s=>p.A8.length - s.2.1.toNat) _ ?_ FUEL _ ⟨0,rfl,by omega,rfl,rfl,rfl⟩ (fuel (by dsimp only; omega))
    rintro ⟨b,i,c,q⟩ ⟨k,hk,hkn,hb,h1,h2⟩
    simp only at hk hb h1 h2
    subst hk; subst hb
    simp only [B0M,Cd]
    by_cases hlt:(k:Int) < (p.A8.length:Int)
    ·left
     have hx:=Lg (show k < p.A8.length by omega)
     generalize p.A8[k]=g' at hx
     obtain ⟨r,hr⟩:=C7z hB g.F7 g'.F7
     obtain ⟨v,ok,hv⟩:=C9Q hB g.F7 g'.F7
     rw [if_pos hlt]
     simp only [K9 hx,hr,hv,Z4 (show c.length≤1000 by omega),Z4 (show q.length≤1000 by omega),Oz,I4 (show k < 9223372036854775807 by omega)]
     exact ⟨_,rfl,⟨k + 1,rfl,by omega,rfl,by simp [h1],by simp [h2]⟩,by dsimp only; omega⟩
    ·right
     rw [if_neg hlt]
     exact ⟨_,rfl,rfl,by dsimp only; omega,by dsimp only; omega⟩
   simp only at hb' hc hq
   subst hb'
   rw [if_pos hlt]
   simp only [K9 hx,e,Z4 (show cm.length≤1000 by omega),Z4 (show ti.length≤1000 by omega),Oz,I4 (show k < 9223372036854775807 by omega)]
   exact ⟨_,rfl,⟨k + 1,rfl,by omega,rfl,by simp [h1],B0o h2 hc,by simp [h3],B0o h4 hq⟩,by dsimp only; omega⟩
  ·right
   rw [if_neg hlt]
   exact ⟨_,rfl,by dsimp only; omega,h2,by dsimp only; omega,h4⟩
 refine ⟨_,N,?_,JOk.mk (j:=P9.mk p KM tb lv op bs ac st cm ti) rfl rfl hN.symm hI h2 h2v h41 h42 h43 h44⟩
 simp only [A6R,A3I h.ok,h.eq,Oz,decide_true,Bool.not_true,Cn,B3R,B3E h,B9o,e1,e2,e3,e4]
end Go.Pl
namespace Go.Pl
open Go Go.Sl Go.Dm
def nb (k:Nat):ByteArray:=B8f [((97 + k / 26 % 26:Nat):Int),((97 + k % 26:Nat):Int)]
theorem C6T {n:Nat} (h:n≤255):A0P .u8 (n:Int)=some (n:Int):=by
 have:IntKind.u8.wrap (n:Int)=(n:Int):=by simp [IntKind.wrap,IntKind.bits,IntKind.signed]; omega
 unfold A0P
 rw [this]; simp
theorem C3g {x:Int} (h:0≤x) (h':x≤1000000000000):A0P .i64 x=some x:=by
 unfold A0P
 rw [wrap_i64 h (by omega)]; simp
theorem number_eq {k:Nat} (h:k≤1000):Y7 (k:Int)=some (nb k):=by
 have e1:((k:Int) / 26) % 26=((k / 26 % 26:Nat):Int):=by omega
 have e2:(k:Int) % 26=((k % 26:Nat):Int):=by omega
 have e3:(97:Int) + ((k / 26 % 26:Nat):Int)=((97 + k / 26 % 26:Nat):Int):=by omega
 have e4:(97:Int) + ((k % 26:Nat):Int)=((97 + k % 26:Nat):Int):=by omega
 simp only [Y7,B3Z (show (0:Int)≤(k:Int) by omega) (by omega) (show (0:Int) < 26 by omega),C3u (show (0:Int)≤(k:Int) / 26 by omega) (show (0:Int) < 26 by omega),C3u (show (0:Int)≤(k:Int) by omega) (show (0:Int) < 26 by omega),Oz,e1,e2,e3,e4,
  A2p (show -1000000000≤((97 + k / 26 % 26:Nat):Int) by omega) (by omega),A2p (show -1000000000≤((97 + k % 26:Nat):Int) by omega) (by omega),C6T (show 97 + k / 26 % 26≤255 by omega),C6T (show 97 + k % 26≤255 by omega)]
 rfl
theorem C8u:(List.range 320).all (fun k=>A4J (nb k) && sLt (nb k) (nb (k + 1)) && decide ((nb k).size=2))=true:=by kernel_rfl
theorem B8u {k:Nat} (h:k < 320):A4J (nb k)=true∧sLt (nb k) (nb (k + 1))=true∧(nb k).size=2:=by
 have:=List.all_eq_true.1 C8u k (List.mem_range.2 h)
 simp only [Bool.and_eq_true,decide_eq_true_eq] at this
 exact ⟨this.1.1,this.1.2,this.2⟩
theorem C4i {i k:Nat} (h:i < k) (hk:k≤320):sLt (nb i) (nb k)=true:=by
 induction k with
 | zero=>omega
 | succ k ih=>
  by_cases he:i=k
  ·subst he; exact (B8u (by omega)).2.1
  ·exact B8e (ih (by omega) (by omega)) (B8u (by omega)).2.1
theorem C5O {i k:Nat} (hi:i≤320) (hk:k≤320) (h:nb i=nb k):i=k:=by
 rcases Nat.lt_trichotomy i k with hl | hl | hl
 ·have:=C4i hl hk; rw [h,B3U] at this; cases this
 ·exact hl
 ·have:=C4i hl hi; rw [h,B3U] at this; cases this
theorem D2y {k:Nat} (h:k < 320):¬ nb k=(⟨#[]⟩:ByteArray):=fun e=>by
 have:=(B8u h).2.2
 rw [e] at this; cases this
def wd (i:Nat):ByteArray:=B8f [(116:Int),((97 + i % 26:Nat):Int)]
def D1h (i x:Nat):Bool:=match A2X (i:Int) (x:Int) with
 | none=>false
 | some t=>decide (A5D t=0) && decide (t.F7=wd i) && decide (A1z (D5.mk t.F7 t.Q4 t.fA t.fB ([]:List Int) t.fX t.fY)=some (M6 t)) && decide (M6 t≤8) && decide (t.A2M.length≤24)
theorem D3M:(List.range 3).all (fun i=>(List.range 256).all fun x=>D1h i x)=true:=by kernel_rfl
theorem C9I {i x:Nat} (hi:i < 3) (hx:x < 256):∃ t,A2X (i:Int) (x:Int)=some t∧A5D t=0∧t.F7=wd i∧A1z (D5.mk t.F7 t.Q4 t.fA t.fB ([]:List Int) t.fX t.fY)=some (M6 t)∧M6 t≤8∧OkT t:=by
 have:=List.all_eq_true.1 (List.all_eq_true.1 D3M i (List.mem_range.2 hi)) x (List.mem_range.2 hx)
 unfold D1h at this
 cases h:A2X (i:Int) (x:Int) with
 | none=>rw [h] at this; cases this
 | some t=>
  rw [h] at this
  simp only [Bool.and_eq_true,decide_eq_true_eq] at this
  refine ⟨t,rfl,this.1.1.1.1,this.1.1.1.2,this.1.1.2,this.1.2,?_,by rw [mx]; omega⟩
  rw [this.1.1.1.2,mx]
  have:(wd i).size=2:=rfl
  omega
end Go.Pl
namespace Go.Pl
open Go Go.Sl Go.Dm
def gi (i:Nat):Nat:=25 * i % 312 + i / 12
theorem B8A {i:Nat} (h:i < 12):gi i < 320:=by unfold gi; omega
theorem C9t {i:Nat} (h:i < 12):gi i=25 * i:=by
 unfold gi
 rw [Nat.mod_eq_of_lt (by omega),Nat.div_eq_of_lt h]
 rfl
theorem C9F {i j:Nat} (hi:i < 12) (hj:j < 12) (h:gi i=gi j):i=j:=by rw [C9t hi,C9t hj] at h; omega
structure MG (i:Nat) (g:E8):Prop where
 name:g.F7=nb (gi i)
 ok:A9N g=0
 og:OkG g
 di:A3X g.A0t=true
 ds:g.A0t.size≤2
def tgB (a b c d:Bool):List ByteArray:=(bif a then [nb 0] else []) ++ ((bif b then [nb 1] else []) ++ ((bif c then [nb 2] else []) ++ (bif d then [nb 3] else [])))
def D1w (l:List ByteArray):Bool:=decide (V3 (B9M l) 0 l=none) && decide (l.length≤4) && l.all fun s=>decide (s.size=2)
theorem tgs:([true,false].all fun a=>[true,false].all fun b=>[true,false].all fun c=>[true,false].all fun d=>D1w (tgB a b c d))=true:=by kernel_rfl
theorem D2B (a b c d:Bool):D1w (tgB a b c d)=true:=by
 have:=tgs
 simp only [List.all_cons,List.all_nil,Bool.and_true,Bool.and_eq_true] at this
 cases a <;> cases b <;> cases c <;> cases d <;> simp [this]
def tgL (f:Nat→Bool) (k:Nat):List ByteArray:=((List.range k).filter f).map nb
theorem C9l (f:Nat→Bool):tgL f 4=tgB (f 0) (f 1) (f 2) (f 3):=by
 unfold tgL tgB
 cases h0:f 0 <;> cases h1:f 1 <;> cases h2:f 2 <;> cases h3:f 3 <;> simp [List.range_succ,List.filter,h0,h1,h2,h3]
theorem D0k (f:Nat→Bool) (k:Nat):(tgL f k).length≤k:=by
 unfold tgL
 rw [List.length_map]
 have:=List.length_filter_le f (List.range k)
 simpa using this
theorem D3T {m n:Nat} (h:n≤64):A3P .i64 (m:Int) (n:Int)=some ((m / 2 ^ n:Nat):Int):=by
 show (bif Nat.ble n (IntKind.i64.bits) then some (Int.ofNat (m / 2 ^ n)) else none)=_
 rw [show Nat.ble n (IntKind.i64.bits)=true from Nat.ble_eq_true_of_le h]
 rfl
theorem C9s (e:Nat):iter (A5n (e:Int)) FUEL (([]:List ByteArray),(0:Int))=some (tgL (fun j=>decide (e / 2 ^ (6 + 2 * j) % 4=1)) 4):=by
 obtain ⟨r,hr,hq⟩:=M8 (f:=A5n (e:Int)) (fun s=>∃ k:Nat,s.2=(k:Int)∧k≤4∧s.1=tgL (fun j=>decide (e / 2 ^ (6 + 2 * j) % 4=1)) k) (fun s=>4 - s.2.toNat) (fun r=>r=tgL (fun j=>decide (e / 2 ^ (6 + 2 * j) % 4=1)) 4) (fun s hs=>by
  obtain ⟨a,i⟩:=s
  obtain ⟨k,hk,hk4,ha⟩:=hs
  simp only at hk ha
  subst hk; subst ha
  simp only [A5n,Cd]
  by_cases hlt:(k:Int) < 4
  ·left
   have hl:=D0k (fun j=>decide (e / 2 ^ (6 + 2 * j) % 4=1)) k
   have e1:(6:Int) + 2 * (k:Int)=((6 + 2 * k:Nat):Int):=by omega
   have r4:∀ m:Nat,V9 (m:Int) 4=some ((m % 4:Nat):Int):=fun m=>rfl
   rw [if_pos hlt]
   simp only [A2p (show -1000000000≤(2:Int) * (k:Int) by omega) (by omega),e1,A2p (show -1000000000≤((6 + 2 * k:Nat):Int) by omega) (by omega),D3T (m:=e) (show 6 + 2 * k≤64 by omega),r4,Oz,number_eq (show k≤1000 by omega),I4 (show k < 9223372036854775807 by omega),Z4 (show (tgL (fun j=>decide (e / 2 ^ (6 + 2 * j) % 4=1)) k).length≤1000 by omega)]
   have e2:tgL (fun j=>decide (e / 2 ^ (6 + 2 * j) % 4=1)) (k + 1)=tgL (fun j=>decide (e / 2 ^ (6 + 2 * j) % 4=1)) k ++ (if e / 2 ^ (6 + 2 * k) % 4=1 then [nb k] else []):=by
    unfold tgL
    rw [List.range_succ,List.filter_append,List.map_append]
    by_cases h:e / 2 ^ (6 + 2 * k) % 4=1 <;> simp [h]
   by_cases h:e / 2 ^ (6 + 2 * k) % 4=1
   ·rw [if_pos (by omega)]
    rw [if_pos h] at e2
    exact ⟨_,rfl,⟨k + 1,rfl,by omega,e2.symm⟩,by dsimp only; omega⟩
   ·rw [if_neg (by omega)]
    rw [if_neg h,List.append_nil] at e2
    exact ⟨_,rfl,⟨k + 1,rfl,by omega,e2.symm⟩,by dsimp only; omega⟩
  ·right
   rw [if_neg hlt]
   have:k=4:=by omega
   subst this
   exact ⟨_,rfl,rfl⟩) FUEL (([]:List ByteArray),(0:Int)) ⟨0,rfl,by omega,rfl⟩ (fuel (by dsimp only; omega))
 rw [hr,hq]
theorem B7p {k:Nat} (h:k < 320):A3X (nb k)=true∧(nb k).size≤2:=by
 have:=B8u h
 unfold A3X
 rw [this.1]
 simp
 omega
theorem B7r:A3X (⟨#[]⟩:ByteArray)=true∧(⟨#[]⟩:ByteArray).size≤2:=⟨rfl,by decide⟩
theorem C6b {gs:List Int} {out:List E8} {i e:Nat} (hi:i < 12) (h:gs[i]?=some (e:Int)) (he:e≤65535) (ho:out.length≤1000) :
  ∃ g,B1a gs out (i:Int)=some (.inl (out ++ [g],((i + 1:Nat):Int)))∧MG i g:=by
 have r3:∀ m:Nat,V9 (m:Int) 3=some ((m % 3:Nat):Int):=fun m=>rfl
 have r4:∀ m:Nat,V9 (m:Int) 4=some ((m % 4:Nat):Int):=fun m=>rfl
 have r5:∀ m:Nat,V9 (m:Int) 5=some ((m % 5:Nat):Int):=fun m=>rfl
 have r7:∀ m:Nat,V9 (m:Int) 7=some ((m % 7:Nat):Int):=fun m=>rfl
 have r8:∀ m:Nat,V9 (m:Int) 8=some ((m % 8:Nat):Int):=fun m=>rfl
 have r2:∀ m:Nat,V9 (m:Int) 2=some ((m % 2:Nat):Int):=fun m=>rfl
 have r312:∀ m:Nat,V9 (m:Int) 312=some ((m % 312:Nat):Int):=fun m=>rfl
 have q12:A5G (i:Int) 12=some ((i / 12:Nat):Int):=by rw [B3Z (by omega) (by omega) (by omega)]; congr 1
 have e25:(25:Int) * (i:Int)=((25 * i:Nat):Int):=by omega
 have egi:((25 * i % 312:Nat):Int) + ((i / 12:Nat):Int)=((gi i:Nat):Int):=by unfold gi; omega
 have hgi:=B8A hi
 obtain ⟨rank,k1,k1o,k1s⟩:∃ r,(bif decide (((e % 2:Nat):Int)=(1:Int)) then Option.bind (V9 (e:Int) (3:Int)) fun t65=>Option.bind (Y7 t65) fun t66=>some t66 else some (⟨#[]⟩:ByteArray))=some r∧A3X r=true∧r.size≤2:=by
  cases decide (((e % 2:Nat):Int)=(1:Int))
  ·exact ⟨_,rfl,B7r⟩
  ·exact ⟨nb (e % 3),by simp only [Cy,r3,Oz,number_eq (show e % 3≤1000 by omega)],B7p (by omega)⟩
 obtain ⟨court,k2,k2o,k2s⟩:∃ r,(bif decide ((4:Int) < ((e % 8:Nat):Int)) then Option.bind (V9 (e:Int) (8:Int)) fun t83=>Option.bind (Y7 t83) fun t84=>some t84 else some (⟨#[]⟩:ByteArray))=some r∧A3X r=true∧r.size≤2:=by
  cases decide ((4:Int) < ((e % 8:Nat):Int))
  ·exact ⟨_,rfl,B7r⟩
  ·exact ⟨nb (e % 8),by simp only [Cy,r8,Oz,number_eq (show e % 8≤1000 by omega)],B7p (by omega)⟩
 obtain ⟨diet,k3,k3o,k3s⟩:∃ r,(bif decide (((e % 3:Nat):Int)=(2:Int)) then Option.bind (V9 (e:Int) (5:Int)) fun t101=>Option.bind (Y7 t101) fun t102=>some t102 else some (⟨#[]⟩:ByteArray))=some r∧A3X r=true∧r.size≤2:=by
  cases decide (((e % 3:Nat):Int)=(2:Int))
  ·exact ⟨_,rfl,B7r⟩
  ·exact ⟨nb (e % 5),by simp only [Cy,r5,Oz,number_eq (show e % 5≤1000 by omega)],B7p (by omega)⟩
 have hton:=D2B (decide (e / 2 ^ (6 + 2 * 0) % 4=1)) (decide (e / 2 ^ (6 + 2 * 1) % 4=1)) (decide (e / 2 ^ (6 + 2 * 2) % 4=1)) (decide (e / 2 ^ (6 + 2 * 3) % 4=1))
 have hton':=C9l (fun j=>decide (e / 2 ^ (6 + 2 * j) % 4=1))
 rw [←hton'] at hton
 have ht:=C9s e
 generalize tgL (fun j=>decide (e / 2 ^ (6 + 2 * j) % 4=1)) 4=ton at hton ht
 unfold D1w at hton
 simp only [Bool.and_eq_true,decide_eq_true_eq,List.all_eq_true] at hton
 refine ⟨E8.mk (nb (gi i)) rank court (((e % 4:Nat):Int) * 500) ((e % 3:Nat):Int) diet (decide (((e % 5:Nat):Int)=(0:Int))) (decide (((e % 7:Nat):Int)=(0:Int))) ton,?_,rfl,?_,?_,k3o,k3s⟩
 ·simp only [B1a,B5y,K9 h,C3g (show (0:Int)≤(e:Int) by omega) (by omega),e25,A2p (show -1000000000≤((25 * i:Nat):Int) by omega) (by omega),r312,q12,egi,A2p (show -1000000000≤((gi i:Nat):Int) by omega) (by omega),number_eq (show gi i≤1000 by omega),r4,r3,r5,r7,r2,r8,
   A2p (show -1000000000≤((e % 4:Nat):Int) * 500 by omega) (by omega),Oz,k1,k2,k3,ht,Z4 ho,I4 (show i < 9223372036854775807 by omega)] at k1 k2 k3 ⊢
  simp only [k1,k2,k3,Oz,Z4 ho,ht,I4 (show i < 9223372036854775807 by omega)]
 ·unfold A9N
  simp only [(B8u hgi).1,k1o,k2o,k3o,Bool.and_self,Bool.true_eq_false,if_false]
  rw [if_neg (by omega),if_neg (by omega),if_neg (by omega),hton.1.1]
  rfl
 ·have:=(B8u hgi).2.2
  have hmx:maxLen=9223372036854775807:=mx
  exact ⟨by dsimp only; omega,by dsimp only; omega,by dsimp only; omega,by dsimp only; omega,by dsimp only; omega,fun s hs=>by have:=hton.2 s hs; omega⟩
theorem C5d {gs:List Int} (hg:∀ e ∈ gs,0≤e∧e≤65535):∃ out,iter (A8f gs) FUEL (([]:List E8),(0:Int))=some out∧out.length=min gs.length 12∧∀ i g,out[i]?=some g→MG i g:=by
 refine M8 (fun s=>∃ k:Nat,s.2=(k:Int)∧k≤min gs.length 12∧s.1.length=k∧∀ i g,s.1[i]?=some g→MG i g) (fun s=>12 - s.2.toNat) _ ?_ FUEL _ ⟨0,rfl,by omega,rfl,fun i g h=>by simp at h⟩ (fuel (by dsimp only; omega))
 rintro ⟨out,i⟩ ⟨k,hk,hkn,hl,hv⟩
 simp only at hk hl hv
 subst hk
 simp only [A8f]
 by_cases hlt:k < gs.length∧k < 12
 ·left
  have h1:decide ((k:Int) < (gs.length:Int))=true:=Dt (by omega)
  have h2:decide ((k:Int) < 12)=true:=Dt (by omega)
  have hx:=Lg hlt.1
  have hb:=hg _ (List.getElem_mem hlt.1)
  generalize gs[k]=e at hx hb
  obtain ⟨e,rfl⟩:=Zn hb.1
  obtain ⟨g,e1,hm⟩:=C6b (out:=out) hlt.2 hx (by omega) (by omega)
  simp only [h1,h2,Cy,Oz,e1]
  refine ⟨_,rfl,⟨k + 1,rfl,by omega,by simp [hl],fun i g' h=>?_⟩,by dsimp only; omega⟩
  rw [List.getElem?_append] at h
  split at h
  ·exact hv i g' h
  ·rename_i hn
   have:i - out.length=0:=by
    have:=Q6 h
    simp at this
    omega
   rw [this] at h
   simp at h
   subst h
   have:i=k:=by omega
   subst this
   exact hm
 ·right
  have:(bif decide ((k:Int) < (gs.length:Int)) then some (decide ((k:Int) < (12:Int))) else some false)=some false:=by
   by_cases h1:k < gs.length
   ·rw [Dt (show (k:Int) < (gs.length:Int) by omega),Cy,Df (show ¬ (k:Int) < 12 by omega)]
   ·rw [Df (show ¬ (k:Int) < (gs.length:Int) by omega)]; rfl
  simp only [this,Oz,Cn]
  exact ⟨_,rfl,by omega,hv⟩
end Go.Pl
namespace Go.Pl
open Go Go.Sl Go.Dm
structure MGs (gs:List E8):Prop where
 len:gs.length≤12
 g:∀ i g,gs[i]?=some g→MG i g
theorem MGs.is {gs:List E8} (h:MGs gs) {a:Nat} (ha:a≤320) (hi:isG gs (nb a)=true):∃ j,j < gs.length∧a=25 * j:=by
 unfold isG at hi
 obtain ⟨g,hg,e⟩:=List.any_eq_true.1 hi
 obtain ⟨j,hj⟩:=List.getElem?_of_mem hg
 have:=h.g j g hj
 have hlt:=Q6 hj
 have hl:=h.len
 refine ⟨j,hlt,?_⟩
 rw [decide_eq_true_eq,this.name,C9t (by omega)] at e
 exact (C5O (by omega) ha e).symm
theorem B6p {gs:List E8} (h:MGs gs) {i:Nat} (hi:i≤400):A2f (Q7.mk gs ([]:List H7)) (i:Int)=some (isG gs (nb i)):=by
 have hl:=h.len
 simp only [A2f]
 rw [A1G gs (fun (k:Nat) (g:E8)=>if decide (g.F7=nb i) then some (.inr true:Unit⊕Bool) else none) (.inl ()) (fuel (by omega)) (fun k g hg=>by
  have hk:=Q6 hg
  simp only [A6E,K9 hg,number_eq (show i≤1000 by omega),Oz,Cd]
  rw [if_pos (by omega),I4 (by omega)]
  by_cases e:g.F7=nb i <;> simp [e]) (by simp [A6E])]
 have key:∀ (l:List E8) (k:Nat),(match A0M (fun (k:Nat) (g:E8)=>if decide (g.F7=nb i) then some (.inr true:Unit⊕Bool) else none) (.inl ()) k l with | .inl _=>some false | .inr p=>some p)=some (isG l (nb i)):=by
  intro l
  induction l with
  | nil=>intro k; rfl
  | cons g l ih=>
   intro k
   simp only [A0M,isG,List.any_cons]
   by_cases e:g.F7=nb i
   ·simp [e]
   ·simp only [e,decide_false,Bool.false_or]
    exact ih (k + 1)
 simp only [Oz]
 exact key gs 0
structure TI (gs:List E8) (i k:Nat) (ts:List H7):Prop where
 t:∀ t ∈ ts,(t.H6=1∨t.H6=2)∧∃ a b,t.fA=nb a∧t.fB=nb b∧a < b∧b < 312∧(a < i∨a=i∧b < k)∧isG gs (nb a)=true∧isG gs (nb b)=true
 asc:Asc ts
theorem D0u {l:List H7} {t:H7} (h:Asc l) (ht:∀ x ∈ l,tLt x t=true):Asc (l ++ [t]):=by
 intro a b x y hab hx hy
 rw [List.getElem?_append] at hx hy
 by_cases hb:b < l.length
 ·rw [if_pos (by omega)] at hx
  rw [if_pos hb] at hy
  exact h a b x y hab hx hy
 ·rw [if_neg hb] at hy
  have:=Q6 hy
  simp at this
  have hb':b - l.length=0:=by omega
  rw [hb'] at hy
  simp at hy
  subst hy
  rw [if_pos (by omega)] at hx
  exact ht x (A0T hx)
theorem TI.weak {gs:List E8} {i k i' k':Nat} {ts:List H7} (h:TI gs i k ts) (hw:i < i'∨i=i'∧k≤k'):TI gs i' k' ts:=by
 refine ⟨fun t ht=>?_,h.asc⟩
 obtain ⟨h1,a,b,e1,e2,h2,h3,h4,h5⟩:=h.t t ht
 exact ⟨h1,a,b,e1,e2,h2,h3,by omega,h5⟩
theorem C5C {tn:List Int} (htn:∀ e ∈ tn,0≤e∧e≤255) (hlen:tn.length≤maxLen) {gs:List E8} (h:MGs gs) {i n:Nat} (hi:i < 312) (hn:n≤100000) {ts:List H7} (hT:TI gs i (i + 1) ts) (hb:ts.length≤13 * ((i + 24) / 25)) :
  ∃ r,iter (A7J tn gs (i:Int)) FUEL (ts,(n:Int),((i + 1:Nat):Int))=some r∧(∃ m:Nat,r.1=(m:Int)∧m≤n + 312)∧TI gs (i + 1) 0 r.2∧r.2.length≤13 * ((i + 1 + 24) / 25):=by
 refine M8 (fun s=>∃ k m:Nat,s.2.2=(k:Int)∧s.2.1=(m:Int)∧i < k∧k≤312∧m≤n + k∧TI gs i k s.1∧(isG gs (nb i)=true→s.1.length≤13 * ((i + 24) / 25) + (k + 24) / 25)∧(isG gs (nb i)=false→s.1.length≤13 * ((i + 24) / 25))) (fun s=>312 - s.2.2.toNat) _ ?_ FUEL _ ⟨i + 1,n,rfl,rfl,by omega,by omega,by omega,hT,fun _=>by dsimp only; omega,fun _=>by dsimp only; omega⟩ (fuel (by dsimp only; omega))
 rintro ⟨ts,x,y⟩ ⟨k,m,hk,hm,hik,hk3,hmn,hT,hb1,hb2⟩
 simp only at hk hm hT hb1 hb2
 subst hk; subst hm
 simp only [A7J,Cd]
 by_cases hlt:(k:Int) < 312
 ·rw [if_pos hlt]
  rcases Bool.eq_false_or_eq_true (isG gs (nb i)) with hgi | hgi
  rotate_left
  ·right
   have t1:A2f (Q7.mk gs ([]:List H7)) (i:Int)=some false:=by rw [B6p h (by omega),hgi]
   simp only [A8h,t1,Oz,Bool.not_false,Cy]
   have:=hb2 hgi
   exact ⟨_,rfl,⟨m,rfl,by omega⟩,hT.weak (.inl (by omega)),by dsimp only; omega⟩
  ·left
   have t1:A2f (Q7.mk gs ([]:List H7)) (i:Int)=some true:=by rw [B6p h (by omega),hgi]
   have no:∀ {q:Prop},isG gs (nb i)=false→q:=fun e=>by rw [hgi] at e; cases e
   have hb1:=hb1 hgi
   obtain ⟨j,hj,hij⟩:=h.is (by omega) hgi
   rcases Bool.eq_false_or_eq_true (isG gs (nb k)) with hgk | hgk
   rotate_left
   ·have t2:A2f (Q7.mk gs ([]:List H7)) (k:Int)=some false:=by rw [B6p h (by omega),hgk]
    simp only [A8h,t1,t2,Bool.not_true,Cn,Bool.not_false,Cy,I4 (show k < 9223372036854775807 by omega),Oz]
    exact ⟨_,rfl,⟨k + 1,m,rfl,rfl,by omega,by omega,by omega,hT.weak (.inr ⟨rfl,by omega⟩),fun _=>by dsimp only; omega,no⟩,by dsimp only; omega⟩
   ·have t2:A2f (Q7.mk gs ([]:List H7)) (k:Int)=some true:=by rw [B6p h (by omega),hgk]
    obtain ⟨j',hj',hkj⟩:=h.is (by omega) hgk
    have hl:=h.len
    simp only [A8h,t1,t2,Bool.not_true,Cn,Oz]
    have skip:∃ s',(some (Sum.inl (ts,((m + 1:Nat):Int),((k + 1:Nat):Int))):Option ((List H7×Int×Int)⊕(Int×List H7)))=some (Sum.inl s')∧(∃ k m:Nat,s'.2.2=(k:Int)∧s'.2.1=(m:Int)∧i < k∧k≤312∧m≤n + k∧TI gs i k s'.1∧(isG gs (nb i)=true→s'.1.length≤13 * ((i + 24) / 25) + (k + 24) / 25)∧(isG gs (nb i)=false→s'.1.length≤13 * ((i + 24) / 25)))∧312 - s'.2.2.toNat < 312 - (k:Int).toNat:=
     ⟨_,rfl,⟨k + 1,m + 1,rfl,rfl,by omega,by omega,by omega,hT.weak (.inr ⟨rfl,by omega⟩),fun _=>by dsimp only; omega,no⟩,by dsimp only; omega⟩
    by_cases hmt:m < tn.length
    ·have hx:=Lg hmt
     have hbd:=htn _ (List.getElem_mem hmt)
     generalize tn[m]=e at hx hbd
     obtain ⟨e,rfl⟩:=Zn hbd.1
     have r4:V9 (e:Int) 4=some ((e % 4:Nat):Int):=rfl
     have e1:(1:Int) + ((e % 4:Nat):Int)=((1 + e % 4:Nat):Int):=by omega
     rw [Dt (show (m:Int) < (tn.length:Int) by omega)]
     simp only [Cy,K9 hx,r4,Oz,B0U,e1,C6T (show 1 + e % 4≤255 by omega),number_eq (show i≤1000 by omega),number_eq (show k≤1000 by omega),I4 (show m < 9223372036854775807 by omega),I4 (show k < 9223372036854775807 by omega)]
     by_cases h2:e % 4 < 2
     ·rw [Dt (show ((e % 4:Nat):Int) < 2 by omega)]
      simp only [Cy,Z4 (show ts.length≤1000 by omega),Oz]
      refine ⟨_,rfl,⟨k + 1,m + 1,rfl,rfl,by omega,by omega,by omega,⟨fun t ht=>?_,D0u hT.asc fun t ht=>?_⟩,fun _=>by simp; omega,no⟩,by dsimp only; omega⟩
      ·rcases List.mem_append.1 ht with ht | ht
       ·exact (hT.weak (.inr ⟨rfl,Nat.le_succ k⟩)).t t ht
       ·rw [List.mem_singleton] at ht
        subst ht
        exact ⟨by dsimp only; omega,i,k,rfl,rfl,hik,by omega,.inr ⟨rfl,by omega⟩,hgi,hgk⟩
      ·obtain ⟨_,a,b,ea,eb,hab,hb3,hlt',_⟩:=hT.t t ht
       unfold tLt
       rw [ea,eb]
       dsimp only
       rcases hlt' with hlt' | ⟨rfl,hlt'⟩
       ·rw [C4i hlt' (by omega)]; rfl
       ·rw [B3U,C4i hlt' (by omega)]; simp
     ·rw [Df (show ¬ ((e % 4:Nat):Int) < 2 by omega)]
      simp only [Cn]
      exact skip
    ·rw [Df (show ¬ (m:Int) < (tn.length:Int) by omega)]
     simp only [Cn,Oz,B0U,I4 (show m < 9223372036854775807 by omega),I4 (show k < 9223372036854775807 by omega)]
     exact skip
 ·right
  rw [if_neg hlt]
  have:k=312:=by omega
  subst this
  refine ⟨_,rfl,⟨m,rfl,by omega⟩,hT.weak (.inl (by omega)),?_⟩
  dsimp only
  cases hgi:isG gs (nb i) with
  | false=>have:=hb2 hgi; omega
  | true=>
   have:=hb1 hgi
   obtain ⟨j,hj,hij⟩:=h.is (by omega) hgi
   omega
theorem C7M {tn:List Int} (htn:∀ e ∈ tn,0≤e∧e≤255) (hlen:tn.length≤maxLen) {gs:List E8} (h:MGs gs) :
  ∃ ts,iter (A8b tn gs) FUEL (([]:List H7),(0:Int),(0:Int))=some ts∧TI gs 312 0 ts∧ts.length≤256:=by
 refine M8 (fun s=>∃ i n:Nat,s.2.2=(i:Int)∧s.2.1=(n:Int)∧i≤312∧n≤312 * i∧TI gs i 0 s.1∧s.1.length≤13 * ((i + 24) / 25)) (fun s=>312 - s.2.2.toNat) _ ?_ FUEL _ ⟨0,0,rfl,rfl,by omega,by omega,TI.mk (fun t ht=>by cases ht) (fun a b x y _ hx=>by cases hx),by simp⟩ (fuel (by dsimp only; omega))
 rintro ⟨ts,x,y⟩ ⟨i,n,hi,hn,hi3,hn3,hT,hb⟩
 simp only at hi hn hT hb
 subst hi; subst hn
 simp only [A8b,Cd]
 by_cases hlt:(i:Int) < 312
 ·left
  rw [if_pos hlt]
  obtain ⟨⟨r1,r2⟩,hr,⟨m,e,hm⟩,hT',hb'⟩:=C5C htn hlen h (i:=i) (n:=n) (by omega) (by omega) (ts:=ts) (hT.weak (.inr ⟨rfl,by omega⟩)) hb
  simp only at e hT' hb'
  subst e
  simp only [I4 (show i < 9223372036854775807 by omega),Oz,hr]
  exact ⟨_,rfl,⟨i + 1,m,rfl,rfl,by omega,by omega,hT',hb'⟩,by dsimp only; omega⟩
 ·right
  rw [if_neg hlt]
  have:i=312:=by omega
  subst this
  exact ⟨_,rfl,hT,by omega⟩
theorem B2s {τ R:Type} {bad:Nat→τ→Option R}:∀ (xs:List τ) (i:Nat),(∀ k x,xs[k]?=some x→bad (i + k) x=none)→V3 bad i xs=none
 | [],_,_=>rfl
 | x::xs,i,h=>by
  simp only [V3]
  rw [show bad i x=none from h 0 x rfl]
  exact B2s xs (i + 1) (fun k y hy=>by rw [show i + 1 + k=i + (k + 1) by omega]; exact h (k + 1) y hy)
theorem MGs.okG {gs:List E8} (h:MGs gs) {g:E8} (hg:g ∈ gs):OkG g∧A9N g=0∧A3X g.A0t=true:=by
 obtain ⟨j,hj⟩:=List.getElem?_of_mem hg
 have:=h.g j g hj
 exact ⟨this.og,this.ok,this.di⟩
theorem MGs.B1i {gs:List E8} (h:MGs gs):V3 (B1i gs) 0 gs=none:=by
 refine B2s gs 0 fun k g hg=>?_
 have hl:=h.len
 have hk:=Q6 hg
 have hm:=h.g k g hg
 unfold Go.Pl.B1i
 rw [Nat.zero_add,if_neg (by simp [hm.ok]),if_neg,if_neg (by omega)]
 intro hc
 obtain ⟨y,hy,e⟩:=List.any_eq_true.1 hc
 obtain ⟨j,hj⟩:=List.getElem?_of_mem hy
 have hjk:=Q6 hj
 rw [List.length_take] at hjk
 have hj':gs[j]?=some y:=by rw [List.getElem?_take] at hj; rw [if_pos (by omega)] at hj; exact hj
 rw [decide_eq_true_eq,(h.g j y hj').name,hm.name] at e
 have:=C5O (Nat.le_of_lt (B8A (by omega))) (Nat.le_of_lt (B8A (by omega))) e
 have:=C9F (by omega) (by omega) this
 omega
theorem C7O {gn tn:List Int} (hg:∀ e ∈ gn,0≤e∧e≤65535) (htn:∀ e ∈ tn,0≤e∧e≤255) (hlen:tn.length≤maxLen) :
  ∃ r,B2j gn tn=some r∧MGs r.A8∧r.A8.length=min gn.length 12∧OkR r∧(B4v r).2=0:=by
 obtain ⟨gs,e1,hl,hm⟩:=C5d hg
 have h:MGs gs:=⟨by omega,hm⟩
 obtain ⟨ts,e2,hT,hb⟩:=C7M htn hlen h
 refine ⟨⟨gs,ts⟩,by simp only [B2j,e1,e2,Oz],h,hl,⟨by rw [mx]; dsimp only; omega,fun g hg=>(h.okG hg).1,by rw [mx]; dsimp only; omega⟩,?_⟩
 have hF:=h.B1i
 have hTb:V3 (B8g ⟨gs,ts⟩) 0 ts=none:=by
  refine B2s ts 0 fun k t ht=>?_
  have hk:=Q6 ht
  obtain ⟨h1,a,b,ea,eb,hab,hb3,_,ga,gb⟩:=hT.t t (A0T ht)
  have hAB:sLt t.fA t.fB=true:=by rw [ea,eb]; exact C4i hab (by omega)
  have hprev:k ≠ 0→tLt (ts.getD (k - 1) A6y) t=true:=fun h0=>hT.asc (k - 1) k _ t (by omega) (B3i A6y hk h0) ht
  unfold B8g
  rw [Nat.zero_add,ea,eb]
  dsimp only
  rw [←ea,←eb,hAB,ea,eb,ga,gb,if_neg,if_neg (by simp),if_neg,if_neg (by omega)]
  ·rintro ⟨h0,hc⟩; rw [hprev h0] at hc; cases hc
  ·rintro (⟨hc,hc'⟩ | hc | ⟨h0,hc⟩)
   ·rcases h1 with h1 | h1
    ·exact hc h1
    ·exact hc' h1
   ·cases hc
   ·rw [B9h (hprev h0)] at hc; cases hc
 unfold B4v
 rw [hF,hTb]
 rfl
end Go.Pl
namespace Go.Pl
open Go Go.Sl Go.Dm
theorem C2G {p:C9} (hg:p.A8.length≤maxLen) (ht:B7Z p.C8∧(A8F p.C8).2=0) {K:G7} {r:F3} (word:decide (K.A7b=(⟨#[]⟩:ByteArray))=false) (w0:0≤r.J3) (w1:r.J3≤1000)
  (pl:A0w K r=some true) (a:K.fa=103∨(K.fa=101∧r.fA ≠ ⟨#[]⟩)→0≤A6Z p r.fA) (b:K.fb=true→0≤A6Z p r.fB∧r.fA ≠ r.fB) (nm:K.fa=100→A9k r.fA=some true)
  (t:K.ft=116∨(K.ft=101∧r.J2 ≠ ⟨#[]⟩)→0≤A4n p r.J2) (s:K.A6j=true→K.ft=116)
  (n:K.fn=true→K.flo≤r.fN∧(K.A6j=false→r.fN≤24)∧(K.A6j=true→∀ t,p.C8[(A4n p r.J2).toNat]?=some t→r.fN < M6 t)):A1D K p r=some 0:=by
 have who:∀ n,A0O p n=some (A6Z p n):=fun n=>B0F hg n
 have f:∀ {v:Int},0≤v→decide (v < 0)=false:=fun h=>Df (by omega)
 have e3:(bif decide (K.fa=(103:Int)) then Option.bind (A0O p r.fA) fun t50=>some (decide (t50 < (0:Int))) else some false)=some false:=by
  by_cases h:K.fa=103
  ·simp only [who,h,f (a (.inl h)),decide_true,Cy,Oz]
  ·rw [Df h]; rfl
 have e4:A3H K p r=some false:=by
  unfold A3H
  simp only [who,Oz]
  have hb:(bif K.fb then some (decide (A6Z p r.fB < 0)) else some false)=some false:=by
   cases h:K.fb with
   | true=>rw [f (b h).1]; rfl
   | false=>rfl
  rw [hb]
  by_cases h:K.fa=101 <;> by_cases h2:r.fA=⟨#[]⟩
  ·simp [h,h2]
  ·rw [f (a (.inr ⟨h,h2⟩))]; simp [h,h2]
  ·simp [h]
  ·simp [h]
 have e5:(bif decide (K.fa=(100:Int)) then Option.bind (A9k r.fA) fun t113=>some (!t113) else some false)=some false:=by
  by_cases h:K.fa=100
  ·rw [nm h,h]; rfl
  ·rw [Df h]; rfl
 have e6:(bif K.fb then some (decide (r.fA=r.fB)) else some false)=some false:=by
  cases h:K.fb with
  | true=>rw [Df (b h).2]; rfl
  | false=>rfl
 unfold A1D
 rw [word,Cn,Df (by omega:¬ r.J3 < 0),Cn,Df (by omega:¬ 1000 < r.J3),Oz,Cn,pl,Oz,Bool.not_true,Cn,e3,Oz]
 unfold A7Y
 rw [Cn,e4,Oz,Cn,e5,Oz,Cn,e6,Oz,Cn]
 unfold A7S
 rw [C3x ht.1 ht.2]
 by_cases hlt:A4n p r.J2 < 0
 ·have n1:¬ K.ft=116:=fun h=>by have:=t (.inl h); omega
  have n2:K.ft=101→r.J2=⟨#[]⟩:=fun h=>Decidable.byContradiction fun h2=>by have:=t (.inr ⟨h,h2⟩); omega
  have n3:K.A6j=false:=by
   cases h:K.A6j with
   | false=>rfl
   | true=>exact absurd (s h) n1
  have e8:(bif decide (K.ft=(101:Int)) then bif !decide (r.J2=(⟨#[]⟩:ByteArray)) then some true else some false else some false)=some false:=by
   by_cases h:K.ft=101
   ·simp [h,n2 h]
   ·simp [h]
  rw [Dt hlt,Cy,Oz]
  simp only [Bool.not_false,Df n1,Cn]
  rw [e8,Oz]
  unfold A3F
  rw [n3]
  simp only [Cn,Oz]
  cases h:K.fn with
  | false=>rfl
  | true=>
   have q:=n h
   have q2:=q.2.1 n3
   rw [Df (by omega:¬ r.fN < K.flo),Df (by omega:¬ 24 < r.fN)]
   rfl
 ·obtain ⟨tb,hx,e⟩:=C5E ht.1 ht.2 (n:=r.J2) (by omega)
  rw [Df hlt,Cn,Oz]
  have e8:(bif decide (K.ft=(116:Int)) then bif decide (K.ft=(101:Int)) then bif !decide (r.J2=(⟨#[]⟩:ByteArray)) then some false else some false else some false else bif decide (K.ft=(101:Int)) then bif !decide (r.J2=(⟨#[]⟩:ByteArray)) then some false else some false else some false)=some false:=by
   cases decide (K.ft=(116:Int)) <;> cases decide (K.ft=(101:Int)) <;> cases !decide (r.J2=(⟨#[]⟩:ByteArray)) <;> rfl
  simp only [Bool.not_true,Cn]
  rw [e8,Oz]
  unfold A3F
  rw [e,Cn]
  cases h:K.fn with
  | false=>cases K.A6j <;> rfl
  | true=>
   have q:=n h
   cases h2:K.A6j with
   | false=>
    have q2:=q.2.1 h2
    rw [Cn,Oz,Cy,Df (by omega:¬ r.fN < K.flo),Df (by omega:¬ 24 < r.fN)]
    rfl
   | true=>
    have q2:=q.2.2 h2 tb hx
    rw [Cy,Oz,Cy,Df (by omega:¬ r.fN < K.flo),Df (by omega:¬ M6 tb - 1 < r.fN)]
    rfl
theorem B8a {p:C9} {r:F3} {k:Int} {K:G7} {b:Bool} (lk:lkM KM k zK=some (K,b)) (hk:r.H6=k) (h:A1D K p r=some 0):rCk p r=0:=by
 unfold rCk
 rw [hk,C4Y lk,h]
 rfl
section
variable {p:C9} (hg:p.A8.length≤maxLen) (ht:B7Z p.C8∧(A8F p.C8).2=0)
include hg ht
theorem D1A {k w n:Int} {A B:ByteArray} (hk:k=1∨k=2∨k=3∨k=4∨k=5) (hw:0≤w) (hw':w≤1000) (hA:0≤A6Z p A) (hB:0≤A6Z p B) (hAB:A ≠ B)
  (a0:A ≠ ⟨#[]⟩) (b0:B ≠ ⟨#[]⟩) (h1:k=1→0≤n∧n≤24) (h4:k=4→1≤n∧n≤24) (h0:k ≠ 1→k ≠ 4→n=0):rCk p ⟨k,w,A,B,⟨#[]⟩,n⟩=0:=by
 have key:∀ {K:G7} {b:Bool},lkM KM k zK=some (K,b)→decide (K.A7b=(⟨#[]⟩:ByteArray))=false→K.fa=103→K.fb=true→K.ft=0→K.A6j=false→(K.fn=true→K.flo≤n∧n≤24)→(K.fn=false→n=0)→rCk p ⟨k,w,A,B,⟨#[]⟩,n⟩=0:=fun {K b} lk hw1 h2 h3 h5 h6 h7 h8=>by
  refine B8a lk rfl (C2G hg ht hw1 hw hw' ?_ (fun _=>hA) (fun _=>⟨hB,hAB⟩) (fun h=>by omega) (fun h=>by omega) (fun h=>by rw [h6] at h; cases h) (fun h=>⟨(h7 h).1,fun _=>(h7 h).2,fun h=>by rw [h6] at h; cases h⟩))
  cases hn:K.fn with
  | true=>simp [*,A0w,A0p,A0n]
  | false=>have:=h8 hn; subst this; simp [*,A0w,A0p,A0n]
 rcases hk with rfl | rfl | rfl | rfl | rfl
 ·exact key D1C (by kernel_rfl) rfl rfl rfl rfl (fun _=>h1 rfl) (fun h=>by cases h)
 ·exact key D1T (by kernel_rfl) rfl rfl rfl rfl (fun h=>by cases h) (fun _=>h0 (by omega) (by omega))
 ·exact key D2c (by kernel_rfl) rfl rfl rfl rfl (fun h=>by cases h) (fun _=>h0 (by omega) (by omega))
 ·exact key D1N (by kernel_rfl) rfl rfl rfl rfl (fun _=>h4 rfl) (fun h=>by cases h)
 ·exact key D2i (by kernel_rfl) rfl rfl rfl rfl (fun h=>by cases h) (fun _=>h0 (by omega) (by omega))
theorem D3i {w:Int} {A T:ByteArray} (hw:0≤w) (hw':w≤1000) (hA:0≤A6Z p A) (a0:A ≠ ⟨#[]⟩) (t0:T ≠ ⟨#[]⟩) (hT:0≤A4n p T):rCk p ⟨6,w,A,⟨#[]⟩,T,0⟩=0:=
 B8a D1L rfl (C2G hg ht (by kernel_rfl) hw hw' (by simp [*,A0w,A0p,A0n]) (fun _=>hA) (fun h=>by cases h) (fun h=>by simp at h) (fun _=>hT) (fun h=>by cases h) (fun h=>by cases h))
theorem C9N {w n:Int} {A T:ByteArray} (hw:0≤w) (hw':w≤1000) (hA:0≤A6Z p A) (a0:A ≠ ⟨#[]⟩) (t0:T ≠ ⟨#[]⟩) (hT:0≤A4n p T) {t:D5} (hx:H5 p.C8 (A4n p T)=some t) (hn:0≤n) (hn':n < M6 t):rCk p ⟨7,w,A,⟨#[]⟩,T,n⟩=0:=
 B8a C9Z rfl (C2G hg ht (by kernel_rfl) hw hw' (by simp [*,A0w,A0p,A0n]) (fun _=>hA) (fun h=>by cases h) (fun h=>by simp at h) (fun _=>hT) (fun _=>rfl) (fun _=>⟨hn,(fun h=>by cases h),(fun _ t' ht'=>by
  have e:H5 p.C8 (A4n p T)=some t':=by
   rw [show A4n p T=((A4n p T).toNat:Int) by omega]
   exact K9 ht'
  rw [hx] at e
  cases e
  exact hn')⟩))
theorem C4g {w:Int} {A:ByteArray} (hw:0≤w) (hw':w≤1000) (hA:A=⟨#[]⟩∨(A ≠ ⟨#[]⟩∧0≤A6Z p A)):rCk p ⟨10,w,A,⟨#[]⟩,⟨#[]⟩,0⟩=0:=
 B8a C8m rfl (C2G hg ht (by kernel_rfl) hw hw' (by simp [*,A0w,A0p,A0n]) (fun h=>by
  rcases hA with e | e
  ·rcases h with h | ⟨_,h⟩
   ·simp at h
   ·exact absurd e h
  ·exact e.2) (fun h=>by cases h) (fun h=>by simp at h) (fun h=>by simp at h) (fun h=>by cases h) (fun h=>by cases h))
theorem C6d {w:Int} {A T:ByteArray} (hw:0≤w) (hw':w≤1000) (a0:A ≠ ⟨#[]⟩) (ha:A.size≤maxLen) (hn:A4J A=true) (t0:T ≠ ⟨#[]⟩) (hT:0≤A4n p T):rCk p ⟨17,w,A,⟨#[]⟩,T,0⟩=0:=
 B8a C8r rfl (C2G hg ht (by kernel_rfl) hw hw' (by simp [*,A0w,A0p,A0n]) (fun h=>by simp at h) (fun h=>by cases h) (fun _=>by rw [←hn]; exact B6W ha) (fun _=>hT) (fun h=>by cases h) (fun h=>by cases h))
theorem D0o {k w n:Int} {T:ByteArray} (hk:k=8∨k=9∨k=11∨k=12∨k=13∨k=14∨k=18∨k=15∨k=16) (hw:0≤w) (hw':w≤1000) (hT:T=⟨#[]⟩∨(T ≠ ⟨#[]⟩∧0≤A4n p T)) (hn:n=0∨((k=15∨k=16)∧0≤n∧n≤24)):rCk p ⟨k,w,⟨#[]⟩,⟨#[]⟩,T,n⟩=0:=by
 have key:∀ {K:G7} {b:Bool},lkM KM k zK=some (K,b)→decide (K.A7b=(⟨#[]⟩:ByteArray))=false→K.fa=0→K.fb=false→K.ft=101→K.A6j=false→(K.fn=true→K.flo≤n∧n≤24)→(K.fn=false→n=0)→rCk p ⟨k,w,⟨#[]⟩,⟨#[]⟩,T,n⟩=0:=fun {K b} lk hw1 h2 h3 h5 h6 h7 h8=>by
  refine B8a lk rfl (C2G hg ht hw1 hw hw' ?_ (fun h=>by omega) (fun h=>by rw [h3] at h; cases h) (fun h=>by omega) (fun h=>?_) (fun h=>by rw [h6] at h; cases h) (fun h=>⟨(h7 h).1,fun _=>(h7 h).2,fun h=>by rw [h6] at h; cases h⟩))
  ·cases hq:K.fn with
   | true=>simp [*,A0w,A0p,A0n]
   | false=>have:=h8 hq; subst this; simp [*,A0w,A0p,A0n]
  ·rcases hT with e | e
   ·rcases h with h | ⟨_,h⟩
    ·omega
    ·exact absurd e h
   ·exact e.2
 rcases hk with rfl | rfl | rfl | rfl | rfl | rfl | rfl | rfl | rfl
 ·exact key D1p (by kernel_rfl) rfl rfl rfl rfl (fun h=>by cases h) (fun _=>by omega)
 ·exact key D1Z (by kernel_rfl) rfl rfl rfl rfl (fun h=>by cases h) (fun _=>by omega)
 ·exact key C7Z (by kernel_rfl) rfl rfl rfl rfl (fun h=>by cases h) (fun _=>by omega)
 ·exact key C8t (by kernel_rfl) rfl rfl rfl rfl (fun h=>by cases h) (fun _=>by omega)
 ·exact key C8M (by kernel_rfl) rfl rfl rfl rfl (fun h=>by cases h) (fun _=>by omega)
 ·exact key C8v (by kernel_rfl) rfl rfl rfl rfl (fun h=>by cases h) (fun _=>by omega)
 ·exact key C7X (by kernel_rfl) rfl rfl rfl rfl (fun h=>by cases h) (fun _=>by omega)
 ·exact key C8J (by kernel_rfl) rfl rfl rfl rfl (fun _=>by dsimp only; omega) (fun h=>by cases h)
 ·exact key C8Z (by kernel_rfl) rfl rfl rfl rfl (fun _=>by dsimp only; omega) (fun h=>by cases h)
end
end Go.Pl
namespace Go.Pl
open Go Go.Sl Go.Dm
structure MTs (ts:List D5):Prop where
 len:ts.length≤3
 t:∀ i t,ts[i]?=some t→A5D t=0∧t.F7=wd i∧A1z (D5.mk t.F7 t.Q4 t.fA t.fB ([]:List Int) t.fX t.fY)=some (M6 t)∧M6 t≤8∧OkT t
 x:∀ (i:Nat) (t:D5),ts[i]?=some t→∃ x:Nat,x < 256∧A2X (i:Int) (x:Int)=some t
theorem D1b:([0,1,2].all fun i=>!decide (wd i=(⟨#[]⟩:ByteArray)) && [0,1,2].all fun j=>decide (i=j) || !decide (wd i=wd j))=true:=by kernel_rfl
theorem D3g {i:Nat} (h:i < 3):wd i ≠ (⟨#[]⟩:ByteArray):=by
 have:=List.all_eq_true.1 D1b i (by simp; omega)
 simp only [Bool.and_eq_true,Bool.not_eq_true',decide_eq_false_iff_not] at this
 exact this.1
theorem C8k {i j:Nat} (hi:i < 3) (hj:j < 3) (h:wd i=wd j):i=j:=by
 have:=List.all_eq_true.1 D1b i (by simp; omega)
 simp only [Bool.and_eq_true] at this
 have:=List.all_eq_true.1 this.2 j (by simp; omega)
 simp only [Bool.or_eq_true,decide_eq_true_eq,Bool.not_eq_true',decide_eq_false_iff_not] at this
 rcases this with e | e
 ·exact e
 ·exact absurd h e
theorem C5e {α:Type} (p:α→Bool):∀ (l:List α) (i k:Nat) (x:α),l[k]?=some x→p x=true→(∀ j y,j < k→l[j]?=some y→p y=false)→Z6 p i l=((i + k:Nat):Int)
 | [],_,_,_,h,_,_=>by simp at h
 | y::l,i,0,x,h,hp,_=>by simp at h; subst h; simp [Z6,hp]
 | y::l,i,k + 1,x,h,hp,hq=>by
  have h0:=hq 0 y (by omega) rfl
  simp only [Z6,h0,Bool.false_eq_true,if_false]
  rw [C5e p l (i + 1) k x (by simpa using h) hp (fun j z hj hz=>hq (j + 1) z (by omega) (by simpa using hz))]
  congr 1
  omega
theorem MTs.tab {p:C9} (h:MTs p.C8) {i:Nat} (hi:i < p.C8.length):A4n p (wd i)=(i:Int):=by
 have hx:=Lg hi
 have hl:=h.len
 unfold A4n
 rw [C5e _ p.C8 0 i _ hx (by rw [(h.t i _ hx).2.1]; simp) (fun j y hj hy=>by
  rw [(h.t j y hy).2.1]
  refine Df fun e=>?_
  have:=C8k (by omega) (by omega) e
  omega)]
 congr 1
 omega
theorem MGs.who {p:C9} (h:MGs p.A8) {i:Nat} {g:E8} (hg:p.A8[i]?=some g):0≤A6Z p g.F7∧g.F7 ≠ ⟨#[]⟩:=by
 have hl:=h.len
 have hi:=Q6 hg
 refine ⟨?_,by rw [(h.g i g hg).name]; exact D2y (B8A (by omega))⟩
 unfold A6Z
 rw [B1q]
 exact List.any_eq_true.2 ⟨g,A0T hg,by simp⟩
theorem C5K {m n:Nat} (hm:m≤9223372036854775807) (hn:0 < n):A5G (m:Int) (n:Int)=some ((m / n:Nat):Int):=by
 obtain ⟨n,rfl⟩:∃ k,n=k + 1:=⟨n - 1,by omega⟩
 show (bif Nat.ble m 9223372036854775807 then some (Int.ofNat (m / (n + 1))) else none)=_
 rw [Nat.ble_eq_true_of_le hm]
 rfl
theorem D0d {m n:Nat} (hn:0 < n):V9 (m:Int) (n:Int)=some ((m % n:Nat):Int):=by
 obtain ⟨n,rfl⟩:∃ k,n=k + 1:=⟨n - 1,by omega⟩
 rfl
theorem B8o {τ ρ:Type} {bad:Nat→τ→Option ρ} {fin:ρ}:∀ (xs:List τ) (i:Nat),(∀ k x,xs[k]?=some x→bad (i + k) x=none)→A0M bad fin i xs=fin
 | [],_,_=>rfl
 | x::xs,i,h=>by
  simp only [A0M]
  rw [show bad i x=none from h 0 x rfl]
  exact B8o xs (i + 1) (fun k y hy=>by rw [show i + 1 + k=i + (k + 1) by omega]; exact h (k + 1) y hy)
theorem MTs.ok {l:List D5} (h:MTs l):B7Z l∧(A8F l).2=0:=by
 have hl:=h.len
 refine ⟨⟨by rw [mx]; omega,fun t ht=>?_⟩,?_⟩
 ·obtain ⟨i,hi⟩:=List.getElem?_of_mem ht
  exact (h.t i t hi).2.2.2.2
 ·unfold A8F
  rw [if_neg (by omega),B8o l 0 (fun k t ht=>?_)]
  ·rfl
  have hk:=Q6 ht
  have:=h.t k t ht
  unfold B6b
  rw [Nat.zero_add,if_neg (by simp [this.1]),if_neg]
  intro hc
  obtain ⟨y,hy,e⟩:=List.any_eq_true.1 hc
  obtain ⟨j,hj⟩:=List.getElem?_of_mem hy
  have hjk:=Q6 hj
  rw [List.length_take] at hjk
  have hj':l[j]?=some y:=by rw [List.getElem?_take] at hj; rw [if_pos (by omega)] at hj; exact hj
  rw [decide_eq_true_eq,(h.t j y hj').2.1,this.2.1] at e
  have:=C8k (by omega) (by omega) e
  omega
structure B6Y (m:R7):Prop where
 t:∀ e ∈ m.C8,0≤e∧e≤255
 g:∀ e ∈ m.A8,0≤e∧e≤65535
 i:∀ e ∈ m.M9,0≤e∧e≤255
 r:∀ e ∈ m.F9,0≤e∧e≤4294967295
 tl:m.C8.length≤maxLen
 gl:m.A8.length≤maxLen
 il:m.M9.length≤maxLen
 rl:m.F9.length≤maxLen
structure RU (r:F3):Prop where
 u:OkU r
 a:r.fA.size≤2
 b:r.fB.size≤2
theorem C9J {p:C9} (hG:MGs p.A8) (hT:MTs p.C8) {x:Nat} (hx:x≤4294967295):∃ r b,B0t p (x:Int)=some (r,b)∧(b=true→rCk p r=0∧RU r):=by
 have lg:=hG.len
 have lt:=hT.len
 have mg:p.A8.length≤maxLen:=by rw [mx]; omega
 have mt:=hT.ok
 have q18:A5G (x:Int) 18=some ((x / 18:Nat):Int):=C5K (n:=18) (by omega) (by omega)
 have r18:V9 (x:Int) 18=some ((x % 18:Nat):Int):=rfl
 have r5:∀ m:Nat,V9 (m:Int) 5=some ((m % 5:Nat):Int):=fun m=>rfl
 have r7:∀ m:Nat,V9 (m:Int) 7=some ((m % 7:Nat):Int):=fun m=>rfl
 have r4:∀ m:Nat,V9 (m:Int) 4=some ((m % 4:Nat):Int):=fun m=>rfl
 have r3:∀ m:Nat,V9 (m:Int) 3=some ((m % 3:Nat):Int):=fun m=>rfl
 have q5:A5G ((x / 18:Nat):Int) 5=some ((x / 18 / 5:Nat):Int):=C5K (n:=5) (by omega) (by omega)
 have e1:(1:Int) + ((x % 18:Nat):Int)=((1 + x % 18:Nat):Int):=by omega
 have e2:(1:Int) + ((x / 18 % 7:Nat):Int)=((1 + x / 18 % 7:Nat):Int):=by omega
 obtain ⟨w,hw,w0,w1⟩:∃ w:Nat,(bif decide ((1:Int) < ((x / 18 % 5:Nat):Int)) then Option.bind (V9 ((x / 18:Nat):Int) (7:Int)) fun t28=>Option.bind (J8 ((1:Int) + t28)) fun t29=>some t29 else some (0:Int))=some (w:Int)∧0≤(w:Int)∧(w:Int)≤1000:=by
  cases decide ((1:Int) < ((x / 18 % 5:Nat):Int))
  ·exact ⟨0,rfl,by omega,by omega⟩
  ·exact ⟨1 + x / 18 % 7,by simp only [Cy,r7,e2,A2p (show -1000000000≤((1 + x / 18 % 7:Nat):Int) by omega) (by omega),Oz],by omega,by omega⟩
 simp only [B0t,r18,e1,A2p (show -1000000000≤((1 + x % 18:Nat):Int) by omega) (by omega),C6T (show 1 + x % 18≤255 by omega),q18,r5,q5,hw,Oz]
 have hk1:1≤1 + x % 18:=by omega
 have hk2:1 + x % 18≤18:=by omega
 have hz:x / 18 / 5≤4294967295:=by omega
 generalize 1 + x % 18=k at hk1 hk2
 generalize x / 18 / 5=z at hz
 by_cases hg0:p.A8.length=0
 ·rw [Dt (show (p.A8.length:Int)=0 by omega)]
  exact ⟨_,_,rfl,fun h=>by cases h⟩
 rw [Df (show ¬ (p.A8.length:Int)=0 by omega)]
 by_cases ht0:p.C8.length=0
 ·rw [Dt (show (p.C8.length:Int)=0 by omega)]
  exact ⟨_,_,rfl,fun h=>by cases h⟩
 rw [Df (show ¬ (p.C8.length:Int)=0 by omega)]
 simp only [Cn,Oz]
 have a1:=D0d (m:=z) (n:=p.A8.length) (by omega)
 have a2:=C5K (m:=z) (n:=p.A8.length) (by omega) (by omega)
 have a3:=D0d (m:=z / p.A8.length) (n:=p.A8.length) (by omega)
 have a4:A5G (z:Int) 7=some ((z / 7:Nat):Int):=C5K (n:=7) (by omega) (by omega)
 have a5:=D0d (m:=z / 7) (n:=p.C8.length) (by omega)
 have a6:A5G (z:Int) 11=some ((z / 11:Nat):Int):=C5K (n:=11) (by omega) (by omega)
 have a7:A5G (z:Int) 13=some ((z / 13:Nat):Int):=C5K (n:=13) (by omega) (by omega)
 obtain ⟨ga,hA⟩:∃ g,p.A8[z % p.A8.length]?=some g:=⟨_,Lg (Nat.mod_lt z (show p.A8.length > 0 by omega))⟩
 obtain ⟨gb,hB⟩:∃ g,p.A8[z / p.A8.length % p.A8.length]?=some g:=⟨_,Lg (Nat.mod_lt (z / p.A8.length) (show p.A8.length > 0 by omega))⟩
 obtain ⟨ta,hTt⟩:∃ g,p.C8[z / 7 % p.C8.length]?=some g:=⟨_,Lg (Nat.mod_lt (z / 7) (show p.C8.length > 0 by omega))⟩
 have htl:=Nat.mod_lt (z / 7) (show p.C8.length > 0 by omega)
 have hal:=Nat.mod_lt z (show p.A8.length > 0 by omega)
 have hbl:=Nat.mod_lt (z / p.A8.length) (show p.A8.length > 0 by omega)
 simp only [B3m,a1,a2,a3,a4,a5,a6,r4,Oz]
 have hn4:z / 11 % 4 < 4:=by omega
 generalize z / 11 % 4=n at hn4
 generalize z / 13=y at a7
 generalize z / p.A8.length % p.A8.length=b at hB hbl
 generalize z % p.A8.length=a at hA hal
 generalize z / 7 % p.C8.length=t at hTt htl
 have hr3:∃ c:Bool,V9 (z:Int) (3:Int)=some ((z % 3:Nat):Int):=⟨true,rfl⟩
 have wA:=hG.who hA
 have wB:=hG.who hB
 have nA:=hG.g a ga hA
 have nB:=hG.g b gb hB
 have tT:=hT.t t ta hTt
 have tI:A4n p ta.F7=(t:Int):=by rw [tT.2.1]; exact hT.tab htl
 have tN:ta.F7 ≠ ⟨#[]⟩:=by rw [tT.2.1]; exact D3g (by omega)
 have tC:H5 p.C8 (A4n p ta.F7)=some ta:=by rw [tI]; exact K9 hTt
 have gA:=K9 hA
 have gB:=K9 hB
 have gT:=K9 hTt
 have og:=nA.og
 have hne:a ≠ b→ga.F7 ≠ gb.F7:=fun hab e=>by
  rw [nA.name,nB.name] at e
  exact hab (C9F (by omega) (by omega) (C5O (Nat.le_of_lt (B8A (by omega))) (Nat.le_of_lt (B8A (by omega))) e))
 have okU:∀ {k:Int} {A B T:ByteArray} {n:Int},0≤k→k≤255→A.size≤2→B.size≤2→RU ⟨k,(w:Int),A,B,T,n⟩:=fun h h' h2 h3=>⟨⟨⟨h,h'⟩,by rw [mx]; dsimp only; omega⟩,h2,h3⟩
 have z0:(⟨#[]⟩:ByteArray).size≤2:=Nat.zero_le _
 have sA:ga.F7.size≤2:=by rw [nA.name,(B8u (B8A (by omega))).2.2]; omega
 have sB:gb.F7.size≤2:=by rw [nB.name,(B8u (B8A (by omega))).2.2]; omega
 have two:∀ (k:Int) (m:Int),(k=1∨k=2∨k=3∨k=4∨k=5)→(k=1→0≤m∧m≤24)→(k=4→1≤m∧m≤24)→(k ≠ 1→k ≠ 4→m=0)→(!decide ((a:Int)=(b:Int)))=true→rCk p ⟨k,(w:Int),ga.F7,gb.F7,⟨#[]⟩,m⟩=0∧RU ⟨k,(w:Int),ga.F7,gb.F7,⟨#[]⟩,m⟩:=fun k m h1 h2 h3 h4 h5=>by
  simp only [Bool.not_eq_true',decide_eq_false_iff_not] at h5
  exact ⟨D1A mg mt h1 w0 w1 wA.1 wB.1 (hne fun e=>h5 (by rw [e])) wA.2 wB.2 h2 h3 h4,okU (by omega) (by omega) sA sB⟩
 have rest:∀ (k:Int) (T:ByteArray) (m:Int),(k=8∨k=9∨k=11∨k=12∨k=13∨k=14∨k=18∨k=15∨k=16)→(T=⟨#[]⟩∨T=ta.F7)→(m=0∨((k=15∨k=16)∧0≤m∧m≤24))→rCk p ⟨k,(w:Int),⟨#[]⟩,⟨#[]⟩,T,m⟩=0∧RU ⟨k,(w:Int),⟨#[]⟩,⟨#[]⟩,T,m⟩:=fun k T m h1 h2 h3=>by
  refine ⟨D0o mg mt h1 w0 w1 ?_ h3,okU (by omega) (by omega) z0 z0⟩
  rcases h2 with rfl | rfl
  ·exact .inl rfl
  ·exact .inr ⟨tN,by omega⟩
 obtain h | h | h | h | h | h | h | h | h | h | h | h | h | h | h | h | h | h:k=1∨k=2∨k=3∨k=4∨k=5∨k=6∨k=7∨k=8∨k=9∨k=10∨k=11∨k=12∨k=13∨k=14∨k=15∨k=16∨k=17∨k=18:=by omega
 all_goals subst h
 ·exact ⟨⟨1,w,ga.F7,gb.F7,⟨#[]⟩,n⟩,!decide ((a:Int)=(b:Int)),by simp [A2R,gA,gB],fun h=>two 1 (n:Int) (by simp) (fun _=>by omega) (fun h=>by omega) (fun h=>by omega) h⟩
 ·exact ⟨⟨2,w,ga.F7,gb.F7,⟨#[]⟩,0⟩,!decide ((a:Int)=(b:Int)),by simp [A2R,gA,gB],fun h=>two 2 0 (by simp) (fun _=>by omega) (fun h=>by omega) (fun _ _=>rfl) h⟩
 ·exact ⟨⟨3,w,ga.F7,gb.F7,⟨#[]⟩,0⟩,!decide ((a:Int)=(b:Int)),by simp [A2R,gA,gB],fun h=>two 3 0 (by simp) (fun _=>by omega) (fun h=>by omega) (fun _ _=>rfl) h⟩
 ·exact ⟨⟨4,w,ga.F7,gb.F7,⟨#[]⟩,(n:Int) + 1⟩,!decide ((a:Int)=(b:Int)),by simp [A2R,gA,gB,A2p (show -1000000000≤(n:Int) + 1 by omega) (by omega)],fun h=>two 4 ((n:Int) + 1) (by simp) (fun h=>by omega) (fun _=>by omega) (fun _ h=>by omega) h⟩
 ·exact ⟨⟨5,w,ga.F7,gb.F7,⟨#[]⟩,0⟩,!decide ((a:Int)=(b:Int)),by simp [A2R,gA,gB],fun h=>two 5 0 (by simp) (fun _=>by omega) (fun h=>by omega) (fun _ _=>rfl) h⟩
 ·exact ⟨⟨6,w,ga.F7,⟨#[]⟩,ta.F7,0⟩,true,by simp [A9z,gA,gT],fun _=>⟨D3i mg mt w0 w1 wA.1 wA.2 tN (by omega),okU (by omega) (by omega) sA z0⟩⟩
 ·have hb:=Z8 ta
  have hpos:=(A6O tT.1).2.1
  obtain ⟨s,hs⟩:=Zn hb.1
  have m1:=D0d (m:=y) (n:=s) (by omega)
  have hlt:=Nat.mod_lt y (show s > 0 by omega)
  have sz:=tT.2.2.1
  rw [hs] at sz
  exact ⟨⟨7,w,ga.F7,⟨#[]⟩,ta.F7,((y % s:Nat):Int)⟩,true,by simp only [A9z,gA,gT,a7,sz,m1,Oz]; rfl,fun _=>⟨C9N mg mt w0 w1 wA.1 wA.2 tN (by omega) tC (by omega) (by omega),okU (by omega) (by omega) sA z0⟩⟩
 all_goals simp only [B3I,B3o,r3,gA,gT]
 ·by_cases h3:0 < z % 3
  ·exact ⟨⟨8,w,⟨#[]⟩,⟨#[]⟩,ta.F7,0⟩,true,by simp [show (0:Int) < (z:Int) % 3 by omega],fun _=>rest 8 _ 0 (by simp) (.inr rfl) (.inl rfl)⟩
  ·exact ⟨⟨8,w,⟨#[]⟩,⟨#[]⟩,⟨#[]⟩,0⟩,true,by simp [show ¬ (0:Int) < (z:Int) % 3 by omega],fun _=>rest 8 _ 0 (by simp) (.inl rfl) (.inl rfl)⟩
 ·by_cases h3:0 < z % 3
  ·exact ⟨⟨9,w,⟨#[]⟩,⟨#[]⟩,ta.F7,0⟩,true,by simp [show (0:Int) < (z:Int) % 3 by omega],fun _=>rest 9 _ 0 (by simp) (.inr rfl) (.inl rfl)⟩
  ·exact ⟨⟨9,w,⟨#[]⟩,⟨#[]⟩,⟨#[]⟩,0⟩,true,by simp [show ¬ (0:Int) < (z:Int) % 3 by omega],fun _=>rest 9 _ 0 (by simp) (.inl rfl) (.inl rfl)⟩
 ·by_cases h3:z % 3=0
  ·exact ⟨⟨10,w,ga.F7,⟨#[]⟩,⟨#[]⟩,0⟩,true,by simp [show (z:Int) % 3=0 by omega],fun _=>⟨C4g mg mt w0 w1 (.inr ⟨wA.2,wA.1⟩),okU (by omega) (by omega) sA z0⟩⟩
  ·exact ⟨⟨10,w,⟨#[]⟩,⟨#[]⟩,⟨#[]⟩,0⟩,true,by simp [show ¬ (z:Int) % 3=0 by omega],fun _=>⟨C4g mg mt w0 w1 (.inl rfl),okU (by omega) (by omega) z0 z0⟩⟩
 ·by_cases h3:0 < z % 3
  ·exact ⟨⟨11,w,⟨#[]⟩,⟨#[]⟩,ta.F7,0⟩,true,by simp [show (0:Int) < (z:Int) % 3 by omega],fun _=>rest 11 _ 0 (by simp) (.inr rfl) (.inl rfl)⟩
  ·exact ⟨⟨11,w,⟨#[]⟩,⟨#[]⟩,⟨#[]⟩,0⟩,true,by simp [show ¬ (0:Int) < (z:Int) % 3 by omega],fun _=>rest 11 _ 0 (by simp) (.inl rfl) (.inl rfl)⟩
 ·by_cases h3:0 < z % 3
  ·exact ⟨⟨12,w,⟨#[]⟩,⟨#[]⟩,ta.F7,0⟩,true,by simp [show (0:Int) < (z:Int) % 3 by omega],fun _=>rest 12 _ 0 (by simp) (.inr rfl) (.inl rfl)⟩
  ·exact ⟨⟨12,w,⟨#[]⟩,⟨#[]⟩,⟨#[]⟩,0⟩,true,by simp [show ¬ (0:Int) < (z:Int) % 3 by omega],fun _=>rest 12 _ 0 (by simp) (.inl rfl) (.inl rfl)⟩
 ·by_cases h3:0 < z % 3
  ·exact ⟨⟨13,w,⟨#[]⟩,⟨#[]⟩,ta.F7,0⟩,true,by simp [show (0:Int) < (z:Int) % 3 by omega],fun _=>rest 13 _ 0 (by simp) (.inr rfl) (.inl rfl)⟩
  ·exact ⟨⟨13,w,⟨#[]⟩,⟨#[]⟩,⟨#[]⟩,0⟩,true,by simp [show ¬ (0:Int) < (z:Int) % 3 by omega],fun _=>rest 13 _ 0 (by simp) (.inl rfl) (.inl rfl)⟩
 ·by_cases h3:0 < z % 3
  ·exact ⟨⟨14,w,⟨#[]⟩,⟨#[]⟩,ta.F7,0⟩,true,by simp [show (0:Int) < (z:Int) % 3 by omega],fun _=>rest 14 _ 0 (by simp) (.inr rfl) (.inl rfl)⟩
  ·exact ⟨⟨14,w,⟨#[]⟩,⟨#[]⟩,⟨#[]⟩,0⟩,true,by simp [show ¬ (0:Int) < (z:Int) % 3 by omega],fun _=>rest 14 _ 0 (by simp) (.inl rfl) (.inl rfl)⟩
 ·by_cases h3:0 < z % 3
  ·exact ⟨⟨15,w,⟨#[]⟩,⟨#[]⟩,ta.F7,(n:Int)⟩,true,by simp [show (0:Int) < (z:Int) % 3 by omega],fun _=>rest 15 _ (n:Int) (by simp) (.inr rfl) (.inr ⟨by simp,by omega,by omega⟩)⟩
  ·exact ⟨⟨15,w,⟨#[]⟩,⟨#[]⟩,⟨#[]⟩,(n:Int)⟩,true,by simp [show ¬ (0:Int) < (z:Int) % 3 by omega],fun _=>rest 15 _ (n:Int) (by simp) (.inl rfl) (.inr ⟨by simp,by omega,by omega⟩)⟩
 ·by_cases h3:0 < z % 3
  ·exact ⟨⟨16,w,⟨#[]⟩,⟨#[]⟩,ta.F7,(n:Int)⟩,true,by simp [show (0:Int) < (z:Int) % 3 by omega],fun _=>rest 16 _ (n:Int) (by simp) (.inr rfl) (.inr ⟨by simp,by omega,by omega⟩)⟩
  ·exact ⟨⟨16,w,⟨#[]⟩,⟨#[]⟩,⟨#[]⟩,(n:Int)⟩,true,by simp [show ¬ (0:Int) < (z:Int) % 3 by omega],fun _=>rest 16 _ (n:Int) (by simp) (.inl rfl) (.inr ⟨by simp,by omega,by omega⟩)⟩
 ·refine ⟨⟨17,w,ga.A0t,⟨#[]⟩,ta.F7,0⟩,!decide (ga.A0t=(⟨#[]⟩:ByteArray)),by simp,fun h=>?_⟩
  simp only [Bool.not_eq_true',decide_eq_false_iff_not] at h
  have hd:=nA.di
  unfold A3X at hd
  rw [Df h,Bool.false_or] at hd
  exact ⟨C6d mg mt w0 w1 h og.diet hd tN (by omega),okU (by omega) (by omega) nA.ds z0⟩
 ·by_cases h3:0 < z % 3
  ·exact ⟨⟨18,w,⟨#[]⟩,⟨#[]⟩,ta.F7,0⟩,true,by simp [show (0:Int) < (z:Int) % 3 by omega],fun _=>rest 18 _ 0 (by simp) (.inr rfl) (.inl rfl)⟩
  ·exact ⟨⟨18,w,⟨#[]⟩,⟨#[]⟩,⟨#[]⟩,0⟩,true,by simp [show ¬ (0:Int) < (z:Int) % 3 by omega],fun _=>rest 18 _ 0 (by simp) (.inl rfl) (.inl rfl)⟩
end Go.Pl
namespace Go.Pl
open Go Go.Sl Go.Dm
theorem Vld.of {p:C9} (h:OkP p) (h1:(A8F p.C8).2=0) (h2:(B4v (Q7.mk p.A8 p.M9)).2=0) (h3:p.R8.length=0∨p.R8.length=p.A8.length) (h4:p.R8.all A6w=true) (h5:(p.A8.length:Int)≤U2 p.C8)
  (h6:p.F9.length≤64) (h7:∀ r ∈ p.F9,rCk p r=0):Vld p:=by
 refine ⟨h,?_⟩
 have hb:B7F p=(0,0):=by
  unfold B7F
  rw [if_neg (by simp [h1]),if_neg (by simp [h2]),if_neg (by omega),if_neg (by simp [h4]),if_neg (by omega)]
 have hr:V3 (B7O p) 0 p.F9=none:=B2s _ 0 fun k r hr=>by
  have:=Q6 hr
  unfold B7O
  rw [if_neg (by simp [h7 r (A0T hr)]),if_neg (by omega)]
 unfold C4L
 rw [hb,hr]
 rfl
theorem C5j (l:List D5) (t:D5):U2 (l ++ [t])=U2 l + M6 t:=by simp [U2]
theorem C5l {m:R7} (h:B6Y m):∃ s ts,iter (A1t m) FUEL (([]:List D5),(0:Int),(0:Int))=some (s,ts)∧MTs ts∧s=U2 ts∧ts.length=min m.C8.length 3:=by
 obtain ⟨r,hr,hq⟩:=M8 (f:=A1t m) (fun s=>∃ k:Nat,s.2.2=(k:Int)∧k≤min m.C8.length 3∧s.1.length=k∧MTs s.1∧s.2.1=U2 s.1) (fun s=>3 - s.2.2.toNat) (fun r=>MTs r.2∧r.1=U2 r.2∧r.2.length=min m.C8.length 3) (fun s hs=>by
  obtain ⟨ts,s,i⟩:=s
  obtain ⟨k,hk,hkn,hl,hT,hsum⟩:=hs
  simp only at hk hl hT hsum
  subst hk; subst hsum
  simp only [A1t]
  by_cases hlt:k < m.C8.length∧k < 3
  ·left
   have h1:decide ((k:Int) < (m.C8.length:Int))=true:=Dt (by omega)
   have h2:decide ((k:Int) < 3)=true:=Dt (by omega)
   have hx:=Lg hlt.1
   have hb:=h.t _ (List.getElem_mem hlt.1)
   generalize m.C8[k]=e at hx hb
   obtain ⟨e,rfl⟩:=Zn hb.1
   obtain ⟨t,e1,t1,t2,t3,t4,t5⟩:=C9I hlt.2 (show e < 256 by omega)
   have hbs:=A3c ts
   have hts:=Z8 t
   simp only [h1,h2,Cy,Oz,K9 hx,C3g (show (0:Int)≤(e:Int) by omega) (by omega),e1,Z4 (show ts.length≤1000 by omega),t3,A2p (show -1000000000≤U2 ts + M6 t by omega) (by omega),I4 (show k < 9223372036854775807 by omega)]
   refine ⟨_,rfl,⟨k + 1,rfl,by omega,by simp [hl],⟨by simp; omega,fun i t' h'=>?_,fun i t' h'=>?_⟩,(C5j ts t).symm⟩,by dsimp only; omega⟩
   ·dsimp only at h'
    rw [List.getElem?_append] at h'
    split at h'
    ·exact hT.t i t' h'
    ·have hi0:i - ts.length=0:=by
      have:=Q6 h'
      simp at this
      omega
     rw [hi0] at h'
     simp at h'
     subst h'
     have:i=k:=by omega
     subst this
     exact ⟨t1,t2,t3,t4,t5⟩
   ·dsimp only at h'
    rw [List.getElem?_append] at h'
    split at h'
    ·exact hT.x i t' h'
    ·have hi0:i - ts.length=0:=by
      have:=Q6 h'
      simp at this
      omega
     rw [hi0] at h'
     simp at h'
     subst h'
     have:i=k:=by omega
     subst this
     exact ⟨e,by omega,e1⟩
  ·right
   have:(bif decide ((k:Int) < (m.C8.length:Int)) then some (decide ((k:Int) < (3:Int))) else some false)=some false:=by
    by_cases h1:k < m.C8.length
    ·rw [Dt (show (k:Int) < (m.C8.length:Int) by omega),Cy,Df (show ¬ (k:Int) < 3 by omega)]
    ·rw [Df (show ¬ (k:Int) < (m.C8.length:Int) by omega)]; rfl
   simp only [this,Oz,Cn]
   exact ⟨_,rfl,hT,rfl,by dsimp only; omega⟩) FUEL (([]:List D5),(0:Int),(0:Int)) ⟨0,rfl,by omega,rfl,⟨by simp,fun i t h=>by simp at h,fun i t h=>by simp at h⟩,rfl⟩ (fuel (by dsimp only; omega))
 exact ⟨r.1,r.2,hr,hq⟩
theorem C4l {m:R7} (h:B6Y m):∃ p,B0a m=some p∧Vld p∧MGs p.A8∧MTs p.C8∧p.F9.length≤12∧(∀ r ∈ p.F9,RU r)∧p.A8.length≤m.A8.length∧p.C8.length=min m.C8.length 3∧∃ s,iter (A1t m) FUEL (([]:List D5),(0:Int),(0:Int))=some (s,p.C8):=by
 obtain ⟨s,ts,e1,hT,rfl,hl⟩:=C5l h
 have hTl:=hT.len
 have hbs:=A3c ts
 obtain ⟨n,hn⟩:=Zn hbs.1
 have hmin:min (m.A8.length:Int) (n:Int)=((min m.A8.length n:Nat):Int):=by omega
 have hmx:=mx
 obtain ⟨r,e2,hG,hGl,hR,hRc⟩:=C7O (gn:=m.A8.take (min m.A8.length n)) (tn:=m.M9) (fun e he=>h.g e (List.mem_of_mem_take he)) h.i h.il
 rw [List.length_take] at hGl
 obtain ⟨cl,e3,hc1,hc2⟩:∃ cl,(bif decide ((0:Int) < ((m.M9.length % 4:Nat):Int)) then Option.bind (iter (A4X m r) FUEL (([]:List Int),(0:Int))) fun class158=>some class158 else some ([]:List Int))=some cl∧(cl.length=0∨cl.length=r.A8.length)∧cl.all A6w=true:=by
  cases decide ((0:Int) < ((m.M9.length % 4:Nat):Int))
  ·exact ⟨[],rfl,.inl rfl,rfl⟩
  ·obtain ⟨cl,hq,hl2,ha⟩:=M8 (f:=A4X m r) (fun s=>∃ k:Nat,s.2=(k:Int)∧k≤r.A8.length∧s.1.length=k∧s.1.all A6w=true) (fun s=>r.A8.length - s.2.toNat) (fun cl=>cl.length=r.A8.length∧cl.all A6w=true) (fun s hs=>by
    obtain ⟨cl,i⟩:=s
    obtain ⟨k,hk,hkn,hl,ha⟩:=hs
    simp only at hk hl ha
    subst hk
    simp only [A4X,Cd]
    by_cases hlt:(k:Int) < (r.A8.length:Int)
    ·left
     have hkl:k < m.A8.length:=by omega
     have hx:=Lg hkl
     have hb:=h.g _ (List.getElem_mem hkl)
     generalize m.A8[k]=e at hx hb
     obtain ⟨e,rfl⟩:=Zn hb.1
     have q3:A5G (e:Int) 3=some ((e / 3:Nat):Int):=C5K (n:=3) (by omega) (by omega)
     have r4:V9 ((e / 3:Nat):Int) 4=some ((e / 3 % 4:Nat):Int):=rfl
     rw [if_pos hlt]
     simp only [K9 hx,C3g (show (0:Int)≤(e:Int) by omega) (by omega),q3,r4,Z4 (show cl.length≤1000 by have:=hG.len; omega),I4 (show k < 9223372036854775807 by omega),Oz]
     refine ⟨_,rfl,⟨k + 1,rfl,by omega,by simp [hl],?_⟩,by dsimp only; omega⟩
     dsimp only
     rw [List.all_append,ha]
     simp [A6w]
     omega
    ·right
     rw [if_neg hlt]
     exact ⟨_,rfl,by omega,ha⟩) FUEL (([]:List Int),(0:Int)) ⟨0,rfl,by omega,rfl,rfl⟩ (fuel (by have:=hG.len; dsimp only; omega))
   exact ⟨cl,by simp only [Cy,hq,Oz],.inr hl2,ha⟩
 obtain ⟨ru,e4,hr1,hr2⟩:∃ ru,iter (A4S m r) FUEL (ts,cl,([]:List F3),(0:Int))=some (ts,cl,ru)∧ru.length≤12∧∀ x ∈ ru,rCk ⟨ts,r.A8,r.M9,cl,[]⟩ x=0∧RU x:=by
  obtain ⟨q,hq,ru,rfl,h1,h2⟩:=M8 (f:=A4S m r) (fun s=>∃ k:Nat,s.2.2.2=(k:Int)∧k≤12∧s.1=ts∧s.2.1=cl∧s.2.2.1.length≤k∧∀ x ∈ s.2.2.1,rCk ⟨ts,r.A8,r.M9,cl,[]⟩ x=0∧RU x) (fun s=>12 - s.2.2.2.toNat) (fun q=>∃ ru,q=(ts,cl,ru)∧ru.length≤12∧∀ x ∈ ru,rCk ⟨ts,r.A8,r.M9,cl,[]⟩ x=0∧RU x) (fun s hs=>by
   obtain ⟨ts',cl',ru,i⟩:=s
   obtain ⟨k,hk,hkn,h1,h2,hl,ha⟩:=hs
   simp only at hk h1 h2 hl ha
   subst hk; subst h1; subst h2
   simp only [A4S]
   by_cases hlt:k < m.F9.length∧k < 12
   ·left
    have h1:decide ((k:Int) < (m.F9.length:Int))=true:=Dt (by omega)
    have h2:decide ((k:Int) < 12)=true:=Dt (by omega)
    have hx:=Lg hlt.1
    have hb:=h.r _ (List.getElem_mem hlt.1)
    generalize m.F9[k]=e at hx hb
    obtain ⟨e,rfl⟩:=Zn hb.1
    obtain ⟨x,b,ea,hax⟩:=C9J (p:=⟨ts',r.A8,r.M9,cl',[]⟩) hG hT (x:=e) (by omega)
    simp only [h1,h2,Cy,Oz,B0Z,K9 hx,C3g (show (0:Int)≤(e:Int) by omega) (by omega),ea,Z4 (show ru.length≤1000 by omega),I4 (show k < 9223372036854775807 by omega)]
    cases b
    ·exact ⟨_,rfl,⟨k + 1,rfl,by omega,rfl,rfl,by dsimp only; omega,ha⟩,by dsimp only; omega⟩
    ·exact ⟨_,rfl,⟨k + 1,rfl,by omega,rfl,rfl,by simp; omega,B0o ha (hax rfl)⟩,by dsimp only; omega⟩
   ·right
    have:(bif decide ((k:Int) < (m.F9.length:Int)) then some (decide ((k:Int) < (12:Int))) else some false)=some false:=by
     by_cases h1:k < m.F9.length
     ·rw [Dt (show (k:Int) < (m.F9.length:Int) by omega),Cy,Df (show ¬ (k:Int) < 12 by omega)]
     ·rw [Df (show ¬ (k:Int) < (m.F9.length:Int) by omega)]; rfl
    simp only [this,Oz,B0Z,Cn]
    exact ⟨_,rfl,ru,rfl,by omega,ha⟩) FUEL (ts,cl,([]:List F3),(0:Int)) ⟨0,rfl,by omega,rfl,rfl,by simp,fun x hx=>by cases hx⟩ (fuel (by dsimp only; omega))
  exact ⟨ru,hq,h1,h2⟩
 have r4:V9 (m.M9.length:Int) 4=some ((m.M9.length % 4:Nat):Int):=rfl
 refine ⟨⟨ts,r.A8,r.M9,cl,ru⟩,?_,Vld.of ⟨hT.ok.1,hR,by dsimp only; have:=hG.len; omega,by dsimp only; omega,fun x hx=>(hr2 x hx).2.u⟩ hT.ok.2 hRc hc1 hc2 (by dsimp only; omega) (by dsimp only; omega) (fun x hx=>(hr2 x hx).1),hG,hT,hr1,fun x hx=>(hr2 x hx).2,by dsimp only; omega,hl,_,e1⟩
 simp only [B0a,B4K,e1,hn,hmin,A9F (show min m.A8.length n≤m.A8.length by omega),e2,r4,e3,e4,Oz]
end Go.Pl
namespace Go.Pl
open Go Go.Sl Go.Dm
structure A2I (N G:Nat) (part:List Int):Prop where
 len:part.length=G
 bd:∀ x ∈ part,-1≤x∧x < N
 one:∀ (i j:Nat) (x:Int),i < j→part[i]?=some x→part[j]?=some x→x=-1
theorem D0T {c:Nat} (hc:0 < c) (hc':c≤100000) (e:Int):∃ s:Nat,B6n e (c:Int)=some (s:Int)∧s < c:=by
 obtain ⟨n,rfl⟩:∃ n,c=n + 1:=⟨c - 1,by omega⟩
 unfold B6n
 cases e with
 | ofNat m=>
  refine ⟨m % (n + 1),?_,Nat.mod_lt _ hc⟩
  have:V9 (Int.ofNat m) ((n + 1:Nat):Int)=some ((m % (n + 1):Nat):Int):=rfl
  rw [this]
  simp only [Oz]
  rw [Df (show ¬ ((m % (n + 1):Nat):Int) < 0 by omega)]
  rfl
 | negSucc m=>
  have hlt:=Nat.mod_lt (m + 1) hc
  have:V9 (Int.negSucc m) ((n + 1:Nat):Int)=some (-(((m + 1) % (n + 1):Nat):Int)):=rfl
  rw [this]
  generalize (m + 1) % (n + 1)=q at hlt
  simp only [Oz]
  by_cases h0:q=0
  ·subst h0
   exact ⟨0,rfl,hc⟩
  ·rw [Dt (show -(q:Int) < 0 by omega)]
   refine ⟨n + 1 - q,?_,by omega⟩
   simp only [Cy]
   rw [A2p (by omega) (by omega)]
   simp only [Oz]
   congr 1
   omega
end Go.Pl
namespace Go.Pl
open Go Go.Sl
theorem A1A {α:Type} {xs:List α} {s:Int} (d:α) (h0:0≤s) (h1:s < xs.length):H5 xs s=some (xs.getD s.toNat d):=by
 obtain ⟨n,rfl⟩:=Zn h0
 have hn:n < xs.length:=by omega
 rw [X8 hn]
 simp [List.getD,Lg hn]
theorem A4T {α:Type} {xs:List α} {s:Int} (d:α) (h0:0≤s) (h1:s < xs.length):xs.getD s.toNat d ∈ xs:=by
 have hn:s.toNat < xs.length:=by omega
 simp [List.getD,Lg hn]
theorem fuel' {n:Nat} (h:n≤1000000):n < FUEL:=fuel (by omega)
def A0e {σ τ:Type} (F:σ→τ→Option σ):σ→List τ→Option σ
 | s,[]=>some s
 | s,x::xs=>Option.bind (F s x) fun s'=>A0e F s' xs
section
variable {σ τ τ' ρ S:Type}
theorem C2e (F:σ→τ→Option σ) (b:List τ):∀ (a:List τ) (s:σ),A0e F s (a ++ b)=Option.bind (A0e F s a) fun s'=>A0e F s' b
 | [],s=>rfl
 | x::a,s=>by
  simp only [List.cons_append,A0e]
  cases F s x with
  | none=>rfl
  | some s'=>exact C2e F b a s'
theorem B5Q (g:τ→List τ') (F:σ→τ'→Option σ):∀ (l:List τ) (s:σ),A0e F s (l.flatMap g)=A0e (fun s x=>A0e F s (g x)) s l
 | [],s=>rfl
 | x::l,s=>by
  simp only [List.flatMap_cons,C2e,A0e]
  cases A0e F s (g x) with
  | none=>rfl
  | some s'=>exact B5Q g F l s'
theorem B8h (g:τ→τ') (F:σ→τ'→Option σ):∀ (l:List τ) (s:σ),A0e F s (l.map g)=A0e (fun s x=>F s (g x)) s l
 | [],s=>rfl
 | x::l,s=>by
  simp only [List.map_cons,A0e]
  cases F s (g x) with
  | none=>rfl
  | some s'=>exact B8h g F l s'
theorem A6o (p:τ→Bool) (F:σ→τ→Option σ):∀ (l:List τ) (s:σ),A0e F s (l.filter p)=A0e (fun s x=>if p x then F s x else some s) s l
 | [],s=>rfl
 | x::l,s=>by
  by_cases h:p x=true
  ·simp only [List.filter_cons,h,if_true,A0e]
   cases F s x with
   | none=>rfl
   | some s'=>exact A6o p F l s'
  ·simp only [List.filter_cons,h,A0e]
   exact A6o p F l s
theorem C7u {f:S→Option (S⊕ρ)} (st:σ→Nat→S) (fin:σ→ρ) (N:Nat) (F:σ→Nat→Option σ)
  (h1:∀ s i,i < N→f (st s i)=Option.bind (F s i) fun s'=>some (.inl (st s' (i + 1))))
  (h2:∀ s,f (st s N)=some (.inr (fin s))):∀ (n k:Nat) (s:σ),k≤N→N - k < n→iter f n (st s k)=(A0e F s (List.range' k (N - k))).map fin:=by
 intro n
 induction n with
 | zero=>intro k s _ h; omega
 | succ n ih=>
  intro k s hk hn
  by_cases hl:k=N
  ·subst hl
   simp [iter,h2,A0e]
  ·have hlt:k < N:=by omega
   have e:List.range' k (N - k)=k::List.range' (k + 1) (N - (k + 1)):=by
    obtain ⟨d,hd⟩:∃ d,N - k=d + 1:=⟨N - k - 1,by omega⟩
    rw [hd,List.range'_succ,show N - (k + 1)=d by omega]
   rw [e]
   simp only [iter,h1 s k hlt,A0e]
   cases F s k with
   | none=>rfl
   | some s'=>
    simp only [Oz]
    exact ih (k + 1) s' (by omega) (by omega)
theorem B6g {f:S→Option (S⊕ρ)} (st:σ→Nat→S) (fin:σ→ρ) {N:Nat} (F:σ→Nat→Option σ)
  (h1:∀ s i,i < N→f (st s i)=Option.bind (F s i) fun s'=>some (.inl (st s' (i + 1))))
  (h2:∀ s,f (st s N)=some (.inr (fin s))) {n:Nat} (s:σ) (hn:N < n):iter f n (st s 0)=(A0e F s (List.range N)).map fin:=by
 rw [List.range_eq_range']
 exact C7u st fin N F h1 h2 n 0 s (Nat.zero_le _) (by omega)
theorem C0w {α:Type} {f:S→Option (S⊕ρ)} (st:α→Nat→S) (fin:α→ρ) {N:Nat} (u:α→Nat→α) (I:α→Nat→Prop) {a:α} (h0:I a 0)
  (h1:∀ a i,i < N→I a i→f (st a i)=some (.inl (st (u a i) (i + 1)))∧I (u a i) (i + 1)) (h2:∀ a,I a N→f (st a N)=some (.inr (fin a))) {n:Nat} (hn:N < n) :
  iter f n (st a 0)=some (fin ((List.range N).foldl u a)):=by
 have key:∀ (n k:Nat) (a:α),I a k→k≤N→N - k < n→iter f n (st a k)=some (fin ((List.range' k (N - k)).foldl u a)):=by
  intro n
  induction n with
  | zero=>intro k a _ _ h; omega
  | succ n ih=>
   intro k a hI hk hn
   by_cases hl:k=N
   ·subst hl
    simp [iter,h2 a hI]
   ·have hlt:k < N:=by omega
    have e:List.range' k (N - k)=k::List.range' (k + 1) (N - (k + 1)):=by
     obtain ⟨d,hd⟩:∃ d,N - k=d + 1:=⟨N - k - 1,by omega⟩
     rw [hd,List.range'_succ,show N - (k + 1)=d by omega]
    obtain ⟨e1,e2⟩:=h1 a k hlt hI
    rw [e]
    simp only [iter,e1,Oz,List.foldl_cons]
    exact ih (k + 1) (u a k) e2 (by omega) (by omega)
 have:=key n 0 a h0 (Nat.zero_le _) (by omega)
 rw [List.range_eq_range']
 simpa using this
theorem C6a {f:S→Option (S⊕ρ)} (st:σ→Nat→S) (fin:σ→ρ) (xs:List τ) (F:σ→τ→Option σ)
  (h1:∀ s i x,xs[i]?=some x→f (st s i)=Option.bind (F s x) fun s'=>some (.inl (st s' (i + 1))))
  (h2:∀ s,f (st s xs.length)=some (.inr (fin s))) {n:Nat} (s:σ) (hn:xs.length < n):iter f n (st s 0)=(A0e F s xs).map fin:=by
 have key:∀ (n k:Nat) (s:σ),k≤xs.length→xs.length - k < n→iter f n (st s k)=(A0e F s (xs.drop k)).map fin:=by
  intro n
  induction n with
  | zero=>intro k s _ h; omega
  | succ n ih=>
   intro k s hk hn
   by_cases hl:k=xs.length
   ·subst hl
    simp [iter,h2,A0e]
   ·have hlt:k < xs.length:=by omega
    rw [List.drop_eq_getElem_cons hlt]
    simp only [iter,h1 s k _ (Lg hlt),A0e]
    cases F s xs[k] with
    | none=>rfl
    | some s'=>exact ih (k + 1) s' (by omega) (by omega)
 have:=key n 0 s (Nat.zero_le _) (by omega)
 simpa using this
end
end Go.Pl
