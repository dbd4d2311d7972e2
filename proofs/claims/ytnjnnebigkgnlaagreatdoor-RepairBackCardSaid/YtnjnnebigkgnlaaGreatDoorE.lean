import Derived.Test.YtnjnnebigkgnlaaGreatDoorL8
import Derived.Test.YtnjnnebigkgnlaaGreatDoorDa
import Derived.KernelRfl
/- The closed function, evaluated by the kernel. -/
set_option maxRecDepth 1000000
set_option maxHeartbeats 40000000
set_option linter.unusedVariables false
set_option linter.unusedSimpArgs false
set_option linter.unnecessarySimpa false
namespace Go.Pl
open Go Go.Sl
theorem A2j {x : Int} (h : -9223372036854775808≤x) (h' : x≤9223372036854775807) : N7 x = some x:=by
 unfold N7
 cases x with
 | ofNat n=>
  have : Nat.ble n 9223372036854775807 = true:=Nat.ble_eq_true_of_le (by simp at h'; omega)
  simp [this]
 | negSucc n=>
  have : Nat.ble n 9223372036854775807 = true:=Nat.ble_eq_true_of_le (by omega)
  simp [this]
theorem M4 {n : Nat} (h : n < 9223372036854775807) : N7 ((n : Int) + 1) = some ((n + 1 : Nat) : Int):=by
 rw [A2j (by omega) (by omega)]; rfl
theorem K9 {α : Type} {xs : List α} {n : Nat} {x : α} (h : xs[n]? = some x) : J6 xs (n : Int) = some x:=h
theorem P8 {α : Type} {xs : List α} {n : Nat} {x : α} (h : xs[n]? = some x) : n < xs.length:=by
 obtain ⟨h,_⟩:=List.getElem?_eq_some_iff.1 h; exact h
theorem D1X {α : Type} {b : Bool} {x y : α} (h : b = true) : (bif b then x else y) = x:=by subst h; rfl
def A6i {α τ ρ : Type} (body : α→Nat→τ→α⊕ρ) (fin : α→ρ) : α→Nat→List τ→ρ
 | a,_,[]=>fin a
 | a,i,x::xs=>match body a i x with
  | .inl a'=>A6i body fin a' (i + 1) xs
  | .inr r=>r
theorem C7y {σ ρ α τ : Type} {f : σ→Option (σ⊕ρ)} (st : α→Nat→σ) (xs : List τ) (body : α→Nat→τ→α⊕ρ) (fin : α→ρ) (I : α→Nat→Prop)
  (h1 : ∀ a i x,xs[i]? = some x→I a i→match body a i x with
   | .inl a'=>f (st a i) = some (.inl (st a' (i + 1)))∧I a' (i + 1)
   | .inr r=>f (st a i) = some (.inr r))
  (h2 : ∀ a,I a xs.length→f (st a xs.length) = some (.inr (fin a))) :
  ∀ (n k : Nat) (a : α),I a k→k≤xs.length→xs.length - k < n→iter f n (st a k) = some (A6i body fin a k (xs.drop k)):=by
 intro n
 induction n with
 | zero=>intro k a _ _ h; omega
 | succ n ih=>
  intro k a hI hk hn
  by_cases hl : k = xs.length
  ·subst hl
   simp only [iter,h2 a hI,Option.bind_some,List.drop_length,A6i]
  ·have hlt : k < xs.length:=by omega
   have hx:=List.getElem?_eq_getElem hlt
   have:=h1 a k _ hx hI
   rw [List.drop_eq_getElem_cons hlt]
   cases hb : body a k xs[k] with
   | inl a'=>
    rw [hb] at this
    simp only [iter,this.1,Option.bind_some,A6i,hb]
    exact ih (k + 1) a' this.2 (by omega) (by omega)
   | inr r=>
    rw [hb] at this
    simp only [iter,this,Option.bind_some,A6i,hb]
theorem A8m {σ ρ α τ : Type} {f : σ→Option (σ⊕ρ)} (st : α→Nat→σ) (xs : List τ) (body : α→Nat→τ→α⊕ρ) (fin : α→ρ) (I : α→Nat→Prop) {a : α} (h0 : I a 0) {n : Nat} (hn : xs.length < n)
  (h1 : ∀ a i x,xs[i]? = some x→I a i→match body a i x with
   | .inl a'=>f (st a i) = some (.inl (st a' (i + 1)))∧I a' (i + 1)
   | .inr r=>f (st a i) = some (.inr r))
  (h2 : ∀ a,I a xs.length→f (st a xs.length) = some (.inr (fin a))) : iter f n (st a 0) = some (A6i body fin a 0 xs):=by
 have:=C7y st xs body fin I h1 h2 n 0 a h0 (Nat.zero_le _) (by omega)
 simpa using this
def A1H {τ ρ : Type} (bad : Nat→τ→Option ρ) (fin : ρ) : Nat→List τ→ρ
 | _,[]=>fin
 | i,x::xs=>match bad i x with
  | some r=>r
  | none=>A1H bad fin (i + 1) xs
theorem A0P {ρ τ : Type} {f : Int→Option (Int⊕ρ)} (xs : List τ) (bad : Nat→τ→Option ρ) (fin : ρ) {n : Nat} (hn : xs.length < n)
  (h1 : ∀ (i : Nat) x,xs[i]? = some x→f i = some (match bad i x with | some r=>.inr r | none=>.inl ((i + 1 : Nat) : Int)))
  (h2 : f xs.length = some (.inr fin)) : iter f n (0 : Int) = some (A1H bad fin 0 xs):=by
 have key : ∀ (n k : Nat),k≤xs.length→xs.length - k < n→iter f n (k : Int) = some (A1H bad fin k (xs.drop k)):=by
  intro n
  induction n with
  | zero=>intro k _ h; omega
  | succ n ih=>
   intro k hk hn
   by_cases hl : k = xs.length
   ·subst hl
    simp only [iter,h2,Option.bind_some,List.drop_length,A1H]
   ·have hlt : k < xs.length:=by omega
    have:=h1 k _ (List.getElem?_eq_getElem hlt)
    rw [List.drop_eq_getElem_cons hlt]
    cases hb : bad k xs[k] with
    | none=>
     rw [hb] at this
     simp only [iter,this,Option.bind_some,A1H,hb]
     exact ih (k + 1) (by omega) (by omega)
    | some r=>
     rw [hb] at this
     simp only [iter,this,Option.bind_some,A1H,hb]
 have:=key n 0 (Nat.zero_le _) (by omega)
 simpa using this
theorem C0t {τ ρ : Type} (bad : Nat→τ→Option ρ) (ok : τ→Bool) (r fin : ρ) (hb : ∀ i x,bad i x = if ok x then none else some r) :
  ∀ (xs : List τ) (i : Nat),A1H bad fin i xs = if xs.all ok then fin else r:=by
 intro xs
 induction xs with
 | nil=>intro i; rfl
 | cons x xs ih=>
  intro i
  simp only [A1H,List.all_cons]
  rw [hb]
  by_cases hx : ok x = true
  ·simp [hx,ih]
  ·simp [hx]
theorem fuel {n : Nat} (h : n≤9223372036854775807) : n < FUEL:=Nat.lt_of_le_of_lt h (by decide)
theorem C4x : ∀ (x y : List UInt8),Op.bytesLess x y = decide (x < y)
 | [],[]=>by simp [Op.bytesLess]
 | _::_,[]=>by simp [Op.bytesLess]
 | [],_::_=>by simp [Op.bytesLess]
 | a::x,b::y=>by
  rw [Op.bytesLess,C4x x y]
  simp only [List.cons_lt_cons_iff]
  by_cases h1 : a < b <;> by_cases h2 : a = b <;> by_cases h3 : x < y <;> simp [h1,h2,h3]
theorem C9f : ∀ (x y : List UInt8),Lib.compareBytes x y < 0↔x < y
 | [],[]=>by simp [Lib.compareBytes]
 | _::_,[]=>by simp [Lib.compareBytes]
 | [],_::_=>by simp [Lib.compareBytes]
 | a::x,b::y=>by
  have ih:=C9f x y
  simp only [Lib.compareBytes,List.cons_lt_cons_iff]
  by_cases h1 : a < b
  ·simp [h1]
  ·by_cases h2 : b < a
   ·have : a ≠ b:=fun e=>by subst e; exact h1 h2
    simp [h1,h2,this]
   ·have : a = b:=UInt8.le_antisymm (UInt8.not_lt.1 h2) (UInt8.not_lt.1 h1)
    subst this
    simp [ih]
theorem C6u : ∀ (x y : List UInt8),Lib.compareBytes x y = 0↔x = y
 | [],[]=>by simp [Lib.compareBytes]
 | _::_,[]=>by simp [Lib.compareBytes]
 | [],_::_=>by simp [Lib.compareBytes]
 | a::x,b::y=>by
  have ih:=C6u x y
  simp only [Lib.compareBytes,List.cons.injEq]
  by_cases h1 : a < b
  ·have : a ≠ b:=fun e=>by subst e; exact UInt8.lt_irrefl _ h1
   simp [h1,this]
  ·by_cases h2 : b < a
   ·have : a ≠ b:=fun e=>by subst e; exact h1 h2
    simp [h1,h2,this]
   ·have : a = b:=UInt8.le_antisymm (UInt8.not_lt.1 h2) (UInt8.not_lt.1 h1)
    subst this
    simp [ih]
theorem B3n (a b : ByteArray) : B9c a b = 0↔a = b:=by
 unfold B9c
 rw [C6u]
 constructor
 ·intro h; cases a; cases b; simp only [ByteArray.mk.injEq]; exact Array.toList_inj.1 h
 ·rintro rfl; rfl
end Go.Pl
namespace Go.Pl
open Go Go.Sl Go.Dm
theorem mx : maxLen = 9223372036854775807:=by decide
def B7C (c : UInt8) : Bool:=decide (97≤c.toNat) && decide (c.toNat≤122)
def A3o (s : ByteArray) : Bool:=decide (1≤s.size) && decide (s.size≤12) && s.data.toList.all B7C
theorem C0B (s : ByteArray) : s.data.toList.length = s.size:=by rw [Array.length_toList]; rfl
theorem D0g {s : ByteArray} {n : Nat} {c : UInt8} (h : s.data.toList[n]? = some c) : B7K s (n : Int) = some (c.toNat : Int):=by
 show (s.data.toList[n]?).map _ = _
 rw [h]
 rfl
theorem C2Y {s : ByteArray} (hs : s.size≤maxLen) : iter (A4l s) FUEL (0 : Int) = some (if s.data.toList.all B7C then .inl () else .inr false):=by
 rw [mx] at hs
 rw [A0P s.data.toList (fun i c=>if B7C c then none else some (.inr false)) (.inl ()) (by rw [C0B]; exact fuel hs),C0t (ρ:=Unit⊕Bool) (fun i c=>if B7C c then none else some (.inr false)) B7C (.inr false) (.inl ()) (fun i x=>rfl)]
 ·intro i c h
  have hi:=P8 h
  rw [C0B] at hi
  simp only [A4l,D0g h,Option.bind_some,Bool.cond_decide]
  rw [if_pos (by omega),M4 (by omega)]
  by_cases h1 : (c.toNat : Int) < 97
  ·have : B7C c = false:=by simp [B7C]; omega
   simp [h1,this]
  ·by_cases h2 : (122 : Int) < c.toNat
   ·have : B7C c = false:=by simp [B7C]; omega
    simp [h1,h2,this]
   ·have : B7C c = true:=by simp [B7C]; omega
    simp [h1,h2,this]
 ·simp [A4l,C0B]
theorem C3f {s : ByteArray} (hs : s.size≤maxLen) : B4k s = some (A3o s):=by
 have e1 : decide ((1 : Int)≤(s.size : Int)) = decide (1≤s.size):=decide_eq_decide.2 (by omega)
 have e2 : decide ((s.size : Int)≤(12 : Int)) = decide (s.size≤12):=decide_eq_decide.2 (by omega)
 simp only [B4k,C2Y hs,Option.bind_some,A3o,e1,e2]
 cases s.data.toList.all B7C <;> cases decide (1≤s.size) <;> cases decide (s.size≤12) <;> rfl
theorem A4B {s : ByteArray} (hs : s.size≤maxLen) : A3P s = some (A3o s):=by
 have e : A6F s = A4l s:=rfl
 have e1 : decide ((s.size : Int) = (0 : Int)) = !decide (1≤s.size):=by rw [←decide_not]; exact decide_eq_decide.2 (by omega)
 have e2 : decide ((12 : Int) < (s.size : Int)) = !decide (s.size≤12):=by rw [←decide_not]; exact decide_eq_decide.2 (by omega)
 simp only [A3P,e,C2Y hs,Option.bind_some,A3o,e1,e2]
 cases s.data.toList.all B7C <;> cases decide (1≤s.size) <;> cases decide (s.size≤12) <;> rfl
theorem C3m {s : ByteArray} (hs : s.size≤maxLen) : B7Y s = some (A3o s):=A4B hs
theorem B8p {s : ByteArray} (hs : s.size≤maxLen) : B6j s = some (A3o s):=by
 have e : B6j s = A3P s:=by
  have e2 : B8t s = A6F s:=rfl
  have e3 : decide ((s.size : Int) < (1 : Int)) = decide ((s.size : Int) = (0 : Int)):=by
   rw [decide_eq_decide]; omega
  simp only [B6j,A3P,e2,e3] <;> rfl
 rw [e,A4B hs]
def A0Z {α : Type} (p : α→Bool) : Nat→List α→Int
 | _,[]=>-1
 | i,x::l=>if p x then (i : Int) else A0Z p (i + 1) l
theorem C7C {α : Type} (p : α→Bool) (l : List α) : ∀ i,(A0Z p i l < 0) = (l.any p = false):=by
 induction l with
 | nil=>intro i; simp [A0Z]
 | cons x l ih=>
  intro i
  simp only [A0Z,List.any_cons]
  cases h : p x
  ·simp [ih]
  ·simp
theorem B0P {α : Type} (p : α→Bool) (l : List α) (i : Nat) : (0≤A0Z p i l) = (l.any p = true):=by
 have:=C7C p l i
 cases h : l.any p
 ·rw [h] at this; simp at this ⊢; omega
 ·rw [h] at this; simp at this ⊢; omega
theorem C8P {α : Type} (p : α→Bool) (l : List α) : ∀ i,0≤A0Z p i l→∃ k : Nat,A0Z p i l = ((i + k : Nat) : Int)∧k < l.length:=by
 induction l with
 | nil=>intro i h; simp [A0Z] at h
 | cons x l ih=>
  intro i h
  simp only [A0Z] at h ⊢
  cases hp : p x
  ·simp only [hp] at h
   obtain ⟨k,e,hk⟩:=ih (i + 1) (by simpa using h)
   exact ⟨k + 1,by simp only [Bool.false_eq_true,if_false]; rw [e]; congr 1; omega,by simpa using hk⟩
  ·exact ⟨0,by simp,by simp⟩
theorem B9H {α : Type} (p : α→Bool) (l : List α) : ∀ i,l.any p = false→A0Z p i l = -1:=by
 induction l with
 | nil=>intro i _; rfl
 | cons x l ih=>
  intro i hq
  simp only [List.any_cons,Bool.or_eq_false_iff] at hq
  simp only [A0Z,hq.1,Bool.false_eq_true,if_false]
  exact ih (i + 1) hq.2
theorem C5B {α : Type} (p : α→Bool) (l : List α) : ∀ i,A1H (fun (i : Nat) x=>if p x then some (.inr (i : Int)) else none) (.inl () : Unit⊕Int) i l = if l.any p then .inr (A0Z p i l) else .inl ():=by
 induction l with
 | nil=>intro i; rfl
 | cons x l ih=>
  intro i
  simp only [A1H,A0Z,List.any_cons]
  by_cases h : p x = true <;> simp [h,ih]
theorem A8n {α : Type} {f : Int→Option (Int⊕(Unit⊕Int))} (l : List α) (p : α→Bool) (hl : l.length≤maxLen)
  (h1 : ∀ (i : Nat) x,l[i]? = some x→f i = some (if p x then .inr (.inr (i : Int)) else .inl ((i + 1 : Nat) : Int))) (h2 : f l.length = some (.inr (.inl ()))) :
  (iter f FUEL (0 : Int)).bind (fun o=>match o with | .inl _=>some (-1 : Int) | .inr p=>some p) = some (A0Z p 0 l):=by
 rw [mx] at hl
 rw [A0P l (fun i x=>if p x then some (.inr (i : Int)) else none) (.inl ()) (fuel hl) (fun i x h=>by rw [h1 i x h]; cases p x <;> rfl) h2,C5B]
 cases hq : l.any p
 ·simp [B9H p l 0 hq]
 ·simp
theorem D1M {l : List C8} (hl : l.length≤maxLen) {f : C8→Option Bool} {p : C8→Bool} (hf : ∀ x,f x = some (p x)) : A2A l f = some (A0Z p 0 l):=by
 unfold A2A
 refine A8n l p hl (fun i x h=>?_) (by simp [A2y])
 have hi:=P8 h
 rw [mx] at hl
 simp only [A2y,K9 h,hf,Option.bind_some,Bool.cond_decide]
 rw [if_pos (by omega),M4 (by omega)]
 cases p x <;> simp
theorem D2f {l : List D6} (hl : l.length≤maxLen) {f : D6→Option Bool} {p : D6→Bool} (hf : ∀ x,f x = some (p x)) : A2u l f = some (A0Z p 0 l):=by
 unfold A2u
 refine A8n l p hl (fun i x h=>?_) (by simp [A2t])
 have hi:=P8 h
 rw [mx] at hl
 simp only [A2t,K9 h,hf,Option.bind_some,Bool.cond_decide]
 rw [if_pos (by omega),M4 (by omega)]
 cases p x <;> simp
theorem A5r {l : List D6} (hl : l.length≤maxLen) (n : ByteArray) : A3w l n = some (A0Z (fun x=>decide (x.F8 = n)) 0 l):=by
 unfold A3w
 refine A8n l _ hl (fun i x h=>?_) (by simp [B3T])
 have hi:=P8 h
 rw [mx] at hl
 simp only [B3T,K9 h,Option.bind_some,Bool.cond_decide]
 rw [if_pos (by omega),M4 (by omega)]
 by_cases hx : x.F8 = n <;> simp [hx]
theorem B0x {l : List C8} (hl : l.length≤maxLen) (n : ByteArray) : A4X l n = some (A0Z (fun x=>decide (x.F8 = n)) 0 l):=by
 unfold A4X
 refine A8n l _ hl (fun i x h=>?_) (by simp [A6z])
 have hi:=P8 h
 rw [mx] at hl
 simp only [A6z,K9 h,Option.bind_some,Bool.cond_decide]
 rw [if_pos (by omega),M4 (by omega)]
 by_cases hx : x.F8 = n <;> simp [hx]
theorem C4Y {p : A9} (hl : p.A8.length≤maxLen) (n : ByteArray) : A3B p n = some (A0Z (fun x=>decide (x.F8 = n)) 0 p.A8):=by
 simp only [A3B,D2f hl (f:=fun y0=>B1B y0 n) (fun x=>rfl),Option.bind_some]
end Go.Pl
namespace Go.Pl
open Go Go.Sl Go.Dm
def V7 (t : C8) : Int:=
 if t.O6 = 1 then (if t.fA < 1∨24 < t.fA∨t.fB ≠ 0 then 0 else t.fA)
 else if t.O6 = 2 then (if t.fA < 1∨11 < t.fA∨t.fB < 0∨2 < t.fB then 0 else 2 * t.fA + t.fB)
 else if t.O6 = 3 then (if t.fA < 1∨8 < t.fA∨t.fB < 1∨8 < t.fB then 0 else t.fA + 2 * t.fB)
 else if t.O6 = 4 then (if t.fA < 1∨24 < t.fA∨t.fB < 0∨t.fA < t.fB then 0 else t.fA)
 else 0
theorem A1L (t : C8) : 0≤V7 t∧V7 t≤24:=by
 unfold V7
 repeat' split
 all_goals omega
theorem C1L (a b : Int) : A3r a b = some (if a < 1∨24 < a∨b ≠ 0 then 0 else a):=by
 simp only [A3r,Bool.cond_decide]
 by_cases h1 : a < 1 <;> by_cases h2 : 24 < a <;> by_cases h3 : b = 0 <;> simp [h1,h2,h3]
theorem C3C (a b : Int) : A3Y a b = some (if a < 1∨11 < a∨b < 0∨2 < b then 0 else 2 * a + b):=by
 simp only [A3Y,Bool.cond_decide]
 by_cases h1 : a < 1
 ·simp [h1]
 by_cases h2 : 11 < a
 ·simp [h1,h2]
 by_cases h3 : b < 0
 ·simp [h1,h2,h3]
 by_cases h4 : 2 < b
 ·simp [h1,h2,h3,h4]
 simp only [h1,h2,h3,h4,if_false,or_self]
 rw [A2j (by omega) (by omega)]
 simp only [Option.bind_some]
 rw [A2j (by omega) (by omega)]
 rfl
theorem C3X (a b : Int) : A4b a b = some (if a < 1∨8 < a∨b < 1∨8 < b then 0 else a + 2 * b):=by
 simp only [A4b,Bool.cond_decide]
 by_cases h1 : a < 1
 ·simp [h1]
 by_cases h2 : 8 < a
 ·simp [h1,h2]
 by_cases h3 : b < 1
 ·simp [h1,h2,h3]
 by_cases h4 : 8 < b
 ·simp [h1,h2,h3,h4]
 simp only [h1,h2,h3,h4,if_false,or_self]
 rw [A2j (by omega) (by omega)]
 simp only [Option.bind_some]
 rw [A2j (by omega) (by omega)]
 rfl
theorem C5a (a b : Int) : A4S a b = some (if a < 1∨24 < a∨b < 0∨a < b then 0 else a):=by
 simp only [A4S,Bool.cond_decide]
 by_cases h1 : a < 1 <;> by_cases h2 : 24 < a <;> by_cases h3 : b < 0 <;> by_cases h4 : a < b <;> simp [h1,h2,h3,h4]
theorem A5Q (t : C8) : A3a t = some (V7 t):=by
 simp only [A3a,A0n,B0z,Bool.cond_decide,V7]
 by_cases h1 : t.O6 = 1
 ·simp [h1,C1L]
 by_cases h2 : t.O6 = 2
 ·simp [h2,C3C]
 by_cases h3 : t.O6 = 3
 ·simp [h3,C3X]
 by_cases h4 : t.O6 = 4
 ·simp [h4,C5a]
 simp [h1,h2,h3,h4]
theorem C7a (n a b : Int) : A1O n a b = some (decide (a≤n) && decide (n≤b)):=by
 simp only [A1O,Bool.cond_decide]
 by_cases h : a≤n <;> simp [h]
theorem B5g (t : C8) : B1E t = some (V7 t):=by
 have e : ∀ (a b : Int) (x y : Option Int),(bif decide (a≤b) && decide (b≤24) then x else y) = x→True:=fun _ _ _ _ _=>trivial
 simp only [B1E,B5q,C7a,Option.bind_some,Bool.cond_decide,V7]
 by_cases h1 : t.O6 = 1
 ·simp only [h1,if_true]
  by_cases a1 : t.fA < 1
  ·have : ¬ 1≤t.fA:=by omega
   simp [a1,this]
  by_cases a2 : 24 < t.fA
  ·have : ¬ t.fA≤24:=by omega
   simp [a2,this]
  have b1 : 1≤t.fA:=by omega
  have b2 : t.fA≤24:=by omega
  by_cases a3 : t.fB = 0 <;> simp [a1,a2,a3,b1,b2]
 by_cases h2 : t.O6 = 2
 ·simp only [h1,h2,if_true,if_false]
  by_cases a1 : t.fA < 1
  ·have : ¬ 1≤t.fA:=by omega
   simp [a1,this]
  by_cases a2 : 11 < t.fA
  ·have : ¬ t.fA≤11:=by omega
   simp [a2,this]
  by_cases a3 : t.fB < 0
  ·have : ¬ 0≤t.fB:=by omega
   simp [a3,this]
  by_cases a4 : 2 < t.fB
  ·have : ¬ t.fB≤2:=by omega
   simp [a4,this]
  have b1 : 1≤t.fA:=by omega
  have b2 : t.fA≤11:=by omega
  have b3 : 0≤t.fB:=by omega
  have b4 : t.fB≤2:=by omega
  simp [a1,a2,a3,a4,b1,b2,b3,b4,A2j (show -9223372036854775808≤2 * t.fA by omega) (by omega),A2j (show -9223372036854775808≤2 * t.fA + t.fB by omega) (by omega)]
 by_cases h3 : t.O6 = 3
 ·simp only [h1,h2,h3,if_true,if_false]
  by_cases a1 : t.fA < 1
  ·have : ¬ 1≤t.fA:=by omega
   simp [a1,this]
  by_cases a2 : 8 < t.fA
  ·have : ¬ t.fA≤8:=by omega
   simp [a2,this]
  by_cases a3 : t.fB < 1
  ·have : ¬ 1≤t.fB:=by omega
   simp [a3,this]
  by_cases a4 : 8 < t.fB
  ·have : ¬ t.fB≤8:=by omega
   simp [a4,this]
  have b1 : 1≤t.fA:=by omega
  have b2 : t.fA≤8:=by omega
  have b3 : 1≤t.fB:=by omega
  have b4 : t.fB≤8:=by omega
  simp [a1,a2,a3,a4,b1,b2,b3,b4,A2j (show -9223372036854775808≤2 * t.fB by omega) (by omega),A2j (show -9223372036854775808≤t.fA + 2 * t.fB by omega) (by omega)]
 by_cases h4 : t.O6 = 4
 ·simp only [h1,h2,h3,h4,if_true,if_false]
  by_cases a1 : t.fA < 1
  ·have : ¬ 1≤t.fA:=by omega
   simp [a1,this]
  by_cases a2 : 24 < t.fA
  ·have : ¬ t.fA≤24:=by omega
   simp [a2,this]
  by_cases a3 : t.fB < 0
  ·have : ¬ 0≤t.fB:=by omega
   simp [a3,this]
  by_cases a4 : t.fA < t.fB
  ·have : ¬ t.fB≤t.fA:=by omega
   simp [a4,this]
  have b1 : 1≤t.fA:=by omega
  have b2 : t.fA≤24:=by omega
  have b3 : 0≤t.fB:=by omega
  have b4 : t.fB≤t.fA:=by omega
  simp [a1,a2,a3,a4,b1,b2,b3,b4]
 simp [h1,h2,h3,h4]
def A8z (n : Int) : Int→List Int→Bool
 | _,[]=>true
 | last,k::l=>decide (last < k) && decide (k < n) && A8z n k l
def A5l (t : C8) : Int:=
 if A3o t.F8 = false then 4 else if V7 t = 0 then 10 else if A8z (V7 t) (-1) t.A2H = false then 11
 else if t.fX < 0∨1000 < t.fX∨t.fY < 0∨1000 < t.fY then 2 else 0
theorem C7h {t : C8} (n : Int) (hl : t.A2H.length≤maxLen) : iter (A1S t n) FUEL ((0 : Int),(-1 : Int)) = some (if A8z n (-1) t.A2H then .inl () else .inr 11):=by
 rw [mx] at hl
 have:=A8m (f:=A1S t n) (fun (a : Int) (i : Nat)=>((i : Int),a)) t.A2H (fun a i x=>if a < x∧x < n then .inl x else .inr (.inr 11)) (fun _=>.inl ()) (fun _ _=>True) (a:=-1) trivial (n:=FUEL) (fuel (by omega))
  (fun a i x h _=>by
   have hi:=P8 h
   have hr:=M4 (n:=i) (by omega)
   have hlt : (i : Int) < (t.A2H.length : Int):=by omega
   by_cases hc : a < x∧x < n
   ·have h1 : ¬ x≤a:=by omega
    have h2 : ¬ n≤x:=by omega
    simp only [if_pos hc]
    exact ⟨by simp only [A1S,K9 h,hr,Option.bind_some,Bool.cond_decide,if_pos hlt,if_neg h1,if_neg h2],trivial⟩
   ·simp only [if_neg hc]
    by_cases h1 : x≤a
    ·simp only [A1S,K9 h,hr,Option.bind_some,Bool.cond_decide,if_pos hlt,if_pos h1]
    ·have h2 : n≤x:=by omega
     simp only [A1S,K9 h,hr,Option.bind_some,Bool.cond_decide,if_pos hlt,if_neg h1,if_pos h2])
  (fun a _=>by simp [A1S])
 rw [show ((0 : Int),(-1 : Int)) = (fun (a : Int) (i : Nat)=>((i : Int),a)) (-1) 0 from rfl,this]
 have key : ∀ (l : List Int) (a : Int) (i : Nat),A6i (fun (a : Int) (i : Nat) (x : Int)=>if a < x∧x < n then Sum.inl x else Sum.inr (Sum.inr 11)) (fun _=>Sum.inl ()) a i l = (if A8z n a l then .inl () else .inr 11 : Unit⊕Int):=by
  intro l
  induction l with
  | nil=>intro a i; rfl
  | cons x l ih=>
   intro a i
   by_cases hx : a < x∧x < n
   ·simp [A6i,A8z,hx,ih]
   ·by_cases h1 : a < x
    ·have : ¬ x < n:=fun q=>hx ⟨h1,q⟩
     simp [A6i,A8z,this]
    ·simp [A6i,A8z,h1]
 rw [key]
def OkT (t : C8) : Prop:=t.F8.size≤maxLen∧t.A2H.length≤maxLen
theorem C1r {t : C8} (h : OkT t) : A6t t = some (A5l t):=by
 simp only [A6t,B4I,A5Q,C3f h.1,C7h _ h.2,Option.bind_some,Bool.cond_decide,A5l]
 cases A3o t.F8
 ·simp
 by_cases h0 : V7 t = 0
 ·simp [h0]
 cases A8z (V7 t) (-1) t.A2H
 ·simp [h0]
 by_cases h1 : t.fX < 0 <;> by_cases h2 : 1000 < t.fX <;> by_cases h3 : t.fY < 0 <;> by_cases h4 : 1000 < t.fY <;> simp [h0,h1,h2,h3,h4]
end Go.Pl
namespace Go.Pl
open Go Go.Sl Go.Dm
theorem B2E {α : Type} {l : List α} {i : Nat} (h : i≤l.length) : sbL l 0 (i : Int) = some (l.take i):=by
 have : sbL l 0 (i : Int) = (bif Nat.ble 0 i && Nat.ble i l.length then some (Sl.sub l 0 i) else none):=rfl
 rw [this,show Nat.ble 0 i = true from Nat.ble_eq_true_of_le (Nat.zero_le _),Nat.ble_eq_true_of_le h]
 simp [Sl.sub]
theorem C7G {τ R : Type} (bad : Nat→τ→Option (Unit⊕R)) (hb : ∀ i x r,bad i x = some r→∃ q,r = .inr q) : ∀ (xs : List τ) (i : Nat),A1H bad (.inl ()) i xs = .inl ()→∀ k x,xs[k]? = some x→bad (i + k) x = none:=by
 intro xs
 induction xs with
 | nil=>intro i _ k x h; simp at h
 | cons y xs ih=>
  intro i h k x hk
  simp only [A1H] at h
  cases hy : bad i y with
  | some r=>
   rw [hy] at h
   obtain ⟨q,rfl⟩:=hb _ _ _ hy
   cases h
  | none=>
   rw [hy] at h
   cases k with
   | zero=>simp at hk; subst hk; exact hy
   | succ k=>
    have:=ih (i + 1) h k x (by simpa using hk)
    rwa [show i + (k + 1) = i + 1 + k by omega]
def B6g (l : List C8) (i : Nat) (x : C8) : Option (Unit⊕(Int×Int)):=
 if A5l x ≠ 0 then some (.inr ((i : Int),A5l x)) else if (l.take i).any (fun y=>decide (y.F8 = x.F8)) then some (.inr ((i : Int),5)) else none
def C7U : Unit⊕(Int×Int)→Int×Int
 | .inl _=>(0,0)
 | .inr p=>p
def A9W (l : List C8) : Int×Int:=if 16 < l.length then (0,7) else C7U (A1H (B6g l) (.inl ()) 0 l)
def C4a (l : List C8) : Prop:=l.length≤maxLen∧∀ t ∈ l,OkT t
theorem A2h {α : Type} {l : List α} {i : Nat} {x : α} (h : l[i]? = some x) : x ∈ l:=by
 obtain ⟨hi,rfl⟩:=List.getElem?_eq_some_iff.1 h
 exact List.getElem_mem hi
theorem B0M {l : List C8} (h : C4a l) : A4O l = some (A9W l):=by
 have hl:=h.1
 rw [mx] at hl
 simp only [A4O,A9W,Bool.cond_decide]
 by_cases h16 : 16 < l.length
 ·have : (16 : Int) < (l.length : Int):=by omega
  simp [h16,this]
 have n16 : ¬ (16 : Int) < (l.length : Int):=by omega
 rw [if_neg n16,if_neg h16,A0P l (B6g l) (.inl ()) (fuel (by omega)) (fun i x hx=>by
   have hi:=P8 hx
   simp only [A4r,K9 hx,C1r (h.2 x (A2h hx)),B2E (Nat.le_of_lt hi),Option.bind_some,Bool.cond_decide,A3W,
    D1M (l:=l.take i) (by rw [mx]; simp; omega) (f:=fun y0=>A5H y0 x) (p:=fun y=>decide (y.F8 = x.F8)) (fun y=>rfl),B0P]
   rw [if_pos (by omega),M4 (by omega)]
   unfold B6g
   by_cases h1 : A5l x = 0
   ·cases h2 : (l.take i).any (fun y=>decide (y.F8 = x.F8)) <;> simp [h1,h2]
   ·simp [h1]) (by simp [A4r])]
 cases A1H (B6g l) (.inl ()) 0 l <;> rfl
theorem D1a (l : List C8) : ∀ i x r,B6g l i x = some r→∃ q,r = .inr q:=by
 intro i x r h
 unfold B6g at h
 split at h
 ·cases h; exact ⟨_,rfl⟩
 ·split at h
  ·cases h; exact ⟨_,rfl⟩
  ·cases h
theorem C9R (l : List C8) : ∀ (xs : List C8) (i : Nat),(C7U (A1H (B6g l) (.inl ()) i xs)).2 = 0→A1H (B6g l) (.inl ()) i xs = .inl ():=by
 intro xs
 induction xs with
 | nil=>intro i _; rfl
 | cons x xs ih=>
  intro i h
  simp only [A1H] at h ⊢
  cases hb : B6g l i x with
  | none=>rw [hb] at h; exact ih (i + 1) h
  | some r=>
   rw [hb] at h
   exfalso
   unfold B6g at hb
   split at hb
   ·rename_i hc
    cases hb; exact hc h
   ·split at hb
    ·cases hb; simp [C7U] at h
    ·cases hb
theorem B9o {l : List C8} (h : (A9W l).2 = 0) : l.length≤16∧∀ t ∈ l,A5l t = 0:=by
 unfold A9W at h
 by_cases h16 : 16 < l.length
 ·simp [h16] at h
 rw [if_neg h16] at h
 refine ⟨by omega,fun t ht=>?_⟩
 obtain ⟨k,hk⟩:=List.getElem?_of_mem ht
 have:=C7G (B6g l) (D1a l) l 0 (C9R l l 0 h) k t hk
 unfold B6g at this
 by_cases h0 : A5l t = 0
 ·exact h0
 ·simp [h0] at this
theorem A7j {l : List C8} (h : C4a l) : A4g l = some (decide ((A9W l).2 = 0)):=by
 simp only [A4g,B0M h,Option.bind_some]
def A0N (l : List C8) : Int:=(l.map V7).sum
theorem A6M (l : List C8) : 0≤A0N l∧A0N l≤24 * l.length:=by
 induction l with
 | nil=>simp [A0N]
 | cons t l ih=>
  have:=A1L t
  simp only [A0N,List.map_cons,List.sum_cons,List.length_cons] at ih ⊢
  omega
theorem C4B (l : List C8) : ∀ (a : Int) (i : Nat),A6i (fun (a : Int) (i : Nat) (x : C8)=>(Sum.inl (a + V7 x) : Int⊕Int)) (fun a=>a) a i l = a + A0N l:=by
 induction l with
 | nil=>intro a i; simp [A6i,A0N]
 | cons x l ih=>
  intro a i
  simp only [A6i,ih,A0N,List.map_cons,List.sum_cons]
  omega
theorem B6W (l : List C8) (i : Nat) {x : C8} (h : l[i]? = some x) : A0N (l.take (i + 1)) = A0N (l.take i) + V7 x:=by
 obtain ⟨hi,rfl⟩:=List.getElem?_eq_some_iff.1 h
 rw [List.take_add_one,List.getElem?_eq_getElem hi]
 simp only [A0N,Option.toList,List.map_append,List.sum_append,List.map_cons,List.map_nil,List.sum_cons,List.sum_nil,Int.add_zero]
theorem C0x {l : List C8} (hl : l.length≤16) : iter (A3E l) FUEL ((0 : Int),(0 : Int)) = some (A0N l):=by
 have:=A8m (f:=A3E l) (fun (a : Int) (i : Nat)=>((i : Int),a)) l (fun a i x=>.inl (a + V7 x)) (fun a=>a) (fun a i=>a = A0N (l.take i)) (a:=0) (by simp [A0N]) (n:=FUEL) (fuel (by omega))
  (fun a i x h hI=>by
   have hi:=P8 h
   have b1:=A6M (l.take i)
   have b2:=A1L x
   simp only [List.length_take] at b1
   simp only [A3E,K9 h,A5Q,Option.bind_some,Bool.cond_decide]
   rw [if_pos (by omega),M4 (by omega),A2j (by omega) (by omega)]
   exact ⟨rfl,by rw [B6W l i h,hI]⟩)
  (fun a _=>by simp [A3E])
 rw [show ((0 : Int),(0 : Int)) = (fun (a : Int) (i : Nat)=>((i : Int),a)) 0 0 from rfl,this,C4B]
 simp
theorem A4T {l : List C8} (h : C4a l) (hc : (A9W l).2 = 0) : A2d l = some (A0N l):=by
 have hl:=(B9o hc).1
 simp only [A2d,A7j h,hc,Option.bind_some,decide_true,Bool.not_true,cond_false]
 rw [A2j (by omega) (by omega)]
 simp only [Option.bind_some]
 cases l with
 | nil=>simp [A3i,A6E,A0N]; rfl
 | cons t l=>
  generalize hL : t::l = L at *
  have hne : 0 < L.length:=by rw [←hL]; simp
  have hlast : (L.length : Int) - 1 = ((L.length - 1 : Nat) : Int):=by omega
  have hx:=List.getElem?_eq_getElem (show L.length - 1 < L.length by omega)
  have b1:=A6M (L.take (L.length - 1))
  have b2:=A1L L[L.length - 1]
  have b3 : (L.take (L.length - 1)).length≤16:=by simp; omega
  have hs:=B6W L (L.length - 1) hx
  rw [show L.length - 1 + 1 = L.length by omega,List.take_length] at hs
  rw [hlast]
  simp only [A3i,A6E,A7j h,hc,B2E (show L.length - 1≤L.length by omega),C0x b3,Option.bind_some,Bool.cond_decide]
  rw [if_neg (by omega),if_neg (by omega),if_neg (by omega),hlast,A2j (by omega) (by omega)]
  simp only [decide_true,Bool.not_true,cond_false,Option.bind_some,K9 hx,A5Q]
  rw [A2j (by omega) (by omega),hs]
  rfl
end Go.Pl
namespace Go.Pl
open Go Go.Sl Go.Dm
def Y4 {τ R : Type} (bad : Nat→τ→Option R) : Nat→List τ→Option R
 | _,[]=>none
 | i,x::xs=>match bad i x with
  | some r=>some r
  | none=>Y4 bad (i + 1) xs
def toE {R : Type} : Option R→Unit⊕R
 | none=>.inl ()
 | some r=>.inr r
theorem C0y {τ R : Type} {f : Int→Option (Int⊕(Unit⊕R))} (xs : List τ) (bad : Nat→τ→Option R) (hn : xs.length≤maxLen)
  (h1 : ∀ (i : Nat) x,xs[i]? = some x→f i = some (match bad i x with | some r=>.inr (.inr r) | none=>.inl ((i + 1 : Nat) : Int))) (h2 : f xs.length = some (.inr (.inl ()))) :
  iter f FUEL (0 : Int) = some (toE (Y4 bad 0 xs)):=by
 rw [mx] at hn
 rw [A0P xs (fun i x=>(bad i x).map Sum.inr) (.inl ()) (fuel hn) (fun i x hx=>by rw [h1 i x hx]; cases bad i x <;> rfl) h2]
 have key : ∀ (ys : List τ) (i : Nat),A1H (fun i x=>(bad i x).map Sum.inr) (.inl ()) i ys = toE (Y4 bad i ys):=by
  intro ys
  induction ys with
  | nil=>intro i; rfl
  | cons y ys ih=>
   intro i
   simp only [A1H,Y4]
   cases bad i y with
   | none=>exact ih (i + 1)
   | some r=>rfl
 rw [key]
theorem C4T {σ ρ τ R : Type} {f : σ→Option (σ⊕ρ)} (xs : List τ) (bad : Nat→τ→Option R) (St : σ→Nat→Prop) (Er : R→ρ) (Fin : ρ→Prop)
  (h1 : ∀ s (i : Nat) x,xs[i]? = some x→St s i→match bad i x with | some r=>f s = some (.inr (Er r)) | none=>∃ s',f s = some (.inl s')∧St s' (i + 1))
  (h2 : ∀ s,St s xs.length→∃ o,f s = some (.inr o)∧Fin o) :
  ∀ (n k : Nat) (s : σ),St s k→k≤xs.length→xs.length - k < n→match Y4 bad k (xs.drop k) with | some r=>iter f n s = some (Er r) | none=>∃ o,iter f n s = some o∧Fin o:=by
 intro n
 induction n with
 | zero=>intro k s _ _ h; omega
 | succ n ih=>
  intro k s hs hk hn
  by_cases hl : k = xs.length
  ·subst hl
   obtain ⟨o,ho,hf⟩:=h2 s hs
   simp only [List.drop_length,Y4]
   exact ⟨o,by simp only [iter,ho,Option.bind_some],hf⟩
  ·have hlt : k < xs.length:=by omega
   have:=h1 s k _ (List.getElem?_eq_getElem hlt) hs
   rw [List.drop_eq_getElem_cons hlt]
   simp only [Y4]
   cases hb : bad k xs[k] with
   | some r=>
    rw [hb] at this
    simp only [iter,this,Option.bind_some]
   | none=>
    rw [hb] at this
    obtain ⟨s',e,hs'⟩:=this
    have:=ih (k + 1) s' hs' (by omega) (by omega)
    simp only [iter,e,Option.bind_some]
    exact this
theorem X5 {σ ρ : Type} {f : σ→Option (σ⊕ρ)} (I : σ→Prop) (μ : σ→Nat) (Q : ρ→Prop)
  (h : ∀ s,I s→(∃ s',f s = some (.inl s')∧I s'∧μ s' < μ s)∨∃ r,f s = some (.inr r)∧Q r) : ∀ n s,I s→μ s < n→∃ r,iter f n s = some r∧Q r:=by
 intro n
 induction n with
 | zero=>intro s _ h; omega
 | succ n ih=>
  intro s hs hn
  rcases h s hs with ⟨s',e,hi,hm⟩ | ⟨r,e,hq⟩
  ·obtain ⟨r,hr,hq⟩:=ih s' hi (by omega)
   exact ⟨r,by simp only [iter,e,Option.bind_some]; exact hr,hq⟩
  ·exact ⟨r,by simp only [iter,e,Option.bind_some],hq⟩
theorem C3L (a b : ByteArray) : sLt a b = decide (a.data.toList < b.data.toList):=by
 rw [sLt,Lib.toList_data,Lib.toList_data,C4x]
theorem C8k {a b : ByteArray} (h : a.data.toList = b.data.toList) : a = b:=by
 cases a; cases b; simp only [ByteArray.mk.injEq]; exact Array.toList_inj.1 h
theorem C8c : ∀ x y : List UInt8,x < y∨x = y∨y < x
 | [],[]=>.inr (.inl rfl)
 | [],_::_=>.inl (by simp)
 | _::_,[]=>.inr (.inr (by simp))
 | a::x,b::y=>by
  simp only [List.cons_lt_cons_iff,List.cons.injEq]
  by_cases h1 : a < b
  ·exact .inl (.inl h1)
  ·by_cases h2 : b < a
   ·exact .inr (.inr (.inl h2))
   ·have : a = b:=UInt8.le_antisymm (UInt8.not_lt.1 h2) (UInt8.not_lt.1 h1)
    subst this
    rcases C8c x y with h | h | h
    ·exact .inl (.inr ⟨rfl,h⟩)
    ·exact .inr (.inl ⟨rfl,h⟩)
    ·exact .inr (.inr (.inr ⟨rfl,h⟩))
theorem C8p : ∀ x : List UInt8,¬ x < x
 | []=>by simp
 | a::x=>by
  simp only [List.cons_lt_cons_iff]
  rintro (h | ⟨_,h⟩)
  ·exact UInt8.lt_irrefl _ h
  ·exact C8p x h
theorem lt_trans : ∀ {x y z : List UInt8},x < y→y < z→x < z
 | [],_::_,[],_,h=>by simp at h
 | [],_,_::_,_,_=>by simp
 | [],[],[],h,_=>h
 | _::_,[],_,h,_=>by simp at h
 | _::_,_::_,[],_,h=>by simp at h
 | a::x,b::y,c::z,h,k=>by
  simp only [List.cons_lt_cons_iff] at h k ⊢
  rcases h with h | ⟨rfl,h⟩
  ·rcases k with k | ⟨rfl,k⟩
   ·exact .inl (UInt8.lt_trans h k)
   ·exact .inl h
  ·rcases k with k | ⟨rfl,k⟩
   ·exact .inl k
   ·exact .inr ⟨rfl,lt_trans h k⟩
theorem B4i (a : ByteArray) : sLt a a = false:=by rw [C3L]; simpa using C8p _
theorem B7E {a b c : ByteArray} (h : sLt a b = true) (k : sLt b c = true) : sLt a c = true:=by
 rw [C3L,decide_eq_true_eq] at *
 exact lt_trans h k
theorem C6y (a b : ByteArray) : sLt a b = true∨a = b∨sLt b a = true:=by
 simp only [C3L,decide_eq_true_eq]
 rcases C8c a.data.toList b.data.toList with h | h | h
 ·exact .inl h
 ·exact .inr (.inl (C8k h))
 ·exact .inr (.inr h)
theorem C6P (a b : ByteArray) : (B9c a b < 0)↔sLt a b = true:=by
 rw [C3L,decide_eq_true_eq]; exact C9f _ _
def A2P (s : ByteArray) : Bool:=decide (s = (⟨#[]⟩ : ByteArray)) || A3o s
theorem B0s {s : ByteArray} (hs : s.size≤maxLen) : A6o s = some (A2P s):=by
 simp only [A6o,A4B hs,Option.bind_some,A2P]
 cases decide (s = (⟨#[]⟩ : ByteArray)) <;> rfl
def B9D (l : List ByteArray) (i : Nat) (x : ByteArray) : Option Int:=
 if A3o x = true∧(i = 0∨sLt (l.getD (i - 1) ⟨#[]⟩) x = true) then none else some 22
structure OkG (g : D6) : Prop where
 name : g.F8.size≤maxLen
 rank : g.A0k.size≤maxLen
 court : g.V9.size≤maxLen
 diet : g.Z0.size≤maxLen
 C7e : g.M6.length≤maxLen
 ton : ∀ s ∈ g.M6,s.size≤maxLen
theorem B3R {α : Type} {l : List α} {i : Nat} (d : α) (hi : i < l.length) (h0 : i ≠ 0) : l[i - 1]? = some (l.getD (i - 1) d):=by
 rw [List.getD_eq_getElem?_getD,List.getElem?_eq_getElem (show i - 1 < l.length by omega)]; rfl
theorem C8b {g : D6} (h : OkG g) : iter (A3X g) FUEL (0 : Int) = some (toE (Y4 (B9D g.M6) 0 g.M6)):=by
 have hl:=h.C7e
 rw [mx] at hl
 refine C0y g.M6 _ h.C7e (fun i x hx=>?_) (by simp [A3X])
 have hi:=P8 hx
 have hr:=M4 (n:=i) (by omega)
 have hlt : (i : Int) < (g.M6.length : Int):=by omega
 simp only [A3X,B3K,K9 hx,A4B (h.ton x (A2h hx)),hr,Option.bind_some,Bool.cond_decide,if_pos hlt]
 unfold B9D
 cases A3o x
 ·simp
 by_cases h0 : i = 0
 ·subst h0; simp
 have hp : (0 : Int) < i:=by omega
 have hc : ((i : Int) - 1) = ((i - 1 : Nat) : Int):=by omega
 rw [if_pos hp,hc,A2j (x:=((i - 1 : Nat) : Int)) (by omega) (by omega)]
 simp only [Option.bind_some,K9 (B3R ⟨#[]⟩ hi h0),h0,false_or]
 cases sLt (g.M6.getD (i - 1) ⟨#[]⟩) x <;> simp
def A6q (g : D6) : Int:=
 if (A3o g.F8 && A2P g.A0k && A2P g.V9 && A2P g.Z0) = false then 4
 else if g.V3 < 0∨9999 < g.V3 then 21
 else if g.A0f < 0∨2 < g.A0f then 20
 else if 4 < g.M6.length then 22
 else (Y4 (B9D g.M6) 0 g.M6).getD 0
theorem B2m {g : D6} (h : OkG g) : A5q g = some (A6q g):=by
 simp only [A5q,B3d,A4B h.name,B0s h.rank,B0s h.court,B0s h.diet,C8b h,Option.bind_some,A6q]
 cases A3o g.F8 <;> cases A2P g.A0k <;> cases A2P g.V9 <;> cases A2P g.Z0
 all_goals simp only [Bool.not_false,Bool.not_true,cond_true,cond_false,Option.bind_some,Bool.true_and,Bool.false_and,Bool.and_false,Bool.and_true,if_true,Bool.true_eq_false,if_false]
 have e4 : ((4 : Int) < (g.M6.length : Int))↔4 < g.M6.length:=by omega
 simp only [Bool.cond_decide,e4]
 by_cases h1 : g.V3 < 0 <;> by_cases h2 : 9999 < g.V3 <;> simp only [h1,h2,if_true,if_false,Option.bind_some,decide_true,decide_false,cond_true,cond_false,true_or,or_true,or_self]
 by_cases h3 : g.A0f < 0 <;> by_cases h4 : 2 < g.A0f <;> simp only [h3,h4,if_true,if_false,Option.bind_some,decide_true,decide_false,cond_true,cond_false,true_or,or_true,or_self]
 by_cases h5 : 4 < g.M6.length
 ·simp only [h5,if_true]
 ·simp only [h5,if_false]
  cases Y4 (B9D g.M6) 0 g.M6 <;> rfl
end Go.Pl
namespace Go.Pl
open Go Go.Sl Go.Dm
def A8g (gs : List D6) (i : Nat) (g : D6) : Option (Int×Int):=
 if A6q g ≠ 0 then some ((i : Int),A6q g) else if (gs.take i).any (fun y=>decide (y.F8 = g.F8)) then some ((i : Int),5) else if 64≤i then some ((i : Int),7) else none
theorem B9U {g : D6} (h : A6q g = 0) : g.M6.length≤4:=by
 unfold A6q at h
 split at h
 ·omega
 split at h
 ·omega
 split at h
 ·omega
 split at h
 ·omega
 omega
theorem C2E {g : D6} (h : g.M6.length≤4) : A7X g = some g:=by
 have : apL ([] : List ByteArray) g.M6 = some g.M6:=by
  unfold apL
  rw [show Nat.ble (([] : List ByteArray).length + g.M6.length) 1073741824 = true from Nat.ble_eq_true_of_le (by simp; omega)]
  rfl
 simp only [A7X,A1Y,this,Option.bind_some]
theorem A0t {α : Type} {l : List α} {x : α} (h : l.length≤1000) : apL l [x] = some (l ++ [x]):=by
 unfold apL
 rw [show Nat.ble (l.length + [x].length) 1073741824 = true from Nat.ble_eq_true_of_le (by simp; omega)]
 rfl
theorem A8p {κ α : Type} [DecidableEq κ] (m : List (κ×α)) (k : κ) (x : α) (k' : κ) : A4k (A2O m k x) k' = if k' = k then some x else A4k m k':=by
 induction m with
 | nil=>
  simp only [A2O,A4k,Bool.cond_decide]
 | cons p m ih=>
  obtain ⟨q,y⟩:=p
  simp only [A2O]
  by_cases hk : k = q
  ·subst hk
   simp only [decide_true,cond_true,A4k,Bool.cond_decide]
   by_cases h : k' = k <;> simp [h]
  ·simp only [hk,decide_false,cond_false,A4k,Bool.cond_decide,ih]
   by_cases h1 : k' = q
   ·subst h1
    have : ¬ k' = k:=fun e=>hk e.symm
    simp [this]
   ·simp [h1]
def Knows (m : List (ByteArray×Int)) (gs : List D6) : Prop:=(∀ n,(A4k m n).isSome = gs.any (fun y=>decide (y.F8 = n)))∧∀ n v,A4k m n = some v→∃ k : Nat,v = (k : Int)∧k < gs.length
theorem C2R {m : List (ByteArray×Int)} {gs : List D6} (h : Knows m gs) (n : ByteArray) (z : Int) : ∃ v,lkM m n z = some (v,gs.any (fun y=>decide (y.F8 = n))):=by
 unfold lkM
 have:=h.1 n
 cases hm : A4k m n with
 | none=>rw [hm] at this; exact ⟨z,by rw [←this]; rfl⟩
 | some x=>rw [hm] at this; exact ⟨x,by rw [←this]; rfl⟩
theorem C8u {gs : List D6} {i : Nat} {g : D6} (h : gs[i]? = some g) (n : ByteArray) : (gs.take (i + 1)).any (fun y=>decide (y.F8 = n)) = ((gs.take i).any (fun y=>decide (y.F8 = n)) || decide (g.F8 = n)):=by
 obtain ⟨hi,rfl⟩:=List.getElem?_eq_some_iff.1 h
 rw [List.take_add_one,List.getElem?_eq_getElem hi]
 simp only [List.any_append,Option.toList,List.any_cons,List.any_nil,Bool.or_false]
theorem B8a {α : Type} {l : List α} {i : Nat} {x : α} (h : l[i]? = some x) : l.take (i + 1) = l.take i ++ [x]:=by
 obtain ⟨hi,rfl⟩:=List.getElem?_eq_some_iff.1 h
 rw [List.take_add_one,List.getElem?_eq_getElem hi]
 rfl
structure OkR (r : R4) : Prop where
 gs : r.A8.length≤maxLen
 g : ∀ g ∈ r.A8,OkG g
 ts : r.I8.length≤maxLen
theorem B9K {r : R4} (h : OkR r) :
  match Y4 (A8g r.A8) 0 r.A8 with
  | some p=>iter (A2F r) FUEL (([] : List D6),([] : List F5),([] : List (ByteArray×Int)),(0 : Int)) = some (.inr (none,p.1,p.2))
  | none=>∃ o,iter (A2F r) FUEL (([] : List D6),([] : List F5),([] : List (ByteArray×Int)),(0 : Int)) = some o∧∃ m,o = .inl (r.A8,[],m)∧Knows m r.A8:=by
 have hl:=h.gs
 rw [mx] at hl
 have:=C4T (f:=A2F r) r.A8 (A8g r.A8) (fun s i=>i≤64∧∃ m,s = (r.A8.take i,[],m,(i : Int))∧Knows m (r.A8.take i)) (fun p=>.inr (none,p.1,p.2))
  (fun o=>∃ m,o = .inl (r.A8,[],m)∧Knows m r.A8)
  (fun s i g hg hs=>by
   obtain ⟨h64,m,rfl,hm⟩:=hs
   have hi:=P8 hg
   have hr:=M4 (n:=i) (by omega)
   have hlt : (i : Int) < (r.A8.length : Int):=by omega
   have hlen : (r.A8.take i).length = i:=by simp; omega
   obtain ⟨v,hv⟩:=C2R hm g.F8 0
   simp only [A2F,K9 hg,B9V,A4s,B2m (h.g g (A2h hg)),Option.bind_some,Bool.cond_decide,if_pos hlt,cond_false]
   unfold A8g
   by_cases h0 : A6q g = 0
   ·have hton:=B9U h0
    simp only [h0,decide_true,Bool.not_true,cond_false,B8w,hv,Option.bind_some,ne_eq,not_true,if_false]
    cases ha : (r.A8.take i).any (fun y=>decide (y.F8 = g.F8))
    ·simp only [cond_false,Bool.false_eq_true,if_false,hlen,Bool.cond_decide]
     by_cases h6 : 64≤i
     ·have : (i : Int) = 64:=by omega
      simp [this,h6]
     ·have : ¬ (i : Int) = 64:=by omega
      simp only [this,if_false,h6,Option.bind_some,C2E hton,A0t (show (r.A8.take i).length≤1000 by omega),decide_true,Bool.not_true,cond_false,hr]
      refine ⟨_,rfl,by omega,A2O m g.F8 (i : Int),?_,?_⟩
      ·rw [B8a hg]
      ·refine ⟨fun n=>?_,fun n v hv=>?_⟩
       rotate_left
       ·rw [A8p] at hv
        rw [List.length_take]
        split at hv
        ·cases hv; exact ⟨i,rfl,by omega⟩
        ·obtain ⟨k,e,hk⟩:=hm.2 n v hv
         exact ⟨k,e,by omega⟩
       rw [A8p,C8u hg]
       have:=hm.1 n
       by_cases hn : n = g.F8
       ·subst hn; simp
       ·have hn' : ¬ g.F8 = n:=fun e=>hn e.symm
        simp [hn,hn',this]
    ·simp
   ·simp [h0])
  (fun s hs=>by
   obtain ⟨_,m,rfl,hm⟩:=hs
   rw [List.take_length] at hm
   refine ⟨.inl (r.A8,[],m),by simp [A2F],m,rfl,hm⟩)
  FUEL 0 ([],[],[],0) ⟨by omega,[],by simp,fun n=>by simp [A4k],fun n v h=>by cases h⟩ (Nat.zero_le _) (fuel (by omega))
 rw [List.drop_zero] at this
 cases hF : Y4 (A8g r.A8) 0 r.A8 with
 | some p=>rw [hF] at this; exact this
 | none=>rw [hF] at this; exact this
def tLt (a b : F5) : Bool:=sLt a.fA b.fA || (decide (a.fA = b.fA) && sLt a.fB b.fB)
def B0A (a b : F5) : Int:=if B9c a.fA b.fA = 0 then B9c a.fB b.fB else B9c a.fA b.fA
theorem B3o (a b : F5) : A1o a b = some (B0A a b):=by
 simp only [A1o,strings_Compare,bytealg_CompareString,Option.bind_some,B0A]
 by_cases h : B9c a.fA b.fA = 0 <;> simp [h]
theorem C3P (a b : F5) : (B0A a b < 0)↔tLt a b = true:=by
 unfold B0A tLt
 by_cases h : B9c a.fA b.fA = 0
 ·have e:=(B3n _ _).1 h
  rw [if_pos h,C6P]
  simp [e,B4i]
 ·have e : ¬ a.fA = b.fA:=fun q=>h ((B3n _ _).2 q)
  rw [if_neg h,C6P]
  simp [e]
theorem C5v (a b : F5) : (B0A a b = 0)↔(a.fA = b.fA∧a.fB = b.fB):=by
 unfold B0A
 by_cases h : B9c a.fA b.fA = 0
 ·rw [if_pos h,B3n]
  have:=(B3n _ _).1 h
  simp [this]
 ·rw [if_neg h]
  have : ¬ a.fA = b.fA:=fun q=>h ((B3n _ _).2 q)
  simp [h,this]
theorem C2X {a b c : F5} (h : tLt a b = true) (k : tLt b c = true) : tLt a c = true:=by
 simp only [tLt,Bool.or_eq_true,Bool.and_eq_true,decide_eq_true_eq] at *
 rcases h with h | ⟨h1,h2⟩
 ·rcases k with k | ⟨k1,k2⟩
  ·exact .inl (B7E h k)
  ·exact .inl (k1 ▸ h)
 ·rcases k with k | ⟨k1,k2⟩
  ·exact .inl (h1 ▸ k)
  ·exact .inr ⟨h1.trans k1,B7E h2 k2⟩
theorem C6N (a b : F5) : tLt a b = true∨(a.fA = b.fA∧a.fB = b.fB)∨tLt b a = true:=by
 simp only [tLt,Bool.or_eq_true,Bool.and_eq_true,decide_eq_true_eq]
 rcases C6y a.fA b.fA with h | h | h
 ·exact .inl (.inl h)
 ·rcases C6y a.fB b.fB with k | k | k
  ·exact .inl (.inr ⟨h,k⟩)
  ·exact .inr (.inl ⟨h,k⟩)
  ·exact .inr (.inr (.inr ⟨h.symm,k⟩))
 ·exact .inr (.inr (.inl h))
theorem C3i {a b : F5} (h1 : a.fA = b.fA) (h2 : a.fB = b.fB) : tLt a b = false:=by
 simp [tLt,h1,h2,B4i]
theorem C1b {a b : F5} (h : tLt a b = true) : tLt b a = false:=by
 cases k : tLt b a with
 | false=>rfl
 | true=>have:=C2X h k; rw [C3i rfl rfl] at this; cases this
theorem wrap_u64 {x : Int} (h : 0≤x) (h' : x≤18446744073709551615) : IntKind.u64.wrap x = x:=by
 simp [IntKind.wrap,IntKind.bits,IntKind.signed]; omega
theorem wrap_i64 {x : Int} (h : 0≤x) (h' : x≤9223372036854775807) : IntKind.i64.wrap x = x:=by
 have : IntKind.i64.wrap x = if x % 18446744073709551616 ≥ 9223372036854775808 then x % 18446744073709551616 - 18446744073709551616 else x % 18446744073709551616:=by
  simp [IntKind.wrap,IntKind.bits,IntKind.signed]
 rw [this]
 split <;> omega
theorem C4q {L : List F5} {q : F5} {m : Nat} (hm : m≤L.length) (hL : L.length≤1000) (lo : ∀ k x,L[k]? = some x→k < m→B0A x q < 0) (hi : ∀ k x,L[k]? = some x→m≤k→¬ B0A x q < 0) :
  iter (A1l L q A1o) FUEL ((L.length : Int),(0 : Int)) = some (m : Int):=by
 have:=X5 (f:=A1l L q A1o) (fun s=>∃ j i : Nat,s = ((j : Int),(i : Int))∧i≤m∧m≤j∧j≤L.length) (fun s=>(s.1 - s.2).toNat) (fun r=>r = (m : Int))
  (fun s hs=>by
   obtain ⟨j,i,rfl,h1,h2,h3⟩:=hs
   by_cases hc : i < j
   ·left
    have hlt : (i : Int) < (j : Int):=by omega
    have hmid : (i + j) / 2 < L.length:=by omega
    have hx:=List.getElem?_eq_getElem hmid
    have hs : A5x .u64 ((i + j : Nat) : Int) (1 : Int) = some (((i + j) / 2 : Nat) : Int):=by
     show (bif Nat.ble 1 (IntKind.u64.bits) then some (Int.ofNat ((i + j) / 2 ^ 1)) else none) = _
     rw [show Nat.ble 1 (IntKind.u64.bits) = true from rfl,Nat.pow_one]
     rfl
    have hsum : (i : Int) + (j : Int) = ((i + j : Nat) : Int):=by omega
    have e1 : A1p .u64 ((i + j : Nat) : Int) = some ((i + j : Nat) : Int):=by
     unfold A1p; rw [wrap_u64 (by omega) (by omega)]; simp
    have e2 : A1p .i64 (((i + j) / 2 : Nat) : Int) = some (((i + j) / 2 : Nat) : Int):=by
     unfold A1p; rw [wrap_i64 (by omega) (by omega)]; simp
    simp only [A1l,hsum,A2j (x:=((i + j : Nat) : Int)) (by omega) (by omega),e1,hs,e2,K9 hx,B3o,Option.bind_some,Bool.cond_decide,if_pos hlt]
    by_cases ho : B0A L[(i + j) / 2] q < 0
    ·have : (i + j) / 2 < m:=by
      apply Classical.byContradiction
      intro hn
      exact hi _ _ hx (by omega) ho
     rw [if_pos ho,M4 (by omega)]
     refine ⟨_,rfl,⟨j,(i + j) / 2 + 1,rfl,by omega,by omega,by omega⟩,?_⟩
     simp only
     omega
    ·have : m≤(i + j) / 2:=by
      apply Classical.byContradiction
      intro hn
      exact ho (lo _ _ hx (by omega))
     rw [if_neg ho]
     refine ⟨_,rfl,⟨(i + j) / 2,i,rfl,by omega,by omega,by omega⟩,?_⟩
     simp only
     omega
   ·right
    have hnl : ¬ (i : Int) < (j : Int):=by omega
    refine ⟨(i : Int),by simp only [A1l,Bool.cond_decide,if_neg hnl],by omega⟩)
  FUEL ((L.length : Int),(0 : Int)) ⟨L.length,0,rfl,Nat.zero_le _,hm,Nat.le_refl _⟩ (by simp only; exact fuel (by omega))
 obtain ⟨r,hr,rfl⟩:=this
 exact hr
end Go.Pl
namespace Go.Pl
open Go Go.Sl Go.Dm
theorem A3g {τ R : Type} {bad : Nat→τ→Option R} : ∀ (xs : List τ) (i : Nat),Y4 bad i xs = none→∀ k x,xs[k]? = some x→bad (i + k) x = none:=by
 intro xs
 induction xs with
 | nil=>intro i _ k x h; simp at h
 | cons y xs ih=>
  intro i h k x hk
  simp only [Y4] at h
  cases hy : bad i y with
  | some r=>rw [hy] at h; cases h
  | none=>
   rw [hy] at h
   cases k with
   | zero=>simp at hk; subst hk; exact hy
   | succ k=>
    have:=ih (i + 1) h k x (by simpa using hk)
    rwa [show i + (k + 1) = i + 1 + k by omega]
theorem D0L {gs : List D6} (h : Y4 (A8g gs) 0 gs = none) : gs.length≤64:=by
 apply Classical.byContradiction
 intro hn
 have hx:=List.getElem?_eq_getElem (show 64 < gs.length by omega)
 have:=A3g gs 0 h 64 _ hx
 unfold A8g at this
 split at this
 ·cases this
 ·split at this
  ·cases this
  ·simp at this
def A5E : F5:=⟨⟨#[]⟩,⟨#[]⟩,0⟩
def isG (gs : List D6) (n : ByteArray) : Bool:=gs.any (fun y=>decide (y.F8 = n))
def B4F (r : R4) (i : Nat) (t : F5) : Option (Int×Int):=
 if (t.H8 ≠ 1∧t.H8 ≠ 2)∨sLt t.fA t.fB = false∨(i ≠ 0∧tLt t (r.I8.getD (i - 1) A5E) = true) then some ((r.A8.length : Int) + i,23)
 else if isG r.A8 t.fA = false∨isG r.A8 t.fB = false then some ((r.A8.length : Int) + i,6)
 else if i ≠ 0∧tLt (r.I8.getD (i - 1) A5E) t = false then some ((r.A8.length : Int) + i,5)
 else if 256≤i then some ((r.A8.length : Int) + i,7) else none
theorem D0Q (a b : F5) : decide (B0A a b≤0) = !tLt b a:=by
 have h1:=C3P a b
 have h2:=C5v a b
 rcases C6N a b with h | h | h
 ·have:=h1.2 h
  rw [C1b h]
  simp; omega
 ·have e:=h2.2 h
  rw [C3i h.1.symm h.2.symm]
  simp; omega
 ·rw [h]
  have n1 : ¬ B0A a b < 0:=fun q=>by have:=h1.1 q; rw [C1b h] at this; cases this
  have n2 : ¬ B0A a b = 0:=fun q=>by have:=h2.1 q; rw [C3i this.1.symm this.2.symm] at h; cases h
  simp; omega
theorem C3t {a b : ByteArray} (h : sLt a b = true) (k : Int) : A6r a b k = some ⟨a,b,k⟩:=by
 simp only [A6r,minS,maxS,h,Bool.true_or,Bool.not_true,cond_true,cond_false]
theorem C7t {gs : List D6} {L : List F5} {m : List (ByteArray×Int)} {t : F5} (hAB : sLt t.fA t.fB = true) (hL : L.length≤1000) (hn : ∀ (k : Nat) x,L[k]? = some x→tLt x t = true) :
  A2G ⟨⟨gs,L⟩,m⟩ t.fA t.fB = some ((L.length : Int),false):=by
 have e : ∀ x : F5,B0A x ⟨t.fA,t.fB,0⟩ = B0A x t:=fun x=>rfl
 simp only [A2G,C3t hAB,Option.bind_some,B0G]
 rw [C4q (m:=L.length) (Nat.le_refl _) hL (fun k x hx _=>by rw [e,C3P]; exact hn k x hx) (fun k x hx hk=>by have:=P8 hx; omega)]
 simp
theorem C6Z {gs : List D6} {L : List F5} {m : List (ByteArray×Int)} {t p : F5} (hAB : sLt t.fA t.fB = true) (hL : L.length≤1000) (h0 : L ≠ []) (hp : L[L.length - 1]? = some p) (hs : p.fA = t.fA∧p.fB = t.fB)
  (hn : ∀ (k : Nat) x,L[k]? = some x→k + 1 < L.length→tLt x p = true) : ∃ z,A2G ⟨⟨gs,L⟩,m⟩ t.fA t.fB = some (z,true):=by
 have e : ∀ x : F5,B0A x ⟨t.fA,t.fB,0⟩ = B0A x p:=fun x=>by unfold B0A; rw [hs.1,hs.2]
 have hpos : 0 < L.length:=List.length_pos_iff.2 h0
 have h00 : B0A p p = 0:=(C5v p p).2 ⟨rfl,rfl⟩
 simp only [A2G,C3t hAB,Option.bind_some,B0G]
 rw [C4q (m:=L.length - 1) (by omega) hL (fun k x hx hk=>by rw [e,C3P]; exact hn k x hx (by omega)) (fun k x hx hk=>by
  have:=P8 hx
  have hk' : k = L.length - 1:=by omega
  subst hk'
  rw [hp] at hx
  cases hx
  rw [e,h00]
  omega)]
 have hlt : ((L.length - 1 : Nat) : Int) < (L.length : Int):=by omega
 simp only [Option.bind_some,Bool.cond_decide,if_pos hlt,K9 hp,B3o,e,h00]
 exact ⟨_,rfl⟩
theorem C5D {gs : List D6} {L : List F5} {m : List (ByteArray×Int)} (hk : Knows m gs) (a b : ByteArray) :
  iter (A7E ⟨⟨gs,L⟩,m⟩ a b) FUEL (0 : Int) = some (if isG gs a = true∧isG gs b = true then .inl () else .inr ((6 : Int),⟨⟨gs,L⟩,m⟩)):=by
 rw [C0y [a,b] (fun i n=>if isG gs n then none else some ((6 : Int),(⟨⟨gs,L⟩,m⟩ : K4))) (by rw [mx]; simp) (fun i n hn=>by
  have hi:=P8 hn
  obtain ⟨v,hv⟩:=C2R hk n 0
  have hlt : (i : Int) < ([a,b].length : Int):=by omega
  have hr:=M4 (n:=i) (by simp at hi; omega)
  simp only [A7E,K9 hn,hv,hr,Option.bind_some,Bool.cond_decide,if_pos hlt]
  unfold isG
  cases gs.any (fun y=>decide (y.F8 = n)) <;> simp) (by simp [A7E])]
 simp only [Y4]
 cases isG gs a <;> cases isG gs b <;> rfl
def Asc (l : List F5) : Prop:=∀ (a b : Nat) (x y : F5),a < b→l[a]? = some x→l[b]? = some y→tLt x y = true
theorem C4I {gs : List D6} {L : List F5} {m : List (ByteArray×Int)} (hk : Knows m gs) {t : F5} (hAB : sLt t.fA t.fB = true) :
  B6D ⟨⟨gs,L⟩,m⟩ t.fA t.fB t.H8 = if t.H8 ≠ 1∧t.H8 ≠ 2 then some ((23 : Int),⟨⟨gs,L⟩,m⟩) else if isG gs t.fA = false∨isG gs t.fB = false then some ((6 : Int),⟨⟨gs,L⟩,m⟩) else A5v ⟨⟨gs,L⟩,m⟩ t.fA t.fB t.H8:=by
 have hne : ¬ t.fA = t.fB:=fun e=>by rw [e,B4i] at hAB; cases hAB
 simp only [B6D,A4s,Option.bind_some,cond_false,C5D hk,hne,decide_false]
 by_cases k1 : t.H8 = 1
 ·cases isG gs t.fA <;> cases isG gs t.fB <;> simp [k1]
 ·by_cases k2 : t.H8 = 2
  ·cases isG gs t.fA <;> cases isG gs t.fB <;> simp [k1,k2]
  ·simp [k1,k2]
theorem C5P {gs : List D6} {L : List F5} {m : List (ByteArray×Int)} {t : F5} {z : Int} (hp : A2G ⟨⟨gs,L⟩,m⟩ t.fA t.fB = some (z,true)) :
  A5v ⟨⟨gs,L⟩,m⟩ t.fA t.fB t.H8 = some ((5 : Int),⟨⟨gs,L⟩,m⟩):=by
 simp only [A5v,hp,Option.bind_some,cond_true]
theorem C6e {gs : List D6} {L : List F5} {m : List (ByteArray×Int)} {t : F5} (hAB : sLt t.fA t.fB = true) (hL : L.length≤256) (hp : A2G ⟨⟨gs,L⟩,m⟩ t.fA t.fB = some ((L.length : Int),false)) :
  A5v ⟨⟨gs,L⟩,m⟩ t.fA t.fB t.H8 = some (if 256≤L.length then ((7 : Int),⟨⟨gs,L⟩,m⟩) else ((0 : Int),⟨⟨gs,L ++ [t]⟩,m⟩)):=by
 simp only [A5v,hp,Option.bind_some,cond_false,Bool.cond_decide]
 by_cases h : 256≤L.length
 ·have : (L.length : Int) = 256:=by omega
  simp [this,h]
 ·have h' : ¬ (L.length : Int) = 256:=by omega
  have hb : bdV (L.length : Int) (L.length : Int) (L.length : Int) = some ():=by
   unfold bdV
   simp
  rw [if_neg h',if_neg h,C3t hAB]
  simp only [Option.bind_some,B7S,hb,A0t (show L.length≤1000 by omega)]
  simp
theorem C0G {r : R4} (h : OkR r) (hg : r.A8.length≤64) {m : List (ByteArray×Int)} (hm : Knows m r.A8) :
  match Y4 (B4F r) 0 r.I8 with
  | some p=>iter (A2B r) FUEL (r.A8,([] : List F5),m,(0 : Int)) = some (.inr (none,p.1,p.2))
  | none=>∃ o,iter (A2B r) FUEL (r.A8,([] : List F5),m,(0 : Int)) = some o∧o = .inl (r.A8,r.I8,m):=by
 have hl:=h.ts
 rw [mx] at hl
 have:=C4T (f:=A2B r) r.I8 (B4F r) (fun s i=>i≤256∧s = (r.A8,r.I8.take i,m,(i : Int))∧Asc (r.I8.take i)) (fun p=>.inr (none,p.1,p.2))
  (fun o=>o = .inl (r.A8,r.I8,m))
  (fun s i t ht hs=>by
   obtain ⟨h256,rfl,hasc⟩:=hs
   have hi:=P8 ht
   have hr:=M4 (n:=i) (by omega)
   have hra : N7 ((r.A8.length : Int) + (i : Int)) = some ((r.A8.length : Int) + (i : Int)):=A2j (by omega) (by omega)
   have hlt : (i : Int) < (r.I8.length : Int):=by omega
   have hlen : (r.I8.take i).length = i:=by simp; omega
   have n23 : (!decide ((23 : Int) = (0 : Int))) = true:=by decide
   simp only [A2B,B4L,K9 ht,hra,hr,Option.bind_some,Bool.cond_decide,if_pos hlt,n23,cond_true]
   have hord : (if (i : Int) = 0 then some true else Option.bind (N7 ((i : Int) - 1)) fun t165=>Option.bind (J6 r.I8 t165) fun e166=>Option.bind (A1o e166 t) fun t169=>some (decide (t169≤(0 : Int)))) =
     some (!decide (i ≠ 0∧tLt t (r.I8.getD (i - 1) A5E) = true)):=by
    by_cases h0 : i = 0
    ·subst h0; simp
    ·have hp:=B3R (l:=r.I8) A5E hi h0
     have hc : ((i : Int) - 1) = ((i - 1 : Nat) : Int):=by omega
     have hne : ¬ (i : Int) = 0:=by omega
     rw [if_neg hne,hc,A2j (x:=((i - 1 : Nat) : Int)) (by omega) (by omega)]
     simp only [Option.bind_some,K9 hp,B3o,D0Q,h0,ne_eq,not_false_iff,true_and]
     cases tLt t (r.I8.getD (i - 1) A5E) <;> simp
   rw [hord]
   unfold B4F
   cases hAB : sLt t.fA t.fB
   ·simp
   by_cases hq : i ≠ 0∧tLt t (r.I8.getD (i - 1) A5E) = true
   ·rw [if_pos (.inr (.inr hq)),decide_eq_true hq]
    rfl
   rw [decide_eq_false hq]
   simp only [Bool.not_false,cond_true,Option.bind_some,C4I hm hAB]
   by_cases hk : t.H8 ≠ 1∧t.H8 ≠ 2
   ·rw [if_pos (.inl hk),if_pos hk]
    rfl
   have c1 : ¬ ((t.H8 ≠ 1∧t.H8 ≠ 2)∨true = false∨(i ≠ 0∧tLt t (r.I8.getD (i - 1) A5E) = true)):=by
    rintro (q | q | q)
    ·exact hk q
    ·cases q
    ·exact hq q
   rw [if_neg c1,if_neg hk]
   by_cases hn : isG r.A8 t.fA = false∨isG r.A8 t.fB = false
   ·rw [if_pos hn,if_pos hn]
    rfl
   rw [if_neg hn,if_neg hn]
   by_cases h5 : i ≠ 0∧tLt (r.I8.getD (i - 1) A5E) t = false
   ·rw [if_pos h5]
    have hp:=B3R (l:=r.I8) A5E hi h5.1
    have hsame : (r.I8.getD (i - 1) A5E).fA = t.fA∧(r.I8.getD (i - 1) A5E).fB = t.fB:=by
     rcases C6N (r.I8.getD (i - 1) A5E) t with q | q | q
     ·rw [h5.2] at q; cases q
     ·exact q
     ·exact absurd ⟨h5.1,q⟩ hq
    have hpt : (r.I8.take i)[(r.I8.take i).length - 1]? = some (r.I8.getD (i - 1) A5E):=by
     rw [hlen,List.getElem?_take,if_pos (by omega)]
     exact hp
    obtain ⟨z,hz⟩:=C6Z (gs:=r.A8) (m:=m) hAB (show (r.I8.take i).length≤1000 by omega) (fun e=>by rw [e] at hlen; simp at hlen; exact h5.1 hlen.symm) hpt hsame (fun k x hx hk=>hasc k _ x _ (by omega) hx hpt)
    rw [C5P hz]
    rfl
   rw [if_neg h5]
   have hnew : ∀ (k : Nat) x,(r.I8.take i)[k]? = some x→tLt x t = true:=by
    intro k x hx
    have hk':=P8 hx
    have h0 : i ≠ 0:=by omega
    have hp:=B3R (l:=r.I8) A5E hi h0
    have hl1 : tLt (r.I8.getD (i - 1) A5E) t = true:=by
     cases q : tLt (r.I8.getD (i - 1) A5E) t with
     | true=>rfl
     | false=>exact absurd ⟨h0,q⟩ h5
    have hpt : (r.I8.take i)[i - 1]? = some (r.I8.getD (i - 1) A5E):=by
     rw [List.getElem?_take,if_pos (by omega)]
     exact hp
    by_cases hki : k = i - 1
    ·subst hki
     rw [hpt] at hx
     cases hx
     exact hl1
    ·exact C2X (hasc k (i - 1) x _ (by omega) hx hpt) hl1
   have hpl:=C7t (gs:=r.A8) (m:=m) hAB (show (r.I8.take i).length≤1000 by omega) hnew
   rw [C6e hAB (by omega) hpl,hlen]
   by_cases h6 : 256≤i
   ·rw [if_pos h6,if_pos h6]
    rfl
   ·rw [if_neg h6,if_neg h6]
    refine ⟨_,rfl,by omega,?_,?_⟩
    ·rw [B8a ht]
    ·rw [B8a ht]
     intro a b x y hab hx hy
     have hb:=P8 hy
     simp only [List.length_append,hlen,List.length_cons,List.length_nil] at hb
     rw [List.getElem?_append_left (by omega)] at hx
     by_cases hbi : b < i
     ·rw [List.getElem?_append_left (by omega)] at hy
      exact hasc a b x y hab hx hy
     ·have : b = i:=by omega
      subst this
      rw [List.getElem?_append_right (by omega),hlen] at hy
      simp at hy
      subst hy
      exact hnew a x hx)
  (fun s hs=>by
   obtain ⟨_,rfl,_⟩:=hs
   exact ⟨.inl (r.A8,r.I8,m),by simp [A2B],rfl⟩)
  FUEL 0 (r.A8,[],m,0) ⟨by omega,by simp,fun a b x y _ hx _=>by simp at hx⟩ (Nat.zero_le _) (fuel (by omega))
 rw [List.drop_zero] at this
 cases hF : Y4 (B4F r) 0 r.I8 with
 | some p=>rw [hF] at this; exact this
 | none=>rw [hF] at this; exact this
def B2f (r : R4) : Int×Int:=match Y4 (A8g r.A8) 0 r.A8 with
 | some p=>p
 | none=>(Y4 (B4F r) 0 r.I8).getD (0,0)
theorem B5T {r : R4} (h : OkR r) : A5j r = some (B2f r):=by
 have h0:=B9K h
 simp only [A5j,A6u,B4l,Option.bind_some,B2f]
 cases hF : Y4 (A8g r.A8) 0 r.A8 with
 | some p=>rw [hF] at h0; simp only at h0; rw [h0]; rfl
 | none=>
  rw [hF] at h0
  obtain ⟨o,ho,m,rfl,hm⟩:=h0
  have h1:=C0G h (D0L hF) hm
  rw [ho]
  simp only [Option.bind_some]
  cases hT : Y4 (B4F r) 0 r.I8 with
  | some p=>rw [hT] at h1; simp only at h1; rw [h1]; rfl
  | none=>
   rw [hT] at h1
   obtain ⟨o,ho,rfl⟩:=h1
   rw [ho]
   rfl
theorem C9N {r : R4} (h : (B2f r).2 = 0) : r.A8.length≤64:=by
 unfold B2f at h
 cases hF : Y4 (A8g r.A8) 0 r.A8 with
 | none=>exact D0L hF
 | some p=>
  rw [hF] at h
  exfalso
  have key : ∀ (xs : List D6) (i : Nat) (p : Int×Int),Y4 (A8g r.A8) i xs = some p→p.2 ≠ 0:=by
   intro xs
   induction xs with
   | nil=>intro i p h; cases h
   | cons x xs ih=>
    intro i p h
    simp only [Y4] at h
    cases hb : A8g r.A8 i x with
    | none=>rw [hb] at h; exact ih _ _ h
    | some q=>
     rw [hb] at h
     cases h
     unfold A8g at hb
     split at hb
     ·rename_i hc; cases hb; exact hc
     ·split at hb
      ·cases hb; simp
      ·split at hb
       ·cases hb; simp
       ·cases hb
  exact key _ _ _ hF h
end Go.Pl
namespace Go.Pl
open Go Go.Sl Go.Dm
structure OkU (r : F6) : Prop where
 kind : 0≤r.H8∧r.H8≤255
 a : r.fA.size≤maxLen
def A9c (p : A9) (n : ByteArray) : Int:=A0Z (fun x=>decide (x.F8 = n)) 0 p.A8
def A6g (p : A9) (n : ByteArray) : Int:=A0Z (fun x=>decide (x.F8 = n)) 0 p.D7
theorem D0f {p : A9} (h : C4a p.D7) (hc : (A9W p.D7).2 = 0) (n : ByteArray) : B4s p.D7 n = some (bif decide (A6g p n < 0) then ((0 : Int),false) else (A6g p n,true)):=by
 simp only [B4s,D1M h.1 (f:=fun y0=>B1r y0 n) (p:=fun x=>decide (x.F8 = n)) (fun x=>rfl),A7j h,hc,Option.bind_some,A6g]
 by_cases hq : A0Z (fun x : C8=>decide (x.F8 = n)) 0 p.D7 < 0 <;> simp [hq]
theorem C9j {t : C8} (h : A5l t = 0) : (A9W [t]).2 = 0:=by
 simp [A9W,A1H,B6g,h,C7U]
theorem D0R {p : A9} (h : C4a p.D7) (hc : (A9W p.D7).2 = 0) {n : ByteArray} (hn : 0≤A6g p n) : ∃ m : Int,
  (Option.bind (N7 (A6g p n + (1 : Int))) fun t162=>Option.bind (sbL p.D7 (A6g p n) t162) fun t163=>Option.bind (A2d t163) fun t168=>Option.bind (N7 (t168 - (1 : Int))) fun t176=>some t176) = some m∧
  (Option.bind (J6 p.D7 (A6g p n)) fun e511=>Option.bind (B1E e511) fun t516=>Option.bind (N7 (t516 - (1 : Int))) fun t524=>some t524) = some m:=by
 have hl:=h.1
 rw [mx] at hl
 obtain ⟨k,e,hk⟩:=C8P _ _ 0 hn
 rw [Nat.zero_add] at e
 have e' : A6g p n = (k : Int):=e
 have hx:=List.getElem?_eq_getElem hk
 have hm:=A2h hx
 have h0:=(B9o hc).2 _ hm
 have hs:=A1L p.D7[k]
 have hsb : sbL p.D7 (k : Int) ((k + 1 : Nat) : Int) = some [p.D7[k]]:=by
  have : sbL p.D7 (k : Int) ((k + 1 : Nat) : Int) = (bif Nat.ble k (k + 1) && Nat.ble (k + 1) p.D7.length then some (Sl.sub p.D7 k (k + 1)) else none):=rfl
  rw [this,Nat.ble_eq_true_of_le (Nat.le_succ k),Nat.ble_eq_true_of_le hk]
  simp only [Bool.and_self,cond_true,Sl.sub]
  congr 1
  rw [List.drop_take,Nat.add_sub_cancel_left,List.drop_eq_getElem_cons hk]
  rfl
 have hc1 : A2d [p.D7[k]] = some (V7 p.D7[k]):=by
  rw [A4T ⟨by rw [mx]; simp,fun t ht=>by simp at ht; subst ht; exact h.2 _ hm⟩ (C9j h0)]
  simp [A0N]
 refine ⟨V7 p.D7[k] - 1,?_,?_⟩
 ·rw [e',M4 (by omega)]
  simp only [Option.bind_some,hsb,hc1]
  rw [A2j (by omega) (by omega)]
  rfl
 ·rw [e']
  simp only [K9 hx,Option.bind_some,B5g]
  rw [A2j (by omega) (by omega)]
  rfl
theorem D0O (b c : Bool) : ∃ r : Int,(bif b then some 42 else bif c then some 42 else some 0) = some r∧(bif b then some 42 else bif c then some 42 else some 0) = some r:=by
 cases b <;> cases c <;> exact ⟨_,rfl,rfl⟩
def KM : List (Int×I5):=(A8X).getD []
theorem C4S : A8X = some KM:=rfl
theorem C7d {m : List (Int×I5)} {k : Int} (h : ∀ x ∈ m,k ≠ x.1) : A4k m k = none:=by
 induction m with
 | nil=>rfl
 | cons x m ih=>
  obtain ⟨a,b⟩:=x
  simp only [A4k]
  rw [decide_eq_false (h (a,b) (List.mem_cons_self ..)),cond_false]
  exact ih (fun y hy=>h y (List.mem_cons_of_mem _ hy))
def zK : I5:=I5.mk (⟨#[]⟩ : ByteArray) (0 : Int) false (0 : Int) false (0 : Int) false (0 : Nat)
theorem C9I : KM.all (fun x=>decide (1≤x.1) && decide (x.1≤18)) = true:=rfl
theorem D0J {k : Int} (h : k < 1∨18 < k) : lkM KM k zK = some (zK,false):=by
 unfold lkM
 rw [C7d (fun x hx e=>by
  have:=List.all_eq_true.1 C9I x hx
  simp only [Bool.and_eq_true,decide_eq_true_eq] at this
  omega)]
theorem C9p {k : Int} (h : k < 1∨18 < k) (h0 : 0≤k) (h1 : k≤255) : A3R k = some ⟨#[]⟩:=by
 rcases h with h | h
 ·have : k = 0:=by omega
  subst this
  rfl
 ·have hr : A1p .i64 k = some k:=by
   unfold A1p
   have hw : IntKind.i64.wrap k = k:=Go.Sl.wrap_i64 ⟨by omega,by omega⟩
   rw [decide_eq_true hw,cond_true]
  unfold A3R
  rw [hr]
  simp only [Option.bind_some,List.length_cons,List.length_nil]
  rw [decide_eq_true (by omega),cond_true]
theorem D2E : lkM KM (1 : Int) zK = some ((I5.mk (⟨#[97,112,97,114,116]⟩ : ByteArray) (103 : Int) true (0 : Int) true (0 : Int) false (152 : Nat)),true):=rfl
theorem D2z : lkM KM (2 : Int) zK = some ((I5.mk (⟨#[98,101,115,105,100,101]⟩ : ByteArray) (103 : Int) true (0 : Int) false (0 : Int) false (153 : Nat)),true):=rfl
theorem D2P : lkM KM (3 : Int) zK = some ((I5.mk (⟨#[97,99,114,111,115,115]⟩ : ByteArray) (103 : Int) true (0 : Int) false (0 : Int) false (154 : Nat)),true):=rfl
theorem D2F : lkM KM (4 : Int) zK = some ((I5.mk (⟨#[110,101,97,114]⟩ : ByteArray) (103 : Int) true (0 : Int) true (1 : Int) false (155 : Nat)),true):=rfl
theorem D2G : lkM KM (5 : Int) zK = some ((I5.mk (⟨#[116,111,103,101,116,104,101,114]⟩ : ByteArray) (103 : Int) true (0 : Int) false (0 : Int) false (156 : Nat)),true):=rfl
theorem D2O : lkM KM (6 : Int) zK = some ((I5.mk (⟨#[97,116]⟩ : ByteArray) (103 : Int) false (116 : Int) false (0 : Int) false (157 : Nat)),true):=rfl
theorem D2M : lkM KM (7 : Int) zK = some ((I5.mk (⟨#[115,101,97,116]⟩ : ByteArray) (103 : Int) false (116 : Int) true (0 : Int) true (158 : Nat)),true):=rfl
theorem D2B : lkM KM (8 : Int) zK = some ((I5.mk (⟨#[97,108,116,101,114,110,97,116,101]⟩ : ByteArray) (0 : Int) false (101 : Int) false (0 : Int) false (159 : Nat)),true):=rfl
theorem D2V : lkM KM (9 : Int) zK = some ((I5.mk (⟨#[104,111,115,116]⟩ : ByteArray) (0 : Int) false (101 : Int) false (0 : Int) false (160 : Nat)),true):=rfl
theorem D1G : lkM KM (10 : Int) zK = some ((I5.mk (⟨#[114,101,97,99,104]⟩ : ByteArray) (101 : Int) false (0 : Int) false (0 : Int) false (161 : Nat)),true):=rfl
theorem D1R : lkM KM (11 : Int) zK = some ((I5.mk (⟨#[115,112,101,97,107]⟩ : ByteArray) (0 : Int) false (101 : Int) false (0 : Int) false (162 : Nat)),true):=rfl
theorem D2g : lkM KM (12 : Int) zK = some ((I5.mk (⟨#[112,101,97,99,101]⟩ : ByteArray) (0 : Int) false (101 : Int) false (0 : Int) false (163 : Nat)),true):=rfl
theorem D2m : lkM KM (13 : Int) zK = some ((I5.mk (⟨#[99,111,109,112,97,110,121]⟩ : ByteArray) (0 : Int) false (101 : Int) false (0 : Int) false (164 : Nat)),true):=rfl
theorem D2l : lkM KM (14 : Int) zK = some ((I5.mk (⟨#[104,111,110,111,117,114]⟩ : ByteArray) (0 : Int) false (101 : Int) false (0 : Int) false (165 : Nat)),true):=rfl
theorem D1I : lkM KM (15 : Int) zK = some ((I5.mk (⟨#[102,105,108,108]⟩ : ByteArray) (0 : Int) false (101 : Int) true (0 : Int) false (166 : Nat)),true):=rfl
theorem D1V : lkM KM (16 : Int) zK = some ((I5.mk (⟨#[108,105,109,105,116]⟩ : ByteArray) (0 : Int) false (101 : Int) true (0 : Int) false (167 : Nat)),true):=rfl
theorem D2j : lkM KM (17 : Int) zK = some ((I5.mk (⟨#[107,105,116,99,104,101,110]⟩ : ByteArray) (100 : Int) false (116 : Int) false (0 : Int) false (168 : Nat)),true):=rfl
theorem D1v : lkM KM (18 : Int) zK = some ((I5.mk (⟨#[109,105,120]⟩ : ByteArray) (0 : Int) false (101 : Int) false (0 : Int) false (169 : Nat)),true):=rfl
theorem C5e {p : A9} (h : C4a p.D7) (hc : (A9W p.D7).2 = 0) (hg : p.A8.length≤maxLen) {r : F6} (hr : OkU r) :
  ∃ K ok,lkM KM r.H8 zK = some (K,ok)∧∃ c,B1n K p r = some c∧A1T p r = some c:=by
 obtain ⟨k,w,a,b,t,n⟩:=r
 obtain ⟨⟨k0,k1⟩,ha⟩:=hr
 simp only at k0 k1 ha
 by_cases ho : k < 1∨18 < k
 ·refine ⟨zK,false,D0J ho,40,rfl,?_⟩
  unfold A1T
  rw [show A3R (F6.mk k w a b t n).H8 = some ⟨#[]⟩ from C9p ho k0 k1]
  rfl
 have fe:=D0f h hc t
 have te : A4X p.D7 t = some (A6g p t):=B0x h.1 t
 have we : ∀ n,A3B p n = some (A9c p n):=fun n=>C4Y hg n
 have ae : ∀ n,A3w p.A8 n = some (A9c p n):=fun n=>A5r hg n
 have ne:=C3m ha
 have ke:=B8p ha
 rcases (show k = 1∨k = 2∨k = 3∨k = 4∨k = 5∨k = 6∨k = 7∨k = 8∨k = 9∨k = 10∨k = 11∨k = 12∨k = 13∨k = 14∨k = 15∨k = 16∨k = 17∨k = 18 by omega) with rfl | rfl | rfl | rfl | rfl | rfl | rfl | rfl | rfl | rfl | rfl | rfl | rfl | rfl | rfl | rfl | rfl | rfl
 all_goals first | refine ⟨_,_,D2E,?_⟩ | refine ⟨_,_,D2z,?_⟩ | refine ⟨_,_,D2P,?_⟩ | refine ⟨_,_,D2F,?_⟩ | refine ⟨_,_,D2G,?_⟩ | refine ⟨_,_,D2O,?_⟩ | refine ⟨_,_,D2M,?_⟩ | refine ⟨_,_,D2B,?_⟩ | refine ⟨_,_,D2V,?_⟩ | refine ⟨_,_,D1G,?_⟩ | refine ⟨_,_,D1R,?_⟩ | refine ⟨_,_,D2g,?_⟩ | refine ⟨_,_,D2m,?_⟩ | refine ⟨_,_,D2l,?_⟩ | refine ⟨_,_,D1I,?_⟩ | refine ⟨_,_,D1V,?_⟩ | refine ⟨_,_,D2j,?_⟩ | refine ⟨_,_,D1v,?_⟩
 all_goals unfold B1n A1T
 all_goals by_cases hT : A6g p t < 0
 all_goals first | have hd : decide (A6g p t < 0) = true:=decide_eq_true hT | (have hd : decide (A6g p t < 0) = false:=decide_eq_false hT; obtain ⟨m,s1,s2⟩:=D0R h hc (n:=t) (by omega))
 all_goals first | simp only [B1F,A9M,B0h,B0a,B0j,B0k,A9R,A5T,A4h,A2f,A1n,A1r,A0R,A8P,A2e,P7,W9,U8,U1,U0,fe,te,we,ae,ne,ke,hd,cond_false,cond_true,decide_true,Option.bind_some,s1,s2] | simp only [B1F,A9M,B0h,B0a,B0j,B0k,A9R,A5T,A4h,A2f,A1n,A1r,A0R,A8P,A2e,P7,W9,U8,U1,U0,fe,te,we,ae,ne,ke,hd,cond_false,cond_true,decide_true,Option.bind_some]
 all_goals (generalize decide (w < 0) = x1; generalize decide (1000 < w) = x2; generalize decide (a = (⟨#[]⟩ : ByteArray)) = x3; generalize decide (b = (⟨#[]⟩ : ByteArray)) = x4; generalize decide (t = (⟨#[]⟩ : ByteArray)) = x5; generalize decide (n = 0) = x6; generalize decide (A9c p a < 0) = x7; generalize decide (A9c p b < 0) = x8; generalize A3o a = x9; generalize decide (a = b) = x10)
 all_goals (cases x1 <;> cases x2 <;> first | exact ⟨_,rfl,rfl⟩ | (cases x4 <;> first | exact ⟨_,rfl,rfl⟩ | (cases x5 <;> first | exact ⟨_,rfl,rfl⟩ | (cases x6 <;> first | exact ⟨_,rfl,rfl⟩ | (cases x3 <;> first | exact ⟨_,rfl,rfl⟩ | (cases x7 <;> first | exact ⟨_,rfl,rfl⟩ | (cases x8 <;> first | exact ⟨_,rfl,rfl⟩ | (cases x9 <;> first | exact ⟨_,rfl,rfl⟩ | (cases x10 <;> first | exact ⟨_,rfl,rfl⟩ | (first | exact D0O (decide (n < 0)) (decide (24 < n)) | exact D0O (decide (n < 1)) (decide (24 < n)) | exact D0O (decide (n < 0)) (decide (_ < n))))))))))))
end Go.Pl
namespace Go.Pl
open Go Go.Sl Go.Dm
def A4F (c : Int) : Bool:=decide (0≤c) && decide (c < 64)
def B8b (p : A9) : Int×Int:=
 if (A9W p.D7).2 ≠ 0 then A9W p.D7
 else if (B2f (R4.mk p.A8 p.I8)).2 ≠ 0 then B2f (R4.mk p.A8 p.I8)
 else if p.I6.length ≠ 0∧p.I6.length ≠ p.A8.length then (0,44)
 else if p.I6.all A4F = false then (0,44)
 else if A0N p.D7 < p.A8.length then (0,45) else (0,0)
structure OkP (p : A9) : Prop where
 ts : C4a p.D7
 r : OkR (R4.mk p.A8 p.I8)
 cl : p.I6.length≤maxLen
 ru : p.J3.length≤maxLen
 u : ∀ r ∈ p.J3,OkU r
theorem D2e {p : A9} (h : p.I6.length≤maxLen) : iter (A4L p) FUEL (0 : Int) = some (if p.I6.all A4F then .inl () else .inr (0,44)):=by
 rw [mx] at h
 rw [A0P p.I6 (fun i c=>if A4F c then none else some (.inr (0,44))) (.inl ()) (fuel h),C0t (ρ:=Unit⊕(Int×Int)) (fun i c=>if A4F c then none else some (.inr (0,44))) A4F (.inr (0,44)) (.inl ()) (fun i x=>rfl)]
 ·intro i c hx
  have hi:=P8 hx
  simp only [A4L,K9 hx,Option.bind_some,Bool.cond_decide]
  rw [if_pos (by omega),M4 (by omega)]
  by_cases h1 : c < 0
  ·have : A4F c = false:=by simp [A4F]; omega
   simp [h1,this]
  ·by_cases h2 : 64≤c
   ·have : A4F c = false:=by simp [A4F]; omega
    simp [h1,h2,this]
   ·have : A4F c = true:=by simp [A4F]; omega
    simp [h1,h2,this]
 ·simp [A4L]
theorem C1I {p : A9} (h : OkP p) : B1m p = some (B8b p):=by
 simp only [B1m,B0M h.ts,Option.bind_some,B8b]
 by_cases hh : (A9W p.D7).2 = 0
 ·have hr:=B5T h.r
  simp only [hh,hr,Option.bind_some]
  by_cases h2 : (B2f (R4.mk p.A8 p.I8)).2 = 0
  ·simp only [h2,B4J,D2e h.cl,A4T h.ts hh,Option.bind_some]
   by_cases c0 : p.I6.length = 0
   ·have hn : ¬ (0 : Int) < (p.I6.length : Int):=by omega
    cases p.I6.all A4F
    ·simp [hn,c0]
    ·by_cases c3 : A0N p.D7 < p.A8.length <;> simp [hn,c0,c3]
   ·have hn : (0 : Int) < (p.I6.length : Int):=by omega
    have hn' : 0 < p.I6.length:=by omega
    by_cases c1 : p.I6.length = p.A8.length
    ·have c1' : (p.I6.length : Int) = (p.A8.length : Int):=by omega
     cases p.I6.all A4F
     ·simp [hn,c0,c1,c1']
     ·by_cases c3 : A0N p.D7 < p.A8.length <;> simp [hn,c0,c1,c1',c3]
    ·have c1' : ¬ (p.I6.length : Int) = (p.A8.length : Int):=by omega
     simp [hn,hn',c0,c1,c1']
  ·simp [h2]
 ·simp [hh]
theorem B4o {p : A9} (h : (B8b p).2 = 0) : (A9W p.D7).2 = 0:=by
 unfold B8b at h
 by_cases hh : (A9W p.D7).2 = 0
 ·exact hh
 ·rw [if_pos hh] at h; exact absurd h hh
def rCk (p : A9) (r : F6) : Int:=(A1T p r).getD 0
def B7P (p : A9) (i : Nat) (r : F6) : Option (Int×Int):=if rCk p r ≠ 0 then some ((i : Int),rCk p r) else if i = 64 then some ((i : Int),7) else none
def C5i (p : A9) : Int×Int:=if (B8b p).2 ≠ 0 then B8b p else (Y4 (B7P p) 0 p.J3).getD (0,0)
theorem C9W {p : A9} (h : OkP p) (hb : (B8b p).2 = 0) : iter (A4D p KM) FUEL (0 : Int) = some (toE (Y4 (B7P p) 0 p.J3)):=by
 have hl:=h.ru
 rw [mx] at hl
 refine C0y p.J3 (B7P p) h.ru (fun i r hx=>?_) (by simp [A4D])
 have hi:=P8 hx
 obtain ⟨K,ok,lk,c,k1,k2⟩:=C5e h.ts (B4o hb) h.r.gs (h.u r (A2h hx))
 have hc : rCk p r = c:=by unfold rCk; rw [k2]; rfl
 have lk' : lkM KM r.H8 (I5.mk (⟨#[]⟩ : ByteArray) (0 : Int) false (0 : Int) false (0 : Int) false (0 : Nat)) = some (K,ok):=lk
 simp only [A4D,K9 hx,lk',k1,Option.bind_some]
 rw [D1X (decide_eq_true (show (i : Int) < (p.J3.length : Int) by omega)),M4 (by omega)]
 unfold B7P
 rw [hc]
 have e64 : ((i : Int) = 64)↔i = 64:=by omega
 by_cases h0 : c = 0
 ·by_cases h64 : i = 64
  ·subst h64; simp [h0]
  ·simp [h0,e64,h64]
 ·simp [h0]
theorem B5j {p : A9} (h : OkP p) : A5k p = some (C5i p):=by
 simp only [A5k,C1I h,C4S,Option.bind_some,C5i]
 by_cases hb : (B8b p).2 = 0
 ·simp only [hb,C9W h hb,Option.bind_some]
  cases Y4 (B7P p) 0 p.J3 <;> rfl
 ·simp [hb]
end Go.Pl
namespace Go.Pl
open Go Go.Sl Go.Dm
structure OkH (l : List C8) : Prop where
 ok : C4a l
 v : (A9W l).2 = 0
theorem OkH.len {l : List C8} (h : OkH l) : l.length≤16:=(B9o h.v).1
theorem OkH.t {l : List C8} (h : OkH l) {t : C8} (ht : t ∈ l) : A5l t = 0:=(B9o h.v).2 t ht
theorem OkH.valid {l : List C8} (h : OkH l) : A4g l = some true:=by rw [A7j h.ok,h.v]; rfl
def whR : List C8→Int→Nat→Option (Nat×Int)
 | [],_,_=>none
 | t::l,s,i=>if s < V7 t then some (i,s) else whR l (s - V7 t) (i + 1)
def whO : Option (Nat×Int)→Int×Int×Bool
 | some (i,k)=>((i : Int),k,true)
 | none=>(0,0,false)
theorem C5L {l : List C8} (hl : l.length≤16) {s : Int} (h0 : 0≤s) (h1 : s≤maxLen) :
  iter (A3F l) FUEL (s,(0 : Int)) = some (match whR l s 0 with | some (i,k)=>.inr ((i : Int),k,true) | none=>.inl ()):=by
 rw [mx] at h1
 have key : ∀ (m : Nat) (s : Int) (k n : Nat),l.length - k = m→k≤l.length→0≤s→s≤9223372036854775807→l.length - k < n→
   iter (A3F l) n (s,(k : Int)) = some (match whR (l.drop k) s k with | some (i,k)=>.inr ((i : Int),k,true) | none=>.inl ()):=by
  intro m
  induction m with
  | zero=>
   intro s k n hm hk hs hs' hn
   obtain ⟨n,rfl⟩ : ∃ n',n = n' + 1:=⟨n - 1,by omega⟩
   have : k = l.length:=by omega
   subst this
   simp [iter,A3F,whR]
  | succ m ih=>
   intro s k n hm hk hs hs' hn
   obtain ⟨n,rfl⟩ : ∃ n',n = n' + 1:=⟨n - 1,by omega⟩
   have hlt : k < l.length:=by omega
   have hx:=List.getElem?_eq_getElem hlt
   have hb:=A1L l[k]
   rw [List.drop_eq_getElem_cons hlt]
   simp only [iter,A3F,K9 hx,A5Q,Option.bind_some,Bool.cond_decide,whR]
   rw [if_pos (by omega)]
   by_cases hc : s < V7 l[k]
   ·simp [hc]
   ·rw [if_neg hc,if_neg hc,A2j (by omega) (by omega),M4 (by omega)]
    simp only [Option.bind_some]
    exact ih (s - V7 l[k]) (k + 1) n (by omega) (by omega) (by omega) (by omega) (by omega)
 have:=key l.length s 0 FUEL (by omega) (by omega) h0 h1 (fuel (by omega))
 simpa using this
theorem C8M {l : List C8} (h : OkH l) {s : Int} (h1 : s≤maxLen) : A2C l s = some (whO (if s < 0 then none else whR l s 0)):=by
 simp only [A2C,h.valid,Option.bind_some,Bool.cond_decide]
 by_cases h0 : s < 0
 ·simp [h0,whO]
 ·simp only [h0,if_false,Option.bind_some,Bool.not_true,cond_false,C5L h.len (by omega : 0≤s) h1]
  cases whR l s 0 with
  | none=>rfl
  | some p=>rfl
theorem C4p : ∀ (l : List C8) (s : Int) (i : Nat) {j : Nat} {k : Int},0≤s→whR l s i = some (j,k)→∃ t,l[j - i]? = some t∧i≤j∧0≤k∧k < V7 t∧s = A0N (l.take (j - i)) + k
 | [],_,_,_,_,_,h=>by cases h
 | x::l,s,i,j,k,h0,h=>by
  simp only [whR] at h
  split at h
  ·rename_i hc
   cases h
   exact ⟨x,by simp,Nat.le_refl _,h0,hc,by simp [A0N]⟩
  ·rename_i hc
   obtain ⟨t,h1,h2,h3,h4,h5⟩:=C4p l (s - V7 x) (i + 1) (by omega) h
   refine ⟨t,?_,by omega,h3,h4,?_⟩
   ·rw [show j - i = (j - (i + 1)) + 1 by omega]; exact h1
   ·rw [show j - i = (j - (i + 1)) + 1 by omega]
    simp only [A0N,List.take_succ_cons,List.map_cons,List.sum_cons] at h5 ⊢
    omega
end Go.Pl
namespace Go.Pl
open Go Go.Sl Go.Dm
theorem A9d {x : Int} (h : -1000000000≤x) (h' : x≤1000000000) : N7 x = some x:=A2j (by omega) (by omega)
theorem B4m {b c : Int} (h : 0≤b) (h' : b≤1000000000) (hc : 0 < c) : A4V b c = some (b / c):=by
 obtain ⟨m,rfl⟩:=Int.eq_ofNat_of_zero_le h
 obtain ⟨n,rfl⟩:=Int.eq_ofNat_of_zero_le (Int.le_of_lt hc)
 obtain ⟨n,rfl⟩ : ∃ k,n = k + 1:=⟨n - 1,by omega⟩
 unfold A4V
 have : Nat.ble m 9223372036854775807 = true:=Nat.ble_eq_true_of_le (by omega)
 simp only [this,cond_true]
 rfl
theorem C3I {b c : Int} (h : 0≤b) (hc : 0 < c) : Y7 b c = some (b % c):=by
 obtain ⟨m,rfl⟩:=Int.eq_ofNat_of_zero_le h
 obtain ⟨n,rfl⟩:=Int.eq_ofNat_of_zero_le (Int.le_of_lt hc)
 obtain ⟨n,rfl⟩ : ∃ k,n = k + 1:=⟨n - 1,by omega⟩
 rfl
theorem shapes {t : C8} (h : V7 t ≠ 0) : (t.O6 = 1∧1≤t.fA∧t.fA≤24∧t.fB = 0)∨(t.O6 = 2∧1≤t.fA∧t.fA≤11∧0≤t.fB∧t.fB≤2)∨(t.O6 = 3∧1≤t.fA∧t.fA≤8∧1≤t.fB∧t.fB≤8)∨(t.O6 = 4∧1≤t.fA∧t.fA≤24∧0≤t.fB∧t.fB≤t.fA):=by
 unfold V7 at h
 split at h
 ·split at h
  ·exact absurd rfl h
  ·left; omega
 ·split at h
  ·split at h
   ·exact absurd rfl h
   ·right; left; omega
  ·split at h
   ·split at h
    ·exact absurd rfl h
    ·right; right; left; omega
   ·split at h
    ·split at h
     ·exact absurd rfl h
     ·right; right; right; omega
    ·exact absurd rfl h
theorem D0z {s : Int} (hs : s = 1) : A0n s = some (A1E.mk (⟨#[114,111,117,110,100]⟩ : ByteArray) A3r A2U A2R B8d A7L,true):=by subst hs; rfl
theorem D0c {s : Int} (hs : s = 2) : A0n s = some (A1E.mk (⟨#[108,111,110,103]⟩ : ByteArray) A3Y A3C A3s A3t A8s,true):=by subst hs; rfl
theorem D1l {s : Int} (hs : s = 3) : A0n s = some (A1E.mk (⟨#[104,111,114,115,101,115,104,111,101]⟩ : ByteArray) A4b A3x A3A B4h A8v,true):=by subst hs; rfl
theorem D0H {s : Int} (hs : s = 4) : A0n s = some (A1E.mk (⟨#[114,111,119]⟩ : ByteArray) A4S A4c B7w B4q B0r,true):=by subst hs; rfl
theorem B2U {α : Type} {b : Bool} {x y : Option α} (h : b = true→∃ z,x = some z) (k : b = false→∃ z,y = some z) : ∃ z,(bif b then x else y) = some z:=by
 cases b
 ·exact k rfl
 ·exact h rfl
theorem B5I {α : Type} {p : Prop} [Decidable p] {x y : Option α} (h : p→∃ z,x = some z) (k : ¬ p→∃ z,y = some z) : ∃ z,(bif decide p then x else y) = some z:=by
 by_cases hp : p
 ·simp only [hp,decide_true,cond_true]; exact h hp
 ·simp only [hp,decide_false,cond_false]; exact k hp
theorem A3j {α : Type} {p : Prop} [Decidable p] {x y : Option α} (h : ¬ p→∃ z,x = some z) (k : p→∃ z,y = some z) : ∃ z,(bif !decide p then x else y) = some z:=by
 by_cases hp : p
 ·simp only [hp,decide_true,Bool.not_true,cond_false]; exact k hp
 ·simp only [hp,decide_false,Bool.not_false,cond_true]; exact h hp
theorem A4p {α β : Type} {x : Option α} {f : α→Option β} (h : ∃ a,x = some a∧∃ z,f a = some z) : ∃ z,Option.bind x f = some z:=by
 obtain ⟨a,e,z,k⟩:=h
 exact ⟨z,by rw [e]; exact k⟩
theorem B6f {β : Type} {x : Int} {f : Int→Option β} (h : -1000000000≤x) (h' : x≤1000000000) (k : ∃ z,f x = some z) : ∃ z,Option.bind (N7 x) f = some z:=A4p ⟨x,A9d h h',k⟩
theorem B5U {β : Type} {b c : Int} {f : Int→Option β} (h : 0≤b) (h' : b≤1000000000) (hc : 0 < c) (k : ∃ z,f (b / c) = some z) : ∃ z,Option.bind (A4V b c) f = some z:=A4p ⟨_,B4m h h' hc,k⟩
theorem B5K {β : Type} {b c : Int} {f : Int→Option β} (h : 0≤b) (hc : 0 < c) (k : ∃ z,f (b % c) = some z) : ∃ z,Option.bind (Y7 b c) f = some z:=A4p ⟨_,C3I h hc,k⟩
theorem A4x {α β : Type} {x : Option α} {f : α→Option β} (h : ∃ a,x = some a) (k : ∀ a,∃ z,f a = some z) : ∃ z,Option.bind x f = some z:=by
 obtain ⟨a,e⟩:=h
 exact A4p ⟨a,e,k a⟩
theorem C9m {a b : Int} (h : 0≤a) (h' : a≤24) (k : 0≤b) (k' : b≤24) : ∃ z,B0H a b = some z∧0≤z∧z≤25:=⟨a + min b 1,by simp (disch:=omega) only [B0H,A9d,Option.bind_some],by omega,by omega⟩
theorem C0L {a b m M : Int} (h1 : 1≤a) (h2 : a≤24) (hm : 0≤m) (hM : M < 24) (hmM : m≤M) : ∃ z,A2U a b m M = some z:=by
 unfold A2U
 repeat' (first | exact ⟨_,rfl⟩ | refine B6f (by omega) (by omega) ?_ | refine B5U (by omega) (by omega) (by omega) ?_ | refine B5K (by omega) (by omega) ?_ | refine B5I (fun _=>?_) (fun _=>?_) | refine A3j (fun _=>?_) (fun _=>?_) | refine B2U (fun _=>?_) (fun _=>?_) | refine A4x ?_ (fun _=>?_))
theorem C2m {a b m M : Int} (h1 : 1≤a) (h2 : a≤24) (h3 : 0≤b) (h4 : b≤24) (hm : 0≤m) (hM : M < 24) (hmM : m≤M) : ∃ z,A3C a b m M = some z:=by
 obtain ⟨z,e,z0,z1⟩:=C9m (a:=a) (b:=b) (by omega) h2 h3 h4
 unfold A3C A8K
 refine A4p ⟨z,e,?_⟩
 repeat' (first | exact ⟨_,rfl⟩ | refine B6f (by omega) (by omega) ?_ | refine B5U (by omega) (by omega) (by omega) ?_ | refine B5K (by omega) (by omega) ?_ | refine B5I (fun _=>?_) (fun _=>?_) | refine A3j (fun _=>?_) (fun _=>?_) | refine B2U (fun _=>?_) (fun _=>?_) | refine A4x ?_ (fun _=>?_))
theorem C2o {a b m M : Int} (h1 : 1≤a) (h2 : a≤24) (hm : 0≤m) (hM : M < 24) (hmM : m≤M) : ∃ z,A3x a b m M = some z:=by
 unfold A3x
 repeat' (first | exact ⟨_,rfl⟩ | refine B6f (by omega) (by omega) ?_ | refine B5U (by omega) (by omega) (by omega) ?_ | refine B5K (by omega) (by omega) ?_ | refine B5I (fun _=>?_) (fun _=>?_) | refine A3j (fun _=>?_) (fun _=>?_) | refine B2U (fun _=>?_) (fun _=>?_) | refine A4x ?_ (fun _=>?_))
theorem C3e {a b m M : Int} (h1 : 1≤a) (h2 : a≤24) (h3 : 0≤b) (h4 : b≤24) (hm : 0≤m) (hM : M < 24) (hmM : m≤M) : ∃ z,A4c a b m M = some z:=by
 unfold A4c
 repeat' (first | exact ⟨_,rfl⟩ | refine B6f (by omega) (by omega) ?_ | refine B5U (by omega) (by omega) (by omega) ?_ | refine B5K (by omega) (by omega) ?_ | refine B5I (fun _=>?_) (fun _=>?_) | refine A3j (fun _=>?_) (fun _=>?_) | refine B2U (fun _=>?_) (fun _=>?_) | refine A4x ?_ (fun _=>?_))
theorem B9x {a b m M : Int} (h1 : 1≤a) (h2 : a≤24) (hm : 0≤m) (hM : M < 24) (hmM : m≤M) : ∃ z,A2R a b m M = some z:=by
 unfold A2R
 repeat' (first | exact ⟨_,rfl⟩ | refine B6f (by omega) (by omega) ?_ | refine B5U (by omega) (by omega) (by omega) ?_ | refine B5K (by omega) (by omega) ?_ | refine B5I (fun _=>?_) (fun _=>?_) | refine A3j (fun _=>?_) (fun _=>?_) | refine B2U (fun _=>?_) (fun _=>?_) | refine A4x ?_ (fun _=>?_))
theorem C1M {a b m M : Int} (h1 : 1≤a) (h2 : a≤24) (h3 : 0≤b) (h4 : b≤24) (hm : 0≤m) (hM : M < 24) (hmM : m≤M) : ∃ z,A3s a b m M = some z:=by
 obtain ⟨z,e,z0,z1⟩:=C9m (a:=a) (b:=b) (by omega) h2 h3 h4
 unfold A3s
 rw [e]
 simp only [Option.bind_some]
 repeat' (first | exact ⟨_,rfl⟩ | refine B6f (by omega) (by omega) ?_ | refine B5U (by omega) (by omega) (by omega) ?_ | refine B5K (by omega) (by omega) ?_ | refine B5I (fun _=>?_) (fun _=>?_) | refine A3j (fun _=>?_) (fun _=>?_) | refine B2U (fun _=>?_) (fun _=>?_) | refine A4x ?_ (fun _=>?_))
theorem C1w {a b m M : Int} (h1 : 1≤a) (h2 : a≤24) (h3 : 0≤b) (h4 : b≤24) (hm : 0≤m) (hM : M < 24) (hmM : m≤M) : ∃ z,A3A a b m M = some z:=by
 unfold A3A
 repeat' (first | exact ⟨_,rfl⟩ | refine B6f (by omega) (by omega) ?_ | refine B5U (by omega) (by omega) (by omega) ?_ | refine B5K (by omega) (by omega) ?_ | refine B5I (fun _=>?_) (fun _=>?_) | refine A3j (fun _=>?_) (fun _=>?_) | refine B2U (fun _=>?_) (fun _=>?_) | refine A4x ?_ (fun _=>?_))
theorem C2S {t : C8} (h : V7 t ≠ 0) {x y : Int} (hx : 0≤x) (hx' : x < 24) (hy : 0≤y) (hy' : y < 24) : ∃ b,A3O t x y = some b:=by
 have k1 : 0≤min x y:=by omega
 have k2 : max x y < 24:=by omega
 have k3 : min x y≤max x y:=by omega
 unfold A3O
 rcases shapes h with ⟨hs,h1,h2,h3⟩ | ⟨hs,h1,h2,h3,h4⟩ | ⟨hs,h1,h2,h3,h4⟩ | ⟨hs,h1,h2,h3,h4⟩
 ·refine A4p ⟨_,D0z hs,A3j (fun _=>A4x (C0L (b:=t.fB) h1 h2 k1 k2 k3) fun _=>⟨_,rfl⟩) (fun _=>⟨_,rfl⟩)⟩
 ·refine A4p ⟨_,D0c hs,A3j (fun _=>A4x (C2m h1 (by omega) h3 (by omega) k1 k2 k3) fun _=>⟨_,rfl⟩) (fun _=>⟨_,rfl⟩)⟩
 ·refine A4p ⟨_,D1l hs,A3j (fun _=>A4x (C2o (b:=t.fB) h1 (by omega) k1 k2 k3) fun _=>⟨_,rfl⟩) (fun _=>⟨_,rfl⟩)⟩
 ·refine A4p ⟨_,D0H hs,A3j (fun _=>A4x (C3e h1 h2 h3 (by omega) k1 k2 k3) fun _=>⟨_,rfl⟩) (fun _=>⟨_,rfl⟩)⟩
theorem C2F {t : C8} (h : V7 t ≠ 0) {x y : Int} (hx : 0≤x) (hx' : x < 24) (hy : 0≤y) (hy' : y < 24) : ∃ b,A4i t x y = some b:=by
 have k1 : 0≤min x y:=by omega
 have k2 : max x y < 24:=by omega
 have k3 : min x y≤max x y:=by omega
 unfold A4i
 rcases shapes h with ⟨hs,h1,h2,h3⟩ | ⟨hs,h1,h2,h3,h4⟩ | ⟨hs,h1,h2,h3,h4⟩ | ⟨hs,h1,h2,h3,h4⟩
 ·refine A4p ⟨_,D0z hs,A3j (fun _=>A4x (B9x (b:=t.fB) h1 h2 k1 k2 k3) fun _=>⟨_,rfl⟩) (fun _=>⟨_,rfl⟩)⟩
 ·refine A4p ⟨_,D0c hs,A3j (fun _=>A4x (C1M h1 (by omega) h3 (by omega) k1 k2 k3) fun _=>⟨_,rfl⟩) (fun _=>⟨_,rfl⟩)⟩
 ·refine A4p ⟨_,D1l hs,A3j (fun _=>A4x (C1w h1 (by omega) (by omega) (by omega) k1 k2 k3) fun _=>⟨_,rfl⟩) (fun _=>⟨_,rfl⟩)⟩
 ·refine A4p ⟨_,D0H hs,A3j (fun _=>⟨_,rfl⟩) (fun _=>⟨_,rfl⟩)⟩
theorem C9P {t : C8} (h : V7 t ≠ 0) {x y : Int} (hx : 0≤x) (hx' : x < 24) (hy : 0≤y) (hy' : y < 24) : ∃ b,B4n t x y = some b:=by
 unfold B4n
 refine A4x (C2S h hx hx' hy hy') fun b=>B2U (fun _=>⟨_,rfl⟩) fun _=>A4x (C2F h hx hx' hy hy') fun _=>⟨_,rfl⟩
theorem D1h {t : C8} (hs : t.O6 = 1) (h1 : 1≤t.fA) (h2 : t.fA≤24) (h3 : t.fB = 0) : V7 t = t.fA:=by
 unfold V7; rw [if_pos hs,if_neg (by omega)]
theorem C8E {t : C8} (hs : t.O6 = 2) (h1 : 1≤t.fA) (h2 : t.fA≤11) (h3 : 0≤t.fB) (h4 : t.fB≤2) : V7 t = 2 * t.fA + t.fB:=by
 unfold V7; rw [if_neg (by omega),if_pos hs,if_neg (by omega)]
theorem D0M {t : C8} (hs : t.O6 = 3) (h1 : 1≤t.fA) (h2 : t.fA≤8) (h3 : 1≤t.fB) (h4 : t.fB≤8) : V7 t = t.fA + 2 * t.fB:=by
 unfold V7; rw [if_neg (by omega),if_neg (by omega),if_pos hs,if_neg (by omega)]
theorem D1f {t : C8} (hs : t.O6 = 4) (h1 : 1≤t.fA) (h2 : t.fA≤24) (h3 : 0≤t.fB) (h4 : t.fB≤t.fA) : V7 t = t.fA:=by
 unfold V7; rw [if_neg (by omega),if_neg (by omega),if_neg (by omega),if_pos hs,if_neg (by omega)]
theorem C7g {t : C8} (h : V7 t ≠ 0) : ∃ lay k,A0n t.O6 = some (lay,true)∧lay.B9n t.fA t.fB = some k∧0≤k∧k < V7 t:=by
 rcases shapes h with ⟨hs,h1,h2,h3⟩ | ⟨hs,h1,h2,h3,h4⟩ | ⟨hs,h1,h2,h3,h4⟩ | ⟨hs,h1,h2,h3,h4⟩
 ·exact ⟨_,0,D0z hs,rfl,by omega,by rw [D1h hs h1 h2 h3]; omega⟩
 ·by_cases hb : 0 < t.fB
  ·exact ⟨_,t.fA,D0c hs,by simp only [A3t,hb,decide_true,cond_true],by omega,by rw [C8E hs h1 h2 h3 h4]; omega⟩
  ·exact ⟨_,t.fA / 2,D0c hs,by simp only [A3t,hb,decide_false,cond_false,B4m (show 0≤t.fA by omega) (show t.fA≤1000000000 by omega) (show (0 : Int) < 2 by omega),Option.bind_some],by omega,by rw [C8E hs h1 h2 h3 h4]; omega⟩
 ·exact ⟨_,t.fB + t.fA / 2,D1l hs,by simp only [B4h,B4m (show 0≤t.fA by omega) (show t.fA≤1000000000 by omega) (show (0 : Int) < 2 by omega),A9d (show -1000000000≤t.fB + t.fA / 2 by omega) (by omega),Option.bind_some],by omega,by rw [D0M hs h1 h2 h3 h4]; omega⟩
 ·exact ⟨_,t.fA / 2,D0H hs,by simp only [B4q,B4m (show 0≤t.fA by omega) (show t.fA≤1000000000 by omega) (show (0 : Int) < 2 by omega),Option.bind_some],by omega,by rw [D1f hs h1 h2 h3 h4]; omega⟩
end Go.Pl
namespace Go.Pl
open Go Go.Sl Go.Dm
def neg (l : List Int) : Nat:=l.countP (fun x=>decide (x < 0))
theorem C4F {α : Type} (x : α) (l : List α) : sbL (x::l) (1 : Int) ((x::l).length : Int) = some l:=by
 show (bif Nat.ble 1 (x::l).length && Nat.ble (x::l).length (x::l).length then some (sub (x::l) 1 (x::l).length) else none) = some l
 have h1 : Nat.ble 1 (x::l).length = true:=Nat.ble_eq_true_of_le (by simp)
 have h2 : Nat.ble (x::l).length (x::l).length = true:=Nat.ble_eq_true_of_le (Nat.le_refl _)
 rw [h1,h2]
 simp [sub]
theorem B3W {α : Type} {xs ys : List α} (h : xs.length + ys.length≤1000000000) : apL xs ys = some (xs ++ ys):=by
 unfold apL
 have : Nat.ble (xs.length + ys.length) 1073741824 = true:=Nat.ble_eq_true_of_le (by omega)
 rw [this]; rfl
theorem C6h {α : Type} {n : Int} {z : α} (h : 0≤n) (h' : n≤1000000) : mkL n z = some (List.replicate n.toNat z):=by
 obtain ⟨m,rfl⟩:=Int.eq_ofNat_of_zero_le h
 show (bif Nat.ble m 1073741824 then _ else _) = _
 have : Nat.ble m 1073741824 = true:=Nat.ble_eq_true_of_le (by omega)
 rw [this]; rfl
theorem C6L {l : List Int} {i : Nat} {x : Int} (h : l[i]? = some x) (hx : x < 0) {a : Int} (ha : 0≤a) : neg (l.set i a) + 1 = neg l:=by
 obtain ⟨hi,rfl⟩:=List.getElem?_eq_some_iff.1 h
 have hp : 0 < l.countP (fun x=>decide (x < 0)):=List.countP_pos_iff.2 ⟨l[i],List.getElem_mem hi,by simpa using hx⟩
 unfold neg
 rw [List.countP_set hi]
 have : ¬ a < 0:=by omega
 simp [hx,this]
 omega
theorem C9c (l : List Int) : neg l≤l.length:=List.countP_le_length
structure StI (n : Nat) (out queue : List Int) : Prop where
 len : out.length = n
 bd : ∀ x ∈ out,-1≤x∧x + neg out≤n
 q : ∀ k ∈ queue,0≤k∧k < n
theorem C4R {t : C8} (h : V7 t ≠ 0) {n : Nat} (hn : (n : Int) = V7 t) {out0 : List Int} (h0 : out0.length = n) {e : Int} (he : 0≤e∧e < n) (M : Nat) (hM : M≤100) :
  ∀ (out queue : List Int),StI n out queue→2 * neg out + queue.length≤M→∃ r,iter (A6X t out0 e) FUEL (out,(0 : Int),queue) = some r∧StI n r.1 r.2∧2 * neg r.1 + r.2.length≤M:=by
 intro out queue hI hm
 have hb:=A1L t
 refine X5 (fun s=>∃ k : Nat,s.2.1 = (k : Int)∧k≤n∧StI n s.1 s.2.2∧2 * neg s.1 + s.2.2.length≤M) (fun s=>n - s.2.1.toNat) _ ?_ FUEL _ ⟨0,rfl,by omega,hI,hm⟩ (fuel (by simp; omega))
 rintro ⟨out,i,queue⟩ ⟨k,hk,hkn,hI,hm⟩
 simp only at hk hm hI
 subst hk
 simp only [A6X,B4H,Bool.cond_decide]
 by_cases hlt : (k : Int) < (out0.length : Int)
 ·left
  have hk' : k < out.length:=by rw [hI.len]; omega
  have hx:=List.getElem?_eq_getElem hk'
  obtain ⟨b,hb'⟩:=C9P h he.1 (show e < 24 by omega) (show (0 : Int)≤(k : Int) by omega) (show (k : Int) < 24 by omega)
  rw [if_pos hlt]
  simp only [K9 hx,hb',M4 (show k < 9223372036854775807 by omega),Option.bind_some]
  have go : ∃ s',(some (Sum.inl (out,((k + 1 : Nat) : Int),queue)) : Option ((List Int×Int×List Int)⊕(List Int×List Int))) = some (Sum.inl s')∧(∃ k : Nat,s'.2.1 = (k : Int)∧k≤n∧StI n s'.1 s'.2.2∧2 * neg s'.1 + s'.2.2.length≤M)∧n - s'.2.1.toNat < n - (k : Int).toNat:=
   ⟨_,rfl,⟨k + 1,rfl,by omega,hI,hm⟩,by simp; omega⟩
  by_cases hneg : out[k] < 0
  ·simp only [hneg,if_true,Option.bind_some]
   cases b
   ·exact go
   ·simp only [cond_true]
    obtain ⟨e',rfl⟩:=Int.eq_ofNat_of_zero_le he.1
    have he' : e' < out.length:=by rw [hI.len]; omega
    have hxe:=List.getElem?_eq_getElem he'
    have hbe:=hI.bd _ (List.getElem_mem he')
    have hns:=C6L hx hneg (a:=out[e'] + 1) (by omega)
    have hle:=C9c out
    rw [K9 hxe]
    simp only [Option.bind_some,A9d (show -1000000000≤out[e'] + 1 by omega) (by omega),Int.toNat_natCast,B3W (show queue.length + [(k : Int)].length≤1000000000 by simp; omega)]
    refine ⟨_,rfl,⟨k + 1,rfl,by omega,⟨by simp [hI.len],fun x hx'=>?_,fun q hq=>?_⟩,by simp; omega⟩,by simp; omega⟩
    ·dsimp only at hx' ⊢
     rcases List.mem_or_eq_of_mem_set hx' with hx' | rfl
     ·have:=hI.bd x hx'; omega
     ·omega
    ·dsimp only at hq
     rcases List.mem_append.1 hq with hq | hq
     ·exact hI.q q hq
     ·rw [List.mem_singleton] at hq; subst hq; omega
  ·simp only [hneg,if_false,Option.bind_some,cond_false]
   exact go
 ·right
  rw [if_neg hlt]
  exact ⟨_,rfl,hI,hm⟩
theorem C9o {t : C8} (h : V7 t ≠ 0) {k : Int} (hk : 0≤k) (hk' : k < V7 t) : ∃ r,B1h t k = some r∧(r.length : Int) = V7 t∧∀ x ∈ r,-1≤x∧x≤24:=by
 have hb:=A1L t
 obtain ⟨n,hn⟩:=Int.eq_ofNat_of_zero_le hb.1
 simp only [B1h,A5Q,hn,Option.bind_some,C6h (show (0 : Int)≤(n : Int) by omega) (by omega)]
 have l0 : iter (A3D (List.replicate n (0 : Int))) FUEL ((0 : Int),List.replicate n (0 : Int)) = some (List.replicate n (-1 : Int)):=by
  have:=A8m (f:=A3D (List.replicate n (0 : Int))) (fun (a : List Int) (i : Nat)=>((i : Int),a)) (List.replicate n (0 : Int)) (fun a i x=>.inl (a.set i (-1))) (fun a=>a) (fun a i=>a.length = n) (a:=List.replicate n (0 : Int)) (by simp) (n:=FUEL) (fuel (by simp; omega))
   (fun a i x h hI=>by
    have hi:=P8 h
    have hI : a.length = n:=hI
    have hi' : i < n:=by simpa using hi
    have hx:=List.getElem?_eq_getElem (show i < a.length by omega)
    simp only [A3D,K9 hx,Option.bind_some,Bool.cond_decide,M4 (show i < 9223372036854775807 by omega),Int.toNat_natCast]
    rw [if_pos (by omega)]
    exact ⟨rfl,by simp [hI]⟩)
   (fun a _=>by simp [A3D])
  rw [show ((0 : Int),List.replicate n (0 : Int)) = (fun (a : List Int) (i : Nat)=>((i : Int),a)) (List.replicate n (0 : Int)) 0 from rfl,this]
  congr 1
  have key : ∀ (m : Nat) (a : List Int) (i : Nat),i + m = a.length→A6i (fun (a : List Int) (i : Nat) (x : Int)=>(Sum.inl (a.set i (-1)) : List Int⊕List Int)) (fun a=>a) a i (List.replicate m (0 : Int)) = a.take i ++ List.replicate m (-1):=by
   intro m
   induction m with
   | zero=>intro a i hi; simp [A6i,List.take_of_length_le (show a.length≤i by omega)]
   | succ m ih=>
    intro a i hi
    rw [List.replicate_succ]
    simp only [A6i]
    rw [ih _ (i + 1) (by simp; omega),List.take_add_one,List.take_set_of_le (Nat.le_refl _),List.getElem?_set_self (by omega)]
    simp [List.replicate_succ]
  rw [key n (List.replicate n 0) 0 (by simp)]
  simp
 simp only [Int.toNat_natCast,l0,Option.bind_some]
 obtain ⟨k,rfl⟩:=Int.eq_ofNat_of_zero_le hk
 have hx : (List.replicate n (-1 : Int))[k]? = some (-1):=by rw [List.getElem?_replicate]; simp; omega
 simp only [K9 hx,Option.bind_some,Int.toNat_natCast]
 have hns:=C6L hx (by omega) (a:=(0 : Int)) (by omega)
 have hle:=C9c (List.replicate n (-1 : Int))
 rw [List.length_replicate] at hle
 obtain ⟨r,hr,hI⟩:=X5 (f:=A6U t) (fun s=>StI n s.1 s.2∧2 * neg s.1 + s.2.length≤100) (fun s=>2 * neg s.1 + s.2.length) (fun r=>∃ q,StI n r q) (fun s hs=>by
  obtain ⟨out,queue⟩:=s
  obtain ⟨hI,hm⟩:=hs
  simp only [A6U,Bool.cond_decide]
  cases queue with
  | nil=>right; exact ⟨_,rfl,[],hI⟩
  | cons e queue=>
   left
   have he:=hI.q e (by simp)
   rw [if_pos (by simp only [List.length_cons]; omega)]
   obtain ⟨r,hr,h1,h2⟩:=C4R h hn.symm hI.len he (2 * neg out + queue.length) (by simp at hm; omega) out queue ⟨hI.len,hI.bd,fun k hk=>hI.q k (by simp [hk])⟩ (Nat.le_refl _)
   simp only [show J6 (e::queue) (0 : Int) = some e from rfl,Option.bind_some,C4F,hr]
   exact ⟨_,rfl,⟨h1,by simp at hm ⊢; omega⟩,by simp; omega⟩) FUEL ((List.replicate n (-1 : Int)).set k 0,[(k : Int)])
  ⟨⟨by simp,fun x hx=>by
   dsimp only at hx ⊢
   rcases List.mem_or_eq_of_mem_set hx with hx | rfl
   ·rw [List.mem_replicate] at hx; omega
   ·omega,fun q hq=>by rw [List.mem_singleton] at hq; subst hq; omega⟩,by dsimp only; simp; omega⟩ (fuel (by dsimp only; simp; omega))
 obtain ⟨q,hI⟩:=hI
 exact ⟨r,by rw [hr]; rfl,by rw [hI.len],fun x hx=>by have:=hI.bd x hx; omega⟩
end Go.Pl
namespace Go.Pl
open Go Go.Sl Go.Dm
theorem C7J {l : List Int} (hl : l.length≤maxLen) (v : Int) : A0Q l v = some (l.any fun y=>decide (v = y)):=by
 have : A7o l v = some (A0Z (fun y=>decide (v = y)) 0 l):=by
  unfold A7o
  refine A8n l _ hl (fun i x h=>?_) (by simp [A5Y])
  have hi:=P8 h
  rw [mx] at hl
  simp only [A5Y,K9 h,Option.bind_some,Bool.cond_decide]
  rw [if_pos (by omega),M4 (by omega)]
  by_cases hx : v = x <;> simp [hx]
 simp only [A0Q,this,Option.bind_some]
 congr 1
 have:=B0P (fun y=>decide (v = y)) l 0
 cases h : l.any fun y=>decide (v = y)
 ·rw [h] at this; simp at this; exact decide_eq_false (by omega)
 ·rw [h] at this; simp at this; exact decide_eq_true this
theorem containsS {l : List ByteArray} (hl : l.length≤maxLen) (v : ByteArray) : A6a l v = some (l.any fun y=>decide (v = y)):=by
 have : A9B l v = some (A0Z (fun y=>decide (v = y)) 0 l):=by
  unfold A9B
  refine A8n l _ hl (fun i x h=>?_) (by simp [A5Z])
  have hi:=P8 h
  rw [mx] at hl
  simp only [A5Z,K9 h,Option.bind_some,Bool.cond_decide]
  rw [if_pos (by omega),M4 (by omega)]
  by_cases hx : v = x <;> simp [hx]
 simp only [A6a,this,Option.bind_some]
 congr 1
 have:=B0P (fun y=>decide (v = y)) l 0
 cases h : l.any fun y=>decide (v = y)
 ·rw [h] at this; simp at this; exact decide_eq_false (by omega)
 ·rw [h] at this; simp at this; exact decide_eq_true this
theorem C7n {t : C8} (h : V7 t ≠ 0) : ∃ r,A9t t = some r∧(r.length : Int) = V7 t:=by
 obtain ⟨lay,k,e1,e2,h1,h2⟩:=C7g h
 obtain ⟨r,e3,hr,hb⟩:=C9o h h1 h2
 have hs:=A1L t
 simp only [A9t,e1,e2,e3,Option.bind_some]
 obtain ⟨q,hq,hl⟩:=X5 (f:=A5L r) (fun s=>s.1.length = r.length∧∃ k : Nat,s.2 = (k : Int)∧k≤r.length) (fun s=>r.length - s.2.toNat) (fun q=>q.length = r.length) (fun s hs'=>by
  obtain ⟨a,i⟩:=s
  obtain ⟨hl,k,rfl,hk⟩:=hs'
  simp only at hl hk
  simp only [A5L,Bool.cond_decide]
  by_cases hlt : (k : Int) < (r.length : Int)
  ·left
   have hx:=List.getElem?_eq_getElem (show k < a.length by omega)
   rw [if_pos hlt]
   simp only [K9 hx,Option.bind_some,M4 (show k < 9223372036854775807 by omega),Int.toNat_natCast]
   by_cases hn : a[k] < 0
   ·rw [if_pos hn]
    exact ⟨_,rfl,⟨by simpa using hl,k + 1,rfl,by omega⟩,by dsimp only; omega⟩
   ·rw [if_neg hn]
    exact ⟨_,rfl,⟨hl,k + 1,rfl,by omega⟩,by dsimp only; omega⟩
  ·right
   rw [if_neg hlt]
   exact ⟨_,rfl,hl⟩) FUEL (r,(0 : Int)) ⟨rfl,0,rfl,by omega⟩ (fuel (by dsimp only; omega))
 exact ⟨q,by rw [hq]; rfl,by rw [hl,hr]⟩
theorem B5E {l : List C8} (h : OkH l) : 0≤A0N l∧A0N l≤384:=by
 have:=A6M l
 have:=h.len
 omega
theorem B2v {l : List C8} (h : OkH l) {s : Int} (h1 : s≤1000000) : (A2C l s = some (0,0,false))∨∃ (i : Nat) (k : Int) (t : C8),A2C l s = some ((i : Int),k,true)∧l[i]? = some t∧0≤k∧k < V7 t∧s = A0N (l.take i) + k:=by
 rw [C8M h (by rw [mx]; omega)]
 by_cases h0 : s < 0
 ·left; rw [if_pos h0]; rfl
 ·rw [if_neg h0]
  cases hw : whR l s 0 with
  | none=>left; rfl
  | some p=>
   obtain ⟨i,k⟩:=p
   obtain ⟨t,ht,_,hk,hk',hs⟩:=C4p l s 0 (by omega) hw
   exact .inr ⟨i,k,t,rfl,by simpa using ht,hk,hk',by simpa using hs⟩
theorem C8g {l : List C8} (h : OkH l) {s : Int} (h1 : s≤1000000) : ∃ v,B1s l s = some v:=by
 unfold B1s
 rcases B2v h h1 with e | ⟨i,k,t,e,ht,hk,hk',_⟩
 ·rw [e]; exact ⟨_,rfl⟩
 ·obtain ⟨r,hr,hl⟩:=C7n (t:=t) (by omega)
  obtain ⟨k,rfl⟩:=Int.eq_ofNat_of_zero_le hk
  have hx:=List.getElem?_eq_getElem (show k < r.length by omega)
  rw [e]
  simp only [Option.bind_some,Bool.not_true,cond_false,K9 ht,hr,K9 hx]
  exact ⟨_,rfl⟩
theorem C9Y {l : List C8} (h : OkH l) {s : Int} (h1 : s≤1000000) : ∃ v,B4d l s = some v:=by
 unfold B4d
 rcases B2v h h1 with e | ⟨i,k,t,e,ht,hk,hk',_⟩
 ·rw [e]; exact ⟨_,rfl⟩
 ·rw [e]
  simp only [Option.bind_some,cond_true,K9 ht,C7J (h.ok.2 t (A2h ht)).2]
  exact ⟨_,rfl⟩
theorem C6K {l : List C8} (h : OkH l) {a b : Int} (h1 : a≤1000000) (h2 : b≤1000000) : (∃ z,A8l l a b = some (z,0,0,false))∨∃ t x y,A8l l a b = some (t,x,y,true)∧t ∈ l∧0≤x∧x < V7 t∧0≤y∧y < V7 t:=by
 unfold A8l
 rcases B2v h h1 with e | ⟨i,k,t,e,ht,hk,hk',_⟩
 ·rcases B2v h h2 with e' | ⟨i',k',t',e',ht',hj,hj',_⟩ <;> (rw [e,e']; exact .inl ⟨_,rfl⟩)
 ·rcases B2v h h2 with e' | ⟨i',k',t',e',ht',hj,hj',_⟩
  ·rw [e,e']; exact .inl ⟨_,rfl⟩
  ·rw [e,e']
   by_cases hi : (i : Int) = (i' : Int)
   ·have : i = i':=by omega
    subst this
    rw [ht] at ht'
    cases ht'
    right
    refine ⟨t,k,k',?_,A2h ht,hk,hk',hj,hj'⟩
    simp [K9 ht]
   ·left
    refine ⟨C8.mk (⟨#[]⟩ : ByteArray) (0 : Int) (0 : Int) (0 : Int) ([] : List Int) (0 : Int) (0 : Int),?_⟩
    simp only [Option.bind_some,Bool.not_true,cond_false,hi,decide_false,Bool.not_false,cond_true]
theorem C7c {l : List C8} (h : OkH l) {a b : Int} (h1 : a≤1000000) (h2 : b≤1000000) : ∃ z,A9D l a b = some z:=by
 unfold A9D
 rcases C6K h h1 h2 with ⟨z,e⟩ | ⟨t,x,y,e,ht,hx,hx',hy,hy'⟩
 ·rw [e]; exact ⟨_,rfl⟩
 ·have:=A1L t
  obtain ⟨z,hz⟩:=C2S (t:=t) (by omega) hx (by omega) hy (by omega)
  rw [e]
  simp only [Option.bind_some,cond_true,hz]
  exact ⟨_,rfl⟩
theorem C7k {l : List C8} (h : OkH l) {a b : Int} (h1 : a≤1000000) (h2 : b≤1000000) : ∃ z,A9k l a b = some z:=by
 unfold A9k
 rcases C6K h h1 h2 with ⟨z,e⟩ | ⟨t,x,y,e,ht,hx,hx',hy,hy'⟩
 ·rw [e]; exact ⟨_,rfl⟩
 ·have:=A1L t
  obtain ⟨z,hz⟩:=C2F (t:=t) (by omega) hx (by omega) hy (by omega)
  rw [e]
  simp only [Option.bind_some,cond_true,hz]
  exact ⟨_,rfl⟩
theorem C5d {f : Nat} {n : Nat} (hf : f≤1000) (hn : n≤1000) {so : Int→Option Bool} (h : ∀ k : Int,f≤k→k < f + n→∃ b,so k = some b) :
  ∃ r,A8t (f : Int) (n : Int) so = some r∧r.length≤n∧∀ x ∈ r,(f : Int)≤x∧x < f + n:=by
 obtain ⟨r,hr,hl⟩:=X5 (f:=A6R (f : Int) (n : Int) so) (fun s=>∃ k : Nat,s.2 = ((f + k : Nat) : Int)∧k≤n∧s.1.length≤k∧∀ x ∈ s.1,(f : Int)≤x∧x < f + n) (fun s=>f + n - s.2.toNat) (fun r=>r.length≤n∧∀ x ∈ r,(f : Int)≤x∧x < f + n) (fun s hs=>by
  obtain ⟨a,i⟩:=s
  obtain ⟨k,hk,hkn,hl,hx⟩:=hs
  simp only at hk hl hx
  subst hk
  simp only [A6R,A9d (show -1000000000≤(f : Int) + (n : Int) by omega) (by omega),Option.bind_some,Bool.cond_decide]
  by_cases hlt : ((f + k : Nat) : Int) < (f : Int) + (n : Int)
  ·left
   obtain ⟨b,hb⟩:=h ((f + k : Nat) : Int) (by omega) (by omega)
   rw [if_pos hlt,hb]
   simp only [Option.bind_some,M4 (show f + k < 9223372036854775807 by omega),A0t (show a.length≤1000 by omega)]
   cases b
   ·exact ⟨_,rfl,⟨k + 1,rfl,by omega,by dsimp only; omega,hx⟩,by dsimp only; omega⟩
   ·refine ⟨_,rfl,⟨k + 1,rfl,by omega,by simp; omega,fun x hx'=>?_⟩,by dsimp only; omega⟩
    rcases List.mem_append.1 hx' with hx' | hx'
    ·exact hx x hx'
    ·rw [List.mem_singleton] at hx'; subst hx'; omega
  ·right
   rw [if_neg hlt]
   exact ⟨_,rfl,by omega,hx⟩) FUEL (([] : List Int),(f : Int)) ⟨0,rfl,by omega,by simp,fun x hx=>by cases hx⟩ (fuel (by dsimp only; omega))
 exact ⟨r,by simp only [A8t,hr,Option.bind_some],hl⟩
end Go.Pl
namespace Go.Pl
open Go Go.Sl Go.Dm
structure TbI (T N k : Nat) (tb lv : List Int) (op : List Bool) (bs ac : List (List Int)) : Prop where
 tbl : tb.length = k
 lvl : lv.length = k
 opl : op.length = k
 bsl : bs.length = k
 acl : ac.length = k
 tbv : ∀ x ∈ tb,0≤x∧x < T
 bsv : ∀ r ∈ bs,r.length≤24∧∀ x ∈ r,0≤x∧x < N
 acv : ∀ r ∈ ac,r.length≤24∧∀ x ∈ r,0≤x∧x < N
theorem A5J {α : Type} {P : α→Prop} {l : List α} {y : α} (h : ∀ x ∈ l,P x) (hy : P y) : ∀ x ∈ l ++ [y],P x:=fun x hx=>by
 rcases List.mem_append.1 hx with hx | hx
 ·exact h x hx
 ·rw [List.mem_singleton] at hx; subst hx; exact hy
theorem C7o {p : A9} (h : OkH p.D7) {ti f n N : Nat} (hti : ti < p.D7.length) (hfn : f + n≤N) (hN : N≤384) (hn : n≤24) :
  ∀ (tb lv : List Int) (op : List Bool) (bs ac : List (List Int)),TbI p.D7.length N f tb lv op bs ac→
   ∃ r,iter (A9q p (ti : Int) (f : Int) (n : Int)) FUEL (tb,lv,op,bs,ac,(f : Int)) = some r∧TbI p.D7.length N (f + n) r.1 r.2.1 r.2.2.1 r.2.2.2.1 r.2.2.2.2:=by
 intro tb lv op bs ac hI
 refine X5 (fun s=>∃ k : Nat,s.2.2.2.2.2 = ((f + k : Nat) : Int)∧k≤n∧TbI p.D7.length N (f + k) s.1 s.2.1 s.2.2.1 s.2.2.2.1 s.2.2.2.2.1) (fun s=>f + n - s.2.2.2.2.2.toNat) _ ?_ FUEL _ ⟨0,rfl,by omega,hI⟩ (fuel (by dsimp only; omega))
 rintro ⟨tb,lv,op,bs,ac,i⟩ ⟨k,hk,hkn,hI⟩
 simp only at hk hI
 subst hk
 have h16:=h.len
 simp only [A9q,A9d (show -1000000000≤(f : Int) + (n : Int) by omega) (by omega),Option.bind_some,Bool.cond_decide]
 by_cases hlt : ((f + k : Nat) : Int) < (f : Int) + (n : Int)
 ·left
  obtain ⟨v1,e1⟩:=C8g h (s:=((f + k : Nat) : Int)) (by omega)
  obtain ⟨v2,e2⟩:=C9Y h (s:=((f + k : Nat) : Int)) (by omega)
  obtain ⟨v3,e3,l3,b3⟩:=C5d (f:=f) (n:=n) (by omega) (by omega) (so:=fun y0=>A8w y0 p ((f + k : Nat) : Int)) (fun q hq hq'=>by
   obtain ⟨z,hz⟩:=C7c h (a:=((f + k : Nat) : Int)) (b:=q) (by omega) (by omega)
   exact ⟨z,by simp only [A8w,hz,Option.bind_some]⟩)
  obtain ⟨v4,e4,l4,b4⟩:=C5d (f:=f) (n:=n) (by omega) (by omega) (so:=fun y0=>A8D y0 p ((f + k : Nat) : Int)) (fun q hq hq'=>by
   obtain ⟨z,hz⟩:=C7k h (a:=((f + k : Nat) : Int)) (b:=q) (by omega) (by omega)
   exact ⟨z,by simp only [A8D,hz,Option.bind_some]⟩)
  rw [if_pos hlt]
  simp only [B8r,e1,e2,e3,e4,A0t (show tb.length≤1000 by rw [hI.tbl]; omega),A0t (show lv.length≤1000 by rw [hI.lvl]; omega),A0t (show op.length≤1000 by rw [hI.opl]; omega),A0t (show bs.length≤1000 by rw [hI.bsl]; omega),A0t (show ac.length≤1000 by rw [hI.acl]; omega),Option.bind_some,M4 (show f + k < 9223372036854775807 by omega)]
  refine ⟨_,rfl,⟨k + 1,rfl,by omega,?_⟩,by dsimp only; omega⟩
  dsimp only
  exact ⟨by simp [hI.tbl]; omega,by simp [hI.lvl]; omega,by simp [hI.opl]; omega,by simp [hI.bsl]; omega,by simp [hI.acl]; omega,
   A5J hI.tbv ⟨by omega,by omega⟩,A5J hI.bsv ⟨by omega,fun x hx=>by have:=b3 x hx; omega⟩,A5J hI.acv ⟨by omega,fun x hx=>by have:=b4 x hx; omega⟩⟩
 ·right
  rw [if_neg hlt]
  have : k = n:=by omega
  subst this
  exact ⟨_,rfl,hI⟩
theorem C8e (t : C8) : A0N [t] = V7 t:=by simp [A0N]
theorem OkH.one {l : List C8} (h : OkH l) {t : C8} (ht : t ∈ l) : OkH [t]:=by
 refine ⟨⟨by rw [mx]; simp,fun x hx=>by rw [List.mem_singleton] at hx; subst hx; exact h.ok.2 x ht⟩,?_⟩
 have h0:=h.t ht
 simp [A9W,A1H,B6g,h0,C7U]
theorem OkH.first {l : List C8} (h : OkH l) {i : Nat} (hi : i < l.length) : A3i l (i : Int) = some (A0N (l.take i)):=by
 have h16:=h.len
 unfold A3i
 have h1 : decide ((i : Int) < 0) = false:=decide_eq_false (by omega)
 have h2 : decide ((l.length : Int)≤(i : Int)) = false:=decide_eq_false (by omega)
 simp only [h1,h2,cond_false,h.valid,Option.bind_some,Bool.not_true,B2E (Nat.le_of_lt hi),C0x (show (l.take i).length≤16 by simp; omega)]
theorem D0b {α : Type} {l : List α} {i : Nat} {x : α} (h : l[i]? = some x) : sbL l (i : Int) ((i + 1 : Nat) : Int) = some [x]:=by
 obtain ⟨hi,rfl⟩:=List.getElem?_eq_some_iff.1 h
 show (bif Nat.ble i (i + 1) && Nat.ble (i + 1) l.length then some (sub l i (i + 1)) else none) = some [l[i]]
 have h1 : Nat.ble i (i + 1) = true:=Nat.ble_eq_true_of_le (by omega)
 have h2 : Nat.ble (i + 1) l.length = true:=Nat.ble_eq_true_of_le hi
 rw [h1,h2]
 simp only [Bool.and_self,cond_true,sub]
 congr 1
 rw [List.take_add_one,List.drop_append,List.getElem?_eq_getElem hi]
 simp [Nat.min_eq_left (Nat.le_of_lt hi)]
theorem C4L (l : List C8) : ∀ i,A0N (l.take i)≤A0N l:=by
 intro i
 have : A0N l = A0N (l.take i) + A0N (l.drop i):=by
  conv=>lhs; rw [←List.take_append_drop i l]
  simp only [A0N,List.map_append,List.sum_append]
 have:=(A6M (l.drop i)).1
 omega
theorem C7F {p : A9} (h : OkH p.D7) {N : Nat} (hN : A0N p.D7 = (N : Int)) :
  ∃ r,iter (A9F p) FUEL (([] : List Int),([] : List Int),([] : List Bool),([] : List (List Int)),([] : List (List Int)),(0 : Int)) = some r∧TbI p.D7.length N N r.1 r.2.1 r.2.2.1 r.2.2.2.1 r.2.2.2.2:=by
 have h16:=h.len
 have hs:=B5E h
 refine X5 (fun s=>∃ k : Nat,s.2.2.2.2.2 = (k : Int)∧k≤p.D7.length∧∃ f : Nat,(f : Int) = A0N (p.D7.take k)∧TbI p.D7.length N f s.1 s.2.1 s.2.2.1 s.2.2.2.1 s.2.2.2.2.1) (fun s=>p.D7.length - s.2.2.2.2.2.toNat) _ ?_ FUEL _
  ⟨0,rfl,by omega,0,by simp [A0N],TbI.mk rfl rfl rfl rfl rfl (fun x hx=>by cases hx) (fun x hx=>by cases hx) (fun x hx=>by cases hx)⟩ (fuel (by dsimp only; omega))
 rintro ⟨tb,lv,op,bs,ac,i⟩ ⟨k,hk,hkn,f,hf,hI⟩
 simp only at hk hI
 subst hk
 simp only [A9F,Bool.cond_decide]
 by_cases hlt : (k : Int) < (p.D7.length : Int)
 ·left
  have hk' : k < p.D7.length:=by omega
  have hx:=List.getElem?_eq_getElem hk'
  have hm:=List.getElem_mem hk'
  have hb:=A1L p.D7[k]
  obtain ⟨n,hn⟩:=Int.eq_ofNat_of_zero_le hb.1
  have hts:=B6W p.D7 k hx
  have htl:=C4L p.D7 (k + 1)
  have hcount : A2d [p.D7[k]] = some (n : Int):=by rw [A4T (h.one hm).ok (h.one hm).v,C8e,hn]
  rw [if_pos hlt]
  simp only [h.first hk',←hf,M4 (show k < 9223372036854775807 by omega),D0b hx,hcount,Option.bind_some]
  obtain ⟨r,hr,hI'⟩:=C7o h hk' (f:=f) (n:=n) (N:=N) (by omega) (by omega) (by omega) tb lv op bs ac hI
  rw [hr]
  simp only [Option.bind_some]
  exact ⟨_,rfl,⟨k + 1,rfl,by omega,f + n,by rw [hts]; omega,hI'⟩,by dsimp only; omega⟩
 ·right
  rw [if_neg hlt]
  have : k = p.D7.length:=by omega
  subst this
  rw [List.take_length] at hf
  have : f = N:=by omega
  subst this
  exact ⟨_,rfl,hI⟩
end Go.Pl
namespace Go.Pl
open Go Go.Sl Go.Dm
theorem C9T (p q : Nat→Bool) (k : Nat) (hk : p k = true) (hq : q k = false) (he : ∀ i,i ≠ k→p i = q i) : ∀ N,k < N→(List.range N).countP p = (List.range N).countP q + 1:=by
 intro N
 induction N with
 | zero=>intro h; omega
 | succ N ih=>
  intro h
  rw [List.range_succ,List.countP_append,List.countP_append]
  by_cases hkn : k = N
  ·subst hkn
   have : (List.range k).countP p = (List.range k).countP q:=List.countP_congr (fun i hi=>by
    rw [List.mem_range] at hi
    rw [he i (by omega)])
   simp [this,hk,hq]
  ·rw [ih (by omega)]
   have:=he N (fun e=>hkn e.symm)
   simp [this]
   omega
def unv (N : Nat) (out : List (Int×Int)) : Nat:=(List.range N).countP (fun i : Nat=>(A4k out (i : Int)).isNone)
theorem D0d {N : Nat} {out : List (Int×Int)} {k : Nat} (hk : k < N) (h : A4k out (k : Int) = none) (v : Int) : unv N (A2O out (k : Int) v) + 1 = unv N out:=by
 unfold unv
 rw [C9T (fun i : Nat=>(A4k out (i : Int)).isNone) (fun i : Nat=>(A4k (A2O out (k : Int) v) (i : Int)).isNone) k (by simp [h]) (by simp [A8p]) (fun i hi=>by
  have : ¬ (i : Int) = (k : Int):=by omega
  simp [A8p,this]) N hk]
theorem C3h (N : Nat) (out : List (Int×Int)) : unv N out≤N:=by
 unfold unv
 have:=List.countP_le_length (p:=fun i : Nat=>(A4k out (i : Int)).isNone) (l:=List.range N)
 simpa using this
structure WI (N : Nat) (out : List (Int×Int)) (line : List Int) : Prop where
 mv : ∀ k v,A4k out k = some v→0≤v∧v + unv N out≤N
 ln : ∀ x ∈ line,0≤x∧x < N
theorem C8V (m : List (Int×Int)) (k : Int) : (∃ v,lkM m k (0 : Int) = some (v,true)∧A4k m k = some v)∨(lkM m k (0 : Int) = some (0,false)∧A4k m k = none):=by
 unfold lkM
 cases h : A4k m k with
 | none=>right; exact ⟨rfl,rfl⟩
 | some v=>left; exact ⟨v,rfl,rfl⟩
theorem C5O {N M : Nat} (hM : M≤2000) (hN : N≤384) {es : List Int} (hl : es.length≤24) (he : ∀ x ∈ es,0≤x∧x < N) (hd : Int) :
  ∀ out rest,WI N out (hd::rest)→2 * unv N out + (hd::rest).length≤M→∃ r,iter (A6V es) FUEL ((0 : Int),out,hd::rest) = some r∧∃ rest',r.2 = hd::rest'∧WI N r.1 (hd::rest')∧2 * unv N r.1 + (hd::rest').length≤M:=by
 intro out rest hI hm
 refine X5 (fun s=>∃ k : Nat,s.1 = (k : Int)∧k≤es.length∧∃ rest,s.2.2 = hd::rest∧WI N s.2.1 (hd::rest)∧2 * unv N s.2.1 + (hd::rest).length≤M) (fun s=>es.length - s.1.toNat) _ ?_ FUEL _ ⟨0,rfl,by omega,rest,rfl,hI,hm⟩ (fuel (by dsimp only; omega))
 rintro ⟨i,out,line⟩ ⟨k,hk,hkn,rest,hr,hI,hm⟩
 simp only at hk hr hI hm
 subst hk; subst hr
 simp only [A6V,B4U,Bool.cond_decide]
 by_cases hlt : (k : Int) < (es.length : Int)
 ·left
  have hk' : k < es.length:=by omega
  have hx:=List.getElem?_eq_getElem hk'
  have hb:=he _ (List.getElem_mem hk')
  generalize es[k] = e at hx hb
  rw [if_pos hlt]
  simp only [K9 hx,Option.bind_some,M4 (show k < 9223372036854775807 by omega)]
  rcases C8V out e with ⟨v,h1,h2⟩ | ⟨h1,h2⟩
  ·rw [h1]
   exact ⟨_,rfl,⟨k + 1,rfl,by omega,rest,rfl,hI,hm⟩,by dsimp only; omega⟩
  ·rw [h1]
   have hle:=C3h N out
   obtain ⟨v,ok,h3,h4⟩ : ∃ v ok,lkM out hd (0 : Int) = some (v,ok)∧0≤v∧v + unv N out≤N:=by
    rcases C8V out hd with ⟨v,h3,h4⟩ | ⟨h3,_⟩
    ·exact ⟨v,_,h3,hI.mv _ _ h4⟩
    ·exact ⟨0,_,h3,by omega,by omega⟩
   obtain ⟨e',rfl⟩:=Int.eq_ofNat_of_zero_le hb.1
   have hu:=D0d (N:=N) (k:=e') (by omega) h2 (v + 1)
   simp only [Option.bind_some,Bool.not_false,cond_true,show J6 (hd::rest) (0 : Int) = some hd from rfl,h3,A9d (show -1000000000≤v + 1 by omega) (by omega),B3W (show (hd::rest).length + [(e' : Int)].length≤1000000000 by simp at hm ⊢; omega)]
   refine ⟨_,rfl,⟨k + 1,rfl,by omega,rest ++ [(e' : Int)],rfl,⟨fun q w hq=>?_,fun x hx=>?_⟩,by simp at hm ⊢; omega⟩,by dsimp only; omega⟩
   ·dsimp only at hq ⊢
    rw [A8p] at hq
    split at hq
    ·cases hq; omega
    ·have:=hI.mv q w hq; omega
   ·rw [←List.cons_append] at hx
    exact A5J hI.ln (y:=(e' : Int)) ⟨by omega,by omega⟩ x hx
 ·right
  rw [if_neg hlt]
  exact ⟨_,rfl,rest,rfl,hI,hm⟩
theorem C9F {j : X7} {N : Nat} (hN : N≤384) (hb : j.A5i.length = N) (ha : j.A5e.length = N) (hbv : ∀ r ∈ j.A5i,r.length≤24∧∀ x ∈ r,0≤x∧x < N) (hav : ∀ r ∈ j.A5e,r.length≤24∧∀ x ∈ r,0≤x∧x < N)
  {f : Nat} (hf : f < N) : ∃ r,B1v j (f : Int) = some r∧∀ k v,A4k r k = some v→0≤v∧v≤N:=by
 unfold B1v
 have hmv : ∀ k v,A4k (A2O ([] : List (Int×Int)) (f : Int) (0 : Int)) k = some v→0≤v∧v + unv N (A2O ([] : List (Int×Int)) (f : Int) (0 : Int))≤N:=fun k v h=>by
  rw [A8p] at h
  have:=C3h N (A2O ([] : List (Int×Int)) (f : Int) (0 : Int))
  split at h
  ·cases h; omega
  ·cases h
 have hln : ∀ x ∈ [(f : Int)],0≤x∧x < N:=fun x hx=>by rw [List.mem_singleton] at hx; subst hx; omega
 obtain ⟨r,hr,hq⟩:=X5 (f:=A7i j) (fun s=>WI N s.1 s.2∧2 * unv N s.1 + s.2.length≤2000) (fun s=>2 * unv N s.1 + s.2.length) (fun r=>∀ k v,A4k r k = some v→0≤v∧v≤N) (fun s hs=>by
  obtain ⟨out,line⟩:=s
  obtain ⟨hI,hm⟩:=hs
  simp only at hI hm
  simp only [A7i,Bool.cond_decide]
  cases line with
  | nil=>right; exact ⟨_,rfl,fun k v h=>by have:=hI.mv k v h; omega⟩
  | cons hd rest=>
   left
   have hh:=hI.ln hd (by simp)
   obtain ⟨d,rfl⟩:=Int.eq_ofNat_of_zero_le hh.1
   have h1:=List.getElem?_eq_getElem (show d < j.A5i.length by omega)
   have h2:=List.getElem?_eq_getElem (show d < j.A5e.length by omega)
   have v1:=hbv _ (List.getElem_mem (show d < j.A5i.length by omega))
   have v2:=hav _ (List.getElem_mem (show d < j.A5e.length by omega))
   generalize j.A5i[d] = e1 at h1 v1
   generalize j.A5e[d] = e2 at h2 v2
   rw [if_pos (by simp only [List.length_cons]; omega)]
   have g0 : J6 ((d : Int)::rest) (0 : Int) = some (d : Int):=rfl
   obtain ⟨q,hq,rest',e,hI',hm'⟩:=X5 (f:=A7d e1 e2) (fun s=>∃ k : Nat,s.1 = (k : Int)∧k≤2∧∃ rest',s.2.2 = (d : Int)::rest'∧WI N s.2.1 ((d : Int)::rest')∧2 * unv N s.2.1 + ((d : Int)::rest').length≤2 * unv N out + ((d : Int)::rest).length) (fun s=>2 - s.1.toNat)
    (fun r=>∃ rest',r.2 = (d : Int)::rest'∧WI N r.1 ((d : Int)::rest')∧2 * unv N r.1 + ((d : Int)::rest').length≤2 * unv N out + ((d : Int)::rest).length) (fun s hs=>by
     obtain ⟨i,out',line'⟩:=s
     obtain ⟨k,hk,hk2,rest',e,hI',hm'⟩:=hs
     simp only at hk e hI' hm'
     subst hk; subst e
     simp only [A7d,Bool.cond_decide]
     by_cases hlt : (k : Int) < ([e1,e2].length : Int)
     ·left
      have hk' : k < [e1,e2].length:=by omega
      have hx:=List.getElem?_eq_getElem hk'
      have hv : [e1,e2][k].length≤24∧∀ x ∈ [e1,e2][k],0≤x∧x < N:=by
       have:=List.getElem_mem hk'
       simp only [List.mem_cons,List.not_mem_nil,or_false] at this
       rcases this with h | h
       ·rw [h]; exact v1
       ·rw [h]; exact v2
      generalize [e1,e2][k] = es at hx hv
      obtain ⟨q,hq,rest'',e,hI'',hm''⟩:=C5O (M:=2 * unv N out + ((d : Int)::rest).length) hm hN hv.1 hv.2 (d : Int) out' rest' hI' hm'
      rw [if_pos hlt]
      simp only [K9 hx,hq,Option.bind_some,M4 (show k < 9223372036854775807 by simp at hk'; omega)]
      exact ⟨_,rfl,⟨k + 1,rfl,by simp at hk'; omega,rest'',e,hI'',hm''⟩,by simp at hk' ⊢; omega⟩
     ·right
      rw [if_neg hlt]
      exact ⟨_,rfl,rest',rfl,hI',hm'⟩) FUEL ((0 : Int),out,(d : Int)::rest) ⟨0,rfl,by omega,rest,rfl,hI,Nat.le_refl _⟩ (fuel (by dsimp only; omega))
   obtain ⟨out',line'⟩:=q
   simp only at e hI' hm'
   subst e
   simp only [g0,K9 h1,K9 h2,Option.bind_some,hq,C4F]
   simp only [List.length_cons] at hm hm'
   exact ⟨_,rfl,⟨⟨hI'.mv,fun x hx=>hI'.ln x (by simp [hx])⟩,by dsimp only; omega⟩,by simp only [List.length_cons]; omega⟩) FUEL (A2O ([] : List (Int×Int)) (f : Int) (0 : Int),[(f : Int)])
  ⟨WI.mk hmv hln,by have:=C3h N (A2O ([] : List (Int×Int)) (f : Int) (0 : Int)); simp; omega⟩ (fuel (by have:=C3h N (A2O ([] : List (Int×Int)) (f : Int) (0 : Int)); simp; omega))
 exact ⟨r,by simp only [Option.bind_some,hr],hq⟩
end Go.Pl
namespace Go.Pl
open Go Go.Sl Go.Dm
theorem B4p {τ : Type} {bad : Nat→τ→Option (Int×Int)} (hb : ∀ i x p,bad i x = some p→p.2 ≠ 0) : ∀ (xs : List τ) (i : Nat) {p : Int×Int},Y4 bad i xs = some p→p.2 ≠ 0
 | [],_,_,h=>by cases h
 | x::xs,i,p,h=>by
  simp only [Y4] at h
  cases hx : bad i x with
  | none=>rw [hx] at h; exact B4p hb xs _ h
  | some q=>rw [hx] at h; cases h; exact hb _ _ _ hx
theorem C9x (gs : List D6) : ∀ i x p,A8g gs i x = some p→p.2 ≠ 0:=fun i x p h=>by
 unfold A8g at h
 split at h
 ·rename_i hc; cases h; exact hc
 ·split at h
  ·cases h; simp
  ·split at h
   ·cases h; simp
   ·cases h
theorem C9Z (r : R4) : ∀ i x p,B4F r i x = some p→p.2 ≠ 0:=fun i x p h=>by
 unfold B4F at h
 repeat' split at h
 all_goals (cases h; try simp)
theorem B0J {r : R4} (h : (B2f r).2 = 0) : Y4 (A8g r.A8) 0 r.A8 = none∧Y4 (B4F r) 0 r.I8 = none:=by
 unfold B2f at h
 cases hF : Y4 (A8g r.A8) 0 r.A8 with
 | some p=>rw [hF] at h; exact absurd h (B4p (C9x _) _ _ hF)
 | none=>
  rw [hF] at h
  cases hT : Y4 (B4F r) 0 r.I8 with
  | some p=>rw [hT] at h; exact absurd h (B4p (C9Z _) _ _ hT)
  | none=>exact ⟨rfl,rfl⟩
theorem C9C {r : R4} (h : OkR r) (hc : (B2f r).2 = 0) : ∃ m,A6u r = some (some ⟨⟨r.A8,r.I8⟩,m⟩,0,0)∧Knows m r.A8:=by
 obtain ⟨hF,hT⟩:=B0J hc
 have h0:=B9K h
 rw [hF] at h0
 obtain ⟨o,ho,m,rfl,hm⟩:=h0
 have h1:=C0G h (D0L hF) hm
 rw [hT] at h1
 obtain ⟨o,ho',rfl⟩:=h1
 refine ⟨m,?_,hm⟩
 simp only [A6u,B4l,Option.bind_some,ho,ho']
theorem D1b {r : R4} (hc : (B2f r).2 = 0) {g : D6} (hg : g ∈ r.A8) : A6q g = 0:=by
 obtain ⟨k,hk⟩:=List.getElem?_of_mem hg
 have:=A3g _ 0 (B0J hc).1 k g hk
 unfold A8g at this
 split at this
 ·cases this
 ·rename_i h; exact Classical.byContradiction fun e=>h e
theorem C7B {r : R4} (hc : (B2f r).2 = 0) : r.I8.length≤256:=by
 apply Classical.byContradiction
 intro hn
 have hx:=List.getElem?_eq_getElem (show 256 < r.I8.length by omega)
 have:=A3g _ 0 (B0J hc).2 256 _ hx
 unfold B4F at this
 repeat' split at this
 all_goals first | omega | cases this
theorem C6g {g : D6} (h : g.M6.length≤4) : A9T g = some g:=C2E h
structure BkI (gs : List D6) (ts : List F5) (m : List (ByteArray×Int)) : Prop where
 k : Knows m gs
 g : ∀ g ∈ gs,g.M6.length≤4
 t : ts.length≤256
def zG : D6:=D6.mk (⟨#[]⟩ : ByteArray) (⟨#[]⟩ : ByteArray) (⟨#[]⟩ : ByteArray) (0 : Int) (0 : Int) (⟨#[]⟩ : ByteArray) false false ([] : List ByteArray)
theorem find_ok {gs : List D6} {ts : List F5} {m : List (ByteArray×Int)} (h : BkI gs ts m) (n : ByteArray) : ∃ g b,B0B ⟨⟨gs,ts⟩,m⟩ n = some (g,b)∧g.M6.length≤4:=by
 simp only [B0B,A4s,Option.bind_some,cond_false]
 cases hm : A4k m n with
 | none=>
  have : lkM m n (0 : Int) = some (0,false):=by unfold lkM; rw [hm]
  rw [this]
  exact ⟨zG,_,rfl,by simp [zG]⟩
 | some v=>
  have : lkM m n (0 : Int) = some (v,true):=by unfold lkM; rw [hm]
  obtain ⟨k,rfl,hk⟩:=h.k.2 n v hm
  have hx:=List.getElem?_eq_getElem hk
  have ht:=h.g _ (List.getElem_mem hk)
  rw [this]
  simp only [Option.bind_some,Bool.not_true,cond_false,K9 hx,C6g ht]
  exact ⟨_,_,rfl,ht⟩
theorem D2D {l : List ByteArray} (hl : l.length≤1000) {f : ByteArray→Option Bool} (hf : ∀ x,∃ b,f x = some b) : ∃ v,A4q l f = some (v,l)∧(v = -1∨∃ k : Nat,v = (k : Int)∧k < l.length):=by
 unfold A4q
 obtain ⟨r,hr,hq⟩:=X5 (f:=A2L l f) (fun s=>∃ k : Nat,s = (k : Int)∧k≤l.length) (fun s=>l.length - s.toNat) (fun r=>r = .inl ()∨∃ k : Nat,r = .inr ((k : Int),l)∧k < l.length) (fun s hs=>by
  obtain ⟨k,rfl,hk⟩:=hs
  simp only [A2L,Bool.cond_decide]
  by_cases hlt : (k : Int) < (l.length : Int)
  ·have hk' : k < l.length:=by omega
   have hx:=List.getElem?_eq_getElem hk'
   obtain ⟨b,hb⟩:=hf l[k]
   rw [if_pos hlt]
   simp only [K9 hx,hb,Option.bind_some,M4 (show k < 9223372036854775807 by omega)]
   cases b
   ·left; exact ⟨_,rfl,⟨k + 1,rfl,by omega⟩,by omega⟩
   ·right; exact ⟨_,rfl,.inr ⟨k,rfl,hk'⟩⟩
  ·right; rw [if_neg hlt]; exact ⟨_,rfl,.inl rfl⟩) FUEL 0 ⟨0,rfl,by omega⟩ (fuel (by simp; omega))
 rw [hr]
 rcases hq with rfl | ⟨k,rfl,hk⟩
 ·exact ⟨_,rfl,.inl rfl⟩
 ·exact ⟨_,rfl,.inr ⟨k,rfl,hk⟩⟩
theorem D0E {i n : Nat} (h : i≤n) : bdV (i : Int) (n : Int) (n : Int) = some ():=by
 unfold bdV
 have : ((i : Int)≤(n : Int)):=by omega
 simp [this]
theorem D2C {l : List ByteArray} (hl : l.length≤1000) {f : ByteArray→Option Bool} (hf : ∀ x,∃ b,f x = some b) : ∃ r,A2T l f = some r:=by
 obtain ⟨v,e,hv⟩:=D2D hl hf
 simp only [A2T,e,Option.bind_some,Bool.cond_decide]
 rcases hv with rfl | ⟨k,rfl,hk⟩
 ·exact ⟨_,rfl⟩
 ·rw [if_neg (by omega)]
  simp only [M4 (show k < 9223372036854775807 by omega),Option.bind_some]
  obtain ⟨r,hr,i,hi,hi'⟩:=X5 (f:=A2I f) (fun s=>∃ i j : Nat,s.2.1 = (i : Int)∧s.2.2 = (j : Int)∧i < j∧j≤s.1.length∧s.1.length = l.length) (fun s=>l.length - s.2.2.toNat) (fun r=>∃ i : Nat,r.2 = (i : Int)∧i≤r.1.length) (fun s hs=>by
   obtain ⟨a,x,y⟩:=s
   obtain ⟨i,j,hi,hj,hij,hj',hl'⟩:=hs
   simp only at hi hj hj' hl'
   subst hi; subst hj
   simp only [A2I,Bool.cond_decide]
   by_cases hlt : (j : Int) < (a.length : Int)
   ·left
    have hx:=List.getElem?_eq_getElem (show j < a.length by omega)
    have hx':=List.getElem?_eq_getElem (show i < a.length by omega)
    obtain ⟨b,hb⟩:=hf a[j]
    rw [if_pos hlt]
    simp only [K9 hx,K9 hx',hb,Option.bind_some,M4 (show j < 9223372036854775807 by omega),M4 (show i < 9223372036854775807 by omega)]
    cases b
    ·exact ⟨_,rfl,⟨i + 1,j + 1,rfl,rfl,by omega,by simp; omega,by simp; omega⟩,by dsimp only; omega⟩
    ·exact ⟨_,rfl,⟨i,j + 1,rfl,rfl,by omega,by dsimp only; omega,hl'⟩,by dsimp only; omega⟩
   ·right
    rw [if_neg hlt]
    exact ⟨_,rfl,i,rfl,by dsimp only; omega⟩) FUEL (l,(k : Int),((k + 1 : Nat) : Int)) ⟨k,k + 1,rfl,rfl,by omega,hk,rfl⟩ (fuel (by dsimp only; omega))
  obtain ⟨a,x⟩:=r
  simp only at hi hi'
  subst hi
  rw [hr]
  simp only [Option.bind_some,D0E hi',Int.toNat_natCast]
  have hlen : i≤(A2E a i (List.replicate (a.length - i) (⟨#[]⟩ : ByteArray))).length:=by
   rw [B2K (by simp; omega)]; exact hi'
  rw [B2E hlen]
  exact ⟨_,rfl⟩
theorem C7D {gs : List D6} {ts : List F5} {m : List (ByteArray×Int)} (h : BkI gs ts m) (n n' : ByteArray) : ∃ r,A9w ⟨⟨gs,ts⟩,m⟩ n n' = some r:=by
 obtain ⟨g,b,e,hg⟩:=find_ok h n
 obtain ⟨g',b',e',hg'⟩:=find_ok h n'
 simp only [A9w,e,e',Option.bind_some]
 cases b
 ·exact ⟨_,rfl⟩
 cases b'
 ·exact ⟨_,rfl⟩
 obtain ⟨r,hr⟩:=D2C (l:=g.M6) (by omega) (f:=fun y0=>A4t y0 g') (fun x=>by
  simp only [A4t,containsS (l:=g'.M6) (by rw [mx]; omega),Option.bind_some]
  exact ⟨_,rfl⟩)
 simp only [Bool.not_true,cond_false]
 have hr' : A2T g.M6 (fun y0=>A4t y0 (D6.mk g'.F8 g'.A0k g'.V9 g'.V3 g'.A0f g'.Z0 g'.A0u g'.U2 g'.M6)) = some r:=hr
 rw [hr']
 exact ⟨_,rfl⟩
theorem D0A {L : List F5} (hL : L.length≤1000) (q : F5) : ∃ i : Nat,iter (A1l L q A1o) FUEL ((L.length : Int),(0 : Int)) = some (i : Int)∧i≤L.length:=by
 obtain ⟨r,hr,i,rfl,hi⟩:=X5 (f:=A1l L q A1o) (fun s=>∃ j i : Nat,s = ((j : Int),(i : Int))∧i≤j∧j≤L.length) (fun s=>(s.1 - s.2).toNat) (fun r=>∃ i : Nat,r = (i : Int)∧i≤L.length)
  (fun s hs=>by
   obtain ⟨j,i,rfl,h1,h3⟩:=hs
   by_cases hc : i < j
   ·left
    have hlt : (i : Int) < (j : Int):=by omega
    have hmid : (i + j) / 2 < L.length:=by omega
    have hx:=List.getElem?_eq_getElem hmid
    have hs : A5x .u64 ((i + j : Nat) : Int) (1 : Int) = some (((i + j) / 2 : Nat) : Int):=by
     show (bif Nat.ble 1 (IntKind.u64.bits) then some (Int.ofNat ((i + j) / 2 ^ 1)) else none) = _
     rw [show Nat.ble 1 (IntKind.u64.bits) = true from rfl,Nat.pow_one]
     rfl
    have hsum : (i : Int) + (j : Int) = ((i + j : Nat) : Int):=by omega
    have e1 : A1p .u64 ((i + j : Nat) : Int) = some ((i + j : Nat) : Int):=by
     unfold A1p; rw [wrap_u64 (by omega) (by omega)]; simp
    have e2 : A1p .i64 (((i + j) / 2 : Nat) : Int) = some (((i + j) / 2 : Nat) : Int):=by
     unfold A1p; rw [wrap_i64 (by omega) (by omega)]; simp
    simp only [A1l,hsum,A2j (x:=((i + j : Nat) : Int)) (by omega) (by omega),e1,hs,e2,K9 hx,B3o,Option.bind_some,Bool.cond_decide,if_pos hlt]
    by_cases ho : B0A L[(i + j) / 2] q < 0
    ·rw [if_pos ho,M4 (by omega)]
     exact ⟨_,rfl,⟨j,(i + j) / 2 + 1,rfl,by omega,h3⟩,by simp; omega⟩
    ·rw [if_neg ho]
     exact ⟨_,rfl,⟨(i + j) / 2,i,rfl,by omega,by omega⟩,by simp; omega⟩
   ·right
    have hlt : ¬ (i : Int) < (j : Int):=by omega
    simp only [A1l,Bool.cond_decide,if_neg hlt]
    exact ⟨_,rfl,i,rfl,by omega⟩) FUEL ((L.length : Int),(0 : Int)) ⟨L.length,0,rfl,by omega,by omega⟩ (fuel (by simp; omega))
 exact ⟨i,hr,hi⟩
theorem C9y {gs : List D6} {ts : List F5} {m : List (ByteArray×Int)} (h : BkI gs ts m) (n n' : ByteArray) : ∃ v b,B4e ⟨⟨gs,ts⟩,m⟩ n n' = some (v,b):=by
 have ht:=h.t
 obtain ⟨i,hi,hi'⟩:=D0A (L:=ts) (by omega) (F5.mk (minS n n') (maxS n n') (0 : Int))
 simp only [B4e,A4s,A2G,A6r,B0G,hi,Option.bind_some,cond_false,Bool.cond_decide]
 by_cases hlt : (i : Int) < (ts.length : Int)
 ·have hx:=List.getElem?_eq_getElem (show i < ts.length by omega)
  rw [if_pos hlt]
  simp only [K9 hx,B3o,Option.bind_some]
  cases decide (B0A ts[i] (F5.mk (minS n n') (maxS n n') (0 : Int)) = 0)
  ·exact ⟨_,_,rfl⟩
  ·exact ⟨_,_,rfl⟩
 ·rw [if_neg hlt]
  exact ⟨_,_,rfl⟩
end Go.Pl
namespace Go.Pl
open Go Go.Sl Go.Dm
structure Vld (p : A9) : Prop where
 ok : OkP p
 v : (C5i p).2 = 0
theorem C9H (p : A9) : ∀ i x q,B7P p i x = some q→q.2 ≠ 0:=fun i x q h=>by
 unfold B7P at h
 split at h
 ·rename_i hc; cases h; exact hc
 ·split at h
  ·cases h; simp
  ·cases h
theorem Vld.b {p : A9} (h : Vld p) : (B8b p).2 = 0:=by
 have:=h.v
 unfold C5i at this
 split at this
 ·rename_i hc; exact absurd this hc
 ·rename_i hc; exact Classical.byContradiction fun e=>hc e
theorem Vld.rules {p : A9} (h : Vld p) : Y4 (B7P p) 0 p.J3 = none:=by
 have:=h.v
 unfold C5i at this
 rw [if_neg (by simp [h.b])] at this
 cases hF : Y4 (B7P p) 0 p.J3 with
 | none=>rfl
 | some q=>rw [hF] at this; exact absurd this (B4p (C9H p) _ _ hF)
theorem Vld.eq {p : A9} (h : Vld p) : C5i p = (0,0):=by
 unfold C5i
 rw [if_neg (by simp [h.b]),h.rules]
 rfl
theorem Vld.h {p : A9} (h : Vld p) : OkH p.D7:=⟨h.ok.ts,B4o h.b⟩
theorem Vld.roll {p : A9} (h : Vld p) : (B2f (R4.mk p.A8 p.I8)).2 = 0:=by
 have:=h.b
 unfold B8b at this
 rw [if_neg (by simp [B4o h.b])] at this
 split at this
 ·rename_i hc; exact absurd this hc
 ·rename_i hc; exact Classical.byContradiction fun e=>hc e
theorem Vld.rest {p : A9} (h : Vld p) : (p.I6.length = 0∨p.I6.length = p.A8.length)∧p.I6.all A4F = true∧(p.A8.length : Int)≤A0N p.D7:=by
 have:=h.b
 unfold B8b at this
 rw [if_neg (by simp [B4o h.b]),if_neg (by simp [h.roll])] at this
 split at this
 ·simp at this
 rename_i h1
 split at this
 ·simp at this
 rename_i h2
 split at this
 ·simp at this
 rename_i h3
 refine ⟨by omega,by simpa using h2,by omega⟩
theorem Vld.C3w {p : A9} (h : Vld p) : p.A8.length≤64:=C9N (r:=R4.mk p.A8 p.I8) h.roll
theorem Vld.ties {p : A9} (h : Vld p) : p.I8.length≤256:=C7B (r:=R4.mk p.A8 p.I8) h.roll
theorem Vld.C7e {p : A9} (h : Vld p) {g : D6} (hg : g ∈ p.A8) : g.M6.length≤4:=B9U (D1b (r:=R4.mk p.A8 p.I8) h.roll hg)
theorem Vld.D0N {p : A9} (h : Vld p) : p.J3.length≤64:=by
 apply Classical.byContradiction
 intro hn
 have hx:=List.getElem?_eq_getElem (show 64 < p.J3.length by omega)
 have:=A3g _ 0 h.rules 64 _ hx
 unfold B7P at this
 split at this
 ·cases this
 ·rw [if_pos (by omega)] at this; cases this
theorem Vld.rule {p : A9} (h : Vld p) {r : F6} (hr : r ∈ p.J3) : rCk p r = 0:=by
 obtain ⟨k,hk⟩:=List.getElem?_of_mem hr
 have:=A3g _ 0 h.rules k r hk
 unfold B7P at this
 split at this
 ·cases this
 ·rename_i hc; exact Classical.byContradiction fun e=>hc e
theorem C0C : ∀ (l : List Int) (n a : Int),a < n→A8z n a l = true→a + l.length < n
 | [],n,a,h,_=>by simp; omega
 | x::l,n,a,h,k=>by
  simp only [A8z,Bool.and_eq_true,decide_eq_true_eq] at k
  have:=C0C l n x k.1.2 k.2
  simp only [List.length_cons]
  omega
theorem B6I {t : C8} (h : A5l t = 0) : A3o t.F8 = true∧V7 t ≠ 0∧A8z (V7 t) (-1) t.A2H = true:=by
 unfold A5l at h
 split at h
 ·omega
 rename_i h1
 split at h
 ·omega
 rename_i h2
 split at h
 ·omega
 rename_i h3
 exact ⟨by simpa using h1,h2,by simpa using h3⟩
theorem C8A {t : C8} (h : A5l t = 0) : t.A2H.length≤24:=by
 have hb:=A1L t
 obtain ⟨_,h2,h3⟩:=B6I h
 have:=C0C t.A2H (V7 t) (-1) (by omega) h3
 omega
theorem D1p {l : List C8} (h : l.length≤1000) : A4M l = some l:=by simp only [A4M,B3W (show ([] : List C8).length + l.length≤1000000000 by simp; omega),Option.bind_some,List.nil_append]
theorem D0F {l : List D6} (h : l.length≤1000) : A4K l = some l:=by simp only [A4K,B3W (show ([] : List D6).length + l.length≤1000000000 by simp; omega),Option.bind_some,List.nil_append]
theorem C7X {l : List F5} (h : l.length≤1000) : A7C l = some l:=by simp only [A7C,B3W (show ([] : List F5).length + l.length≤1000000000 by simp; omega),Option.bind_some,List.nil_append]
theorem C5W {l : List Int} (h : l.length≤1000) : A2w l = some l:=by simp only [A2w,B3W (show ([] : List Int).length + l.length≤1000000000 by simp; omega),Option.bind_some,List.nil_append]
theorem D1k {l : List ByteArray} (h : l.length≤1000) : A1Y l = some l:=by simp only [A1Y,B3W (show ([] : List ByteArray).length + l.length≤1000000000 by simp; omega),Option.bind_some,List.nil_append]
theorem D0I {l : List F6} (h : l.length≤1000) : A5O l = some l:=by simp only [A5O,B3W (show ([] : List F6).length + l.length≤1000000000 by simp; omega),Option.bind_some,List.nil_append]
theorem C0S {α τ ρ : Type} (body : α→Nat→τ→α⊕ρ) (fin : α→ρ) (hb : ∀ a i x,body a i x = .inl a) : ∀ (xs : List τ) (a : α) (i : Nat),A6i body fin a i xs = fin a
 | [],_,_=>rfl
 | x::xs,a,i=>by simp only [A6i,hb]; exact C0S body fin hb xs a (i + 1)
theorem C5c {α : Type} {l : List α} {i : Nat} {x : α} (h : l[i]? = some x) : l.set i x = l:=by
 obtain ⟨hi,rfl⟩:=List.getElem?_eq_some_iff.1 h
 exact List.set_getElem_self hi
theorem C5h {p : A9} (h : Vld p) : A7n p = some p:=by
 have h16:=h.h.len
 have hg:=h.C3w
 have ht:=h.ties
 have hr:=h.D0N
 have hc:=h.rest.1
 have l0 : iter (A2S p.D7) FUEL (p.D7,(0 : Int)) = some p.D7:=by
  have:=A8m (f:=A2S p.D7) (fun (a : List C8) (i : Nat)=>(a,(i : Int))) p.D7 (fun a i x=>.inl a) (fun a=>a) (fun a i=>a = p.D7) (a:=p.D7) rfl (n:=FUEL) (fuel (by omega))
   (fun a i x hx hI=>by
    subst hI
    have hi:=P8 hx
    have ho:=C8A (h.h.t (A2h hx))
    simp only [A2S,K9 hx,C5W (show x.A2H.length≤1000 by omega),Option.bind_some,Bool.cond_decide,M4 (show i < 9223372036854775807 by omega),Int.toNat_natCast]
    rw [if_pos (by omega)]
    exact ⟨by rw [show C8.mk x.F8 x.O6 x.fA x.fB x.A2H x.fX x.fY = x from rfl,C5c hx],trivial⟩)
   (fun a _=>by simp [A2S])
  rw [show (p.D7,(0 : Int)) = (fun (a : List C8) (i : Nat)=>(a,(i : Int))) p.D7 0 from rfl,this,C0S _ _ (fun _ _ _=>rfl)]
 have l1 : iter (A2V p.A8) FUEL (p.A8,(0 : Int)) = some p.A8:=by
  have:=A8m (f:=A2V p.A8) (fun (a : List D6) (i : Nat)=>(a,(i : Int))) p.A8 (fun a i x=>.inl a) (fun a=>a) (fun a i=>a = p.A8) (a:=p.A8) rfl (n:=FUEL) (fuel (by omega))
   (fun a i x hx hI=>by
    subst hI
    have hi:=P8 hx
    have ho:=h.C7e (A2h hx)
    simp only [A2V,K9 hx,D1k (show x.M6.length≤1000 by omega),Option.bind_some,Bool.cond_decide,M4 (show i < 9223372036854775807 by omega),Int.toNat_natCast]
    rw [if_pos (by omega)]
    exact ⟨by rw [show D6.mk x.F8 x.A0k x.V9 x.V3 x.A0f x.Z0 x.A0u x.U2 x.M6 = x from rfl,C5c hx],trivial⟩)
   (fun a _=>by simp [A2V])
  rw [show (p.A8,(0 : Int)) = (fun (a : List D6) (i : Nat)=>(a,(i : Int))) p.A8 0 from rfl,this,C0S _ _ (fun _ _ _=>rfl)]
 simp only [A7n,D1p (show p.D7.length≤1000 by omega),l0,D0F (show p.A8.length≤1000 by omega),l1,C7X (show p.I8.length≤1000 by omega),C5W (show p.I6.length≤1000 by omega),D0I (show p.J3.length≤1000 by omega),Option.bind_some]
structure JOk (j : X7) (p : A9) (N : Nat) : Prop where
 given : j.A1C = p
 kinds : j.C3T = KM
 n : (N : Int) = A0N p.D7
 tb : TbI p.D7.length N N j.A4d j.C9t j.D0h j.A5i j.A5e
 st : j.A2g.length = N
 stv : ∀ r ∈ j.A2g,∀ k v,A4k r k = some v→0≤v∧v≤N
 cm : j.C3W.length = p.A8.length
 cmv : ∀ r ∈ j.C3W,r.length = p.A8.length
 ti : j.A1z.length = p.A8.length
 tiv : ∀ r ∈ j.A1z,r.length = p.A8.length
theorem D1n {p : A9} (h : Vld p) : ∃ j N,B3I p = some (some j,0,0)∧JOk j p N:=by
 obtain ⟨N,hN⟩:=Int.eq_ofNat_of_zero_le (A6M p.D7).1
 have hs:=B5E h.h
 have hg:=h.C3w
 obtain ⟨⟨tb,lv,op,bs,ac⟩,e1,hI⟩:=C7F h.h hN
 dsimp only at hI
 obtain ⟨st,e2,h2,h2v⟩ : ∃ st,iter (A9h p KM tb lv op bs ac) FUEL (([] : List (List (Int×Int))),(0 : Int)) = some st∧st.length = N∧∀ r ∈ st,∀ k v : Int,A4k r k = some v→0≤v∧v≤(N : Int):=by
  refine X5 (fun s=>∃ k : Nat,s.2 = (k : Int)∧k≤N∧s.1.length = k∧∀ r ∈ s.1,∀ k v : Int,A4k r k = some v→0≤v∧v≤(N : Int)) (fun s=>N - s.2.toNat) _ ?_ FUEL _ ⟨0,rfl,by omega,rfl,fun r hr=>by cases hr⟩ (fuel (by dsimp only; omega))
  rintro ⟨st,i⟩ ⟨k,hk,hkn,hl,hv⟩
  simp only at hk hl hv
  subst hk
  simp only [A9h,hI.tbl,Bool.cond_decide]
  by_cases hlt : (k : Int) < (N : Int)
  ·left
   obtain ⟨r,hr,hrv⟩:=C9F (j:=X7.mk p KM tb lv op bs ac st ([] : List (List Bool)) ([] : List (List Int))) (N:=N) (by omega) hI.bsl hI.acl hI.bsv hI.acv (f:=k) (by omega)
   rw [if_pos hlt]
   simp only [hr,A0t (show st.length≤1000 by omega),Option.bind_some,M4 (show k < 9223372036854775807 by omega)]
   exact ⟨_,rfl,⟨k + 1,rfl,by omega,by simp [hl],A5J hv hrv⟩,by dsimp only; omega⟩
  ·right
   rw [if_neg hlt]
   exact ⟨_,rfl,by omega,hv⟩
 obtain ⟨m,e3,hK⟩:=C9C h.ok.r h.roll
 have hB : BkI p.A8 p.I8 m:=⟨hK,fun g hg=>h.C7e hg,h.ties⟩
 obtain ⟨⟨cm,ti⟩,e4,h41,h42,h43,h44⟩ : ∃ r,iter (A9m p) FUEL (([] : List (List Bool)),([] : List (List Int)),some (⟨⟨p.A8,p.I8⟩,m⟩ : K4),(0 : Int)) = some r∧r.1.length = p.A8.length∧(∀ x ∈ r.1,x.length = p.A8.length)∧r.2.length = p.A8.length∧(∀ x ∈ r.2,x.length = p.A8.length):=by
  refine X5 (fun s=>∃ k : Nat,s.2.2.2 = (k : Int)∧k≤p.A8.length∧s.2.2.1 = some (⟨⟨p.A8,p.I8⟩,m⟩ : K4)∧s.1.length = k∧(∀ x ∈ s.1,x.length = p.A8.length)∧s.2.1.length = k∧(∀ x ∈ s.2.1,x.length = p.A8.length)) (fun s=>p.A8.length - s.2.2.2.toNat) _ ?_ FUEL _ ⟨0,rfl,by omega,rfl,rfl,fun x hx=>(by cases hx),rfl,fun x hx=>(by cases hx)⟩ (fuel (by dsimp only; omega))
  rintro ⟨cm,ti,b,i⟩ ⟨k,hk,hkn,hb,h1,h2,h3,h4⟩
  simp only at hk hb h1 h2 h3 h4
  subst hk; subst hb
  simp only [A9m,Bool.cond_decide]
  by_cases hlt : (k : Int) < (p.A8.length : Int)
  ·left
   have hx:=List.getElem?_eq_getElem (show k < p.A8.length by omega)
   generalize p.A8[k] = g at hx
   obtain ⟨⟨b',c,q⟩,e,hb',hc,hq⟩ : ∃ r,iter (A9r p g) FUEL (some (⟨⟨p.A8,p.I8⟩,m⟩ : K4),(0 : Int),([] : List Bool),([] : List Int)) = some r∧r.1 = some (⟨⟨p.A8,p.I8⟩,m⟩ : K4)∧r.2.1.length = p.A8.length∧r.2.2.length = p.A8.length:=by
    refine X5 (fun s=>∃ k : Nat,s.2.1 = (k : Int)∧k≤p.A8.length∧s.1 = some (⟨⟨p.A8,p.I8⟩,m⟩ : K4)∧s.2.2.1.length = k∧s.2.2.2.length = k) (fun s=>p.A8.length - s.2.1.toNat) _ ?_ FUEL _ ⟨0,rfl,by omega,rfl,rfl,rfl⟩ (fuel (by dsimp only; omega))
    rintro ⟨b,i,c,q⟩ ⟨k,hk,hkn,hb,h1,h2⟩
    simp only at hk hb h1 h2
    subst hk; subst hb
    simp only [A9r,Bool.cond_decide]
    by_cases hlt : (k : Int) < (p.A8.length : Int)
    ·left
     have hx:=List.getElem?_eq_getElem (show k < p.A8.length by omega)
     generalize p.A8[k] = g' at hx
     obtain ⟨r,hr⟩:=C7D hB g.F8 g'.F8
     obtain ⟨v,ok,hv⟩:=C9y hB g.F8 g'.F8
     rw [if_pos hlt]
     simp only [K9 hx,hr,hv,A0t (show c.length≤1000 by omega),A0t (show q.length≤1000 by omega),Option.bind_some,M4 (show k < 9223372036854775807 by omega)]
     exact ⟨_,rfl,⟨k + 1,rfl,by omega,rfl,by simp [h1],by simp [h2]⟩,by dsimp only; omega⟩
    ·right
     rw [if_neg hlt]
     exact ⟨_,rfl,rfl,by dsimp only; omega,by dsimp only; omega⟩
   simp only at hb' hc hq
   subst hb'
   rw [if_pos hlt]
   simp only [K9 hx,e,A0t (show cm.length≤1000 by omega),A0t (show ti.length≤1000 by omega),Option.bind_some,M4 (show k < 9223372036854775807 by omega)]
   exact ⟨_,rfl,⟨k + 1,rfl,by omega,rfl,by simp [h1],A5J h2 hc,by simp [h3],A5J h4 hq⟩,by dsimp only; omega⟩
  ·right
   rw [if_neg hlt]
   exact ⟨_,rfl,by dsimp only; omega,h2,by dsimp only; omega,h4⟩
 refine ⟨_,N,?_,JOk.mk (j:=X7.mk p KM tb lv op bs ac st cm ti) rfl rfl hN.symm hI h2 h2v h41 h42 h43 h44⟩
 simp only [B3I,B5j h.ok,h.eq,Option.bind_some,decide_true,Bool.not_true,cond_false,B8M,C5h h,C4S,e1,e2,e3,e4]
end Go.Pl
namespace Go.Pl
open Go Go.Sl Go.Dm
def nb (k : Nat) : ByteArray:=B8c [((97 + k / 26 % 26 : Nat) : Int),((97 + k % 26 : Nat) : Int)]
theorem C6F {n : Nat} (h : n≤255) : A1p .u8 (n : Int) = some (n : Int):=by
 have : IntKind.u8.wrap (n : Int) = (n : Int):=by simp [IntKind.wrap,IntKind.bits,IntKind.signed]; omega
 unfold A1p
 rw [this]; simp
theorem B8j {x : Int} (h : 0≤x) (h' : x≤1000000000000) : A1p .i64 x = some x:=by
 unfold A1p
 rw [wrap_i64 h (by omega)]; simp
theorem number_eq {k : Nat} (h : k≤1000) : A0i (k : Int) = some (nb k):=by
 have e1 : ((k : Int) / 26) % 26 = ((k / 26 % 26 : Nat) : Int):=by omega
 have e2 : (k : Int) % 26 = ((k % 26 : Nat) : Int):=by omega
 have e3 : (97 : Int) + ((k / 26 % 26 : Nat) : Int) = ((97 + k / 26 % 26 : Nat) : Int):=by omega
 have e4 : (97 : Int) + ((k % 26 : Nat) : Int) = ((97 + k % 26 : Nat) : Int):=by omega
 simp only [A0i,B4m (show (0 : Int)≤(k : Int) by omega) (by omega) (show (0 : Int) < 26 by omega),C3I (show (0 : Int)≤(k : Int) / 26 by omega) (show (0 : Int) < 26 by omega),C3I (show (0 : Int)≤(k : Int) by omega) (show (0 : Int) < 26 by omega),Option.bind_some,e1,e2,e3,e4,
  A9d (show -1000000000≤((97 + k / 26 % 26 : Nat) : Int) by omega) (by omega),A9d (show -1000000000≤((97 + k % 26 : Nat) : Int) by omega) (by omega),C6F (show 97 + k / 26 % 26≤255 by omega),C6F (show 97 + k % 26≤255 by omega)]
 rfl
theorem C8i : (List.range 320).all (fun k=>A3o (nb k) && sLt (nb k) (nb (k + 1)) && decide ((nb k).size = 2)) = true:=by kernel_rfl
theorem B6k {k : Nat} (h : k < 320) : A3o (nb k) = true∧sLt (nb k) (nb (k + 1)) = true∧(nb k).size = 2:=by
 have:=List.all_eq_true.1 C8i k (List.mem_range.2 h)
 simp only [Bool.and_eq_true,decide_eq_true_eq] at this
 exact ⟨this.1.1,this.1.2,this.2⟩
theorem C5o {i k : Nat} (h : i < k) (hk : k≤320) : sLt (nb i) (nb k) = true:=by
 induction k with
 | zero=>omega
 | succ k ih=>
  by_cases he : i = k
  ·subst he; exact (B6k (by omega)).2.1
  ·exact B7E (ih (by omega) (by omega)) (B6k (by omega)).2.1
theorem C6i {i k : Nat} (hi : i≤320) (hk : k≤320) (h : nb i = nb k) : i = k:=by
 rcases Nat.lt_trichotomy i k with hl | hl | hl
 ·have:=C5o hl hk; rw [h,B4i] at this; cases this
 ·exact hl
 ·have:=C5o hl hi; rw [h,B4i] at this; cases this
theorem D2c {k : Nat} (h : k < 320) : ¬ nb k = (⟨#[]⟩ : ByteArray):=fun e=>by
 have:=(B6k h).2.2
 rw [e] at this; cases this
def wd (i : Nat) : ByteArray:=B8c [(116 : Int),((97 + i % 26 : Nat) : Int)]
def D0r (i x : Nat) : Bool:=match A7D (i : Int) (x : Int) with
 | none=>false
 | some t=>decide (A5l t = 0) && decide (t.F8 = wd i) && decide (A1D (C8.mk t.F8 t.O6 t.fA t.fB ([] : List Int) t.fX t.fY) = some (V7 t)) && decide (V7 t≤8) && decide (t.A2H.length≤24)
theorem D3a : (List.range 3).all (fun i=>(List.range 256).all fun x=>D0r i x) = true:=by kernel_rfl
theorem C8W {i x : Nat} (hi : i < 3) (hx : x < 256) : ∃ t,A7D (i : Int) (x : Int) = some t∧A5l t = 0∧t.F8 = wd i∧A1D (C8.mk t.F8 t.O6 t.fA t.fB ([] : List Int) t.fX t.fY) = some (V7 t)∧V7 t≤8∧OkT t:=by
 have:=List.all_eq_true.1 (List.all_eq_true.1 D3a i (List.mem_range.2 hi)) x (List.mem_range.2 hx)
 unfold D0r at this
 cases h : A7D (i : Int) (x : Int) with
 | none=>rw [h] at this; cases this
 | some t=>
  rw [h] at this
  simp only [Bool.and_eq_true,decide_eq_true_eq] at this
  refine ⟨t,rfl,this.1.1.1.1,this.1.1.1.2,this.1.1.2,this.1.2,?_,by rw [mx]; omega⟩
  rw [this.1.1.1.2,mx]
  have : (wd i).size = 2:=rfl
  omega
end Go.Pl
namespace Go.Pl
open Go Go.Sl Go.Dm
def gi (i : Nat) : Nat:=25 * i % 312 + i / 12
theorem B7n {i : Nat} (h : i < 12) : gi i < 320:=by unfold gi; omega
theorem C8m {i : Nat} (h : i < 12) : gi i = 25 * i:=by
 unfold gi
 rw [Nat.mod_eq_of_lt (by omega),Nat.div_eq_of_lt h]
 rfl
theorem C7Q {i j : Nat} (hi : i < 12) (hj : j < 12) (h : gi i = gi j) : i = j:=by rw [C8m hi,C8m hj] at h; omega
structure MG (i : Nat) (g : D6) : Prop where
 name : g.F8 = nb (gi i)
 ok : A6q g = 0
 og : OkG g
 di : A2P g.Z0 = true
 ds : g.Z0.size≤2
def tgB (a b c d : Bool) : List ByteArray:=(bif a then [nb 0] else []) ++ ((bif b then [nb 1] else []) ++ ((bif c then [nb 2] else []) ++ (bif d then [nb 3] else [])))
def D0v (l : List ByteArray) : Bool:=decide (Y4 (B9D l) 0 l = none) && decide (l.length≤4) && l.all fun s=>decide (s.size = 2)
theorem tgs : ([true,false].all fun a=>[true,false].all fun b=>[true,false].all fun c=>[true,false].all fun d=>D0v (tgB a b c d)) = true:=by kernel_rfl
theorem D2d (a b c d : Bool) : D0v (tgB a b c d) = true:=by
 have:=tgs
 simp only [List.all_cons,List.all_nil,Bool.and_true,Bool.and_eq_true] at this
 cases a <;> cases b <;> cases c <;> cases d <;> simp [this]
def tgL (f : Nat→Bool) (k : Nat) : List ByteArray:=((List.range k).filter f).map nb
theorem C9e (f : Nat→Bool) : tgL f 4 = tgB (f 0) (f 1) (f 2) (f 3):=by
 unfold tgL tgB
 cases h0 : f 0 <;> cases h1 : f 1 <;> cases h2 : f 2 <;> cases h3 : f 3 <;> simp [List.range_succ,List.filter,h0,h1,h2,h3]
theorem C9O (f : Nat→Bool) (k : Nat) : (tgL f k).length≤k:=by
 unfold tgL
 rw [List.length_map]
 have:=List.length_filter_le f (List.range k)
 simpa using this
theorem D3c {m n : Nat} (h : n≤64) : A5x .i64 (m : Int) (n : Int) = some ((m / 2 ^ n : Nat) : Int):=by
 show (bif Nat.ble n (IntKind.i64.bits) then some (Int.ofNat (m / 2 ^ n)) else none) = _
 rw [show Nat.ble n (IntKind.i64.bits) = true from Nat.ble_eq_true_of_le h]
 rfl
theorem C8D (e : Nat) : iter (A4W (e : Int)) FUEL (([] : List ByteArray),(0 : Int)) = some (tgL (fun j=>decide (e / 2 ^ (6 + 2 * j) % 4 = 1)) 4):=by
 obtain ⟨r,hr,hq⟩:=X5 (f:=A4W (e : Int)) (fun s=>∃ k : Nat,s.2 = (k : Int)∧k≤4∧s.1 = tgL (fun j=>decide (e / 2 ^ (6 + 2 * j) % 4 = 1)) k) (fun s=>4 - s.2.toNat) (fun r=>r = tgL (fun j=>decide (e / 2 ^ (6 + 2 * j) % 4 = 1)) 4) (fun s hs=>by
  obtain ⟨a,i⟩:=s
  obtain ⟨k,hk,hk4,ha⟩:=hs
  simp only at hk ha
  subst hk; subst ha
  simp only [A4W,Bool.cond_decide]
  by_cases hlt : (k : Int) < 4
  ·left
   have hl:=C9O (fun j=>decide (e / 2 ^ (6 + 2 * j) % 4 = 1)) k
   have e1 : (6 : Int) + 2 * (k : Int) = ((6 + 2 * k : Nat) : Int):=by omega
   have r4 : ∀ m : Nat,Y7 (m : Int) 4 = some ((m % 4 : Nat) : Int):=fun m=>rfl
   rw [if_pos hlt]
   simp only [A9d (show -1000000000≤(2 : Int) * (k : Int) by omega) (by omega),e1,A9d (show -1000000000≤((6 + 2 * k : Nat) : Int) by omega) (by omega),D3c (m:=e) (show 6 + 2 * k≤64 by omega),r4,Option.bind_some,number_eq (show k≤1000 by omega),M4 (show k < 9223372036854775807 by omega),A0t (show (tgL (fun j=>decide (e / 2 ^ (6 + 2 * j) % 4 = 1)) k).length≤1000 by omega)]
   have e2 : tgL (fun j=>decide (e / 2 ^ (6 + 2 * j) % 4 = 1)) (k + 1) = tgL (fun j=>decide (e / 2 ^ (6 + 2 * j) % 4 = 1)) k ++ (if e / 2 ^ (6 + 2 * k) % 4 = 1 then [nb k] else []):=by
    unfold tgL
    rw [List.range_succ,List.filter_append,List.map_append]
    by_cases h : e / 2 ^ (6 + 2 * k) % 4 = 1 <;> simp [h]
   by_cases h : e / 2 ^ (6 + 2 * k) % 4 = 1
   ·rw [if_pos (by omega)]
    rw [if_pos h] at e2
    exact ⟨_,rfl,⟨k + 1,rfl,by omega,e2.symm⟩,by dsimp only; omega⟩
   ·rw [if_neg (by omega)]
    rw [if_neg h,List.append_nil] at e2
    exact ⟨_,rfl,⟨k + 1,rfl,by omega,e2.symm⟩,by dsimp only; omega⟩
  ·right
   rw [if_neg hlt]
   have : k = 4:=by omega
   subst this
   exact ⟨_,rfl,rfl⟩) FUEL (([] : List ByteArray),(0 : Int)) ⟨0,rfl,by omega,rfl⟩ (fuel (by dsimp only; omega))
 rw [hr,hq]
theorem B8i {k : Nat} (h : k < 320) : A2P (nb k) = true∧(nb k).size≤2:=by
 have:=B6k h
 unfold A2P
 rw [this.1]
 simp
 omega
theorem B8e : A2P (⟨#[]⟩ : ByteArray) = true∧(⟨#[]⟩ : ByteArray).size≤2:=⟨rfl,by decide⟩
theorem C6d {gs : List Int} {out : List D6} {i e : Nat} (hi : i < 12) (h : gs[i]? = some (e : Int)) (he : e≤65535) (ho : out.length≤1000) :
  ∃ g,B0o gs out (i : Int) = some (.inl (out ++ [g],((i + 1 : Nat) : Int)))∧MG i g:=by
 have r3 : ∀ m : Nat,Y7 (m : Int) 3 = some ((m % 3 : Nat) : Int):=fun m=>rfl
 have r4 : ∀ m : Nat,Y7 (m : Int) 4 = some ((m % 4 : Nat) : Int):=fun m=>rfl
 have r5 : ∀ m : Nat,Y7 (m : Int) 5 = some ((m % 5 : Nat) : Int):=fun m=>rfl
 have r7 : ∀ m : Nat,Y7 (m : Int) 7 = some ((m % 7 : Nat) : Int):=fun m=>rfl
 have r8 : ∀ m : Nat,Y7 (m : Int) 8 = some ((m % 8 : Nat) : Int):=fun m=>rfl
 have r2 : ∀ m : Nat,Y7 (m : Int) 2 = some ((m % 2 : Nat) : Int):=fun m=>rfl
 have r312 : ∀ m : Nat,Y7 (m : Int) 312 = some ((m % 312 : Nat) : Int):=fun m=>rfl
 have q12 : A4V (i : Int) 12 = some ((i / 12 : Nat) : Int):=by rw [B4m (by omega) (by omega) (by omega)]; congr 1
 have e25 : (25 : Int) * (i : Int) = ((25 * i : Nat) : Int):=by omega
 have egi : ((25 * i % 312 : Nat) : Int) + ((i / 12 : Nat) : Int) = ((gi i : Nat) : Int):=by unfold gi; omega
 have hgi:=B7n hi
 obtain ⟨rank,k1,k1o,k1s⟩ : ∃ r,(bif decide (((e % 2 : Nat) : Int) = (1 : Int)) then Option.bind (Y7 (e : Int) (3 : Int)) fun t65=>Option.bind (A0i t65) fun t66=>some t66 else some (⟨#[]⟩ : ByteArray)) = some r∧A2P r = true∧r.size≤2:=by
  cases decide (((e % 2 : Nat) : Int) = (1 : Int))
  ·exact ⟨_,rfl,B8e⟩
  ·exact ⟨nb (e % 3),by simp only [cond_true,r3,Option.bind_some,number_eq (show e % 3≤1000 by omega)],B8i (by omega)⟩
 obtain ⟨court,k2,k2o,k2s⟩ : ∃ r,(bif decide ((4 : Int) < ((e % 8 : Nat) : Int)) then Option.bind (Y7 (e : Int) (8 : Int)) fun t83=>Option.bind (A0i t83) fun t84=>some t84 else some (⟨#[]⟩ : ByteArray)) = some r∧A2P r = true∧r.size≤2:=by
  cases decide ((4 : Int) < ((e % 8 : Nat) : Int))
  ·exact ⟨_,rfl,B8e⟩
  ·exact ⟨nb (e % 8),by simp only [cond_true,r8,Option.bind_some,number_eq (show e % 8≤1000 by omega)],B8i (by omega)⟩
 obtain ⟨diet,k3,k3o,k3s⟩ : ∃ r,(bif decide (((e % 3 : Nat) : Int) = (2 : Int)) then Option.bind (Y7 (e : Int) (5 : Int)) fun t101=>Option.bind (A0i t101) fun t102=>some t102 else some (⟨#[]⟩ : ByteArray)) = some r∧A2P r = true∧r.size≤2:=by
  cases decide (((e % 3 : Nat) : Int) = (2 : Int))
  ·exact ⟨_,rfl,B8e⟩
  ·exact ⟨nb (e % 5),by simp only [cond_true,r5,Option.bind_some,number_eq (show e % 5≤1000 by omega)],B8i (by omega)⟩
 have hton:=D2d (decide (e / 2 ^ (6 + 2 * 0) % 4 = 1)) (decide (e / 2 ^ (6 + 2 * 1) % 4 = 1)) (decide (e / 2 ^ (6 + 2 * 2) % 4 = 1)) (decide (e / 2 ^ (6 + 2 * 3) % 4 = 1))
 have hton':=C9e (fun j=>decide (e / 2 ^ (6 + 2 * j) % 4 = 1))
 rw [←hton'] at hton
 have ht:=C8D e
 generalize tgL (fun j=>decide (e / 2 ^ (6 + 2 * j) % 4 = 1)) 4 = ton at hton ht
 unfold D0v at hton
 simp only [Bool.and_eq_true,decide_eq_true_eq,List.all_eq_true] at hton
 refine ⟨D6.mk (nb (gi i)) rank court (((e % 4 : Nat) : Int) * 500) ((e % 3 : Nat) : Int) diet (decide (((e % 5 : Nat) : Int) = (0 : Int))) (decide (((e % 7 : Nat) : Int) = (0 : Int))) ton,?_,rfl,?_,?_,k3o,k3s⟩
 ·simp only [B0o,B4S,K9 h,B8j (show (0 : Int)≤(e : Int) by omega) (by omega),e25,A9d (show -1000000000≤((25 * i : Nat) : Int) by omega) (by omega),r312,q12,egi,A9d (show -1000000000≤((gi i : Nat) : Int) by omega) (by omega),number_eq (show gi i≤1000 by omega),r4,r3,r5,r7,r2,r8,
   A9d (show -1000000000≤((e % 4 : Nat) : Int) * 500 by omega) (by omega),Option.bind_some,k1,k2,k3,ht,A0t ho,M4 (show i < 9223372036854775807 by omega)] at k1 k2 k3 ⊢
  simp only [k1,k2,k3,Option.bind_some,A0t ho,ht,M4 (show i < 9223372036854775807 by omega)]
 ·unfold A6q
  simp only [(B6k hgi).1,k1o,k2o,k3o,Bool.and_self,Bool.true_eq_false,if_false]
  rw [if_neg (by omega),if_neg (by omega),if_neg (by omega),hton.1.1]
  rfl
 ·have:=(B6k hgi).2.2
  have hmx : maxLen = 9223372036854775807:=mx
  exact ⟨by dsimp only; omega,by dsimp only; omega,by dsimp only; omega,by dsimp only; omega,by dsimp only; omega,fun s hs=>by have:=hton.2 s hs; omega⟩
theorem C4X {gs : List Int} (hg : ∀ e ∈ gs,0≤e∧e≤65535) : ∃ out,iter (A6N gs) FUEL (([] : List D6),(0 : Int)) = some out∧out.length = min gs.length 12∧∀ i g,out[i]? = some g→MG i g:=by
 refine X5 (fun s=>∃ k : Nat,s.2 = (k : Int)∧k≤min gs.length 12∧s.1.length = k∧∀ i g,s.1[i]? = some g→MG i g) (fun s=>12 - s.2.toNat) _ ?_ FUEL _ ⟨0,rfl,by omega,rfl,fun i g h=>by simp at h⟩ (fuel (by dsimp only; omega))
 rintro ⟨out,i⟩ ⟨k,hk,hkn,hl,hv⟩
 simp only at hk hl hv
 subst hk
 simp only [A6N]
 by_cases hlt : k < gs.length∧k < 12
 ·left
  have h1 : decide ((k : Int) < (gs.length : Int)) = true:=decide_eq_true (by omega)
  have h2 : decide ((k : Int) < 12) = true:=decide_eq_true (by omega)
  have hx:=List.getElem?_eq_getElem hlt.1
  have hb:=hg _ (List.getElem_mem hlt.1)
  generalize gs[k] = e at hx hb
  obtain ⟨e,rfl⟩:=Int.eq_ofNat_of_zero_le hb.1
  obtain ⟨g,e1,hm⟩:=C6d (out:=out) hlt.2 hx (by omega) (by omega)
  simp only [h1,h2,cond_true,Option.bind_some,e1]
  refine ⟨_,rfl,⟨k + 1,rfl,by omega,by simp [hl],fun i g' h=>?_⟩,by dsimp only; omega⟩
  rw [List.getElem?_append] at h
  split at h
  ·exact hv i g' h
  ·rename_i hn
   have : i - out.length = 0:=by
    have:=P8 h
    simp at this
    omega
   rw [this] at h
   simp at h
   subst h
   have : i = k:=by omega
   subst this
   exact hm
 ·right
  have : (bif decide ((k : Int) < (gs.length : Int)) then some (decide ((k : Int) < (12 : Int))) else some false) = some false:=by
   by_cases h1 : k < gs.length
   ·rw [decide_eq_true (show (k : Int) < (gs.length : Int) by omega),cond_true,decide_eq_false (show ¬ (k : Int) < 12 by omega)]
   ·rw [decide_eq_false (show ¬ (k : Int) < (gs.length : Int) by omega)]; rfl
  simp only [this,Option.bind_some,cond_false]
  exact ⟨_,rfl,by omega,hv⟩
end Go.Pl
namespace Go.Pl
open Go Go.Sl Go.Dm
structure MGs (gs : List D6) : Prop where
 len : gs.length≤12
 g : ∀ i g,gs[i]? = some g→MG i g
theorem MGs.is {gs : List D6} (h : MGs gs) {a : Nat} (ha : a≤320) (hi : isG gs (nb a) = true) : ∃ j,j < gs.length∧a = 25 * j:=by
 unfold isG at hi
 obtain ⟨g,hg,e⟩:=List.any_eq_true.1 hi
 obtain ⟨j,hj⟩:=List.getElem?_of_mem hg
 have:=h.g j g hj
 have hlt:=P8 hj
 have hl:=h.len
 refine ⟨j,hlt,?_⟩
 rw [decide_eq_true_eq,this.name,C8m (by omega)] at e
 exact (C6i (by omega) ha e).symm
theorem B6L {gs : List D6} (h : MGs gs) {i : Nat} (hi : i≤400) : A2v (R4.mk gs ([] : List F5)) (i : Int) = some (isG gs (nb i)):=by
 have hl:=h.len
 simp only [A2v]
 rw [A0P gs (fun (k : Nat) (g : D6)=>if decide (g.F8 = nb i) then some (.inr true : Unit⊕Bool) else none) (.inl ()) (fuel (by omega)) (fun k g hg=>by
  have hk:=P8 hg
  simp only [A5R,K9 hg,number_eq (show i≤1000 by omega),Option.bind_some,Bool.cond_decide]
  rw [if_pos (by omega),M4 (by omega)]
  by_cases e : g.F8 = nb i <;> simp [e]) (by simp [A5R])]
 have key : ∀ (l : List D6) (k : Nat),(match A1H (fun (k : Nat) (g : D6)=>if decide (g.F8 = nb i) then some (.inr true : Unit⊕Bool) else none) (.inl ()) k l with | .inl _=>some false | .inr p=>some p) = some (isG l (nb i)):=by
  intro l
  induction l with
  | nil=>intro k; rfl
  | cons g l ih=>
   intro k
   simp only [A1H,isG,List.any_cons]
   by_cases e : g.F8 = nb i
   ·simp [e]
   ·simp only [e,decide_false,Bool.false_or]
    exact ih (k + 1)
 simp only [Option.bind_some]
 exact key gs 0
structure TI (gs : List D6) (i k : Nat) (ts : List F5) : Prop where
 t : ∀ t ∈ ts,(t.H8 = 1∨t.H8 = 2)∧∃ a b,t.fA = nb a∧t.fB = nb b∧a < b∧b < 312∧(a < i∨a = i∧b < k)∧isG gs (nb a) = true∧isG gs (nb b) = true
 asc : Asc ts
theorem C9L {l : List F5} {t : F5} (h : Asc l) (ht : ∀ x ∈ l,tLt x t = true) : Asc (l ++ [t]):=by
 intro a b x y hab hx hy
 rw [List.getElem?_append] at hx hy
 by_cases hb : b < l.length
 ·rw [if_pos (by omega)] at hx
  rw [if_pos hb] at hy
  exact h a b x y hab hx hy
 ·rw [if_neg hb] at hy
  have:=P8 hy
  simp at this
  have hb' : b - l.length = 0:=by omega
  rw [hb'] at hy
  simp at hy
  subst hy
  rw [if_pos (by omega)] at hx
  exact ht x (A2h hx)
theorem TI.weak {gs : List D6} {i k i' k' : Nat} {ts : List F5} (h : TI gs i k ts) (hw : i < i'∨i = i'∧k≤k') : TI gs i' k' ts:=by
 refine ⟨fun t ht=>?_,h.asc⟩
 obtain ⟨h1,a,b,e1,e2,h2,h3,h4,h5⟩:=h.t t ht
 exact ⟨h1,a,b,e1,e2,h2,h3,by omega,h5⟩
theorem C5E {tn : List Int} (htn : ∀ e ∈ tn,0≤e∧e≤255) (hlen : tn.length≤maxLen) {gs : List D6} (h : MGs gs) {i n : Nat} (hi : i < 312) (hn : n≤100000) {ts : List F5} (hT : TI gs i (i + 1) ts) (hb : ts.length≤13 * ((i + 24) / 25)) :
  ∃ r,iter (A6Z tn gs (i : Int)) FUEL (ts,(n : Int),((i + 1 : Nat) : Int)) = some r∧(∃ m : Nat,r.1 = (m : Int)∧m≤n + 312)∧TI gs (i + 1) 0 r.2∧r.2.length≤13 * ((i + 1 + 24) / 25):=by
 refine X5 (fun s=>∃ k m : Nat,s.2.2 = (k : Int)∧s.2.1 = (m : Int)∧i < k∧k≤312∧m≤n + k∧TI gs i k s.1∧(isG gs (nb i) = true→s.1.length≤13 * ((i + 24) / 25) + (k + 24) / 25)∧(isG gs (nb i) = false→s.1.length≤13 * ((i + 24) / 25))) (fun s=>312 - s.2.2.toNat) _ ?_ FUEL _ ⟨i + 1,n,rfl,rfl,by omega,by omega,by omega,hT,fun _=>by dsimp only; omega,fun _=>by dsimp only; omega⟩ (fuel (by dsimp only; omega))
 rintro ⟨ts,x,y⟩ ⟨k,m,hk,hm,hik,hk3,hmn,hT,hb1,hb2⟩
 simp only at hk hm hT hb1 hb2
 subst hk; subst hm
 simp only [A6Z,Bool.cond_decide]
 by_cases hlt : (k : Int) < 312
 ·rw [if_pos hlt]
  rcases Bool.eq_false_or_eq_true (isG gs (nb i)) with hgi | hgi
  rotate_left
  ·right
   have t1 : A2v (R4.mk gs ([] : List F5)) (i : Int) = some false:=by rw [B6L h (by omega),hgi]
   simp only [A6J,t1,Option.bind_some,Bool.not_false,cond_true]
   have:=hb2 hgi
   exact ⟨_,rfl,⟨m,rfl,by omega⟩,hT.weak (.inl (by omega)),by dsimp only; omega⟩
  ·left
   have t1 : A2v (R4.mk gs ([] : List F5)) (i : Int) = some true:=by rw [B6L h (by omega),hgi]
   have no : ∀ {q : Prop},isG gs (nb i) = false→q:=fun e=>by rw [hgi] at e; cases e
   have hb1:=hb1 hgi
   obtain ⟨j,hj,hij⟩:=h.is (by omega) hgi
   rcases Bool.eq_false_or_eq_true (isG gs (nb k)) with hgk | hgk
   rotate_left
   ·have t2 : A2v (R4.mk gs ([] : List F5)) (k : Int) = some false:=by rw [B6L h (by omega),hgk]
    simp only [A6J,t1,t2,Bool.not_true,cond_false,Bool.not_false,cond_true,M4 (show k < 9223372036854775807 by omega),Option.bind_some]
    exact ⟨_,rfl,⟨k + 1,m,rfl,rfl,by omega,by omega,by omega,hT.weak (.inr ⟨rfl,by omega⟩),fun _=>by dsimp only; omega,no⟩,by dsimp only; omega⟩
   ·have t2 : A2v (R4.mk gs ([] : List F5)) (k : Int) = some true:=by rw [B6L h (by omega),hgk]
    obtain ⟨j',hj',hkj⟩:=h.is (by omega) hgk
    have hl:=h.len
    simp only [A6J,t1,t2,Bool.not_true,cond_false,Option.bind_some]
    have skip : ∃ s',(some (Sum.inl (ts,((m + 1 : Nat) : Int),((k + 1 : Nat) : Int))) : Option ((List F5×Int×Int)⊕(Int×List F5))) = some (Sum.inl s')∧(∃ k m : Nat,s'.2.2 = (k : Int)∧s'.2.1 = (m : Int)∧i < k∧k≤312∧m≤n + k∧TI gs i k s'.1∧(isG gs (nb i) = true→s'.1.length≤13 * ((i + 24) / 25) + (k + 24) / 25)∧(isG gs (nb i) = false→s'.1.length≤13 * ((i + 24) / 25)))∧312 - s'.2.2.toNat < 312 - (k : Int).toNat:=
     ⟨_,rfl,⟨k + 1,m + 1,rfl,rfl,by omega,by omega,by omega,hT.weak (.inr ⟨rfl,by omega⟩),fun _=>by dsimp only; omega,no⟩,by dsimp only; omega⟩
    by_cases hmt : m < tn.length
    ·have hx:=List.getElem?_eq_getElem hmt
     have hbd:=htn _ (List.getElem_mem hmt)
     generalize tn[m] = e at hx hbd
     obtain ⟨e,rfl⟩:=Int.eq_ofNat_of_zero_le hbd.1
     have r4 : Y7 (e : Int) 4 = some ((e % 4 : Nat) : Int):=rfl
     have e1 : (1 : Int) + ((e % 4 : Nat) : Int) = ((1 + e % 4 : Nat) : Int):=by omega
     rw [decide_eq_true (show (m : Int) < (tn.length : Int) by omega)]
     simp only [cond_true,K9 hx,r4,Option.bind_some,A9Q,e1,C6F (show 1 + e % 4≤255 by omega),number_eq (show i≤1000 by omega),number_eq (show k≤1000 by omega),M4 (show m < 9223372036854775807 by omega),M4 (show k < 9223372036854775807 by omega)]
     by_cases h2 : e % 4 < 2
     ·rw [decide_eq_true (show ((e % 4 : Nat) : Int) < 2 by omega)]
      simp only [cond_true,A0t (show ts.length≤1000 by omega),Option.bind_some]
      refine ⟨_,rfl,⟨k + 1,m + 1,rfl,rfl,by omega,by omega,by omega,⟨fun t ht=>?_,C9L hT.asc fun t ht=>?_⟩,fun _=>by simp; omega,no⟩,by dsimp only; omega⟩
      ·rcases List.mem_append.1 ht with ht | ht
       ·exact (hT.weak (.inr ⟨rfl,Nat.le_succ k⟩)).t t ht
       ·rw [List.mem_singleton] at ht
        subst ht
        exact ⟨by dsimp only; omega,i,k,rfl,rfl,hik,by omega,.inr ⟨rfl,by omega⟩,hgi,hgk⟩
      ·obtain ⟨_,a,b,ea,eb,hab,hb3,hlt',_⟩:=hT.t t ht
       unfold tLt
       rw [ea,eb]
       dsimp only
       rcases hlt' with hlt' | ⟨rfl,hlt'⟩
       ·rw [C5o hlt' (by omega)]; rfl
       ·rw [B4i,C5o hlt' (by omega)]; simp
     ·rw [decide_eq_false (show ¬ ((e % 4 : Nat) : Int) < 2 by omega)]
      simp only [cond_false]
      exact skip
    ·rw [decide_eq_false (show ¬ (m : Int) < (tn.length : Int) by omega)]
     simp only [cond_false,Option.bind_some,A9Q,M4 (show m < 9223372036854775807 by omega),M4 (show k < 9223372036854775807 by omega)]
     exact skip
 ·right
  rw [if_neg hlt]
  have : k = 312:=by omega
  subst this
  refine ⟨_,rfl,⟨m,rfl,by omega⟩,hT.weak (.inl (by omega)),?_⟩
  dsimp only
  cases hgi : isG gs (nb i) with
  | false=>have:=hb2 hgi; omega
  | true=>
   have:=hb1 hgi
   obtain ⟨j,hj,hij⟩:=h.is (by omega) hgi
   omega
theorem C6W {tn : List Int} (htn : ∀ e ∈ tn,0≤e∧e≤255) (hlen : tn.length≤maxLen) {gs : List D6} (h : MGs gs) :
  ∃ ts,iter (A7e tn gs) FUEL (([] : List F5),(0 : Int),(0 : Int)) = some ts∧TI gs 312 0 ts∧ts.length≤256:=by
 refine X5 (fun s=>∃ i n : Nat,s.2.2 = (i : Int)∧s.2.1 = (n : Int)∧i≤312∧n≤312 * i∧TI gs i 0 s.1∧s.1.length≤13 * ((i + 24) / 25)) (fun s=>312 - s.2.2.toNat) _ ?_ FUEL _ ⟨0,0,rfl,rfl,by omega,by omega,TI.mk (fun t ht=>by cases ht) (fun a b x y _ hx=>by cases hx),by simp⟩ (fuel (by dsimp only; omega))
 rintro ⟨ts,x,y⟩ ⟨i,n,hi,hn,hi3,hn3,hT,hb⟩
 simp only at hi hn hT hb
 subst hi; subst hn
 simp only [A7e,Bool.cond_decide]
 by_cases hlt : (i : Int) < 312
 ·left
  rw [if_pos hlt]
  obtain ⟨⟨r1,r2⟩,hr,⟨m,e,hm⟩,hT',hb'⟩:=C5E htn hlen h (i:=i) (n:=n) (by omega) (by omega) (ts:=ts) (hT.weak (.inr ⟨rfl,by omega⟩)) hb
  simp only at e hT' hb'
  subst e
  simp only [M4 (show i < 9223372036854775807 by omega),Option.bind_some,hr]
  exact ⟨_,rfl,⟨i + 1,m,rfl,rfl,by omega,by omega,hT',hb'⟩,by dsimp only; omega⟩
 ·right
  rw [if_neg hlt]
  have : i = 312:=by omega
  subst this
  exact ⟨_,rfl,hT,by omega⟩
theorem A6p {τ R : Type} {bad : Nat→τ→Option R} : ∀ (xs : List τ) (i : Nat),(∀ k x,xs[k]? = some x→bad (i + k) x = none)→Y4 bad i xs = none
 | [],_,_=>rfl
 | x::xs,i,h=>by
  simp only [Y4]
  rw [show bad i x = none from h 0 x rfl]
  exact A6p xs (i + 1) (fun k y hy=>by rw [show i + 1 + k = i + (k + 1) by omega]; exact h (k + 1) y hy)
theorem MGs.okG {gs : List D6} (h : MGs gs) {g : D6} (hg : g ∈ gs) : OkG g∧A6q g = 0∧A2P g.Z0 = true:=by
 obtain ⟨j,hj⟩:=List.getElem?_of_mem hg
 have:=h.g j g hj
 exact ⟨this.og,this.ok,this.di⟩
theorem MGs.A8g {gs : List D6} (h : MGs gs) : Y4 (A8g gs) 0 gs = none:=by
 refine A6p gs 0 fun k g hg=>?_
 have hl:=h.len
 have hk:=P8 hg
 have hm:=h.g k g hg
 unfold Go.Pl.A8g
 rw [Nat.zero_add,if_neg (by simp [hm.ok]),if_neg,if_neg (by omega)]
 intro hc
 obtain ⟨y,hy,e⟩:=List.any_eq_true.1 hc
 obtain ⟨j,hj⟩:=List.getElem?_of_mem hy
 have hjk:=P8 hj
 rw [List.length_take] at hjk
 have hj' : gs[j]? = some y:=by rw [List.getElem?_take] at hj; rw [if_pos (by omega)] at hj; exact hj
 rw [decide_eq_true_eq,(h.g j y hj').name,hm.name] at e
 have:=C6i (Nat.le_of_lt (B7n (by omega))) (Nat.le_of_lt (B7n (by omega))) e
 have:=C7Q (by omega) (by omega) this
 omega
theorem C7u {gn tn : List Int} (hg : ∀ e ∈ gn,0≤e∧e≤65535) (htn : ∀ e ∈ tn,0≤e∧e≤255) (hlen : tn.length≤maxLen) :
  ∃ r,B1j gn tn = some r∧MGs r.A8∧r.A8.length = min gn.length 12∧OkR r∧(B2f r).2 = 0:=by
 obtain ⟨gs,e1,hl,hm⟩:=C4X hg
 have h : MGs gs:=⟨by omega,hm⟩
 obtain ⟨ts,e2,hT,hb⟩:=C6W htn hlen h
 refine ⟨⟨gs,ts⟩,by simp only [B1j,e1,e2,Option.bind_some],h,hl,⟨by rw [mx]; dsimp only; omega,fun g hg=>(h.okG hg).1,by rw [mx]; dsimp only; omega⟩,?_⟩
 have hF:=h.A8g
 have hTb : Y4 (B4F ⟨gs,ts⟩) 0 ts = none:=by
  refine A6p ts 0 fun k t ht=>?_
  have hk:=P8 ht
  obtain ⟨h1,a,b,ea,eb,hab,hb3,_,ga,gb⟩:=hT.t t (A2h ht)
  have hAB : sLt t.fA t.fB = true:=by rw [ea,eb]; exact C5o hab (by omega)
  have hprev : k ≠ 0→tLt (ts.getD (k - 1) A5E) t = true:=fun h0=>hT.asc (k - 1) k _ t (by omega) (B3R A5E hk h0) ht
  unfold B4F
  rw [Nat.zero_add,ea,eb]
  dsimp only
  rw [←ea,←eb,hAB,ea,eb,ga,gb,if_neg,if_neg (by simp),if_neg,if_neg (by omega)]
  ·rintro ⟨h0,hc⟩; rw [hprev h0] at hc; cases hc
  ·rintro (⟨hc,hc'⟩ | hc | ⟨h0,hc⟩)
   ·rcases h1 with h1 | h1
    ·exact hc h1
    ·exact hc' h1
   ·cases hc
   ·rw [C1b (hprev h0)] at hc; cases hc
 unfold B2f
 rw [hF,hTb]
 rfl
end Go.Pl
namespace Go.Pl
open Go Go.Sl Go.Dm
theorem B6R {p : A9} (h : p.A8.length≤maxLen) {n : ByteArray} (hn : 0≤A9c p n) : ∃ v,A3w p.A8 n = some v∧decide (v < 0) = false:=⟨_,A5r h n,decide_eq_false (by unfold A9c at hn; omega)⟩
theorem B0O {p : A9} (h : p.D7.length≤maxLen) {n : ByteArray} : A4X p.D7 n = some (A6g p n):=B0x h n
theorem D2I {k : Nat} (h : 1≤k) (h' : k≤18) : ∃ s,A3R (k : Int) = some s∧decide (s = (⟨#[]⟩ : ByteArray)) = false:=by
 have : ((List.range 19).all fun k=>decide (k = 0) || (match A3R (k : Int) with | some s=>!decide (s = (⟨#[]⟩ : ByteArray)) | none=>false)) = true:=by kernel_rfl
 have:=List.all_eq_true.1 this k (List.mem_range.2 (by omega))
 cases hw : A3R (k : Int) with
 | none=>rw [hw] at this; simp at this; omega
 | some s=>
  rw [hw] at this
  refine ⟨s,rfl,?_⟩
  simp only [Bool.or_eq_true,decide_eq_true_eq,Bool.not_eq_true'] at this
  rcases this with h0 | h0
  ·omega
  ·exact h0
theorem A6I {p : A9} {r : F6} (k : Nat) (hk : r.H8 = (k : Int)) (h : 1≤k) (h' : k≤18) (hw : 0≤r.Q3) (hw' : r.Q3≤1000) : A1T p r = U0 p r:=by
 obtain ⟨s,e1,e2⟩:=D2I h h'
 have w1 : decide (r.Q3 < (0 : Int)) = false:=decide_eq_false (by omega)
 have w2 : decide ((1000 : Int) < r.Q3) = false:=decide_eq_false (by omega)
 simp only [A1T,hk,e1,e2,w1,w2,Option.bind_some,cond_false]
theorem D0y {p : A9} (hg : p.A8.length≤maxLen) (ht : p.D7.length≤maxLen) {k w n : Int} {A B : ByteArray} (hk : k = 1∨k = 2∨k = 3∨k = 4∨k = 5) (hw : 0≤w) (hw' : w≤1000) (hA : 0≤A9c p A) (hB : 0≤A9c p B) (hAB : A ≠ B)
  (a0 : A ≠ ⟨#[]⟩) (b0 : B ≠ ⟨#[]⟩) (h1 : k = 1→0≤n∧n≤24) (h4 : k = 4→1≤n∧n≤24) (h0 : k ≠ 1→k ≠ 4→n = 0) : rCk p ⟨k,w,A,B,⟨#[]⟩,n⟩ = 0:=by
 obtain ⟨v,e1,e2⟩:=B6R hg hA
 obtain ⟨v',e3,e4⟩:=B6R hg hB
 have e5:=@B0O p ht (⟨#[]⟩ : ByteArray)
 unfold rCk
 rcases hk with rfl | rfl | rfl | rfl | rfl
 ·have:=h1 rfl
  rw [A6I 1 rfl (by omega) (by omega) hw hw']
  simp [U0,A0R,A1r,X8,Q6,O0,P7,U1,W9,U8,a0,b0,hAB,e1,e2,e3,e4,e5]
  rw [decide_eq_false (by omega : ¬ n < 0),decide_eq_false (by omega : ¬ 24 < n)]; simp
 ·have:=h0 (by omega) (by omega)
  subst this
  rw [A6I 2 rfl (by omega) (by omega) hw hw']
  simp [U0,A0R,A1r,X8,Q6,O0,P7,U1,W9,U8,a0,b0,hAB,e1,e2,e3,e4,e5]
 ·have:=h0 (by omega) (by omega)
  subst this
  rw [A6I 3 rfl (by omega) (by omega) hw hw']
  simp [U0,A0R,A1r,X8,Q6,O0,P7,U1,W9,U8,a0,b0,hAB,e1,e2,e3,e4,e5]
 ·have:=h4 rfl
  rw [A6I 4 rfl (by omega) (by omega) hw hw']
  simp [U0,A0R,A1r,X8,Q6,O0,P7,U1,W9,U8,a0,b0,hAB,e1,e2,e3,e4,e5]
  rw [decide_eq_false (by omega : ¬ n < 1),decide_eq_false (by omega : ¬ 24 < n)]; simp
 ·have:=h0 (by omega) (by omega)
  subst this
  rw [A6I 5 rfl (by omega) (by omega) hw hw']
  simp [U0,A0R,A1r,X8,Q6,O0,P7,U1,W9,U8,a0,b0,hAB,e1,e2,e3,e4,e5]
theorem D1P {p : A9} (hg : p.A8.length≤maxLen) (ht : p.D7.length≤maxLen) {w : Int} {A T : ByteArray} (hw : 0≤w) (hw' : w≤1000) (hA : 0≤A9c p A) (a0 : A ≠ ⟨#[]⟩) (t0 : T ≠ ⟨#[]⟩) (hT : 0≤A6g p T) : rCk p ⟨6,w,A,⟨#[]⟩,T,0⟩ = 0:=by
 obtain ⟨v,e1,e2⟩:=B6R hg hA
 have e5:=@B0O p ht T
 have e6 : decide (A6g p T < 0) = false:=decide_eq_false (by omega)
 unfold rCk
 rw [A6I 6 rfl (by omega) (by omega) hw hw']
 simp [U0,A1n,A2f,X8,A1y,Q6,O0,P7,U1,W9,U8,a0,t0,e1,e2,e5]
 simp only [e6]
 rfl
theorem C9M {p : A9} (hg : p.A8.length≤maxLen) (ht : p.D7.length≤maxLen) {w n : Int} {A T : ByteArray} (hw : 0≤w) (hw' : w≤1000) (hA : 0≤A9c p A) (a0 : A ≠ ⟨#[]⟩) (t0 : T ≠ ⟨#[]⟩) (hT : 0≤A6g p T) {t : C8} (hx : J6 p.D7 (A6g p T) = some t) (hn : 0≤n) (hn' : n < V7 t) : rCk p ⟨7,w,A,⟨#[]⟩,T,n⟩ = 0:=by
 obtain ⟨v,e1,e2⟩:=B6R hg hA
 have e5:=@B0O p ht T
 have e6 : decide (A6g p T < 0) = false:=decide_eq_false (by omega)
 have hb:=A1L t
 unfold rCk
 rw [A6I 7 rfl (by omega) (by omega) hw hw']
 have n1 : decide (n < 0) = false:=decide_eq_false (by omega)
 have n2 : decide (V7 t - 1 < n) = false:=decide_eq_false (by omega)
 have hr:=A9d (show -1000000000≤V7 t - 1 by omega) (by omega)
 simp [U0,A1n,A2f,X8,A1y,Q6,O0,P7,U1,W9,U8,a0,t0,e1,e2,e5]
 simp only [e6]
 cases decide (n = 0) <;> simp [hx,B5g,hr,n1,n2]
 all_goals (rw [if_neg (by omega)])
theorem C5t {p : A9} (hg : p.A8.length≤maxLen) (ht : p.D7.length≤maxLen) {w : Int} {A : ByteArray} (hw : 0≤w) (hw' : w≤1000) (hA : A = ⟨#[]⟩∨(A ≠ ⟨#[]⟩∧0≤A9c p A)) : rCk p ⟨10,w,A,⟨#[]⟩,⟨#[]⟩,0⟩ = 0:=by
 have e5:=@B0O p ht (⟨#[]⟩ : ByteArray)
 unfold rCk
 rw [A6I 10 rfl (by omega) (by omega) hw hw']
 rcases hA with rfl | ⟨a0,hA⟩
 ·simp [U0,A2e,A1n,A2f,X8,A1y,Q6,O0,P7,U1,W9,U8,e5]
 ·obtain ⟨v,e1,e2⟩:=B6R hg hA
  simp [U0,A1n,A2f,X8,A1y,Q6,O0,P7,U1,W9,U8,a0,e1,e2,e5]
theorem C6j {p : A9} (hg : p.A8.length≤maxLen) (ht : p.D7.length≤maxLen) {w : Int} {A T : ByteArray} (hw : 0≤w) (hw' : w≤1000) (a0 : A ≠ ⟨#[]⟩) (ha : A.size≤maxLen) (hn : A3o A = true) (t0 : T ≠ ⟨#[]⟩) (hT : 0≤A6g p T) : rCk p ⟨17,w,A,⟨#[]⟩,T,0⟩ = 0:=by
 have e5:=@B0O p ht T
 have e6 : decide (A6g p T < 0) = false:=decide_eq_false (by omega)
 unfold rCk
 rw [A6I 17 rfl (by omega) (by omega) hw hw']
 simp [U0,A4h,A5T,X8,A1y,Q6,O0,P7,U1,W9,U8,a0,t0,B8p ha,hn,e5]
 simp only [e6]
 rfl
theorem C9z {p : A9} (hg : p.A8.length≤maxLen) (ht : p.D7.length≤maxLen) {k w n : Int} {T : ByteArray} (hk : k = 8∨k = 9∨k = 11∨k = 12∨k = 13∨k = 14∨k = 18∨k = 15∨k = 16) (hw : 0≤w) (hw' : w≤1000) (hT : T = ⟨#[]⟩∨(T ≠ ⟨#[]⟩∧0≤A6g p T)) (hn : n = 0∨((k = 15∨k = 16)∧0≤n∧n≤24)) : rCk p ⟨k,w,⟨#[]⟩,⟨#[]⟩,T,n⟩ = 0:=by
 have e5:=@B0O p ht T
 have key : ∀ k : Nat,8≤k→k≤18→k ≠ 10→k ≠ 17→(n = 0∨((k = 15∨k = 16)∧0≤n∧n≤24))→rCk p ⟨(k : Int),w,⟨#[]⟩,⟨#[]⟩,T,n⟩ = 0:=by
  intro k h1 h2 h3 h4 h5
  unfold rCk
  rw [A6I k rfl (by omega) h2 hw hw']
  have d1 : ((k : Int) = 1) = False:=eq_false (by omega)
  have d2 : ((k : Int) = 2) = False:=eq_false (by omega)
  have d3 : ((k : Int) = 3) = False:=eq_false (by omega)
  have d4 : ((k : Int) = 4) = False:=eq_false (by omega)
  have d5 : ((k : Int) = 5) = False:=eq_false (by omega)
  have d6 : ((k : Int) = 6) = False:=eq_false (by omega)
  have d7 : ((k : Int) = 7) = False:=eq_false (by omega)
  have d10 : ((k : Int) = 10) = False:=eq_false (by omega)
  have d17 : ((k : Int) = 17) = False:=eq_false (by omega)
  have two : X8 (k : Int) = some false:=by simp only [X8,d1,d2,d3,d4,d5,decide_false,cond_false]
  have one : A1y (k : Int) = some false:=by simp only [A1y,d6,d7,d10,decide_false,cond_false]
  have tb : Q6 (k : Int) = some 2:=by simp only [Q6,two,d6,d7,d10,d17,decide_false,cond_false,Option.bind_some]
  obtain ⟨nm,num,hnm⟩ : ∃ b,O0 (k : Int) = some b∧(n = 0∨(b = true∧0≤n∧n≤24)):=by
   simp only [O0,d1,d4,d7,decide_false,cond_false]
   rcases h5 with h5 | ⟨h5 | h5,h6⟩
   ·cases decide ((k : Int) = 15) <;> exact ⟨_,rfl,.inl h5⟩
   ·subst h5; exact ⟨_,rfl,.inr ⟨rfl,h6⟩⟩
   ·subst h5; exact ⟨_,rfl,.inr ⟨rfl,h6⟩⟩
  have head : A2e ⟨(k : Int),w,⟨#[]⟩,⟨#[]⟩,T,n⟩ = some false:=by
   simp only [A2e,tb,num,Option.bind_some]
   rcases hnm with rfl | ⟨rfl,_⟩
   ·rcases hT with rfl | ⟨t0,_⟩ <;> simp [*]
   ·rcases hT with rfl | ⟨t0,_⟩ <;> simp [*] <;> cases decide (n = 0) <;> rfl
  have mid : P7 p ⟨(k : Int),w,⟨#[]⟩,⟨#[]⟩,T,n⟩ = some false:=by simp only [P7,two,one,Option.bind_some,cond_false]
  have tabs : W9 ⟨(k : Int),w,⟨#[]⟩,⟨#[]⟩,T,n⟩ (A6g p T) = some false:=by
   simp only [W9,tb,Option.bind_some]
   rcases hT with rfl | ⟨t0,hT⟩
   ·rfl
   ·have e6 : decide (A6g p T < 0) = false:=decide_eq_false (by omega)
    simp [t0,e6]
  have fin : U8 p ⟨(k : Int),w,⟨#[]⟩,⟨#[]⟩,T,n⟩ (A6g p T) = some 0:=by
   simp only [U8,num,d4,d7,decide_false,cond_false,Option.bind_some]
   cases nm
   ·rfl
   ·rw [decide_eq_false (by omega : ¬ n < 0),decide_eq_false (by omega : ¬ 24 < n)]; rfl
  simp only [U0,U1,two,one,head,mid,tabs,fin,e5,d17,decide_true,decide_false,Bool.not_true,cond_false,Option.bind_some]
  rfl
 rcases hk with rfl | rfl | rfl | rfl | rfl | rfl | rfl | rfl | rfl
 ·exact key 8 (by omega) (by omega) (by omega) (by omega) (by omega)
 ·exact key 9 (by omega) (by omega) (by omega) (by omega) (by omega)
 ·exact key 11 (by omega) (by omega) (by omega) (by omega) (by omega)
 ·exact key 12 (by omega) (by omega) (by omega) (by omega) (by omega)
 ·exact key 13 (by omega) (by omega) (by omega) (by omega) (by omega)
 ·exact key 14 (by omega) (by omega) (by omega) (by omega) (by omega)
 ·exact key 18 (by omega) (by omega) (by omega) (by omega) (by omega)
 ·exact key 15 (by omega) (by omega) (by omega) (by omega) (by omega)
 ·exact key 16 (by omega) (by omega) (by omega) (by omega) (by omega)
end Go.Pl
namespace Go.Pl
open Go Go.Sl Go.Dm
structure MTs (ts : List C8) : Prop where
 len : ts.length≤3
 t : ∀ i t,ts[i]? = some t→A5l t = 0∧t.F8 = wd i∧A1D (C8.mk t.F8 t.O6 t.fA t.fB ([] : List Int) t.fX t.fY) = some (V7 t)∧V7 t≤8∧OkT t
theorem D0o : ([0,1,2].all fun i=>!decide (wd i = (⟨#[]⟩ : ByteArray)) && [0,1,2].all fun j=>decide (i = j) || !decide (wd i = wd j)) = true:=by kernel_rfl
theorem D1W {i : Nat} (h : i < 3) : wd i ≠ (⟨#[]⟩ : ByteArray):=by
 have:=List.all_eq_true.1 D0o i (by simp; omega)
 simp only [Bool.and_eq_true,Bool.not_eq_true',decide_eq_false_iff_not] at this
 exact this.1
theorem C8r {i j : Nat} (hi : i < 3) (hj : j < 3) (h : wd i = wd j) : i = j:=by
 have:=List.all_eq_true.1 D0o i (by simp; omega)
 simp only [Bool.and_eq_true] at this
 have:=List.all_eq_true.1 this.2 j (by simp; omega)
 simp only [Bool.or_eq_true,decide_eq_true_eq,Bool.not_eq_true',decide_eq_false_iff_not] at this
 rcases this with e | e
 ·exact e
 ·exact absurd h e
theorem C5f {α : Type} (p : α→Bool) : ∀ (l : List α) (i k : Nat) (x : α),l[k]? = some x→p x = true→(∀ j y,j < k→l[j]? = some y→p y = false)→A0Z p i l = ((i + k : Nat) : Int)
 | [],_,_,_,h,_,_=>by simp at h
 | y::l,i,0,x,h,hp,_=>by simp at h; subst h; simp [A0Z,hp]
 | y::l,i,k + 1,x,h,hp,hq=>by
  have h0:=hq 0 y (by omega) rfl
  simp only [A0Z,h0,Bool.false_eq_true,if_false]
  rw [C5f p l (i + 1) k x (by simpa using h) hp (fun j z hj hz=>hq (j + 1) z (by omega) (by simpa using hz))]
  congr 1
  omega
theorem MTs.tab {p : A9} (h : MTs p.D7) {i : Nat} (hi : i < p.D7.length) : A6g p (wd i) = (i : Int):=by
 have hx:=List.getElem?_eq_getElem hi
 have hl:=h.len
 unfold A6g
 rw [C5f _ p.D7 0 i _ hx (by rw [(h.t i _ hx).2.1]; simp) (fun j y hj hy=>by
  rw [(h.t j y hy).2.1]
  refine decide_eq_false fun e=>?_
  have:=C8r (by omega) (by omega) e
  omega)]
 congr 1
 omega
theorem MGs.who {p : A9} (h : MGs p.A8) {i : Nat} {g : D6} (hg : p.A8[i]? = some g) : 0≤A9c p g.F8∧g.F8 ≠ ⟨#[]⟩:=by
 have hl:=h.len
 have hi:=P8 hg
 refine ⟨?_,by rw [(h.g i g hg).name]; exact D2c (B7n (by omega))⟩
 unfold A9c
 rw [B0P]
 exact List.any_eq_true.2 ⟨g,A2h hg,by simp⟩
theorem C5Q {m n : Nat} (hm : m≤9223372036854775807) (hn : 0 < n) : A4V (m : Int) (n : Int) = some ((m / n : Nat) : Int):=by
 obtain ⟨n,rfl⟩ : ∃ k,n = k + 1:=⟨n - 1,by omega⟩
 show (bif Nat.ble m 9223372036854775807 then some (Int.ofNat (m / (n + 1))) else none) = _
 rw [Nat.ble_eq_true_of_le hm]
 rfl
theorem C8l {m n : Nat} (hn : 0 < n) : Y7 (m : Int) (n : Int) = some ((m % n : Nat) : Int):=by
 obtain ⟨n,rfl⟩ : ∃ k,n = k + 1:=⟨n - 1,by omega⟩
 rfl
structure RU (r : F6) : Prop where
 u : OkU r
 a : r.fA.size≤2
 b : r.fB.size≤2
theorem C8H {p : A9} (hG : MGs p.A8) (hT : MTs p.D7) {x : Nat} (hx : x≤4294967295) : ∃ r b,A9l p (x : Int) = some (r,b)∧(b = true→rCk p r = 0∧RU r):=by
 have lg:=hG.len
 have lt:=hT.len
 have mg : p.A8.length≤maxLen:=by rw [mx]; omega
 have mt : p.D7.length≤maxLen:=by rw [mx]; omega
 have q18 : A4V (x : Int) 18 = some ((x / 18 : Nat) : Int):=C5Q (n:=18) (by omega) (by omega)
 have r18 : Y7 (x : Int) 18 = some ((x % 18 : Nat) : Int):=rfl
 have r5 : ∀ m : Nat,Y7 (m : Int) 5 = some ((m % 5 : Nat) : Int):=fun m=>rfl
 have r7 : ∀ m : Nat,Y7 (m : Int) 7 = some ((m % 7 : Nat) : Int):=fun m=>rfl
 have r4 : ∀ m : Nat,Y7 (m : Int) 4 = some ((m % 4 : Nat) : Int):=fun m=>rfl
 have r3 : ∀ m : Nat,Y7 (m : Int) 3 = some ((m % 3 : Nat) : Int):=fun m=>rfl
 have q5 : A4V ((x / 18 : Nat) : Int) 5 = some ((x / 18 / 5 : Nat) : Int):=C5Q (n:=5) (by omega) (by omega)
 have e1 : (1 : Int) + ((x % 18 : Nat) : Int) = ((1 + x % 18 : Nat) : Int):=by omega
 have e2 : (1 : Int) + ((x / 18 % 7 : Nat) : Int) = ((1 + x / 18 % 7 : Nat) : Int):=by omega
 obtain ⟨w,hw,w0,w1⟩ : ∃ w : Nat,(bif decide ((1 : Int) < ((x / 18 % 5 : Nat) : Int)) then Option.bind (Y7 ((x / 18 : Nat) : Int) (7 : Int)) fun t28=>Option.bind (N7 ((1 : Int) + t28)) fun t29=>some t29 else some (0 : Int)) = some (w : Int)∧0≤(w : Int)∧(w : Int)≤1000:=by
  cases decide ((1 : Int) < ((x / 18 % 5 : Nat) : Int))
  ·exact ⟨0,rfl,by omega,by omega⟩
  ·exact ⟨1 + x / 18 % 7,by simp only [cond_true,r7,e2,A9d (show -1000000000≤((1 + x / 18 % 7 : Nat) : Int) by omega) (by omega),Option.bind_some],by omega,by omega⟩
 simp only [A9l,r18,e1,A9d (show -1000000000≤((1 + x % 18 : Nat) : Int) by omega) (by omega),C6F (show 1 + x % 18≤255 by omega),q18,r5,q5,hw,Option.bind_some]
 have hk1 : 1≤1 + x % 18:=by omega
 have hk2 : 1 + x % 18≤18:=by omega
 have hz : x / 18 / 5≤4294967295:=by omega
 generalize 1 + x % 18 = k at hk1 hk2
 generalize x / 18 / 5 = z at hz
 by_cases hg0 : p.A8.length = 0
 ·rw [decide_eq_true (show (p.A8.length : Int) = 0 by omega)]
  exact ⟨_,_,rfl,fun h=>by cases h⟩
 rw [decide_eq_false (show ¬ (p.A8.length : Int) = 0 by omega)]
 by_cases ht0 : p.D7.length = 0
 ·rw [decide_eq_true (show (p.D7.length : Int) = 0 by omega)]
  exact ⟨_,_,rfl,fun h=>by cases h⟩
 rw [decide_eq_false (show ¬ (p.D7.length : Int) = 0 by omega)]
 simp only [cond_false,Option.bind_some]
 have a1:=C8l (m:=z) (n:=p.A8.length) (by omega)
 have a2:=C5Q (m:=z) (n:=p.A8.length) (by omega) (by omega)
 have a3:=C8l (m:=z / p.A8.length) (n:=p.A8.length) (by omega)
 have a4 : A4V (z : Int) 7 = some ((z / 7 : Nat) : Int):=C5Q (n:=7) (by omega) (by omega)
 have a5:=C8l (m:=z / 7) (n:=p.D7.length) (by omega)
 have a6 : A4V (z : Int) 11 = some ((z / 11 : Nat) : Int):=C5Q (n:=11) (by omega) (by omega)
 have a7 : A4V (z : Int) 13 = some ((z / 13 : Nat) : Int):=C5Q (n:=13) (by omega) (by omega)
 obtain ⟨ga,hA⟩ : ∃ g,p.A8[z % p.A8.length]? = some g:=⟨_,List.getElem?_eq_getElem (Nat.mod_lt z (show p.A8.length > 0 by omega))⟩
 obtain ⟨gb,hB⟩ : ∃ g,p.A8[z / p.A8.length % p.A8.length]? = some g:=⟨_,List.getElem?_eq_getElem (Nat.mod_lt (z / p.A8.length) (show p.A8.length > 0 by omega))⟩
 obtain ⟨ta,hTt⟩ : ∃ g,p.D7[z / 7 % p.D7.length]? = some g:=⟨_,List.getElem?_eq_getElem (Nat.mod_lt (z / 7) (show p.D7.length > 0 by omega))⟩
 have htl:=Nat.mod_lt (z / 7) (show p.D7.length > 0 by omega)
 have hal:=Nat.mod_lt z (show p.A8.length > 0 by omega)
 have hbl:=Nat.mod_lt (z / p.A8.length) (show p.A8.length > 0 by omega)
 simp only [B2r,a1,a2,a3,a4,a5,a6,r4,Option.bind_some]
 have hn4 : z / 11 % 4 < 4:=by omega
 generalize z / 11 % 4 = n at hn4
 generalize z / 13 = y at a7
 generalize z / p.A8.length % p.A8.length = b at hB hbl
 generalize z % p.A8.length = a at hA hal
 generalize z / 7 % p.D7.length = t at hTt htl
 have hr3 : ∃ c : Bool,Y7 (z : Int) (3 : Int) = some ((z % 3 : Nat) : Int):=⟨true,rfl⟩
 have wA:=hG.who hA
 have wB:=hG.who hB
 have nA:=hG.g a ga hA
 have nB:=hG.g b gb hB
 have tT:=hT.t t ta hTt
 have tI : A6g p ta.F8 = (t : Int):=by rw [tT.2.1]; exact hT.tab htl
 have tN : ta.F8 ≠ ⟨#[]⟩:=by rw [tT.2.1]; exact D1W (by omega)
 have tC : J6 p.D7 (A6g p ta.F8) = some ta:=by rw [tI]; exact K9 hTt
 have gA:=K9 hA
 have gB:=K9 hB
 have gT:=K9 hTt
 have og:=nA.og
 have hne : a ≠ b→ga.F8 ≠ gb.F8:=fun hab e=>by
  rw [nA.name,nB.name] at e
  exact hab (C7Q (by omega) (by omega) (C6i (Nat.le_of_lt (B7n (by omega))) (Nat.le_of_lt (B7n (by omega))) e))
 have okU : ∀ {k : Int} {A B T : ByteArray} {n : Int},0≤k→k≤255→A.size≤2→B.size≤2→RU ⟨k,(w : Int),A,B,T,n⟩:=fun h h' h2 h3=>⟨⟨⟨h,h'⟩,by rw [mx]; dsimp only; omega⟩,h2,h3⟩
 have z0 : (⟨#[]⟩ : ByteArray).size≤2:=Nat.zero_le _
 have sA : ga.F8.size≤2:=by rw [nA.name,(B6k (B7n (by omega))).2.2]; omega
 have sB : gb.F8.size≤2:=by rw [nB.name,(B6k (B7n (by omega))).2.2]; omega
 have two : ∀ (k : Int) (m : Int),(k = 1∨k = 2∨k = 3∨k = 4∨k = 5)→(k = 1→0≤m∧m≤24)→(k = 4→1≤m∧m≤24)→(k ≠ 1→k ≠ 4→m = 0)→(!decide ((a : Int) = (b : Int))) = true→rCk p ⟨k,(w : Int),ga.F8,gb.F8,⟨#[]⟩,m⟩ = 0∧RU ⟨k,(w : Int),ga.F8,gb.F8,⟨#[]⟩,m⟩:=fun k m h1 h2 h3 h4 h5=>by
  simp only [Bool.not_eq_true',decide_eq_false_iff_not] at h5
  exact ⟨D0y mg mt h1 w0 w1 wA.1 wB.1 (hne fun e=>h5 (by rw [e])) wA.2 wB.2 h2 h3 h4,okU (by omega) (by omega) sA sB⟩
 have rest : ∀ (k : Int) (T : ByteArray) (m : Int),(k = 8∨k = 9∨k = 11∨k = 12∨k = 13∨k = 14∨k = 18∨k = 15∨k = 16)→(T = ⟨#[]⟩∨T = ta.F8)→(m = 0∨((k = 15∨k = 16)∧0≤m∧m≤24))→rCk p ⟨k,(w : Int),⟨#[]⟩,⟨#[]⟩,T,m⟩ = 0∧RU ⟨k,(w : Int),⟨#[]⟩,⟨#[]⟩,T,m⟩:=fun k T m h1 h2 h3=>by
  refine ⟨C9z mg mt h1 w0 w1 ?_ h3,okU (by omega) (by omega) z0 z0⟩
  rcases h2 with rfl | rfl
  ·exact .inl rfl
  ·exact .inr ⟨tN,by omega⟩
 obtain h | h | h | h | h | h | h | h | h | h | h | h | h | h | h | h | h | h : k = 1∨k = 2∨k = 3∨k = 4∨k = 5∨k = 6∨k = 7∨k = 8∨k = 9∨k = 10∨k = 11∨k = 12∨k = 13∨k = 14∨k = 15∨k = 16∨k = 17∨k = 18:=by omega
 all_goals subst h
 ·exact ⟨⟨1,w,ga.F8,gb.F8,⟨#[]⟩,n⟩,!decide ((a : Int) = (b : Int)),by simp [A2Z,gA,gB],fun h=>two 1 (n : Int) (by simp) (fun _=>by omega) (fun h=>by omega) (fun h=>by omega) h⟩
 ·exact ⟨⟨2,w,ga.F8,gb.F8,⟨#[]⟩,0⟩,!decide ((a : Int) = (b : Int)),by simp [A2Z,gA,gB],fun h=>two 2 0 (by simp) (fun _=>by omega) (fun h=>by omega) (fun _ _=>rfl) h⟩
 ·exact ⟨⟨3,w,ga.F8,gb.F8,⟨#[]⟩,0⟩,!decide ((a : Int) = (b : Int)),by simp [A2Z,gA,gB],fun h=>two 3 0 (by simp) (fun _=>by omega) (fun h=>by omega) (fun _ _=>rfl) h⟩
 ·exact ⟨⟨4,w,ga.F8,gb.F8,⟨#[]⟩,(n : Int) + 1⟩,!decide ((a : Int) = (b : Int)),by simp [A2Z,gA,gB,A9d (show -1000000000≤(n : Int) + 1 by omega) (by omega)],fun h=>two 4 ((n : Int) + 1) (by simp) (fun h=>by omega) (fun _=>by omega) (fun _ h=>by omega) h⟩
 ·exact ⟨⟨5,w,ga.F8,gb.F8,⟨#[]⟩,0⟩,!decide ((a : Int) = (b : Int)),by simp [A2Z,gA,gB],fun h=>two 5 0 (by simp) (fun _=>by omega) (fun h=>by omega) (fun _ _=>rfl) h⟩
 ·exact ⟨⟨6,w,ga.F8,⟨#[]⟩,ta.F8,0⟩,true,by simp [A8W,gA,gT],fun _=>⟨D1P mg mt w0 w1 wA.1 wA.2 tN (by omega),okU (by omega) (by omega) sA z0⟩⟩
 ·have hb:=A1L ta
  have hpos:=(B6I tT.1).2.1
  obtain ⟨s,hs⟩:=Int.eq_ofNat_of_zero_le hb.1
  have m1:=C8l (m:=y) (n:=s) (by omega)
  have hlt:=Nat.mod_lt y (show s > 0 by omega)
  have sz:=tT.2.2.1
  rw [hs] at sz
  exact ⟨⟨7,w,ga.F8,⟨#[]⟩,ta.F8,((y % s : Nat) : Int)⟩,true,by simp only [A8W,gA,gT,a7,sz,m1,Option.bind_some]; rfl,fun _=>⟨C9M mg mt w0 w1 wA.1 wA.2 tN (by omega) tC (by omega) (by omega),okU (by omega) (by omega) sA z0⟩⟩
 all_goals simp only [B2N,B3x,r3,gA,gT]
 ·by_cases h3 : 0 < z % 3
  ·exact ⟨⟨8,w,⟨#[]⟩,⟨#[]⟩,ta.F8,0⟩,true,by simp [show (0 : Int) < (z : Int) % 3 by omega],fun _=>rest 8 _ 0 (by simp) (.inr rfl) (.inl rfl)⟩
  ·exact ⟨⟨8,w,⟨#[]⟩,⟨#[]⟩,⟨#[]⟩,0⟩,true,by simp [show ¬ (0 : Int) < (z : Int) % 3 by omega],fun _=>rest 8 _ 0 (by simp) (.inl rfl) (.inl rfl)⟩
 ·by_cases h3 : 0 < z % 3
  ·exact ⟨⟨9,w,⟨#[]⟩,⟨#[]⟩,ta.F8,0⟩,true,by simp [show (0 : Int) < (z : Int) % 3 by omega],fun _=>rest 9 _ 0 (by simp) (.inr rfl) (.inl rfl)⟩
  ·exact ⟨⟨9,w,⟨#[]⟩,⟨#[]⟩,⟨#[]⟩,0⟩,true,by simp [show ¬ (0 : Int) < (z : Int) % 3 by omega],fun _=>rest 9 _ 0 (by simp) (.inl rfl) (.inl rfl)⟩
 ·by_cases h3 : z % 3 = 0
  ·exact ⟨⟨10,w,ga.F8,⟨#[]⟩,⟨#[]⟩,0⟩,true,by simp [show (z : Int) % 3 = 0 by omega],fun _=>⟨C5t mg mt w0 w1 (.inr ⟨wA.2,wA.1⟩),okU (by omega) (by omega) sA z0⟩⟩
  ·exact ⟨⟨10,w,⟨#[]⟩,⟨#[]⟩,⟨#[]⟩,0⟩,true,by simp [show ¬ (z : Int) % 3 = 0 by omega],fun _=>⟨C5t mg mt w0 w1 (.inl rfl),okU (by omega) (by omega) z0 z0⟩⟩
 ·by_cases h3 : 0 < z % 3
  ·exact ⟨⟨11,w,⟨#[]⟩,⟨#[]⟩,ta.F8,0⟩,true,by simp [show (0 : Int) < (z : Int) % 3 by omega],fun _=>rest 11 _ 0 (by simp) (.inr rfl) (.inl rfl)⟩
  ·exact ⟨⟨11,w,⟨#[]⟩,⟨#[]⟩,⟨#[]⟩,0⟩,true,by simp [show ¬ (0 : Int) < (z : Int) % 3 by omega],fun _=>rest 11 _ 0 (by simp) (.inl rfl) (.inl rfl)⟩
 ·by_cases h3 : 0 < z % 3
  ·exact ⟨⟨12,w,⟨#[]⟩,⟨#[]⟩,ta.F8,0⟩,true,by simp [show (0 : Int) < (z : Int) % 3 by omega],fun _=>rest 12 _ 0 (by simp) (.inr rfl) (.inl rfl)⟩
  ·exact ⟨⟨12,w,⟨#[]⟩,⟨#[]⟩,⟨#[]⟩,0⟩,true,by simp [show ¬ (0 : Int) < (z : Int) % 3 by omega],fun _=>rest 12 _ 0 (by simp) (.inl rfl) (.inl rfl)⟩
 ·by_cases h3 : 0 < z % 3
  ·exact ⟨⟨13,w,⟨#[]⟩,⟨#[]⟩,ta.F8,0⟩,true,by simp [show (0 : Int) < (z : Int) % 3 by omega],fun _=>rest 13 _ 0 (by simp) (.inr rfl) (.inl rfl)⟩
  ·exact ⟨⟨13,w,⟨#[]⟩,⟨#[]⟩,⟨#[]⟩,0⟩,true,by simp [show ¬ (0 : Int) < (z : Int) % 3 by omega],fun _=>rest 13 _ 0 (by simp) (.inl rfl) (.inl rfl)⟩
 ·by_cases h3 : 0 < z % 3
  ·exact ⟨⟨14,w,⟨#[]⟩,⟨#[]⟩,ta.F8,0⟩,true,by simp [show (0 : Int) < (z : Int) % 3 by omega],fun _=>rest 14 _ 0 (by simp) (.inr rfl) (.inl rfl)⟩
  ·exact ⟨⟨14,w,⟨#[]⟩,⟨#[]⟩,⟨#[]⟩,0⟩,true,by simp [show ¬ (0 : Int) < (z : Int) % 3 by omega],fun _=>rest 14 _ 0 (by simp) (.inl rfl) (.inl rfl)⟩
 ·by_cases h3 : 0 < z % 3
  ·exact ⟨⟨15,w,⟨#[]⟩,⟨#[]⟩,ta.F8,(n : Int)⟩,true,by simp [show (0 : Int) < (z : Int) % 3 by omega],fun _=>rest 15 _ (n : Int) (by simp) (.inr rfl) (.inr ⟨by simp,by omega,by omega⟩)⟩
  ·exact ⟨⟨15,w,⟨#[]⟩,⟨#[]⟩,⟨#[]⟩,(n : Int)⟩,true,by simp [show ¬ (0 : Int) < (z : Int) % 3 by omega],fun _=>rest 15 _ (n : Int) (by simp) (.inl rfl) (.inr ⟨by simp,by omega,by omega⟩)⟩
 ·by_cases h3 : 0 < z % 3
  ·exact ⟨⟨16,w,⟨#[]⟩,⟨#[]⟩,ta.F8,(n : Int)⟩,true,by simp [show (0 : Int) < (z : Int) % 3 by omega],fun _=>rest 16 _ (n : Int) (by simp) (.inr rfl) (.inr ⟨by simp,by omega,by omega⟩)⟩
  ·exact ⟨⟨16,w,⟨#[]⟩,⟨#[]⟩,⟨#[]⟩,(n : Int)⟩,true,by simp [show ¬ (0 : Int) < (z : Int) % 3 by omega],fun _=>rest 16 _ (n : Int) (by simp) (.inl rfl) (.inr ⟨by simp,by omega,by omega⟩)⟩
 ·refine ⟨⟨17,w,ga.Z0,⟨#[]⟩,ta.F8,0⟩,!decide (ga.Z0 = (⟨#[]⟩ : ByteArray)),by simp,fun h=>?_⟩
  simp only [Bool.not_eq_true',decide_eq_false_iff_not] at h
  have hd:=nA.di
  unfold A2P at hd
  rw [decide_eq_false h,Bool.false_or] at hd
  exact ⟨C6j mg mt w0 w1 h og.diet hd tN (by omega),okU (by omega) (by omega) nA.ds z0⟩
 ·by_cases h3 : 0 < z % 3
  ·exact ⟨⟨18,w,⟨#[]⟩,⟨#[]⟩,ta.F8,0⟩,true,by simp [show (0 : Int) < (z : Int) % 3 by omega],fun _=>rest 18 _ 0 (by simp) (.inr rfl) (.inl rfl)⟩
  ·exact ⟨⟨18,w,⟨#[]⟩,⟨#[]⟩,⟨#[]⟩,0⟩,true,by simp [show ¬ (0 : Int) < (z : Int) % 3 by omega],fun _=>rest 18 _ 0 (by simp) (.inl rfl) (.inl rfl)⟩
end Go.Pl
namespace Go.Pl
open Go Go.Sl Go.Dm
theorem Vld.of {p : A9} (h : OkP p) (h1 : (A9W p.D7).2 = 0) (h2 : (B2f (R4.mk p.A8 p.I8)).2 = 0) (h3 : p.I6.length = 0∨p.I6.length = p.A8.length) (h4 : p.I6.all A4F = true) (h5 : (p.A8.length : Int)≤A0N p.D7)
  (h6 : p.J3.length≤64) (h7 : ∀ r ∈ p.J3,rCk p r = 0) : Vld p:=by
 refine ⟨h,?_⟩
 have hb : B8b p = (0,0):=by
  unfold B8b
  rw [if_neg (by simp [h1]),if_neg (by simp [h2]),if_neg (by omega),if_neg (by simp [h4]),if_neg (by omega)]
 have hr : Y4 (B7P p) 0 p.J3 = none:=A6p _ 0 fun k r hr=>by
  have:=P8 hr
  unfold B7P
  rw [if_neg (by simp [h7 r (A2h hr)]),if_neg (by omega)]
 unfold C5i
 rw [hb,hr]
 rfl
theorem A1Z {τ ρ : Type} {bad : Nat→τ→Option ρ} {fin : ρ} : ∀ (xs : List τ) (i : Nat),(∀ k x,xs[k]? = some x→bad (i + k) x = none)→A1H bad fin i xs = fin
 | [],_,_=>rfl
 | x::xs,i,h=>by
  simp only [A1H]
  rw [show bad i x = none from h 0 x rfl]
  exact A1Z xs (i + 1) (fun k y hy=>by rw [show i + 1 + k = i + (k + 1) by omega]; exact h (k + 1) y hy)
theorem MTs.ok {l : List C8} (h : MTs l) : C4a l∧(A9W l).2 = 0:=by
 have hl:=h.len
 refine ⟨⟨by rw [mx]; omega,fun t ht=>?_⟩,?_⟩
 ·obtain ⟨i,hi⟩:=List.getElem?_of_mem ht
  exact (h.t i t hi).2.2.2.2
 ·unfold A9W
  rw [if_neg (by omega),A1Z l 0 (fun k t ht=>?_)]
  ·rfl
  have hk:=P8 ht
  have:=h.t k t ht
  unfold B6g
  rw [Nat.zero_add,if_neg (by simp [this.1]),if_neg]
  intro hc
  obtain ⟨y,hy,e⟩:=List.any_eq_true.1 hc
  obtain ⟨j,hj⟩:=List.getElem?_of_mem hy
  have hjk:=P8 hj
  rw [List.length_take] at hjk
  have hj' : l[j]? = some y:=by rw [List.getElem?_take] at hj; rw [if_pos (by omega)] at hj; exact hj
  rw [decide_eq_true_eq,(h.t j y hj').2.1,this.2.1] at e
  have:=C8r (by omega) (by omega) e
  omega
structure C2I (m : A0g) : Prop where
 t : ∀ e ∈ m.D7,0≤e∧e≤255
 g : ∀ e ∈ m.A8,0≤e∧e≤65535
 i : ∀ e ∈ m.I8,0≤e∧e≤255
 r : ∀ e ∈ m.J3,0≤e∧e≤4294967295
 tl : m.D7.length≤maxLen
 gl : m.A8.length≤maxLen
 il : m.I8.length≤maxLen
 rl : m.J3.length≤maxLen
theorem C8w (l : List C8) (t : C8) : A0N (l ++ [t]) = A0N l + V7 t:=by simp [A0N]
theorem C5r {m : A0g} (h : C2I m) : ∃ s ts,iter (A4C m) FUEL (([] : List C8),(0 : Int),(0 : Int)) = some (s,ts)∧MTs ts∧s = A0N ts∧ts.length = min m.D7.length 3:=by
 obtain ⟨r,hr,hq⟩:=X5 (f:=A4C m) (fun s=>∃ k : Nat,s.2.2 = (k : Int)∧k≤min m.D7.length 3∧s.1.length = k∧MTs s.1∧s.2.1 = A0N s.1) (fun s=>3 - s.2.2.toNat) (fun r=>MTs r.2∧r.1 = A0N r.2∧r.2.length = min m.D7.length 3) (fun s hs=>by
  obtain ⟨ts,s,i⟩:=s
  obtain ⟨k,hk,hkn,hl,hT,hsum⟩:=hs
  simp only at hk hl hT hsum
  subst hk; subst hsum
  simp only [A4C]
  by_cases hlt : k < m.D7.length∧k < 3
  ·left
   have h1 : decide ((k : Int) < (m.D7.length : Int)) = true:=decide_eq_true (by omega)
   have h2 : decide ((k : Int) < 3) = true:=decide_eq_true (by omega)
   have hx:=List.getElem?_eq_getElem hlt.1
   have hb:=h.t _ (List.getElem_mem hlt.1)
   generalize m.D7[k] = e at hx hb
   obtain ⟨e,rfl⟩:=Int.eq_ofNat_of_zero_le hb.1
   obtain ⟨t,e1,t1,t2,t3,t4,t5⟩:=C8W hlt.2 (show e < 256 by omega)
   have hbs:=A6M ts
   have hts:=A1L t
   simp only [h1,h2,cond_true,Option.bind_some,K9 hx,B8j (show (0 : Int)≤(e : Int) by omega) (by omega),e1,A0t (show ts.length≤1000 by omega),t3,A9d (show -1000000000≤A0N ts + V7 t by omega) (by omega),M4 (show k < 9223372036854775807 by omega)]
   refine ⟨_,rfl,⟨k + 1,rfl,by omega,by simp [hl],⟨by simp; omega,fun i t' h'=>?_⟩,(C8w ts t).symm⟩,by dsimp only; omega⟩
   dsimp only at h'
   rw [List.getElem?_append] at h'
   split at h'
   ·exact hT.t i t' h'
   ·have hi0 : i - ts.length = 0:=by
     have:=P8 h'
     simp at this
     omega
    rw [hi0] at h'
    simp at h'
    subst h'
    have : i = k:=by omega
    subst this
    exact ⟨t1,t2,t3,t4,t5⟩
  ·right
   have : (bif decide ((k : Int) < (m.D7.length : Int)) then some (decide ((k : Int) < (3 : Int))) else some false) = some false:=by
    by_cases h1 : k < m.D7.length
    ·rw [decide_eq_true (show (k : Int) < (m.D7.length : Int) by omega),cond_true,decide_eq_false (show ¬ (k : Int) < 3 by omega)]
    ·rw [decide_eq_false (show ¬ (k : Int) < (m.D7.length : Int) by omega)]; rfl
   simp only [this,Option.bind_some,cond_false]
   exact ⟨_,rfl,hT,rfl,by dsimp only; omega⟩) FUEL (([] : List C8),(0 : Int),(0 : Int)) ⟨0,rfl,by omega,rfl,⟨by simp,fun i t h=>by simp at h⟩,rfl⟩ (fuel (by dsimp only; omega))
 exact ⟨r.1,r.2,hr,hq⟩
theorem C9G {m : A0g} (h : C2I m) : ∃ p,B1D m = some p∧Vld p∧MGs p.A8∧MTs p.D7∧p.J3.length≤12∧∀ r ∈ p.J3,RU r:=by
 obtain ⟨s,ts,e1,hT,rfl,hl⟩:=C5r h
 have hTl:=hT.len
 have hbs:=A6M ts
 obtain ⟨n,hn⟩:=Int.eq_ofNat_of_zero_le hbs.1
 have hmin : min (m.A8.length : Int) (n : Int) = ((min m.A8.length n : Nat) : Int):=by omega
 have hmx:=mx
 obtain ⟨r,e2,hG,hGl,hR,hRc⟩:=C7u (gn:=m.A8.take (min m.A8.length n)) (tn:=m.I8) (fun e he=>h.g e (List.mem_of_mem_take he)) h.i h.il
 rw [List.length_take] at hGl
 obtain ⟨cl,e3,hc1,hc2⟩ : ∃ cl,(bif decide ((0 : Int) < ((m.I8.length % 4 : Nat) : Int)) then Option.bind (iter (A4Q m r) FUEL (([] : List Int),(0 : Int))) fun class158=>some class158 else some ([] : List Int)) = some cl∧(cl.length = 0∨cl.length = r.A8.length)∧cl.all A4F = true:=by
  cases decide ((0 : Int) < ((m.I8.length % 4 : Nat) : Int))
  ·exact ⟨[],rfl,.inl rfl,rfl⟩
  ·obtain ⟨cl,hq,hl2,ha⟩:=X5 (f:=A4Q m r) (fun s=>∃ k : Nat,s.2 = (k : Int)∧k≤r.A8.length∧s.1.length = k∧s.1.all A4F = true) (fun s=>r.A8.length - s.2.toNat) (fun cl=>cl.length = r.A8.length∧cl.all A4F = true) (fun s hs=>by
    obtain ⟨cl,i⟩:=s
    obtain ⟨k,hk,hkn,hl,ha⟩:=hs
    simp only at hk hl ha
    subst hk
    simp only [A4Q,Bool.cond_decide]
    by_cases hlt : (k : Int) < (r.A8.length : Int)
    ·left
     have hkl : k < m.A8.length:=by omega
     have hx:=List.getElem?_eq_getElem hkl
     have hb:=h.g _ (List.getElem_mem hkl)
     generalize m.A8[k] = e at hx hb
     obtain ⟨e,rfl⟩:=Int.eq_ofNat_of_zero_le hb.1
     have q3 : A4V (e : Int) 3 = some ((e / 3 : Nat) : Int):=C5Q (n:=3) (by omega) (by omega)
     have r4 : Y7 ((e / 3 : Nat) : Int) 4 = some ((e / 3 % 4 : Nat) : Int):=rfl
     rw [if_pos hlt]
     simp only [K9 hx,B8j (show (0 : Int)≤(e : Int) by omega) (by omega),q3,r4,A0t (show cl.length≤1000 by have:=hG.len; omega),M4 (show k < 9223372036854775807 by omega),Option.bind_some]
     refine ⟨_,rfl,⟨k + 1,rfl,by omega,by simp [hl],?_⟩,by dsimp only; omega⟩
     dsimp only
     rw [List.all_append,ha]
     simp [A4F]
     omega
    ·right
     rw [if_neg hlt]
     exact ⟨_,rfl,by omega,ha⟩) FUEL (([] : List Int),(0 : Int)) ⟨0,rfl,by omega,rfl,rfl⟩ (fuel (by have:=hG.len; dsimp only; omega))
   exact ⟨cl,by simp only [cond_true,hq,Option.bind_some],.inr hl2,ha⟩
 obtain ⟨ru,e4,hr1,hr2⟩ : ∃ ru,iter (A4H m r) FUEL (ts,cl,([] : List F6),(0 : Int)) = some (ts,cl,ru)∧ru.length≤12∧∀ x ∈ ru,rCk ⟨ts,r.A8,r.I8,cl,[]⟩ x = 0∧RU x:=by
  obtain ⟨q,hq,ru,rfl,h1,h2⟩:=X5 (f:=A4H m r) (fun s=>∃ k : Nat,s.2.2.2 = (k : Int)∧k≤12∧s.1 = ts∧s.2.1 = cl∧s.2.2.1.length≤k∧∀ x ∈ s.2.2.1,rCk ⟨ts,r.A8,r.I8,cl,[]⟩ x = 0∧RU x) (fun s=>12 - s.2.2.2.toNat) (fun q=>∃ ru,q = (ts,cl,ru)∧ru.length≤12∧∀ x ∈ ru,rCk ⟨ts,r.A8,r.I8,cl,[]⟩ x = 0∧RU x) (fun s hs=>by
   obtain ⟨ts',cl',ru,i⟩:=s
   obtain ⟨k,hk,hkn,h1,h2,hl,ha⟩:=hs
   simp only at hk h1 h2 hl ha
   subst hk; subst h1; subst h2
   simp only [A4H]
   by_cases hlt : k < m.J3.length∧k < 12
   ·left
    have h1 : decide ((k : Int) < (m.J3.length : Int)) = true:=decide_eq_true (by omega)
    have h2 : decide ((k : Int) < 12) = true:=decide_eq_true (by omega)
    have hx:=List.getElem?_eq_getElem hlt.1
    have hb:=h.r _ (List.getElem_mem hlt.1)
    generalize m.J3[k] = e at hx hb
    obtain ⟨e,rfl⟩:=Int.eq_ofNat_of_zero_le hb.1
    obtain ⟨x,b,ea,hax⟩:=C8H (p:=⟨ts',r.A8,r.I8,cl',[]⟩) hG hT (x:=e) (by omega)
    simp only [h1,h2,cond_true,Option.bind_some,A9N,K9 hx,B8j (show (0 : Int)≤(e : Int) by omega) (by omega),ea,A0t (show ru.length≤1000 by omega),M4 (show k < 9223372036854775807 by omega)]
    cases b
    ·exact ⟨_,rfl,⟨k + 1,rfl,by omega,rfl,rfl,by dsimp only; omega,ha⟩,by dsimp only; omega⟩
    ·exact ⟨_,rfl,⟨k + 1,rfl,by omega,rfl,rfl,by simp; omega,A5J ha (hax rfl)⟩,by dsimp only; omega⟩
   ·right
    have : (bif decide ((k : Int) < (m.J3.length : Int)) then some (decide ((k : Int) < (12 : Int))) else some false) = some false:=by
     by_cases h1 : k < m.J3.length
     ·rw [decide_eq_true (show (k : Int) < (m.J3.length : Int) by omega),cond_true,decide_eq_false (show ¬ (k : Int) < 12 by omega)]
     ·rw [decide_eq_false (show ¬ (k : Int) < (m.J3.length : Int) by omega)]; rfl
    simp only [this,Option.bind_some,A9N,cond_false]
    exact ⟨_,rfl,ru,rfl,by omega,ha⟩) FUEL (ts,cl,([] : List F6),(0 : Int)) ⟨0,rfl,by omega,rfl,rfl,by simp,fun x hx=>by cases hx⟩ (fuel (by dsimp only; omega))
  exact ⟨ru,hq,h1,h2⟩
 have r4 : Y7 (m.I8.length : Int) 4 = some ((m.I8.length % 4 : Nat) : Int):=rfl
 refine ⟨⟨ts,r.A8,r.I8,cl,ru⟩,?_,Vld.of ⟨hT.ok.1,hR,by dsimp only; have:=hG.len; omega,by dsimp only; omega,fun x hx=>(hr2 x hx).2.u⟩ hT.ok.2 hRc hc1 hc2 (by dsimp only; omega) (by dsimp only; omega) (fun x hx=>(hr2 x hx).1),hG,hT,hr1,fun x hx=>(hr2 x hx).2⟩
 simp only [B1D,B5n,e1,hn,hmin,B2E (show min m.A8.length n≤m.A8.length by omega),e2,r4,e3,e4,Option.bind_some]
end Go.Pl
namespace Go.Pl
open Go Go.Sl Go.Dm
structure B1b (N G : Nat) (part : List Int) : Prop where
 len : part.length = G
 bd : ∀ x ∈ part,-1≤x∧x < N
 one : ∀ (i j : Nat) (x : Int),i < j→part[i]? = some x→part[j]? = some x→x = -1
theorem C9E {c : Nat} (hc : 0 < c) (hc' : c≤100000) (e : Int) : ∃ s : Nat,B3U e (c : Int) = some (s : Int)∧s < c:=by
 obtain ⟨n,rfl⟩ : ∃ n,c = n + 1:=⟨c - 1,by omega⟩
 unfold B3U
 cases e with
 | ofNat m=>
  refine ⟨m % (n + 1),?_,Nat.mod_lt _ hc⟩
  have : Y7 (Int.ofNat m) ((n + 1 : Nat) : Int) = some ((m % (n + 1) : Nat) : Int):=rfl
  rw [this]
  simp only [Option.bind_some]
  rw [decide_eq_false (show ¬ ((m % (n + 1) : Nat) : Int) < 0 by omega)]
  rfl
 | negSucc m=>
  have hlt:=Nat.mod_lt (m + 1) hc
  have : Y7 (Int.negSucc m) ((n + 1 : Nat) : Int) = some (-(((m + 1) % (n + 1) : Nat) : Int)):=rfl
  rw [this]
  generalize (m + 1) % (n + 1) = q at hlt
  simp only [Option.bind_some]
  by_cases h0 : q = 0
  ·subst h0
   exact ⟨0,rfl,hc⟩
  ·rw [decide_eq_true (show -(q : Int) < 0 by omega)]
   refine ⟨n + 1 - q,?_,by omega⟩
   simp only [cond_true]
   rw [A9d (by omega) (by omega)]
   simp only [Option.bind_some]
   congr 1
   omega
theorem C5T {p : A9} (h : MTs p.D7) : A7c p = some (A0N p.D7):=by
 have hl:=h.len
 have:=A8m (f:=A2X p) (fun (a : Int) (i : Nat)=>(a,(i : Int))) p.D7 (fun a i x=>.inl (a + V7 x)) (fun a=>a) (fun a i=>a = A0N (p.D7.take i)) (a:=0) (by simp [A0N]) (n:=FUEL) (fuel (by omega))
  (fun a i x hx hI=>by
   have hi:=P8 hx
   have hI : a = A0N (p.D7.take i):=hI
   have b1:=A6M (p.D7.take i)
   have b2:=A1L x
   simp only [List.length_take] at b1
   simp only [A2X,K9 hx,(h.t i x hx).2.2.1,Option.bind_some,Bool.cond_decide]
   rw [if_pos (by omega),A9d (by omega) (by omega)]
   simp only [Option.bind_some,M4 (show i < 9223372036854775807 by omega)]
   exact ⟨trivial,by rw [B6W _ i hx,hI]⟩)
  (fun a _=>by simp [A2X])
 simp only [A7c]
 rw [show ((0 : Int),(0 : Int)) = (fun (a : Int) (i : Nat)=>(a,(i : Int))) 0 0 from rfl,this,C4B]
 simp
theorem C9l {taken : List Bool} {f : Nat} (hl : 0 < taken.length) (hl' : taken.length≤1000) (hf : f≤1000) :
  A7z taken (f : Int) = some (-1,taken)∨∃ s : Nat,A7z taken (f : Int) = some ((s : Int),taken.set s true)∧taken[s]? = some false:=by
 unfold A7z
 obtain ⟨r,hr,hq⟩:=X5 (f:=A6b taken (f : Int)) (fun k=>∃ i : Nat,k = (i : Int)∧i≤taken.length) (fun k=>taken.length - k.toNat) (fun r=>r = .inl ()∨∃ s : Nat,r = .inr ((s : Int),taken.set s true)∧taken[s]? = some false) (fun k hk=>by
  obtain ⟨i,rfl,hi⟩:=hk
  simp only [A6b,Bool.cond_decide]
  by_cases hlt : (i : Int) < (taken.length : Int)
  ·have e : (f : Int) + (i : Int) = ((f + i : Nat) : Int):=by omega
   have hm:=Nat.mod_lt (f + i) hl
   have hx:=List.getElem?_eq_getElem hm
   rw [if_pos hlt]
   simp only [e,A9d (show -1000000000≤((f + i : Nat) : Int) by omega) (by omega),C8l hl,K9 hx,Option.bind_some,M4 (show i < 9223372036854775807 by omega),Int.toNat_natCast]
   cases hb : taken[(f + i) % taken.length] with
   | false=>
    right
    exact ⟨_,rfl,.inr ⟨_,rfl,by rw [hx,hb]⟩⟩
   | true=>left; exact ⟨_,rfl,⟨i + 1,rfl,by omega⟩,by omega⟩
  ·right
   rw [if_neg hlt]
   exact ⟨_,rfl,.inl rfl⟩) FUEL 0 ⟨0,rfl,by omega⟩ (fuel (by simp; omega))
 rw [hr]
 rcases hq with rfl | ⟨s,rfl,hs⟩
 ·exact .inl rfl
 ·exact .inr ⟨s,rfl,hs⟩
structure SeI (N k : Nat) (taken : List Bool) (out : List Int) : Prop where
 tl : taken.length = N
 ol : out.length = k
 bd : ∀ x ∈ out,-1≤x∧x < N
 tk : ∀ s : Nat,(s : Int) ∈ out→taken[s]? = some true
 one : ∀ (i j : Nat) (x : Int),i < j→out[i]? = some x→out[j]? = some x→x = -1
theorem C3N {out : List Int} {y : Int} (h : ∀ (i j : Nat) (x : Int),i < j→out[i]? = some x→out[j]? = some x→x = -1) (hy : y ∈ out→y = -1) : ∀ (i j : Nat) (x : Int),i < j→(out ++ [y])[i]? = some x→(out ++ [y])[j]? = some x→x = -1:=by
 intro i j x hij hi hj
 have hjl:=P8 hj
 simp only [List.length_append,List.length_cons,List.length_nil] at hjl
 rw [List.getElem?_append,if_pos (by omega)] at hi
 rw [List.getElem?_append] at hj
 by_cases hj' : j < out.length
 ·rw [if_pos hj'] at hj; exact h i j x hij hi hj
 ·rw [if_neg hj',show j - out.length = 0 by omega] at hj
  simp at hj
  subst hj
  exact hy (A2h hi)
theorem C7q {p : A9} (h : MTs p.D7) (hg : p.A8.length≤64) {N : Nat} (hN : (N : Int) = A0N p.D7) (hpos : p.A8.length≤N) (seats : List Int) (hs : seats.length≤maxLen) : ∃ part,A7Z p seats = some part∧B1b N p.A8.length part:=by
 have hl:=h.len
 have hb:=A6M p.D7
 unfold A7Z
 simp only [C5T h,←hN,C6h (show (0 : Int)≤(N : Int) by omega) (by omega),Option.bind_some,Int.toNat_natCast]
 obtain ⟨r,hr,tk,hI⟩:=X5 (f:=A5b p seats (N : Int)) (fun s=>∃ k : Nat,s.2.2 = (k : Int)∧k≤p.A8.length∧SeI N k s.1 s.2.1) (fun s=>p.A8.length - s.2.2.toNat) (fun r=>∃ tk,SeI N p.A8.length tk r) (fun s hs=>by
  obtain ⟨taken,out,g⟩:=s
  obtain ⟨k,hk,hkn,hI⟩:=hs
  simp only at hk hI
  subst hk
  simp only [A5b,Bool.cond_decide]
  by_cases hlt : (k : Int) < (p.A8.length : Int)
  ·left
   rw [if_pos hlt]
   obtain ⟨s,e,hsN⟩ : ∃ s : Nat,(bif decide ((k : Int) < (seats.length : Int)) then Option.bind (J6 seats (k : Int)) fun e65=>Option.bind (N7 ((N : Int) + (1 : Int))) fun t68=>Option.bind (B3U e65 t68) fun t69=>some t69 else some (N : Int)) = some (s : Int)∧s≤N:=by
    by_cases hks : k < seats.length
    ·have hx:=List.getElem?_eq_getElem hks
     obtain ⟨s,e,hs⟩:=C9E (c:=N + 1) (by omega) (by omega) seats[k]
     refine ⟨s,?_,by omega⟩
     rw [decide_eq_true (show (k : Int) < (seats.length : Int) by omega)]
     simp only [cond_true,K9 hx,M4 (show N < 9223372036854775807 by omega),e,Option.bind_some]
    ·exact ⟨N,by rw [decide_eq_false (show ¬ (k : Int) < (seats.length : Int) by omega)]; rfl,Nat.le_refl _⟩
   simp only [B1K,e,Option.bind_some,Bool.cond_decide,M4 (show k < 9223372036854775807 by omega)]
   have none1 : SeI N (k + 1) taken (out ++ [-1]):=⟨hI.tl,by simp [hI.ol],A5J hI.bd ⟨by omega,by omega⟩,fun s hs=>by
    rcases List.mem_append.1 hs with hs | hs
    ·exact hI.tk s hs
    ·rw [List.mem_singleton] at hs; omega,C3N hI.one fun _=>rfl⟩
   have hol:=hI.ol
   by_cases hsN' : (s : Int) = (N : Int)
   ·rw [if_pos hsN']
    simp only [A0t (show out.length≤1000 by omega),Option.bind_some]
    exact ⟨_,rfl,⟨k + 1,rfl,by omega,none1⟩,by dsimp only; omega⟩
   ·rw [if_neg hsN']
    have htl:=hI.tl
    rcases C9l (taken:=taken) (f:=s) (by omega) (by omega) (by omega) with e2 | ⟨q,e2,hq⟩
    ·simp only [e2,A0t (show out.length≤1000 by omega),Option.bind_some]
     exact ⟨_,rfl,⟨k + 1,rfl,by omega,none1⟩,by dsimp only; omega⟩
    ·simp only [e2,A0t (show out.length≤1000 by omega),Option.bind_some]
     have hql:=P8 hq
     refine ⟨_,rfl,⟨k + 1,rfl,by omega,⟨by simp [htl],by simp [hol],A5J hI.bd ⟨by omega,by omega⟩,fun s hs=>?_,C3N hI.one fun hm=>?_⟩⟩,by dsimp only; omega⟩
     ·dsimp only at hs ⊢
      rw [List.getElem?_set]
      by_cases hqs : q = s
      ·subst hqs; simp [hql]
      ·rw [if_neg hqs]
       rcases List.mem_append.1 hs with hs | hs
       ·exact hI.tk s hs
       ·rw [List.mem_singleton] at hs; omega
     ·have:=hI.tk q hm
      rw [hq] at this; cases this
  ·right
   rw [if_neg hlt]
   have : k = p.A8.length:=by omega
   subst this
   exact ⟨_,rfl,taken,hI⟩) FUEL (List.replicate N false,([] : List Int),(0 : Int)) ⟨0,rfl,by omega,SeI.mk (by simp) rfl (fun x hx=>by cases hx) (fun s hs=>by cases hs) (fun i j x _ hi=>by simp at hi)⟩ (fuel (by dsimp only; omega))
 exact ⟨r,by rw [hr]; rfl,hI.ol,hI.bd,hI.one⟩
theorem C8O {p : A9} (h : OkH p.D7) (hg : p.A8.length≤64) {N : Nat} (hN : (N : Int) = A0N p.D7) {part : List Int} (hP : B1b N p.A8.length part) : B1z p part false = some (0,0):=by
 have hb:=B5E h
 have hlen:=hP.len
 unfold B1z
 rw [decide_eq_true (show (part.length : Int) = (p.A8.length : Int) by omega)]
 simp only [Bool.not_true,cond_false,A4T h.ok h.v,←hN,C6h (show (0 : Int)≤(N : Int) by omega) (by omega),Option.bind_some,Int.toNat_natCast]
 obtain ⟨r,hr,rfl⟩:=X5 (f:=A7h part false (N : Int)) (fun s=>∃ k : Nat,s.1 = (k : Int)∧k≤part.length∧s.2.length = N∧∀ x : Nat,s.2[x]? = some true→∃ i : Nat,i < k∧part[i]? = some (x : Int)) (fun s=>part.length - s.1.toNat) (fun r=>r = .inl ()) (fun s hs=>by
  obtain ⟨g,taken⟩:=s
  obtain ⟨k,hk,hkn,htl,htk⟩:=hs
  simp only at hk htl htk
  subst hk
  simp only [A7h,Bool.cond_decide]
  by_cases hlt : (k : Int) < (part.length : Int)
  ·left
   have hkl : k < part.length:=by omega
   have hx:=List.getElem?_eq_getElem hkl
   have hbd:=hP.bd _ (List.getElem_mem hkl)
   generalize part[k] = x at hx hbd
   have c1 : (if x = -1 then some false else some false) = some false:=by split <;> rfl
   have c2 : (if x < -1 then some true else some (decide ((N : Int)≤x))) = some false:=by rw [if_neg (by omega),decide_eq_false (by omega)]
   rw [if_pos hlt]
   simp only [K9 hx,c1,c2,Option.bind_some,cond_false,B4Y,Bool.cond_decide,M4 (show k < 9223372036854775807 by omega)]
   by_cases h0 : 0≤x
   ·obtain ⟨x,rfl⟩:=Int.eq_ofNat_of_zero_le h0
    have hxl : x < taken.length:=by omega
    have hy:=List.getElem?_eq_getElem hxl
    have hf : taken[x] = false:=by
     cases hq : taken[x] with
     | false=>rfl
     | true=>
      rw [hq] at hy
      obtain ⟨i,hik,hi⟩:=htk x hy
      have:=hP.one i k x hik hi hx
      omega
    rw [hf] at hy
    rw [if_pos h0]
    simp only [K9 hy,Option.bind_some,cond_false,if_pos h0,Int.toNat_natCast]
    refine ⟨_,rfl,⟨k + 1,rfl,by omega,by simpa using htl,fun z hz=>?_⟩,by dsimp only; omega⟩
    dsimp only at hz
    rw [List.getElem?_set] at hz
    split at hz
    ·rename_i e; subst e; exact ⟨k,by omega,hx⟩
    ·obtain ⟨i,hi,hi'⟩:=htk z hz; exact ⟨i,by omega,hi'⟩
   ·rw [if_neg h0,if_neg h0]
    exact ⟨_,rfl,⟨k + 1,rfl,by omega,htl,fun z hz=>by obtain ⟨i,hi,hi'⟩:=htk z hz; exact ⟨i,by omega,hi'⟩⟩,by dsimp only; omega⟩
  ·right
   rw [if_neg hlt]
   exact ⟨_,rfl,rfl⟩) FUEL ((0 : Int),List.replicate N false) ⟨0,rfl,by omega,by simp,fun x hx=>by rw [List.getElem?_replicate] at hx; split at hx <;> simp at hx⟩ (fuel (by dsimp only; omega))
 rw [hr]
 rfl
theorem C4h {p : A9} (h : Vld p) {N : Nat} (hN : (N : Int) = A0N p.D7) {part : List Int} (hP : B1b N p.A8.length part) : A5V p part = some (0,0):=by
 simp only [A5V,B1q,B5j h.ok,h.eq,C8O h.h h.C3w hN hP,Option.bind_some,decide_true,Bool.not_true,cond_false]
theorem C6m {p : A9} (h : Vld p) {N : Nat} (hN : (N : Int) = A0N p.D7) {part : List Int} (hP : B1b N p.A8.length part) : ∃ j,A1V p part = some (⟨j,p,part,(N : Int)⟩,0)∧JOk j p N:=by
 obtain ⟨j,N',e,hj⟩:=D1n h
 have : N' = N:=by have:=hj.n; omega
 subst this
 have hlen:=hP.len
 have hg:=h.C3w
 have hc : B1k p = some p:=C5h h
 refine ⟨j,?_,hj⟩
 simp only [A1V,e,C4h h hN hP,A5C,A8V,hj.given,hc,C5W (show part.length≤1000 by omega),A4T h.h.ok h.h.v,←hN,Option.bind_some,decide_true,Bool.not_true,cond_false]
end Go.Pl
namespace Go.Pl
open Go Go.Sl Go.Dm
theorem C9J {p q : A9} {r : F6} {v v' : Int} {b2 b1 : Bool} (e2 : X8 r.H8 = some b2) (e1 : A1y r.H8 = some b1) (hp : A3w p.A8 r.fA = some v) (hq : A3w q.A8 r.fA = some v')
  (hv : decide (v < 0) = false→decide (v' < 0) = false) (h : P7 p r = some false) : P7 q r = some false:=by
 simp only [P7,e2,e1,hp,hq,Option.bind_some] at h ⊢
 revert h hv
 generalize decide (v < 0) = w
 generalize decide (v' < 0) = w'
 intro hv h
 by_cases k10 : r.H8 = 10 <;> by_cases a0 : r.fA = (⟨#[]⟩ : ByteArray) <;> cases w <;> cases w' <;> cases b2 <;> cases b1 <;> simp_all
theorem C9K {p : A9} {r : F6} {v : Int} {b2 b1 : Bool} (e2 : X8 r.H8 = some b2) (e1 : A1y r.H8 = some b1) (hp : A3w p.A8 r.fA = some v) : ∃ b,P7 p r = some b:=by
 simp only [P7,e2,e1,hp,Option.bind_some]
 cases b2 <;> cases b1 <;> cases decide (r.H8 = (10 : Int)) <;> cases decide (r.fA = (⟨#[]⟩ : ByteArray)) <;> exact ⟨_,rfl⟩
theorem C8q (k : Int) : ∃ b,X8 k = some b:=by
 unfold X8
 cases decide (k = (1 : Int)) <;> cases decide (k = (2 : Int)) <;> cases decide (k = (3 : Int)) <;> cases decide (k = (4 : Int)) <;> exact ⟨_,rfl⟩
theorem C9k (k : Int) : ∃ b,A1y k = some b:=by
 unfold A1y
 cases decide (k = (6 : Int)) <;> cases decide (k = (7 : Int)) <;> exact ⟨_,rfl⟩
theorem C8U {p : A9} {gs : List D6} {ti : List F5} {cl : List Int} {ru : List F6} (hl : p.A8.length≤maxLen) (hl' : gs.length≤maxLen) (hw : ∀ n,0≤A9c p n→0≤A9c ⟨p.D7,gs,ti,cl,ru⟩ n) {r : F6}
  (h : A1T p r = some 0) : A1T ⟨p.D7,gs,ti,cl,ru⟩ r = some 0:=by
 obtain ⟨b2,e2⟩:=C8q r.H8
 obtain ⟨b1,e1⟩:=C9k r.H8
 have a1:=A5r hl r.fA
 have a2:=A5r hl' r.fA
 have c1:=A5r hl r.fB
 have c2:=A5r hl' r.fB
 have mA : decide (A0Z (fun x=>decide (x.F8 = r.fA)) 0 p.A8 < 0) = false→decide (A0Z (fun x=>decide (x.F8 = r.fA)) 0 gs < 0) = false:=fun h=>by
  have h:=of_decide_eq_false h
  have h2 : 0≤A0Z (fun x=>decide (x.F8 = r.fA)) 0 gs:=hw r.fA (by unfold A9c; omega)
  exact decide_eq_false (by omega)
 have mB : decide (A0Z (fun x=>decide (x.F8 = r.fB)) 0 p.A8 < 0) = false→decide (A0Z (fun x=>decide (x.F8 = r.fB)) 0 gs < 0) = false:=fun h=>by
  have h:=of_decide_eq_false h
  have h2 : 0≤A0Z (fun x=>decide (x.F8 = r.fB)) 0 gs:=hw r.fB (by unfold A9c; omega)
  exact decide_eq_false (by omega)
 obtain ⟨b8,e8⟩:=C9K e2 e1 a1
 have m8:=C9J (q:=⟨p.D7,gs,ti,cl,ru⟩) e2 e1 a1 a2 mA
 have e11 : U1 ⟨p.D7,gs,ti,cl,ru⟩ r = U1 p r:=rfl
 unfold A1T at h ⊢
 cases hw : A3R r.H8 with
 | none=>rw [hw] at h; cases h
 | some s=>
  rw [hw] at h
  simp only [Option.bind_some] at h ⊢
  cases hs : decide (s = (⟨#[]⟩ : ByteArray)) with
  | true=>rw [hs] at h; simp at h
  | false=>
   rw [hs] at h
   simp only [cond_false] at h ⊢
   generalize hX : (bif decide (r.Q3 < (0 : Int)) then some true else some (decide ((1000 : Int) < r.Q3))) = X at h ⊢
   cases X with
   | none=>cases h
   | some x=>
    cases x with
    | true=>simp at h
    | false=>
     simp only [Option.bind_some,cond_false] at h ⊢
     simp only [U0] at h ⊢
     revert h
     generalize (bif !decide (r.fA = (⟨#[]⟩ : ByteArray)) then Option.bind (X8 r.H8) fun t44=>bif !t44 then Option.bind (A1y r.H8) fun t53=>bif !t53 then bif !decide (r.H8 = (17 : Int)) then some true else A4h r else A1n r else A0R r else A2e r) = Y
     intro h
     cases Y with
     | none=>cases h
     | some y=>
      cases y with
      | true=>simp at h
      | false=>
       simp only [Option.bind_some,cond_false,e8] at h ⊢
       cases b8 with
       | true=>simp at h
       | false=>
        rw [m8 e8]
        simp only [Option.bind_some,cond_false,e2] at h ⊢
        cases b2 with
        | false=>simpa using e11.trans (by simpa using h)
        | true=>
         simp only [cond_true,c1,c2,Option.bind_some] at h ⊢
         cases hB : decide (A0Z (fun x=>decide (x.F8 = r.fB)) 0 p.A8 < 0) with
         | true=>rw [hB] at h; simp at h
         | false=>
          rw [hB] at h
          rw [mB hB]
          simpa using e11.trans (by simpa using h)
end Go.Pl
namespace Go.Pl
open Go Go.Sl Go.Dm
def nc : ByteArray:=⟨#[110,101,119,99,111,109,101,114]⟩
def ng (s : Int) (host : Bool) : D6:=D6.mk nc (⟨#[]⟩ : ByteArray) (⟨#[]⟩ : ByteArray) (0 : Int) s (⟨#[]⟩ : ByteArray) host false [(⟨#[97,97]⟩ : ByteArray)]
theorem D0k {s : Int} (h : 0≤s) (h' : s≤2) (host : Bool) : A6q (ng s host) = 0∧OkG (ng s host):=by
 refine ⟨?_,?_⟩
 ·unfold A6q
  rw [if_neg (by show ¬ (A3o nc && A2P ⟨#[]⟩ && A2P ⟨#[]⟩ && A2P ⟨#[]⟩) = false; decide),if_neg (by show ¬ ((0 : Int) < 0∨9999 < (0 : Int)); omega),if_neg (by show ¬ (s < 0∨2 < s); omega),if_neg (by show ¬ 4 < 1; omega)]
  rfl
 ·have hmx : maxLen = 9223372036854775807:=mx
  have h1 : nc.size = 8:=rfl
  exact ⟨by show nc.size≤_; omega,Nat.zero_le _,Nat.zero_le _,Nat.zero_le _,by show 1≤_; omega,fun s hs=>by
   have : s = (⟨#[97,97]⟩ : ByteArray):=by simpa [ng] using hs
   subst this
   show 2≤_
   omega⟩
theorem MGs.nc {gs : List D6} (h : MGs gs) : gs.any (fun y=>decide (y.F8 = nc)) = false:=by
 cases hq : gs.any (fun y=>decide (y.F8 = Go.Pl.nc)) with
 | false=>rfl
 | true=>
  obtain ⟨g,hg,e⟩:=List.any_eq_true.1 hq
  obtain ⟨j,hj⟩:=List.getElem?_of_mem hg
  have hl:=h.len
  have:=P8 hj
  rw [decide_eq_true_eq,(h.g j g hj).name] at e
  have h2:=(B6k (B7n (show j < 12 by omega))).2.2
  rw [e] at h2
  cases h2
theorem C0u {α : Type} (p : α→Bool) (x : α) (hx : p x = true) : ∀ (l : List α) (i : Nat),l.any p = false→A0Z p i (l ++ [x]) = ((i + l.length : Nat) : Int)
 | [],i,_=>by simp [A0Z,hx]
 | y::l,i,h=>by
  simp only [List.any_cons,Bool.or_eq_false_iff] at h
  simp only [List.cons_append,A0Z,h.1,Bool.false_eq_true,if_false]
  rw [C0u p x hx l (i + 1) h.2]
  congr 1
  simp
  omega
theorem ways : (∃ w,A6d (1 : Int) = some (w,true)∧(∀ s c,B0E w.B5J s c = A2l s c)∧∀ s c,B0I w.B5L s c = A8B s c)∧
  (∃ w,A6d (2 : Int) = some (w,true)∧(∀ s c,B0E w.B5J s c = A1w s c)∧∀ s c,B0I w.B5L s c = A5D s c):=
 ⟨⟨_,rfl,fun _ _=>rfl,fun _ _=>rfl⟩,⟨_,rfl,fun _ _=>rfl,fun _ _=>rfl⟩⟩
def zR0 : F6:=F6.mk (0 : Int) (0 : Int) (⟨#[]⟩ : ByteArray) (⟨#[]⟩ : ByteArray) (⟨#[]⟩ : ByteArray) (0 : Int)
def A7R (s : Int) (host : Bool) (n : Int) : V4:=V4.mk (1 : Int) (ng s host) (⟨#[]⟩ : ByteArray) (⟨#[]⟩ : ByteArray) (⟨#[]⟩ : ByteArray) n zR0
def A2J : V4:=V4.mk (2 : Int) zG nc (⟨#[]⟩ : ByteArray) (⟨#[]⟩ : ByteArray) (0 : Int) zR0
def zPr : A9:=A9.mk ([] : List C8) ([] : List D6) ([] : List F5) ([] : List Int) ([] : List F6)
theorem C7S {j : X7} {p : A9} {part : List Int} {N : Int} (hl : p.A8.length≤maxLen) (n : ByteArray) : A2M ⟨j,p,part,N⟩ n = some (A9c p n):=by
 simp only [A2M,D2f hl (f:=fun y0=>A9G y0 n) (p:=fun x=>decide (x.F8 = n)) (fun x=>rfl),Option.bind_some]
 rfl
def B6Y (p : A9) (n : Int) : List Int:=if p.I6.length = 0 then p.I6 else p.I6 ++ [n]
def A9H (p : A9) (s : Int) (host : Bool) (n : Int) : A9:=⟨p.D7,p.A8 ++ [ng s host],p.I8,B6Y p n,p.J3⟩
theorem C5X {p : A9} (h : Vld p) (hG : MGs p.A8) {N : Nat} (hN : (N : Int) = A0N p.D7) {part : List Int} (hP : B1b N p.A8.length part) {s n : Int} {host : Bool} (hs : 0≤s) (hs' : s≤2) (hn : 0≤n) (hn' : n≤63) (hn0 : p.I6.length = 0→n = 0) :
  A1P p part (A7R s host n) = some (if p.A8.length = N then (zPr,[],45) else (A9H p s host n,part ++ [-1],0)):=by
 obtain ⟨j,e,hj⟩:=C6m h hN hP
 obtain ⟨w,e1,e2,e3⟩:=ways.1
 have hl:=hG.len
 have hlen:=hP.len
 have hg64 : p.A8.length≤maxLen:=by rw [mx]; omega
 have hng:=D0k hs hs' host
 have hwho : A9c p nc = -1:=B9H _ _ 0 hG.nc
 have hcl:=h.rest.1
 have ck : A1U ⟨j,p,part,(N : Int)⟩ (A7R s host n) = some (if p.A8.length = N then 45 else 0):=by
  have c0 : A1U ⟨j,p,part,(N : Int)⟩ (A7R s host n) = A2l ⟨j,p,part,(N : Int)⟩ (A7R s host n):=by
   unfold A1U
   rw [show (A7R s host n).H8 = 1 from rfl,e1]
   simp only [Option.bind_some,Bool.not_true,cond_false,e2]
   cases A2l ⟨j,p,part,(N : Int)⟩ (A7R s host n) <;> rfl
  obtain ⟨most,hm,hmn⟩ : ∃ most,(bif decide ((p.I6.length : Int) = (0 : Int)) then some (0 : Int) else some (63 : Int)) = some most∧n≤most:=by
   by_cases h0 : p.I6.length = 0
   ·exact ⟨0,by rw [decide_eq_true (show (p.I6.length : Int) = 0 by omega)]; rfl,by have:=hn0 h0; omega⟩
   ·exact ⟨63,by rw [decide_eq_false (show ¬ (p.I6.length : Int) = 0 by omega)]; rfl,hn'⟩
  have hw : A2M ⟨j,p,part,(N : Int)⟩ (A7R s host n).L6.F8 = some (-1):=by rw [C7S hg64]; exact congrArg some hwho
  have hgc : A5q (A7R s host n).L6 = some 0:=by rw [show (A7R s host n).L6 = ng s host from rfl,B2m hng.2,hng.1]
  rw [c0]
  unfold A2l
  dsimp only
  rw [hm]
  simp only [Option.bind_some,A8y,hgc,hw,decide_true,Bool.not_true,cond_false]
  rw [show decide ((0 : Int)≤-1) = false from rfl,decide_eq_false (show ¬ (p.A8.length : Int) = 64 by omega),show (A7R s host n).fN = n from rfl,decide_eq_false (show ¬ n < 0 by omega),decide_eq_false (show ¬ most < n by omega)]
  by_cases hNg : p.A8.length = N
  ·rw [decide_eq_true (show (p.A8.length : Int) = (N : Int) by omega),if_pos hNg]; rfl
  ·rw [decide_eq_false (show ¬ (p.A8.length : Int) = (N : Int) by omega),if_neg hNg]; rfl
 have ck' : A1U (H6.mk j (A9.mk p.D7 p.A8 p.I8 p.I6 p.J3) part (N : Int)) (A7R s host n) = some (if p.A8.length = N then 45 else 0):=ck
 simp only [A1P,e,Option.bind_some,decide_true,Bool.not_true,cond_false,A7I,ck']
 by_cases hNg : p.A8.length = N
 ·simp only [hNg,if_true]
  rfl
 ·simp only [hNg,if_false,decide_true,Bool.not_true,cond_false]
  rw [show (A7R s host n).H8 = 1 from rfl,e1]
  simp only [Option.bind_some,e3]
  have ha : A8B (H6.mk j (A9.mk p.D7 p.A8 p.I8 p.I6 p.J3) part (N : Int)) (A7R s host n) = some ⟨j,A9H p s host n,part ++ [-1],(N : Int)⟩:=by
   unfold A8B
   have ht : A1Y (A7R s host n).L6.M6 = some [(⟨#[97,97]⟩ : ByteArray)]:=rfl
   have hcs : (bif decide ((0 : Int) < (p.I6.length : Int)) then Option.bind (apL p.I6 [n]) fun t41=>some t41 else some p.I6) = some (B6Y p n):=by
    unfold B6Y
    by_cases h0 : p.I6.length = 0
    ·rw [decide_eq_false (show ¬ (0 : Int) < (p.I6.length : Int) by omega),if_pos h0]; rfl
    ·rw [decide_eq_true (show (0 : Int) < (p.I6.length : Int) by omega),if_neg h0]
     simp only [cond_true,A0t (show p.I6.length≤1000 by omega),Option.bind_some]
   rw [ht]
   simp only [Option.bind_some,show (A7R s host n).fN = n from rfl,hcs,A0t (show p.A8.length≤1000 by omega),A0t (show part.length≤1000 by omega)]
   rfl
  rw [ha]
  rfl
theorem C9q {p : A9} (h : Vld p) (hG : MGs p.A8) {N : Nat} (hN : (N : Int) = A0N p.D7) (hlt : p.A8.length < N) {s n : Int} {host : Bool} (hs : 0≤s) (hs' : s≤2) (hn : 0≤n) (hn' : n≤63) : Vld (A9H p s host n):=by
 have hl:=hG.len
 have hng:=D0k hs hs' host
 have hr:=h.roll
 have hcl:=h.rest
 have hmx:=mx
 obtain ⟨hF,hT⟩:=B0J hr
 have hties:=h.ties
 have hgl : (p.A8 ++ [ng s host]).length = p.A8.length + 1:=by simp
 have hF' : Y4 (A8g (p.A8 ++ [ng s host])) 0 (p.A8 ++ [ng s host]) = none:=A6p _ 0 fun k g hk=>by
  have hkl:=P8 hk
  rw [hgl] at hkl
  unfold A8g
  rw [Nat.zero_add]
  by_cases hkg : k < p.A8.length
  ·have hk' : p.A8[k]? = some g:=by rw [List.getElem?_append,if_pos hkg] at hk; exact hk
   have:=A3g _ 0 hF k g hk'
   unfold A8g at this
   rw [Nat.zero_add] at this
   rw [List.take_append_of_le_length (by omega)]
   exact this
  ·have hk0 : k = p.A8.length:=by omega
   subst hk0
   have : g = ng s host:=by
    rw [List.getElem?_append,if_neg (by omega)] at hk
    simp at hk
    exact hk.symm
   subst this
   rw [if_neg (by simp [hng.1]),List.take_append_of_le_length (Nat.le_refl _),List.take_length,show (ng s host).F8 = nc from rfl,hG.nc,if_neg (by simp),if_neg (by omega)]
 have hisG : ∀ n,isG p.A8 n = true→isG (p.A8 ++ [ng s host]) n = true:=fun n hn=>by
  unfold isG at hn ⊢
  rw [List.any_append,hn]; rfl
 have hT' : Y4 (B4F ⟨p.A8 ++ [ng s host],p.I8⟩) 0 p.I8 = none:=A6p _ 0 fun k t hk=>by
  have hkl:=P8 hk
  have:=A3g _ 0 hT k t hk
  unfold B4F at this ⊢
  rw [Nat.zero_add] at this ⊢
  dsimp only at this ⊢
  split at this
  ·cases this
  rename_i c1
  split at this
  ·cases this
  rename_i c2
  split at this
  ·cases this
  rename_i c3
  rw [if_neg c1,if_neg,if_neg c3,if_neg (by omega)]
  intro hc
  have a1 : isG p.A8 t.fA = true:=by cases hq : isG p.A8 t.fA with | true=>rfl | false=>exact absurd (.inl hq) c2
  have a2 : isG p.A8 t.fB = true:=by cases hq : isG p.A8 t.fB with | true=>rfl | false=>exact absurd (.inr hq) c2
  rcases hc with hc | hc
  ·rw [hisG _ a1] at hc; cases hc
  ·rw [hisG _ a2] at hc; cases hc
 have hok : OkP (A9H p s host n):=⟨h.ok.ts,⟨by show (p.A8 ++ [ng s host]).length≤_; omega,fun g hg=>by
   rcases List.mem_append.1 (show g ∈ p.A8 ++ [ng s host] from hg) with hg | hg
   ·exact h.ok.r.g g hg
   ·rw [List.mem_singleton] at hg; subst hg; exact hng.2,h.ok.r.ts⟩,by
   show (B6Y p n).length≤_
   unfold B6Y
   split
   ·omega
   ·simp; omega,h.ok.ru,h.ok.u⟩
 refine Vld.of hok h.h.v ?_ ?_ ?_ ?_ h.D0N ?_
 ·show (B2f ⟨p.A8 ++ [ng s host],p.I8⟩).2 = 0
  unfold B2f
  dsimp only
  rw [hF',hT']
  rfl
 ·show (B6Y p n).length = 0∨(B6Y p n).length = (p.A8 ++ [ng s host]).length
  unfold B6Y
  split
  ·left; assumption
  ·right; simp; omega
 ·show (B6Y p n).all A4F = true
  unfold B6Y
  split
  ·exact hcl.2.1
  ·rw [List.all_append,hcl.2.1]
   simp [A4F]
   omega
 ·show ((p.A8 ++ [ng s host]).length : Int)≤A0N p.D7
  omega
 ·intro r hr
  have hrp : r ∈ p.J3:=hr
  obtain ⟨K,ok,lk,c,k1,k2⟩:=C5e h.ok.ts h.h.v h.ok.r.gs (h.ok.u r hrp)
  have hc0:=h.rule hrp
  unfold rCk at hc0
  rw [k2] at hc0
  have hc0 : c = 0:=hc0
  subst hc0
  unfold rCk
  rw [show A1T (A9H p s host n) r = some 0 from C8U (by omega) (by omega) (fun m hm=>by
   unfold A9c at hm ⊢
   rw [B0P] at hm ⊢
   rw [List.any_append,hm]; rfl) k2]
  rfl
theorem C6X {N G : Nat} {part : List Int} (h : B1b N G part) : B1b N (G + 1) (part ++ [-1]):=
 ⟨by simp [h.len],A5J h.bd ⟨by omega,by omega⟩,C3N h.one fun _=>rfl⟩
end Go.Pl
namespace Go.Pl
open Go Go.Sl Go.Dm
theorem C7z {a b c : Int} (h : 0≤a) (h' : a≤b) (h'' : b≤c) : bdV a b c = some ():=by
 unfold bdV
 rw [decide_eq_true h,decide_eq_true h',decide_eq_true h'']
 rfl
theorem C7T {a b : Int} (h : a = b) : emV a b = some ():=by
 unfold emV
 rw [h,Nat.beq_refl]
 rfl
theorem C4V {α : Type} (l : List α) (x : α) (ys : List α) : List.take l.length (A2E (l ++ [x]) l.length ys) = l:=by
 unfold A2E
 rw [List.take_append_of_le_length (Nat.le_refl _),List.take_length,List.append_assoc,List.take_append_of_le_length (Nat.le_refl _),List.take_length]
theorem C8T (l : List D6) (x : D6) : A4e (l ++ [x]) (l.length : Int) ((l.length + 1 : Nat) : Int) = some l:=by
 have e : ((l ++ [x]).length : Int) = ((l.length + 1 : Nat) : Int):=by simp
 unfold A4e A9n
 rw [e,decide_eq_false (show ¬ (l.length : Int) = ((l.length + 1 : Nat) : Int) by omega)]
 simp only [C7z (show (0 : Int)≤(l.length : Int) by omega) (show (l.length : Int)≤((l.length + 1 : Nat) : Int) by omega) (Int.le_refl _),C7z (show (0 : Int)≤((l.length + 1 : Nat) : Int) by omega) (Int.le_refl _) (Int.le_refl _),C7z (Int.le_refl 0) (show (0 : Int)≤(l.length : Int) by omega) (show (l.length : Int)≤((l.length + 1 : Nat) : Int) by omega),C7T rfl,Option.bind_some,cond_false,Int.toNat_natCast,Int.toNat_zero,Nat.sub_zero]
 rw [C4V]
theorem C8C (l : List Int) (x : Int) : A2s (l ++ [x]) (l.length : Int) ((l.length + 1 : Nat) : Int) = some l:=by
 have e : ((l ++ [x]).length : Int) = ((l.length + 1 : Nat) : Int):=by simp
 unfold A2s B1I
 rw [e,decide_eq_false (show ¬ (l.length : Int) = ((l.length + 1 : Nat) : Int) by omega)]
 simp only [C7z (show (0 : Int)≤(l.length : Int) by omega) (show (l.length : Int)≤((l.length + 1 : Nat) : Int) by omega) (Int.le_refl _),C7z (show (0 : Int)≤((l.length + 1 : Nat) : Int) by omega) (Int.le_refl _) (Int.le_refl _),C7z (Int.le_refl 0) (show (0 : Int)≤(l.length : Int) by omega) (show (l.length : Int)≤((l.length + 1 : Nat) : Int) by omega),C7T rfl,Option.bind_some,cond_false,Int.toNat_natCast,Int.toNat_zero,Nat.sub_zero]
 rw [C4V]
theorem C9B {l : List F5} (hl : l.length≤1000) {f : F5→Option Bool} (hf : ∀ x ∈ l,f x = some false) : A2W l f = some l:=by
 have : A4j l f = some (-1,l):=by
  unfold A4j
  rw [A0P l (fun _ _=>none) () (fuel (by omega)) (fun i x hx=>by
   have hi:=P8 hx
   simp only [A2K,K9 hx,hf x (A2h hx),Option.bind_some,Bool.cond_decide,cond_false]
   rw [if_pos (by omega),M4 (by omega)]; rfl) (by simp [A2K]),A1Z l 0 (fun _ _ _=>rfl)]
  rfl
 simp only [A2W,this,Option.bind_some,decide_true,cond_true]
theorem C8v {l : List F6} (hl : l.length≤1000) {f : F6→Option Bool} (hf : ∀ x ∈ l,f x = some false) : A1A l f = some l:=by
 have : A3L l f = some (-1,l):=by
  unfold A3L
  rw [A0P l (fun _ _=>none) () (fuel (by omega)) (fun i x hx=>by
   have hi:=P8 hx
   simp only [A2z,K9 hx,hf x (A2h hx),Option.bind_some,Bool.cond_decide,cond_false]
   rw [if_pos (by omega),M4 (by omega)]; rfl) (by simp [A2z]),A1Z l 0 (fun _ _ _=>rfl)]
  rfl
 simp only [A1A,this,Option.bind_some,decide_true,cond_true]
theorem D0l {s : ByteArray} (h : s.size≤2) : ¬ s = nc:=fun e=>by
 rw [e] at h
 have : nc.size = 8:=rfl
 omega
theorem C9s {r : F6} (ha : r.fA.size≤2) (hb : r.fB.size≤2) : A7S r nc = some false:=by
 have h1:=decide_eq_false (D0l ha)
 have h2:=decide_eq_false (D0l hb)
 simp only [A7S,B1Z,h1,h2,cond_false]
 cases decide (r.H8 = (1 : Int)) <;> cases decide (r.H8 = (2 : Int)) <;> cases decide (r.H8 = (3 : Int)) <;> cases decide (r.H8 = (4 : Int)) <;> cases decide (r.H8 = (5 : Int)) <;> cases decide (r.H8 = (6 : Int)) <;> cases decide (r.H8 = (7 : Int)) <;> cases decide (r.H8 = (10 : Int)) <;> rfl
theorem Vld.tie {p : A9} (h : Vld p) {t : F5} (ht : t ∈ p.I8) : isG p.A8 t.fA = true∧isG p.A8 t.fB = true:=by
 obtain ⟨k,hk⟩:=List.getElem?_of_mem ht
 have:=A3g _ 0 (B0J h.roll).2 k t hk
 unfold B4F at this
 split at this
 ·cases this
 split at this
 ·cases this
 rename_i c2
 refine ⟨?_,?_⟩
 ·cases hq : isG p.A8 t.fA with | true=>rfl | false=>exact absurd (.inl hq) c2
 ·cases hq : isG p.A8 t.fB with | true=>rfl | false=>exact absurd (.inr hq) c2
theorem C4c {p : A9} (h : Vld p) (hG : MGs p.A8) (hR : ∀ r ∈ p.J3,RU r) {N : Nat} (hN : (N : Int) = A0N p.D7) {part : List Int} (hP : B1b N p.A8.length part) (hlt : p.A8.length < N) {s n : Int} {host : Bool} (hs : 0≤s) (hs' : s≤2) (hn : 0≤n) (hn' : n≤63) :
  A1P (A9H p s host n) (part ++ [-1]) A2J = some (p,part,0):=by
 have hq:=C9q h hG hN hlt (host:=host) hs hs' hn hn'
 have hl:=hG.len
 have hgl : (A9H p s host n).A8.length = p.A8.length + 1:=by show (p.A8 ++ [ng s host]).length = _; simp
 have hP' : B1b N (A9H p s host n).A8.length (part ++ [-1]):=by rw [hgl]; exact C6X hP
 obtain ⟨j,e,hj⟩:=C6m hq (show (N : Int) = A0N (A9H p s host n).D7 from hN) hP'
 obtain ⟨w,e1,e2,e3⟩:=ways.2
 have hwho : A9c (A9H p s host n) nc = (p.A8.length : Int):=by
  unfold A9c
  rw [show (A9H p s host n).A8 = p.A8 ++ [ng s host] from rfl,C0u _ _ (by simp [ng]) _ _ hG.nc]
  simp
 have hg64 : (A9H p s host n).A8.length≤maxLen:=by rw [hgl,mx]; omega
 generalize hQ : A9H p s host n = q at *
 have wq : A2M ⟨j,q,part ++ [-1],(N : Int)⟩ nc = some (p.A8.length : Int):=by rw [C7S hg64,hwho]
 have ck : A1U ⟨j,q,part ++ [-1],(N : Int)⟩ A2J = some 0:=by
  have c0 : A1U ⟨j,q,part ++ [-1],(N : Int)⟩ A2J = A1w ⟨j,q,part ++ [-1],(N : Int)⟩ A2J:=by
   unfold A1U
   rw [show A2J.H8 = 2 from rfl,e1]
   simp only [Option.bind_some,Bool.not_true,cond_false,e2]
   cases A1w ⟨j,q,part ++ [-1],(N : Int)⟩ A2J <;> rfl
  rw [c0]
  unfold A1w
  rw [show A2J.fA = nc from rfl,wq]
  simp only [Option.bind_some]
  rw [decide_eq_false (show ¬ (p.A8.length : Int) < 0 by omega)]
  rfl
 have ck' : A1U (H6.mk j (A9.mk q.D7 q.A8 q.I8 q.I6 q.J3) (part ++ [-1]) (N : Int)) A2J = some 0:=ck
 simp only [A1P,e,Option.bind_some,decide_true,Bool.not_true,cond_false,A7I,ck']
 rw [show A2J.H8 = 2 from rfl,e1]
 simp only [Option.bind_some,e3]
 have ha : A5D (H6.mk j (A9.mk q.D7 q.A8 q.I8 q.I6 q.J3) (part ++ [-1]) (N : Int)) A2J = some ⟨j,p,part,(N : Int)⟩:=by
  have wq' : A2M (H6.mk j (A9.mk q.D7 q.A8 q.I8 q.I6 q.J3) (part ++ [-1]) (N : Int)) nc = some (p.A8.length : Int):=wq
  have d1 : A4e q.A8 (p.A8.length : Int) ((p.A8.length + 1 : Nat) : Int) = some p.A8:=by rw [←hQ]; exact C8T p.A8 _
  have d2 : (bif decide ((0 : Int) < (q.I6.length : Int)) then Option.bind (A2s q.I6 (p.A8.length : Int) ((p.A8.length + 1 : Nat) : Int)) fun t74=>some t74 else some q.I6) = some p.I6:=by
   have hcl:=h.rest.1
   rw [←hQ]
   show (bif decide ((0 : Int) < ((B6Y p n).length : Int)) then Option.bind (A2s (B6Y p n) (p.A8.length : Int) ((p.A8.length + 1 : Nat) : Int)) fun t74=>some t74 else some (B6Y p n)) = some p.I6
   unfold B6Y
   by_cases h0 : p.I6.length = 0
   ·rw [if_pos h0,decide_eq_false (show ¬ (0 : Int) < (p.I6.length : Int) by omega)]; rfl
   ·rw [if_neg h0,decide_eq_true (show (0 : Int) < ((p.I6 ++ [n]).length : Int) by rw [List.length_append]; simp only [List.length_cons,List.length_nil]; omega)]
    have hcg : p.I6.length = p.A8.length:=by omega
    rw [cond_true,←hcg,C8C]
    rfl
  have d3 : A2s (part ++ [-1]) (p.A8.length : Int) ((p.A8.length + 1 : Nat) : Int) = some part:=by
   have:=hP.len
   rw [←this]; exact C8C part (-1)
  have d4 : A2W q.I8 (fun y0=>A4a y0 A2J) = some p.I8:=by
   rw [←hQ]
   refine C9B (l:=p.I8) (by have:=h.ties; omega) fun t ht=>?_
   have ⟨g1,g2⟩:=h.tie ht
   have no : ∀ x : ByteArray,isG p.A8 x = true→decide (x = nc) = false:=fun x hx=>decide_eq_false fun e=>by
    rw [e] at hx
    unfold isG at hx
    rw [hG.nc] at hx; cases hx
   unfold A4a
   rw [show A2J.fA = nc from rfl,no _ g1,no _ g2]
   rfl
  have d5 : A1A q.J3 (fun y0=>A3S y0 A2J) = some p.J3:=by
   rw [←hQ]
   refine C8v (l:=p.J3) (by have:=h.D0N; omega) fun r hr=>?_
   have:=hR r hr
   unfold A3S
   rw [show A2J.fA = nc from rfl,C9s this.a this.b]
   rfl
  have qt : q.D7 = p.D7:=by rw [←hQ]; rfl
  unfold A5D
  rw [show A2J.fA = nc from rfl]
  dsimp only
  simp only [wq',d1,d2,d3,d4,d5,M4 (show p.A8.length < 9223372036854775807 by omega),Option.bind_some]
  rw [qt]
 rw [ha]
 rfl
theorem C0e {l : List Int} (hl : l.length≤maxLen) : A0A l l = some true:=by
 rw [mx] at hl
 unfold A0A
 simp only [decide_true,Bool.not_true,cond_false]
 rw [A0P l (fun _ _=>none) () (fuel (by omega)) (fun i x hx=>by
  have hi:=P8 hx
  simp only [A5a,K9 hx,Option.bind_some,Bool.cond_decide,decide_true,Bool.not_true,cond_false]
  rw [if_pos (by omega),M4 (by omega)]; rfl) (by simp [A5a]),A1Z l 0 (fun _ _ _=>rfl)]
 rfl
theorem C7i {l : List ByteArray} (hl : l.length≤maxLen) : A6G l l = some true:=by
 rw [mx] at hl
 unfold A6G
 simp only [decide_true,Bool.not_true,cond_false]
 rw [A0P l (fun _ _=>none) () (fuel (by omega)) (fun i x hx=>by
  have hi:=P8 hx
  simp only [A4o,K9 hx,Option.bind_some,Bool.cond_decide,decide_true,Bool.not_true,cond_false]
  rw [if_pos (by omega),M4 (by omega)]; rfl) (by simp [A4o]),A1Z l 0 (fun _ _ _=>rfl)]
 rfl
theorem C7b {g : D6} (h : g.M6.length≤maxLen) : A6O g g = some true:=by
 simp only [A6O,B0V,decide_true,cond_true,beq_self_eq_true,C7i h,Option.bind_some]
theorem C5R {l : List D6} (hl : l.length≤maxLen) (h : ∀ g ∈ l,g.M6.length≤maxLen) : A5I l l = some true:=by
 rw [mx] at hl
 unfold A5I
 simp only [decide_true,Bool.not_true,cond_false]
 rw [A0P l (fun _ _=>none) () (fuel (by omega)) (fun i x hx=>by
  have hi:=P8 hx
  simp only [A3J,K9 hx,C7b (h x (A2h hx)),Option.bind_some,Bool.cond_decide,Bool.not_true,cond_false]
  rw [if_pos (by omega),M4 (by omega)]; rfl) (by simp [A3J]),A1Z l 0 (fun _ _ _=>rfl)]
 rfl
theorem C9r {l : List F5} (hl : l.length≤maxLen) : A7U l l = some true:=by
 rw [mx] at hl
 unfold A7U
 simp only [decide_true,Bool.not_true,cond_false]
 rw [A0P l (fun _ _=>none) () (fuel (by omega)) (fun i x hx=>by
  have hi:=P8 hx
  simp only [A5f,K9 hx,Option.bind_some,Bool.cond_decide,decide_true,Bool.and_self,Bool.not_true,cond_false]
  rw [if_pos (by omega),M4 (by omega)]; rfl) (by simp [A5f]),A1Z l 0 (fun _ _ _=>rfl)]
 rfl
theorem C7M {l : List F6} (hl : l.length≤maxLen) : A4R l l = some true:=by
 rw [mx] at hl
 unfold A4R
 simp only [decide_true,Bool.not_true,cond_false]
 rw [A0P l (fun _ _=>none) () (fuel (by omega)) (fun i x hx=>by
  have hi:=P8 hx
  simp only [A4n,K9 hx,Option.bind_some,Bool.cond_decide,decide_true,Bool.and_self,Bool.not_true,cond_false]
  rw [if_pos (by omega),M4 (by omega)]; rfl) (by simp [A4n]),A1Z l 0 (fun _ _ _=>rfl)]
 rfl
theorem C7I {t : C8} (h : t.A2H.length≤maxLen) : A6B t t = some true:=by
 simp only [A6B,decide_true,cond_true,C0e h,Option.bind_some]
theorem C6c {l : List C8} (hl : l.length≤maxLen) (h : ∀ t ∈ l,t.A2H.length≤maxLen) : A6f l l = some true:=by
 rw [mx] at hl
 unfold A6f
 simp only [decide_true,Bool.not_true,cond_false]
 rw [A0P l (fun _ _=>none) () (fuel (by omega)) (fun i x hx=>by
  have hi:=P8 hx
  simp only [A3N,K9 hx,C7I (h x (A2h hx)),Option.bind_some,Bool.cond_decide,Bool.not_true,cond_false]
  rw [if_pos (by omega),M4 (by omega)]; rfl) (by simp [A3N]),A1Z l 0 (fun _ _ _=>rfl)]
 rfl
theorem C4N {p : A9} (h : OkP p) : A5d p p = some true:=by
 simp only [A5d,C6c h.ts.1 (fun t ht=>(h.ts.2 t ht).2),C5R h.r.gs (fun g hg=>(h.r.g g hg).C7e),C9r h.r.ts,C0e h.cl,C7M h.ru,Option.bind_some,cond_true]
theorem C7A (aw : A7s = some true) {m : A0g} (h : C2I m) {seats : List Int} (hs : seats.length≤maxLen) {side cls : Int} (h1 : 0≤side) (h1' : side≤255) (h2 : 0≤cls) (h2' : cls≤255) (host : Bool) : A6n m seats side host cls = some true:=by
 obtain ⟨p,e1,hV,hG,hT,hr12,hR⟩:=C9G h
 obtain ⟨N,hN⟩:=Int.eq_ofNat_of_zero_le (A6M p.D7).1
 have hl:=hG.len
 have hroom:=hV.rest.2.2
 obtain ⟨part,e2,hP⟩:=C7q hT (by omega) hN.symm (by omega) seats hs
 have hmx:=mx
 have hplen:=hP.len
 obtain ⟨side,rfl⟩:=Int.eq_ofNat_of_zero_le h1
 obtain ⟨cls,rfl⟩:=Int.eq_ofNat_of_zero_le h2
 have r3 : Y7 (side : Int) 3 = some ((side % 3 : Nat) : Int):=rfl
 have r64 : Y7 (cls : Int) 64 = some ((cls % 64 : Nat) : Int):=rfl
 obtain ⟨n,e3,hn,hn',hn0⟩ : ∃ n,(bif decide ((0 : Int) < (p.I6.length : Int)) then Option.bind (Y7 (cls : Int) (64 : Int)) fun t67=>Option.bind (A1p .i64 t67) fun t68=>some t68 else some (0 : Int)) = some n∧0≤n∧n≤63∧(p.I6.length = 0→n = 0):=by
  by_cases h0 : p.I6.length = 0
  ·exact ⟨0,by rw [decide_eq_false (show ¬ (0 : Int) < (p.I6.length : Int) by omega)]; rfl,by omega,by omega,fun _=>rfl⟩
  ·refine ⟨((cls % 64 : Nat) : Int),?_,by omega,by omega,fun h=>absurd h h0⟩
   rw [decide_eq_true (show (0 : Int) < (p.I6.length : Int) by omega)]
   simp only [cond_true,r64,B8j (show (0 : Int)≤((cls % 64 : Nat) : Int) by omega) (by omega),Option.bind_some]
 simp only [A6n,e1,e2,r3,B8j (show (0 : Int)≤((side % 3 : Nat) : Int) by omega) (by omega),e3,Option.bind_some]
 have hA:=C5X hV hG hN.symm hP (s:=((side % 3 : Nat) : Int)) (n:=n) (host:=host) (by omega) (by omega) hn hn' hn0
 unfold A7R ng nc zR0 at hA
 simp only [A7N,hA,Option.bind_some]
 by_cases hNg : p.A8.length = N
 ·simp only [hNg,if_true,decide_true,cond_true]
  rw [show N7 ((zPr.A8.length : Int) + (([] : List Int).length : Int)) = some 0 from rfl]
  simp only [Option.bind_some,decide_true,cond_true,aw]
 ·simp only [hNg,if_false]
  have hC:=C4c hV hG hR hN.symm hP (by omega) (s:=((side % 3 : Nat) : Int)) (n:=n) (host:=host) (by omega) (by omega) hn hn'
  unfold A2J zG nc zR0 at hC
  have hgl : ((A9H p ((side % 3 : Nat) : Int) host n).A8.length : Int) = ((p.A8.length + 1 : Nat) : Int):=by show ((p.A8 ++ [ng ((side % 3 : Nat) : Int) host]).length : Int) = _; simp
  have hpl : ((part ++ [-1]).length : Int) = ((part.length + 1 : Nat) : Int):=by simp
  have hget : J6 (part ++ [-1]) (part.length : Int) = some (-1):=K9 (by rw [List.getElem?_append,if_neg (by omega)]; simp)
  rw [decide_eq_false (show ¬ (0 : Int) = 45 by omega)]
  simp only [cond_false,decide_true,Bool.not_true,M4 (show p.A8.length < 9223372036854775807 by omega),M4 (show part.length < 9223372036854775807 by omega),hgl,hpl,hget,Option.bind_some,A7P,hC,cond_true,C4N hV.ok,C0e (show part.length≤maxLen by omega),aw]
end Go.Pl
