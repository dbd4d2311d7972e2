import Derived.Test.YtphnomnanplclaaGreatDoorL8
import Derived.Test.YtphnomnanplclaaGreatDoorDa
import Derived.KernelRfl
/- The closed function, evaluated by the kernel. -/
set_option maxRecDepth 1000000
set_option maxHeartbeats 40000000
set_option linter.unusedVariables false
set_option linter.unusedSimpArgs false
set_option linter.unnecessarySimpa false
namespace Go.Pl
open Go Go.Sl
theorem A0S {x : Int} (h : -9223372036854775808≤x) (h' : x≤9223372036854775807) : P5 x = some x:=by
  unfold P5
  cases x with
  | ofNat n=>
    have : Nat.ble n 9223372036854775807 = true:=Nat.ble_eq_true_of_le (by simp at h'; omega)
    simp [this]
  | negSucc n=>
    have : Nat.ble n 9223372036854775807 = true:=Nat.ble_eq_true_of_le (by omega)
    simp [this]
theorem A0o {n : Nat} (h : n < 9223372036854775807) : P5 ((n : Int) + 1) = some ((n + 1 : Nat) : Int):=by
  rw [A0S (by omega) (by omega)]; rfl
theorem W9 {α : Type} {xs : List α} {n : Nat} {x : α} (h : xs[n]? = some x) : K6 xs (n : Int) = some x:=h
theorem C8u {α : Type} {xs : List α} {n : Nat} (h : n < xs.length) : K6 xs (n : Int) = some xs[n]:=by
  rw [W9 (List.getElem?_eq_getElem h)]
theorem A0f {α : Type} {xs : List α} {n : Nat} {x : α} (h : xs[n]? = some x) : n < xs.length:=by
  obtain ⟨h,_⟩:=List.getElem?_eq_some_iff.1 h; exact h
theorem C4N {α : Type} {b : Bool} {x y : α} (h : b = true) : (bif b then x else y) = x:=by subst h; rfl
theorem C9b {α : Type} {b : Bool} {x y : α} (h : b = false) : (bif b then x else y) = y:=by subst h; rfl
def A8E {α τ ρ : Type} (body : α→Nat→τ→α⊕ρ) (fin : α→ρ) : α→Nat→List τ→ρ
  | a,_,[]=>fin a
  | a,i,x::xs=>match body a i x with
    | .inl a'=>A8E body fin a' (i + 1) xs
    | .inr r=>r
theorem C5e {σ ρ α τ : Type} {f : σ→Option (σ⊕ρ)} (st : α→Nat→σ) (xs : List τ) (body : α→Nat→τ→α⊕ρ) (fin : α→ρ) (I : α→Nat→Prop)
    (h1 : ∀ a i x,xs[i]? = some x→I a i→match body a i x with
      | .inl a'=>f (st a i) = some (.inl (st a' (i + 1)))∧I a' (i + 1)
      | .inr r=>f (st a i) = some (.inr r))
    (h2 : ∀ a,I a xs.length→f (st a xs.length) = some (.inr (fin a))) :
    ∀ (n k : Nat) (a : α),I a k→k≤xs.length→xs.length - k < n→iter f n (st a k) = some (A8E body fin a k (xs.drop k)):=by
  intro n
  induction n with
  | zero=>intro k a _ _ h; omega
  | succ n ih=>
    intro k a hI hk hn
    by_cases hl : k = xs.length
    · subst hl
      simp only [iter,h2 a hI,Option.bind_some,List.drop_length,A8E]
    · have hlt : k < xs.length:=by omega
      have hx:=List.getElem?_eq_getElem hlt
      have:=h1 a k _ hx hI
      rw [List.drop_eq_getElem_cons hlt]
      cases hb : body a k xs[k] with
      | inl a'=>
        rw [hb] at this
        simp only [iter,this.1,Option.bind_some,A8E,hb]
        exact ih (k + 1) a' this.2 (by omega) (by omega)
      | inr r=>
        rw [hb] at this
        simp only [iter,this,Option.bind_some,A8E,hb]
theorem B6a {σ ρ α τ : Type} {f : σ→Option (σ⊕ρ)} (st : α→Nat→σ) (xs : List τ) (body : α→Nat→τ→α⊕ρ) (fin : α→ρ) (I : α→Nat→Prop) {a : α} (h0 : I a 0) {n : Nat} (hn : xs.length < n)
    (h1 : ∀ a i x,xs[i]? = some x→I a i→match body a i x with
      | .inl a'=>f (st a i) = some (.inl (st a' (i + 1)))∧I a' (i + 1)
      | .inr r=>f (st a i) = some (.inr r))
    (h2 : ∀ a,I a xs.length→f (st a xs.length) = some (.inr (fin a))) : iter f n (st a 0) = some (A8E body fin a 0 xs):=by
  have:=C5e st xs body fin I h1 h2 n 0 a h0 (Nat.zero_le _) (by omega)
  simpa using this
def A1F {τ ρ : Type} (bad : Nat→τ→Option ρ) (fin : ρ) : Nat→List τ→ρ
  | _,[]=>fin
  | i,x::xs=>match bad i x with
    | some r=>r
    | none=>A1F bad fin (i + 1) xs
theorem A2y {ρ τ : Type} {f : Int→Option (Int⊕ρ)} (xs : List τ) (bad : Nat→τ→Option ρ) (fin : ρ) {n : Nat} (hn : xs.length < n)
    (h1 : ∀ (i : Nat) x,xs[i]? = some x→f i = some (match bad i x with | some r=>.inr r | none=>.inl ((i + 1 : Nat) : Int)))
    (h2 : f xs.length = some (.inr fin)) : iter f n (0 : Int) = some (A1F bad fin 0 xs):=by
  have key : ∀ (n k : Nat),k≤xs.length→xs.length - k < n→iter f n (k : Int) = some (A1F bad fin k (xs.drop k)):=by
    intro n
    induction n with
    | zero=>intro k _ h; omega
    | succ n ih=>
      intro k hk hn
      by_cases hl : k = xs.length
      · subst hl
        simp only [iter,h2,Option.bind_some,List.drop_length,A1F]
      · have hlt : k < xs.length:=by omega
        have:=h1 k _ (List.getElem?_eq_getElem hlt)
        rw [List.drop_eq_getElem_cons hlt]
        cases hb : bad k xs[k] with
        | none=>
          rw [hb] at this
          simp only [iter,this,Option.bind_some,A1F,hb]
          exact ih (k + 1) (by omega) (by omega)
        | some r=>
          rw [hb] at this
          simp only [iter,this,Option.bind_some,A1F,hb]
  have:=key n 0 (Nat.zero_le _) (by omega)
  simpa using this
theorem A8Z {τ ρ : Type} (bad : Nat→τ→Option ρ) (ok : τ→Bool) (r fin : ρ) (hb : ∀ i x,bad i x = if ok x then none else some r) :
    ∀ (xs : List τ) (i : Nat),A1F bad fin i xs = if xs.all ok then fin else r:=by
  intro xs
  induction xs with
  | nil=>intro i; rfl
  | cons x xs ih=>
    intro i
    simp only [A1F,List.all_cons]
    rw [hb]
    by_cases hx : ok x = true
    · simp [hx,ih]
    · simp [hx]
theorem fuel {n : Nat} (h : n≤9223372036854775807) : n < FUEL:=Nat.lt_of_le_of_lt h (by decide)
theorem C2Q : ∀ (x y : List UInt8),Op.bytesLess x y = decide (x < y)
  | [],[]=>by simp [Op.bytesLess]
  | _::_,[]=>by simp [Op.bytesLess]
  | [],_::_=>by simp [Op.bytesLess]
  | a::x,b::y=>by
    rw [Op.bytesLess,C2Q x y]
    simp only [List.cons_lt_cons_iff]
    by_cases h1 : a < b <;> by_cases h2 : a = b <;> by_cases h3 : x < y <;> simp [h1,h2,h3]
theorem C5C : ∀ (x y : List UInt8),Lib.compareBytes x y < 0↔x < y
  | [],[]=>by simp [Lib.compareBytes]
  | _::_,[]=>by simp [Lib.compareBytes]
  | [],_::_=>by simp [Lib.compareBytes]
  | a::x,b::y=>by
    have ih:=C5C x y
    simp only [Lib.compareBytes,List.cons_lt_cons_iff]
    by_cases h1 : a < b
    · simp [h1]
    · by_cases h2 : b < a
      · have : a ≠ b:=fun e=>by subst e; exact h1 h2
        simp [h1,h2,this]
      · have : a = b:=UInt8.le_antisymm (UInt8.not_lt.1 h2) (UInt8.not_lt.1 h1)
        subst this
        simp [ih]
theorem C4n : ∀ (x y : List UInt8),Lib.compareBytes x y = 0↔x = y
  | [],[]=>by simp [Lib.compareBytes]
  | _::_,[]=>by simp [Lib.compareBytes]
  | [],_::_=>by simp [Lib.compareBytes]
  | a::x,b::y=>by
    have ih:=C4n x y
    simp only [Lib.compareBytes,List.cons.injEq]
    by_cases h1 : a < b
    · have : a ≠ b:=fun e=>by subst e; exact UInt8.lt_irrefl _ h1
      simp [h1,this]
    · by_cases h2 : b < a
      · have : a ≠ b:=fun e=>by subst e; exact h1 h2
        simp [h1,h2,this]
      · have : a = b:=UInt8.le_antisymm (UInt8.not_lt.1 h2) (UInt8.not_lt.1 h1)
        subst this
        simp [ih]
theorem B1Q (a b : ByteArray) : B7G a b = 0↔a = b:=by
  unfold B7G
  rw [C4n]
  constructor
  · intro h; cases a; cases b; simp only [ByteArray.mk.injEq]; exact Array.toList_inj.1 h
  · rintro rfl; rfl
end Go.Pl
namespace Go.Pl
open Go Go.Sl Go.Dm
theorem mx : maxLen = 9223372036854775807:=by decide
def B5S (c : UInt8) : Bool:=decide (97≤c.toNat) && decide (c.toNat≤122)
def A1B (s : ByteArray) : Bool:=decide (1≤s.size) && decide (s.size≤12) && s.data.toList.all B5S
theorem B9s (s : ByteArray) : s.data.toList.length = s.size:=by rw [Array.length_toList]; rfl
theorem C6E {s : ByteArray} {n : Nat} {c : UInt8} (h : s.data.toList[n]? = some c) : B4C s (n : Int) = some (c.toNat : Int):=by
  show (s.data.toList[n]?).map _ = _
  rw [h]
  rfl
theorem C0P {s : ByteArray} (hs : s.size≤maxLen) : iter (A3f s) FUEL (0 : Int) = some (if s.data.toList.all B5S then .inl () else .inr false):=by
  rw [mx] at hs
  rw [A2y s.data.toList (fun i c=>if B5S c then none else some (.inr false)) (.inl ()) (by rw [B9s]; exact fuel hs),A8Z (ρ:=Unit⊕Bool) (fun i c=>if B5S c then none else some (.inr false)) B5S (.inr false) (.inl ()) (fun i x=>rfl)]
  · intro i c h
    have hi:=A0f h
    rw [B9s] at hi
    simp only [A3f,C6E h,Option.bind_some,Bool.cond_decide]
    rw [if_pos (by omega),A0o (by omega)]
    by_cases h1 : (c.toNat : Int) < 97
    · have : B5S c = false:=by simp [B5S]; omega
      simp [h1,this]
    · by_cases h2 : (122 : Int) < c.toNat
      · have : B5S c = false:=by simp [B5S]; omega
        simp [h1,h2,this]
      · have : B5S c = true:=by simp [B5S]; omega
        simp [h1,h2,this]
  · simp [A3f,B9s]
theorem C1Y {s : ByteArray} (hs : s.size≤maxLen) : B2y s = some (A1B s):=by
  have e1 : decide ((1 : Int)≤(s.size : Int)) = decide (1≤s.size):=decide_eq_decide.2 (by omega)
  have e2 : decide ((s.size : Int)≤(12 : Int)) = decide (s.size≤12):=decide_eq_decide.2 (by omega)
  simp only [B2y,C0P hs,Option.bind_some,A1B,e1,e2]
  cases s.data.toList.all B5S <;> cases decide (1≤s.size) <;> cases decide (s.size≤12) <;> rfl
theorem A3t {s : ByteArray} (hs : s.size≤maxLen) : A4S s = some (A1B s):=by
  have e : A7R s = A3f s:=rfl
  have e1 : decide ((s.size : Int) = (0 : Int)) = !decide (1≤s.size):=by rw [←decide_not]; exact decide_eq_decide.2 (by omega)
  have e2 : decide ((12 : Int) < (s.size : Int)) = !decide (s.size≤12):=by rw [←decide_not]; exact decide_eq_decide.2 (by omega)
  simp only [A4S,e,C0P hs,Option.bind_some,A1B,e1,e2]
  cases s.data.toList.all B5S <;> cases decide (1≤s.size) <;> cases decide (s.size≤12) <;> rfl
theorem C1K {s : ByteArray} (hs : s.size≤maxLen) : B6c s = some (A1B s):=A3t hs
theorem B3x {s : ByteArray} (hs : s.size≤maxLen) : A6R s = some (A1B s):=A3t hs
theorem A3Z {s : ByteArray} (hs : s.size≤maxLen) : A1y s = some (A1B s):=by
  have e : A1y s = A6R s:=by
    have e2 : B1L s = A7I s:=rfl
    have e3 : decide ((s.size : Int) < (1 : Int)) = decide ((s.size : Int) = (0 : Int)):=by
      rw [decide_eq_decide]; omega
    simp only [A1y,A6R,e2,e3]
  rw [e,B3x hs]
def A3b {α : Type} (p : α→Bool) : Nat→List α→Int
  | _,[]=>-1
  | i,x::l=>if p x then (i : Int) else A3b p (i + 1) l
theorem C1i {α : Type} (p : α→Bool) (l : List α) : ∀ i,(A3b p i l < 0) = (l.any p = false):=by
  induction l with
  | nil=>intro i; simp [A3b]
  | cons x l ih=>
    intro i
    simp only [A3b,List.any_cons]
    cases h : p x
    · simp [ih]
    · simp
theorem C1d {α : Type} (p : α→Bool) (l : List α) (i : Nat) : (0≤A3b p i l) = (l.any p = true):=by
  have:=C1i p l i
  cases h : l.any p
  · rw [h] at this; simp at this ⊢; omega
  · rw [h] at this; simp at this ⊢; omega
theorem C5x {α : Type} (p : α→Bool) (l : List α) : ∀ i,0≤A3b p i l→∃ k : Nat,A3b p i l = ((i + k : Nat) : Int)∧k < l.length:=by
  induction l with
  | nil=>intro i h; simp [A3b] at h
  | cons x l ih=>
    intro i h
    simp only [A3b] at h ⊢
    cases hp : p x
    · simp only [hp] at h
      obtain ⟨k,e,hk⟩:=ih (i + 1) (by simpa using h)
      exact ⟨k + 1,by simp only [Bool.false_eq_true,if_false]; rw [e]; congr 1; omega,by simpa using hk⟩
    · exact ⟨0,by simp,by simp⟩
theorem C4k {α : Type} (p : α→Bool) (l : List α) : ∀ i,l.any p = false→A3b p i l = -1:=by
  induction l with
  | nil=>intro i _; rfl
  | cons x l ih=>
    intro i hq
    simp only [List.any_cons,Bool.or_eq_false_iff] at hq
    simp only [A3b,hq.1,Bool.false_eq_true,if_false]
    exact ih (i + 1) hq.2
theorem C3x {α : Type} (p : α→Bool) (l : List α) : ∀ i,A1F (fun (i : Nat) x=>if p x then some (.inr (i : Int)) else none) (.inl () : Unit⊕Int) i l = if l.any p then .inr (A3b p i l) else .inl ():=by
  induction l with
  | nil=>intro i; rfl
  | cons x l ih=>
    intro i
    simp only [A1F,A3b,List.any_cons]
    by_cases h : p x = true <;> simp [h,ih]
theorem B2z {α : Type} {f : Int→Option (Int⊕(Unit⊕Int))} (l : List α) (p : α→Bool) (hl : l.length≤maxLen)
    (h1 : ∀ (i : Nat) x,l[i]? = some x→f i = some (if p x then .inr (.inr (i : Int)) else .inl ((i + 1 : Nat) : Int))) (h2 : f l.length = some (.inr (.inl ()))) :
    (iter f FUEL (0 : Int)).bind (fun o=>match o with | .inl _=>some (-1 : Int) | .inr p=>some p) = some (A3b p 0 l):=by
  rw [mx] at hl
  rw [A2y l (fun i x=>if p x then some (.inr (i : Int)) else none) (.inl ()) (fuel hl) (fun i x h=>by rw [h1 i x h]; cases p x <;> rfl) h2,C3x]
  cases hq : l.any p
  · simp [C4k p l 0 hq]
  · simp
theorem C8b {l : List D5} (hl : l.length≤maxLen) {f : D5→Option Bool} {p : D5→Bool} (hf : ∀ x,f x = some (p x)) : A1J l f = some (A3b p 0 l):=by
  unfold A1J
  refine B2z l p hl (fun i x h=>?_) (by simp [A1P])
  have hi:=A0f h
  rw [mx] at hl
  simp only [A1P,W9 h,hf,Option.bind_some,Bool.cond_decide]
  rw [if_pos (by omega),A0o (by omega)]
  cases p x <;> simp
theorem C8V {l : List E5} (hl : l.length≤maxLen) {f : E5→Option Bool} {p : E5→Bool} (hf : ∀ x,f x = some (p x)) : A1R l f = some (A3b p 0 l):=by
  unfold A1R
  refine B2z l p hl (fun i x h=>?_) (by simp [A1M])
  have hi:=A0f h
  rw [mx] at hl
  simp only [A1M,W9 h,hf,Option.bind_some,Bool.cond_decide]
  rw [if_pos (by omega),A0o (by omega)]
  cases p x <;> simp
theorem B0z {l : List E5} (hl : l.length≤maxLen) (n : ByteArray) : A2A l n = some (A3b (fun x=>decide (x.H7 = n)) 0 l):=by
  unfold A2A
  refine B2z l _ hl (fun i x h=>?_) (by simp [A7E])
  have hi:=A0f h
  rw [mx] at hl
  simp only [A7E,W9 h,Option.bind_some,Bool.cond_decide]
  rw [if_pos (by omega),A0o (by omega)]
  by_cases hx : x.H7 = n <;> simp [hx]
theorem B6g {l : List D5} (hl : l.length≤maxLen) (n : ByteArray) : A3y l n = some (A3b (fun x=>decide (x.H7 = n)) 0 l):=by
  unfold A3y
  refine B2z l _ hl (fun i x h=>?_) (by simp [A3h])
  have hi:=A0f h
  rw [mx] at hl
  simp only [A3h,W9 h,Option.bind_some,Bool.cond_decide]
  rw [if_pos (by omega),A0o (by omega)]
  by_cases hx : x.H7 = n <;> simp [hx]
theorem C2H {p : A8} (hl : p.F3.length≤maxLen) (n : ByteArray) : A2C p n = some (A3b (fun x=>decide (x.H7 = n)) 0 p.F3):=by
  simp only [A2C,C8V hl (f:=fun y0=>A9b y0 n) (fun x=>rfl),Option.bind_some]
end Go.Pl
namespace Go.Pl
open Go Go.Sl Go.Dm
def A4d (t : D5) : Int:=
  if t.N9 = 1 then (if t.fA < 1∨24 < t.fA∨t.fB ≠ 0 then 0 else t.fA)
  else if t.N9 = 2 then (if t.fA < 1∨11 < t.fA∨t.fB < 0∨2 < t.fB then 0 else 2 * t.fA + t.fB)
  else if t.N9 = 3 then (if t.fA < 1∨8 < t.fA∨t.fB < 1∨8 < t.fB then 0 else t.fA + 2 * t.fB)
  else if t.N9 = 4 then (if t.fA < 1∨24 < t.fA∨t.fB < 0∨t.fA < t.fB then 0 else t.fA)
  else 0
theorem A8N (t : D5) : 0≤A4d t∧A4d t≤24:=by
  unfold A4d
  repeat' split
  all_goals omega
theorem B9X (a b : Int) : A3C a b = some (if a < 1∨24 < a∨b ≠ 0 then 0 else a):=by
  simp only [A3C,Bool.cond_decide]
  by_cases h1 : a < 1 <;> by_cases h2 : 24 < a <;> by_cases h3 : b = 0 <;> simp [h1,h2,h3]
theorem C1J (a b : Int) : A4j a b = some (if a < 1∨11 < a∨b < 0∨2 < b then 0 else 2 * a + b):=by
  simp only [A4j,Bool.cond_decide]
  by_cases h1 : a < 1
  · simp [h1]
  by_cases h2 : 11 < a
  · simp [h1,h2]
  by_cases h3 : b < 0
  · simp [h1,h2,h3]
  by_cases h4 : 2 < b
  · simp [h1,h2,h3,h4]
  simp only [h1,h2,h3,h4,if_false,or_self]
  rw [A0S (by omega) (by omega),Option.bind_some,A0S (by omega) (by omega)]
  rfl
theorem C1y (a b : Int) : A4g a b = some (if a < 1∨8 < a∨b < 1∨8 < b then 0 else a + 2 * b):=by
  simp only [A4g,Bool.cond_decide]
  by_cases h1 : a < 1
  · simp [h1]
  by_cases h2 : 8 < a
  · simp [h1,h2]
  by_cases h3 : b < 1
  · simp [h1,h2,h3]
  by_cases h4 : 8 < b
  · simp [h1,h2,h3,h4]
  simp only [h1,h2,h3,h4,if_false,or_self]
  rw [A0S (by omega) (by omega),Option.bind_some,A0S (by omega) (by omega)]
  rfl
theorem C2X (a b : Int) : A5b a b = some (if a < 1∨24 < a∨b < 0∨a < b then 0 else a):=by
  simp only [A5b,Bool.cond_decide]
  by_cases h1 : a < 1 <;> by_cases h2 : 24 < a <;> by_cases h3 : b < 0 <;> by_cases h4 : a < b <;> simp [h1,h2,h3,h4]
theorem A9D (t : D5) : A2j t = some (A4d t):=by
  simp only [A2j,A2c,A8K,Bool.cond_decide,A4d]
  by_cases h1 : t.N9 = 1
  · simp [h1,B9X]
  by_cases h2 : t.N9 = 2
  · simp [h2,C1J]
  by_cases h3 : t.N9 = 3
  · simp [h3,C1y]
  by_cases h4 : t.N9 = 4
  · simp [h4,C2X]
  simp [h1,h2,h3,h4]
theorem B5T (n a b : Int) : A0j n a b = some (decide (a≤n) && decide (n≤b)):=by
  simp only [A0j,Bool.cond_decide]
  by_cases h : a≤n <;> simp [h]
theorem A8f (t : D5) : A3R t = some (A4d t):=by
  have e : ∀ (a b : Int) (x y : Option Int),(bif decide (a≤b) && decide (b≤24) then x else y) = x→True:=fun _ _ _ _ _=>trivial
  simp only [A3R,B3R,B5T,Option.bind_some,Bool.cond_decide,A4d]
  by_cases h1 : t.N9 = 1
  · simp only [h1,if_true]
    by_cases a1 : t.fA < 1
    · have : ¬ 1≤t.fA:=by omega
      simp [a1,this]
    by_cases a2 : 24 < t.fA
    · have : ¬ t.fA≤24:=by omega
      simp [a2,this]
    have b1 : 1≤t.fA:=by omega
    have b2 : t.fA≤24:=by omega
    by_cases a3 : t.fB = 0 <;> simp [a1,a2,a3,b1,b2]
  by_cases h2 : t.N9 = 2
  · simp only [h1,h2,if_true,if_false]
    by_cases a1 : t.fA < 1
    · have : ¬ 1≤t.fA:=by omega
      simp [a1,this]
    by_cases a2 : 11 < t.fA
    · have : ¬ t.fA≤11:=by omega
      simp [a2,this]
    by_cases a3 : t.fB < 0
    · have : ¬ 0≤t.fB:=by omega
      simp [a3,this]
    by_cases a4 : 2 < t.fB
    · have : ¬ t.fB≤2:=by omega
      simp [a4,this]
    have b1 : 1≤t.fA:=by omega
    have b2 : t.fA≤11:=by omega
    have b3 : 0≤t.fB:=by omega
    have b4 : t.fB≤2:=by omega
    simp [a1,a2,a3,a4,b1,b2,b3,b4,A0S (show -9223372036854775808≤2 * t.fA by omega) (by omega),A0S (show -9223372036854775808≤2 * t.fA + t.fB by omega) (by omega)]
  by_cases h3 : t.N9 = 3
  · simp only [h1,h2,h3,if_true,if_false]
    by_cases a1 : t.fA < 1
    · have : ¬ 1≤t.fA:=by omega
      simp [a1,this]
    by_cases a2 : 8 < t.fA
    · have : ¬ t.fA≤8:=by omega
      simp [a2,this]
    by_cases a3 : t.fB < 1
    · have : ¬ 1≤t.fB:=by omega
      simp [a3,this]
    by_cases a4 : 8 < t.fB
    · have : ¬ t.fB≤8:=by omega
      simp [a4,this]
    have b1 : 1≤t.fA:=by omega
    have b2 : t.fA≤8:=by omega
    have b3 : 1≤t.fB:=by omega
    have b4 : t.fB≤8:=by omega
    simp [a1,a2,a3,a4,b1,b2,b3,b4,A0S (show -9223372036854775808≤2 * t.fB by omega) (by omega),A0S (show -9223372036854775808≤t.fA + 2 * t.fB by omega) (by omega)]
  by_cases h4 : t.N9 = 4
  · simp only [h1,h2,h3,h4,if_true,if_false]
    by_cases a1 : t.fA < 1
    · have : ¬ 1≤t.fA:=by omega
      simp [a1,this]
    by_cases a2 : 24 < t.fA
    · have : ¬ t.fA≤24:=by omega
      simp [a2,this]
    by_cases a3 : t.fB < 0
    · have : ¬ 0≤t.fB:=by omega
      simp [a3,this]
    by_cases a4 : t.fA < t.fB
    · have : ¬ t.fB≤t.fA:=by omega
      simp [a4,this]
    have b1 : 1≤t.fA:=by omega
    have b2 : t.fA≤24:=by omega
    have b3 : 0≤t.fB:=by omega
    have b4 : t.fB≤t.fA:=by omega
    simp [a1,a2,a3,a4,b1,b2,b3,b4]
  simp [h1,h2,h3,h4]
def A5O (n : Int) : Int→List Int→Bool
  | _,[]=>true
  | last,k::l=>decide (last < k) && decide (k < n) && A5O n k l
def A6L (t : D5) : Int:=
  if A1B t.H7 = false then 4 else if A4d t = 0 then 10 else if A5O (A4d t) (-1) t.A0N = false then 11
  else if t.fX < 0∨1000 < t.fX∨t.fY < 0∨1000 < t.fY then 2 else 0
theorem C5d {t : D5} (n : Int) (hl : t.A0N.length≤maxLen) : iter (A1r t n) FUEL ((0 : Int),(-1 : Int)) = some (if A5O n (-1) t.A0N then .inl () else .inr 11):=by
  rw [mx] at hl
  have:=B6a (f:=A1r t n) (fun (a : Int) (i : Nat)=>((i : Int),a)) t.A0N (fun a i x=>if a < x∧x < n then .inl x else .inr (.inr 11)) (fun _=>.inl ()) (fun _ _=>True) (a:=-1) trivial (n:=FUEL) (fuel (by omega))
    (fun a i x h _=>by
      have hi:=A0f h
      have hr:=A0o (n:=i) (by omega)
      have hlt : (i : Int) < (t.A0N.length : Int):=by omega
      by_cases hc : a < x∧x < n
      · have h1 : ¬ x≤a:=by omega
        have h2 : ¬ n≤x:=by omega
        simp only [if_pos hc]
        exact ⟨by simp only [A1r,W9 h,hr,Option.bind_some,Bool.cond_decide,if_pos hlt,if_neg h1,if_neg h2],trivial⟩
      · simp only [if_neg hc]
        by_cases h1 : x≤a
        · simp only [A1r,W9 h,hr,Option.bind_some,Bool.cond_decide,if_pos hlt,if_pos h1]
        · have h2 : n≤x:=by omega
          simp only [A1r,W9 h,hr,Option.bind_some,Bool.cond_decide,if_pos hlt,if_neg h1,if_pos h2])
    (fun a _=>by simp [A1r])
  rw [show ((0 : Int),(-1 : Int)) = (fun (a : Int) (i : Nat)=>((i : Int),a)) (-1) 0 from rfl,this]
  have key : ∀ (l : List Int) (a : Int) (i : Nat),A8E (fun (a : Int) (i : Nat) (x : Int)=>if a < x∧x < n then Sum.inl x else Sum.inr (Sum.inr 11)) (fun _=>Sum.inl ()) a i l = (if A5O n a l then .inl () else .inr 11 : Unit⊕Int):=by
    intro l
    induction l with
    | nil=>intro a i; rfl
    | cons x l ih=>
      intro a i
      by_cases hx : a < x∧x < n
      · simp [A8E,A5O,hx,ih]
      · by_cases h1 : a < x
        · have : ¬ x < n:=fun q=>hx ⟨h1,q⟩
          simp [A8E,A5O,this]
        · simp [A8E,A5O,h1]
  rw [key]
theorem C3W {t : D5} {n : Int} (hn : 0≤n∧n≤24) (hl : t.A0N.length≤maxLen) : iter (A3d t n) FUEL (0 : Int) = some (if A5O n (-1) t.A0N then .inl () else .inr 11):=by
  rw [mx] at hl
  rw [A2y t.A0N (fun i x=>if (0≤x∧x < n)∧(i = 0∨t.A0N.getD (i - 1) 0 < x) then none else some (.inr 11)) (.inl ()) (fuel (by omega))
    (fun i x h=>by
      have hi:=A0f h
      simp only [A3d,B2p,W9 h,B5T,Option.bind_some,Bool.cond_decide]
      rw [if_pos (by omega),A0S (x:=n - 1) (by omega) (by omega)]
      simp only [Option.bind_some]
      by_cases h1 : 0≤x∧x < n
      · have b1 : 0≤x:=h1.1
        have b2 : x≤n - 1:=by omega
        by_cases h0 : i = 0
        · subst h0
          simp [b1,b2,h1,A0S]
        · have hp : t.A0N[i - 1]? = some (t.A0N.getD (i - 1) 0):=by
            rw [List.getD_eq_getElem?_getD,List.getElem?_eq_getElem (show i - 1 < t.A0N.length by omega)]; rfl
          have hc : ((i : Int) - 1) = ((i - 1 : Nat) : Int):=by omega
          have h0' : (0 : Int) < i:=by omega
          rw [hc,A0S (x:=((i - 1 : Nat) : Int)) (by omega) (by omega),A0o (by omega)]
          simp only [Option.bind_some,W9 hp]
          have hi0 : 0 < i:=by omega
          generalize t.A0N.getD (i - 1) 0 = q at *
          by_cases h2 : q < x
          · have : ¬ x≤q:=by omega
            simp [b1,b2,h1,h0,hi0,h2,this]
          · have : x≤q:=by omega
            simp [b1,b2,h1,h0,hi0,h2,this]
      · have : ¬ (0≤x∧x≤n - 1):=by omega
        have h3 : (decide (0≤x) && decide (x≤n - 1)) = false:=by simpa using this
        simp [h1,h3])
    (by simp [A3d])]
  congr 1
  have key : ∀ (k : Nat) (l : List Int) (a : Int),t.A0N.drop k = l→(k = 0→a = -1)→(k ≠ 0→a = t.A0N.getD (k - 1) 0)→-1≤a→
      A1F (fun i x=>if (0≤x∧x < n)∧(i = 0∨t.A0N.getD (i - 1) 0 < x) then none else some (.inr 11)) (.inl ()) k l = (if A5O n a l then .inl () else .inr 11 : Unit⊕Int):=by
    intro k l
    induction l generalizing k with
    | nil=>intro a _ _ _ _; rfl
    | cons x l ih=>
      intro a hd h0 h1 ha
      have hk : t.A0N[k]? = some x:=by rw [←List.head?_drop,hd]; rfl
      have hx : t.A0N.getD k 0 = x:=by rw [List.getD_eq_getElem?_getD,hk]; rfl
      have hd' : t.A0N.drop (k + 1) = l:=by rw [←List.tail_drop,hd]; rfl
      have hc : ((0≤x∧x < n)∧(k = 0∨t.A0N.getD (k - 1) 0 < x))↔(a < x∧x < n):=by
        by_cases hk0 : k = 0
        · have:=h0 hk0
          simp [hk0]; omega
        · have:=h1 hk0
          simp only [hk0,false_or,←this]; omega
      simp only [A1F,A5O]
      by_cases hq : a < x∧x < n
      · rw [if_pos (hc.2 hq)]
        simp only
        rw [ih (k + 1) x hd' (fun h=>by omega) (fun _=>by rw [Nat.add_sub_cancel,hx]) (by omega)]
        simp [hq]
      · rw [if_neg (fun h=>hq (hc.1 h))]
        have : (decide (a < x) && decide (x < n)) = false:=by simpa using hq
        simp [this]
  exact key 0 t.A0N (-1) rfl (fun _=>rfl) (fun h=>absurd rfl h) (by omega)
def OkT (t : D5) : Prop:=t.H7.size≤maxLen∧t.A0N.length≤maxLen
theorem C0f {t : D5} (h : OkT t) : A4G t = some (A6L t):=by
  simp only [A4G,B3n,A9D,C1Y h.1,C5d _ h.2,Option.bind_some,Bool.cond_decide,A6L]
  cases A1B t.H7
  · simp
  by_cases h0 : A4d t = 0
  · simp [h0]
  cases A5O (A4d t) (-1) t.A0N
  · simp [h0]
  by_cases h1 : t.fX < 0 <;> by_cases h2 : 1000 < t.fX <;> by_cases h3 : t.fY < 0 <;> by_cases h4 : 1000 < t.fY <;> simp [h0,h1,h2,h3,h4]
theorem B8a {t : D5} (h : OkT t) : A7i t = some (A6L t):=by
  simp only [A7i,A8f,B3x h.1,C3W (A8N t) h.2,B5T,Option.bind_some,Bool.cond_decide,A6L]
  cases A1B t.H7
  · simp
  by_cases h0 : A4d t = 0
  · simp [h0]
  cases A5O (A4d t) (-1) t.A0N
  · simp [h0]
  simp only [h0,if_false,Bool.not_true,Bool.not_false,cond_true,cond_false,if_true,Bool.true_eq_false]
  by_cases h1 : t.fX < 0
  · have : ¬ 0≤t.fX:=by omega
    simp [h1,this]
  by_cases h2 : 1000 < t.fX
  · have : ¬ t.fX≤1000:=by omega
    simp [h1,h2,this]
  have g1 : 0≤t.fX:=by omega
  have g2 : t.fX≤1000:=by omega
  by_cases h3 : t.fY < 0
  · have : ¬ 0≤t.fY:=by omega
    simp [h1,h2,h3,g1,g2,this]
  by_cases h4 : 1000 < t.fY
  · have : ¬ t.fY≤1000:=by omega
    simp [h1,h2,h3,h4,g1,g2,this]
  have g3 : 0≤t.fY:=by omega
  have g4 : t.fY≤1000:=by omega
  simp [h1,h2,h3,h4,g1,g2,g3,g4]
end Go.Pl
namespace Go.Pl
open Go Go.Sl Go.Dm
theorem B9c {α : Type} {l : List α} {i : Nat} (h : i≤l.length) : sbL l 0 (i : Int) = some (l.take i):=by
  have : sbL l 0 (i : Int) = (bif Nat.ble 0 i && Nat.ble i l.length then some (Sl.sub l 0 i) else none):=rfl
  rw [this,show Nat.ble 0 i = true from Nat.ble_eq_true_of_le (Nat.zero_le _),Nat.ble_eq_true_of_le h]
  simp [Sl.sub]
theorem C7M {σ ρ : Type} {f : σ→Option (σ⊕ρ)} {s : σ} {r : ρ} (h : f s = some (.inr r)) : iter f FUEL s = some r:=by
  have key : ∀ n,iter f (n + 1) s = some r:=fun n=>by simp [iter,h]
  exact key 18446744073709551615
theorem C5h {τ R : Type} (bad : Nat→τ→Option (Unit⊕R)) (hb : ∀ i x r,bad i x = some r→∃ q,r = .inr q) : ∀ (xs : List τ) (i : Nat),A1F bad (.inl ()) i xs = .inl ()→∀ k x,xs[k]? = some x→bad (i + k) x = none:=by
  intro xs
  induction xs with
  | nil=>intro i _ k x h; simp at h
  | cons y xs ih=>
    intro i h k x hk
    simp only [A1F] at h
    cases hy : bad i y with
    | some r=>
      rw [hy] at h
      obtain ⟨q,rfl⟩:=hb _ _ _ hy
      cases h
    | none=>
      rw [hy] at h
      cases k with
      | zero=>simp at hk; subst hk; exact hy
      | succ k=>
        have:=ih (i + 1) h k x (by simpa using hk)
        rwa [show i + (k + 1) = i + 1 + k by omega]
def B2J (l : List D5) (i : Nat) (x : D5) : Option (Unit⊕(Int×Int)):=
  if A6L x ≠ 0 then some (.inr ((i : Int),A6L x)) else if (l.take i).any (fun y=>decide (y.H7 = x.H7)) then some (.inr ((i : Int),5)) else none
def C6R : Unit⊕(Int×Int)→Int×Int
  | .inl _=>(0,0)
  | .inr p=>p
def A9r (l : List D5) : Int×Int:=if 16 < l.length then (0,7) else C6R (A1F (B2J l) (.inl ()) 0 l)
def C3n (l : List D5) : Prop:=l.length≤maxLen∧∀ t ∈ l,OkT t
theorem A4Y {α : Type} {l : List α} {i : Nat} {x : α} (h : l[i]? = some x) : x ∈ l:=by
  obtain ⟨hi,rfl⟩:=List.getElem?_eq_some_iff.1 h
  exact List.getElem_mem hi
theorem A8x {l : List D5} (h : C3n l) : A3r l = some (A9r l):=by
  have hl:=h.1
  rw [mx] at hl
  simp only [A3r,A9r,Bool.cond_decide]
  by_cases h16 : 16 < l.length
  · have : (16 : Int) < (l.length : Int):=by omega
    simp [h16,this]
  have n16 : ¬ (16 : Int) < (l.length : Int):=by omega
  rw [if_neg n16,if_neg h16,A2y l (B2J l) (.inl ()) (fuel (by omega)) (fun i x hx=>by
      have hi:=A0f hx
      simp only [A3i,W9 hx,C0f (h.2 x (A4Y hx)),B9c (Nat.le_of_lt hi),Option.bind_some,Bool.cond_decide,A3c,
        C8b (l:=l.take i) (by rw [mx]; simp; omega) (f:=fun y0=>A4p y0 x) (p:=fun y=>decide (y.H7 = x.H7)) (fun y=>rfl),C1d]
      rw [if_pos (by omega),A0o (by omega)]
      unfold B2J
      by_cases h1 : A6L x = 0
      · cases h2 : (l.take i).any (fun y=>decide (y.H7 = x.H7)) <;> simp [h1,h2]
      · simp [h1]) (by simp [A3i])]
  cases A1F (B2J l) (.inl ()) 0 l <;> rfl
theorem B4W {l : List D5} (h : C3n l) : A4o l = some (A9r l):=by
  have hl:=h.1
  rw [mx] at hl
  simp only [A4o,A9r,Bool.cond_decide]
  by_cases h16 : 16 < l.length
  · have : (16 : Int) < (l.length : Int):=by omega
    simp [h16,this]
  have n16 : ¬ (16 : Int) < (l.length : Int):=by omega
  rw [if_neg n16,if_neg h16,A2y l (B2J l) (.inl ()) (fuel (by omega)) (fun i x hx=>by
      have hi:=A0f hx
      have inner : iter (A1L l i) FUEL (0 : Int) = some (if (l.take i).all (fun y=>decide (y.H7 ≠ x.H7)) then .inl () else .inr ((i : Int),(5 : Int))):=by
        rw [A2y (l.take i) (fun k y=>if decide (y.H7 ≠ x.H7) = true then none else some (.inr ((i : Int),(5 : Int)))) (.inl ()) (fuel (by simp; omega)) (fun k y hy=>by
          have hk:=A0f hy
          simp only [List.length_take] at hk
          have hy' : l[k]? = some y:=by rw [List.getElem?_take] at hy; rw [if_pos (by omega)] at hy; exact hy
          simp only [A1L,W9 hy',W9 hx,Option.bind_some,Bool.cond_decide]
          rw [if_pos (by omega),A0o (by omega)]
          by_cases hn : y.H7 = x.H7 <;> simp [hn]) (by simp [A1L,List.length_take,Nat.min_eq_left (Nat.le_of_lt hi)]),A8Z (ρ:=Unit⊕(Int×Int)) _ (fun y : D5=>decide (y.H7 ≠ x.H7)) (.inr ((i : Int),(5 : Int))) (.inl ()) (fun i x=>rfl)]
      simp only [A2O,W9 hx,B8a (h.2 x (A4Y hx)),inner,Option.bind_some,Bool.cond_decide]
      rw [if_pos (by omega),A0o (by omega)]
      unfold B2J
      by_cases h1 : A6L x = 0
      · have hq : (l.take i).all (fun y=>decide (y.H7 ≠ x.H7)) = !(l.take i).any (fun y=>decide (y.H7 = x.H7)):=by
          rw [List.all_eq_not_any_not]; simp
        rw [hq]
        cases h2 : (l.take i).any (fun y=>decide (y.H7 = x.H7)) <;> simp [h1,h2]
      · simp [h1]) (by simp [A2O])]
  cases A1F (B2J l) (.inl ()) 0 l <;> rfl
theorem C7i (l : List D5) : ∀ i x r,B2J l i x = some r→∃ q,r = .inr q:=by
  intro i x r h
  unfold B2J at h
  split at h
  · cases h; exact ⟨_,rfl⟩
  · split at h
    · cases h; exact ⟨_,rfl⟩
    · cases h
theorem C6K (l : List D5) : ∀ (xs : List D5) (i : Nat),(C6R (A1F (B2J l) (.inl ()) i xs)).2 = 0→A1F (B2J l) (.inl ()) i xs = .inl ():=by
  intro xs
  induction xs with
  | nil=>intro i _; rfl
  | cons x xs ih=>
    intro i h
    simp only [A1F] at h ⊢
    cases hb : B2J l i x with
    | none=>rw [hb] at h; exact ih (i + 1) h
    | some r=>
      rw [hb] at h
      exfalso
      unfold B2J at hb
      split at hb
      · rename_i hc
        cases hb; exact hc h
      · split at hb
        · cases hb; simp [C6R] at h
        · cases hb
theorem C2f {l : List D5} (h : (A9r l).2 = 0) : l.length≤16∧∀ t ∈ l,A6L t = 0:=by
  unfold A9r at h
  by_cases h16 : 16 < l.length
  · simp [h16] at h
  rw [if_neg h16] at h
  refine ⟨by omega,fun t ht=>?_⟩
  obtain ⟨k,hk⟩:=List.getElem?_of_mem ht
  have:=C5h (B2J l) (C7i l) l 0 (C6K l l 0 h) k t hk
  unfold B2J at this
  by_cases h0 : A6L t = 0
  · exact h0
  · simp [h0] at this
theorem A7S {l : List D5} (h : C3n l) : A3P l = some (decide ((A9r l).2 = 0)):=by
  simp only [A3P,A8x h,Option.bind_some]
def A5Q (l : List D5) : Int:=(l.map A4d).sum
theorem C2w (l : List D5) : 0≤A5Q l∧A5Q l≤24 * l.length:=by
  induction l with
  | nil=>simp [A5Q]
  | cons t l ih=>
    have:=A8N t
    simp only [A5Q,List.map_cons,List.sum_cons,List.length_cons] at ih ⊢
    omega
theorem C3w (l : List D5) : ∀ (a : Int) (i : Nat),A8E (fun (a : Int) (i : Nat) (x : D5)=>(Sum.inl (a + A4d x) : Int⊕Int)) (fun a=>a) a i l = a + A5Q l:=by
  induction l with
  | nil=>intro a i; simp [A8E,A5Q]
  | cons x l ih=>
    intro a i
    simp only [A8E,ih,A5Q,List.map_cons,List.sum_cons]
    omega
theorem B8y (l : List D5) (i : Nat) {x : D5} (h : l[i]? = some x) : A5Q (l.take (i + 1)) = A5Q (l.take i) + A4d x:=by
  obtain ⟨hi,rfl⟩:=List.getElem?_eq_some_iff.1 h
  rw [List.take_add_one,List.getElem?_eq_getElem hi]
  simp only [A5Q,Option.toList,List.map_append,List.sum_append,List.map_cons,List.map_nil,List.sum_cons,List.sum_nil,Int.add_zero]
theorem C3X {l : List D5} (hl : l.length≤16) : iter (A2J l) FUEL ((0 : Int),(0 : Int)) = some (A5Q l):=by
  have:=B6a (f:=A2J l) (fun (a : Int) (i : Nat)=>((i : Int),a)) l (fun a i x=>.inl (a + A4d x)) (fun a=>a) (fun a i=>a = A5Q (l.take i)) (a:=0) (by simp [A5Q]) (n:=FUEL) (fuel (by omega))
    (fun a i x h hI=>by
      have hi:=A0f h
      have b1:=C2w (l.take i)
      have b2:=A8N x
      simp only [List.length_take] at b1
      simp only [A2J,W9 h,A9D,Option.bind_some,Bool.cond_decide]
      rw [if_pos (by omega),A0o (by omega),A0S (by omega) (by omega)]
      exact ⟨rfl,by rw [B8y l i h,hI]⟩)
    (fun a _=>by simp [A2J])
  rw [show ((0 : Int),(0 : Int)) = (fun (a : Int) (i : Nat)=>((i : Int),a)) 0 0 from rfl,this,C3w]
  simp
theorem C5j {l : List D5} (hl : l.length≤16) : A7B l (l.length : Int) = some (A5Q l):=by
  have:=B6a (f:=A2S l (l.length : Int)) (fun (a : Int) (i : Nat)=>(a,(i : Int))) l (fun a i x=>.inl (a + A4d x)) (fun a=>a) (fun a i=>a = A5Q (l.take i)) (a:=0) (by simp [A5Q]) (n:=FUEL) (fuel (by omega))
    (fun a i x h hI=>by
      have hi:=A0f h
      have b1:=C2w (l.take i)
      have b2:=A8N x
      simp only [List.length_take] at b1
      simp only [A2S,W9 h,A8f,Option.bind_some,Bool.cond_decide]
      rw [if_pos (by omega),A0o (by omega),A0S (by omega) (by omega)]
      exact ⟨rfl,by rw [B8y l i h,hI]⟩)
    (fun a _=>by simp [A2S])
  simp only [A7B]
  rw [show ((0 : Int),(0 : Int)) = (fun (a : Int) (i : Nat)=>(a,(i : Int))) 0 0 from rfl,this,C3w]
  simp
theorem B9u {l : List D5} (hl : l.length≤16) : A7s l = some (A5Q l):=by
  simp only [A7s,C5j hl,Option.bind_some]
theorem B3u {l : List D5} (h : C3n l) (hc : (A9r l).2 = 0) : A1Y l = some (A5Q l):=by
  have hl:=(C2f hc).1
  simp only [A1Y,A7S h,hc,Option.bind_some,decide_true,Bool.not_true,cond_false]
  rw [A0S (by omega) (by omega)]
  simp only [Option.bind_some]
  cases l with
  | nil=>simp [A3O,A5e,A5Q]; rfl
  | cons t l=>
    generalize hL : t::l = L at *
    have hne : 0 < L.length:=by rw [←hL]; simp
    have hlast : (L.length : Int) - 1 = ((L.length - 1 : Nat) : Int):=by omega
    have hx:=List.getElem?_eq_getElem (show L.length - 1 < L.length by omega)
    have b1:=C2w (L.take (L.length - 1))
    have b2:=A8N L[L.length - 1]
    have b3 : (L.take (L.length - 1)).length≤16:=by simp; omega
    have hs:=B8y L (L.length - 1) hx
    rw [show L.length - 1 + 1 = L.length by omega,List.take_length] at hs
    rw [hlast]
    simp only [A3O,A5e,A7S h,hc,B9c (show L.length - 1≤L.length by omega),C3X b3,Option.bind_some,Bool.cond_decide]
    rw [if_neg (by omega),if_neg (by omega),if_neg (by omega),hlast,A0S (by omega) (by omega)]
    simp only [decide_true,Bool.not_true,cond_false,Option.bind_some,W9 hx,A9D]
    rw [A0S (by omega) (by omega),hs]
    rfl
end Go.Pl
namespace Go.Pl
open Go Go.Sl Go.Dm
def Z5 {τ R : Type} (bad : Nat→τ→Option R) : Nat→List τ→Option R
  | _,[]=>none
  | i,x::xs=>match bad i x with
    | some r=>some r
    | none=>Z5 bad (i + 1) xs
def toE {R : Type} : Option R→Unit⊕R
  | none=>.inl ()
  | some r=>.inr r
theorem A8L {τ R : Type} {f : Int→Option (Int⊕(Unit⊕R))} (xs : List τ) (bad : Nat→τ→Option R) (hn : xs.length≤maxLen)
    (h1 : ∀ (i : Nat) x,xs[i]? = some x→f i = some (match bad i x with | some r=>.inr (.inr r) | none=>.inl ((i + 1 : Nat) : Int))) (h2 : f xs.length = some (.inr (.inl ()))) :
    iter f FUEL (0 : Int) = some (toE (Z5 bad 0 xs)):=by
  rw [mx] at hn
  rw [A2y xs (fun i x=>(bad i x).map Sum.inr) (.inl ()) (fuel hn) (fun i x hx=>by rw [h1 i x hx]; cases bad i x <;> rfl) h2]
  have key : ∀ (ys : List τ) (i : Nat),A1F (fun i x=>(bad i x).map Sum.inr) (.inl ()) i ys = toE (Z5 bad i ys):=by
    intro ys
    induction ys with
    | nil=>intro i; rfl
    | cons y ys ih=>
      intro i
      simp only [A1F,Z5]
      cases bad i y with
      | none=>exact ih (i + 1)
      | some r=>rfl
  rw [key]
theorem B4N {σ ρ τ R : Type} {f : σ→Option (σ⊕ρ)} (xs : List τ) (bad : Nat→τ→Option R) (St : σ→Nat→Prop) (Er : R→ρ) (Fin : ρ→Prop)
    (h1 : ∀ s (i : Nat) x,xs[i]? = some x→St s i→match bad i x with | some r=>f s = some (.inr (Er r)) | none=>∃ s',f s = some (.inl s')∧St s' (i + 1))
    (h2 : ∀ s,St s xs.length→∃ o,f s = some (.inr o)∧Fin o) :
    ∀ (n k : Nat) (s : σ),St s k→k≤xs.length→xs.length - k < n→match Z5 bad k (xs.drop k) with | some r=>iter f n s = some (Er r) | none=>∃ o,iter f n s = some o∧Fin o:=by
  intro n
  induction n with
  | zero=>intro k s _ _ h; omega
  | succ n ih=>
    intro k s hs hk hn
    by_cases hl : k = xs.length
    · subst hl
      obtain ⟨o,ho,hf⟩:=h2 s hs
      simp only [List.drop_length,Z5]
      exact ⟨o,by simp only [iter,ho,Option.bind_some],hf⟩
    · have hlt : k < xs.length:=by omega
      have:=h1 s k _ (List.getElem?_eq_getElem hlt) hs
      rw [List.drop_eq_getElem_cons hlt]
      simp only [Z5]
      cases hb : bad k xs[k] with
      | some r=>
        rw [hb] at this
        simp only [iter,this,Option.bind_some]
      | none=>
        rw [hb] at this
        obtain ⟨s',e,hs'⟩:=this
        have:=ih (k + 1) s' hs' (by omega) (by omega)
        simp only [iter,e,Option.bind_some]
        exact this
theorem C4Q {σ ρ : Type} {f : σ→Option (σ⊕ρ)} (I : σ→Prop) (μ : σ→Nat) (Q : ρ→Prop)
    (h : ∀ s,I s→(∃ s',f s = some (.inl s')∧I s'∧μ s' < μ s)∨∃ r,f s = some (.inr r)∧Q r) : ∀ n s,I s→μ s < n→∃ r,iter f n s = some r∧Q r:=by
  intro n
  induction n with
  | zero=>intro s _ h; omega
  | succ n ih=>
    intro s hs hn
    rcases h s hs with ⟨s',e,hi,hm⟩ | ⟨r,e,hq⟩
    · obtain ⟨r,hr,hq⟩:=ih s' hi (by omega)
      exact ⟨r,by simp only [iter,e,Option.bind_some]; exact hr,hq⟩
    · exact ⟨r,by simp only [iter,e,Option.bind_some],hq⟩
theorem C1G (a b : ByteArray) : sLt a b = decide (a.data.toList < b.data.toList):=by
  rw [sLt,Lib.toList_data,Lib.toList_data,C2Q]
theorem C5E {a b : ByteArray} (h : a.data.toList = b.data.toList) : a = b:=by
  cases a; cases b; simp only [ByteArray.mk.injEq]; exact Array.toList_inj.1 h
theorem C6d : ∀ x y : List UInt8,x < y∨x = y∨y < x
  | [],[]=>.inr (.inl rfl)
  | [],_::_=>.inl (by simp)
  | _::_,[]=>.inr (.inr (by simp))
  | a::x,b::y=>by
    simp only [List.cons_lt_cons_iff,List.cons.injEq]
    by_cases h1 : a < b
    · exact .inl (.inl h1)
    · by_cases h2 : b < a
      · exact .inr (.inr (.inl h2))
      · have : a = b:=UInt8.le_antisymm (UInt8.not_lt.1 h2) (UInt8.not_lt.1 h1)
        subst this
        rcases C6d x y with h | h | h
        · exact .inl (.inr ⟨rfl,h⟩)
        · exact .inr (.inl ⟨rfl,h⟩)
        · exact .inr (.inr (.inr ⟨rfl,h⟩))
theorem C5X : ∀ x : List UInt8,¬ x < x
  | []=>by simp
  | a::x=>by
    simp only [List.cons_lt_cons_iff]
    rintro (h | ⟨_,h⟩)
    · exact UInt8.lt_irrefl _ h
    · exact C5X x h
theorem lt_trans : ∀ {x y z : List UInt8},x < y→y < z→x < z
  | [],_::_,[],_,h=>by simp at h
  | [],_,_::_,_,_=>by simp
  | [],[],[],h,_=>h
  | _::_,[],_,h,_=>by simp at h
  | _::_,_::_,[],_,h=>by simp at h
  | a::x,b::y,c::z,h,k=>by
    simp only [List.cons_lt_cons_iff] at h k ⊢
    rcases h with h | ⟨rfl,h⟩
    · rcases k with k | ⟨rfl,k⟩
      · exact .inl (UInt8.lt_trans h k)
      · exact .inl h
    · rcases k with k | ⟨rfl,k⟩
      · exact .inl k
      · exact .inr ⟨rfl,lt_trans h k⟩
theorem B2x (a : ByteArray) : sLt a a = false:=by rw [C1G]; simpa using C5X _
theorem B6s {a b c : ByteArray} (h : sLt a b = true) (k : sLt b c = true) : sLt a c = true:=by
  rw [C1G,decide_eq_true_eq] at *
  exact lt_trans h k
theorem C2g (a b : ByteArray) : sLt a b = true∨a = b∨sLt b a = true:=by
  simp only [C1G,decide_eq_true_eq]
  rcases C6d a.data.toList b.data.toList with h | h | h
  · exact .inl h
  · exact .inr (.inl (C5E h))
  · exact .inr (.inr h)
theorem C3e {a b : ByteArray} (h : sLt a b = true) : sLt b a = false:=by
  cases k : sLt b a with
  | false=>rfl
  | true=>have:=B6s h k; rw [B2x] at this; cases this
theorem C6r (a b : ByteArray) : (sLt a b || decide (a = b)) = !sLt b a:=by
  rcases C2g a b with h | h | h
  · simp [h,C3e h]
  · subst h; simp [B2x]
  · have : a ≠ b:=fun e=>by subst e; rw [B2x] at h; cases h
    simp [h,C3e h,this]
theorem C4J (a b : ByteArray) : (B7G a b < 0)↔sLt a b = true:=by
  rw [C1G,decide_eq_true_eq]; exact C5C _ _
def A3Q (s : ByteArray) : Bool:=decide (s = (⟨#[]⟩ : ByteArray)) || A1B s
theorem A7P {s : ByteArray} (hs : s.size≤maxLen) : A4K s = some (A3Q s):=by
  simp only [A4K,A3t hs,Option.bind_some,A3Q]
  cases decide (s = (⟨#[]⟩ : ByteArray)) <;> rfl
def B4z (l : List ByteArray) (i : Nat) (x : ByteArray) : Option Int:=
  if A1B x = true∧(i = 0∨sLt (l.getD (i - 1) ⟨#[]⟩) x = true) then none else some 22
structure OkG (g : E5) : Prop where
  name : g.H7.size≤maxLen
  rank : g.Y0.size≤maxLen
  court : g.Q5.size≤maxLen
  diet : g.V8.size≤maxLen
  tons : g.M4.length≤maxLen
  ton : ∀ s ∈ g.M4,s.size≤maxLen
theorem A6D {α : Type} {l : List α} {i : Nat} (d : α) (hi : i < l.length) (h0 : i ≠ 0) : l[i - 1]? = some (l.getD (i - 1) d):=by
  rw [List.getD_eq_getElem?_getD,List.getElem?_eq_getElem (show i - 1 < l.length by omega)]; rfl
theorem C5O {g : E5} (h : OkG g) : iter (A2V g) FUEL (0 : Int) = some (toE (Z5 (B4z g.M4) 0 g.M4)):=by
  have hl:=h.tons
  rw [mx] at hl
  refine A8L g.M4 _ h.tons (fun i x hx=>?_) (by simp [A2V])
  have hi:=A0f hx
  have hr:=A0o (n:=i) (by omega)
  have hlt : (i : Int) < (g.M4.length : Int):=by omega
  simp only [A2V,B1t,W9 hx,A3t (h.ton x (A4Y hx)),hr,Option.bind_some,Bool.cond_decide,if_pos hlt]
  unfold B4z
  cases A1B x
  · simp
  by_cases h0 : i = 0
  · subst h0; simp
  have hp : (0 : Int) < i:=by omega
  have hc : ((i : Int) - 1) = ((i - 1 : Nat) : Int):=by omega
  rw [if_pos hp,hc,A0S (x:=((i - 1 : Nat) : Int)) (by omega) (by omega)]
  simp only [Option.bind_some,W9 (A6D ⟨#[]⟩ hi h0),h0,false_or]
  cases sLt (g.M4.getD (i - 1) ⟨#[]⟩) x <;> simp
theorem C5b {g : E5} (h : OkG g) : iter (A2T g) FUEL (0 : Int) = some (toE (Z5 (B4z g.M4) 0 g.M4)):=by
  have hl:=h.tons
  rw [mx] at hl
  refine A8L g.M4 _ h.tons (fun i x hx=>?_) (by simp [A2T])
  have hi:=A0f hx
  have hr:=A0o (n:=i) (by omega)
  have hlt : (i : Int) < (g.M4.length : Int):=by omega
  simp only [A2T,B0J,W9 hx,A3Z (h.ton x (A4Y hx)),hr,Option.bind_some,Bool.cond_decide,if_pos hlt]
  unfold B4z
  cases A1B x
  · simp
  by_cases h0 : i = 0
  · subst h0; simp
  have hp : (0 : Int) < i:=by omega
  have hc : ((i : Int) - 1) = ((i - 1 : Nat) : Int):=by omega
  rw [if_pos hp,hc,A0S (x:=((i - 1 : Nat) : Int)) (by omega) (by omega)]
  simp only [Option.bind_some,W9 (A6D ⟨#[]⟩ hi h0),h0,false_or,C6r]
  cases sLt (g.M4.getD (i - 1) ⟨#[]⟩) x <;> simp
def A8a (g : E5) : Int:=
  if (A1B g.H7 && A3Q g.Y0 && A3Q g.Q5 && A3Q g.V8) = false then 4
  else if g.Q6 < 0∨9999 < g.Q6 then 21
  else if g.U5 < 0∨2 < g.U5 then 20
  else if 4 < g.M4.length then 22
  else (Z5 (B4z g.M4) 0 g.M4).getD 0
theorem B8v {g : E5} (h : OkG g) : A5D g = some (A8a g):=by
  simp only [A5D,B0P,A3t h.name,A7P h.rank,A7P h.court,A7P h.diet,C5O h,Option.bind_some,A8a]
  cases A1B g.H7 <;> cases A3Q g.Y0 <;> cases A3Q g.Q5 <;> cases A3Q g.V8
  all_goals simp only [Bool.not_false,Bool.not_true,cond_true,cond_false,Option.bind_some,Bool.true_and,Bool.false_and,Bool.and_false,Bool.and_true,if_true,Bool.true_eq_false,if_false]
  have e4 : ((4 : Int) < (g.M4.length : Int))↔4 < g.M4.length:=by omega
  simp only [Bool.cond_decide,e4]
  by_cases h1 : g.Q6 < 0 <;> by_cases h2 : 9999 < g.Q6 <;> simp only [h1,h2,if_true,if_false,Option.bind_some,decide_true,decide_false,cond_true,cond_false,true_or,or_true,or_self]
  by_cases h3 : g.U5 < 0 <;> by_cases h4 : 2 < g.U5 <;> simp only [h3,h4,if_true,if_false,Option.bind_some,decide_true,decide_false,cond_true,cond_false,true_or,or_true,or_self]
  by_cases h5 : 4 < g.M4.length
  · simp only [h5,if_true]
  · simp only [h5,if_false]
    cases Z5 (B4z g.M4) 0 g.M4 <;> rfl
theorem C3g {g : E5} (h : OkG g) : (Option.bind (A1y g.H7) fun t12=>bif !t12 then some true else A6U g) = some (!(A1B g.H7 && A3Q g.Y0 && A3Q g.Q5 && A3Q g.V8)):=by
  simp only [B1r,A6U,A3Z h.name,A3Z h.rank,A3Z h.court,A3Z h.diet,Option.bind_some,A3Q]
  cases A1B g.H7
  · rfl
  cases A1B g.Y0 <;> cases decide (g.Y0 = (⟨#[]⟩ : ByteArray)) <;> cases A1B g.Q5 <;> cases decide (g.Q5 = (⟨#[]⟩ : ByteArray)) <;> cases A1B g.V8 <;> cases decide (g.V8 = (⟨#[]⟩ : ByteArray)) <;> rfl
theorem B8J {g : E5} (h : OkG g) : A7z g = some (A8a g):=by
  unfold A7z
  rw [C3g h]
  simp only [B0w,C5b h,Option.bind_some,A8a]
  cases A1B g.H7 && A3Q g.Y0 && A3Q g.Q5 && A3Q g.V8
  · rfl
  simp only [Bool.not_true,cond_false,Bool.true_eq_false,if_false]
  have e4 : ((4 : Int) < (g.M4.length : Int))↔4 < g.M4.length:=by omega
  have hs : (bif !decide (g.U5 = (0 : Int)) then (bif !decide (g.U5 = (1 : Int)) then some (!decide (g.U5 = (2 : Int))) else some false) else some false) = some (decide (g.U5 < 0∨2 < g.U5)):=by
    by_cases a : g.U5 = 0
    · simp [a]
    by_cases b : g.U5 = 1
    · simp [b]
    by_cases c : g.U5 = 2
    · simp [c]
    have : g.U5 < 0∨2 < g.U5:=by omega
    simp [a,b,c,this]
  rw [hs]
  simp only [Bool.cond_decide,e4,Option.bind_some]
  by_cases h1 : g.Q6 < 0 <;> by_cases h2 : 9999 < g.Q6 <;> simp only [h1,h2,if_true,if_false,Option.bind_some,decide_true,decide_false,cond_true,cond_false,true_or,or_true,or_self]
  by_cases h3 : g.U5 < 0∨2 < g.U5
  · simp only [h3,if_true]
  simp only [h3,if_false]
  by_cases h5 : 4 < g.M4.length
  · simp only [h5,if_true]
  · simp only [h5,if_false]
    cases Z5 (B4z g.M4) 0 g.M4 <;> rfl
end Go.Pl
namespace Go.Pl
open Go Go.Sl Go.Dm
def B3Z (gs : List E5) (i : Nat) (g : E5) : Option (Int×Int):=
  if A8a g ≠ 0 then some ((i : Int),A8a g) else if (gs.take i).any (fun y=>decide (y.H7 = g.H7)) then some ((i : Int),5) else if 64≤i then some ((i : Int),7) else none
theorem C4h {g : E5} (h : A8a g = 0) : g.M4.length≤4:=by
  unfold A8a at h
  split at h
  · omega
  split at h
  · omega
  split at h
  · omega
  split at h
  · omega
  omega
theorem C5o {g : E5} (h : g.M4.length≤4) : A6e g = some g:=by
  have : apL ([] : List ByteArray) g.M4 = some g.M4:=by
    unfold apL
    rw [show Nat.ble (([] : List ByteArray).length + g.M4.length) 1073741824 = true from Nat.ble_eq_true_of_le (by simp; omega)]
    rfl
  simp only [A6e,A2R,this,Option.bind_some]
theorem C4F {α : Type} {l : List α} {x : α} (h : l.length≤1000) : apL l [x] = some (l ++ [x]):=by
  unfold apL
  rw [show Nat.ble (l.length + [x].length) 1073741824 = true from Nat.ble_eq_true_of_le (by simp; omega)]
  rfl
theorem C0Y {κ α : Type} [DecidableEq κ] (m : List (κ×α)) (k : κ) (x : α) (k' : κ) : B0p (A3m m k x) k' = if k' = k then some x else B0p m k':=by
  induction m with
  | nil=>
    simp only [A3m,B0p,Bool.cond_decide]
  | cons p m ih=>
    obtain ⟨q,y⟩:=p
    simp only [A3m]
    by_cases hk : k = q
    · subst hk
      simp only [decide_true,cond_true,B0p,Bool.cond_decide]
      by_cases h : k' = k <;> simp [h]
    · simp only [hk,decide_false,cond_false,B0p,Bool.cond_decide,ih]
      by_cases h1 : k' = q
      · subst h1
        have : ¬ k' = k:=fun e=>hk e.symm
        simp [this]
      · simp [h1]
def Knows (m : List (ByteArray×Int)) (gs : List E5) : Prop:=(∀ n,(B0p m n).isSome = gs.any (fun y=>decide (y.H7 = n)))∧∀ n v,B0p m n = some v→∃ k : Nat,v = (k : Int)∧k < gs.length
theorem C1n {m : List (ByteArray×Int)} {gs : List E5} (h : Knows m gs) (n : ByteArray) (z : Int) : ∃ v,lkM m n z = some (v,gs.any (fun y=>decide (y.H7 = n))):=by
  unfold lkM
  have:=h.1 n
  cases hm : B0p m n with
  | none=>rw [hm] at this; exact ⟨z,by rw [←this]; rfl⟩
  | some x=>rw [hm] at this; exact ⟨x,by rw [←this]; rfl⟩
theorem C5t {gs : List E5} {i : Nat} {g : E5} (h : gs[i]? = some g) (n : ByteArray) : (gs.take (i + 1)).any (fun y=>decide (y.H7 = n)) = ((gs.take i).any (fun y=>decide (y.H7 = n)) || decide (g.H7 = n)):=by
  obtain ⟨hi,rfl⟩:=List.getElem?_eq_some_iff.1 h
  rw [List.take_add_one,List.getElem?_eq_getElem hi]
  simp only [List.any_append,Option.toList,List.any_cons,List.any_nil,Bool.or_false]
theorem B5V {α : Type} {l : List α} {i : Nat} {x : α} (h : l[i]? = some x) : l.take (i + 1) = l.take i ++ [x]:=by
  obtain ⟨hi,rfl⟩:=List.getElem?_eq_some_iff.1 h
  rw [List.take_add_one,List.getElem?_eq_getElem hi]
  rfl
structure OkR (r : V6) : Prop where
  gs : r.F3.length≤maxLen
  g : ∀ g ∈ r.F3,OkG g
  ts : r.J8.length≤maxLen
theorem C3K {r : V6} (h : OkR r) :
    match Z5 (B3Z r.F3) 0 r.F3 with
    | some p=>iter (A2b r) FUEL (([] : List E5),([] : List G6),([] : List (ByteArray×Int)),(0 : Int)) = some (.inr (none,p.1,p.2))
    | none=>∃ o,iter (A2b r) FUEL (([] : List E5),([] : List G6),([] : List (ByteArray×Int)),(0 : Int)) = some o∧∃ m,o = .inl (r.F3,[],m)∧Knows m r.F3:=by
  have hl:=h.gs
  rw [mx] at hl
  have:=B4N (f:=A2b r) r.F3 (B3Z r.F3) (fun s i=>i≤64∧∃ m,s = (r.F3.take i,[],m,(i : Int))∧Knows m (r.F3.take i)) (fun p=>.inr (none,p.1,p.2))
    (fun o=>∃ m,o = .inl (r.F3,[],m)∧Knows m r.F3)
    (fun s i g hg hs=>by
      obtain ⟨h64,m,rfl,hm⟩:=hs
      have hi:=A0f hg
      have hr:=A0o (n:=i) (by omega)
      have hlt : (i : Int) < (r.F3.length : Int):=by omega
      have hlen : (r.F3.take i).length = i:=by simp; omega
      obtain ⟨v,hv⟩:=C1n hm g.H7 0
      simp only [A2b,W9 hg,B9f,A4O,B8v (h.g g (A4Y hg)),Option.bind_some,Bool.cond_decide,if_pos hlt,cond_false]
      unfold B3Z
      by_cases h0 : A8a g = 0
      · have hton:=C4h h0
        simp only [h0,decide_true,Bool.not_true,cond_false,B6x,hv,Option.bind_some,ne_eq,not_true,if_false]
        cases ha : (r.F3.take i).any (fun y=>decide (y.H7 = g.H7))
        · simp only [cond_false,Bool.false_eq_true,if_false,hlen,Bool.cond_decide]
          by_cases h6 : 64≤i
          · have : (i : Int) = 64:=by omega
            simp [this,h6]
          · have : ¬ (i : Int) = 64:=by omega
            simp only [this,if_false,h6,Option.bind_some,C5o hton,C4F (show (r.F3.take i).length≤1000 by omega),decide_true,Bool.not_true,cond_false,hr]
            refine ⟨_,rfl,by omega,A3m m g.H7 (i : Int),?_,?_⟩
            · rw [B5V hg]
            · refine ⟨fun n=>?_,fun n v hv=>?_⟩
              rotate_left
              · rw [C0Y] at hv
                rw [List.length_take]
                split at hv
                · cases hv; exact ⟨i,rfl,by omega⟩
                · obtain ⟨k,e,hk⟩:=hm.2 n v hv
                  exact ⟨k,e,by omega⟩
              rw [C0Y,C5t hg]
              have:=hm.1 n
              by_cases hn : n = g.H7
              · subst hn; simp
              · have hn' : ¬ g.H7 = n:=fun e=>hn e.symm
                simp [hn,hn',this]
        · simp
      · simp [h0])
    (fun s hs=>by
      obtain ⟨_,m,rfl,hm⟩:=hs
      rw [List.take_length] at hm
      refine ⟨.inl (r.F3,[],m),by simp [A2b],m,rfl,hm⟩)
    FUEL 0 ([],[],[],0) ⟨by omega,[],by simp,fun n=>by simp [B0p],fun n v h=>by cases h⟩ (Nat.zero_le _) (fuel (by omega))
  rw [List.drop_zero] at this
  cases hF : Z5 (B3Z r.F3) 0 r.F3 with
  | some p=>rw [hF] at this; exact this
  | none=>rw [hF] at this; exact this
theorem C5c {r : V6} (h : OkR r) : iter (A1z r) FUEL (0 : Int) = some (toE (Z5 (B3Z r.F3) 0 r.F3)):=by
  have hl:=h.gs
  rw [mx] at hl
  refine A8L r.F3 _ h.gs (fun i g hg=>?_) (by simp [A1z])
  have hi:=A0f hg
  have hr:=A0o (n:=i) (by omega)
  have hlt : (i : Int) < (r.F3.length : Int):=by omega
  have e6 : ((64 : Int)≤(i : Int))↔64≤i:=by omega
  simp only [A1z,A6t,W9 hg,B8J (h.g g (A4Y hg)),B9c (Nat.le_of_lt hi),B0z (l:=r.F3.take i) (by rw [mx]; simp; omega),C1d,hr,e6,Option.bind_some,Bool.cond_decide,if_pos hlt]
  unfold B3Z
  by_cases h0 : A8a g = 0
  · cases ha : (r.F3.take i).any (fun y=>decide (y.H7 = g.H7))
    · by_cases h6 : 64≤i <;> simp [h0,h6]
    · simp [h0]
  · simp [h0]
def tLt (a b : G6) : Bool:=sLt a.fA b.fA || (decide (a.fA = b.fA) && sLt a.fB b.fB)
def B0q (a b : G6) : Int:=if B7G a.fA b.fA = 0 then B7G a.fB b.fB else B7G a.fA b.fA
theorem B9q (a b : G6) : A1Q a b = some (B0q a b):=by
  simp only [A1Q,strings_Compare,bytealg_CompareString,Option.bind_some,B0q]
  by_cases h : B7G a.fA b.fA = 0 <;> simp [h]
theorem C1l (a b : G6) : A2u a b = some (tLt a b):=by
  simp only [A2u,tLt]
  cases sLt a.fA b.fA <;> cases decide (a.fA = b.fA) <;> rfl
theorem C2v (a b : G6) : (B0q a b < 0)↔tLt a b = true:=by
  unfold B0q tLt
  by_cases h : B7G a.fA b.fA = 0
  · have e:=(B1Q _ _).1 h
    rw [if_pos h,C4J]
    simp [e,B2x]
  · have e : ¬ a.fA = b.fA:=fun q=>h ((B1Q _ _).2 q)
    rw [if_neg h,C4J]
    simp [e]
theorem C2G (a b : G6) : (B0q a b = 0)↔(a.fA = b.fA∧a.fB = b.fB):=by
  unfold B0q
  by_cases h : B7G a.fA b.fA = 0
  · rw [if_pos h,B1Q]
    have:=(B1Q _ _).1 h
    simp [this]
  · rw [if_neg h]
    have : ¬ a.fA = b.fA:=fun q=>h ((B1Q _ _).2 q)
    simp [h,this]
theorem C0S {a b c : G6} (h : tLt a b = true) (k : tLt b c = true) : tLt a c = true:=by
  simp only [tLt,Bool.or_eq_true,Bool.and_eq_true,decide_eq_true_eq] at *
  rcases h with h | ⟨h1,h2⟩
  · rcases k with k | ⟨k1,k2⟩
    · exact .inl (B6s h k)
    · exact .inl (k1 ▸ h)
  · rcases k with k | ⟨k1,k2⟩
    · exact .inl (h1 ▸ k)
    · exact .inr ⟨h1.trans k1,B6s h2 k2⟩
theorem C4u (a b : G6) : tLt a b = true∨(a.fA = b.fA∧a.fB = b.fB)∨tLt b a = true:=by
  simp only [tLt,Bool.or_eq_true,Bool.and_eq_true,decide_eq_true_eq]
  rcases C2g a.fA b.fA with h | h | h
  · exact .inl (.inl h)
  · rcases C2g a.fB b.fB with k | k | k
    · exact .inl (.inr ⟨h,k⟩)
    · exact .inr (.inl ⟨h,k⟩)
    · exact .inr (.inr (.inr ⟨h.symm,k⟩))
  · exact .inr (.inr (.inl h))
theorem C1H {a b : G6} (h1 : a.fA = b.fA) (h2 : a.fB = b.fB) : tLt a b = false:=by
  simp [tLt,h1,h2,B2x]
theorem C3f {a b : G6} (h : tLt a b = true) : tLt b a = false:=by
  cases k : tLt b a with
  | false=>rfl
  | true=>have:=C0S h k; rw [C1H rfl rfl] at this; cases this
theorem wrap_u64 {x : Int} (h : 0≤x) (h' : x≤18446744073709551615) : IntKind.u64.wrap x = x:=by
  simp [IntKind.wrap,IntKind.bits,IntKind.signed]; omega
theorem wrap_i64 {x : Int} (h : 0≤x) (h' : x≤9223372036854775807) : IntKind.i64.wrap x = x:=by
  have : IntKind.i64.wrap x = if x % 18446744073709551616 ≥ 9223372036854775808 then x % 18446744073709551616 - 18446744073709551616 else x % 18446744073709551616:=by
    simp [IntKind.wrap,IntKind.bits,IntKind.signed]
  rw [this]
  split <;> omega
theorem C3j {L : List G6} {q : G6} {m : Nat} (hm : m≤L.length) (hL : L.length≤1000) (lo : ∀ k x,L[k]? = some x→k < m→B0q x q < 0) (hi : ∀ k x,L[k]? = some x→m≤k→¬ B0q x q < 0) :
    iter (A3j L q A1Q) FUEL ((L.length : Int),(0 : Int)) = some (m : Int):=by
  have:=C4Q (f:=A3j L q A1Q) (fun s=>∃ j i : Nat,s = ((j : Int),(i : Int))∧i≤m∧m≤j∧j≤L.length) (fun s=>(s.1 - s.2).toNat) (fun r=>r = (m : Int))
    (fun s hs=>by
      obtain ⟨j,i,rfl,h1,h2,h3⟩:=hs
      by_cases hc : i < j
      · left
        have hlt : (i : Int) < (j : Int):=by omega
        have hmid : (i + j) / 2 < L.length:=by omega
        have hx:=List.getElem?_eq_getElem hmid
        have hs : B2U .u64 ((i + j : Nat) : Int) (1 : Int) = some (((i + j) / 2 : Nat) : Int):=by
          show (bif Nat.ble 1 (IntKind.u64.bits) then some (Int.ofNat ((i + j) / 2 ^ 1)) else none) = _
          rw [show Nat.ble 1 (IntKind.u64.bits) = true from rfl,Nat.pow_one]
          rfl
        have hsum : (i : Int) + (j : Int) = ((i + j : Nat) : Int):=by omega
        have e1 : A3q .u64 ((i + j : Nat) : Int) = some ((i + j : Nat) : Int):=by
          unfold A3q; rw [wrap_u64 (by omega) (by omega)]; simp
        have e2 : A3q .i64 (((i + j) / 2 : Nat) : Int) = some (((i + j) / 2 : Nat) : Int):=by
          unfold A3q; rw [wrap_i64 (by omega) (by omega)]; simp
        simp only [A3j,hsum,A0S (x:=((i + j : Nat) : Int)) (by omega) (by omega),e1,hs,e2,W9 hx,B9q,Option.bind_some,Bool.cond_decide,if_pos hlt]
        by_cases ho : B0q L[(i + j) / 2] q < 0
        · have : (i + j) / 2 < m:=by
            apply Classical.byContradiction
            intro hn
            exact hi _ _ hx (by omega) ho
          rw [if_pos ho,A0o (by omega)]
          refine ⟨_,rfl,⟨j,(i + j) / 2 + 1,rfl,by omega,by omega,by omega⟩,?_⟩
          simp only
          omega
        · have : m≤(i + j) / 2:=by
            apply Classical.byContradiction
            intro hn
            exact ho (lo _ _ hx (by omega))
          rw [if_neg ho]
          refine ⟨_,rfl,⟨(i + j) / 2,i,rfl,by omega,by omega,by omega⟩,?_⟩
          simp only
          omega
      · right
        have hnl : ¬ (i : Int) < (j : Int):=by omega
        refine ⟨(i : Int),by simp only [A3j,Bool.cond_decide,if_neg hnl],by omega⟩)
    FUEL ((L.length : Int),(0 : Int)) ⟨L.length,0,rfl,Nat.zero_le _,hm,Nat.le_refl _⟩ (by simp only; exact fuel (by omega))
  obtain ⟨r,hr,rfl⟩:=this
  exact hr
end Go.Pl
namespace Go.Pl
open Go Go.Sl Go.Dm
theorem C2U {τ R : Type} {bad : Nat→τ→Option R} : ∀ (xs : List τ) (i : Nat),Z5 bad i xs = none→∀ k x,xs[k]? = some x→bad (i + k) x = none:=by
  intro xs
  induction xs with
  | nil=>intro i _ k x h; simp at h
  | cons y xs ih=>
    intro i h k x hk
    simp only [Z5] at h
    cases hy : bad i y with
    | some r=>rw [hy] at h; cases h
    | none=>
      rw [hy] at h
      cases k with
      | zero=>simp at hk; subst hk; exact hy
      | succ k=>
        have:=ih (i + 1) h k x (by simpa using hk)
        rwa [show i + (k + 1) = i + 1 + k by omega]
theorem C7t {gs : List E5} (h : Z5 (B3Z gs) 0 gs = none) : gs.length≤64:=by
  apply Classical.byContradiction
  intro hn
  have hx:=List.getElem?_eq_getElem (show 64 < gs.length by omega)
  have:=C2U gs 0 h 64 _ hx
  unfold B3Z at this
  split at this
  · cases this
  · split at this
    · cases this
    · simp at this
def A2N : G6:=⟨⟨#[]⟩,⟨#[]⟩,0⟩
def isG (gs : List E5) (n : ByteArray) : Bool:=gs.any (fun y=>decide (y.H7 = n))
def B5C (r : V6) (i : Nat) (t : G6) : Option (Int×Int):=
  if (t.J4 ≠ 1∧t.J4 ≠ 2)∨sLt t.fA t.fB = false∨(i ≠ 0∧tLt t (r.J8.getD (i - 1) A2N) = true) then some ((r.F3.length : Int) + i,23)
  else if isG r.F3 t.fA = false∨isG r.F3 t.fB = false then some ((r.F3.length : Int) + i,6)
  else if i ≠ 0∧tLt (r.J8.getD (i - 1) A2N) t = false then some ((r.F3.length : Int) + i,5)
  else if 256≤i then some ((r.F3.length : Int) + i,7) else none
theorem C7A (a b : G6) : decide (B0q a b≤0) = !tLt b a:=by
  have h1:=C2v a b
  have h2:=C2G a b
  rcases C4u a b with h | h | h
  · have:=h1.2 h
    rw [C3f h]
    simp; omega
  · have e:=h2.2 h
    rw [C1H h.1.symm h.2.symm]
    simp; omega
  · rw [h]
    have n1 : ¬ B0q a b < 0:=fun q=>by have:=h1.1 q; rw [C3f h] at this; cases this
    have n2 : ¬ B0q a b = 0:=fun q=>by have:=h2.1 q; rw [C1H this.1.symm this.2.symm] at h; cases h
    simp; omega
theorem C1A {a b : ByteArray} (h : sLt a b = true) (k : Int) : A6x a b k = some ⟨a,b,k⟩:=by
  simp only [A6x,minS,maxS,h,Bool.true_or,Bool.not_true,cond_true,cond_false]
theorem C5a {gs : List E5} {L : List G6} {m : List (ByteArray×Int)} {t : G6} (hAB : sLt t.fA t.fB = true) (hL : L.length≤1000) (hn : ∀ (k : Nat) x,L[k]? = some x→tLt x t = true) :
    A2t ⟨⟨gs,L⟩,m⟩ t.fA t.fB = some ((L.length : Int),false):=by
  have e : ∀ x : G6,B0q x ⟨t.fA,t.fB,0⟩ = B0q x t:=fun x=>rfl
  simp only [A2t,C1A hAB,Option.bind_some,B2w]
  rw [C3j (m:=L.length) (Nat.le_refl _) hL (fun k x hx _=>by rw [e,C2v]; exact hn k x hx) (fun k x hx hk=>by have:=A0f hx; omega)]
  simp
theorem C5k {gs : List E5} {L : List G6} {m : List (ByteArray×Int)} {t p : G6} (hAB : sLt t.fA t.fB = true) (hL : L.length≤1000) (h0 : L ≠ []) (hp : L[L.length - 1]? = some p) (hs : p.fA = t.fA∧p.fB = t.fB)
    (hn : ∀ (k : Nat) x,L[k]? = some x→k + 1 < L.length→tLt x p = true) : ∃ z,A2t ⟨⟨gs,L⟩,m⟩ t.fA t.fB = some (z,true):=by
  have e : ∀ x : G6,B0q x ⟨t.fA,t.fB,0⟩ = B0q x p:=fun x=>by unfold B0q; rw [hs.1,hs.2]
  have hpos : 0 < L.length:=List.length_pos_iff.2 h0
  have h00 : B0q p p = 0:=(C2G p p).2 ⟨rfl,rfl⟩
  simp only [A2t,C1A hAB,Option.bind_some,B2w]
  rw [C3j (m:=L.length - 1) (by omega) hL (fun k x hx hk=>by rw [e,C2v]; exact hn k x hx (by omega)) (fun k x hx hk=>by
    have:=A0f hx
    have hk' : k = L.length - 1:=by omega
    subst hk'
    rw [hp] at hx
    cases hx
    rw [e,h00]
    omega)]
  have hlt : ((L.length - 1 : Nat) : Int) < (L.length : Int):=by omega
  simp only [Option.bind_some,Bool.cond_decide,if_pos hlt,W9 hp,B9q,e,h00]
  exact ⟨_,rfl⟩
theorem C3V {gs : List E5} {L : List G6} {m : List (ByteArray×Int)} (hk : Knows m gs) (a b : ByteArray) :
    iter (A5u ⟨⟨gs,L⟩,m⟩ a b) FUEL (0 : Int) = some (if isG gs a = true∧isG gs b = true then .inl () else .inr ((6 : Int),⟨⟨gs,L⟩,m⟩)):=by
  rw [A8L [a,b] (fun i n=>if isG gs n then none else some ((6 : Int),(⟨⟨gs,L⟩,m⟩ : J2))) (by rw [mx]; simp) (fun i n hn=>by
    have hi:=A0f hn
    obtain ⟨v,hv⟩:=C1n hk n 0
    have hlt : (i : Int) < ([a,b].length : Int):=by omega
    have hr:=A0o (n:=i) (by simp at hi; omega)
    simp only [A5u,W9 hn,hv,hr,Option.bind_some,Bool.cond_decide,if_pos hlt]
    unfold isG
    cases gs.any (fun y=>decide (y.H7 = n)) <;> simp) (by simp [A5u])]
  simp only [Z5]
  cases isG gs a <;> cases isG gs b <;> rfl
def Asc (l : List G6) : Prop:=∀ (a b : Nat) (x y : G6),a < b→l[a]? = some x→l[b]? = some y→tLt x y = true
theorem C2W {gs : List E5} {L : List G6} {m : List (ByteArray×Int)} (hk : Knows m gs) {t : G6} (hAB : sLt t.fA t.fB = true) :
    B4J ⟨⟨gs,L⟩,m⟩ t.fA t.fB t.J4 = if t.J4 ≠ 1∧t.J4 ≠ 2 then some ((23 : Int),⟨⟨gs,L⟩,m⟩) else if isG gs t.fA = false∨isG gs t.fB = false then some ((6 : Int),⟨⟨gs,L⟩,m⟩) else A4b ⟨⟨gs,L⟩,m⟩ t.fA t.fB t.J4:=by
  have hne : ¬ t.fA = t.fB:=fun e=>by rw [e,B2x] at hAB; cases hAB
  simp only [B4J,A4O,Option.bind_some,cond_false,C3V hk,hne,decide_false]
  by_cases k1 : t.J4 = 1
  · cases isG gs t.fA <;> cases isG gs t.fB <;> simp [k1]
  · by_cases k2 : t.J4 = 2
    · cases isG gs t.fA <;> cases isG gs t.fB <;> simp [k1,k2]
    · simp [k1,k2]
theorem C3H {gs : List E5} {L : List G6} {m : List (ByteArray×Int)} {t : G6} {z : Int} (hp : A2t ⟨⟨gs,L⟩,m⟩ t.fA t.fB = some (z,true)) :
    A4b ⟨⟨gs,L⟩,m⟩ t.fA t.fB t.J4 = some ((5 : Int),⟨⟨gs,L⟩,m⟩):=by
  simp only [A4b,hp,Option.bind_some,cond_true]
theorem C4b {gs : List E5} {L : List G6} {m : List (ByteArray×Int)} {t : G6} (hAB : sLt t.fA t.fB = true) (hL : L.length≤256) (hp : A2t ⟨⟨gs,L⟩,m⟩ t.fA t.fB = some ((L.length : Int),false)) :
    A4b ⟨⟨gs,L⟩,m⟩ t.fA t.fB t.J4 = some (if 256≤L.length then ((7 : Int),⟨⟨gs,L⟩,m⟩) else ((0 : Int),⟨⟨gs,L ++ [t]⟩,m⟩)):=by
  simp only [A4b,hp,Option.bind_some,cond_false,Bool.cond_decide]
  by_cases h : 256≤L.length
  · have : (L.length : Int) = 256:=by omega
    simp [this,h]
  · have h' : ¬ (L.length : Int) = 256:=by omega
    have hb : bdV (L.length : Int) (L.length : Int) (L.length : Int) = some ():=by
      unfold bdV
      simp
    rw [if_neg h',if_neg h,C1A hAB]
    simp only [Option.bind_some,B5Q,hb,C4F (show L.length≤1000 by omega)]
    simp
theorem C3L {r : V6} (h : OkR r) (hg : r.F3.length≤64) {m : List (ByteArray×Int)} (hm : Knows m r.F3) :
    match Z5 (B5C r) 0 r.J8 with
    | some p=>iter (A1Z r) FUEL (r.F3,([] : List G6),m,(0 : Int)) = some (.inr (none,p.1,p.2))
    | none=>∃ o,iter (A1Z r) FUEL (r.F3,([] : List G6),m,(0 : Int)) = some o∧o = .inl (r.F3,r.J8,m):=by
  have hl:=h.ts
  rw [mx] at hl
  have:=B4N (f:=A1Z r) r.J8 (B5C r) (fun s i=>i≤256∧s = (r.F3,r.J8.take i,m,(i : Int))∧Asc (r.J8.take i)) (fun p=>.inr (none,p.1,p.2))
    (fun o=>o = .inl (r.F3,r.J8,m))
    (fun s i t ht hs=>by
      obtain ⟨h256,rfl,hasc⟩:=hs
      have hi:=A0f ht
      have hr:=A0o (n:=i) (by omega)
      have hra : P5 ((r.F3.length : Int) + (i : Int)) = some ((r.F3.length : Int) + (i : Int)):=A0S (by omega) (by omega)
      have hlt : (i : Int) < (r.J8.length : Int):=by omega
      have hlen : (r.J8.take i).length = i:=by simp; omega
      have n23 : (!decide ((23 : Int) = (0 : Int))) = true:=by decide
      simp only [A1Z,B3d,W9 ht,hra,hr,Option.bind_some,Bool.cond_decide,if_pos hlt,n23,cond_true]
      have hord : (if (i : Int) = 0 then some true else Option.bind (P5 ((i : Int) - 1)) fun t165=>Option.bind (K6 r.J8 t165) fun e166=>Option.bind (A1Q e166 t) fun t169=>some (decide (t169≤(0 : Int)))) =
          some (!decide (i ≠ 0∧tLt t (r.J8.getD (i - 1) A2N) = true)):=by
        by_cases h0 : i = 0
        · subst h0; simp
        · have hp:=A6D (l:=r.J8) A2N hi h0
          have hc : ((i : Int) - 1) = ((i - 1 : Nat) : Int):=by omega
          have hne : ¬ (i : Int) = 0:=by omega
          rw [if_neg hne,hc,A0S (x:=((i - 1 : Nat) : Int)) (by omega) (by omega)]
          simp only [Option.bind_some,W9 hp,B9q,C7A,h0,ne_eq,not_false_iff,true_and]
          cases tLt t (r.J8.getD (i - 1) A2N) <;> simp
      rw [hord]
      unfold B5C
      cases hAB : sLt t.fA t.fB
      · simp
      by_cases hq : i ≠ 0∧tLt t (r.J8.getD (i - 1) A2N) = true
      · rw [if_pos (.inr (.inr hq)),decide_eq_true hq]
        rfl
      rw [decide_eq_false hq]
      simp only [Bool.not_false,cond_true,Option.bind_some,C2W hm hAB]
      by_cases hk : t.J4 ≠ 1∧t.J4 ≠ 2
      · rw [if_pos (.inl hk),if_pos hk]
        rfl
      have c1 : ¬ ((t.J4 ≠ 1∧t.J4 ≠ 2)∨true = false∨(i ≠ 0∧tLt t (r.J8.getD (i - 1) A2N) = true)):=by
        rintro (q | q | q)
        · exact hk q
        · cases q
        · exact hq q
      rw [if_neg c1,if_neg hk]
      by_cases hn : isG r.F3 t.fA = false∨isG r.F3 t.fB = false
      · rw [if_pos hn,if_pos hn]
        rfl
      rw [if_neg hn,if_neg hn]
      by_cases h5 : i ≠ 0∧tLt (r.J8.getD (i - 1) A2N) t = false
      · rw [if_pos h5]
        have hp:=A6D (l:=r.J8) A2N hi h5.1
        have hsame : (r.J8.getD (i - 1) A2N).fA = t.fA∧(r.J8.getD (i - 1) A2N).fB = t.fB:=by
          rcases C4u (r.J8.getD (i - 1) A2N) t with q | q | q
          · rw [h5.2] at q; cases q
          · exact q
          · exact absurd ⟨h5.1,q⟩ hq
        have hpt : (r.J8.take i)[(r.J8.take i).length - 1]? = some (r.J8.getD (i - 1) A2N):=by
          rw [hlen,List.getElem?_take,if_pos (by omega)]
          exact hp
        obtain ⟨z,hz⟩:=C5k (gs:=r.F3) (m:=m) hAB (show (r.J8.take i).length≤1000 by omega) (fun e=>by rw [e] at hlen; simp at hlen; exact h5.1 hlen.symm) hpt hsame (fun k x hx hk=>hasc k _ x _ (by omega) hx hpt)
        rw [C3H hz]
        rfl
      rw [if_neg h5]
      have hnew : ∀ (k : Nat) x,(r.J8.take i)[k]? = some x→tLt x t = true:=by
        intro k x hx
        have hk':=A0f hx
        have h0 : i ≠ 0:=by omega
        have hp:=A6D (l:=r.J8) A2N hi h0
        have hl1 : tLt (r.J8.getD (i - 1) A2N) t = true:=by
          cases q : tLt (r.J8.getD (i - 1) A2N) t with
          | true=>rfl
          | false=>exact absurd ⟨h0,q⟩ h5
        have hpt : (r.J8.take i)[i - 1]? = some (r.J8.getD (i - 1) A2N):=by
          rw [List.getElem?_take,if_pos (by omega)]
          exact hp
        by_cases hki : k = i - 1
        · subst hki
          rw [hpt] at hx
          cases hx
          exact hl1
        · exact C0S (hasc k (i - 1) x _ (by omega) hx hpt) hl1
      have hpl:=C5a (gs:=r.F3) (m:=m) hAB (show (r.J8.take i).length≤1000 by omega) hnew
      rw [C4b hAB (by omega) hpl,hlen]
      by_cases h6 : 256≤i
      · rw [if_pos h6,if_pos h6]
        rfl
      · rw [if_neg h6,if_neg h6]
        refine ⟨_,rfl,by omega,?_,?_⟩
        · rw [B5V ht]
        · rw [B5V ht]
          intro a b x y hab hx hy
          have hb:=A0f hy
          simp only [List.length_append,hlen,List.length_cons,List.length_nil] at hb
          rw [List.getElem?_append_left (by omega)] at hx
          by_cases hbi : b < i
          · rw [List.getElem?_append_left (by omega)] at hy
            exact hasc a b x y hab hx hy
          · have : b = i:=by omega
            subst this
            rw [List.getElem?_append_right (by omega),hlen] at hy
            simp at hy
            subst hy
            exact hnew a x hx)
    (fun s hs=>by
      obtain ⟨_,rfl,_⟩:=hs
      exact ⟨.inl (r.F3,r.J8,m),by simp [A1Z],rfl⟩)
    FUEL 0 (r.F3,[],m,0) ⟨by omega,by simp,fun a b x y _ hx _=>by simp at hx⟩ (Nat.zero_le _) (fuel (by omega))
  rw [List.drop_zero] at this
  cases hF : Z5 (B5C r) 0 r.J8 with
  | some p=>rw [hF] at this; exact this
  | none=>rw [hF] at this; exact this
theorem C5l {r : V6} (h : OkR r) (hg : r.F3.length≤64) {i : Nat} {t : G6} (ht : r.J8[i]? = some t) (h256 : i≤256) :
    A0z r (i : Int) = some (match B5C r i t with | some p=>.inr (.inr p) | none=>.inl ((i + 1 : Nat) : Int)):=by
  have hi:=A0f ht
  have hr:=A0o (n:=i) (by omega)
  have hra : P5 ((r.F3.length : Int) + (i : Int)) = some ((r.F3.length : Int) + (i : Int)):=A0S (by omega) (by omega)
  have hlt : (i : Int) < (r.J8.length : Int):=by omega
  have e6 : ((256 : Int)≤(i : Int))↔256≤i:=by omega
  have hgl : r.F3.length≤maxLen:=h.gs
  have hprev : (if (0 : Int) < (i : Int) then Option.bind (P5 ((i : Int) - 1)) fun t89=>Option.bind (K6 r.J8 t89) fun e90=>Option.bind (A2u t e90) fun t93=>some t93 else some false) = some (decide (i ≠ 0∧tLt t (r.J8.getD (i - 1) A2N) = true)):=by
    by_cases h0 : i = 0
    · subst h0; simp
    · have hp:=A6D (l:=r.J8) A2N hi h0
      have hc : ((i : Int) - 1) = ((i - 1 : Nat) : Int):=by omega
      have hpos : (0 : Int) < i:=by omega
      rw [if_pos hpos,hc,A0S (x:=((i - 1 : Nat) : Int)) (by omega) (by omega)]
      simp only [Option.bind_some,W9 hp,C1l,h0,ne_eq,not_false_iff,true_and]
      cases tLt t (r.J8.getD (i - 1) A2N) <;> simp
  have hp1 : A3M r (i : Int) t = some (decide ((t.J4 ≠ 1∧t.J4 ≠ 2)∨sLt t.fA t.fB = false∨(i ≠ 0∧tLt t (r.J8.getD (i - 1) A2N) = true))):=by
    simp only [A3M,Bool.cond_decide,hprev]
    by_cases k1 : t.J4 = 1
    · cases sLt t.fA t.fB <;> simp [k1]
    · by_cases k2 : t.J4 = 2
      · cases sLt t.fA t.fB <;> simp [k1,k2]
      · simp [k1,k2]
  have hat : ∀ n,decide (A3b (fun x : E5=>decide (x.H7 = n)) 0 r.F3 < 0) = !isG r.F3 n:=by
    intro n
    unfold isG
    have e:=C1i (fun x : E5=>decide (x.H7 = n)) r.F3 0
    cases hq : r.F3.any (fun x=>decide (x.H7 = n)) with
    | false=>rw [hq] at e; exact decide_eq_true (e.mpr rfl)
    | true=>rw [hq] at e; exact decide_eq_false (fun q=>by have:=e.mp q; cases this)
  simp only [A0z,A6q,W9 ht,hra,hp1,B0z hgl,hat,Option.bind_some]
  rw [C4N (decide_eq_true hlt)]
  unfold B5C
  by_cases c1 : (t.J4 ≠ 1∧t.J4 ≠ 2)∨sLt t.fA t.fB = false∨(i ≠ 0∧tLt t (r.J8.getD (i - 1) A2N) = true)
  · rw [decide_eq_true c1,if_pos c1]
    rfl
  rw [decide_eq_false c1,if_neg c1]
  cases hA : isG r.F3 t.fA
  · rfl
  cases hB : isG r.F3 t.fB
  · rfl
  simp only [Bool.not_true,cond_false,Option.bind_some,Bool.true_eq_false,or_self,if_false,A6J,e6,hr,Bool.cond_decide]
  by_cases h0 : i = 0
  · subst h0; simp
  · have hp:=A6D (l:=r.J8) A2N hi h0
    have hc : ((i : Int) - 1) = ((i - 1 : Nat) : Int):=by omega
    have hpos : (0 : Int) < i:=by omega
    rw [if_pos hpos,hc,A0S (x:=((i - 1 : Nat) : Int)) (by omega) (by omega)]
    simp only [Option.bind_some,W9 hp,C1l,h0,ne_eq,not_false_iff,true_and]
    cases tLt (r.J8.getD (i - 1) A2N) t
    · rfl
    · by_cases h6 : 256≤i
      · simp only [h6,if_true,Bool.true_eq_false,if_false,Bool.not_true,cond_false]
      · simp only [h6,if_false,Bool.true_eq_false,Bool.not_true,cond_false]
theorem C4Z {r : V6} (h : OkR r) (hg : r.F3.length≤64) : iter (A0z r) FUEL (0 : Int) = some (toE (Z5 (B5C r) 0 r.J8)):=by
  have hl:=h.ts
  rw [mx] at hl
  have:=B4N (f:=A0z r) r.J8 (B5C r) (fun s i=>s = (i : Int)∧i≤256) (fun p=>.inr p) (fun o=>o = .inl ())
    (fun s i t ht hs=>by
      obtain ⟨rfl,h256⟩:=hs
      have:=C5l h hg ht h256
      cases hb : B5C r i t with
      | some p=>rw [hb] at this; exact this
      | none=>
        rw [hb] at this
        refine ⟨_,this,rfl,?_⟩
        apply Classical.byContradiction
        intro hn
        have h6 : 256≤i:=by omega
        unfold B5C at hb
        split at hb
        · cases hb
        · split at hb
          · cases hb
          · split at hb
            · cases hb
            · cases hb)
    (fun s hs=>by
      obtain ⟨rfl,_⟩:=hs
      exact ⟨.inl (),by simp [A0z],rfl⟩)
    FUEL 0 0 ⟨rfl,by omega⟩ (Nat.zero_le _) (fuel (by omega))
  rw [List.drop_zero] at this
  cases hF : Z5 (B5C r) 0 r.J8 with
  | some p=>rw [hF] at this; exact this
  | none=>rw [hF] at this; obtain ⟨o,ho,rfl⟩:=this; exact ho
def B9R (r : V6) : Int×Int:=match Z5 (B3Z r.F3) 0 r.F3 with
  | some p=>p
  | none=>(Z5 (B5C r) 0 r.J8).getD (0,0)
theorem B4q {r : V6} (h : OkR r) : A3G r = some (B9R r):=by
  have h0:=C3K h
  simp only [A3G,A8Y,B6i,Option.bind_some,B9R]
  cases hF : Z5 (B3Z r.F3) 0 r.F3 with
  | some p=>rw [hF] at h0; simp only at h0; rw [h0]; rfl
  | none=>
    rw [hF] at h0
    obtain ⟨o,ho,m,rfl,hm⟩:=h0
    have h1:=C3L h (C7t hF) hm
    rw [ho]
    simp only [Option.bind_some]
    cases hT : Z5 (B5C r) 0 r.J8 with
    | some p=>rw [hT] at h1; simp only at h1; rw [h1]; rfl
    | none=>
      rw [hT] at h1
      obtain ⟨o,ho,rfl⟩:=h1
      rw [ho]
      rfl
theorem B3W {r : V6} (h : OkR r) : A3E r = some (B9R r):=by
  simp only [A3E,C5c h,Option.bind_some,B9R]
  cases hF : Z5 (B3Z r.F3) 0 r.F3 with
  | some p=>rfl
  | none=>
    simp only [toE,C4Z h (C7t hF),Option.bind_some]
    cases Z5 (B5C r) 0 r.J8 <;> rfl
theorem C8n {r : V6} (h : (B9R r).2 = 0) : r.F3.length≤64:=by
  unfold B9R at h
  cases hF : Z5 (B3Z r.F3) 0 r.F3 with
  | none=>exact C7t hF
  | some p=>
    rw [hF] at h
    exfalso
    have key : ∀ (xs : List E5) (i : Nat) (p : Int×Int),Z5 (B3Z r.F3) i xs = some p→p.2 ≠ 0:=by
      intro xs
      induction xs with
      | nil=>intro i p h; cases h
      | cons x xs ih=>
        intro i p h
        simp only [Z5] at h
        cases hb : B3Z r.F3 i x with
        | none=>rw [hb] at h; exact ih _ _ h
        | some q=>
          rw [hb] at h
          cases h
          unfold B3Z at hb
          split at hb
          · rename_i hc; cases hb; exact hc
          · split at hb
            · cases hb; simp
            · split at hb
              · cases hb; simp
              · cases hb
    exact key _ _ _ hF h
end Go.Pl
namespace Go.Pl
open Go Go.Sl Go.Dm
structure OkU (r : G5) : Prop where
  kind : 0≤r.J4∧r.J4≤255
  a : r.fA.size≤maxLen
def C6t (p : A8) (n : ByteArray) : Int:=A3b (fun x=>decide (x.H7 = n)) 0 p.F3
def B7k (p : A8) (n : ByteArray) : Int:=A3b (fun x=>decide (x.H7 = n)) 0 p.H8
theorem C6F {p : A8} (h : C3n p.H8) (hc : (A9r p.H8).2 = 0) (n : ByteArray) : B2B p.H8 n = some (bif decide (B7k p n < 0) then ((0 : Int),false) else (B7k p n,true)):=by
  simp only [B2B,C8b h.1 (f:=fun y0=>A9x y0 n) (p:=fun x=>decide (x.H7 = n)) (fun x=>rfl),A7S h,hc,Option.bind_some,B7k]
  by_cases hq : A3b (fun x : D5=>decide (x.H7 = n)) 0 p.H8 < 0 <;> simp [hq]
theorem C5U {t : D5} (h : A6L t = 0) : (A9r [t]).2 = 0:=by
  simp [A9r,A1F,B2J,h,C6R]
theorem C7h {p : A8} (h : C3n p.H8) (hc : (A9r p.H8).2 = 0) {n : ByteArray} (hn : 0≤B7k p n) : ∃ m : Int,
    (Option.bind (P5 (B7k p n + (1 : Int))) fun t162=>Option.bind (sbL p.H8 (B7k p n) t162) fun t163=>Option.bind (A1Y t163) fun t168=>Option.bind (P5 (t168 - (1 : Int))) fun t176=>some t176) = some m∧
    (Option.bind (K6 p.H8 (B7k p n)) fun e511=>Option.bind (A3R e511) fun t516=>Option.bind (P5 (t516 - (1 : Int))) fun t524=>some t524) = some m:=by
  have hl:=h.1
  rw [mx] at hl
  obtain ⟨k,e,hk⟩:=C5x _ _ 0 hn
  rw [Nat.zero_add] at e
  have e' : B7k p n = (k : Int):=e
  have hx:=List.getElem?_eq_getElem hk
  have hm:=A4Y hx
  have h0:=(C2f hc).2 _ hm
  have hs:=A8N p.H8[k]
  have hsb : sbL p.H8 (k : Int) ((k + 1 : Nat) : Int) = some [p.H8[k]]:=by
    have : sbL p.H8 (k : Int) ((k + 1 : Nat) : Int) = (bif Nat.ble k (k + 1) && Nat.ble (k + 1) p.H8.length then some (Sl.sub p.H8 k (k + 1)) else none):=rfl
    rw [this,Nat.ble_eq_true_of_le (Nat.le_succ k),Nat.ble_eq_true_of_le hk]
    simp only [Bool.and_self,cond_true,Sl.sub]
    congr 1
    rw [List.drop_take,Nat.add_sub_cancel_left,List.drop_eq_getElem_cons hk]
    rfl
  have hc1 : A1Y [p.H8[k]] = some (A4d p.H8[k]):=by
    rw [B3u ⟨by rw [mx]; simp,fun t ht=>by simp at ht; subst ht; exact h.2 _ hm⟩ (C5U h0)]
    simp [A5Q]
  refine ⟨A4d p.H8[k] - 1,?_,?_⟩
  · rw [e',A0o (by omega)]
    simp only [Option.bind_some,hsb,hc1]
    rw [A0S (by omega) (by omega)]
    rfl
  · rw [e']
    simp only [W9 hx,Option.bind_some,A8f]
    rw [A0S (by omega) (by omega)]
    rfl
theorem C7r (b c : Bool) : ∃ r : Int,(bif b then some 42 else bif c then some 42 else some 0) = some r∧(bif b then some 42 else bif c then some 42 else some 0) = some r:=by
  cases b <;> cases c <;> exact ⟨_,rfl,rfl⟩
def KM : List (Int×I5):=(A6N).getD []
theorem C5A : A6N = some KM:=rfl
theorem C4Y {m : List (Int×I5)} {k : Int} (h : ∀ x ∈ m,k ≠ x.1) : B0p m k = none:=by
  induction m with
  | nil=>rfl
  | cons x m ih=>
    obtain ⟨a,b⟩:=x
    simp only [B0p]
    rw [decide_eq_false (h (a,b) (List.mem_cons_self ..)),cond_false]
    exact ih (fun y hy=>h y (List.mem_cons_of_mem _ hy))
def zK : I5:=I5.mk (⟨#[]⟩ : ByteArray) (0 : Int) false (0 : Int) false (0 : Int) false (0 : Nat)
theorem C6O : KM.all (fun x=>decide (1≤x.1) && decide (x.1≤18)) = true:=rfl
theorem C7l {k : Int} (h : k < 1∨18 < k) : lkM KM k zK = some (zK,false):=by
  unfold lkM
  rw [C4Y (fun x hx e=>by
    have:=List.all_eq_true.1 C6O x hx
    simp only [Bool.and_eq_true,decide_eq_true_eq] at this
    omega)]
theorem C6j {k : Int} (h : k < 1∨18 < k) (h0 : 0≤k) (h1 : k≤255) : A6P k = some ⟨#[]⟩:=by
  rcases h with h | h
  · have : k = 0:=by omega
    subst this
    rfl
  · have hr : A3q .i64 k = some k:=by
      unfold A3q
      have hw : IntKind.i64.wrap k = k:=Go.Sl.wrap_i64 ⟨by omega,by omega⟩
      rw [decide_eq_true hw,cond_true]
    unfold A6P
    rw [hr]
    simp only [Option.bind_some,List.length_cons,List.length_nil]
    rw [decide_eq_true (by omega),cond_true]
theorem C9a : lkM KM (1 : Int) zK = some ((I5.mk (⟨#[97,112,97,114,116]⟩ : ByteArray) (103 : Int) true (0 : Int) true (0 : Int) false (180 : Nat)),true):=rfl
theorem C8M : lkM KM (2 : Int) zK = some ((I5.mk (⟨#[98,101,115,105,100,101]⟩ : ByteArray) (103 : Int) true (0 : Int) false (0 : Int) false (181 : Nat)),true):=rfl
theorem C8J : lkM KM (3 : Int) zK = some ((I5.mk (⟨#[97,99,114,111,115,115]⟩ : ByteArray) (103 : Int) true (0 : Int) false (0 : Int) false (182 : Nat)),true):=rfl
theorem C8K : lkM KM (4 : Int) zK = some ((I5.mk (⟨#[110,101,97,114]⟩ : ByteArray) (103 : Int) true (0 : Int) true (1 : Int) false (183 : Nat)),true):=rfl
theorem C8S : lkM KM (5 : Int) zK = some ((I5.mk (⟨#[116,111,103,101,116,104,101,114]⟩ : ByteArray) (103 : Int) true (0 : Int) false (0 : Int) false (184 : Nat)),true):=rfl
theorem C8F : lkM KM (6 : Int) zK = some ((I5.mk (⟨#[97,116]⟩ : ByteArray) (103 : Int) false (116 : Int) false (0 : Int) false (185 : Nat)),true):=rfl
theorem C8E : lkM KM (7 : Int) zK = some ((I5.mk (⟨#[115,101,97,116]⟩ : ByteArray) (103 : Int) false (116 : Int) true (0 : Int) true (186 : Nat)),true):=rfl
theorem C8D : lkM KM (8 : Int) zK = some ((I5.mk (⟨#[97,108,116,101,114,110,97,116,101]⟩ : ByteArray) (0 : Int) false (101 : Int) false (0 : Int) false (187 : Nat)),true):=rfl
theorem C8R : lkM KM (9 : Int) zK = some ((I5.mk (⟨#[104,111,115,116]⟩ : ByteArray) (0 : Int) false (101 : Int) false (0 : Int) false (188 : Nat)),true):=rfl
theorem C8l : lkM KM (10 : Int) zK = some ((I5.mk (⟨#[114,101,97,99,104]⟩ : ByteArray) (101 : Int) false (0 : Int) false (0 : Int) false (189 : Nat)),true):=rfl
theorem C7Z : lkM KM (11 : Int) zK = some ((I5.mk (⟨#[115,112,101,97,107]⟩ : ByteArray) (0 : Int) false (101 : Int) false (0 : Int) false (190 : Nat)),true):=rfl
theorem C7T : lkM KM (12 : Int) zK = some ((I5.mk (⟨#[112,101,97,99,101]⟩ : ByteArray) (0 : Int) false (101 : Int) false (0 : Int) false (191 : Nat)),true):=rfl
theorem C8i : lkM KM (13 : Int) zK = some ((I5.mk (⟨#[99,111,109,112,97,110,121]⟩ : ByteArray) (0 : Int) false (101 : Int) false (0 : Int) false (192 : Nat)),true):=rfl
theorem C7P : lkM KM (14 : Int) zK = some ((I5.mk (⟨#[104,111,110,111,117,114]⟩ : ByteArray) (0 : Int) false (101 : Int) false (0 : Int) false (193 : Nat)),true):=rfl
theorem C7V : lkM KM (15 : Int) zK = some ((I5.mk (⟨#[102,105,108,108]⟩ : ByteArray) (0 : Int) false (101 : Int) true (0 : Int) false (194 : Nat)),true):=rfl
theorem C7O : lkM KM (16 : Int) zK = some ((I5.mk (⟨#[108,105,109,105,116]⟩ : ByteArray) (0 : Int) false (101 : Int) true (0 : Int) false (195 : Nat)),true):=rfl
theorem C8e : lkM KM (17 : Int) zK = some ((I5.mk (⟨#[107,105,116,99,104,101,110]⟩ : ByteArray) (100 : Int) false (116 : Int) false (0 : Int) false (196 : Nat)),true):=rfl
theorem C7J : lkM KM (18 : Int) zK = some ((I5.mk (⟨#[109,105,120]⟩ : ByteArray) (0 : Int) false (101 : Int) false (0 : Int) false (197 : Nat)),true):=rfl
theorem C2I {p : A8} (h : C3n p.H8) (hc : (A9r p.H8).2 = 0) (hg : p.F3.length≤maxLen) {r : G5} (hr : OkU r) :
    ∃ K ok,lkM KM r.J4 zK = some (K,ok)∧∃ c,A9n K p r = some c∧A4a p r = some c:=by
  obtain ⟨k,w,a,b,t,n⟩:=r
  obtain ⟨⟨k0,k1⟩,ha⟩:=hr
  simp only at k0 k1 ha
  by_cases ho : k < 1∨18 < k
  · refine ⟨zK,false,C7l ho,40,rfl,?_⟩
    unfold A4a
    rw [show A6P (G5.mk k w a b t n).J4 = some ⟨#[]⟩ from C6j ho k0 k1]
    rfl
  have fe:=C6F h hc t
  have te : A3y p.H8 t = some (B7k p t):=B6g h.1 t
  have we : ∀ n,A2C p n = some (C6t p n):=fun n=>C2H hg n
  have ae : ∀ n,A2A p.F3 n = some (C6t p n):=fun n=>B0z hg n
  have ne:=C1K ha
  have ke:=A3Z ha
  rcases (show k = 1∨k = 2∨k = 3∨k = 4∨k = 5∨k = 6∨k = 7∨k = 8∨k = 9∨k = 10∨k = 11∨k = 12∨k = 13∨k = 14∨k = 15∨k = 16∨k = 17∨k = 18 by omega) with rfl | rfl | rfl | rfl | rfl | rfl | rfl | rfl | rfl | rfl | rfl | rfl | rfl | rfl | rfl | rfl | rfl | rfl
  all_goals first | refine ⟨_,_,C9a,?_⟩ | refine ⟨_,_,C8M,?_⟩ | refine ⟨_,_,C8J,?_⟩ | refine ⟨_,_,C8K,?_⟩ | refine ⟨_,_,C8S,?_⟩ | refine ⟨_,_,C8F,?_⟩ | refine ⟨_,_,C8E,?_⟩ | refine ⟨_,_,C8D,?_⟩ | refine ⟨_,_,C8R,?_⟩ | refine ⟨_,_,C8l,?_⟩ | refine ⟨_,_,C7Z,?_⟩ | refine ⟨_,_,C7T,?_⟩ | refine ⟨_,_,C8i,?_⟩ | refine ⟨_,_,C7P,?_⟩ | refine ⟨_,_,C7V,?_⟩ | refine ⟨_,_,C7O,?_⟩ | refine ⟨_,_,C8e,?_⟩ | refine ⟨_,_,C7J,?_⟩
  all_goals unfold A9n A4a
  all_goals by_cases hT : B7k p t < 0
  all_goals first | have hd : decide (B7k p t < 0) = true:=decide_eq_true hT | (have hd : decide (B7k p t < 0) = false:=decide_eq_false hT; obtain ⟨m,s1,s2⟩:=C7h h hc (n:=t) (by omega))
  all_goals first | simp only [A9A,A7Y,A7Z,A7Q,A7U,A7T,A8o,A7c,A6G,A6S,A6Q,A6n,A6v,A6r,A6y,A7a,A6s,A5I,A5S,A5N,fe,te,we,ae,ne,ke,hd,cond_false,cond_true,decide_true,Option.bind_some,s1,s2] | simp only [A9A,A7Y,A7Z,A7Q,A7U,A7T,A8o,A7c,A6G,A6S,A6Q,A6n,A6v,A6r,A6y,A7a,A6s,A5I,A5S,A5N,fe,te,we,ae,ne,ke,hd,cond_false,cond_true,decide_true,Option.bind_some]
  all_goals (generalize decide (w < 0) = x1; generalize decide (1000 < w) = x2; generalize decide (a = (⟨#[]⟩ : ByteArray)) = x3; generalize decide (b = (⟨#[]⟩ : ByteArray)) = x4; generalize decide (t = (⟨#[]⟩ : ByteArray)) = x5; generalize decide (n = 0) = x6; generalize decide (C6t p a < 0) = x7; generalize decide (C6t p b < 0) = x8; generalize A1B a = x9; generalize decide (a = b) = x10)
  all_goals (cases x1 <;> cases x2 <;> first | exact ⟨_,rfl,rfl⟩ | (cases x4 <;> first | exact ⟨_,rfl,rfl⟩ | (cases x5 <;> first | exact ⟨_,rfl,rfl⟩ | (cases x6 <;> first | exact ⟨_,rfl,rfl⟩ | (cases x3 <;> first | exact ⟨_,rfl,rfl⟩ | (cases x7 <;> first | exact ⟨_,rfl,rfl⟩ | (cases x8 <;> first | exact ⟨_,rfl,rfl⟩ | (cases x9 <;> first | exact ⟨_,rfl,rfl⟩ | (cases x10 <;> first | exact ⟨_,rfl,rfl⟩ | (first | exact C7r (decide (n < 0)) (decide (24 < n)) | exact C7r (decide (n < 1)) (decide (24 < n)) | exact C7r (decide (n < 0)) (decide (_ < n))))))))))))
end Go.Pl
namespace Go.Pl
open Go Go.Sl Go.Dm
def A2D (c : Int) : Bool:=decide (0≤c) && decide (c < 64)
def B7J (p : A8) : Int×Int:=
  if (A9r p.H8).2 ≠ 0 then A9r p.H8
  else if (B9R (V6.mk p.F3 p.J8)).2 ≠ 0 then B9R (V6.mk p.F3 p.J8)
  else if p.K5.length ≠ 0∧p.K5.length ≠ p.F3.length then (0,44)
  else if p.K5.all A2D = false then (0,44)
  else if A5Q p.H8 < p.F3.length then (0,45) else (0,0)
structure OkP (p : A8) : Prop where
  ts : C3n p.H8
  r : OkR (V6.mk p.F3 p.J8)
  cl : p.K5.length≤maxLen
  ru : p.K9.length≤maxLen
  u : ∀ r ∈ p.K9,OkU r
theorem C7I {p : A8} (h : p.K5.length≤maxLen) : iter (A3o p) FUEL (0 : Int) = some (if p.K5.all A2D then .inl () else .inr (0,44)):=by
  rw [mx] at h
  rw [A2y p.K5 (fun i c=>if A2D c then none else some (.inr (0,44))) (.inl ()) (fuel h),A8Z (ρ:=Unit⊕(Int×Int)) (fun i c=>if A2D c then none else some (.inr (0,44))) A2D (.inr (0,44)) (.inl ()) (fun i x=>rfl)]
  · intro i c hx
    have hi:=A0f hx
    simp only [A3o,W9 hx,Option.bind_some,Bool.cond_decide]
    rw [if_pos (by omega),A0o (by omega)]
    by_cases h1 : c < 0
    · have : A2D c = false:=by simp [A2D]; omega
      simp [h1,this]
    · by_cases h2 : 64≤c
      · have : A2D c = false:=by simp [A2D]; omega
        simp [h1,h2,this]
      · have : A2D c = true:=by simp [A2D]; omega
        simp [h1,h2,this]
  · simp [A3o]
theorem C7H {p : A8} (h : p.K5.length≤maxLen) : iter (A2Q p) FUEL (0 : Int) = some (if p.K5.all A2D then .inl () else .inr (0,44)):=by
  rw [mx] at h
  rw [A2y p.K5 (fun i c=>if A2D c then none else some (.inr (0,44))) (.inl ()) (fuel h),A8Z (ρ:=Unit⊕(Int×Int)) (fun i c=>if A2D c then none else some (.inr (0,44))) A2D (.inr (0,44)) (.inl ()) (fun i x=>rfl)]
  · intro i c hx
    have hi:=A0f hx
    simp only [A2Q,W9 hx,Option.bind_some,Bool.cond_decide]
    rw [if_pos (by omega),A0o (by omega)]
    by_cases h1 : c < 0
    · have : A2D c = false:=by simp [A2D]; omega
      simp [h1,this]
    · by_cases h2 : 64≤c
      · have : A2D c = false:=by simp [A2D]; omega
        simp [h1,h2,this]
      · have : A2D c = true:=by simp [A2D]; omega
        simp [h1,h2,this]
  · simp [A2Q]
theorem C0z {p : A8} (h : OkP p) : A9d p = some (B7J p):=by
  simp only [A9d,A8x h.ts,Option.bind_some,B7J]
  by_cases hh : (A9r p.H8).2 = 0
  · have hr:=B4q h.r
    simp only [hh,hr,Option.bind_some]
    by_cases h2 : (B9R (V6.mk p.F3 p.J8)).2 = 0
    · simp only [h2,B3T,C7I h.cl,B3u h.ts hh,Option.bind_some]
      by_cases c0 : p.K5.length = 0
      · have hn : ¬ (0 : Int) < (p.K5.length : Int):=by omega
        cases p.K5.all A2D
        · simp [hn,c0]
        · by_cases c3 : A5Q p.H8 < p.F3.length <;> simp [hn,c0,c3]
      · have hn : (0 : Int) < (p.K5.length : Int):=by omega
        have hn' : 0 < p.K5.length:=by omega
        by_cases c1 : p.K5.length = p.F3.length
        · have c1' : (p.K5.length : Int) = (p.F3.length : Int):=by omega
          cases p.K5.all A2D
          · simp [hn,c0,c1,c1']
          · by_cases c3 : A5Q p.H8 < p.F3.length <;> simp [hn,c0,c1,c1',c3]
        · have c1' : ¬ (p.K5.length : Int) = (p.F3.length : Int):=by omega
          simp [hn,hn',c0,c1,c1']
    · simp [h2]
  · simp [hh]
theorem B7W {p : A8} (h : OkP p) : A7F p = some (B7J p):=by
  simp only [A7F,B4W h.ts,Option.bind_some,B7J]
  by_cases hh : (A9r p.H8).2 = 0
  · have hr:=B3W h.r
    simp only [hh,hr,Option.bind_some]
    by_cases h2 : (B9R (V6.mk p.F3 p.J8)).2 = 0
    · simp only [h2,B0Z,C7H h.cl,B9u (C2f hh).1,Option.bind_some]
      by_cases c0 : p.K5.length = 0
      · have hn : (p.K5.length : Int) = 0:=by omega
        cases p.K5.all A2D
        · simp [hn,c0]
        · by_cases c3 : A5Q p.H8 < p.F3.length <;> simp [hn,c0,c3]
      · have hn : ¬ (p.K5.length : Int) = 0:=by omega
        by_cases c1 : p.K5.length = p.F3.length
        · have c1' : (p.K5.length : Int) = (p.F3.length : Int):=by omega
          cases p.K5.all A2D
          · simp [hn,c0,c1,c1']
          · by_cases c3 : A5Q p.H8 < p.F3.length <;> simp [hn,c0,c1,c1',c3]
        · have c1' : ¬ (p.K5.length : Int) = (p.F3.length : Int):=by omega
          simp [hn,c0,c1,c1']
    · simp [h2]
  · simp [hh]
theorem C0Z {p : A8} (h : (B7J p).2 = 0) : (A9r p.H8).2 = 0:=by
  unfold B7J at h
  by_cases hh : (A9r p.H8).2 = 0
  · exact hh
  · rw [if_pos hh] at h; exact absurd h hh
def rCk (p : A8) (r : G5) : Int:=(A4a p r).getD 0
def B9H (p : A8) (i : Nat) (r : G5) : Option (Int×Int):=if rCk p r ≠ 0 then some ((i : Int),rCk p r) else if i = 64 then some ((i : Int),7) else none
def C5v (p : A8) : Int×Int:=if (B7J p).2 ≠ 0 then B7J p else (Z5 (B9H p) 0 p.K9).getD (0,0)
theorem C6u {p : A8} (h : OkP p) (hb : (B7J p).2 = 0) : iter (A3B p KM) FUEL (0 : Int) = some (toE (Z5 (B9H p) 0 p.K9)):=by
  have hl:=h.ru
  rw [mx] at hl
  refine A8L p.K9 (B9H p) h.ru (fun i r hx=>?_) (by simp [A3B])
  have hi:=A0f hx
  obtain ⟨K,ok,lk,c,k1,k2⟩:=C2I h.ts (C0Z hb) h.r.gs (h.u r (A4Y hx))
  have hc : rCk p r = c:=by unfold rCk; rw [k2]; rfl
  have lk' : lkM KM r.J4 (I5.mk (⟨#[]⟩ : ByteArray) (0 : Int) false (0 : Int) false (0 : Int) false (0 : Nat)) = some (K,ok):=lk
  simp only [A3B,W9 hx,lk',k1,Option.bind_some]
  rw [C4N (decide_eq_true (show (i : Int) < (p.K9.length : Int) by omega)),A0o (by omega)]
  unfold B9H
  rw [hc]
  have e64 : ((i : Int) = 64)↔i = 64:=by omega
  by_cases h0 : c = 0
  · by_cases h64 : i = 64
    · subst h64; simp [h0]
    · simp [h0,e64,h64]
  · simp [h0]
theorem C6M {p : A8} (h : OkP p) (hb : (B7J p).2 = 0) : iter (A2k p) FUEL (0 : Int) = some (toE (Z5 (B9H p) 0 p.K9)):=by
  have hl:=h.ru
  rw [mx] at hl
  have:=B4N (f:=A2k p) p.K9 (B9H p) (fun s i=>s = (i : Int)∧i≤64) (fun p=>.inr p) (fun o=>o = .inl ())
    (fun s i r hx hs=>by
      obtain ⟨rfl,h64⟩:=hs
      have hi:=A0f hx
      obtain ⟨K,ok,lk,c,k1,k2⟩:=C2I h.ts (C0Z hb) h.r.gs (h.u r (A4Y hx))
      have hc : rCk p r = c:=by unfold rCk; rw [k2]; rfl
      simp only [A2k,W9 hx,k2,Option.bind_some]
      rw [C4N (decide_eq_true (show (i : Int) < (p.K9.length : Int) by omega)),A0o (by omega)]
      unfold B9H
      rw [hc]
      by_cases h0 : c = 0
      · by_cases h6 : i = 64
        · subst h6; simp [h0]
        · have : ¬ (64 : Int)≤(i : Int):=by omega
          simp only [h0,h6,this,decide_true,decide_false,Bool.not_true,cond_false,ne_eq,not_true_eq_false,if_false]
          exact ⟨_,rfl,rfl,by omega⟩
      · simp [h0])
    (fun s hs=>by
      obtain ⟨rfl,_⟩:=hs
      exact ⟨.inl (),by simp [A2k],rfl⟩)
    FUEL 0 0 ⟨rfl,by omega⟩ (Nat.zero_le _) (fuel (by omega))
  rw [List.drop_zero] at this
  cases hF : Z5 (B9H p) 0 p.K9 with
  | some p=>rw [hF] at this; exact this
  | none=>rw [hF] at this; obtain ⟨o,ho,rfl⟩:=this; exact ho
theorem C0v {p : A8} (h : OkP p) : A3L p = some (C5v p):=by
  simp only [A3L,C0z h,C5A,Option.bind_some,C5v]
  by_cases hb : (B7J p).2 = 0
  · simp only [hb,C6u h hb,Option.bind_some]
    cases Z5 (B9H p) 0 p.K9 <;> rfl
  · simp [hb]
theorem B8P {p : A8} (h : OkP p) : A7j p = some (C5v p):=by
  simp only [A7j,B7W h,Option.bind_some,C5v]
  by_cases hb : (B7J p).2 = 0
  · simp only [hb,C6M h hb,Option.bind_some]
    cases Z5 (B9H p) 0 p.K9 <;> rfl
  · simp [hb]
end Go.Pl
namespace Go.Pl
open Go Go.Sl Go.Dm
theorem C6J : A3V = some true:=by kernel_rfl
def zP : A8:=A8.mk ([] : List D5) ([] : List E5) ([] : List G6) ([] : List Int) ([] : List G5)
def zR : U6:=U6.mk zP ([] : List Int) (0 : Int) (0 : Int)
theorem C6Q : A3I zP zP = some true:=by kernel_rfl
theorem C6w : A4P zR zR = some true:=by kernel_rfl
theorem C5F (p : A8) : ∃ b,B7K p 100 = some b:=by
  unfold B7K
  cases decide ((p.H8.length : Int)≤100) <;> cases decide ((p.F3.length : Int)≤100) <;> cases decide ((p.J8.length : Int)≤100) <;> cases decide ((p.K5.length : Int)≤100) <;> exact ⟨_,rfl⟩
theorem C3U (e : Int) : iter (A0K e e e e e e e e) FUEL (0 : Int) = some (.inl ()):=by
  rw [A8L (R:=Bool) [e,e,e,e,e,e,e] (fun _ _=>none) (by rw [mx]; simp) (fun i x hx=>?_) (by simp [A0K])]
  · rfl
  · have hi:=A0f hx
    have hm:=A4Y hx
    have : x = e:=by simpa using hm
    subst this
    simp only [A0K,W9 hx,Option.bind_some,decide_true,Bool.not_true,cond_false]
    rw [C4N (decide_eq_true (show (i : Int) < (([x,x,x,x,x,x,x] : List Int).length : Int) by omega)),A0o (by simp at hi; omega)]
    rfl
theorem C2A {p : A8} (h : OkP p) (part : List Int) (n : Int) : A3l p part n = some true:=by
  obtain ⟨b,hb⟩:=C5F p
  have hr:=B8P h
  have hp:=C0v h
  revert hr hp
  generalize C5v p = c
  intro hr hp
  obtain ⟨i,e⟩:=c
  have aw : (Option.bind A3V fun t35=>some t35) = some true:=by rw [C6J]; rfl
  simp only [A3l,hb,hr,Option.bind_some,aw]
  cases b
  · rfl
  simp only [Bool.not_true,cond_false,Option.bind_some]
  cases decide ((100 : Int) < (part.length : Int))
  case true=>rfl
  simp only [cond_false]
  cases he : decide (e = 0)
  case true=>rfl
  simp only [cond_false]
  have ho : A0w p part = some (none,e):=by simp only [A0w,B1P,hp,Option.bind_some,he,Bool.not_false,cond_true]
  have hK : A4l p part = some (zP,e):=by simp only [A4l,ho,Option.bind_some,he,Bool.not_false,cond_true]; rfl
  have hA : ∀ ch,A4X p part ch = some (zP,[],e):=fun ch=>by simp only [A4X,ho,Option.bind_some,he,Bool.not_false,cond_true]; rfl
  have hC : ∀ ch,A5f p part ch = some e:=fun ch=>by simp only [A5f,ho,Option.bind_some,he,Bool.not_false,cond_true]
  have hF : A7x p part n = some (zR,e):=by simp only [A7x,ho,Option.bind_some,he,Bool.not_false,cond_true]; rfl
  have hO : A6f p part n n = some (zR,e):=by simp only [A6f,ho,Option.bind_some,he,Bool.not_false,cond_true]; rfl
  have hP : A5i p part n = some ([],e):=by simp only [A5i,hK,Option.bind_some,he,Bool.not_false,cond_true]
  have hR : ∀ l,A4q p part l n = some ([],0,e):=fun l=>by simp only [A4q,ho,Option.bind_some,he,Bool.not_false,cond_true]
  have hU : A5h p part = some []:=by simp only [A5h,ho,Option.bind_some,he,Bool.not_false,cond_true]
  have hL : A3J p part = some 0:=by simp only [A3J,ho,Option.bind_some,he,Bool.not_false,cond_true]
  have hT : A4T p part n = some 0:=by simp only [A4T,ho,Option.bind_some,he,Bool.not_false,cond_true]
  simp only [A4f,hA,hF,hO,hK,hP,hR,Option.bind_some,A4k,hU,hL,hT,C6Q,C6w,A4i,hC,C3U,aw]
  rfl
end Go.Pl
