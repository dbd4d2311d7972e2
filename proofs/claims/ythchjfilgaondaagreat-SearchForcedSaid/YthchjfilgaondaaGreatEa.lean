import Derived.Test.YthchjfilgaondaaGreatL8
import Derived.Test.YthchjfilgaondaaGreatDa
import Derived.KernelRfl
/- Plain laws. -/
set_option maxRecDepth 1000000
set_option maxHeartbeats 40000000
set_option linter.unusedVariables false
set_option linter.unusedSimpArgs false
set_option linter.unusedSectionVars false
set_option linter.unnecessarySimpa false
namespace Go.Pl
open Go Go.Sl
theorem Oz {α β:Type} (a:α) (f:α→Option β):Option.bind (some a) f = f a:=rfl
theorem Dt {p:Prop} [Decidable p] (e:p):decide p = true:=decide_eq_true e
theorem Df {p:Prop} [Decidable p] (e:¬p):decide p = false:=decide_eq_false e
theorem Cy {α:Type} (a b:α):cond true a b = a:=rfl
theorem Cn {α:Type} (a b:α):cond false a b = b:=rfl
theorem Lg {α:Type} {l:List α} {i:Nat} (h:i<l.length):l[i]? = some l[i]:=List.getElem?_eq_getElem h
theorem Zn {a:Int} (h:0≤a):∃ n:Nat,a = n:=Int.eq_ofNat_of_zero_le h
theorem Cd {α:Type} (p:Prop) [Decidable p] (t e:α):cond (decide p) t e = if p then t else e:=Bool.cond_decide p t e
theorem Bq:(!true)=false:=rfl
theorem Bp:(!false)=true:=rfl
theorem Nb {n m:Nat} (h:n≤m):Nat.ble n m=true:=Nat.ble_eq_true_of_le h
theorem Zt (n:Nat):(n:Int).toNat=n:=Int.toNat_natCast n
theorem Gm {α:Type} {l:List α} {n:Nat} (h:n<l.length):l[n]∈l:=List.getElem_mem h
theorem Dq {p:Prop} [Decidable p]:(decide p=true)=p:=decide_eq_true_eq
theorem Ba (a b:Bool):((a&&b)=true)=(a=true∧b=true):=Bool.and_eq_true a b
theorem Lc {α:Type} {a:α} {l:List α}:(a::l).length=l.length+1:=List.length_cons
theorem Al {α:Type} {p:α→Bool} {l:List α}:l.all p=true↔∀ x,x∈l→p x=true:=List.all_eq_true
theorem Ms {α:Type} {a b:α}:a∈[b]↔a=b:=List.mem_singleton
theorem Mr {m n:Nat}:m∈List.range n↔m<n:=List.mem_range
theorem Mc {α:Type} {a:α} {l:List α} (y:α) (h:a∈l):a∈y::l:=List.mem_cons_of_mem y h
theorem Dc {α:Type} {i:Nat} {l:List α} (h:i<l.length):l.drop i=l[i]::l.drop (i+1):=List.drop_eq_getElem_cons h
theorem Ay {α:Type} {p:α→Bool} {l:List α}:l.any p=true↔∃ x,x∈l∧p x=true:=List.any_eq_true
theorem A1p {x:Int} (h:-9223372036854775808≤x) (h':x≤9223372036854775807):J5 x=some x:=by
 unfold J5
 cases x with
 | ofNat n=>
  have:Nat.ble n 9223372036854775807=true:=Nb (by simp at h'; omega)
  simp [this]
 | negSucc n=>
  have:Nat.ble n 9223372036854775807=true:=Nb (by omega)
  simp [this]
theorem H6 {n:Nat} (h:n<9223372036854775807):J5 ((n:Int)+1)=some ((n+1:Nat):Int):=by
 rw [A1p (by omega) (by omega)]; rfl
theorem J2 {α:Type} {xs:List α} {n:Nat} {x:α} (h:xs[n]?=some x):G7 xs (n:Int)=some x:=h
theorem A0h {α:Type} {xs:List α} {n:Nat} (h:n<xs.length):G7 xs (n:Int)=some xs[n]:=by
 rw [J2 (Lg h)]
theorem P5 {α:Type} {xs:List α} {n:Nat} {x:α} (h:xs[n]?=some x):n<xs.length:=by
 obtain ⟨h,_⟩:=List.getElem?_eq_some_iff.1 h; exact h
theorem D4k {α:Type} {b:Bool} {x y:α} (h:b=true):(bif b then x else y)=x:=by subst h; rfl
def A7k {α τ ρ:Type} (body:α→Nat→τ→α⊕ρ) (fin:α→ρ):α→Nat→List τ→ρ
 | a,_,[]=>fin a
 | a,i,x::xs=>match body a i x with
  | .inl a'=>A7k body fin a' (i+1) xs
  | .inr r=>r
theorem C8t {σ ρ α τ:Type} {f:σ→Option (σ⊕ρ)} (st:α→Nat→σ) (xs:List τ) (body:α→Nat→τ→α⊕ρ) (fin:α→ρ) (I:α→Nat→Prop)
  (h1:∀ a i x,xs[i]?=some x→I a i→match body a i x with
   | .inl a'=>f (st a i)=some (.inl (st a' (i+1)))∧I a' (i+1)
   | .inr r=>f (st a i)=some (.inr r))
  (h2:∀ a,I a xs.length→f (st a xs.length)=some (.inr (fin a))) :
  ∀ (n k:Nat) (a:α),I a k→k≤xs.length→xs.length - k<n→iter f n (st a k)=some (A7k body fin a k (xs.drop k)):=by
 intro n
 induction n with
 | zero=>intro k a _ _ h; omega
 | succ n ih=>
  intro k a hI hk hn
  by_cases hl:k=xs.length
  ·subst hl
   simp only [iter,h2 a hI,Oz,List.drop_length,A7k]
  ·have hlt:k<xs.length:=by omega
   have hx:=Lg hlt
   have:=h1 a k _ hx hI
   rw [Dc hlt]
   cases hb:body a k xs[k] with
   | inl a'=>
    rw [hb] at this
    simp only [iter,this.1,Oz,A7k,hb]
    exact ih (k+1) a' this.2 (by omega) (by omega)
   | inr r=>
    rw [hb] at this
    simp only [iter,this,Oz,A7k,hb]
theorem A7p {σ ρ α τ:Type} {f:σ→Option (σ⊕ρ)} (st:α→Nat→σ) (xs:List τ) (body:α→Nat→τ→α⊕ρ) (fin:α→ρ) (I:α→Nat→Prop) {a:α} (h0:I a 0) {n:Nat} (hn:xs.length<n)
  (h1:∀ a i x,xs[i]?=some x→I a i→match body a i x with
   | .inl a'=>f (st a i)=some (.inl (st a' (i+1)))∧I a' (i+1)
   | .inr r=>f (st a i)=some (.inr r))
  (h2:∀ a,I a xs.length→f (st a xs.length)=some (.inr (fin a))):iter f n (st a 0)=some (A7k body fin a 0 xs):=by
 have:=C8t st xs body fin I h1 h2 n 0 a h0 (Nat.zero_le _) (by omega)
 simpa using this
def A0M {τ ρ:Type} (bad:Nat→τ→Option ρ) (fin:ρ):Nat→List τ→ρ
 | _,[]=>fin
 | i,x::xs=>match bad i x with
  | some r=>r
  | none=>A0M bad fin (i+1) xs
theorem A1t {ρ τ:Type} {f:Int→Option (Int⊕ρ)} (xs:List τ) (bad:Nat→τ→Option ρ) (fin:ρ) {n:Nat} (hn:xs.length<n)
  (h1:∀ (i:Nat) x,xs[i]?=some x→f i=some (match bad i x with | some r=>.inr r | none=>.inl ((i+1:Nat):Int)))
  (h2:f xs.length=some (.inr fin)):iter f n (0:Int)=some (A0M bad fin 0 xs):=by
 have key:∀ (n k:Nat),k≤xs.length→xs.length - k<n→iter f n (k:Int)=some (A0M bad fin k (xs.drop k)):=by
  intro n
  induction n with
  | zero=>intro k _ h; omega
  | succ n ih=>
   intro k hk hn
   by_cases hl:k=xs.length
   ·subst hl
    simp only [iter,h2,Oz,List.drop_length,A0M]
   ·have hlt:k<xs.length:=by omega
    have:=h1 k _ (Lg hlt)
    rw [Dc hlt]
    cases hb:bad k xs[k] with
    | none=>
     rw [hb] at this
     simp only [iter,this,Oz,A0M,hb]
     exact ih (k+1) (by omega) (by omega)
    | some r=>
     rw [hb] at this
     simp only [iter,this,Oz,A0M,hb]
 have:=key n 0 (Nat.zero_le _) (by omega)
 simpa using this
theorem A7F {τ ρ:Type} (bad:Nat→τ→Option ρ) (ok:τ→Bool) (r fin:ρ) (hb:∀ i x,bad i x=if ok x then none else some r) :
  ∀ (xs:List τ) (i:Nat),A0M bad fin i xs=if xs.all ok then fin else r:=by
 intro xs
 induction xs with
 | nil=>intro i; rfl
 | cons x xs ih=>
  intro i
  simp only [A0M,List.all_cons]
  rw [hb]
  by_cases hx:ok x=true
  ·simp [hx,ih]
  ·simp [hx]
theorem fuel {n:Nat} (h:n≤9223372036854775807):n<FUEL:=Nat.lt_of_le_of_lt h (by decide)
theorem C5i:∀ (x y:List UInt8),Op.bytesLess x y=decide (x<y)
 | [],[]=>by simp [Op.bytesLess]
 | _::_,[]=>by simp [Op.bytesLess]
 | [],_::_=>by simp [Op.bytesLess]
 | a::x,b::y=>by
  rw [Op.bytesLess,C5i x y]
  simp only [List.cons_lt_cons_iff]
  by_cases h1:a<b <;> by_cases h2:a=b <;> by_cases h3:x<y <;> simp [h1,h2,h3]
theorem C9w:∀ (x y:List UInt8),Lib.compareBytes x y<0↔x<y
 | [],[]=>by simp [Lib.compareBytes]
 | _::_,[]=>by simp [Lib.compareBytes]
 | [],_::_=>by simp [Lib.compareBytes]
 | a::x,b::y=>by
  have ih:=C9w x y
  simp only [Lib.compareBytes,List.cons_lt_cons_iff]
  by_cases h1:a<b
  ·simp [h1]
  ·by_cases h2:b<a
   ·have:a≠b:=λe=>by subst e; exact h1 h2
    simp [h1,h2,this]
   ·have:a=b:=UInt8.le_antisymm (UInt8.not_lt.1 h2) (UInt8.not_lt.1 h1)
    subst this
    simp [ih]
theorem C7N:∀ (x y:List UInt8),Lib.compareBytes x y=0↔x=y
 | [],[]=>by simp [Lib.compareBytes]
 | _::_,[]=>by simp [Lib.compareBytes]
 | [],_::_=>by simp [Lib.compareBytes]
 | a::x,b::y=>by
  have ih:=C7N x y
  simp only [Lib.compareBytes,List.cons.injEq]
  by_cases h1:a<b
  ·have:a≠b:=λe=>by subst e; exact UInt8.lt_irrefl _ h1
   simp [h1,this]
  ·by_cases h2:b<a
   ·have:a≠b:=λe=>by subst e; exact h1 h2
    simp [h1,h2,this]
   ·have:a=b:=UInt8.le_antisymm (UInt8.not_lt.1 h2) (UInt8.not_lt.1 h1)
    subst this
    simp [ih]
theorem B3N (a b:ByteArray):B9t a b=0↔a=b:=by
 unfold B9t
 rw [C7N]
 constructor
 ·intro h; cases a; cases b; simp only [ByteArray.mk.injEq]; exact Array.toList_inj.1 h
 ·rintro rfl; rfl
end Go.Pl
namespace Go.Pl
open Go Go.Sl Go.Dm
theorem mx:maxLen=9223372036854775807:=by decide
def B8o (c:UInt8):Bool:=decide (97≤c.toNat) && decide (c.toNat≤122)
def A4U (s:ByteArray):Bool:=decide (1≤s.size) && decide (s.size≤12) && s.data.toList.all B8o
theorem C0u (s:ByteArray):s.data.toList.length=s.size:=by rw [Array.length_toList]; rfl
theorem D1M {s:ByteArray} {n:Nat} {c:UInt8} (h:s.data.toList[n]?=some c):B9s s (n:Int)=some (c.toNat:Int):=by
 show (s.data.toList[n]?).map _=_
 rw [h]
 rfl
theorem C3a {s:ByteArray} (hs:s.size≤maxLen):iter (A4E s) FUEL (0:Int)=some (if s.data.toList.all B8o then .inl () else .inr false):=by
 rw [mx] at hs
 rw [A1t s.data.toList (λi c=>if B8o c then none else some (.inr false)) (.inl ()) (by rw [C0u]; exact fuel hs),A7F (ρ:=Unit⊕Bool) (λi c=>if B8o c then none else some (.inr false)) B8o (.inr false) (.inl ()) (λi x=>rfl)]
 ·intro i c h
  have hi:=P5 h
  rw [C0u] at hi
  simp only [A4E,D1M h,Oz,Cd]
  rw [if_pos (by omega),H6 (by omega)]
  by_cases h1:(c.toNat:Int)<97
  ·have:B8o c=false:=by simp [B8o]; omega
   simp [h1,this]
  ·by_cases h2:(122:Int)<c.toNat
   ·have:B8o c=false:=by simp [B8o]; omega
    simp [h1,h2,this]
   ·have:B8o c=true:=by simp [B8o]; omega
    simp [h1,h2,this]
 ·simp [A4E,C0u]
theorem C3y {s:ByteArray} (hs:s.size≤maxLen):B4G s=some (A4U s):=by
 have e1:decide ((1:Int)≤(s.size:Int))=decide (1≤s.size):=decide_eq_decide.2 (by omega)
 have e2:decide ((s.size:Int)≤(12:Int))=decide (s.size≤12):=decide_eq_decide.2 (by omega)
 simp only [B4G,C3a hs,Oz,A4U,e1,e2]
 cases s.data.toList.all B8o <;> cases decide (1≤s.size) <;> cases decide (s.size≤12) <;> rfl
theorem A7R {s:ByteArray} (hs:s.size≤maxLen):A7D s=some (A4U s):=by
 have e:B1e s=A4E s:=rfl
 have e1:decide ((s.size:Int)=(0:Int))=!decide (1≤s.size):=by rw [←decide_not]; exact decide_eq_decide.2 (by omega)
 have e2:decide ((12:Int)<(s.size:Int))=!decide (s.size≤12):=by rw [←decide_not]; exact decide_eq_decide.2 (by omega)
 simp only [A7D,e,C3a hs,Oz,A4U,e1,e2]
 cases s.data.toList.all B8o <;> cases decide (1≤s.size) <;> cases decide (s.size≤12) <;> rfl
theorem B7e {s:ByteArray} (hs:s.size≤maxLen):A9s s=some (A4U s):=A7R hs
def Y7 {α:Type} (p:α→Bool):Nat→List α→Int
 | _,[]=>-1
 | i,x::l=>if p x then (i:Int) else Y7 p (i+1) l
theorem B1F {α:Type} (p:α→Bool) (l:List α):∀ i,(Y7 p i l<0)=(l.any p=false):=by
 induction l with
 | nil=>intro i; simp [Y7]
 | cons x l ih=>
  intro i
  simp only [Y7,List.any_cons]
  cases h:p x
  ·simp [ih]
  ·simp
theorem B1L {α:Type} (p:α→Bool) (l:List α) (i:Nat):(0≤Y7 p i l)=(l.any p=true):=by
 have:=B1F p l i
 cases h:l.any p
 ·rw [h] at this; simp at this ⊢; omega
 ·rw [h] at this; simp at this ⊢; omega
theorem C1q {α:Type} (p:α→Bool) (l:List α):∀ i,0≤Y7 p i l→∃ k:Nat,Y7 p i l=((i+k:Nat):Int)∧k<l.length:=by
 induction l with
 | nil=>intro i h; simp [Y7] at h
 | cons x l ih=>
  intro i h
  simp only [Y7] at h ⊢
  cases hp:p x
  ·simp only [hp] at h
   obtain ⟨k,e,hk⟩:=ih (i+1) (by simpa using h)
   exact ⟨k+1,by simp only [Bool.false_eq_true,if_false]; rw [e]; congr 1; omega,by simpa using hk⟩
  ·exact ⟨0,by simp,by simp⟩
theorem A9Y {α:Type} (p:α→Bool) (l:List α):∀ i,l.any p=false→Y7 p i l=-1:=by
 induction l with
 | nil=>intro i _; rfl
 | cons x l ih=>
  intro i hq
  simp only [List.any_cons,Bool.or_eq_false_iff] at hq
  simp only [Y7,hq.1,Bool.false_eq_true,if_false]
  exact ih (i+1) hq.2
theorem B9j {α:Type} (p:α→Bool) (l:List α):∀ i,A0M (λ(i:Nat) x=>if p x then some (.inr (i:Int)) else none) (.inl ():Unit⊕Int) i l=if l.any p then .inr (Y7 p i l) else .inl ():=by
 induction l with
 | nil=>intro i; rfl
 | cons x l ih=>
  intro i
  simp only [A0M,Y7,List.any_cons]
  by_cases h:p x=true <;> simp [h,ih]
theorem B1w {α:Type} {f:Int→Option (Int⊕(Unit⊕Int))} (l:List α) (p:α→Bool) (hl:l.length≤maxLen)
  (h1:∀ (i:Nat) x,l[i]?=some x→f i=some (if p x then .inr (.inr (i:Int)) else .inl ((i+1:Nat):Int))) (h2:f l.length=some (.inr (.inl ()))) :
  (iter f FUEL (0:Int)).bind (λo=>match o with | .inl _=>some (-1:Int) | .inr p=>some p)=some (Y7 p 0 l):=by
 rw [mx] at hl
 rw [A1t l (λi x=>if p x then some (.inr (i:Int)) else none) (.inl ()) (fuel hl) (λi x h=>by rw [h1 i x h]; cases p x <;> rfl) h2,B9j]
 cases hq:l.any p
 ·simp [A9Y p l 0 hq]
 ·simp
theorem D3A {l:List D7} (hl:l.length≤maxLen) {f:D7→Option Bool} {p:D7→Bool} (hf:∀ x,f x=some (p x)):A2k l f=some (Y7 p 0 l):=by
 unfold A2k
 refine B1w l p hl (λi x h=>?_) (by simp [A2g])
 have hi:=P5 h
 rw [mx] at hl
 simp only [A2g,J2 h,hf,Oz,Cd]
 rw [if_pos (by omega),H6 (by omega)]
 cases p x <;> simp
theorem D4K {l:List E9} (hl:l.length≤maxLen) {f:E9→Option Bool} {p:E9→Bool} (hf:∀ x,f x=some (p x)):A3R l f=some (Y7 p 0 l):=by
 unfold A3R
 refine B1w l p hl (λi x h=>?_) (by simp [A2h])
 have hi:=P5 h
 rw [mx] at hl
 simp only [A2h,J2 h,hf,Oz,Cd]
 rw [if_pos (by omega),H6 (by omega)]
 cases p x <;> simp
theorem B0z {p:C9} (hl:p.A7.length≤maxLen) (n:ByteArray):A0P p n=some (Y7 (λx=>decide (x.F8=n)) 0 p.A7):=by
 simp only [A0P,D4K hl (f:=λy0=>B2p y0 n) (λx=>rfl),Oz]
end Go.Pl
namespace Go.Pl
open Go Go.Sl Go.Dm
def M6 (t:D7):Int:=
 if t.P8=1 then (if t.fA<1∨24<t.fA∨t.fB≠0 then 0 else t.fA)
 else if t.P8=2 then (if t.fA<1∨11<t.fA∨t.fB<0∨2<t.fB then 0 else 2*t.fA+t.fB)
 else if t.P8=3 then (if t.fA<1∨8<t.fA∨t.fB<1∨8<t.fB then 0 else t.fA+2*t.fB)
 else if t.P8=4 then (if t.fA<1∨24<t.fA∨t.fB<0∨t.fA<t.fB then 0 else t.fA)
 else 0
theorem Y5 (t:D7):0≤M6 t∧M6 t≤24:=by
 unfold M6
 repeat' split
 all_goals omega
theorem C2g (a b:Int):A3t a b=some (if a<1∨24<a∨b≠0 then 0 else a):=by
 simp only [A3t,Cd]
 by_cases h1:a<1 <;> by_cases h2:24<a <;> by_cases h3:b=0 <;> simp [h1,h2,h3]
theorem C4i (a b:Int):A4m a b=some (if a<1∨11<a∨b<0∨2<b then 0 else 2*a+b):=by
 simp only [A4m,Cd]
 by_cases h1:a<1
 ·simp [h1]
 by_cases h2:11<a
 ·simp [h1,h2]
 by_cases h3:b<0
 ·simp [h1,h2,h3]
 by_cases h4:2<b
 ·simp [h1,h2,h3,h4]
 simp only [h1,h2,h3,h4,if_false,or_self]
 rw [A1p (by omega) (by omega)]
 simp only [Oz]
 rw [A1p (by omega) (by omega)]
 rfl
theorem C4l (a b:Int):A3U a b=some (if a<1∨8<a∨b<1∨8<b then 0 else a+2*b):=by
 simp only [A3U,Cd]
 by_cases h1:a<1
 ·simp [h1]
 by_cases h2:8<a
 ·simp [h1,h2]
 by_cases h3:b<1
 ·simp [h1,h2,h3]
 by_cases h4:8<b
 ·simp [h1,h2,h3,h4]
 simp only [h1,h2,h3,h4,if_false,or_self]
 rw [A1p (by omega) (by omega)]
 simp only [Oz]
 rw [A1p (by omega) (by omega)]
 rfl
theorem C4W (a b:Int):A5s a b=some (if a<1∨24<a∨b<0∨a<b then 0 else a):=by
 simp only [A5s,Cd]
 by_cases h1:a<1 <;> by_cases h2:24<a <;> by_cases h3:b<0 <;> by_cases h4:a<b <;> simp [h1,h2,h3,h4]
theorem A2i (t:D7):A2N t=some (M6 t):=by
 simp only [A2N,X5,B1z,Cd,M6]
 by_cases h1:t.P8=1
 ·simp [h1,C2g]
 by_cases h2:t.P8=2
 ·simp [h2,C4i]
 by_cases h3:t.P8=3
 ·simp [h3,C4l]
 by_cases h4:t.P8=4
 ·simp [h4,C4W]
 simp [h1,h2,h3,h4]
def B0j (n:Int):Int→List Int→Bool
 | _,[]=>true
 | last,k::l=>decide (last<k) && decide (k<n) && B0j n k l
def A5L (t:D7):Int:=
 if A4U t.F8=false then 4 else if M6 t=0 then 10 else if B0j (M6 t) (-1) t.A2Y=false then 11
 else if t.fX<0∨1000<t.fX∨t.fY<0∨1000<t.fY then 2 else 0
theorem C7S {t:D7} (n:Int) (hl:t.A2Y.length≤maxLen):iter (A1z t n) FUEL ((0:Int),(-1:Int))=some (if B0j n (-1) t.A2Y then .inl () else .inr 11):=by
 rw [mx] at hl
 have:=A7p (f:=A1z t n) (λ(a:Int) (i:Nat)=>((i:Int),a)) t.A2Y (λa i x=>if a<x∧x<n then .inl x else .inr (.inr 11)) (λ_=>.inl ()) (λ_ _=>True) (a:=-1) trivial (n:=FUEL) (fuel (by omega))
  (λa i x h _=>by
   have hi:=P5 h
   have hr:=H6 (n:=i) (by omega)
   have hlt:(i:Int)<(t.A2Y.length:Int):=by omega
   by_cases hc:a<x∧x<n
   ·have h1:¬ x≤a:=by omega
    have h2:¬ n≤x:=by omega
    simp only [if_pos hc]
    exact ⟨by simp only [A1z,J2 h,hr,Oz,Cd,if_pos hlt,if_neg h1,if_neg h2],trivial⟩
   ·simp only [if_neg hc]
    by_cases h1:x≤a
    ·simp only [A1z,J2 h,hr,Oz,Cd,if_pos hlt,if_pos h1]
    ·have h2:n≤x:=by omega
     simp only [A1z,J2 h,hr,Oz,Cd,if_pos hlt,if_neg h1,if_pos h2])
  (λa _=>by simp [A1z])
 rw [show ((0:Int),(-1:Int))=(λ(a:Int) (i:Nat)=>((i:Int),a)) (-1) 0 from rfl,this]
 have key:∀ (l:List Int) (a:Int) (i:Nat),A7k (λ(a:Int) (i:Nat) (x:Int)=>if a<x∧x<n then Sum.inl x else Sum.inr (Sum.inr 11)) (λ_=>Sum.inl ()) a i l=(if B0j n a l then .inl () else .inr 11:Unit⊕Int):=by
  intro l
  induction l with
  | nil=>intro a i; rfl
  | cons x l ih=>
   intro a i
   by_cases hx:a<x∧x<n
   ·simp [A7k,B0j,hx,ih]
   ·by_cases h1:a<x
    ·have:¬ x<n:=λq=>hx ⟨h1,q⟩
     simp [A7k,B0j,this]
    ·simp [A7k,B0j,h1]
 rw [key]
def OkT (t:D7):Prop:=t.F8.size≤maxLen∧t.A2Y.length≤maxLen
theorem B1p {t:D7} (h:OkT t):A5T t=some (A5L t):=by
 simp only [A5T,B5f,A2i,C3y h.1,C7S _ h.2,Oz,Cd,A5L]
 cases A4U t.F8
 ·simp
 by_cases h0:M6 t=0
 ·simp [h0]
 cases B0j (M6 t) (-1) t.A2Y
 ·simp [h0]
 by_cases h1:t.fX<0 <;> by_cases h2:1000<t.fX <;> by_cases h3:t.fY<0 <;> by_cases h4:1000<t.fY <;> simp [h0,h1,h2,h3,h4]
end Go.Pl
namespace Go.Pl
open Go Go.Sl Go.Dm
theorem B0a {α:Type} {l:List α} {i:Nat} (h:i≤l.length):sbL l 0 (i:Int)=some (l.take i):=by
 have:sbL l 0 (i:Int)=(bif Nat.ble 0 i && Nat.ble i l.length then some (Sl.sub l 0 i) else none):=rfl
 rw [this,show Nat.ble 0 i=true from Nb (Nat.zero_le _),Nb h]
 simp [Sl.sub]
theorem C8j {τ R:Type} (bad:Nat→τ→Option (Unit⊕R)) (hb:∀ i x r,bad i x=some r→∃ q,r=.inr q):∀ (xs:List τ) (i:Nat),A0M bad (.inl ()) i xs=.inl ()→∀ k x,xs[k]?=some x→bad (i+k) x=none:=by
 intro xs
 induction xs with
 | nil=>intro i _ k x h; simp at h
 | cons y xs ih=>
  intro i h k x hk
  simp only [A0M] at h
  cases hy:bad i y with
  | some r=>
   rw [hy] at h
   obtain ⟨q,rfl⟩:=hb _ _ _ hy
   cases h
  | none=>
   rw [hy] at h
   cases k with
   | zero=>simp at hk; subst hk; exact hy
   | succ k=>
    have:=ih (i+1) h k x (by simpa using hk)
    rwa [show i+(k+1)=i+1+k by omega]
def B6a (l:List D7) (i:Nat) (x:D7):Option (Unit⊕(Int×Int)):=
 if A5L x≠0 then some (.inr ((i:Int),A5L x)) else if (l.take i).any (λy=>decide (y.F8=x.F8)) then some (.inr ((i:Int),5)) else none
def C9A:Unit⊕(Int×Int)→Int×Int
 | .inl _=>(0,0)
 | .inr p=>p
def A8T (l:List D7):Int×Int:=if 16<l.length then (0,7) else C9A (A0M (B6a l) (.inl ()) 0 l)
def B7O (l:List D7):Prop:=l.length≤maxLen∧∀ t∈l,OkT t
theorem A0C {α:Type} {l:List α} {i:Nat} {x:α} (h:l[i]?=some x):x∈l:=by
 obtain ⟨hi,rfl⟩:=List.getElem?_eq_some_iff.1 h
 exact Gm hi
theorem B1S {l:List D7} (h:B7O l):A5w l=some (A8T l):=by
 have hl:=h.1
 rw [mx] at hl
 simp only [A5w,A8T,Cd]
 by_cases h16:16<l.length
 ·have:(16:Int)<(l.length:Int):=by omega
  simp [h16,this]
 have n16:¬ (16:Int)<(l.length:Int):=by omega
 rw [if_neg n16,if_neg h16,A1t l (B6a l) (.inl ()) (fuel (by omega)) (λi x hx=>by
   have hi:=P5 hx
   simp only [A4J,J2 hx,B1p (h.2 x (A0C hx)),B0a (Nat.le_of_lt hi),Oz,Cd,A4a,
    D3A (l:=l.take i) (by rw [mx]; simp; omega) (f:=λy0=>A6D y0 x) (p:=λy=>decide (y.F8=x.F8)) (λy=>rfl),B1L]
   rw [if_pos (by omega),H6 (by omega)]
   unfold B6a
   by_cases h1:A5L x=0
   ·cases h2:(l.take i).any (λy=>decide (y.F8=x.F8)) <;> simp [h1,h2]
   ·simp [h1]) (by simp [A4J])]
 cases A0M (B6a l) (.inl ()) 0 l <;> rfl
theorem D2W (l:List D7):∀ i x r,B6a l i x=some r→∃ q,r=.inr q:=by
 intro i x r h
 unfold B6a at h
 split at h
 ·cases h; exact ⟨_,rfl⟩
 ·split at h
  ·cases h; exact ⟨_,rfl⟩
  ·cases h
theorem D1z (l:List D7):∀ (xs:List D7) (i:Nat),(C9A (A0M (B6a l) (.inl ()) i xs)).2=0→A0M (B6a l) (.inl ()) i xs=.inl ():=by
 intro xs
 induction xs with
 | nil=>intro i _; rfl
 | cons x xs ih=>
  intro i h
  simp only [A0M] at h ⊢
  cases hb:B6a l i x with
  | none=>rw [hb] at h; exact ih (i+1) h
  | some r=>
   rw [hb] at h
   exfalso
   unfold B6a at hb
   split at hb
   ·rename_i hc
    cases hb; exact hc h
   ·split at hb
    ·cases hb; simp [C9A] at h
    ·cases hb
theorem B9Q {l:List D7} (h:(A8T l).2=0):l.length≤16∧∀ t∈l,A5L t=0:=by
 unfold A8T at h
 by_cases h16:16<l.length
 ·simp [h16] at h
 rw [if_neg h16] at h
 refine ⟨by omega,λt ht=>?_⟩
 obtain ⟨k,hk⟩:=List.getElem?_of_mem ht
 have:=C8j (B6a l) (D2W l) l 0 (D1z l l 0 h) k t hk
 unfold B6a at this
 by_cases h0:A5L t=0
 ·exact h0
 ·simp [h0] at this
theorem A8a {l:List D7} (h:B7O l):A3q l=some (decide ((A8T l).2=0)):=by
 simp only [A3q,B1S h,Oz]
def R8 (l:List D7):Int:=(l.map M6).sum
theorem A2I (l:List D7):0≤R8 l∧R8 l≤24*l.length:=by
 induction l with
 | nil=>simp [R8]
 | cons t l ih=>
  have:=Y5 t
  simp only [R8,List.map_cons,List.sum_cons,Lc] at ih ⊢
  omega
theorem C0L (l:List D7):∀ (a:Int) (i:Nat),A7k (λ(a:Int) (i:Nat) (x:D7)=>(Sum.inl (a+M6 x):Int⊕Int)) (λa=>a) a i l=a+R8 l:=by
 induction l with
 | nil=>intro a i; simp [A7k,R8]
 | cons x l ih=>
  intro a i
  simp only [A7k,ih,R8,List.map_cons,List.sum_cons]
  omega
theorem A8H (l:List D7) (i:Nat) {x:D7} (h:l[i]?=some x):R8 (l.take (i+1))=R8 (l.take i)+M6 x:=by
 obtain ⟨hi,rfl⟩:=List.getElem?_eq_some_iff.1 h
 rw [List.take_add_one,Lg hi]
 simp only [R8,Option.toList,List.map_append,List.sum_append,List.map_cons,List.map_nil,List.sum_cons,List.sum_nil,Int.add_zero]
theorem C0D {l:List D7} (hl:l.length≤16):iter (A3I l) FUEL ((0:Int),(0:Int))=some (R8 l):=by
 have:=A7p (f:=A3I l) (λ(a:Int) (i:Nat)=>((i:Int),a)) l (λa i x=>.inl (a+M6 x)) (λa=>a) (λa i=>a=R8 (l.take i)) (a:=0) (by simp [R8]) (n:=FUEL) (fuel (by omega))
  (λa i x h hI=>by
   have hi:=P5 h
   have b1:=A2I (l.take i)
   have b2:=Y5 x
   simp only [List.length_take] at b1
   simp only [A3I,J2 h,A2i,Oz,Cd]
   rw [if_pos (by omega),H6 (by omega),A1p (by omega) (by omega)]
   exact ⟨rfl,by rw [A8H l i h,hI]⟩)
  (λa _=>by simp [A3I])
 rw [show ((0:Int),(0:Int))=(λ(a:Int) (i:Nat)=>((i:Int),a)) 0 0 from rfl,this,C0L]
 simp
theorem B1o {l:List D7} (h:B7O l) (hc:(A8T l).2=0):A2u l=some (R8 l):=by
 have hl:=(B9Q hc).1
 simp only [A2u,A8a h,hc,Oz,decide_true,Bq,Cn]
 rw [A1p (by omega) (by omega)]
 simp only [Oz]
 cases l with
 | nil=>simp [A2n,A7U,R8]; rfl
 | cons t l=>
  generalize hL:t::l=L at *
  have hne:0<L.length:=by rw [←hL]; simp
  have hlast:(L.length:Int) - 1=((L.length - 1:Nat):Int):=by omega
  have hx:=Lg (show L.length - 1<L.length by omega)
  have b1:=A2I (L.take (L.length - 1))
  have b2:=Y5 L[L.length - 1]
  have b3:(L.take (L.length - 1)).length≤16:=by simp; omega
  have hs:=A8H L (L.length - 1) hx
  rw [show L.length - 1+1=L.length by omega,List.take_length] at hs
  rw [hlast]
  simp only [A2n,A7U,A8a h,hc,B0a (show L.length - 1≤L.length by omega),C0D b3,Oz,Cd]
  rw [if_neg (by omega),if_neg (by omega),if_neg (by omega),hlast,A1p (by omega) (by omega)]
  simp only [decide_true,Bq,Cn,Oz,J2 hx,A2i]
  rw [A1p (by omega) (by omega),hs]
  rfl
end Go.Pl
namespace Go.Pl
open Go Go.Sl Go.Dm
def U3 {τ R:Type} (bad:Nat→τ→Option R):Nat→List τ→Option R
 | _,[]=>none
 | i,x::xs=>match bad i x with
  | some r=>some r
  | none=>U3 bad (i+1) xs
def toE {R:Type}:Option R→Unit⊕R
 | none=>.inl ()
 | some r=>.inr r
theorem C0v {τ R:Type} {f:Int→Option (Int⊕(Unit⊕R))} (xs:List τ) (bad:Nat→τ→Option R) (hn:xs.length≤maxLen)
  (h1:∀ (i:Nat) x,xs[i]?=some x→f i=some (match bad i x with | some r=>.inr (.inr r) | none=>.inl ((i+1:Nat):Int))) (h2:f xs.length=some (.inr (.inl ()))) :
  iter f FUEL (0:Int)=some (toE (U3 bad 0 xs)):=by
 rw [mx] at hn
 rw [A1t xs (λi x=>(bad i x).map Sum.inr) (.inl ()) (fuel hn) (λi x hx=>by rw [h1 i x hx]; cases bad i x <;> rfl) h2]
 have key:∀ (ys:List τ) (i:Nat),A0M (λi x=>(bad i x).map Sum.inr) (.inl ()) i ys=toE (U3 bad i ys):=by
  intro ys
  induction ys with
  | nil=>intro i; rfl
  | cons y ys ih=>
   intro i
   simp only [A0M,U3]
   cases bad i y with
   | none=>exact ih (i+1)
   | some r=>rfl
 rw [key]
theorem C5g {σ ρ τ R:Type} {f:σ→Option (σ⊕ρ)} (xs:List τ) (bad:Nat→τ→Option R) (St:σ→Nat→Prop) (Er:R→ρ) (Fin:ρ→Prop)
  (h1:∀ s (i:Nat) x,xs[i]?=some x→St s i→match bad i x with | some r=>f s=some (.inr (Er r)) | none=>∃ s',f s=some (.inl s')∧St s' (i+1))
  (h2:∀ s,St s xs.length→∃ o,f s=some (.inr o)∧Fin o) :
  ∀ (n k:Nat) (s:σ),St s k→k≤xs.length→xs.length - k<n→match U3 bad k (xs.drop k) with | some r=>iter f n s=some (Er r) | none=>∃ o,iter f n s=some o∧Fin o:=by
 intro n
 induction n with
 | zero=>intro k s _ _ h; omega
 | succ n ih=>
  intro k s hs hk hn
  by_cases hl:k=xs.length
  ·subst hl
   obtain ⟨o,ho,hf⟩:=h2 s hs
   simp only [List.drop_length,U3]
   exact ⟨o,by simp only [iter,ho,Oz],hf⟩
  ·have hlt:k<xs.length:=by omega
   have:=h1 s k _ (Lg hlt) hs
   rw [Dc hlt]
   simp only [U3]
   cases hb:bad k xs[k] with
   | some r=>
    rw [hb] at this
    simp only [iter,this,Oz]
   | none=>
    rw [hb] at this
    obtain ⟨s',e,hs'⟩:=this
    have:=ih (k+1) s' hs' (by omega) (by omega)
    simp only [iter,e,Oz]
    exact this
theorem L6 {σ ρ:Type} {f:σ→Option (σ⊕ρ)} (I:σ→Prop) (μ:σ→Nat) (Q:ρ→Prop)
  (h:∀ s,I s→(∃ s',f s=some (.inl s')∧I s'∧μ s'<μ s)∨∃ r,f s=some (.inr r)∧Q r):∀ n s,I s→μ s<n→∃ r,iter f n s=some r∧Q r:=by
 intro n
 induction n with
 | zero=>intro s _ h; omega
 | succ n ih=>
  intro s hs hn
  rcases h s hs with ⟨s',e,hi,hm⟩ | ⟨r,e,hq⟩
  ·obtain ⟨r,hr,hq⟩:=ih s' hi (by omega)
   exact ⟨r,by simp only [iter,e,Oz]; exact hr,hq⟩
  ·exact ⟨r,by simp only [iter,e,Oz],hq⟩
theorem C3A (a b:ByteArray):sLt a b=decide (a.data.toList<b.data.toList):=by
 rw [sLt,Lib.toList_data,Lib.toList_data,C5i]
theorem C9W {a b:ByteArray} (h:a.data.toList=b.data.toList):a=b:=by
 cases a; cases b; simp only [ByteArray.mk.injEq]; exact Array.toList_inj.1 h
theorem D0x:∀ x y:List UInt8,x<y∨x=y∨y<x
 | [],[]=>.inr (.inl rfl)
 | [],_::_=>.inl (by simp)
 | _::_,[]=>.inr (.inr (by simp))
 | a::x,b::y=>by
  simp only [List.cons_lt_cons_iff,List.cons.injEq]
  by_cases h1:a<b
  ·exact .inl (.inl h1)
  ·by_cases h2:b<a
   ·exact .inr (.inr (.inl h2))
   ·have:a=b:=UInt8.le_antisymm (UInt8.not_lt.1 h2) (UInt8.not_lt.1 h1)
    subst this
    rcases D0x x y with h | h | h
    ·exact .inl (.inr ⟨rfl,h⟩)
    ·exact .inr (.inl ⟨rfl,h⟩)
    ·exact .inr (.inr (.inr ⟨rfl,h⟩))
theorem C9m:∀ x:List UInt8,¬ x<x
 | []=>by simp
 | a::x=>by
  simp only [List.cons_lt_cons_iff]
  rintro (h | ⟨_,h⟩)
  ·exact UInt8.lt_irrefl _ h
  ·exact C9m x h
theorem lt_trans:∀ {x y z:List UInt8},x<y→y<z→x<z
 | [],_::_,[],_,h=>by simp at h
 | [],_,_::_,_,_=>by simp
 | [],[],[],h,_=>h
 | _::_,[],_,h,_=>by simp at h
 | _::_,_::_,[],_,h=>by simp at h
 | a::x,b::y,c::z,h,k=>by
  simp only [List.cons_lt_cons_iff] at h k ⊢
  rcases h with h | ⟨rfl,h⟩
  ·rcases k with k | ⟨rfl,k⟩
   ·exact .inl (UInt8.lt_trans h k)
   ·exact .inl h
  ·rcases k with k | ⟨rfl,k⟩
   ·exact .inl k
   ·exact .inr ⟨rfl,lt_trans h k⟩
theorem B4P (a:ByteArray):sLt a a=false:=by rw [C3A]; simpa using C9m _
theorem B8y {a b c:ByteArray} (h:sLt a b=true) (k:sLt b c=true):sLt a c=true:=by
 rw [C3A,Dq] at *
 exact lt_trans h k
theorem C7E (a b:ByteArray):sLt a b=true∨a=b∨sLt b a=true:=by
 simp only [C3A,Dq]
 rcases D0x a.data.toList b.data.toList with h | h | h
 ·exact .inl h
 ·exact .inr (.inl (C9W h))
 ·exact .inr (.inr h)
theorem C7v (a b:ByteArray):(B9t a b<0)↔sLt a b=true:=by
 rw [C3A,Dq]; exact C9w _ _
def A3Z (s:ByteArray):Bool:=decide (s=(⟨#[]⟩:ByteArray)) || A4U s
theorem B1n {s:ByteArray} (hs:s.size≤maxLen):A7q s=some (A3Z s):=by
 simp only [A7q,A7R hs,Oz,A3Z]
 cases decide (s=(⟨#[]⟩:ByteArray)) <;> rfl
def C0o (l:List ByteArray) (i:Nat) (x:ByteArray):Option Int:=
 if A4U x=true∧(i=0∨sLt (l.getD (i - 1) ⟨#[]⟩) x=true) then none else some 22
structure OkG (g:E9):Prop where
 name:g.F8.size≤maxLen
 rank:g.A2b.size≤maxLen
 court:g.V6.size≤maxLen
 diet:g.A0z.size≤maxLen
 C9P:g.O6.length≤maxLen
 ton:∀ s∈g.O6,s.size≤maxLen
theorem B3Z {α:Type} {l:List α} {i:Nat} (d:α) (hi:i<l.length) (h0:i≠0):l[i - 1]?=some (l.getD (i - 1) d):=by
 rw [List.getD_eq_getElem?_getD,Lg (show i - 1<l.length by omega)]; rfl
theorem C8Q {g:E9} (h:OkG g):iter (A4i g) FUEL (0:Int)=some (toE (U3 (C0o g.O6) 0 g.O6)):=by
 have hl:=h.C9P
 rw [mx] at hl
 refine C0v g.O6 _ h.C9P (λi x hx=>?_) (by simp [A4i])
 have hi:=P5 hx
 have hr:=H6 (n:=i) (by omega)
 have hlt:(i:Int)<(g.O6.length:Int):=by omega
 simp only [A4i,B4f,J2 hx,A7R (h.ton x (A0C hx)),hr,Oz,Cd,if_pos hlt]
 unfold C0o
 cases A4U x
 ·simp
 by_cases h0:i=0
 ·subst h0; simp
 have hp:(0:Int)<i:=by omega
 have hc:((i:Int) - 1)=((i - 1:Nat):Int):=by omega
 rw [if_pos hp,hc,A1p (x:=((i - 1:Nat):Int)) (by omega) (by omega)]
 simp only [Oz,J2 (B3Z ⟨#[]⟩ hi h0),h0,false_or]
 cases sLt (g.O6.getD (i - 1) ⟨#[]⟩) x <;> simp
def A9X (g:E9):Int:=
 if (A4U g.F8 && A3Z g.A2b && A3Z g.V6 && A3Z g.A0z)=false then 4
 else if g.A0o<0∨9999<g.A0o then 21
 else if g.A0y<0∨2<g.A0y then 20
 else if 4<g.O6.length then 22
 else (U3 (C0o g.O6) 0 g.O6).getD 0
theorem C0j {g:E9} (h:OkG g):B0F g=some (A9X g):=by
 simp only [B0F,B3O,A7R h.name,B1n h.rank,B1n h.court,B1n h.diet,C8Q h,Oz,A9X]
 cases A4U g.F8 <;> cases A3Z g.A2b <;> cases A3Z g.V6 <;> cases A3Z g.A0z
 all_goals simp only [Bp,Bq,Cy,Cn,Oz,Bool.true_and,Bool.false_and,Bool.and_false,Bool.and_true,if_true,Bool.true_eq_false,if_false]
 have e4:((4:Int)<(g.O6.length:Int))↔4<g.O6.length:=by omega
 simp only [Cd,e4]
 by_cases h1:g.A0o<0 <;> by_cases h2:9999<g.A0o <;> simp only [h1,h2,if_true,if_false,Oz,decide_true,decide_false,Cy,Cn,true_or,or_true,or_self]
 by_cases h3:g.A0y<0 <;> by_cases h4:2<g.A0y <;> simp only [h3,h4,if_true,if_false,Oz,decide_true,decide_false,Cy,Cn,true_or,or_true,or_self]
 by_cases h5:4<g.O6.length
 ·simp only [h5,if_true]
 ·simp only [h5,if_false]
  cases U3 (C0o g.O6) 0 g.O6 <;> rfl
end Go.Pl
namespace Go.Pl
open Go Go.Sl Go.Dm
def B1s (gs:List E9) (i:Nat) (g:E9):Option (Int×Int):=
 if A9X g≠0 then some ((i:Int),A9X g) else if (gs.take i).any (λy=>decide (y.F8=g.F8)) then some ((i:Int),5) else if 64≤i then some ((i:Int),7) else none
theorem C0m {g:E9} (h:A9X g=0):g.O6.length≤4:=by
 unfold A9X at h
 split at h
 ·omega
 split at h
 ·omega
 split at h
 ·omega
 split at h
 ·omega
 omega
theorem C3b {g:E9} (h:g.O6.length≤4):A9o g=some g:=by
 have:apL ([]:List ByteArray) g.O6=some g.O6:=by
  unfold apL
  rw [show Nat.ble (([]:List ByteArray).length+g.O6.length) 1073741824=true from Nb (by simp; omega)]
  rfl
 simp only [A9o,A3X,this,Oz]
theorem V4 {α:Type} {l:List α} {x:α} (h:l.length≤1000):apL l [x]=some (l++[x]):=by
 unfold apL
 rw [show Nat.ble (l.length+[x].length) 1073741824=true from Nb (by simp; omega)]
 rfl
theorem A9q {κ α:Type} [DecidableEq κ] (m:List (κ×α)) (k:κ) (x:α) (k':κ):A4c (A2z m k x) k'=if k'=k then some x else A4c m k':=by
 induction m with
 | nil=>
  simp only [A2z,A4c,Cd]
 | cons p m ih=>
  obtain ⟨q,y⟩:=p
  simp only [A2z]
  by_cases hk:k=q
  ·subst hk
   simp only [decide_true,Cy,A4c,Cd]
   by_cases h:k'=k <;> simp [h]
  ·simp only [hk,decide_false,Cn,A4c,Cd,ih]
   by_cases h1:k'=q
   ·subst h1
    have:¬ k'=k:=λe=>hk e.symm
    simp [this]
   ·simp [h1]
def Knows (m:List (ByteArray×Int)) (gs:List E9):Prop:=(∀ n,(A4c m n).isSome=gs.any (λy=>decide (y.F8=n)))∧∀ n v,A4c m n=some v→∃ k:Nat,v=(k:Int)∧k<gs.length
theorem C2V {m:List (ByteArray×Int)} {gs:List E9} (h:Knows m gs) (n:ByteArray) (z:Int):∃ v,lkM m n z=some (v,gs.any (λy=>decide (y.F8=n))):=by
 unfold lkM
 have:=h.1 n
 cases hm:A4c m n with
 | none=>rw [hm] at this; exact ⟨z,by rw [←this]; rfl⟩
 | some x=>rw [hm] at this; exact ⟨x,by rw [←this]; rfl⟩
theorem C8P {gs:List E9} {i:Nat} {g:E9} (h:gs[i]?=some g) (n:ByteArray):(gs.take (i+1)).any (λy=>decide (y.F8=n))=((gs.take i).any (λy=>decide (y.F8=n)) || decide (g.F8=n)):=by
 obtain ⟨hi,rfl⟩:=List.getElem?_eq_some_iff.1 h
 rw [List.take_add_one,Lg hi]
 simp only [List.any_append,Option.toList,List.any_cons,List.any_nil,Bool.or_false]
theorem B1C {α:Type} {l:List α} {i:Nat} {x:α} (h:l[i]?=some x):l.take (i+1)=l.take i++[x]:=by
 obtain ⟨hi,rfl⟩:=List.getElem?_eq_some_iff.1 h
 rw [List.take_add_one,Lg hi]
 rfl
structure OkR (r:Q5):Prop where
 gs:r.A7.length≤maxLen
 g:∀ g∈r.A7,OkG g
 ts:r.N7.length≤maxLen
theorem C0t {r:Q5} (h:OkR r) :
  match U3 (B1s r.A7) 0 r.A7 with
  | some p=>iter (A2o r) FUEL (([]:List E9),([]:List H9),([]:List (ByteArray×Int)),(0:Int))=some (.inr (none,p.1,p.2))
  | none=>∃ o,iter (A2o r) FUEL (([]:List E9),([]:List H9),([]:List (ByteArray×Int)),(0:Int))=some o∧∃ m,o=.inl (r.A7,[],m)∧Knows m r.A7:=by
 have hl:=h.gs
 rw [mx] at hl
 have:=C5g (f:=A2o r) r.A7 (B1s r.A7) (λs i=>i≤64∧∃ m,s=(r.A7.take i,[],m,(i:Int))∧Knows m (r.A7.take i)) (λp=>.inr (none,p.1,p.2))
  (λo=>∃ m,o=.inl (r.A7,[],m)∧Knows m r.A7)
  (λs i g hg hs=>by
   obtain ⟨h64,m,rfl,hm⟩:=hs
   have hi:=P5 hg
   have hr:=H6 (n:=i) (by omega)
   have hlt:(i:Int)<(r.A7.length:Int):=by omega
   have hlen:(r.A7.take i).length=i:=by simp; omega
   obtain ⟨v,hv⟩:=C2V hm g.F8 0
   simp only [A2o,J2 hg,C0w,A4t,C0j (h.g g (A0C hg)),Oz,Cd,if_pos hlt,Cn]
   unfold B1s
   by_cases h0:A9X g=0
   ·have hton:=C0m h0
    simp only [h0,decide_true,Bq,Cn,B8U,hv,Oz,ne_eq,not_true,if_false]
    cases ha:(r.A7.take i).any (λy=>decide (y.F8=g.F8))
    ·simp only [Cn,Bool.false_eq_true,if_false,hlen,Cd]
     by_cases h6:64≤i
     ·have:(i:Int)=64:=by omega
      simp [this,h6]
     ·have:¬ (i:Int)=64:=by omega
      simp only [this,if_false,h6,Oz,C3b hton,V4 (show (r.A7.take i).length≤1000 by omega),decide_true,Bq,Cn,hr]
      refine ⟨_,rfl,by omega,A2z m g.F8 (i:Int),?_,?_⟩
      ·rw [B1C hg]
      ·refine ⟨λn=>?_,λn v hv=>?_⟩
       rotate_left
       ·rw [A9q] at hv
        rw [List.length_take]
        split at hv
        ·cases hv; exact ⟨i,rfl,by omega⟩
        ·obtain ⟨k,e,hk⟩:=hm.2 n v hv
         exact ⟨k,e,by omega⟩
       rw [A9q,C8P hg]
       have:=hm.1 n
       by_cases hn:n=g.F8
       ·subst hn; simp
       ·have hn':¬ g.F8=n:=λe=>hn e.symm
        simp [hn,hn',this]
    ·simp
   ·simp [h0])
  (λs hs=>by
   obtain ⟨_,m,rfl,hm⟩:=hs
   rw [List.take_length] at hm
   refine ⟨.inl (r.A7,[],m),by simp [A2o],m,rfl,hm⟩)
  FUEL 0 ([],[],[],0) ⟨by omega,[],by simp,λn=>by simp [A4c],λn v h=>by cases h⟩ (Nat.zero_le _) (fuel (by omega))
 rw [List.drop_zero] at this
 cases hF:U3 (B1s r.A7) 0 r.A7 with
 | some p=>rw [hF] at this; exact this
 | none=>rw [hF] at this; exact this
def tLt (a b:H9):Bool:=sLt a.fA b.fA || (decide (a.fA=b.fA) && sLt a.fB b.fB)
def B1y (a b:H9):Int:=if B9t a.fA b.fA=0 then B9t a.fB b.fB else B9t a.fA b.fA
theorem B4g (a b:H9):A1a a b=some (B1y a b):=by
 simp only [A1a,strings_Compare,bytealg_CompareString,Oz,B1y]
 by_cases h:B9t a.fA b.fA=0 <;> simp [h]
theorem C4e (a b:H9):(B1y a b<0)↔tLt a b=true:=by
 unfold B1y tLt
 by_cases h:B9t a.fA b.fA=0
 ·have e:=(B3N _ _).1 h
  rw [if_pos h,C7v]
  simp [e,B4P]
 ·have e:¬ a.fA=b.fA:=λq=>h ((B3N _ _).2 q)
  rw [if_neg h,C7v]
  simp [e]
theorem C5f (a b:H9):(B1y a b=0)↔(a.fA=b.fA∧a.fB=b.fB):=by
 unfold B1y
 by_cases h:B9t a.fA b.fA=0
 ·rw [if_pos h,B3N]
  have:=(B3N _ _).1 h
  simp [this]
 ·rw [if_neg h]
  have:¬ a.fA=b.fA:=λq=>h ((B3N _ _).2 q)
  simp [h,this]
theorem C3c {a b c:H9} (h:tLt a b=true) (k:tLt b c=true):tLt a c=true:=by
 simp only [tLt,Bool.or_eq_true,Ba,Dq] at *
 rcases h with h | ⟨h1,h2⟩
 ·rcases k with k | ⟨k1,k2⟩
  ·exact .inl (B8y h k)
  ·exact .inl (k1 ▸ h)
 ·rcases k with k | ⟨k1,k2⟩
  ·exact .inl (h1 ▸ k)
  ·exact .inr ⟨h1.trans k1,B8y h2 k2⟩
theorem C7i (a b:H9):tLt a b=true∨(a.fA=b.fA∧a.fB=b.fB)∨tLt b a=true:=by
 simp only [tLt,Bool.or_eq_true,Ba,Dq]
 rcases C7E a.fA b.fA with h | h | h
 ·exact .inl (.inl h)
 ·rcases C7E a.fB b.fB with k | k | k
  ·exact .inl (.inr ⟨h,k⟩)
  ·exact .inr (.inl ⟨h,k⟩)
  ·exact .inr (.inr (.inr ⟨h.symm,k⟩))
 ·exact .inr (.inr (.inl h))
theorem C3O {a b:H9} (h1:a.fA=b.fA) (h2:a.fB=b.fB):tLt a b=false:=by
 simp [tLt,h1,h2,B4P]
theorem C0I {a b:H9} (h:tLt a b=true):tLt b a=false:=by
 cases k:tLt b a with
 | false=>rfl
 | true=>have:=C3c h k; rw [C3O rfl rfl] at this; cases this
theorem wrap_u64 {x:Int} (h:0≤x) (h':x≤18446744073709551615):IntKind.u64.wrap x=x:=by
 simp [IntKind.wrap,IntKind.bits,IntKind.signed]; omega
theorem wrap_i64 {x:Int} (h:0≤x) (h':x≤9223372036854775807):IntKind.i64.wrap x=x:=by
 have:IntKind.i64.wrap x=if x % 18446744073709551616 ≥ 9223372036854775808 then x % 18446744073709551616 - 18446744073709551616 else x % 18446744073709551616:=by
  simp [IntKind.wrap,IntKind.bits,IntKind.signed]
 rw [this]
 split <;> omega
theorem C4J {L:List H9} {q:H9} {m:Nat} (hm:m≤L.length) (hL:L.length≤1000) (lo:∀ k x,L[k]?=some x→k<m→B1y x q<0) (hi:∀ k x,L[k]?=some x→m≤k→¬ B1y x q<0) :
  iter (A0V L q A1a) FUEL ((L.length:Int),(0:Int))=some (m:Int):=by
 have:=L6 (f:=A0V L q A1a) (λs=>∃ j i:Nat,s=((j:Int),(i:Int))∧i≤m∧m≤j∧j≤L.length) (λs=>(s.1 - s.2).toNat) (λr=>r=(m:Int))
  (λs hs=>by
   obtain ⟨j,i,rfl,h1,h2,h3⟩:=hs
   by_cases hc:i<j
   ·left
    have hlt:(i:Int)<(j:Int):=by omega
    have hmid:(i+j) / 2<L.length:=by omega
    have hx:=Lg hmid
    have hs:A3S .u64 ((i+j:Nat):Int) (1:Int)=some (((i+j) / 2:Nat):Int):=by
     show (bif Nat.ble 1 (IntKind.u64.bits) then some (Int.ofNat ((i+j) / 2 ^ 1)) else none)=_
     rw [show Nat.ble 1 (IntKind.u64.bits)=true from rfl,Nat.pow_one]
     rfl
    have hsum:(i:Int)+(j:Int)=((i+j:Nat):Int):=by omega
    have e1:A0Q .u64 ((i+j:Nat):Int)=some ((i+j:Nat):Int):=by
     unfold A0Q; rw [wrap_u64 (by omega) (by omega)]; simp
    have e2:A0Q .i64 (((i+j) / 2:Nat):Int)=some (((i+j) / 2:Nat):Int):=by
     unfold A0Q; rw [wrap_i64 (by omega) (by omega)]; simp
    simp only [A0V,hsum,A1p (x:=((i+j:Nat):Int)) (by omega) (by omega),e1,hs,e2,J2 hx,B4g,Oz,Cd,if_pos hlt]
    by_cases ho:B1y L[(i+j) / 2] q<0
    ·have:(i+j) / 2<m:=by
      apply Classical.byContradiction
      intro hn
      exact hi _ _ hx (by omega) ho
     rw [if_pos ho,H6 (by omega)]
     refine ⟨_,rfl,⟨j,(i+j) / 2+1,rfl,by omega,by omega,by omega⟩,?_⟩
     simp only
     omega
    ·have:m≤(i+j) / 2:=by
      apply Classical.byContradiction
      intro hn
      exact ho (lo _ _ hx (by omega))
     rw [if_neg ho]
     refine ⟨_,rfl,⟨(i+j) / 2,i,rfl,by omega,by omega,by omega⟩,?_⟩
     simp only
     omega
   ·right
    have hnl:¬ (i:Int)<(j:Int):=by omega
    refine ⟨(i:Int),by simp only [A0V,Cd,if_neg hnl],by omega⟩)
  FUEL ((L.length:Int),(0:Int)) ⟨L.length,0,rfl,Nat.zero_le _,hm,Nat.le_refl _⟩ (by simp only; exact fuel (by omega))
 obtain ⟨r,hr,rfl⟩:=this
 exact hr
end Go.Pl
namespace Go.Pl
open Go Go.Sl Go.Dm
theorem A8E {τ R:Type} {bad:Nat→τ→Option R}:∀ (xs:List τ) (i:Nat),U3 bad i xs=none→∀ k x,xs[k]?=some x→bad (i+k) x=none:=by
 intro xs
 induction xs with
 | nil=>intro i _ k x h; simp at h
 | cons y xs ih=>
  intro i h k x hk
  simp only [U3] at h
  cases hy:bad i y with
  | some r=>rw [hy] at h; cases h
  | none=>
   rw [hy] at h
   cases k with
   | zero=>simp at hk; subst hk; exact hy
   | succ k=>
    have:=ih (i+1) h k x (by simpa using hk)
    rwa [show i+(k+1)=i+1+k by omega]
theorem D2E {gs:List E9} (h:U3 (B1s gs) 0 gs=none):gs.length≤64:=by
 apply Classical.byContradiction
 intro hn
 have hx:=Lg (show 64<gs.length by omega)
 have:=A8E gs 0 h 64 _ hx
 unfold B1s at this
 split at this
 ·cases this
 ·split at this
  ·cases this
  ·simp at this
def A6x:H9:=⟨⟨#[]⟩,⟨#[]⟩,0⟩
def isG (gs:List E9) (n:ByteArray):Bool:=gs.any (λy=>decide (y.F8=n))
def B8Q (r:Q5) (i:Nat) (t:H9):Option (Int×Int):=
 if (t.F9≠1∧t.F9≠2)∨sLt t.fA t.fB=false∨(i≠0∧tLt t (r.N7.getD (i - 1) A6x)=true) then some ((r.A7.length:Int)+i,23)
 else if isG r.A7 t.fA=false∨isG r.A7 t.fB=false then some ((r.A7.length:Int)+i,6)
 else if i≠0∧tLt (r.N7.getD (i - 1) A6x) t=false then some ((r.A7.length:Int)+i,5)
 else if 256≤i then some ((r.A7.length:Int)+i,7) else none
theorem D2F (a b:H9):decide (B1y a b≤0)=!tLt b a:=by
 have h1:=C4e a b
 have h2:=C5f a b
 rcases C7i a b with h | h | h
 ·have:=h1.2 h
  rw [C0I h]
  simp; omega
 ·have e:=h2.2 h
  rw [C3O h.1.symm h.2.symm]
  simp; omega
 ·rw [h]
  have n1:¬ B1y a b<0:=λq=>by have:=h1.1 q; rw [C0I h] at this; cases this
  have n2:¬ B1y a b=0:=λq=>by have:=h2.1 q; rw [C3O this.1.symm this.2.symm] at h; cases h
  simp; omega
theorem C4u {a b:ByteArray} (h:sLt a b=true) (k:Int):A7z a b k=some ⟨a,b,k⟩:=by
 simp only [A7z,minS,maxS,h,Bool.true_or,Bq,Cy,Cn]
theorem C8o {gs:List E9} {L:List H9} {m:List (ByteArray×Int)} {t:H9} (hAB:sLt t.fA t.fB=true) (hL:L.length≤1000) (hn:∀ (k:Nat) x,L[k]?=some x→tLt x t=true) :
  A2A ⟨⟨gs,L⟩,m⟩ t.fA t.fB=some ((L.length:Int),false):=by
 have e:∀ x:H9,B1y x ⟨t.fA,t.fB,0⟩=B1y x t:=λx=>rfl
 simp only [A2A,C4u hAB,Oz,B1E]
 rw [C4J (m:=L.length) (Nat.le_refl _) hL (λk x hx _=>by rw [e,C4e]; exact hn k x hx) (λk x hx hk=>by have:=P5 hx; omega)]
 simp
theorem C8f {gs:List E9} {L:List H9} {m:List (ByteArray×Int)} {t p:H9} (hAB:sLt t.fA t.fB=true) (hL:L.length≤1000) (h0:L≠[]) (hp:L[L.length - 1]?=some p) (hs:p.fA=t.fA∧p.fB=t.fB)
  (hn:∀ (k:Nat) x,L[k]?=some x→k+1<L.length→tLt x p=true):∃ z,A2A ⟨⟨gs,L⟩,m⟩ t.fA t.fB=some (z,true):=by
 have e:∀ x:H9,B1y x ⟨t.fA,t.fB,0⟩=B1y x p:=λx=>by unfold B1y; rw [hs.1,hs.2]
 have hpos:0<L.length:=List.length_pos_iff.2 h0
 have h00:B1y p p=0:=(C5f p p).2 ⟨rfl,rfl⟩
 simp only [A2A,C4u hAB,Oz,B1E]
 rw [C4J (m:=L.length - 1) (by omega) hL (λk x hx hk=>by rw [e,C4e]; exact hn k x hx (by omega)) (λk x hx hk=>by
  have:=P5 hx
  have hk':k=L.length - 1:=by omega
  subst hk'
  rw [hp] at hx
  cases hx
  rw [e,h00]
  omega)]
 have hlt:((L.length - 1:Nat):Int)<(L.length:Int):=by omega
 simp only [Oz,Cd,if_pos hlt,J2 hp,B4g,e,h00]
 exact ⟨_,rfl⟩
theorem C6n {gs:List E9} {L:List H9} {m:List (ByteArray×Int)} (hk:Knows m gs) (a b:ByteArray) :
  iter (A8M ⟨⟨gs,L⟩,m⟩ a b) FUEL (0:Int)=some (if isG gs a=true∧isG gs b=true then .inl () else .inr ((6:Int),⟨⟨gs,L⟩,m⟩)):=by
 rw [C0v [a,b] (λi n=>if isG gs n then none else some ((6:Int),(⟨⟨gs,L⟩,m⟩:K8))) (by rw [mx]; simp) (λi n hn=>by
  have hi:=P5 hn
  obtain ⟨v,hv⟩:=C2V hk n 0
  have hlt:(i:Int)<([a,b].length:Int):=by omega
  have hr:=H6 (n:=i) (by simp at hi; omega)
  simp only [A8M,J2 hn,hv,hr,Oz,Cd,if_pos hlt]
  unfold isG
  cases gs.any (λy=>decide (y.F8=n)) <;> simp) (by simp [A8M])]
 simp only [U3]
 cases isG gs a <;> cases isG gs b <;> rfl
def Asc (l:List H9):Prop:=∀ (a b:Nat) (x y:H9),a<b→l[a]?=some x→l[b]?=some y→tLt x y=true
theorem C5S {gs:List E9} {L:List H9} {m:List (ByteArray×Int)} (hk:Knows m gs) {t:H9} (hAB:sLt t.fA t.fB=true) :
  B7F ⟨⟨gs,L⟩,m⟩ t.fA t.fB t.F9=if t.F9≠1∧t.F9≠2 then some ((23:Int),⟨⟨gs,L⟩,m⟩) else if isG gs t.fA=false∨isG gs t.fB=false then some ((6:Int),⟨⟨gs,L⟩,m⟩) else A6i ⟨⟨gs,L⟩,m⟩ t.fA t.fB t.F9:=by
 have hne:¬ t.fA=t.fB:=λe=>by rw [e,B4P] at hAB; cases hAB
 simp only [B7F,A4t,Oz,Cn,C6n hk,hne,decide_false]
 by_cases k1:t.F9=1
 ·cases isG gs t.fA <;> cases isG gs t.fB <;> simp [k1]
 ·by_cases k2:t.F9=2
  ·cases isG gs t.fA <;> cases isG gs t.fB <;> simp [k1,k2]
  ·simp [k1,k2]
theorem C6R {gs:List E9} {L:List H9} {m:List (ByteArray×Int)} {t:H9} {z:Int} (hp:A2A ⟨⟨gs,L⟩,m⟩ t.fA t.fB=some (z,true)) :
  A6i ⟨⟨gs,L⟩,m⟩ t.fA t.fB t.F9=some ((5:Int),⟨⟨gs,L⟩,m⟩):=by
 simp only [A6i,hp,Oz,Cy]
theorem C6e {gs:List E9} {L:List H9} {m:List (ByteArray×Int)} {t:H9} (hAB:sLt t.fA t.fB=true) (hL:L.length≤256) (hp:A2A ⟨⟨gs,L⟩,m⟩ t.fA t.fB=some ((L.length:Int),false)) :
  A6i ⟨⟨gs,L⟩,m⟩ t.fA t.fB t.F9=some (if 256≤L.length then ((7:Int),⟨⟨gs,L⟩,m⟩) else ((0:Int),⟨⟨gs,L++[t]⟩,m⟩)):=by
 simp only [A6i,hp,Oz,Cn,Cd]
 by_cases h:256≤L.length
 ·have:(L.length:Int)=256:=by omega
  simp [this,h]
 ·have h':¬ (L.length:Int)=256:=by omega
  have hb:bdV (L.length:Int) (L.length:Int) (L.length:Int)=some ():=by
   unfold bdV
   simp
  rw [if_neg h',if_neg h,C4u hAB]
  simp only [Oz,B8C,hb,V4 (show L.length≤1000 by omega)]
  simp
theorem C0V {r:Q5} (h:OkR r) (hg:r.A7.length≤64) {m:List (ByteArray×Int)} (hm:Knows m r.A7) :
  match U3 (B8Q r) 0 r.N7 with
  | some p=>iter (A2B r) FUEL (r.A7,([]:List H9),m,(0:Int))=some (.inr (none,p.1,p.2))
  | none=>∃ o,iter (A2B r) FUEL (r.A7,([]:List H9),m,(0:Int))=some o∧o=.inl (r.A7,r.N7,m):=by
 have hl:=h.ts
 rw [mx] at hl
 have:=C5g (f:=A2B r) r.N7 (B8Q r) (λs i=>i≤256∧s=(r.A7,r.N7.take i,m,(i:Int))∧Asc (r.N7.take i)) (λp=>.inr (none,p.1,p.2))
  (λo=>o=.inl (r.A7,r.N7,m))
  (λs i t ht hs=>by
   obtain ⟨h256,rfl,hasc⟩:=hs
   have hi:=P5 ht
   have hr:=H6 (n:=i) (by omega)
   have hra:J5 ((r.A7.length:Int)+(i:Int))=some ((r.A7.length:Int)+(i:Int)):=A1p (by omega) (by omega)
   have hlt:(i:Int)<(r.N7.length:Int):=by omega
   have hlen:(r.N7.take i).length=i:=by simp; omega
   have n23:(!decide ((23:Int)=(0:Int)))=true:=by decide
   simp only [A2B,B5P,J2 ht,hra,hr,Oz,Cd,if_pos hlt,n23,Cy]
   have hord:(if (i:Int)=0 then some true else Option.bind (J5 ((i:Int) - 1)) λt165=>Option.bind (G7 r.N7 t165) λe166=>Option.bind (A1a e166 t) λt169=>some (decide (t169≤(0:Int)))) =
     some (!decide (i≠0∧tLt t (r.N7.getD (i - 1) A6x)=true)):=by
    by_cases h0:i=0
    ·subst h0; simp
    ·have hp:=B3Z (l:=r.N7) A6x hi h0
     have hc:((i:Int) - 1)=((i - 1:Nat):Int):=by omega
     have hne:¬ (i:Int)=0:=by omega
     rw [if_neg hne,hc,A1p (x:=((i - 1:Nat):Int)) (by omega) (by omega)]
     simp only [Oz,J2 hp,B4g,D2F,h0,ne_eq,not_false_iff,true_and]
     cases tLt t (r.N7.getD (i - 1) A6x) <;> simp
   rw [hord]
   unfold B8Q
   cases hAB:sLt t.fA t.fB
   ·simp
   by_cases hq:i≠0∧tLt t (r.N7.getD (i - 1) A6x)=true
   ·rw [if_pos (.inr (.inr hq)),Dt hq]
    rfl
   rw [Df hq]
   simp only [Bp,Cy,Oz,C5S hm hAB]
   by_cases hk:t.F9≠1∧t.F9≠2
   ·rw [if_pos (.inl hk),if_pos hk]
    rfl
   have c1:¬ ((t.F9≠1∧t.F9≠2)∨true=false∨(i≠0∧tLt t (r.N7.getD (i - 1) A6x)=true)):=by
    rintro (q | q | q)
    ·exact hk q
    ·cases q
    ·exact hq q
   rw [if_neg c1,if_neg hk]
   by_cases hn:isG r.A7 t.fA=false∨isG r.A7 t.fB=false
   ·rw [if_pos hn,if_pos hn]
    rfl
   rw [if_neg hn,if_neg hn]
   by_cases h5:i≠0∧tLt (r.N7.getD (i - 1) A6x) t=false
   ·rw [if_pos h5]
    have hp:=B3Z (l:=r.N7) A6x hi h5.1
    have hsame:(r.N7.getD (i - 1) A6x).fA=t.fA∧(r.N7.getD (i - 1) A6x).fB=t.fB:=by
     rcases C7i (r.N7.getD (i - 1) A6x) t with q | q | q
     ·rw [h5.2] at q; cases q
     ·exact q
     ·exact absurd ⟨h5.1,q⟩ hq
    have hpt:(r.N7.take i)[(r.N7.take i).length - 1]?=some (r.N7.getD (i - 1) A6x):=by
     rw [hlen,List.getElem?_take,if_pos (by omega)]
     exact hp
    obtain ⟨z,hz⟩:=C8f (gs:=r.A7) (m:=m) hAB (show (r.N7.take i).length≤1000 by omega) (λe=>by rw [e] at hlen; simp at hlen; exact h5.1 hlen.symm) hpt hsame (λk x hx hk=>hasc k _ x _ (by omega) hx hpt)
    rw [C6R hz]
    rfl
   rw [if_neg h5]
   have hnew:∀ (k:Nat) x,(r.N7.take i)[k]?=some x→tLt x t=true:=by
    intro k x hx
    have hk':=P5 hx
    have h0:i≠0:=by omega
    have hp:=B3Z (l:=r.N7) A6x hi h0
    have hl1:tLt (r.N7.getD (i - 1) A6x) t=true:=by
     cases q:tLt (r.N7.getD (i - 1) A6x) t with
     | true=>rfl
     | false=>exact absurd ⟨h0,q⟩ h5
    have hpt:(r.N7.take i)[i - 1]?=some (r.N7.getD (i - 1) A6x):=by
     rw [List.getElem?_take,if_pos (by omega)]
     exact hp
    by_cases hki:k=i - 1
    ·subst hki
     rw [hpt] at hx
     cases hx
     exact hl1
    ·exact C3c (hasc k (i - 1) x _ (by omega) hx hpt) hl1
   have hpl:=C8o (gs:=r.A7) (m:=m) hAB (show (r.N7.take i).length≤1000 by omega) hnew
   rw [C6e hAB (by omega) hpl,hlen]
   by_cases h6:256≤i
   ·rw [if_pos h6,if_pos h6]
    rfl
   ·rw [if_neg h6,if_neg h6]
    refine ⟨_,rfl,by omega,?_,?_⟩
    ·rw [B1C ht]
    ·rw [B1C ht]
     intro a b x y hab hx hy
     have hb:=P5 hy
     simp only [List.length_append,hlen,Lc,List.length_nil] at hb
     rw [List.getElem?_append_left (by omega)] at hx
     by_cases hbi:b<i
     ·rw [List.getElem?_append_left (by omega)] at hy
      exact hasc a b x y hab hx hy
     ·have:b=i:=by omega
      subst this
      rw [List.getElem?_append_right (by omega),hlen] at hy
      simp at hy
      subst hy
      exact hnew a x hx)
  (λs hs=>by
   obtain ⟨_,rfl,_⟩:=hs
   exact ⟨.inl (r.A7,r.N7,m),by simp [A2B],rfl⟩)
  FUEL 0 (r.A7,[],m,0) ⟨by omega,by simp,λa b x y _ hx _=>by simp at hx⟩ (Nat.zero_le _) (fuel (by omega))
 rw [List.drop_zero] at this
 cases hF:U3 (B8Q r) 0 r.N7 with
 | some p=>rw [hF] at this; exact this
 | none=>rw [hF] at this; exact this
def B4T (r:Q5):Int×Int:=match U3 (B1s r.A7) 0 r.A7 with
 | some p=>p
 | none=>(U3 (B8Q r) 0 r.N7).getD (0,0)
theorem B6F {r:Q5} (h:OkR r):A5D r=some (B4T r):=by
 have h0:=C0t h
 simp only [A5D,A7E,B4K,Oz,B4T]
 cases hF:U3 (B1s r.A7) 0 r.A7 with
 | some p=>rw [hF] at h0; simp only at h0; rw [h0]; rfl
 | none=>
  rw [hF] at h0
  obtain ⟨o,ho,m,rfl,hm⟩:=h0
  have h1:=C0V h (D2E hF) hm
  rw [ho]
  simp only [Oz]
  cases hT:U3 (B8Q r) 0 r.N7 with
  | some p=>rw [hT] at h1; simp only at h1; rw [h1]; rfl
  | none=>
   rw [hT] at h1
   obtain ⟨o,ho,rfl⟩:=h1
   rw [ho]
   rfl
theorem D0H {r:Q5} (h:(B4T r).2=0):r.A7.length≤64:=by
 unfold B4T at h
 cases hF:U3 (B1s r.A7) 0 r.A7 with
 | none=>exact D2E hF
 | some p=>
  rw [hF] at h
  exfalso
  have key:∀ (xs:List E9) (i:Nat) (p:Int×Int),U3 (B1s r.A7) i xs=some p→p.2≠0:=by
   intro xs
   induction xs with
   | nil=>intro i p h; cases h
   | cons x xs ih=>
    intro i p h
    simp only [U3] at h
    cases hb:B1s r.A7 i x with
    | none=>rw [hb] at h; exact ih _ _ h
    | some q=>
     rw [hb] at h
     cases h
     unfold B1s at hb
     split at hb
     ·rename_i hc; cases hb; exact hc
     ·split at hb
      ·cases hb; simp
      ·split at hb
       ·cases hb; simp
       ·cases hb
  exact key _ _ _ hF h
end Go.Pl
namespace Go.Pl
open Go Go.Sl Go.Dm
structure OkU (r:F7):Prop where
 kind:0≤r.F9∧r.F9≤255
 a:r.fA.size≤maxLen
def A7b (p:C9) (n:ByteArray):Int:=Y7 (λx=>decide (x.F8=n)) 0 p.A7
def A4n (p:C9) (n:ByteArray):Int:=Y7 (λx=>decide (x.F8=n)) 0 p.C8
theorem C3U {p:C9} (h:B7O p.C8) (hc:(A8T p.C8).2=0) (n:ByteArray):B4L p.C8 n=some (bif decide (A4n p n<0) then ((0:Int),false) else (A4n p n,true)):=by
 simp only [B4L,D3A h.1 (f:=λy0=>B2K y0 n) (p:=λx=>decide (x.F8=n)) (λx=>rfl),A8a h,hc,Oz,A4n]
 by_cases hq:Y7 (λx:D7=>decide (x.F8=n)) 0 p.C8<0 <;> simp [hq]
theorem C9H {t:D7} (h:A5L t=0):(A8T [t]).2=0:=by
 simp [A8T,A0M,B6a,h,C9A]
theorem C6L {p:C9} (h:B7O p.C8) (hc:(A8T p.C8).2=0) {n:ByteArray} (hn:0≤A4n p n):∃ t:D7,p.C8[(A4n p n).toNat]?=some t∧
  (Option.bind (J5 (A4n p n+(1:Int))) λt162=>Option.bind (sbL p.C8 (A4n p n) t162) λt163=>Option.bind (A2u t163) λt168=>Option.bind (J5 (t168 - (1:Int))) λt176=>some t176)=some (M6 t - 1):=by
 have hl:=h.1
 rw [mx] at hl
 obtain ⟨k,e,hk⟩:=C1q _ _ 0 hn
 rw [Nat.zero_add] at e
 have e':A4n p n=(k:Int):=e
 have hx:=Lg hk
 have hm:=A0C hx
 have h0:=(B9Q hc).2 _ hm
 have hs:=Y5 p.C8[k]
 have hsb:sbL p.C8 (k:Int) ((k+1:Nat):Int)=some [p.C8[k]]:=by
  have:sbL p.C8 (k:Int) ((k+1:Nat):Int)=(bif Nat.ble k (k+1) && Nat.ble (k+1) p.C8.length then some (Sl.sub p.C8 k (k+1)) else none):=rfl
  rw [this,Nb (Nat.le_succ k),Nb hk]
  simp only [Bool.and_self,Cy,Sl.sub]
  congr 1
  rw [List.drop_take,Nat.add_sub_cancel_left,Dc hk]
  rfl
 have hc1:A2u [p.C8[k]]=some (M6 p.C8[k]):=by
  rw [B1o ⟨by rw [mx]; simp,λt ht=>by simp at ht; subst ht; exact h.2 _ hm⟩ (C9H h0)]
  simp [R8]
 refine ⟨p.C8[k],by rw [e']; exact hx,?_⟩
 rw [e',H6 (by omega)]
 simp only [Oz,hsb,hc1]
 rw [A1p (by omega) (by omega)]
 rfl
def KM:List (Int×H5):=(A9z).getD []
theorem C4z:A9z=some KM:=rfl
theorem C8w {m:List (Int×H5)} {k:Int} (h:∀ x∈m,k≠x.1):A4c m k=none:=by
 induction m with
 | nil=>rfl
 | cons x m ih=>
  obtain ⟨a,b⟩:=x
  simp only [A4c]
  rw [Df (h (a,b) (List.mem_cons_self ..)),Cn]
  exact ih (λy hy=>h y (Mc _ hy))
def zK:H5:=H5.mk (⟨#[]⟩:ByteArray) (0:Int) false (0:Int) false (0:Int) false (0:Nat)
theorem D1n:KM.all (λx=>decide (1≤x.1) && decide (x.1≤18))=true:=rfl
theorem C9K {k:Int} (h:k<1∨18<k):lkM KM k zK=some (zK,false):=by
 unfold lkM
 rw [C8w (λx hx e=>by
  have:=Al.1 D1n x hx
  simp only [Ba,Dq] at this
  omega)]
theorem D2p:lkM KM (1:Int) zK=some ((H5.mk (⟨#[97,112,97,114,116]⟩:ByteArray) (103:Int) true (0:Int) true (0:Int) false (87:Nat)),true):=rfl
theorem D2X:lkM KM (2:Int) zK=some ((H5.mk (⟨#[98,101,115,105,100,101]⟩:ByteArray) (103:Int) true (0:Int) false (0:Int) false (88:Nat)),true):=rfl
theorem D2K:lkM KM (3:Int) zK=some ((H5.mk (⟨#[97,99,114,111,115,115]⟩:ByteArray) (103:Int) true (0:Int) false (0:Int) false (89:Nat)),true):=rfl
theorem D2s:lkM KM (4:Int) zK=some ((H5.mk (⟨#[110,101,97,114]⟩:ByteArray) (103:Int) true (0:Int) true (1:Int) false (90:Nat)),true):=rfl
theorem D2M:lkM KM (5:Int) zK=some ((H5.mk (⟨#[116,111,103,101,116,104,101,114]⟩:ByteArray) (103:Int) true (0:Int) false (0:Int) false (91:Nat)),true):=rfl
theorem D2I:lkM KM (6:Int) zK=some ((H5.mk (⟨#[97,116]⟩:ByteArray) (103:Int) false (116:Int) false (0:Int) false (92:Nat)),true):=rfl
theorem D1j:lkM KM (7:Int) zK=some ((H5.mk (⟨#[115,101,97,116]⟩:ByteArray) (103:Int) false (116:Int) true (0:Int) true (93:Nat)),true):=rfl
theorem D2V:lkM KM (8:Int) zK=some ((H5.mk (⟨#[97,108,116,101,114,110,97,116,101]⟩:ByteArray) (0:Int) false (101:Int) false (0:Int) false (94:Nat)),true):=rfl
theorem D2B:lkM KM (9:Int) zK=some ((H5.mk (⟨#[104,111,115,116]⟩:ByteArray) (0:Int) false (101:Int) false (0:Int) false (95:Nat)),true):=rfl
theorem D0v:lkM KM (10:Int) zK=some ((H5.mk (⟨#[114,101,97,99,104]⟩:ByteArray) (101:Int) false (0:Int) false (0:Int) false (96:Nat)),true):=rfl
theorem C9h:lkM KM (11:Int) zK=some ((H5.mk (⟨#[115,112,101,97,107]⟩:ByteArray) (0:Int) false (101:Int) false (0:Int) false (97:Nat)),true):=rfl
theorem D0y:lkM KM (12:Int) zK=some ((H5.mk (⟨#[112,101,97,99,101]⟩:ByteArray) (0:Int) false (101:Int) false (0:Int) false (98:Nat)),true):=rfl
theorem C9J:lkM KM (13:Int) zK=some ((H5.mk (⟨#[99,111,109,112,97,110,121]⟩:ByteArray) (0:Int) false (101:Int) false (0:Int) false (99:Nat)),true):=rfl
theorem C8N:lkM KM (14:Int) zK=some ((H5.mk (⟨#[104,111,110,111,117,114]⟩:ByteArray) (0:Int) false (101:Int) false (0:Int) false (100:Nat)),true):=rfl
theorem C9c:lkM KM (15:Int) zK=some ((H5.mk (⟨#[102,105,108,108]⟩:ByteArray) (0:Int) false (101:Int) true (0:Int) false (101:Nat)),true):=rfl
theorem D0h:lkM KM (16:Int) zK=some ((H5.mk (⟨#[108,105,109,105,116]⟩:ByteArray) (0:Int) false (101:Int) true (0:Int) false (102:Nat)),true):=rfl
theorem C9Z:lkM KM (17:Int) zK=some ((H5.mk (⟨#[107,105,116,99,104,101,110]⟩:ByteArray) (100:Int) false (116:Int) false (0:Int) false (103:Nat)),true):=rfl
theorem C9q:lkM KM (18:Int) zK=some ((H5.mk (⟨#[109,105,120]⟩:ByteArray) (0:Int) false (101:Int) false (0:Int) false (104:Nat)),true):=rfl
theorem C8d (K:H5) (r:F7):∃ b,A0v K r=some b:=by
 unfold A0v A0l A0n
 cases !decide (K.fa=(0:Int)) <;> cases K.fb <;> cases !decide (K.ft=(0:Int)) <;> cases decide (r.I5=(⟨#[]⟩:ByteArray)) <;> cases decide (r.fA=(⟨#[]⟩:ByteArray)) <;> cases decide (r.fB=(⟨#[]⟩:ByteArray)) <;> cases K.fn <;> exact ⟨_,rfl⟩
section
variable {p:C9} (hT:B7O p.C8) (hc:(A8T p.C8).2=0) (hg:p.A7.length≤maxLen) {r:F7} (ha:r.fA.size≤maxLen)
include hT hc hg ha
theorem D2Y {K:H5} (hs:K.A5X=true→K.ft=116):∃ c,A1M K p r=some c:=by
 have who:∀ n,A0P p n=some (A7b p n):=λn=>B0z hg n
 unfold A1M
 cases decide (K.A7f=(⟨#[]⟩:ByteArray)) with
 | true=>exact ⟨_,rfl⟩
 | false=>
  obtain ⟨b1,h1⟩:∃ b,(bif decide (r.K6<(0:Int)) then some true else some (decide ((1000:Int)<r.K6)))=some b:=by cases decide (r.K6<(0:Int)) <;> exact ⟨_,rfl⟩
  rw [Cn,h1,Oz]
  cases b1 with
  | true=>exact ⟨_,rfl⟩
  | false=>
   obtain ⟨b2,h2⟩:=C8d K r
   rw [Cn,h2,Oz]
   cases b2 with
   | false=>exact ⟨_,rfl⟩
   | true=>
    obtain ⟨b3,h3⟩:∃ b,(bif decide (K.fa=(103:Int)) then Option.bind (A0P p r.fA) λt50=>some (decide (t50<(0:Int))) else some false)=some b:=by
     rw [who]; cases decide (K.fa=(103:Int)) <;> exact ⟨_,rfl⟩
    simp only [Bq,Cn]
    rw [h3,Oz]
    unfold A7Q
    obtain ⟨b4,h4⟩:∃ b,(bif b3 then some b3 else A3F K p r)=some b:=by
     unfold A3F
     simp only [who,Oz]
     cases b3 <;> cases decide (K.fa=(101:Int)) <;> cases !decide (r.fA=(⟨#[]⟩:ByteArray)) <;> cases decide (A7b p r.fA<0) <;> cases K.fb <;> exact ⟨_,rfl⟩
    rw [h4,Oz]
    cases b4 with
    | true=>exact ⟨_,rfl⟩
    | false=>
     obtain ⟨b5,h5⟩:∃ b,(bif decide (K.fa=(100:Int)) then Option.bind (A9s r.fA) λt113=>some (!t113) else some false)=some b:=by
      rw [B7e ha]; cases decide (K.fa=(100:Int)) <;> exact ⟨_,rfl⟩
     rw [Cn,h5,Oz]
     cases b5 with
     | true=>exact ⟨_,rfl⟩
     | false=>
      obtain ⟨b6,h6⟩:∃ b,(bif K.fb then some (decide (r.fA=r.fB)) else some false)=some b:=by cases K.fb <;> exact ⟨_,rfl⟩
      rw [Cn,h6,Oz]
      cases b6 with
      | true=>exact ⟨_,rfl⟩
      | false=>
       rw [Cn]
       unfold A7J
       rw [C3U hT hc]
       by_cases hlt:A4n p r.I5<0
       ·rw [Dt hlt,Cy,Oz]
        simp only [Bp,Cy]
        obtain ⟨b8,h8,h9⟩:∃ b,(bif decide (K.ft=(116:Int)) then some true else bif decide (K.ft=(101:Int)) then bif !decide (r.I5=(⟨#[]⟩:ByteArray)) then some true else some false else some false)=some b∧(b=false→K.ft≠116):=by
         by_cases h116:K.ft=116
         ·rw [Dt h116]; exact ⟨_,rfl,λh=>by cases h⟩
         ·rw [Df h116]; cases decide (K.ft=(101:Int)) <;> cases !decide (r.I5=(⟨#[]⟩:ByteArray)) <;> exact ⟨_,rfl,λ_=>h116⟩
        rw [h8,Oz]
        unfold A3J
        cases b8 with
        | true=>exact ⟨_,rfl⟩
        | false=>
         have hns:K.A5X=false:=by
          cases h:K.A5X with
          | false=>rfl
          | true=>exact absurd (hs h) (h9 rfl)
         rw [hns]
         simp only [Cn,Oz]
         cases K.fn <;> cases decide (r.fN<K.flo) <;> cases decide (24<r.fN) <;> exact ⟨_,rfl⟩
       ·obtain ⟨t,_,ht⟩:=C6L hT hc (n:=r.I5) (by omega)
        rw [Df hlt,Cn,Oz]
        simp only [Bq,Cn]
        obtain ⟨b8,h8⟩:∃ b,(bif decide (K.ft=(116:Int)) then bif decide (K.ft=(101:Int)) then bif !decide (r.I5=(⟨#[]⟩:ByteArray)) then some false else some false else some false else bif decide (K.ft=(101:Int)) then bif !decide (r.I5=(⟨#[]⟩:ByteArray)) then some false else some false else some false)=some b:=by
         cases decide (K.ft=(116:Int)) <;> cases decide (K.ft=(101:Int)) <;> cases !decide (r.I5=(⟨#[]⟩:ByteArray)) <;> exact ⟨_,rfl⟩
        rw [h8,Oz]
        unfold A3J
        rw [ht]
        cases b8 <;> cases K.A5X <;> simp only [Cy,Cn,Oz] <;> cases K.fn <;> first | exact ⟨_,rfl⟩ | (cases decide (r.fN<K.flo) <;> first | exact ⟨_,rfl⟩ | (cases decide (24<r.fN) <;> cases decide (M6 t - 1<r.fN) <;> exact ⟨_,rfl⟩))
end
def KK (k:Int):H5:=((lkM KM k zK).getD (zK,false)).1
def rCk (p:C9) (r:F7):Int:=(A1M (KK r.F9) p r).getD 0
theorem C5v {k:Int} {K:H5} {b:Bool} (h:lkM KM k zK=some (K,b)):KK k=K:=by unfold KK; rw [h]; rfl
theorem D2f {k:Int}:∃ b,lkM KM k zK=some (KK k,b)∧((KK k).A5X=true→(KK k).ft=116):=by
 by_cases ho:k<1∨18<k
 ·have:=C9K ho; rw [C5v this]; exact ⟨_,this,λh=>by cases h⟩
 ·rcases (show k=1∨k=2∨k=3∨k=4∨k=5∨k=6∨k=7∨k=8∨k=9∨k=10∨k=11∨k=12∨k=13∨k=14∨k=15∨k=16∨k=17∨k=18 by omega) with rfl | rfl | rfl | rfl | rfl | rfl | rfl | rfl | rfl | rfl | rfl | rfl | rfl | rfl | rfl | rfl | rfl | rfl
  all_goals first | exact ⟨_,rfl,λ_=>by rw [C5v D1j]⟩ | exact ⟨_,rfl,λh=>by cases h⟩
theorem D0E {p:C9} (hT:B7O p.C8) (hc:(A8T p.C8).2=0) (hg:p.A7.length≤maxLen) {r:F7} (hr:OkU r):∃ ok,lkM KM r.F9 zK=some (KK r.F9,ok)∧A1M (KK r.F9) p r=some (rCk p r):=by
 obtain ⟨b,h1,h2⟩:=D2f (k:=r.F9)
 obtain ⟨c,h3⟩:=D2Y hT hc hg hr.a h2
 exact ⟨b,h1,by unfold rCk; rw [h3]; rfl⟩
end Go.Pl
namespace Go.Pl
open Go Go.Sl Go.Dm
def A6G (c:Int):Bool:=decide (0≤c) && decide (c<64)
def B8h (p:C9):Int×Int:=
 if (A8T p.C8).2≠0 then A8T p.C8
 else if (B4T (Q5.mk p.A7 p.N7)).2≠0 then B4T (Q5.mk p.A7 p.N7)
 else if p.R7.length≠0∧p.R7.length≠p.A7.length then (0,44)
 else if p.R7.all A6G=false then (0,44)
 else if R8 p.C8<p.A7.length then (0,45) else (0,0)
structure OkP (p:C9):Prop where
 ts:B7O p.C8
 r:OkR (Q5.mk p.A7 p.N7)
 cl:p.R7.length≤maxLen
 ru:p.J9.length≤maxLen
 u:∀ r∈p.J9,OkU r
theorem D3L {p:C9} (h:p.R7.length≤maxLen):iter (A4Z p) FUEL (0:Int)=some (if p.R7.all A6G then .inl () else .inr (0,44)):=by
 rw [mx] at h
 rw [A1t p.R7 (λi c=>if A6G c then none else some (.inr (0,44))) (.inl ()) (fuel h),A7F (ρ:=Unit⊕(Int×Int)) (λi c=>if A6G c then none else some (.inr (0,44))) A6G (.inr (0,44)) (.inl ()) (λi x=>rfl)]
 ·intro i c hx
  have hi:=P5 hx
  simp only [A4Z,J2 hx,Oz,Cd]
  rw [if_pos (by omega),H6 (by omega)]
  by_cases h1:c<0
  ·have:A6G c=false:=by simp [A6G]; omega
   simp [h1,this]
  ·by_cases h2:64≤c
   ·have:A6G c=false:=by simp [A6G]; omega
    simp [h1,h2,this]
   ·have:A6G c=true:=by simp [A6G]; omega
    simp [h1,h2,this]
 ·simp [A4Z]
theorem C1P {p:C9} (h:OkP p):B2s p=some (B8h p):=by
 simp only [B2s,B1S h.ts,Oz,B8h]
 by_cases hh:(A8T p.C8).2=0
 ·have hr:=B6F h.r
  simp only [hh,hr,Oz]
  by_cases h2:(B4T (Q5.mk p.A7 p.N7)).2=0
  ·simp only [h2,B5r,D3L h.cl,B1o h.ts hh,Oz]
   by_cases c0:p.R7.length=0
   ·have hn:¬ (0:Int)<(p.R7.length:Int):=by omega
    cases p.R7.all A6G
    ·simp [hn,c0]
    ·by_cases c3:R8 p.C8<p.A7.length <;> simp [hn,c0,c3]
   ·have hn:(0:Int)<(p.R7.length:Int):=by omega
    have hn':0<p.R7.length:=by omega
    by_cases c1:p.R7.length=p.A7.length
    ·have c1':(p.R7.length:Int)=(p.A7.length:Int):=by omega
     cases p.R7.all A6G
     ·simp [hn,c0,c1,c1']
     ·by_cases c3:R8 p.C8<p.A7.length <;> simp [hn,c0,c1,c1',c3]
    ·have c1':¬ (p.R7.length:Int)=(p.A7.length:Int):=by omega
     simp [hn,hn',c0,c1,c1']
  ·simp [h2]
 ·simp [hh]
theorem B4y {p:C9} (h:(B8h p).2=0):(A8T p.C8).2=0:=by
 unfold B8h at h
 by_cases hh:(A8T p.C8).2=0
 ·exact hh
 ·rw [if_pos hh] at h; exact absurd h hh
def B8J (p:C9) (i:Nat) (r:F7):Option (Int×Int):=if rCk p r≠0 then some ((i:Int),rCk p r) else if i=64 then some ((i:Int),7) else none
def C5N (p:C9):Int×Int:=if (B8h p).2≠0 then B8h p else (U3 (B8J p) 0 p.J9).getD (0,0)
theorem D1e {p:C9} (h:OkP p) (hb:(B8h p).2=0):iter (A5t p KM) FUEL (0:Int)=some (toE (U3 (B8J p) 0 p.J9)):=by
 have hl:=h.ru
 rw [mx] at hl
 refine C0v p.J9 (B8J p) h.ru (λi r hx=>?_) (by simp [A5t])
 have hi:=P5 hx
 obtain ⟨ok,lk,k1⟩:=D0E h.ts (B4y hb) h.r.gs (h.u r (A0C hx))
 have lk':lkM KM r.F9 (H5.mk (⟨#[]⟩:ByteArray) (0:Int) false (0:Int) false (0:Int) false (0:Nat))=some (KK r.F9,ok):=lk
 simp only [A5t,J2 hx,lk',k1,Oz]
 rw [D4k (Dt (show (i:Int)<(p.J9.length:Int) by omega)),H6 (by omega)]
 unfold B8J
 generalize rCk p r=c
 have e64:((i:Int)=64)↔i=64:=by omega
 by_cases h0:c=0
 ·by_cases h64:i=64
  ·subst h64; simp [h0]
  ·simp [h0,e64,h64]
 ·simp [h0]
theorem B1c {p:C9} (h:OkP p):A3n p=some (C5N p):=by
 simp only [A3n,C1P h,C4z,Oz,C5N]
 by_cases hb:(B8h p).2=0
 ·simp only [hb,D1e h hb,Oz]
  cases U3 (B8J p) 0 p.J9 <;> rfl
 ·simp [hb]
end Go.Pl
namespace Go.Pl
open Go Go.Sl Go.Dm
structure OkH (l:List D7):Prop where
 ok:B7O l
 v:(A8T l).2=0
theorem OkH.len {l:List D7} (h:OkH l):l.length≤16:=(B9Q h.v).1
theorem OkH.t {l:List D7} (h:OkH l) {t:D7} (ht:t∈l):A5L t=0:=(B9Q h.v).2 t ht
theorem OkH.valid {l:List D7} (h:OkH l):A3q l=some true:=by rw [A8a h.ok,h.v]; rfl
def whR:List D7→Int→Nat→Option (Nat×Int)
 | [],_,_=>none
 | t::l,s,i=>if s<M6 t then some (i,s) else whR l (s - M6 t) (i+1)
def whO:Option (Nat×Int)→Int×Int×Bool
 | some (i,k)=>((i:Int),k,true)
 | none=>(0,0,false)
theorem C6J {l:List D7} (hl:l.length≤16) {s:Int} (h0:0≤s) (h1:s≤maxLen) :
  iter (A3L l) FUEL (s,(0:Int))=some (match whR l s 0 with | some (i,k)=>.inr ((i:Int),k,true) | none=>.inl ()):=by
 rw [mx] at h1
 have key:∀ (m:Nat) (s:Int) (k n:Nat),l.length - k=m→k≤l.length→0≤s→s≤9223372036854775807→l.length - k<n→
   iter (A3L l) n (s,(k:Int))=some (match whR (l.drop k) s k with | some (i,k)=>.inr ((i:Int),k,true) | none=>.inl ()):=by
  intro m
  induction m with
  | zero=>
   intro s k n hm hk hs hs' hn
   obtain ⟨n,rfl⟩:∃ n',n=n'+1:=⟨n - 1,by omega⟩
   have:k=l.length:=by omega
   subst this
   simp [iter,A3L,whR]
  | succ m ih=>
   intro s k n hm hk hs hs' hn
   obtain ⟨n,rfl⟩:∃ n',n=n'+1:=⟨n - 1,by omega⟩
   have hlt:k<l.length:=by omega
   have hx:=Lg hlt
   have hb:=Y5 l[k]
   rw [Dc hlt]
   simp only [iter,A3L,J2 hx,A2i,Oz,Cd,whR]
   rw [if_pos (by omega)]
   by_cases hc:s<M6 l[k]
   ·simp [hc]
   ·rw [if_neg hc,if_neg hc,A1p (by omega) (by omega),H6 (by omega)]
    simp only [Oz]
    exact ih (s - M6 l[k]) (k+1) n (by omega) (by omega) (by omega) (by omega) (by omega)
 have:=key l.length s 0 FUEL (by omega) (by omega) h0 h1 (fuel (by omega))
 simpa using this
theorem C5z {l:List D7} (h:OkH l) {s:Int} (h1:s≤maxLen):A1P l s=some (whO (if s<0 then none else whR l s 0)):=by
 simp only [A1P,h.valid,Oz,Cd]
 by_cases h0:s<0
 ·simp [h0,whO]
 ·simp only [h0,if_false,Oz,Bq,Cn,C6J h.len (by omega:0≤s) h1]
  cases whR l s 0 with
  | none=>rfl
  | some p=>rfl
theorem C4T:∀ (l:List D7) (s:Int) (i:Nat) {j:Nat} {k:Int},0≤s→whR l s i=some (j,k)→∃ t,l[j - i]?=some t∧i≤j∧0≤k∧k<M6 t∧s=R8 (l.take (j - i))+k
 | [],_,_,_,_,_,h=>by cases h
 | x::l,s,i,j,k,h0,h=>by
  simp only [whR] at h
  split at h
  ·rename_i hc
   cases h
   exact ⟨x,by simp,Nat.le_refl _,h0,hc,by simp [R8]⟩
  ·rename_i hc
   obtain ⟨t,h1,h2,h3,h4,h5⟩:=C4T l (s - M6 x) (i+1) (by omega) h
   refine ⟨t,?_,by omega,h3,h4,?_⟩
   ·rw [show j - i=(j - (i+1))+1 by omega]; exact h1
   ·rw [show j - i=(j - (i+1))+1 by omega]
    simp only [R8,List.take_succ_cons,List.map_cons,List.sum_cons] at h5 ⊢
    omega
end Go.Pl
namespace Go.Pl
open Go Go.Sl Go.Dm
theorem A2d {x:Int} (h:-1000000000≤x) (h':x≤1000000000):J5 x=some x:=A1p (by omega) (by omega)
theorem B4w {b c:Int} (h:0≤b) (h':b≤1000000000) (hc:0<c):A5K b c=some (b / c):=by
 obtain ⟨m,rfl⟩:=Zn h
 obtain ⟨n,rfl⟩:=Zn (Int.le_of_lt hc)
 obtain ⟨n,rfl⟩:∃ k,n=k+1:=⟨n - 1,by omega⟩
 unfold A5K
 have:Nat.ble m 9223372036854775807=true:=Nb (by omega)
 simp only [this,Cy]
 rfl
theorem C3R {b c:Int} (h:0≤b) (hc:0<c):U9 b c=some (b % c):=by
 obtain ⟨m,rfl⟩:=Zn h
 obtain ⟨n,rfl⟩:=Zn (Int.le_of_lt hc)
 obtain ⟨n,rfl⟩:∃ k,n=k+1:=⟨n - 1,by omega⟩
 rfl
theorem shapes {t:D7} (h:M6 t≠0):(t.P8=1∧1≤t.fA∧t.fA≤24∧t.fB=0)∨(t.P8=2∧1≤t.fA∧t.fA≤11∧0≤t.fB∧t.fB≤2)∨(t.P8=3∧1≤t.fA∧t.fA≤8∧1≤t.fB∧t.fB≤8)∨(t.P8=4∧1≤t.fA∧t.fA≤24∧0≤t.fB∧t.fB≤t.fA):=by
 unfold M6 at h
 split at h
 ·split at h
  ·exact absurd rfl h
  ·left; omega
 ·split at h
  ·split at h
   ·exact absurd rfl h
   ·right; left; omega
  ·split at h
   ·split at h
    ·exact absurd rfl h
    ·right; right; left; omega
   ·split at h
    ·split at h
     ·exact absurd rfl h
     ·right; right; right; omega
    ·exact absurd rfl h
theorem D2l {s:Int} (hs:s=1):X5 s=some (A1s.mk (⟨#[114,111,117,110,100]⟩:ByteArray) A3t A2O A2S B7X A8R,true):=by subst hs; rfl
theorem D1g {s:Int} (hs:s=2):X5 s=some (A1s.mk (⟨#[108,111,110,103]⟩:ByteArray) A4m A3z A3w A3x A9M,true):=by subst hs; rfl
theorem D2k {s:Int} (hs:s=3):X5 s=some (A1s.mk (⟨#[104,111,114,115,101,115,104,111,101]⟩:ByteArray) A3U A3A A3D B4F A9H,true):=by subst hs; rfl
theorem D2C {s:Int} (hs:s=4):X5 s=some (A1s.mk (⟨#[114,111,119]⟩:ByteArray) A5s A3W B8k B4A B1l,true):=by subst hs; rfl
theorem B3B {α:Type} {b:Bool} {x y:Option α} (h:b=true→∃ z,x=some z) (k:b=false→∃ z,y=some z):∃ z,(bif b then x else y)=some z:=by
 cases b
 ·exact k rfl
 ·exact h rfl
theorem B6d {α:Type} {p:Prop} [Decidable p] {x y:Option α} (h:p→∃ z,x=some z) (k:¬ p→∃ z,y=some z):∃ z,(bif decide p then x else y)=some z:=by
 by_cases hp:p
 ·simp only [hp,decide_true,Cy]; exact h hp
 ·simp only [hp,decide_false,Cn]; exact k hp
theorem A3i {α:Type} {p:Prop} [Decidable p] {x y:Option α} (h:¬ p→∃ z,x=some z) (k:p→∃ z,y=some z):∃ z,(bif !decide p then x else y)=some z:=by
 by_cases hp:p
 ·simp only [hp,decide_true,Bq,Cn]; exact k hp
 ·simp only [hp,decide_false,Bp,Cy]; exact h hp
theorem A4D {α β:Type} {x:Option α} {f:α→Option β} (h:∃ a,x=some a∧∃ z,f a=some z):∃ z,Option.bind x f=some z:=by
 obtain ⟨a,e,z,k⟩:=h
 exact ⟨z,by rw [e]; exact k⟩
theorem B6p {β:Type} {x:Int} {f:Int→Option β} (h:-1000000000≤x) (h':x≤1000000000) (k:∃ z,f x=some z):∃ z,Option.bind (J5 x) f=some z:=A4D ⟨x,A2d h h',k⟩
theorem B6f {β:Type} {b c:Int} {f:Int→Option β} (h:0≤b) (h':b≤1000000000) (hc:0<c) (k:∃ z,f (b / c)=some z):∃ z,Option.bind (A5K b c) f=some z:=A4D ⟨_,B4w h h' hc,k⟩
theorem B5V {β:Type} {b c:Int} {f:Int→Option β} (h:0≤b) (hc:0<c) (k:∃ z,f (b % c)=some z):∃ z,Option.bind (U9 b c) f=some z:=A4D ⟨_,C3R h hc,k⟩
theorem A4R {α β:Type} {x:Option α} {f:α→Option β} (h:∃ a,x=some a) (k:∀ a,∃ z,f a=some z):∃ z,Option.bind x f=some z:=by
 obtain ⟨a,e⟩:=h
 exact A4D ⟨a,e,k a⟩
theorem D0r {a b:Int} (h:0≤a) (h':a≤24) (k:0≤b) (k':b≤24):∃ z,B1t a b=some z∧0≤z∧z≤25:=⟨a+min b 1,by simp (disch:=omega) only [B1t,A2d,Oz],by omega,by omega⟩
theorem C0B {a b m M:Int} (h1:1≤a) (h2:a≤24) (hm:0≤m) (hM:M<24) (hmM:m≤M):∃ z,A2O a b m M=some z:=by
 unfold A2O
 repeat' (first | exact ⟨_,rfl⟩ | refine B6p (by omega) (by omega) ?_ | refine B6f (by omega) (by omega) (by omega) ?_ | refine B5V (by omega) (by omega) ?_ | refine B6d (λ_=>?_) (λ_=>?_) | refine A3i (λ_=>?_) (λ_=>?_) | refine B3B (λ_=>?_) (λ_=>?_) | refine A4R ?_ (λ_=>?_))
theorem C1Q {a b m M:Int} (h1:1≤a) (h2:a≤24) (h3:0≤b) (h4:b≤24) (hm:0≤m) (hM:M<24) (hmM:m≤M):∃ z,A3z a b m M=some z:=by
 obtain ⟨z,e,z0,z1⟩:=D0r (a:=a) (b:=b) (by omega) h2 h3 h4
 unfold A3z A9G
 refine A4D ⟨z,e,?_⟩
 repeat' (first | exact ⟨_,rfl⟩ | refine B6p (by omega) (by omega) ?_ | refine B6f (by omega) (by omega) (by omega) ?_ | refine B5V (by omega) (by omega) ?_ | refine B6d (λ_=>?_) (λ_=>?_) | refine A3i (λ_=>?_) (λ_=>?_) | refine B3B (λ_=>?_) (λ_=>?_) | refine A4R ?_ (λ_=>?_))
theorem C2a {a b m M:Int} (h1:1≤a) (h2:a≤24) (hm:0≤m) (hM:M<24) (hmM:m≤M):∃ z,A3A a b m M=some z:=by
 unfold A3A
 repeat' (first | exact ⟨_,rfl⟩ | refine B6p (by omega) (by omega) ?_ | refine B6f (by omega) (by omega) (by omega) ?_ | refine B5V (by omega) (by omega) ?_ | refine B6d (λ_=>?_) (λ_=>?_) | refine A3i (λ_=>?_) (λ_=>?_) | refine B3B (λ_=>?_) (λ_=>?_) | refine A4R ?_ (λ_=>?_))
theorem C3P {a b m M:Int} (h1:1≤a) (h2:a≤24) (h3:0≤b) (h4:b≤24) (hm:0≤m) (hM:M<24) (hmM:m≤M):∃ z,A3W a b m M=some z:=by
 unfold A3W
 repeat' (first | exact ⟨_,rfl⟩ | refine B6p (by omega) (by omega) ?_ | refine B6f (by omega) (by omega) (by omega) ?_ | refine B5V (by omega) (by omega) ?_ | refine B6d (λ_=>?_) (λ_=>?_) | refine A3i (λ_=>?_) (λ_=>?_) | refine B3B (λ_=>?_) (λ_=>?_) | refine A4R ?_ (λ_=>?_))
theorem C1w {a b m M:Int} (h1:1≤a) (h2:a≤24) (hm:0≤m) (hM:M<24) (hmM:m≤M):∃ z,A2S a b m M=some z:=by
 unfold A2S
 repeat' (first | exact ⟨_,rfl⟩ | refine B6p (by omega) (by omega) ?_ | refine B6f (by omega) (by omega) (by omega) ?_ | refine B5V (by omega) (by omega) ?_ | refine B6d (λ_=>?_) (λ_=>?_) | refine A3i (λ_=>?_) (λ_=>?_) | refine B3B (λ_=>?_) (λ_=>?_) | refine A4R ?_ (λ_=>?_))
theorem C2l {a b m M:Int} (h1:1≤a) (h2:a≤24) (h3:0≤b) (h4:b≤24) (hm:0≤m) (hM:M<24) (hmM:m≤M):∃ z,A3w a b m M=some z:=by
 obtain ⟨z,e,z0,z1⟩:=D0r (a:=a) (b:=b) (by omega) h2 h3 h4
 unfold A3w
 rw [e]
 simp only [Oz]
 repeat' (first | exact ⟨_,rfl⟩ | refine B6p (by omega) (by omega) ?_ | refine B6f (by omega) (by omega) (by omega) ?_ | refine B5V (by omega) (by omega) ?_ | refine B6d (λ_=>?_) (λ_=>?_) | refine A3i (λ_=>?_) (λ_=>?_) | refine B3B (λ_=>?_) (λ_=>?_) | refine A4R ?_ (λ_=>?_))
theorem C2s {a b m M:Int} (h1:1≤a) (h2:a≤24) (h3:0≤b) (h4:b≤24) (hm:0≤m) (hM:M<24) (hmM:m≤M):∃ z,A3D a b m M=some z:=by
 unfold A3D
 repeat' (first | exact ⟨_,rfl⟩ | refine B6p (by omega) (by omega) ?_ | refine B6f (by omega) (by omega) (by omega) ?_ | refine B5V (by omega) (by omega) ?_ | refine B6d (λ_=>?_) (λ_=>?_) | refine A3i (λ_=>?_) (λ_=>?_) | refine B3B (λ_=>?_) (λ_=>?_) | refine A4R ?_ (λ_=>?_))
theorem B4E {t:D7} (h:M6 t≠0) {x y:Int} (hx:0≤x) (hx':x<24) (hy:0≤y) (hy':y<24):∃ b,A4e t x y=some b:=by
 have k1:0≤min x y:=by omega
 have k2:max x y<24:=by omega
 have k3:min x y≤max x y:=by omega
 unfold A4e
 rcases shapes h with ⟨hs,h1,h2,h3⟩ | ⟨hs,h1,h2,h3,h4⟩ | ⟨hs,h1,h2,h3,h4⟩ | ⟨hs,h1,h2,h3,h4⟩
 ·refine A4D ⟨_,D2l hs,A3i (λ_=>A4R (C0B (b:=t.fB) h1 h2 k1 k2 k3) λ_=>⟨_,rfl⟩) (λ_=>⟨_,rfl⟩)⟩
 ·refine A4D ⟨_,D1g hs,A3i (λ_=>A4R (C1Q h1 (by omega) h3 (by omega) k1 k2 k3) λ_=>⟨_,rfl⟩) (λ_=>⟨_,rfl⟩)⟩
 ·refine A4D ⟨_,D2k hs,A3i (λ_=>A4R (C2a (b:=t.fB) h1 (by omega) k1 k2 k3) λ_=>⟨_,rfl⟩) (λ_=>⟨_,rfl⟩)⟩
 ·refine A4D ⟨_,D2C hs,A3i (λ_=>A4R (C3P h1 h2 h3 (by omega) k1 k2 k3) λ_=>⟨_,rfl⟩) (λ_=>⟨_,rfl⟩)⟩
theorem B4B {t:D7} (h:M6 t≠0) {x y:Int} (hx:0≤x) (hx':x<24) (hy:0≤y) (hy':y<24):∃ b,A4p t x y=some b:=by
 have k1:0≤min x y:=by omega
 have k2:max x y<24:=by omega
 have k3:min x y≤max x y:=by omega
 unfold A4p
 rcases shapes h with ⟨hs,h1,h2,h3⟩ | ⟨hs,h1,h2,h3,h4⟩ | ⟨hs,h1,h2,h3,h4⟩ | ⟨hs,h1,h2,h3,h4⟩
 ·refine A4D ⟨_,D2l hs,A3i (λ_=>A4R (C1w (b:=t.fB) h1 h2 k1 k2 k3) λ_=>⟨_,rfl⟩) (λ_=>⟨_,rfl⟩)⟩
 ·refine A4D ⟨_,D1g hs,A3i (λ_=>A4R (C2l h1 (by omega) h3 (by omega) k1 k2 k3) λ_=>⟨_,rfl⟩) (λ_=>⟨_,rfl⟩)⟩
 ·refine A4D ⟨_,D2k hs,A3i (λ_=>A4R (C2s h1 (by omega) (by omega) (by omega) k1 k2 k3) λ_=>⟨_,rfl⟩) (λ_=>⟨_,rfl⟩)⟩
 ·refine A4D ⟨_,D2C hs,A3i (λ_=>⟨_,rfl⟩) (λ_=>⟨_,rfl⟩)⟩
theorem D0V {t:D7} (h:M6 t≠0) {x y:Int} (hx:0≤x) (hx':x<24) (hy:0≤y) (hy':y<24):∃ b,B4M t x y=some b:=by
 unfold B4M
 refine A4R (B4E h hx hx' hy hy') λb=>B3B (λ_=>⟨_,rfl⟩) λ_=>A4R (B4B h hx hx' hy hy') λ_=>⟨_,rfl⟩
theorem C9g {t:D7} (hs:t.P8=1) (h1:1≤t.fA) (h2:t.fA≤24) (h3:t.fB=0):M6 t=t.fA:=by
 unfold M6; rw [if_pos hs,if_neg (by omega)]
theorem C6U {t:D7} (hs:t.P8=2) (h1:1≤t.fA) (h2:t.fA≤11) (h3:0≤t.fB) (h4:t.fB≤2):M6 t=2*t.fA+t.fB:=by
 unfold M6; rw [if_neg (by omega),if_pos hs,if_neg (by omega)]
theorem C9t {t:D7} (hs:t.P8=3) (h1:1≤t.fA) (h2:t.fA≤8) (h3:1≤t.fB) (h4:t.fB≤8):M6 t=t.fA+2*t.fB:=by
 unfold M6; rw [if_neg (by omega),if_neg (by omega),if_pos hs,if_neg (by omega)]
theorem C8X {t:D7} (hs:t.P8=4) (h1:1≤t.fA) (h2:t.fA≤24) (h3:0≤t.fB) (h4:t.fB≤t.fA):M6 t=t.fA:=by
 unfold M6; rw [if_neg (by omega),if_neg (by omega),if_neg (by omega),if_pos hs,if_neg (by omega)]
theorem C8q {t:D7} (h:M6 t≠0):∃ lay k,X5 t.P8=some (lay,true)∧lay.B9M t.fA t.fB=some k∧0≤k∧k<M6 t:=by
 rcases shapes h with ⟨hs,h1,h2,h3⟩ | ⟨hs,h1,h2,h3,h4⟩ | ⟨hs,h1,h2,h3,h4⟩ | ⟨hs,h1,h2,h3,h4⟩
 ·exact ⟨_,0,D2l hs,rfl,by omega,by rw [C9g hs h1 h2 h3]; omega⟩
 ·by_cases hb:0<t.fB
  ·exact ⟨_,t.fA,D1g hs,by simp only [A3x,hb,decide_true,Cy],by omega,by rw [C6U hs h1 h2 h3 h4]; omega⟩
  ·exact ⟨_,t.fA / 2,D1g hs,by simp only [A3x,hb,decide_false,Cn,B4w (show 0≤t.fA by omega) (show t.fA≤1000000000 by omega) (show (0:Int)<2 by omega),Oz],by omega,by rw [C6U hs h1 h2 h3 h4]; omega⟩
 ·exact ⟨_,t.fB+t.fA / 2,D2k hs,by simp only [B4F,B4w (show 0≤t.fA by omega) (show t.fA≤1000000000 by omega) (show (0:Int)<2 by omega),A2d (show -1000000000≤t.fB+t.fA / 2 by omega) (by omega),Oz],by omega,by rw [C9t hs h1 h2 h3 h4]; omega⟩
 ·exact ⟨_,t.fA / 2,D2C hs,by simp only [B4A,B4w (show 0≤t.fA by omega) (show t.fA≤1000000000 by omega) (show (0:Int)<2 by omega),Oz],by omega,by rw [C8X hs h1 h2 h3 h4]; omega⟩
end Go.Pl
namespace Go.Pl
open Go Go.Sl Go.Dm
def neg (l:List Int):Nat:=l.countP (λx=>decide (x<0))
theorem C5I {α:Type} (x:α) (l:List α):sbL (x::l) (1:Int) ((x::l).length:Int)=some l:=by
 show (bif Nat.ble 1 (x::l).length && Nat.ble (x::l).length (x::l).length then some (sub (x::l) 1 (x::l).length) else none)=some l
 have h1:Nat.ble 1 (x::l).length=true:=Nb (by simp)
 have h2:Nat.ble (x::l).length (x::l).length=true:=Nb (Nat.le_refl _)
 rw [h1,h2]
 simp [sub]
theorem B2a {α:Type} {xs ys:List α} (h:xs.length+ys.length≤1000000000):apL xs ys=some (xs++ys):=by
 unfold apL
 have:Nat.ble (xs.length+ys.length) 1073741824=true:=Nb (by omega)
 rw [this]; rfl
theorem C9l {α:Type} {n:Int} {z:α} (h:0≤n) (h':n≤1000000):mkL n z=some (List.replicate n.toNat z):=by
 obtain ⟨m,rfl⟩:=Zn h
 show (bif Nat.ble m 1073741824 then _ else _)=_
 have:Nat.ble m 1073741824=true:=Nb (by omega)
 rw [this]; rfl
theorem C7o {l:List Int} {i:Nat} {x:Int} (h:l[i]?=some x) (hx:x<0) {a:Int} (ha:0≤a):neg (l.set i a)+1=neg l:=by
 obtain ⟨hi,rfl⟩:=List.getElem?_eq_some_iff.1 h
 have hp:0<l.countP (λx=>decide (x<0)):=List.countP_pos_iff.2 ⟨l[i],Gm hi,by simpa using hx⟩
 unfold neg
 rw [List.countP_set hi]
 have:¬ a<0:=by omega
 simp [hx,this]
 omega
theorem C9U (l:List Int):neg l≤l.length:=List.countP_le_length
structure StI (n:Nat) (out queue:List Int):Prop where
 len:out.length=n
 bd:∀ x∈out,-1≤x∧x+neg out≤n
 q:∀ k∈queue,0≤k∧k<n
theorem C4D {t:D7} (h:M6 t≠0) {n:Nat} (hn:(n:Int)=M6 t) {out0:List Int} (h0:out0.length=n) {e:Int} (he:0≤e∧e<n) (M:Nat) (hM:M≤100) :
  ∀ (out queue:List Int),StI n out queue→2*neg out+queue.length≤M→∃ r,iter (A7M t out0 e) FUEL (out,(0:Int),queue)=some r∧StI n r.1 r.2∧2*neg r.1+r.2.length≤M:=by
 intro out queue hI hm
 have hb:=Y5 t
 refine L6 (λs=>∃ k:Nat,s.2.1=(k:Int)∧k≤n∧StI n s.1 s.2.2∧2*neg s.1+s.2.2.length≤M) (λs=>n - s.2.1.toNat) _ ?_ FUEL _ ⟨0,rfl,by omega,hI,hm⟩ (fuel (by simp; omega))
 rintro ⟨out,i,queue⟩ ⟨k,hk,hkn,hI,hm⟩
 simp only at hk hm hI
 subst hk
 simp only [A7M,B5g,Cd]
 by_cases hlt:(k:Int)<(out0.length:Int)
 ·left
  have hk':k<out.length:=by rw [hI.len]; omega
  have hx:=Lg hk'
  obtain ⟨b,hb'⟩:=D0V h he.1 (show e<24 by omega) (show (0:Int)≤(k:Int) by omega) (show (k:Int)<24 by omega)
  rw [if_pos hlt]
  simp only [J2 hx,hb',H6 (show k<9223372036854775807 by omega),Oz]
  have go:∃ s',(some (Sum.inl (out,((k+1:Nat):Int),queue)):Option ((List Int×Int×List Int)⊕(List Int×List Int)))=some (Sum.inl s')∧(∃ k:Nat,s'.2.1=(k:Int)∧k≤n∧StI n s'.1 s'.2.2∧2*neg s'.1+s'.2.2.length≤M)∧n - s'.2.1.toNat<n - (k:Int).toNat:=
   ⟨_,rfl,⟨k+1,rfl,by omega,hI,hm⟩,by simp; omega⟩
  by_cases hneg:out[k]<0
  ·simp only [hneg,if_true,Oz]
   cases b
   ·exact go
   ·simp only [Cy]
    obtain ⟨e',rfl⟩:=Zn he.1
    have he':e'<out.length:=by rw [hI.len]; omega
    have hxe:=Lg he'
    have hbe:=hI.bd _ (Gm he')
    have hns:=C7o hx hneg (a:=out[e']+1) (by omega)
    have hle:=C9U out
    rw [J2 hxe]
    simp only [Oz,A2d (show -1000000000≤out[e']+1 by omega) (by omega),Zt,B2a (show queue.length+[(k:Int)].length≤1000000000 by simp; omega)]
    refine ⟨_,rfl,⟨k+1,rfl,by omega,⟨by simp [hI.len],λx hx'=>?_,λq hq=>?_⟩,by simp; omega⟩,by simp; omega⟩
    ·dsimp only at hx' ⊢
     rcases List.mem_or_eq_of_mem_set hx' with hx' | rfl
     ·have:=hI.bd x hx'; omega
     ·omega
    ·dsimp only at hq
     rcases List.mem_append.1 hq with hq | hq
     ·exact hI.q q hq
     ·rw [Ms] at hq; subst hq; omega
  ·simp only [hneg,if_false,Oz,Cn]
   exact go
 ·right
  rw [if_neg hlt]
  exact ⟨_,rfl,hI,hm⟩
theorem D0e {t:D7} (h:M6 t≠0) {k:Int} (hk:0≤k) (hk':k<M6 t):∃ r,B2t t k=some r∧(r.length:Int)=M6 t∧∀ x∈r,-1≤x∧x≤24:=by
 have hb:=Y5 t
 obtain ⟨n,hn⟩:=Zn hb.1
 simp only [B2t,A2i,hn,Oz,C9l (show (0:Int)≤(n:Int) by omega) (by omega)]
 have l0:iter (A3H (List.replicate n (0:Int))) FUEL ((0:Int),List.replicate n (0:Int))=some (List.replicate n (-1:Int)):=by
  have:=A7p (f:=A3H (List.replicate n (0:Int))) (λ(a:List Int) (i:Nat)=>((i:Int),a)) (List.replicate n (0:Int)) (λa i x=>.inl (a.set i (-1))) (λa=>a) (λa i=>a.length=n) (a:=List.replicate n (0:Int)) (by simp) (n:=FUEL) (fuel (by simp; omega))
   (λa i x h hI=>by
    have hi:=P5 h
    have hI:a.length=n:=hI
    have hi':i<n:=by simpa using hi
    have hx:=Lg (show i<a.length by omega)
    simp only [A3H,J2 hx,Oz,Cd,H6 (show i<9223372036854775807 by omega),Zt]
    rw [if_pos (by omega)]
    exact ⟨rfl,by simp [hI]⟩)
   (λa _=>by simp [A3H])
  rw [show ((0:Int),List.replicate n (0:Int))=(λ(a:List Int) (i:Nat)=>((i:Int),a)) (List.replicate n (0:Int)) 0 from rfl,this]
  congr 1
  have key:∀ (m:Nat) (a:List Int) (i:Nat),i+m=a.length→A7k (λ(a:List Int) (i:Nat) (x:Int)=>(Sum.inl (a.set i (-1)):List Int⊕List Int)) (λa=>a) a i (List.replicate m (0:Int))=a.take i++List.replicate m (-1):=by
   intro m
   induction m with
   | zero=>intro a i hi; simp [A7k,List.take_of_length_le (show a.length≤i by omega)]
   | succ m ih=>
    intro a i hi
    rw [List.replicate_succ]
    simp only [A7k]
    rw [ih _ (i+1) (by simp; omega),List.take_add_one,List.take_set_of_le (Nat.le_refl _),List.getElem?_set_self (by omega)]
    simp [List.replicate_succ]
  rw [key n (List.replicate n 0) 0 (by simp)]
  simp
 simp only [Zt,l0,Oz]
 obtain ⟨k,rfl⟩:=Zn hk
 have hx:(List.replicate n (-1:Int))[k]?=some (-1):=by rw [List.getElem?_replicate]; simp; omega
 simp only [J2 hx,Oz,Zt]
 have hns:=C7o hx (by omega) (a:=(0:Int)) (by omega)
 have hle:=C9U (List.replicate n (-1:Int))
 rw [List.length_replicate] at hle
 obtain ⟨r,hr,hI⟩:=L6 (f:=A8q t) (λs=>StI n s.1 s.2∧2*neg s.1+s.2.length≤100) (λs=>2*neg s.1+s.2.length) (λr=>∃ q,StI n r q) (λs hs=>by
  obtain ⟨out,queue⟩:=s
  obtain ⟨hI,hm⟩:=hs
  simp only [A8q,Cd]
  cases queue with
  | nil=>right; exact ⟨_,rfl,[],hI⟩
  | cons e queue=>
   left
   have he:=hI.q e (by simp)
   rw [if_pos (by simp only [Lc]; omega)]
   obtain ⟨r,hr,h1,h2⟩:=C4D h hn.symm hI.len he (2*neg out+queue.length) (by simp at hm; omega) out queue ⟨hI.len,hI.bd,λk hk=>hI.q k (by simp [hk])⟩ (Nat.le_refl _)
   simp only [show G7 (e::queue) (0:Int)=some e from rfl,Oz,C5I,hr]
   exact ⟨_,rfl,⟨h1,by simp at hm ⊢; omega⟩,by simp; omega⟩) FUEL ((List.replicate n (-1:Int)).set k 0,[(k:Int)])
  ⟨⟨by simp,λx hx=>by
   dsimp only at hx ⊢
   rcases List.mem_or_eq_of_mem_set hx with hx | rfl
   ·rw [List.mem_replicate] at hx; omega
   ·omega,λq hq=>by rw [Ms] at hq; subst hq; omega⟩,by dsimp only; simp; omega⟩ (fuel (by dsimp only; simp; omega))
 obtain ⟨q,hI⟩:=hI
 exact ⟨r,by rw [hr]; rfl,by rw [hI.len],λx hx=>by have:=hI.bd x hx; omega⟩
end Go.Pl
namespace Go.Pl
open Go Go.Sl Go.Dm
theorem B8j {l:List Int} (hl:l.length≤maxLen) (v:Int):A1g l v=some (l.any λy=>decide (v=y)):=by
 have:A4o l v=some (Y7 (λy=>decide (v=y)) 0 l):=by
  unfold A4o
  refine B1w l _ hl (λi x h=>?_) (by simp [A2T])
  have hi:=P5 h
  rw [mx] at hl
  simp only [A2T,J2 h,Oz,Cd]
  rw [if_pos (by omega),H6 (by omega)]
  by_cases hx:v=x <;> simp [hx]
 simp only [A1g,this,Oz]
 congr 1
 have:=B1L (λy=>decide (v=y)) l 0
 cases h:l.any λy=>decide (v=y)
 ·rw [h] at this; simp at this; exact Df (by omega)
 ·rw [h] at this; simp at this; exact Dt this
theorem containsS {l:List ByteArray} (hl:l.length≤maxLen) (v:ByteArray):A6u l v=some (l.any λy=>decide (v=y)):=by
 have:B0B l v=some (Y7 (λy=>decide (v=y)) 0 l):=by
  unfold B0B
  refine B1w l _ hl (λi x h=>?_) (by simp [A6B])
  have hi:=P5 h
  rw [mx] at hl
  simp only [A6B,J2 h,Oz,Cd]
  rw [if_pos (by omega),H6 (by omega)]
  by_cases hx:v=x <;> simp [hx]
 simp only [A6u,this,Oz]
 congr 1
 have:=B1L (λy=>decide (v=y)) l 0
 cases h:l.any λy=>decide (v=y)
 ·rw [h] at this; simp at this; exact Df (by omega)
 ·rw [h] at this; simp at this; exact Dt this
theorem C3e {t:D7} (h:M6 t≠0):∃ r,A3V t=some r∧(r.length:Int)=M6 t:=by
 obtain ⟨lay,k,e1,e2,h1,h2⟩:=C8q h
 obtain ⟨r,e3,hr,hb⟩:=D0e h h1 h2
 have hs:=Y5 t
 simp only [A3V,e1,e2,e3,Oz]
 obtain ⟨q,hq,hl⟩:=L6 (f:=A6J r) (λs=>s.1.length=r.length∧∃ k:Nat,s.2=(k:Int)∧k≤r.length) (λs=>r.length - s.2.toNat) (λq=>q.length=r.length) (λs hs'=>by
  obtain ⟨a,i⟩:=s
  obtain ⟨hl,k,rfl,hk⟩:=hs'
  simp only at hl hk
  simp only [A6J,Cd]
  by_cases hlt:(k:Int)<(r.length:Int)
  ·left
   have hx:=Lg (show k<a.length by omega)
   rw [if_pos hlt]
   simp only [J2 hx,Oz,H6 (show k<9223372036854775807 by omega),Zt]
   by_cases hn:a[k]<0
   ·rw [if_pos hn]
    exact ⟨_,rfl,⟨by simpa using hl,k+1,rfl,by omega⟩,by dsimp only; omega⟩
   ·rw [if_neg hn]
    exact ⟨_,rfl,⟨hl,k+1,rfl,by omega⟩,by dsimp only; omega⟩
  ·right
   rw [if_neg hlt]
   exact ⟨_,rfl,hl⟩) FUEL (r,(0:Int)) ⟨rfl,0,rfl,by omega⟩ (fuel (by dsimp only; omega))
 exact ⟨q,by rw [hq]; rfl,by rw [hl,hr]⟩
theorem A5M {l:List D7} (h:OkH l):0≤R8 l∧R8 l≤384:=by
 have:=A2I l
 have:=h.len
 omega
theorem B3y {l:List D7} (h:OkH l) {s:Int} (h1:s≤1000000):(A1P l s=some (0,0,false))∨∃ (i:Nat) (k:Int) (t:D7),A1P l s=some ((i:Int),k,true)∧l[i]?=some t∧0≤k∧k<M6 t∧s=R8 (l.take i)+k:=by
 rw [C5z h (by rw [mx]; omega)]
 by_cases h0:s<0
 ·left; rw [if_pos h0]; rfl
 ·rw [if_neg h0]
  cases hw:whR l s 0 with
  | none=>left; rfl
  | some p=>
   obtain ⟨i,k⟩:=p
   obtain ⟨t,ht,_,hk,hk',hs⟩:=C4T l s 0 (by omega) hw
   exact .inr ⟨i,k,t,rfl,by simpa using ht,hk,hk',by simpa using hs⟩
theorem C9a {l:List D7} (h:OkH l) {s:Int} (h1:s≤1000000):∃ v,B2A l s=some v:=by
 unfold B2A
 rcases B3y h h1 with e | ⟨i,k,t,e,ht,hk,hk',_⟩
 ·rw [e]; exact ⟨_,rfl⟩
 ·obtain ⟨r,hr,hl⟩:=C3e (t:=t) (by omega)
  obtain ⟨k,rfl⟩:=Zn hk
  have hx:=Lg (show k<r.length by omega)
  rw [e]
  simp only [Oz,Bq,Cn,J2 ht,hr,J2 hx]
  exact ⟨_,rfl⟩
theorem D0W {l:List D7} (h:OkH l) {s:Int} (h1:s≤1000000):∃ v,B4Q l s=some v:=by
 unfold B4Q
 rcases B3y h h1 with e | ⟨i,k,t,e,ht,hk,hk',_⟩
 ·rw [e]; exact ⟨_,rfl⟩
 ·rw [e]
  simp only [Oz,Cy,J2 ht,B8j (h.ok.2 t (A0C ht)).2]
  exact ⟨_,rfl⟩
theorem C7t {l:List D7} (h:OkH l) {a b:Int} (h1:a≤1000000) (h2:b≤1000000):(∃ z,A9w l a b=some (z,0,0,false))∨∃ t x y,A9w l a b=some (t,x,y,true)∧t∈l∧0≤x∧x<M6 t∧0≤y∧y<M6 t:=by
 unfold A9w
 rcases B3y h h1 with e | ⟨i,k,t,e,ht,hk,hk',_⟩
 ·rcases B3y h h2 with e' | ⟨i',k',t',e',ht',hj,hj',_⟩ <;> (rw [e,e']; exact .inl ⟨_,rfl⟩)
 ·rcases B3y h h2 with e' | ⟨i',k',t',e',ht',hj,hj',_⟩
  ·rw [e,e']; exact .inl ⟨_,rfl⟩
  ·rw [e,e']
   by_cases hi:(i:Int)=(i':Int)
   ·have:i=i':=by omega
    subst this
    rw [ht] at ht'
    cases ht'
    right
    refine ⟨t,k,k',?_,A0C ht,hk,hk',hj,hj'⟩
    simp [J2 ht]
   ·left
    refine ⟨D7.mk (⟨#[]⟩:ByteArray) (0:Int) (0:Int) (0:Int) ([]:List Int) (0:Int) (0:Int),?_⟩
    simp only [Oz,Bq,Cn,hi,decide_false,Bp,Cy]
theorem C7Q {l:List D7} (h:OkH l) {a b:Int} (h1:a≤1000000) (h2:b≤1000000):∃ z,B0M l a b=some z:=by
 unfold B0M
 rcases C7t h h1 h2 with ⟨z,e⟩ | ⟨t,x,y,e,ht,hx,hx',hy,hy'⟩
 ·rw [e]; exact ⟨_,rfl⟩
 ·have:=Y5 t
  obtain ⟨z,hz⟩:=B4E (t:=t) (by omega) hx (by omega) hy (by omega)
  rw [e]
  simp only [Oz,Cy,hz]
  exact ⟨_,rfl⟩
theorem C8b {l:List D7} (h:OkH l) {a b:Int} (h1:a≤1000000) (h2:b≤1000000):∃ z,B0X l a b=some z:=by
 unfold B0X
 rcases C7t h h1 h2 with ⟨z,e⟩ | ⟨t,x,y,e,ht,hx,hx',hy,hy'⟩
 ·rw [e]; exact ⟨_,rfl⟩
 ·have:=Y5 t
  obtain ⟨z,hz⟩:=B4B (t:=t) (by omega) hx (by omega) hy (by omega)
  rw [e]
  simp only [Oz,Cy,hz]
  exact ⟨_,rfl⟩
theorem C5E {f:Nat} {n:Nat} (hf:f≤1000) (hn:n≤1000) {so:Int→Option Bool} (h:∀ k:Int,f≤k→k<f+n→∃ b,so k=some b) :
  ∃ r,A9K (f:Int) (n:Int) so=some r∧r.length≤n∧∀ x∈r,(f:Int)≤x∧x<f+n:=by
 obtain ⟨r,hr,hl⟩:=L6 (f:=A8g (f:Int) (n:Int) so) (λs=>∃ k:Nat,s.2=((f+k:Nat):Int)∧k≤n∧s.1.length≤k∧∀ x∈s.1,(f:Int)≤x∧x<f+n) (λs=>f+n - s.2.toNat) (λr=>r.length≤n∧∀ x∈r,(f:Int)≤x∧x<f+n) (λs hs=>by
  obtain ⟨a,i⟩:=s
  obtain ⟨k,hk,hkn,hl,hx⟩:=hs
  simp only at hk hl hx
  subst hk
  simp only [A8g,A2d (show -1000000000≤(f:Int)+(n:Int) by omega) (by omega),Oz,Cd]
  by_cases hlt:((f+k:Nat):Int)<(f:Int)+(n:Int)
  ·left
   obtain ⟨b,hb⟩:=h ((f+k:Nat):Int) (by omega) (by omega)
   rw [if_pos hlt,hb]
   simp only [Oz,H6 (show f+k<9223372036854775807 by omega),V4 (show a.length≤1000 by omega)]
   cases b
   ·exact ⟨_,rfl,⟨k+1,rfl,by omega,by dsimp only; omega,hx⟩,by dsimp only; omega⟩
   ·refine ⟨_,rfl,⟨k+1,rfl,by omega,by simp; omega,λx hx'=>?_⟩,by dsimp only; omega⟩
    rcases List.mem_append.1 hx' with hx' | hx'
    ·exact hx x hx'
    ·rw [Ms] at hx'; subst hx'; omega
  ·right
   rw [if_neg hlt]
   exact ⟨_,rfl,by omega,hx⟩) FUEL (([]:List Int),(f:Int)) ⟨0,rfl,by omega,by simp,λx hx=>by cases hx⟩ (fuel (by dsimp only; omega))
 exact ⟨r,by simp only [A9K,hr,Oz],hl⟩
end Go.Pl
namespace Go.Pl
open Go Go.Sl Go.Dm
structure TbI (T N k:Nat) (tb lv:List Int) (op:List Bool) (bs ac:List (List Int)):Prop where
 tbl:tb.length=k
 lvl:lv.length=k
 opl:op.length=k
 bsl:bs.length=k
 acl:ac.length=k
 tbv:∀ x∈tb,0≤x∧x<T
 bsv:∀ r∈bs,r.length≤24∧∀ x∈r,0≤x∧x<N
 acv:∀ r∈ac,r.length≤24∧∀ x∈r,0≤x∧x<N
theorem A8h {α:Type} {P:α→Prop} {l:List α} {y:α} (h:∀ x∈l,P x) (hy:P y):∀ x∈l++[y],P x:=λx hx=>by
 rcases List.mem_append.1 hx with hx | hx
 ·exact h x hx
 ·rw [Ms] at hx; subst hx; exact hy
theorem C7R {p:C9} (h:OkH p.C8) {ti f n N:Nat} (hti:ti<p.C8.length) (hfn:f+n≤N) (hN:N≤384) (hn:n≤24) :
  ∀ (tb lv:List Int) (op:List Bool) (bs ac:List (List Int)),TbI p.C8.length N f tb lv op bs ac→
   ∃ r,iter (B0H p (ti:Int) (f:Int) (n:Int)) FUEL (tb,lv,op,bs,ac,(f:Int))=some r∧TbI p.C8.length N (f+n) r.1 r.2.1 r.2.2.1 r.2.2.2.1 r.2.2.2.2:=by
 intro tb lv op bs ac hI
 refine L6 (λs=>∃ k:Nat,s.2.2.2.2.2=((f+k:Nat):Int)∧k≤n∧TbI p.C8.length N (f+k) s.1 s.2.1 s.2.2.1 s.2.2.2.1 s.2.2.2.2.1) (λs=>f+n - s.2.2.2.2.2.toNat) _ ?_ FUEL _ ⟨0,rfl,by omega,hI⟩ (fuel (by dsimp only; omega))
 rintro ⟨tb,lv,op,bs,ac,i⟩ ⟨k,hk,hkn,hI⟩
 simp only at hk hI
 subst hk
 have h16:=h.len
 simp only [B0H,A2d (show -1000000000≤(f:Int)+(n:Int) by omega) (by omega),Oz,Cd]
 by_cases hlt:((f+k:Nat):Int)<(f:Int)+(n:Int)
 ·left
  obtain ⟨v1,e1⟩:=C9a h (s:=((f+k:Nat):Int)) (by omega)
  obtain ⟨v2,e2⟩:=D0W h (s:=((f+k:Nat):Int)) (by omega)
  obtain ⟨v3,e3,l3,b3⟩:=C5E (f:=f) (n:=n) (by omega) (by omega) (so:=λy0=>B0k y0 p ((f+k:Nat):Int)) (λq hq hq'=>by
   obtain ⟨z,hz⟩:=C7Q h (a:=((f+k:Nat):Int)) (b:=q) (by omega) (by omega)
   exact ⟨z,by simp only [B0k,hz,Oz]⟩)
  obtain ⟨v4,e4,l4,b4⟩:=C5E (f:=f) (n:=n) (by omega) (by omega) (so:=λy0=>A9R y0 p ((f+k:Nat):Int)) (λq hq hq'=>by
   obtain ⟨z,hz⟩:=C8b h (a:=((f+k:Nat):Int)) (b:=q) (by omega) (by omega)
   exact ⟨z,by simp only [A9R,hz,Oz]⟩)
  rw [if_pos hlt]
  simp only [B8Y,e1,e2,e3,e4,V4 (show tb.length≤1000 by rw [hI.tbl]; omega),V4 (show lv.length≤1000 by rw [hI.lvl]; omega),V4 (show op.length≤1000 by rw [hI.opl]; omega),V4 (show bs.length≤1000 by rw [hI.bsl]; omega),V4 (show ac.length≤1000 by rw [hI.acl]; omega),Oz,H6 (show f+k<9223372036854775807 by omega)]
  refine ⟨_,rfl,⟨k+1,rfl,by omega,?_⟩,by dsimp only; omega⟩
  dsimp only
  exact ⟨by simp [hI.tbl]; omega,by simp [hI.lvl]; omega,by simp [hI.opl]; omega,by simp [hI.bsl]; omega,by simp [hI.acl]; omega,
   A8h hI.tbv ⟨by omega,by omega⟩,A8h hI.bsv ⟨by omega,λx hx=>by have:=b3 x hx; omega⟩,A8h hI.acv ⟨by omega,λx hx=>by have:=b4 x hx; omega⟩⟩
 ·right
  rw [if_neg hlt]
  have:k=n:=by omega
  subst this
  exact ⟨_,rfl,hI⟩
theorem C9R (t:D7):R8 [t]=M6 t:=by simp [R8]
theorem OkH.one {l:List D7} (h:OkH l) {t:D7} (ht:t∈l):OkH [t]:=by
 refine ⟨⟨by rw [mx]; simp,λx hx=>by rw [Ms] at hx; subst hx; exact h.ok.2 x ht⟩,?_⟩
 have h0:=h.t ht
 simp [A8T,A0M,B6a,h0,C9A]
theorem OkH.first {l:List D7} (h:OkH l) {i:Nat} (hi:i<l.length):A2n l (i:Int)=some (R8 (l.take i)):=by
 have h16:=h.len
 unfold A2n
 have h1:decide ((i:Int)<0)=false:=Df (by omega)
 have h2:decide ((l.length:Int)≤(i:Int))=false:=Df (by omega)
 simp only [h1,h2,Cn,h.valid,Oz,Bq,B0a (Nat.le_of_lt hi),C0D (show (l.take i).length≤16 by simp; omega)]
theorem D0X {α:Type} {l:List α} {i:Nat} {x:α} (h:l[i]?=some x):sbL l (i:Int) ((i+1:Nat):Int)=some [x]:=by
 obtain ⟨hi,rfl⟩:=List.getElem?_eq_some_iff.1 h
 show (bif Nat.ble i (i+1) && Nat.ble (i+1) l.length then some (sub l i (i+1)) else none)=some [l[i]]
 have h1:Nat.ble i (i+1)=true:=Nb (by omega)
 have h2:Nat.ble (i+1) l.length=true:=Nb hi
 rw [h1,h2]
 simp only [Bool.and_self,Cy,sub]
 congr 1
 rw [List.take_add_one,List.drop_append,Lg hi]
 simp [Nat.min_eq_left (Nat.le_of_lt hi)]
theorem B9d (l:List D7):∀ i,R8 (l.take i)≤R8 l:=by
 intro i
 have:R8 l=R8 (l.take i)+R8 (l.drop i):=by
  conv=>lhs; rw [←List.take_append_drop i l]
  simp only [R8,List.map_append,List.sum_append]
 have:=(A2I (l.drop i)).1
 omega
theorem C8D {p:C9} (h:OkH p.C8) {N:Nat} (hN:R8 p.C8=(N:Int)) :
  ∃ r,iter (B0t p) FUEL (([]:List Int),([]:List Int),([]:List Bool),([]:List (List Int)),([]:List (List Int)),(0:Int))=some r∧TbI p.C8.length N N r.1 r.2.1 r.2.2.1 r.2.2.2.1 r.2.2.2.2:=by
 have h16:=h.len
 have hs:=A5M h
 refine L6 (λs=>∃ k:Nat,s.2.2.2.2.2=(k:Int)∧k≤p.C8.length∧∃ f:Nat,(f:Int)=R8 (p.C8.take k)∧TbI p.C8.length N f s.1 s.2.1 s.2.2.1 s.2.2.2.1 s.2.2.2.2.1) (λs=>p.C8.length - s.2.2.2.2.2.toNat) _ ?_ FUEL _
  ⟨0,rfl,by omega,0,by simp [R8],TbI.mk rfl rfl rfl rfl rfl (λx hx=>by cases hx) (λx hx=>by cases hx) (λx hx=>by cases hx)⟩ (fuel (by dsimp only; omega))
 rintro ⟨tb,lv,op,bs,ac,i⟩ ⟨k,hk,hkn,f,hf,hI⟩
 simp only at hk hI
 subst hk
 simp only [B0t,Cd]
 by_cases hlt:(k:Int)<(p.C8.length:Int)
 ·left
  have hk':k<p.C8.length:=by omega
  have hx:=Lg hk'
  have hm:=Gm hk'
  have hb:=Y5 p.C8[k]
  obtain ⟨n,hn⟩:=Zn hb.1
  have hts:=A8H p.C8 k hx
  have htl:=B9d p.C8 (k+1)
  have hcount:A2u [p.C8[k]]=some (n:Int):=by rw [B1o (h.one hm).ok (h.one hm).v,C9R,hn]
  rw [if_pos hlt]
  simp only [h.first hk',←hf,H6 (show k<9223372036854775807 by omega),D0X hx,hcount,Oz]
  obtain ⟨r,hr,hI'⟩:=C7R h hk' (f:=f) (n:=n) (N:=N) (by omega) (by omega) (by omega) tb lv op bs ac hI
  rw [hr]
  simp only [Oz]
  exact ⟨_,rfl,⟨k+1,rfl,by omega,f+n,by rw [hts]; omega,hI'⟩,by dsimp only; omega⟩
 ·right
  rw [if_neg hlt]
  have:k=p.C8.length:=by omega
  subst this
  rw [List.take_length] at hf
  have:f=N:=by omega
  subst this
  exact ⟨_,rfl,hI⟩
end Go.Pl
namespace Go.Pl
open Go Go.Sl Go.Dm
theorem D1J (p q:Nat→Bool) (k:Nat) (hk:p k=true) (hq:q k=false) (he:∀ i,i≠k→p i=q i):∀ N,k<N→(List.range N).countP p=(List.range N).countP q+1:=by
 intro N
 induction N with
 | zero=>intro h; omega
 | succ N ih=>
  intro h
  rw [List.range_succ,List.countP_append,List.countP_append]
  by_cases hkn:k=N
  ·subst hkn
   have:(List.range k).countP p=(List.range k).countP q:=List.countP_congr (λi hi=>by
    rw [Mr] at hi
    rw [he i (by omega)])
   simp [this,hk,hq]
  ·rw [ih (by omega)]
   have:=he N (λe=>hkn e.symm)
   simp [this]
   omega
def unv (N:Nat) (out:List (Int×Int)):Nat:=(List.range N).countP (λi:Nat=>(A4c out (i:Int)).isNone)
theorem D1p {N:Nat} {out:List (Int×Int)} {k:Nat} (hk:k<N) (h:A4c out (k:Int)=none) (v:Int):unv N (A2z out (k:Int) v)+1=unv N out:=by
 unfold unv
 rw [D1J (λi:Nat=>(A4c out (i:Int)).isNone) (λi:Nat=>(A4c (A2z out (k:Int) v) (i:Int)).isNone) k (by simp [h]) (by simp [A9q]) (λi hi=>by
  have:¬ (i:Int)=(k:Int):=by omega
  simp [A9q,this]) N hk]
theorem C3Z (N:Nat) (out:List (Int×Int)):unv N out≤N:=by
 unfold unv
 have:=List.countP_le_length (p:=λi:Nat=>(A4c out (i:Int)).isNone) (l:=List.range N)
 simpa using this
structure WI (N:Nat) (out:List (Int×Int)) (line:List Int):Prop where
 mv:∀ k v,A4c out k=some v→0≤v∧v+unv N out≤N
 ln:∀ x∈line,0≤x∧x<N
theorem C6I (m:List (Int×Int)) (k:Int):(∃ v,lkM m k (0:Int)=some (v,true)∧A4c m k=some v)∨(lkM m k (0:Int)=some (0,false)∧A4c m k=none):=by
 unfold lkM
 cases h:A4c m k with
 | none=>right; exact ⟨rfl,rfl⟩
 | some v=>left; exact ⟨v,rfl,rfl⟩
theorem C6T {N M:Nat} (hM:M≤2000) (hN:N≤384) {es:List Int} (hl:es.length≤24) (he:∀ x∈es,0≤x∧x<N) (hd:Int) :
  ∀ out rest,WI N out (hd::rest)→2*unv N out+(hd::rest).length≤M→∃ r,iter (A7K es) FUEL ((0:Int),out,hd::rest)=some r∧∃ rest',r.2=hd::rest'∧WI N r.1 (hd::rest')∧2*unv N r.1+(hd::rest').length≤M:=by
 intro out rest hI hm
 refine L6 (λs=>∃ k:Nat,s.1=(k:Int)∧k≤es.length∧∃ rest,s.2.2=hd::rest∧WI N s.2.1 (hd::rest)∧2*unv N s.2.1+(hd::rest).length≤M) (λs=>es.length - s.1.toNat) _ ?_ FUEL _ ⟨0,rfl,by omega,rest,rfl,hI,hm⟩ (fuel (by dsimp only; omega))
 rintro ⟨i,out,line⟩ ⟨k,hk,hkn,rest,hr,hI,hm⟩
 simp only at hk hr hI hm
 subst hk; subst hr
 simp only [A7K,B5L,Cd]
 by_cases hlt:(k:Int)<(es.length:Int)
 ·left
  have hk':k<es.length:=by omega
  have hx:=Lg hk'
  have hb:=he _ (Gm hk')
  generalize es[k]=e at hx hb
  rw [if_pos hlt]
  simp only [J2 hx,Oz,H6 (show k<9223372036854775807 by omega)]
  rcases C6I out e with ⟨v,h1,h2⟩ | ⟨h1,h2⟩
  ·rw [h1]
   exact ⟨_,rfl,⟨k+1,rfl,by omega,rest,rfl,hI,hm⟩,by dsimp only; omega⟩
  ·rw [h1]
   have hle:=C3Z N out
   obtain ⟨v,ok,h3,h4⟩:∃ v ok,lkM out hd (0:Int)=some (v,ok)∧0≤v∧v+unv N out≤N:=by
    rcases C6I out hd with ⟨v,h3,h4⟩ | ⟨h3,_⟩
    ·exact ⟨v,_,h3,hI.mv _ _ h4⟩
    ·exact ⟨0,_,h3,by omega,by omega⟩
   obtain ⟨e',rfl⟩:=Zn hb.1
   have hu:=D1p (N:=N) (k:=e') (by omega) h2 (v+1)
   simp only [Oz,Bp,Cy,show G7 (hd::rest) (0:Int)=some hd from rfl,h3,A2d (show -1000000000≤v+1 by omega) (by omega),B2a (show (hd::rest).length+[(e':Int)].length≤1000000000 by simp at hm ⊢; omega)]
   refine ⟨_,rfl,⟨k+1,rfl,by omega,rest++[(e':Int)],rfl,⟨λq w hq=>?_,λx hx=>?_⟩,by simp at hm ⊢; omega⟩,by dsimp only; omega⟩
   ·dsimp only at hq ⊢
    rw [A9q] at hq
    split at hq
    ·cases hq; omega
    ·have:=hI.mv q w hq; omega
   ·rw [←List.cons_append] at hx
    exact A8h hI.ln (y:=(e':Int)) ⟨by omega,by omega⟩ x hx
 ·right
  rw [if_neg hlt]
  exact ⟨_,rfl,rest,rfl,hI,hm⟩
theorem D1A {j:O0} {N:Nat} (hN:N≤384) (hb:j.W9.length=N) (ha:j.A0s.length=N) (hbv:∀ r∈j.W9,r.length≤24∧∀ x∈r,0≤x∧x<N) (hav:∀ r∈j.A0s,r.length≤24∧∀ x∈r,0≤x∧x<N)
  {f:Nat} (hf:f<N):∃ r,B2h j (f:Int)=some r∧∀ k v,A4c r k=some v→0≤v∧v≤N:=by
 unfold B2h
 have hmv:∀ k v,A4c (A2z ([]:List (Int×Int)) (f:Int) (0:Int)) k=some v→0≤v∧v+unv N (A2z ([]:List (Int×Int)) (f:Int) (0:Int))≤N:=λk v h=>by
  rw [A9q] at h
  have:=C3Z N (A2z ([]:List (Int×Int)) (f:Int) (0:Int))
  split at h
  ·cases h; omega
  ·cases h
 have hln:∀ x∈[(f:Int)],0≤x∧x<N:=λx hx=>by rw [Ms] at hx; subst hx; omega
 obtain ⟨r,hr,hq⟩:=L6 (f:=A8o j) (λs=>WI N s.1 s.2∧2*unv N s.1+s.2.length≤2000) (λs=>2*unv N s.1+s.2.length) (λr=>∀ k v,A4c r k=some v→0≤v∧v≤N) (λs hs=>by
  obtain ⟨out,line⟩:=s
  obtain ⟨hI,hm⟩:=hs
  simp only at hI hm
  simp only [A8o,Cd]
  cases line with
  | nil=>right; exact ⟨_,rfl,λk v h=>by have:=hI.mv k v h; omega⟩
  | cons hd rest=>
   left
   have hh:=hI.ln hd (by simp)
   obtain ⟨d,rfl⟩:=Zn hh.1
   have h1:=Lg (show d<j.W9.length by omega)
   have h2:=Lg (show d<j.A0s.length by omega)
   have v1:=hbv _ (Gm (show d<j.W9.length by omega))
   have v2:=hav _ (Gm (show d<j.A0s.length by omega))
   generalize j.W9[d]=e1 at h1 v1
   generalize j.A0s[d]=e2 at h2 v2
   rw [if_pos (by simp only [Lc]; omega)]
   have g0:G7 ((d:Int)::rest) (0:Int)=some (d:Int):=rfl
   obtain ⟨q,hq,rest',e,hI',hm'⟩:=L6 (f:=A8b e1 e2) (λs=>∃ k:Nat,s.1=(k:Int)∧k≤2∧∃ rest',s.2.2=(d:Int)::rest'∧WI N s.2.1 ((d:Int)::rest')∧2*unv N s.2.1+((d:Int)::rest').length≤2*unv N out+((d:Int)::rest).length) (λs=>2 - s.1.toNat)
    (λr=>∃ rest',r.2=(d:Int)::rest'∧WI N r.1 ((d:Int)::rest')∧2*unv N r.1+((d:Int)::rest').length≤2*unv N out+((d:Int)::rest).length) (λs hs=>by
     obtain ⟨i,out',line'⟩:=s
     obtain ⟨k,hk,hk2,rest',e,hI',hm'⟩:=hs
     simp only at hk e hI' hm'
     subst hk; subst e
     simp only [A8b,Cd]
     by_cases hlt:(k:Int)<([e1,e2].length:Int)
     ·left
      have hk':k<[e1,e2].length:=by omega
      have hx:=Lg hk'
      have hv:[e1,e2][k].length≤24∧∀ x∈[e1,e2][k],0≤x∧x<N:=by
       have:=Gm hk'
       simp only [List.mem_cons,List.not_mem_nil,or_false] at this
       rcases this with h | h
       ·rw [h]; exact v1
       ·rw [h]; exact v2
      generalize [e1,e2][k]=es at hx hv
      obtain ⟨q,hq,rest'',e,hI'',hm''⟩:=C6T (M:=2*unv N out+((d:Int)::rest).length) hm hN hv.1 hv.2 (d:Int) out' rest' hI' hm'
      rw [if_pos hlt]
      simp only [J2 hx,hq,Oz,H6 (show k<9223372036854775807 by simp at hk'; omega)]
      exact ⟨_,rfl,⟨k+1,rfl,by simp at hk'; omega,rest'',e,hI'',hm''⟩,by simp at hk' ⊢; omega⟩
     ·right
      rw [if_neg hlt]
      exact ⟨_,rfl,rest',rfl,hI',hm'⟩) FUEL ((0:Int),out,(d:Int)::rest) ⟨0,rfl,by omega,rest,rfl,hI,Nat.le_refl _⟩ (fuel (by dsimp only; omega))
   obtain ⟨out',line'⟩:=q
   simp only at e hI' hm'
   subst e
   simp only [g0,J2 h1,J2 h2,Oz,hq,C5I]
   simp only [Lc] at hm hm'
   exact ⟨_,rfl,⟨⟨hI'.mv,λx hx=>hI'.ln x (by simp [hx])⟩,by dsimp only; omega⟩,by simp only [Lc]; omega⟩) FUEL (A2z ([]:List (Int×Int)) (f:Int) (0:Int),[(f:Int)])
  ⟨WI.mk hmv hln,by have:=C3Z N (A2z ([]:List (Int×Int)) (f:Int) (0:Int)); simp; omega⟩ (fuel (by have:=C3Z N (A2z ([]:List (Int×Int)) (f:Int) (0:Int)); simp; omega))
 exact ⟨r,by simp only [Oz,hr],hq⟩
end Go.Pl
namespace Go.Pl
open Go Go.Sl Go.Dm
theorem B4R {τ:Type} {bad:Nat→τ→Option (Int×Int)} (hb:∀ i x p,bad i x=some p→p.2≠0):∀ (xs:List τ) (i:Nat) {p:Int×Int},U3 bad i xs=some p→p.2≠0
 | [],_,_,h=>by cases h
 | x::xs,i,p,h=>by
  simp only [U3] at h
  cases hx:bad i x with
  | none=>rw [hx] at h; exact B4R hb xs _ h
  | some q=>rw [hx] at h; cases h; exact hb _ _ _ hx
theorem D0Q (gs:List E9):∀ i x p,B1s gs i x=some p→p.2≠0:=λi x p h=>by
 unfold B1s at h
 split at h
 ·rename_i hc; cases h; exact hc
 ·split at h
  ·cases h; simp
  ·split at h
   ·cases h; simp
   ·cases h
theorem D1c (r:Q5):∀ i x p,B8Q r i x=some p→p.2≠0:=λi x p h=>by
 unfold B8Q at h
 repeat' split at h
 all_goals (cases h; try simp)
theorem B8f {r:Q5} (h:(B4T r).2=0):U3 (B1s r.A7) 0 r.A7=none∧U3 (B8Q r) 0 r.N7=none:=by
 unfold B4T at h
 cases hF:U3 (B1s r.A7) 0 r.A7 with
 | some p=>rw [hF] at h; exact absurd h (B4R (D0Q _) _ _ hF)
 | none=>
  rw [hF] at h
  cases hT:U3 (B8Q r) 0 r.N7 with
  | some p=>rw [hT] at h; exact absurd h (B4R (D1c _) _ _ hT)
  | none=>exact ⟨rfl,rfl⟩
theorem D0K {r:Q5} (h:OkR r) (hc:(B4T r).2=0):∃ m,A7E r=some (some ⟨⟨r.A7,r.N7⟩,m⟩,0,0)∧Knows m r.A7:=by
 obtain ⟨hF,hT⟩:=B8f hc
 have h0:=C0t h
 rw [hF] at h0
 obtain ⟨o,ho,m,rfl,hm⟩:=h0
 have h1:=C0V h (D2E hF) hm
 rw [hT] at h1
 obtain ⟨o,ho',rfl⟩:=h1
 refine ⟨m,?_,hm⟩
 simp only [A7E,B4K,Oz,ho,ho']
theorem D2S {r:Q5} (hc:(B4T r).2=0) {g:E9} (hg:g∈r.A7):A9X g=0:=by
 obtain ⟨k,hk⟩:=List.getElem?_of_mem hg
 have:=A8E _ 0 (B8f hc).1 k g hk
 unfold B1s at this
 split at this
 ·cases this
 ·rename_i h; exact Classical.byContradiction λe=>h e
theorem C8x {r:Q5} (hc:(B4T r).2=0):r.N7.length≤256:=by
 apply Classical.byContradiction
 intro hn
 have hx:=Lg (show 256<r.N7.length by omega)
 have:=A8E _ 0 (B8f hc).2 256 _ hx
 unfold B8Q at this
 repeat' split at this
 all_goals first | omega | cases this
theorem C6A {g:E9} (h:g.O6.length≤4):B1g g=some g:=C3b h
structure BkI (gs:List E9) (ts:List H9) (m:List (ByteArray×Int)):Prop where
 k:Knows m gs
 g:∀ g∈gs,g.O6.length≤4
 t:ts.length≤256
def zG:E9:=E9.mk (⟨#[]⟩:ByteArray) (⟨#[]⟩:ByteArray) (⟨#[]⟩:ByteArray) (0:Int) (0:Int) (⟨#[]⟩:ByteArray) false false ([]:List ByteArray)
theorem find_ok {gs:List E9} {ts:List H9} {m:List (ByteArray×Int)} (h:BkI gs ts m) (n:ByteArray):∃ g b,B1u ⟨⟨gs,ts⟩,m⟩ n=some (g,b)∧g.O6.length≤4:=by
 simp only [B1u,A4t,Oz,Cn]
 cases hm:A4c m n with
 | none=>
  have:lkM m n (0:Int)=some (0,false):=by unfold lkM; rw [hm]
  rw [this]
  exact ⟨zG,_,rfl,by simp [zG]⟩
 | some v=>
  have:lkM m n (0:Int)=some (v,true):=by unfold lkM; rw [hm]
  obtain ⟨k,rfl,hk⟩:=h.k.2 n v hm
  have hx:=Lg hk
  have ht:=h.g _ (Gm hk)
  rw [this]
  simp only [Oz,Bq,Cn,J2 hx,C6A ht]
  exact ⟨_,_,rfl,ht⟩
theorem D5i {l:List ByteArray} (hl:l.length≤1000) {f:ByteArray→Option Bool} (hf:∀ x,∃ b,f x=some b):∃ v,A4x l f=some (v,l)∧(v=-1∨∃ k:Nat,v=(k:Int)∧k<l.length):=by
 unfold A4x
 obtain ⟨r,hr,hq⟩:=L6 (f:=A2G l f) (λs=>∃ k:Nat,s=(k:Int)∧k≤l.length) (λs=>l.length - s.toNat) (λr=>r=.inl ()∨∃ k:Nat,r=.inr ((k:Int),l)∧k<l.length) (λs hs=>by
  obtain ⟨k,rfl,hk⟩:=hs
  simp only [A2G,Cd]
  by_cases hlt:(k:Int)<(l.length:Int)
  ·have hk':k<l.length:=by omega
   have hx:=Lg hk'
   obtain ⟨b,hb⟩:=hf l[k]
   rw [if_pos hlt]
   simp only [J2 hx,hb,Oz,H6 (show k<9223372036854775807 by omega)]
   cases b
   ·left; exact ⟨_,rfl,⟨k+1,rfl,by omega⟩,by omega⟩
   ·right; exact ⟨_,rfl,.inr ⟨k,rfl,hk'⟩⟩
  ·right; rw [if_neg hlt]; exact ⟨_,rfl,.inl rfl⟩) FUEL 0 ⟨0,rfl,by omega⟩ (fuel (by simp; omega))
 rw [hr]
 rcases hq with rfl | ⟨k,rfl,hk⟩
 ·exact ⟨_,rfl,.inl rfl⟩
 ·exact ⟨_,rfl,.inr ⟨k,rfl,hk⟩⟩
theorem D2A {i n:Nat} (h:i≤n):bdV (i:Int) (n:Int) (n:Int)=some ():=by
 unfold bdV
 have:((i:Int)≤(n:Int)):=by omega
 simp [this]
theorem D4H {l:List ByteArray} (hl:l.length≤1000) {f:ByteArray→Option Bool} (hf:∀ x,∃ b,f x=some b):∃ r,A2J l f=some r:=by
 obtain ⟨v,e,hv⟩:=D5i hl hf
 simp only [A2J,e,Oz,Cd]
 rcases hv with rfl | ⟨k,rfl,hk⟩
 ·exact ⟨_,rfl⟩
 ·rw [if_neg (by omega)]
  simp only [H6 (show k<9223372036854775807 by omega),Oz]
  obtain ⟨r,hr,i,hi,hi'⟩:=L6 (f:=A2F f) (λs=>∃ i j:Nat,s.2.1=(i:Int)∧s.2.2=(j:Int)∧i<j∧j≤s.1.length∧s.1.length=l.length) (λs=>l.length - s.2.2.toNat) (λr=>∃ i:Nat,r.2=(i:Int)∧i≤r.1.length) (λs hs=>by
   obtain ⟨a,x,y⟩:=s
   obtain ⟨i,j,hi,hj,hij,hj',hl'⟩:=hs
   simp only at hi hj hj' hl'
   subst hi; subst hj
   simp only [A2F,Cd]
   by_cases hlt:(j:Int)<(a.length:Int)
   ·left
    have hx:=Lg (show j<a.length by omega)
    have hx':=Lg (show i<a.length by omega)
    obtain ⟨b,hb⟩:=hf a[j]
    rw [if_pos hlt]
    simp only [J2 hx,J2 hx',hb,Oz,H6 (show j<9223372036854775807 by omega),H6 (show i<9223372036854775807 by omega)]
    cases b
    ·exact ⟨_,rfl,⟨i+1,j+1,rfl,rfl,by omega,by simp; omega,by simp; omega⟩,by dsimp only; omega⟩
    ·exact ⟨_,rfl,⟨i,j+1,rfl,rfl,by omega,by dsimp only; omega,hl'⟩,by dsimp only; omega⟩
   ·right
    rw [if_neg hlt]
    exact ⟨_,rfl,i,rfl,by dsimp only; omega⟩) FUEL (l,(k:Int),((k+1:Nat):Int)) ⟨k,k+1,rfl,rfl,by omega,hk,rfl⟩ (fuel (by dsimp only; omega))
  obtain ⟨a,x⟩:=r
  simp only at hi hi'
  subst hi
  rw [hr]
  simp only [Oz,D2A hi',Zt]
  have hlen:i≤(A3u a i (List.replicate (a.length - i) (⟨#[]⟩:ByteArray))).length:=by
   rw [C9V (by simp; omega)]; exact hi'
  rw [B0a hlen]
  exact ⟨_,rfl⟩
theorem C8v {gs:List E9} {ts:List H9} {m:List (ByteArray×Int)} (h:BkI gs ts m) (n n':ByteArray):∃ r,B0K ⟨⟨gs,ts⟩,m⟩ n n'=some r:=by
 obtain ⟨g,b,e,hg⟩:=find_ok h n
 obtain ⟨g',b',e',hg'⟩:=find_ok h n'
 simp only [B0K,e,e',Oz]
 cases b
 ·exact ⟨_,rfl⟩
 cases b'
 ·exact ⟨_,rfl⟩
 obtain ⟨r,hr⟩:=D4H (l:=g.O6) (by omega) (f:=λy0=>A4I y0 g') (λx=>by
  simp only [A4I,containsS (l:=g'.O6) (by rw [mx]; omega),Oz]
  exact ⟨_,rfl⟩)
 simp only [Bq,Cn]
 have hr':A2J g.O6 (λy0=>A4I y0 (E9.mk g'.F8 g'.A2b g'.V6 g'.A0o g'.A0y g'.A0z g'.X7 g'.Y4 g'.O6))=some r:=hr
 rw [hr']
 exact ⟨_,rfl⟩
theorem D2i {L:List H9} (hL:L.length≤1000) (q:H9):∃ i:Nat,iter (A0V L q A1a) FUEL ((L.length:Int),(0:Int))=some (i:Int)∧i≤L.length:=by
 obtain ⟨r,hr,i,rfl,hi⟩:=L6 (f:=A0V L q A1a) (λs=>∃ j i:Nat,s=((j:Int),(i:Int))∧i≤j∧j≤L.length) (λs=>(s.1 - s.2).toNat) (λr=>∃ i:Nat,r=(i:Int)∧i≤L.length)
  (λs hs=>by
   obtain ⟨j,i,rfl,h1,h3⟩:=hs
   by_cases hc:i<j
   ·left
    have hlt:(i:Int)<(j:Int):=by omega
    have hmid:(i+j) / 2<L.length:=by omega
    have hx:=Lg hmid
    have hs:A3S .u64 ((i+j:Nat):Int) (1:Int)=some (((i+j) / 2:Nat):Int):=by
     show (bif Nat.ble 1 (IntKind.u64.bits) then some (Int.ofNat ((i+j) / 2 ^ 1)) else none)=_
     rw [show Nat.ble 1 (IntKind.u64.bits)=true from rfl,Nat.pow_one]
     rfl
    have hsum:(i:Int)+(j:Int)=((i+j:Nat):Int):=by omega
    have e1:A0Q .u64 ((i+j:Nat):Int)=some ((i+j:Nat):Int):=by
     unfold A0Q; rw [wrap_u64 (by omega) (by omega)]; simp
    have e2:A0Q .i64 (((i+j) / 2:Nat):Int)=some (((i+j) / 2:Nat):Int):=by
     unfold A0Q; rw [wrap_i64 (by omega) (by omega)]; simp
    simp only [A0V,hsum,A1p (x:=((i+j:Nat):Int)) (by omega) (by omega),e1,hs,e2,J2 hx,B4g,Oz,Cd,if_pos hlt]
    by_cases ho:B1y L[(i+j) / 2] q<0
    ·rw [if_pos ho,H6 (by omega)]
     exact ⟨_,rfl,⟨j,(i+j) / 2+1,rfl,by omega,h3⟩,by simp; omega⟩
    ·rw [if_neg ho]
     exact ⟨_,rfl,⟨(i+j) / 2,i,rfl,by omega,by omega⟩,by simp; omega⟩
   ·right
    have hlt:¬ (i:Int)<(j:Int):=by omega
    simp only [A0V,Cd,if_neg hlt]
    exact ⟨_,rfl,i,rfl,by omega⟩) FUEL ((L.length:Int),(0:Int)) ⟨L.length,0,rfl,by omega,by omega⟩ (fuel (by simp; omega))
 exact ⟨i,hr,hi⟩
theorem D1s {gs:List E9} {ts:List H9} {m:List (ByteArray×Int)} (h:BkI gs ts m) (n n':ByteArray):∃ v b,B4D ⟨⟨gs,ts⟩,m⟩ n n'=some (v,b):=by
 have ht:=h.t
 obtain ⟨i,hi,hi'⟩:=D2i (L:=ts) (by omega) (H9.mk (minS n n') (maxS n n') (0:Int))
 simp only [B4D,A4t,A2A,A7z,B1E,hi,Oz,Cn,Cd]
 by_cases hlt:(i:Int)<(ts.length:Int)
 ·have hx:=Lg (show i<ts.length by omega)
  rw [if_pos hlt]
  simp only [J2 hx,B4g,Oz]
  cases decide (B1y ts[i] (H9.mk (minS n n') (maxS n n') (0:Int))=0)
  ·exact ⟨_,_,rfl⟩
  ·exact ⟨_,_,rfl⟩
 ·rw [if_neg hlt]
  exact ⟨_,_,rfl⟩
end Go.Pl
namespace Go.Pl
open Go Go.Sl Go.Dm
structure Vld (p:C9):Prop where
 ok:OkP p
 v:(C5N p).2=0
theorem D1r (p:C9):∀ i x q,B8J p i x=some q→q.2≠0:=λi x q h=>by
 unfold B8J at h
 split at h
 ·rename_i hc; cases h; exact hc
 ·split at h
  ·cases h; simp
  ·cases h
theorem Vld.b {p:C9} (h:Vld p):(B8h p).2=0:=by
 have:=h.v
 unfold C5N at this
 split at this
 ·rename_i hc; exact absurd this hc
 ·rename_i hc; exact Classical.byContradiction λe=>hc e
theorem Vld.rules {p:C9} (h:Vld p):U3 (B8J p) 0 p.J9=none:=by
 have:=h.v
 unfold C5N at this
 rw [if_neg (by simp [h.b])] at this
 cases hF:U3 (B8J p) 0 p.J9 with
 | none=>rfl
 | some q=>rw [hF] at this; exact absurd this (B4R (D1r p) _ _ hF)
theorem Vld.eq {p:C9} (h:Vld p):C5N p=(0,0):=by
 unfold C5N
 rw [if_neg (by simp [h.b]),h.rules]
 rfl
theorem Vld.h {p:C9} (h:Vld p):OkH p.C8:=⟨h.ok.ts,B4y h.b⟩
theorem Vld.roll {p:C9} (h:Vld p):(B4T (Q5.mk p.A7 p.N7)).2=0:=by
 have:=h.b
 unfold B8h at this
 rw [if_neg (by simp [B4y h.b])] at this
 split at this
 ·rename_i hc; exact absurd this hc
 ·rename_i hc; exact Classical.byContradiction λe=>hc e
theorem Vld.rest {p:C9} (h:Vld p):(p.R7.length=0∨p.R7.length=p.A7.length)∧p.R7.all A6G=true∧(p.A7.length:Int)≤R8 p.C8:=by
 have:=h.b
 unfold B8h at this
 rw [if_neg (by simp [B4y h.b]),if_neg (by simp [h.roll])] at this
 split at this
 ·simp at this
 rename_i h1
 split at this
 ·simp at this
 rename_i h2
 split at this
 ·simp at this
 rename_i h3
 refine ⟨by omega,by simpa using h2,by omega⟩
theorem Vld.B2x {p:C9} (h:Vld p):p.A7.length≤64:=D0H (r:=Q5.mk p.A7 p.N7) h.roll
theorem Vld.ties {p:C9} (h:Vld p):p.N7.length≤256:=C8x (r:=Q5.mk p.A7 p.N7) h.roll
theorem Vld.C9P {p:C9} (h:Vld p) {g:E9} (hg:g∈p.A7):g.O6.length≤4:=C0m (D2S (r:=Q5.mk p.A7 p.N7) h.roll hg)
theorem Vld.D2g {p:C9} (h:Vld p):p.J9.length≤64:=by
 apply Classical.byContradiction
 intro hn
 have hx:=Lg (show 64<p.J9.length by omega)
 have:=A8E _ 0 h.rules 64 _ hx
 unfold B8J at this
 split at this
 ·cases this
 ·rw [if_pos (by omega)] at this; cases this
theorem Vld.rule {p:C9} (h:Vld p) {r:F7} (hr:r∈p.J9):rCk p r=0:=by
 obtain ⟨k,hk⟩:=List.getElem?_of_mem hr
 have:=A8E _ 0 h.rules k r hk
 unfold B8J at this
 split at this
 ·cases this
 ·rename_i hc; exact Classical.byContradiction λe=>hc e
theorem C0Z:∀ (l:List Int) (n a:Int),a<n→B0j n a l=true→a+l.length<n
 | [],n,a,h,_=>by simp; omega
 | x::l,n,a,h,k=>by
  simp only [B0j,Ba,Dq] at k
  have:=C0Z l n x k.1.2 k.2
  simp only [Lc]
  omega
theorem A6w {t:D7} (h:A5L t=0):A4U t.F8=true∧M6 t≠0∧B0j (M6 t) (-1) t.A2Y=true:=by
 unfold A5L at h
 split at h
 ·omega
 rename_i h1
 split at h
 ·omega
 rename_i h2
 split at h
 ·omega
 rename_i h3
 exact ⟨by simpa using h1,h2,by simpa using h3⟩
theorem C5k {t:D7} (h:A5L t=0):t.A2Y.length≤24:=by
 have hb:=Y5 t
 obtain ⟨_,h2,h3⟩:=A6w h
 have:=C0Z t.A2Y (M6 t) (-1) (by omega) h3
 omega
theorem D2h {l:List D7} (h:l.length≤1000):A7P l=some l:=by simp only [A7P,B2a (show ([]:List D7).length+l.length≤1000000000 by simp; omega),Oz,List.nil_append]
theorem D2H {l:List E9} (h:l.length≤1000):A7H l=some l:=by simp only [A7H,B2a (show ([]:List E9).length+l.length≤1000000000 by simp; omega),Oz,List.nil_append]
theorem C9d {l:List H9} (h:l.length≤1000):B0I l=some l:=by simp only [B0I,B2a (show ([]:List H9).length+l.length≤1000000000 by simp; omega),Oz,List.nil_append]
theorem C4k {l:List Int} (h:l.length≤1000):A0L l=some l:=by simp only [A0L,B2a (show ([]:List Int).length+l.length≤1000000000 by simp; omega),Oz,List.nil_append]
theorem D2y {l:List ByteArray} (h:l.length≤1000):A3X l=some l:=by simp only [A3X,B2a (show ([]:List ByteArray).length+l.length≤1000000000 by simp; omega),Oz,List.nil_append]
theorem D2O {l:List F7} (h:l.length≤1000):A9j l=some l:=by simp only [A9j,B2a (show ([]:List F7).length+l.length≤1000000000 by simp; omega),Oz,List.nil_append]
theorem C1m {α τ ρ:Type} (body:α→Nat→τ→α⊕ρ) (fin:α→ρ) (hb:∀ a i x,body a i x=.inl a):∀ (xs:List τ) (a:α) (i:Nat),A7k body fin a i xs=fin a
 | [],_,_=>rfl
 | x::xs,a,i=>by simp only [A7k,hb]; exact C1m body fin hb xs a (i+1)
theorem B7h {α:Type} {l:List α} {i:Nat} {x:α} (h:l[i]?=some x):l.set i x=l:=by
 obtain ⟨hi,rfl⟩:=List.getElem?_eq_some_iff.1 h
 exact List.set_getElem_self hi
theorem C5V {p:C9} (h:Vld p):A8D p=some p:=by
 have h16:=h.h.len
 have hg:=h.B2x
 have ht:=h.ties
 have hr:=h.D2g
 have hc:=h.rest.1
 have l0:iter (A2L p.C8) FUEL (p.C8,(0:Int))=some p.C8:=by
  have:=A7p (f:=A2L p.C8) (λ(a:List D7) (i:Nat)=>(a,(i:Int))) p.C8 (λa i x=>.inl a) (λa=>a) (λa i=>a=p.C8) (a:=p.C8) rfl (n:=FUEL) (fuel (by omega))
   (λa i x hx hI=>by
    subst hI
    have hi:=P5 hx
    have ho:=C5k (h.h.t (A0C hx))
    simp only [A2L,J2 hx,C4k (show x.A2Y.length≤1000 by omega),Oz,Cd,H6 (show i<9223372036854775807 by omega),Zt]
    rw [if_pos (by omega)]
    exact ⟨by rw [show D7.mk x.F8 x.P8 x.fA x.fB x.A2Y x.fX x.fY=x from rfl,B7h hx],trivial⟩)
   (λa _=>by simp [A2L])
  rw [show (p.C8,(0:Int))=(λ(a:List D7) (i:Nat)=>(a,(i:Int))) p.C8 0 from rfl,this,C1m _ _ (λ_ _ _=>rfl)]
 have l1:iter (A2P p.A7) FUEL (p.A7,(0:Int))=some p.A7:=by
  have:=A7p (f:=A2P p.A7) (λ(a:List E9) (i:Nat)=>(a,(i:Int))) p.A7 (λa i x=>.inl a) (λa=>a) (λa i=>a=p.A7) (a:=p.A7) rfl (n:=FUEL) (fuel (by omega))
   (λa i x hx hI=>by
    subst hI
    have hi:=P5 hx
    have ho:=h.C9P (A0C hx)
    simp only [A2P,J2 hx,D2y (show x.O6.length≤1000 by omega),Oz,Cd,H6 (show i<9223372036854775807 by omega),Zt]
    rw [if_pos (by omega)]
    exact ⟨by rw [show E9.mk x.F8 x.A2b x.V6 x.A0o x.A0y x.A0z x.X7 x.Y4 x.O6=x from rfl,B7h hx],trivial⟩)
   (λa _=>by simp [A2P])
  rw [show (p.A7,(0:Int))=(λ(a:List E9) (i:Nat)=>(a,(i:Int))) p.A7 0 from rfl,this,C1m _ _ (λ_ _ _=>rfl)]
 simp only [A8D,D2h (show p.C8.length≤1000 by omega),l0,D2H (show p.A7.length≤1000 by omega),l1,C9d (show p.N7.length≤1000 by omega),C4k (show p.R7.length≤1000 by omega),D2O (show p.J9.length≤1000 by omega),Oz]
structure JOk (j:O0) (p:C9) (N:Nat):Prop where
 given:j.O9=p
 kinds:j.C0W=KM
 n:(N:Int)=R8 p.C8
 tb:TbI p.C8.length N N j.Z8 j.B7Z j.C5r j.W9 j.A0s
 st:j.A3o.length=N
 stv:∀ r∈j.A3o,∀ k v,A4c r k=some v→0≤v∧v≤N
 cm:j.B1Z.length=p.A7.length
 cmv:∀ r∈j.B1Z,r.length=p.A7.length
 ti:j.A0F.length=p.A7.length
 tiv:∀ r∈j.A0F,r.length=p.A7.length
theorem D2T {p:C9} (h:Vld p):∃ j N,B1Q p=some (some j,0,0)∧JOk j p N:=by
 obtain ⟨N,hN⟩:=Zn (A2I p.C8).1
 have hs:=A5M h.h
 have hg:=h.B2x
 obtain ⟨⟨tb,lv,op,bs,ac⟩,e1,hI⟩:=C8D h.h hN
 dsimp only at hI
 obtain ⟨st,e2,h2,h2v⟩:∃ st,iter (B0Y p KM tb lv op bs ac) FUEL (([]:List (List (Int×Int))),(0:Int))=some st∧st.length=N∧∀ r∈st,∀ k v:Int,A4c r k=some v→0≤v∧v≤(N:Int):=by
  refine L6 (λs=>∃ k:Nat,s.2=(k:Int)∧k≤N∧s.1.length=k∧∀ r∈s.1,∀ k v:Int,A4c r k=some v→0≤v∧v≤(N:Int)) (λs=>N - s.2.toNat) _ ?_ FUEL _ ⟨0,rfl,by omega,rfl,λr hr=>by cases hr⟩ (fuel (by dsimp only; omega))
  rintro ⟨st,i⟩ ⟨k,hk,hkn,hl,hv⟩
  simp only at hk hl hv
  subst hk
  simp only [B0Y,hI.tbl,Cd]
  by_cases hlt:(k:Int)<(N:Int)
  ·left
   obtain ⟨r,hr,hrv⟩:=D1A (j:=O0.mk p KM tb lv op bs ac st ([]:List (List Bool)) ([]:List (List Int))) (N:=N) (by omega) hI.bsl hI.acl hI.bsv hI.acv (f:=k) (by omega)
   rw [if_pos hlt]
   simp only [hr,V4 (show st.length≤1000 by omega),Oz,H6 (show k<9223372036854775807 by omega)]
   exact ⟨_,rfl,⟨k+1,rfl,by omega,by simp [hl],A8h hv hrv⟩,by dsimp only; omega⟩
  ·right
   rw [if_neg hlt]
   exact ⟨_,rfl,by omega,hv⟩
 obtain ⟨m,e3,hK⟩:=D0K h.ok.r h.roll
 have hB:BkI p.A7 p.N7 m:=⟨hK,λg hg=>h.C9P hg,h.ties⟩
 obtain ⟨⟨cm,ti⟩,e4,h41,h42,h43,h44⟩:∃ r,iter (B0v p) FUEL (([]:List (List Bool)),([]:List (List Int)),some (⟨⟨p.A7,p.N7⟩,m⟩:K8),(0:Int))=some r∧r.1.length=p.A7.length∧(∀ x∈r.1,x.length=p.A7.length)∧r.2.length=p.A7.length∧(∀ x∈r.2,x.length=p.A7.length):=by
  refine L6 (λs=>∃ k:Nat,s.2.2.2=(k:Int)∧k≤p.A7.length∧s.2.2.1=some (⟨⟨p.A7,p.N7⟩,m⟩:K8)∧s.1.length=k∧(∀ x∈s.1,x.length=p.A7.length)∧s.2.1.length=k∧(∀ x∈s.2.1,x.length=p.A7.length)) (λs=>p.A7.length - s.2.2.2.toNat) _ ?_ FUEL _ ⟨0,rfl,by omega,rfl,rfl,λx hx=>(by cases hx),rfl,λx hx=>(by cases hx)⟩ (fuel (by dsimp only; omega))
  rintro ⟨cm,ti,b,i⟩ ⟨k,hk,hkn,hb,h1,h2,h3,h4⟩
  simp only at hk hb h1 h2 h3 h4
  subst hk; subst hb
  simp only [B0v,Cd]
  by_cases hlt:(k:Int)<(p.A7.length:Int)
  ·left
   have hx:=Lg (show k<p.A7.length by omega)
   generalize p.A7[k]=g at hx
   obtain ⟨⟨b',c,q⟩,e,hb',hc,hq⟩:∃ r,iter (B0G p g) FUEL (some (⟨⟨p.A7,p.N7⟩,m⟩:K8),(0:Int),([]:List Bool),([]:List Int))=some r∧r.1=some (⟨⟨p.A7,p.N7⟩,m⟩:K8)∧r.2.1.length=p.A7.length∧r.2.2.length=p.A7.length:=by
    refine L6 (λs=>∃ k:Nat,s.2.1=(k:Int)∧k≤p.A7.length∧s.1=some (⟨⟨p.A7,p.N7⟩,m⟩:K8)∧s.2.2.1.length=k∧s.2.2.2.length=k) (λs=>p.A7.length - s.2.1.toNat) _ ?_ FUEL _ ⟨0,rfl,by omega,rfl,rfl,rfl⟩ (fuel (by dsimp only; omega))
    rintro ⟨b,i,c,q⟩ ⟨k,hk,hkn,hb,h1,h2⟩
    simp only at hk hb h1 h2
    subst hk; subst hb
    simp only [B0G,Cd]
    by_cases hlt:(k:Int)<(p.A7.length:Int)
    ·left
     have hx:=Lg (show k<p.A7.length by omega)
     generalize p.A7[k]=g' at hx
     obtain ⟨r,hr⟩:=C8v hB g.F8 g'.F8
     obtain ⟨v,ok,hv⟩:=D1s hB g.F8 g'.F8
     rw [if_pos hlt]
     simp only [J2 hx,hr,hv,V4 (show c.length≤1000 by omega),V4 (show q.length≤1000 by omega),Oz,H6 (show k<9223372036854775807 by omega)]
     exact ⟨_,rfl,⟨k+1,rfl,by omega,rfl,by simp [h1],by simp [h2]⟩,by dsimp only; omega⟩
    ·right
     rw [if_neg hlt]
     exact ⟨_,rfl,rfl,by dsimp only; omega,by dsimp only; omega⟩
   simp only at hb' hc hq
   subst hb'
   rw [if_pos hlt]
   simp only [J2 hx,e,V4 (show cm.length≤1000 by omega),V4 (show ti.length≤1000 by omega),Oz,H6 (show k<9223372036854775807 by omega)]
   exact ⟨_,rfl,⟨k+1,rfl,by omega,rfl,by simp [h1],A8h h2 hc,by simp [h3],A8h h4 hq⟩,by dsimp only; omega⟩
  ·right
   rw [if_neg hlt]
   exact ⟨_,rfl,by dsimp only; omega,h2,by dsimp only; omega,h4⟩
 refine ⟨_,N,?_,JOk.mk (j:=O0.mk p KM tb lv op bs ac st cm ti) rfl rfl hN.symm hI h2 h2v h41 h42 h43 h44⟩
 simp only [B1Q,B1c h.ok,h.eq,Oz,decide_true,Bq,Cn,B9b,C5V h,C4z,e1,e2,e3,e4]
end Go.Pl
namespace Go.Pl
open Go Go.Sl Go.Dm
def nb (k:Nat):ByteArray:=B8q [((97+k / 26 % 26:Nat):Int),((97+k % 26:Nat):Int)]
theorem C6W {n:Nat} (h:n≤255):A0Q .u8 (n:Int)=some (n:Int):=by
 have:IntKind.u8.wrap (n:Int)=(n:Int):=by simp [IntKind.wrap,IntKind.bits,IntKind.signed]; omega
 unfold A0Q
 rw [this]; simp
theorem C4t {x:Int} (h:0≤x) (h':x≤1000000000000):A0Q .i64 x=some x:=by
 unfold A0Q
 rw [wrap_i64 h (by omega)]; simp
theorem number_eq {k:Nat} (h:k≤1000):Y0 (k:Int)=some (nb k):=by
 have e1:((k:Int) / 26) % 26=((k / 26 % 26:Nat):Int):=by omega
 have e2:(k:Int) % 26=((k % 26:Nat):Int):=by omega
 have e3:(97:Int)+((k / 26 % 26:Nat):Int)=((97+k / 26 % 26:Nat):Int):=by omega
 have e4:(97:Int)+((k % 26:Nat):Int)=((97+k % 26:Nat):Int):=by omega
 simp only [Y0,B4w (show (0:Int)≤(k:Int) by omega) (by omega) (show (0:Int)<26 by omega),C3R (show (0:Int)≤(k:Int) / 26 by omega) (show (0:Int)<26 by omega),C3R (show (0:Int)≤(k:Int) by omega) (show (0:Int)<26 by omega),Oz,e1,e2,e3,e4,
  A2d (show -1000000000≤((97+k / 26 % 26:Nat):Int) by omega) (by omega),A2d (show -1000000000≤((97+k % 26:Nat):Int) by omega) (by omega),C6W (show 97+k / 26 % 26≤255 by omega),C6W (show 97+k % 26≤255 by omega)]
 rfl
theorem C9p:(List.range 320).all (λk=>A4U (nb k) && sLt (nb k) (nb (k+1)) && decide ((nb k).size=2))=true:=by kernel_rfl
theorem B9f {k:Nat} (h:k<320):A4U (nb k)=true∧sLt (nb k) (nb (k+1))=true∧(nb k).size=2:=by
 have:=Al.1 C9p k (Mr.2 h)
 simp only [Ba,Dq] at this
 exact ⟨this.1.1,this.1.2,this.2⟩
theorem C5D {i k:Nat} (h:i<k) (hk:k≤320):sLt (nb i) (nb k)=true:=by
 induction k with
 | zero=>omega
 | succ k ih=>
  by_cases he:i=k
  ·subst he; exact (B9f (by omega)).2.1
  ·exact B8y (ih (by omega) (by omega)) (B9f (by omega)).2.1
theorem C6v {i k:Nat} (hi:i≤320) (hk:k≤320) (h:nb i=nb k):i=k:=by
 rcases Nat.lt_trichotomy i k with hl | hl | hl
 ·have:=C5D hl hk; rw [h,B4P] at this; cases this
 ·exact hl
 ·have:=C5D hl hi; rw [h,B4P] at this; cases this
theorem D3O {k:Nat} (h:k<320):¬ nb k=(⟨#[]⟩:ByteArray):=λe=>by
 have:=(B9f h).2.2
 rw [e] at this; cases this
def wd (i:Nat):ByteArray:=B8q [(116:Int),((97+i % 26:Nat):Int)]
def D1P (i x:Nat):Bool:=match A3a (i:Int) (x:Int) with
 | none=>false
 | some t=>decide (A5L t=0) && decide (t.F8=wd i) && decide (A1n (D7.mk t.F8 t.P8 t.fA t.fB ([]:List Int) t.fX t.fY)=some (M6 t)) && decide (M6 t≤8) && decide (t.A2Y.length≤24)
theorem D4S:(List.range 3).all (λi=>(List.range 256).all λx=>D1P i x)=true:=by kernel_rfl
theorem D0j {i x:Nat} (hi:i<3) (hx:x<256):∃ t,A3a (i:Int) (x:Int)=some t∧A5L t=0∧t.F8=wd i∧A1n (D7.mk t.F8 t.P8 t.fA t.fB ([]:List Int) t.fX t.fY)=some (M6 t)∧M6 t≤8∧OkT t:=by
 have:=Al.1 (Al.1 D4S i (Mr.2 hi)) x (Mr.2 hx)
 unfold D1P at this
 cases h:A3a (i:Int) (x:Int) with
 | none=>rw [h] at this; cases this
 | some t=>
  rw [h] at this
  simp only [Ba,Dq] at this
  refine ⟨t,rfl,this.1.1.1.1,this.1.1.1.2,this.1.1.2,this.1.2,?_,by rw [mx]; omega⟩
  rw [this.1.1.1.2,mx]
  have:(wd i).size=2:=rfl
  omega
end Go.Pl
namespace Go.Pl
open Go Go.Sl Go.Dm
def gi (i:Nat):Nat:=25*i % 312+i / 12
theorem B9a {i:Nat} (h:i<12):gi i<320:=by unfold gi; omega
theorem D0a {i:Nat} (h:i<12):gi i=25*i:=by
 unfold gi
 rw [Nat.mod_eq_of_lt (by omega),Nat.div_eq_of_lt h]
 rfl
theorem C9o {i j:Nat} (hi:i<12) (hj:j<12) (h:gi i=gi j):i=j:=by rw [D0a hi,D0a hj] at h; omega
structure MG (i:Nat) (g:E9):Prop where
 name:g.F8=nb (gi i)
 ok:A9X g=0
 og:OkG g
 di:A3Z g.A0z=true
 ds:g.A0z.size≤2
def tgB (a b c d:Bool):List ByteArray:=(bif a then [nb 0] else [])++((bif b then [nb 1] else [])++((bif c then [nb 2] else [])++(bif d then [nb 3] else [])))
def D2Q (l:List ByteArray):Bool:=decide (U3 (C0o l) 0 l=none) && decide (l.length≤4) && l.all λs=>decide (s.size=2)
theorem tgs:([true,false].all λa=>[true,false].all λb=>[true,false].all λc=>[true,false].all λd=>D2Q (tgB a b c d))=true:=by kernel_rfl
theorem D4q (a b c d:Bool):D2Q (tgB a b c d)=true:=by
 have:=tgs
 simp only [List.all_cons,List.all_nil,Bool.and_true,Ba] at this
 cases a <;> cases b <;> cases c <;> cases d <;> simp [this]
def tgL (f:Nat→Bool) (k:Nat):List ByteArray:=((List.range k).filter f).map nb
theorem C8O (f:Nat→Bool):tgL f 4=tgB (f 0) (f 1) (f 2) (f 3):=by
 unfold tgL tgB
 cases h0:f 0 <;> cases h1:f 1 <;> cases h2:f 2 <;> cases h3:f 3 <;> simp [List.range_succ,List.filter,h0,h1,h2,h3]
theorem D0T (f:Nat→Bool) (k:Nat):(tgL f k).length≤k:=by
 unfold tgL
 rw [List.length_map]
 have:=List.length_filter_le f (List.range k)
 simpa using this
theorem D4O {m n:Nat} (h:n≤64):A3S .i64 (m:Int) (n:Int)=some ((m / 2 ^ n:Nat):Int):=by
 show (bif Nat.ble n (IntKind.i64.bits) then some (Int.ofNat (m / 2 ^ n)) else none)=_
 rw [show Nat.ble n (IntKind.i64.bits)=true from Nb h]
 rfl
theorem D0q (e:Nat):iter (A5e (e:Int)) FUEL (([]:List ByteArray),(0:Int))=some (tgL (λj=>decide (e / 2 ^ (6+2*j) % 4=1)) 4):=by
 obtain ⟨r,hr,hq⟩:=L6 (f:=A5e (e:Int)) (λs=>∃ k:Nat,s.2=(k:Int)∧k≤4∧s.1=tgL (λj=>decide (e / 2 ^ (6+2*j) % 4=1)) k) (λs=>4 - s.2.toNat) (λr=>r=tgL (λj=>decide (e / 2 ^ (6+2*j) % 4=1)) 4) (λs hs=>by
  obtain ⟨a,i⟩:=s
  obtain ⟨k,hk,hk4,ha⟩:=hs
  simp only at hk ha
  subst hk; subst ha
  simp only [A5e,Cd]
  by_cases hlt:(k:Int)<4
  ·left
   have hl:=D0T (λj=>decide (e / 2 ^ (6+2*j) % 4=1)) k
   have e1:(6:Int)+2*(k:Int)=((6+2*k:Nat):Int):=by omega
   have r4:∀ m:Nat,U9 (m:Int) 4=some ((m % 4:Nat):Int):=λm=>rfl
   rw [if_pos hlt]
   simp only [A2d (show -1000000000≤(2:Int)*(k:Int) by omega) (by omega),e1,A2d (show -1000000000≤((6+2*k:Nat):Int) by omega) (by omega),D4O (m:=e) (show 6+2*k≤64 by omega),r4,Oz,number_eq (show k≤1000 by omega),H6 (show k<9223372036854775807 by omega),V4 (show (tgL (λj=>decide (e / 2 ^ (6+2*j) % 4=1)) k).length≤1000 by omega)]
   have e2:tgL (λj=>decide (e / 2 ^ (6+2*j) % 4=1)) (k+1)=tgL (λj=>decide (e / 2 ^ (6+2*j) % 4=1)) k++(if e / 2 ^ (6+2*k) % 4=1 then [nb k] else []):=by
    unfold tgL
    rw [List.range_succ,List.filter_append,List.map_append]
    by_cases h:e / 2 ^ (6+2*k) % 4=1 <;> simp [h]
   by_cases h:e / 2 ^ (6+2*k) % 4=1
   ·rw [if_pos (by omega)]
    rw [if_pos h] at e2
    exact ⟨_,rfl,⟨k+1,rfl,by omega,e2.symm⟩,by dsimp only; omega⟩
   ·rw [if_neg (by omega)]
    rw [if_neg h,List.append_nil] at e2
    exact ⟨_,rfl,⟨k+1,rfl,by omega,e2.symm⟩,by dsimp only; omega⟩
  ·right
   rw [if_neg hlt]
   have:k=4:=by omega
   subst this
   exact ⟨_,rfl,rfl⟩) FUEL (([]:List ByteArray),(0:Int)) ⟨0,rfl,by omega,rfl⟩ (fuel (by dsimp only; omega))
 rw [hr,hq]
theorem B8p {k:Nat} (h:k<320):A3Z (nb k)=true∧(nb k).size≤2:=by
 have:=B9f h
 unfold A3Z
 rw [this.1]
 simp
 omega
theorem B8d:A3Z (⟨#[]⟩:ByteArray)=true∧(⟨#[]⟩:ByteArray).size≤2:=⟨rfl,by decide⟩
theorem C6g {gs:List Int} {out:List E9} {i e:Nat} (hi:i<12) (h:gs[i]?=some (e:Int)) (he:e≤65535) (ho:out.length≤1000) :
  ∃ g,B1r gs out (i:Int)=some (.inl (out++[g],((i+1:Nat):Int)))∧MG i g:=by
 have r3:∀ m:Nat,U9 (m:Int) 3=some ((m % 3:Nat):Int):=λm=>rfl
 have r4:∀ m:Nat,U9 (m:Int) 4=some ((m % 4:Nat):Int):=λm=>rfl
 have r5:∀ m:Nat,U9 (m:Int) 5=some ((m % 5:Nat):Int):=λm=>rfl
 have r7:∀ m:Nat,U9 (m:Int) 7=some ((m % 7:Nat):Int):=λm=>rfl
 have r8:∀ m:Nat,U9 (m:Int) 8=some ((m % 8:Nat):Int):=λm=>rfl
 have r2:∀ m:Nat,U9 (m:Int) 2=some ((m % 2:Nat):Int):=λm=>rfl
 have r312:∀ m:Nat,U9 (m:Int) 312=some ((m % 312:Nat):Int):=λm=>rfl
 have q12:A5K (i:Int) 12=some ((i / 12:Nat):Int):=by rw [B4w (by omega) (by omega) (by omega)]; congr 1
 have e25:(25:Int)*(i:Int)=((25*i:Nat):Int):=by omega
 have egi:((25*i % 312:Nat):Int)+((i / 12:Nat):Int)=((gi i:Nat):Int):=by unfold gi; omega
 have hgi:=B9a hi
 obtain ⟨rank,k1,k1o,k1s⟩:∃ r,(bif decide (((e % 2:Nat):Int)=(1:Int)) then Option.bind (U9 (e:Int) (3:Int)) λt65=>Option.bind (Y0 t65) λt66=>some t66 else some (⟨#[]⟩:ByteArray))=some r∧A3Z r=true∧r.size≤2:=by
  cases decide (((e % 2:Nat):Int)=(1:Int))
  ·exact ⟨_,rfl,B8d⟩
  ·exact ⟨nb (e % 3),by simp only [Cy,r3,Oz,number_eq (show e % 3≤1000 by omega)],B8p (by omega)⟩
 obtain ⟨court,k2,k2o,k2s⟩:∃ r,(bif decide ((4:Int)<((e % 8:Nat):Int)) then Option.bind (U9 (e:Int) (8:Int)) λt83=>Option.bind (Y0 t83) λt84=>some t84 else some (⟨#[]⟩:ByteArray))=some r∧A3Z r=true∧r.size≤2:=by
  cases decide ((4:Int)<((e % 8:Nat):Int))
  ·exact ⟨_,rfl,B8d⟩
  ·exact ⟨nb (e % 8),by simp only [Cy,r8,Oz,number_eq (show e % 8≤1000 by omega)],B8p (by omega)⟩
 obtain ⟨diet,k3,k3o,k3s⟩:∃ r,(bif decide (((e % 3:Nat):Int)=(2:Int)) then Option.bind (U9 (e:Int) (5:Int)) λt101=>Option.bind (Y0 t101) λt102=>some t102 else some (⟨#[]⟩:ByteArray))=some r∧A3Z r=true∧r.size≤2:=by
  cases decide (((e % 3:Nat):Int)=(2:Int))
  ·exact ⟨_,rfl,B8d⟩
  ·exact ⟨nb (e % 5),by simp only [Cy,r5,Oz,number_eq (show e % 5≤1000 by omega)],B8p (by omega)⟩
 have hton:=D4q (decide (e / 2 ^ (6+2*0) % 4=1)) (decide (e / 2 ^ (6+2*1) % 4=1)) (decide (e / 2 ^ (6+2*2) % 4=1)) (decide (e / 2 ^ (6+2*3) % 4=1))
 have hton':=C8O (λj=>decide (e / 2 ^ (6+2*j) % 4=1))
 rw [←hton'] at hton
 have ht:=D0q e
 generalize tgL (λj=>decide (e / 2 ^ (6+2*j) % 4=1)) 4=ton at hton ht
 unfold D2Q at hton
 simp only [Ba,Dq,Al] at hton
 refine ⟨E9.mk (nb (gi i)) rank court (((e % 4:Nat):Int)*500) ((e % 3:Nat):Int) diet (decide (((e % 5:Nat):Int)=(0:Int))) (decide (((e % 7:Nat):Int)=(0:Int))) ton,?_,rfl,?_,?_,k3o,k3s⟩
 ·simp only [B1r,B5J,J2 h,C4t (show (0:Int)≤(e:Int) by omega) (by omega),e25,A2d (show -1000000000≤((25*i:Nat):Int) by omega) (by omega),r312,q12,egi,A2d (show -1000000000≤((gi i:Nat):Int) by omega) (by omega),number_eq (show gi i≤1000 by omega),r4,r3,r5,r7,r2,r8,
   A2d (show -1000000000≤((e % 4:Nat):Int)*500 by omega) (by omega),Oz,k1,k2,k3,ht,V4 ho,H6 (show i<9223372036854775807 by omega)] at k1 k2 k3 ⊢
  simp only [k1,k2,k3,Oz,V4 ho,ht,H6 (show i<9223372036854775807 by omega)]
 ·unfold A9X
  simp only [(B9f hgi).1,k1o,k2o,k3o,Bool.and_self,Bool.true_eq_false,if_false]
  rw [if_neg (by omega),if_neg (by omega),if_neg (by omega),hton.1.1]
  rfl
 ·have:=(B9f hgi).2.2
  have hmx:maxLen=9223372036854775807:=mx
  exact ⟨by dsimp only; omega,by dsimp only; omega,by dsimp only; omega,by dsimp only; omega,by dsimp only; omega,λs hs=>by have:=hton.2 s hs; omega⟩
theorem C5b {gs:List Int} (hg:∀ e∈gs,0≤e∧e≤65535):∃ out,iter (A8u gs) FUEL (([]:List E9),(0:Int))=some out∧out.length=min gs.length 12∧∀ i g,out[i]?=some g→MG i g:=by
 refine L6 (λs=>∃ k:Nat,s.2=(k:Int)∧k≤min gs.length 12∧s.1.length=k∧∀ i g,s.1[i]?=some g→MG i g) (λs=>12 - s.2.toNat) _ ?_ FUEL _ ⟨0,rfl,by omega,rfl,λi g h=>by simp at h⟩ (fuel (by dsimp only; omega))
 rintro ⟨out,i⟩ ⟨k,hk,hkn,hl,hv⟩
 simp only at hk hl hv
 subst hk
 simp only [A8u]
 by_cases hlt:k<gs.length∧k<12
 ·left
  have h1:decide ((k:Int)<(gs.length:Int))=true:=Dt (by omega)
  have h2:decide ((k:Int)<12)=true:=Dt (by omega)
  have hx:=Lg hlt.1
  have hb:=hg _ (Gm hlt.1)
  generalize gs[k]=e at hx hb
  obtain ⟨e,rfl⟩:=Zn hb.1
  obtain ⟨g,e1,hm⟩:=C6g (out:=out) hlt.2 hx (by omega) (by omega)
  simp only [h1,h2,Cy,Oz,e1]
  refine ⟨_,rfl,⟨k+1,rfl,by omega,by simp [hl],λi g' h=>?_⟩,by dsimp only; omega⟩
  rw [List.getElem?_append] at h
  split at h
  ·exact hv i g' h
  ·rename_i hn
   have:i - out.length=0:=by
    have:=P5 h
    simp at this
    omega
   rw [this] at h
   simp at h
   subst h
   have:i=k:=by omega
   subst this
   exact hm
 ·right
  have:(bif decide ((k:Int)<(gs.length:Int)) then some (decide ((k:Int)<(12:Int))) else some false)=some false:=by
   by_cases h1:k<gs.length
   ·rw [Dt (show (k:Int)<(gs.length:Int) by omega),Cy,Df (show ¬ (k:Int)<12 by omega)]
   ·rw [Df (show ¬ (k:Int)<(gs.length:Int) by omega)]; rfl
  simp only [this,Oz,Cn]
  exact ⟨_,rfl,by omega,hv⟩
end Go.Pl
namespace Go.Pl
open Go Go.Sl Go.Dm
structure MGs (gs:List E9):Prop where
 len:gs.length≤12
 g:∀ i g,gs[i]?=some g→MG i g
theorem MGs.is {gs:List E9} (h:MGs gs) {a:Nat} (ha:a≤320) (hi:isG gs (nb a)=true):∃ j,j<gs.length∧a=25*j:=by
 unfold isG at hi
 obtain ⟨g,hg,e⟩:=Ay.1 hi
 obtain ⟨j,hj⟩:=List.getElem?_of_mem hg
 have:=h.g j g hj
 have hlt:=P5 hj
 have hl:=h.len
 refine ⟨j,hlt,?_⟩
 rw [Dq,this.name,D0a (by omega)] at e
 exact (C6v (by omega) ha e).symm
theorem B7f {gs:List E9} (h:MGs gs) {i:Nat} (hi:i≤400):A2c (Q5.mk gs ([]:List H9)) (i:Int)=some (isG gs (nb i)):=by
 have hl:=h.len
 simp only [A2c]
 rw [A1t gs (λ(k:Nat) (g:E9)=>if decide (g.F8=nb i) then some (.inr true:Unit⊕Bool) else none) (.inl ()) (fuel (by omega)) (λk g hg=>by
  have hk:=P5 hg
  simp only [A6Q,J2 hg,number_eq (show i≤1000 by omega),Oz,Cd]
  rw [if_pos (by omega),H6 (by omega)]
  by_cases e:g.F8=nb i <;> simp [e]) (by simp [A6Q])]
 have key:∀ (l:List E9) (k:Nat),(match A0M (λ(k:Nat) (g:E9)=>if decide (g.F8=nb i) then some (.inr true:Unit⊕Bool) else none) (.inl ()) k l with | .inl _=>some false | .inr p=>some p)=some (isG l (nb i)):=by
  intro l
  induction l with
  | nil=>intro k; rfl
  | cons g l ih=>
   intro k
   simp only [A0M,isG,List.any_cons]
   by_cases e:g.F8=nb i
   ·simp [e]
   ·simp only [e,decide_false,Bool.false_or]
    exact ih (k+1)
 simp only [Oz]
 exact key gs 0
structure TI (gs:List E9) (i k:Nat) (ts:List H9):Prop where
 t:∀ t∈ts,(t.F9=1∨t.F9=2)∧∃ a b,t.fA=nb a∧t.fB=nb b∧a<b∧b<312∧(a<i∨a=i∧b<k)∧isG gs (nb a)=true∧isG gs (nb b)=true
 asc:Asc ts
theorem D1t {l:List H9} {t:H9} (h:Asc l) (ht:∀ x∈l,tLt x t=true):Asc (l++[t]):=by
 intro a b x y hab hx hy
 rw [List.getElem?_append] at hx hy
 by_cases hb:b<l.length
 ·rw [if_pos (by omega)] at hx
  rw [if_pos hb] at hy
  exact h a b x y hab hx hy
 ·rw [if_neg hb] at hy
  have:=P5 hy
  simp at this
  have hb':b - l.length=0:=by omega
  rw [hb'] at hy
  simp at hy
  subst hy
  rw [if_pos (by omega)] at hx
  exact ht x (A0C hx)
theorem TI.weak {gs:List E9} {i k i' k':Nat} {ts:List H9} (h:TI gs i k ts) (hw:i<i'∨i=i'∧k≤k'):TI gs i' k' ts:=by
 refine ⟨λt ht=>?_,h.asc⟩
 obtain ⟨h1,a,b,e1,e2,h2,h3,h4,h5⟩:=h.t t ht
 exact ⟨h1,a,b,e1,e2,h2,h3,by omega,h5⟩
theorem C6N {tn:List Int} (htn:∀ e∈tn,0≤e∧e≤255) (hlen:tn.length≤maxLen) {gs:List E9} (h:MGs gs) {i n:Nat} (hi:i<312) (hn:n≤100000) {ts:List H9} (hT:TI gs i (i+1) ts) (hb:ts.length≤13*((i+24) / 25)) :
  ∃ r,iter (A8k tn gs (i:Int)) FUEL (ts,(n:Int),((i+1:Nat):Int))=some r∧(∃ m:Nat,r.1=(m:Int)∧m≤n+312)∧TI gs (i+1) 0 r.2∧r.2.length≤13*((i+1+24) / 25):=by
 refine L6 (λs=>∃ k m:Nat,s.2.2=(k:Int)∧s.2.1=(m:Int)∧i<k∧k≤312∧m≤n+k∧TI gs i k s.1∧(isG gs (nb i)=true→s.1.length≤13*((i+24) / 25)+(k+24) / 25)∧(isG gs (nb i)=false→s.1.length≤13*((i+24) / 25))) (λs=>312 - s.2.2.toNat) _ ?_ FUEL _ ⟨i+1,n,rfl,rfl,by omega,by omega,by omega,hT,λ_=>by dsimp only; omega,λ_=>by dsimp only; omega⟩ (fuel (by dsimp only; omega))
 rintro ⟨ts,x,y⟩ ⟨k,m,hk,hm,hik,hk3,hmn,hT,hb1,hb2⟩
 simp only at hk hm hT hb1 hb2
 subst hk; subst hm
 simp only [A8k,Cd]
 by_cases hlt:(k:Int)<312
 ·rw [if_pos hlt]
  rcases Bool.eq_false_or_eq_true (isG gs (nb i)) with hgi | hgi
  rotate_left
  ·right
   have t1:A2c (Q5.mk gs ([]:List H9)) (i:Int)=some false:=by rw [B7f h (by omega),hgi]
   simp only [A8e,t1,Oz,Bp,Cy]
   have:=hb2 hgi
   exact ⟨_,rfl,⟨m,rfl,by omega⟩,hT.weak (.inl (by omega)),by dsimp only; omega⟩
  ·left
   have t1:A2c (Q5.mk gs ([]:List H9)) (i:Int)=some true:=by rw [B7f h (by omega),hgi]
   have no:∀ {q:Prop},isG gs (nb i)=false→q:=λe=>by rw [hgi] at e; cases e
   have hb1:=hb1 hgi
   obtain ⟨j,hj,hij⟩:=h.is (by omega) hgi
   rcases Bool.eq_false_or_eq_true (isG gs (nb k)) with hgk | hgk
   rotate_left
   ·have t2:A2c (Q5.mk gs ([]:List H9)) (k:Int)=some false:=by rw [B7f h (by omega),hgk]
    simp only [A8e,t1,t2,Bq,Cn,Bp,Cy,H6 (show k<9223372036854775807 by omega),Oz]
    exact ⟨_,rfl,⟨k+1,m,rfl,rfl,by omega,by omega,by omega,hT.weak (.inr ⟨rfl,by omega⟩),λ_=>by dsimp only; omega,no⟩,by dsimp only; omega⟩
   ·have t2:A2c (Q5.mk gs ([]:List H9)) (k:Int)=some true:=by rw [B7f h (by omega),hgk]
    obtain ⟨j',hj',hkj⟩:=h.is (by omega) hgk
    have hl:=h.len
    simp only [A8e,t1,t2,Bq,Cn,Oz]
    have skip:∃ s',(some (Sum.inl (ts,((m+1:Nat):Int),((k+1:Nat):Int))):Option ((List H9×Int×Int)⊕(Int×List H9)))=some (Sum.inl s')∧(∃ k m:Nat,s'.2.2=(k:Int)∧s'.2.1=(m:Int)∧i<k∧k≤312∧m≤n+k∧TI gs i k s'.1∧(isG gs (nb i)=true→s'.1.length≤13*((i+24) / 25)+(k+24) / 25)∧(isG gs (nb i)=false→s'.1.length≤13*((i+24) / 25)))∧312 - s'.2.2.toNat<312 - (k:Int).toNat:=
     ⟨_,rfl,⟨k+1,m+1,rfl,rfl,by omega,by omega,by omega,hT.weak (.inr ⟨rfl,by omega⟩),λ_=>by dsimp only; omega,no⟩,by dsimp only; omega⟩
    by_cases hmt:m<tn.length
    ·have hx:=Lg hmt
     have hbd:=htn _ (Gm hmt)
     generalize tn[m]=e at hx hbd
     obtain ⟨e,rfl⟩:=Zn hbd.1
     have r4:U9 (e:Int) 4=some ((e % 4:Nat):Int):=rfl
     have e1:(1:Int)+((e % 4:Nat):Int)=((1+e % 4:Nat):Int):=by omega
     rw [Dt (show (m:Int)<(tn.length:Int) by omega)]
     simp only [Cy,J2 hx,r4,Oz,B1m,e1,C6W (show 1+e % 4≤255 by omega),number_eq (show i≤1000 by omega),number_eq (show k≤1000 by omega),H6 (show m<9223372036854775807 by omega),H6 (show k<9223372036854775807 by omega)]
     by_cases h2:e % 4<2
     ·rw [Dt (show ((e % 4:Nat):Int)<2 by omega)]
      simp only [Cy,V4 (show ts.length≤1000 by omega),Oz]
      refine ⟨_,rfl,⟨k+1,m+1,rfl,rfl,by omega,by omega,by omega,⟨λt ht=>?_,D1t hT.asc λt ht=>?_⟩,λ_=>by simp; omega,no⟩,by dsimp only; omega⟩
      ·rcases List.mem_append.1 ht with ht | ht
       ·exact (hT.weak (.inr ⟨rfl,Nat.le_succ k⟩)).t t ht
       ·rw [Ms] at ht
        subst ht
        exact ⟨by dsimp only; omega,i,k,rfl,rfl,hik,by omega,.inr ⟨rfl,by omega⟩,hgi,hgk⟩
      ·obtain ⟨_,a,b,ea,eb,hab,hb3,hlt',_⟩:=hT.t t ht
       unfold tLt
       rw [ea,eb]
       dsimp only
       rcases hlt' with hlt' | ⟨rfl,hlt'⟩
       ·rw [C5D hlt' (by omega)]; rfl
       ·rw [B4P,C5D hlt' (by omega)]; simp
     ·rw [Df (show ¬ ((e % 4:Nat):Int)<2 by omega)]
      simp only [Cn]
      exact skip
    ·rw [Df (show ¬ (m:Int)<(tn.length:Int) by omega)]
     simp only [Cn,Oz,B1m,H6 (show m<9223372036854775807 by omega),H6 (show k<9223372036854775807 by omega)]
     exact skip
 ·right
  rw [if_neg hlt]
  have:k=312:=by omega
  subst this
  refine ⟨_,rfl,⟨m,rfl,by omega⟩,hT.weak (.inl (by omega)),?_⟩
  dsimp only
  cases hgi:isG gs (nb i) with
  | false=>have:=hb2 hgi; omega
  | true=>
   have:=hb1 hgi
   obtain ⟨j,hj,hij⟩:=h.is (by omega) hgi
   omega
theorem C8y {tn:List Int} (htn:∀ e∈tn,0≤e∧e≤255) (hlen:tn.length≤maxLen) {gs:List E9} (h:MGs gs) :
  ∃ ts,iter (A7I tn gs) FUEL (([]:List H9),(0:Int),(0:Int))=some ts∧TI gs 312 0 ts∧ts.length≤256:=by
 refine L6 (λs=>∃ i n:Nat,s.2.2=(i:Int)∧s.2.1=(n:Int)∧i≤312∧n≤312*i∧TI gs i 0 s.1∧s.1.length≤13*((i+24) / 25)) (λs=>312 - s.2.2.toNat) _ ?_ FUEL _ ⟨0,0,rfl,rfl,by omega,by omega,TI.mk (λt ht=>by cases ht) (λa b x y _ hx=>by cases hx),by simp⟩ (fuel (by dsimp only; omega))
 rintro ⟨ts,x,y⟩ ⟨i,n,hi,hn,hi3,hn3,hT,hb⟩
 simp only at hi hn hT hb
 subst hi; subst hn
 simp only [A7I,Cd]
 by_cases hlt:(i:Int)<312
 ·left
  rw [if_pos hlt]
  obtain ⟨⟨r1,r2⟩,hr,⟨m,e,hm⟩,hT',hb'⟩:=C6N htn hlen h (i:=i) (n:=n) (by omega) (by omega) (ts:=ts) (hT.weak (.inr ⟨rfl,by omega⟩)) hb
  simp only at e hT' hb'
  subst e
  simp only [H6 (show i<9223372036854775807 by omega),Oz,hr]
  exact ⟨_,rfl,⟨i+1,m,rfl,rfl,by omega,by omega,hT',hb'⟩,by dsimp only; omega⟩
 ·right
  rw [if_neg hlt]
  have:i=312:=by omega
  subst this
  exact ⟨_,rfl,hT,by omega⟩
theorem B2b {τ R:Type} {bad:Nat→τ→Option R}:∀ (xs:List τ) (i:Nat),(∀ k x,xs[k]?=some x→bad (i+k) x=none)→U3 bad i xs=none
 | [],_,_=>rfl
 | x::xs,i,h=>by
  simp only [U3]
  rw [show bad i x=none from h 0 x rfl]
  exact B2b xs (i+1) (λk y hy=>by rw [show i+1+k=i+(k+1) by omega]; exact h (k+1) y hy)
theorem MGs.okG {gs:List E9} (h:MGs gs) {g:E9} (hg:g∈gs):OkG g∧A9X g=0∧A3Z g.A0z=true:=by
 obtain ⟨j,hj⟩:=List.getElem?_of_mem hg
 have:=h.g j g hj
 exact ⟨this.og,this.ok,this.di⟩
theorem MGs.B1s {gs:List E9} (h:MGs gs):U3 (B1s gs) 0 gs=none:=by
 refine B2b gs 0 λk g hg=>?_
 have hl:=h.len
 have hk:=P5 hg
 have hm:=h.g k g hg
 unfold Go.Pl.B1s
 rw [Nat.zero_add,if_neg (by simp [hm.ok]),if_neg,if_neg (by omega)]
 intro hc
 obtain ⟨y,hy,e⟩:=Ay.1 hc
 obtain ⟨j,hj⟩:=List.getElem?_of_mem hy
 have hjk:=P5 hj
 rw [List.length_take] at hjk
 have hj':gs[j]?=some y:=by rw [List.getElem?_take] at hj; rw [if_pos (by omega)] at hj; exact hj
 rw [Dq,(h.g j y hj').name,hm.name] at e
 have:=C6v (Nat.le_of_lt (B9a (by omega))) (Nat.le_of_lt (B9a (by omega))) e
 have:=C9o (by omega) (by omega) this
 omega
theorem C8B {gn tn:List Int} (hg:∀ e∈gn,0≤e∧e≤65535) (htn:∀ e∈tn,0≤e∧e≤255) (hlen:tn.length≤maxLen) :
  ∃ r,B2F gn tn=some r∧MGs r.A7∧r.A7.length=min gn.length 12∧OkR r∧(B4T r).2=0:=by
 obtain ⟨gs,e1,hl,hm⟩:=C5b hg
 have h:MGs gs:=⟨by omega,hm⟩
 obtain ⟨ts,e2,hT,hb⟩:=C8y htn hlen h
 refine ⟨⟨gs,ts⟩,by simp only [B2F,e1,e2,Oz],h,hl,⟨by rw [mx]; dsimp only; omega,λg hg=>(h.okG hg).1,by rw [mx]; dsimp only; omega⟩,?_⟩
 have hF:=h.B1s
 have hTb:U3 (B8Q ⟨gs,ts⟩) 0 ts=none:=by
  refine B2b ts 0 λk t ht=>?_
  have hk:=P5 ht
  obtain ⟨h1,a,b,ea,eb,hab,hb3,_,ga,gb⟩:=hT.t t (A0C ht)
  have hAB:sLt t.fA t.fB=true:=by rw [ea,eb]; exact C5D hab (by omega)
  have hprev:k≠0→tLt (ts.getD (k - 1) A6x) t=true:=λh0=>hT.asc (k - 1) k _ t (by omega) (B3Z A6x hk h0) ht
  unfold B8Q
  rw [Nat.zero_add,ea,eb]
  dsimp only
  rw [←ea,←eb,hAB,ea,eb,ga,gb,if_neg,if_neg (by simp),if_neg,if_neg (by omega)]
  ·rintro ⟨h0,hc⟩; rw [hprev h0] at hc; cases hc
  ·rintro (⟨hc,hc'⟩ | hc | ⟨h0,hc⟩)
   ·rcases h1 with h1 | h1
    ·exact hc h1
    ·exact hc' h1
   ·cases hc
   ·rw [C0I (hprev h0)] at hc; cases hc
 unfold B4T
 rw [hF,hTb]
 rfl
end Go.Pl
namespace Go.Pl
open Go Go.Sl Go.Dm
theorem C2L {p:C9} (hg:p.A7.length≤maxLen) (ht:B7O p.C8∧(A8T p.C8).2=0) {K:H5} {r:F7} (word:decide (K.A7f=(⟨#[]⟩:ByteArray))=false) (w0:0≤r.K6) (w1:r.K6≤1000)
  (pl:A0v K r=some true) (a:K.fa=103∨(K.fa=101∧r.fA≠⟨#[]⟩)→0≤A7b p r.fA) (b:K.fb=true→0≤A7b p r.fB∧r.fA≠r.fB) (nm:K.fa=100→A9s r.fA=some true)
  (t:K.ft=116∨(K.ft=101∧r.I5≠⟨#[]⟩)→0≤A4n p r.I5) (s:K.A5X=true→K.ft=116)
  (n:K.fn=true→K.flo≤r.fN∧(K.A5X=false→r.fN≤24)∧(K.A5X=true→∀ t,p.C8[(A4n p r.I5).toNat]?=some t→r.fN<M6 t)):A1M K p r=some 0:=by
 have who:∀ n,A0P p n=some (A7b p n):=λn=>B0z hg n
 have f:∀ {v:Int},0≤v→decide (v<0)=false:=λh=>Df (by omega)
 have e3:(bif decide (K.fa=(103:Int)) then Option.bind (A0P p r.fA) λt50=>some (decide (t50<(0:Int))) else some false)=some false:=by
  by_cases h:K.fa=103
  ·simp only [who,h,f (a (.inl h)),decide_true,Cy,Oz]
  ·rw [Df h]; rfl
 have e4:A3F K p r=some false:=by
  unfold A3F
  simp only [who,Oz]
  have hb:(bif K.fb then some (decide (A7b p r.fB<0)) else some false)=some false:=by
   cases h:K.fb with
   | true=>rw [f (b h).1]; rfl
   | false=>rfl
  rw [hb]
  by_cases h:K.fa=101 <;> by_cases h2:r.fA=⟨#[]⟩
  ·simp [h,h2]
  ·rw [f (a (.inr ⟨h,h2⟩))]; simp [h,h2]
  ·simp [h]
  ·simp [h]
 have e5:(bif decide (K.fa=(100:Int)) then Option.bind (A9s r.fA) λt113=>some (!t113) else some false)=some false:=by
  by_cases h:K.fa=100
  ·rw [nm h,h]; rfl
  ·rw [Df h]; rfl
 have e6:(bif K.fb then some (decide (r.fA=r.fB)) else some false)=some false:=by
  cases h:K.fb with
  | true=>rw [Df (b h).2]; rfl
  | false=>rfl
 unfold A1M
 rw [word,Cn,Df (by omega:¬ r.K6<0),Cn,Df (by omega:¬ 1000<r.K6),Oz,Cn,pl,Oz,Bq,Cn,e3,Oz]
 unfold A7Q
 rw [Cn,e4,Oz,Cn,e5,Oz,Cn,e6,Oz,Cn]
 unfold A7J
 rw [C3U ht.1 ht.2]
 by_cases hlt:A4n p r.I5<0
 ·have n1:¬ K.ft=116:=λh=>by have:=t (.inl h); omega
  have n2:K.ft=101→r.I5=⟨#[]⟩:=λh=>Decidable.byContradiction λh2=>by have:=t (.inr ⟨h,h2⟩); omega
  have n3:K.A5X=false:=by
   cases h:K.A5X with
   | false=>rfl
   | true=>exact absurd (s h) n1
  have e8:(bif decide (K.ft=(101:Int)) then bif !decide (r.I5=(⟨#[]⟩:ByteArray)) then some true else some false else some false)=some false:=by
   by_cases h:K.ft=101
   ·simp [h,n2 h]
   ·simp [h]
  rw [Dt hlt,Cy,Oz]
  simp only [Bp,Df n1,Cn]
  rw [e8,Oz]
  unfold A3J
  rw [n3]
  simp only [Cn,Oz]
  cases h:K.fn with
  | false=>rfl
  | true=>
   have q:=n h
   have q2:=q.2.1 n3
   rw [Df (by omega:¬ r.fN<K.flo),Df (by omega:¬ 24<r.fN)]
   rfl
 ·obtain ⟨tb,hx,e⟩:=C6L ht.1 ht.2 (n:=r.I5) (by omega)
  rw [Df hlt,Cn,Oz]
  have e8:(bif decide (K.ft=(116:Int)) then bif decide (K.ft=(101:Int)) then bif !decide (r.I5=(⟨#[]⟩:ByteArray)) then some false else some false else some false else bif decide (K.ft=(101:Int)) then bif !decide (r.I5=(⟨#[]⟩:ByteArray)) then some false else some false else some false)=some false:=by
   cases decide (K.ft=(116:Int)) <;> cases decide (K.ft=(101:Int)) <;> cases !decide (r.I5=(⟨#[]⟩:ByteArray)) <;> rfl
  simp only [Bq,Cn]
  rw [e8,Oz]
  unfold A3J
  rw [e,Cn]
  cases h:K.fn with
  | false=>cases K.A5X <;> rfl
  | true=>
   have q:=n h
   cases h2:K.A5X with
   | false=>
    have q2:=q.2.1 h2
    rw [Cn,Oz,Cy,Df (by omega:¬ r.fN<K.flo),Df (by omega:¬ 24<r.fN)]
    rfl
   | true=>
    have q2:=q.2.2 h2 tb hx
    rw [Cy,Oz,Cy,Df (by omega:¬ r.fN<K.flo),Df (by omega:¬ M6 tb - 1<r.fN)]
    rfl
theorem B7R {p:C9} {r:F7} {k:Int} {K:H5} {b:Bool} (lk:lkM KM k zK=some (K,b)) (hk:r.F9=k) (h:A1M K p r=some 0):rCk p r=0:=by
 unfold rCk
 rw [hk,C5v lk,h]
 rfl
section
variable {p:C9} (hg:p.A7.length≤maxLen) (ht:B7O p.C8∧(A8T p.C8).2=0)
include hg ht
theorem D2q {k w n:Int} {A B:ByteArray} (hk:k=1∨k=2∨k=3∨k=4∨k=5) (hw:0≤w) (hw':w≤1000) (hA:0≤A7b p A) (hB:0≤A7b p B) (hAB:A≠B)
  (a0:A≠⟨#[]⟩) (b0:B≠⟨#[]⟩) (h1:k=1→0≤n∧n≤24) (h4:k=4→1≤n∧n≤24) (h0:k≠1→k≠4→n=0):rCk p ⟨k,w,A,B,⟨#[]⟩,n⟩=0:=by
 have key:∀ {K:H5} {b:Bool},lkM KM k zK=some (K,b)→decide (K.A7f=(⟨#[]⟩:ByteArray))=false→K.fa=103→K.fb=true→K.ft=0→K.A5X=false→(K.fn=true→K.flo≤n∧n≤24)→(K.fn=false→n=0)→rCk p ⟨k,w,A,B,⟨#[]⟩,n⟩=0:=λ{K b} lk hw1 h2 h3 h5 h6 h7 h8=>by
  refine B7R lk rfl (C2L hg ht hw1 hw hw' ?_ (λ_=>hA) (λ_=>⟨hB,hAB⟩) (λh=>by omega) (λh=>by omega) (λh=>by rw [h6] at h; cases h) (λh=>⟨(h7 h).1,λ_=>(h7 h).2,λh=>by rw [h6] at h; cases h⟩))
  cases hn:K.fn with
  | true=>simp [*,A0v,A0l,A0n]
  | false=>have:=h8 hn; subst this; simp [*,A0v,A0l,A0n]
 rcases hk with rfl | rfl | rfl | rfl | rfl
 ·exact key D2p (by kernel_rfl) rfl rfl rfl rfl (λ_=>h1 rfl) (λh=>by cases h)
 ·exact key D2X (by kernel_rfl) rfl rfl rfl rfl (λh=>by cases h) (λ_=>h0 (by omega) (by omega))
 ·exact key D2K (by kernel_rfl) rfl rfl rfl rfl (λh=>by cases h) (λ_=>h0 (by omega) (by omega))
 ·exact key D2s (by kernel_rfl) rfl rfl rfl rfl (λ_=>h4 rfl) (λh=>by cases h)
 ·exact key D2M (by kernel_rfl) rfl rfl rfl rfl (λh=>by cases h) (λ_=>h0 (by omega) (by omega))
theorem D3H {w:Int} {A T:ByteArray} (hw:0≤w) (hw':w≤1000) (hA:0≤A7b p A) (a0:A≠⟨#[]⟩) (t0:T≠⟨#[]⟩) (hT:0≤A4n p T):rCk p ⟨6,w,A,⟨#[]⟩,T,0⟩=0:=
 B7R D2I rfl (C2L hg ht (by kernel_rfl) hw hw' (by simp [*,A0v,A0l,A0n]) (λ_=>hA) (λh=>by cases h) (λh=>by simp at h) (λ_=>hT) (λh=>by cases h) (λh=>by cases h))
theorem D1H {w n:Int} {A T:ByteArray} (hw:0≤w) (hw':w≤1000) (hA:0≤A7b p A) (a0:A≠⟨#[]⟩) (t0:T≠⟨#[]⟩) (hT:0≤A4n p T) {t:D7} (hx:G7 p.C8 (A4n p T)=some t) (hn:0≤n) (hn':n<M6 t):rCk p ⟨7,w,A,⟨#[]⟩,T,n⟩=0:=
 B7R D1j rfl (C2L hg ht (by kernel_rfl) hw hw' (by simp [*,A0v,A0l,A0n]) (λ_=>hA) (λh=>by cases h) (λh=>by simp at h) (λ_=>hT) (λ_=>rfl) (λ_=>⟨hn,(λh=>by cases h),(λ_ t' ht'=>by
  have e:G7 p.C8 (A4n p T)=some t':=by
   rw [show A4n p T=((A4n p T).toNat:Int) by omega]
   exact J2 ht'
  rw [hx] at e
  cases e
  exact hn')⟩))
theorem C5j {w:Int} {A:ByteArray} (hw:0≤w) (hw':w≤1000) (hA:A=⟨#[]⟩∨(A≠⟨#[]⟩∧0≤A7b p A)):rCk p ⟨10,w,A,⟨#[]⟩,⟨#[]⟩,0⟩=0:=
 B7R D0v rfl (C2L hg ht (by kernel_rfl) hw hw' (by simp [*,A0v,A0l,A0n]) (λh=>by
  rcases hA with e | e
  ·rcases h with h | ⟨_,h⟩
   ·simp at h
   ·exact absurd e h
  ·exact e.2) (λh=>by cases h) (λh=>by simp at h) (λh=>by simp at h) (λh=>by cases h) (λh=>by cases h))
theorem C6z {w:Int} {A T:ByteArray} (hw:0≤w) (hw':w≤1000) (a0:A≠⟨#[]⟩) (ha:A.size≤maxLen) (hn:A4U A=true) (t0:T≠⟨#[]⟩) (hT:0≤A4n p T):rCk p ⟨17,w,A,⟨#[]⟩,T,0⟩=0:=
 B7R C9Z rfl (C2L hg ht (by kernel_rfl) hw hw' (by simp [*,A0v,A0l,A0n]) (λh=>by simp at h) (λh=>by cases h) (λ_=>by rw [←hn]; exact B7e ha) (λ_=>hT) (λh=>by cases h) (λh=>by cases h))
theorem D0L {k w n:Int} {T:ByteArray} (hk:k=8∨k=9∨k=11∨k=12∨k=13∨k=14∨k=18∨k=15∨k=16) (hw:0≤w) (hw':w≤1000) (hT:T=⟨#[]⟩∨(T≠⟨#[]⟩∧0≤A4n p T)) (hn:n=0∨((k=15∨k=16)∧0≤n∧n≤24)):rCk p ⟨k,w,⟨#[]⟩,⟨#[]⟩,T,n⟩=0:=by
 have key:∀ {K:H5} {b:Bool},lkM KM k zK=some (K,b)→decide (K.A7f=(⟨#[]⟩:ByteArray))=false→K.fa=0→K.fb=false→K.ft=101→K.A5X=false→(K.fn=true→K.flo≤n∧n≤24)→(K.fn=false→n=0)→rCk p ⟨k,w,⟨#[]⟩,⟨#[]⟩,T,n⟩=0:=λ{K b} lk hw1 h2 h3 h5 h6 h7 h8=>by
  refine B7R lk rfl (C2L hg ht hw1 hw hw' ?_ (λh=>by omega) (λh=>by rw [h3] at h; cases h) (λh=>by omega) (λh=>?_) (λh=>by rw [h6] at h; cases h) (λh=>⟨(h7 h).1,λ_=>(h7 h).2,λh=>by rw [h6] at h; cases h⟩))
  ·cases hq:K.fn with
   | true=>simp [*,A0v,A0l,A0n]
   | false=>have:=h8 hq; subst this; simp [*,A0v,A0l,A0n]
  ·rcases hT with e | e
   ·rcases h with h | ⟨_,h⟩
    ·omega
    ·exact absurd e h
   ·exact e.2
 rcases hk with rfl | rfl | rfl | rfl | rfl | rfl | rfl | rfl | rfl
 ·exact key D2V (by kernel_rfl) rfl rfl rfl rfl (λh=>by cases h) (λ_=>by omega)
 ·exact key D2B (by kernel_rfl) rfl rfl rfl rfl (λh=>by cases h) (λ_=>by omega)
 ·exact key C9h (by kernel_rfl) rfl rfl rfl rfl (λh=>by cases h) (λ_=>by omega)
 ·exact key D0y (by kernel_rfl) rfl rfl rfl rfl (λh=>by cases h) (λ_=>by omega)
 ·exact key C9J (by kernel_rfl) rfl rfl rfl rfl (λh=>by cases h) (λ_=>by omega)
 ·exact key C8N (by kernel_rfl) rfl rfl rfl rfl (λh=>by cases h) (λ_=>by omega)
 ·exact key C9q (by kernel_rfl) rfl rfl rfl rfl (λh=>by cases h) (λ_=>by omega)
 ·exact key C9c (by kernel_rfl) rfl rfl rfl rfl (λ_=>by dsimp only; omega) (λh=>by cases h)
 ·exact key D0h (by kernel_rfl) rfl rfl rfl rfl (λ_=>by dsimp only; omega) (λh=>by cases h)
end
end Go.Pl
namespace Go.Pl
open Go Go.Sl Go.Dm
structure MTs (ts:List D7):Prop where
 len:ts.length≤3
 t:∀ i t,ts[i]?=some t→A5L t=0∧t.F8=wd i∧A1n (D7.mk t.F8 t.P8 t.fA t.fB ([]:List Int) t.fX t.fY)=some (M6 t)∧M6 t≤8∧OkT t
 x:∀ (i:Nat) (t:D7),ts[i]?=some t→∃ x:Nat,x<256∧A3a (i:Int) (x:Int)=some t
theorem D2c:([0,1,2].all λi=>!decide (wd i=(⟨#[]⟩:ByteArray)) && [0,1,2].all λj=>decide (i=j) || !decide (wd i=wd j))=true:=by kernel_rfl
theorem D4p {i:Nat} (h:i<3):wd i≠(⟨#[]⟩:ByteArray):=by
 have:=Al.1 D2c i (by simp; omega)
 simp only [Ba,Bool.not_eq_true',decide_eq_false_iff_not] at this
 exact this.1
theorem C8T {i j:Nat} (hi:i<3) (hj:j<3) (h:wd i=wd j):i=j:=by
 have:=Al.1 D2c i (by simp; omega)
 simp only [Ba] at this
 have:=Al.1 this.2 j (by simp; omega)
 simp only [Bool.or_eq_true,Dq,Bool.not_eq_true',decide_eq_false_iff_not] at this
 rcases this with e | e
 ·exact e
 ·exact absurd h e
theorem C5n {α:Type} (p:α→Bool):∀ (l:List α) (i k:Nat) (x:α),l[k]?=some x→p x=true→(∀ j y,j<k→l[j]?=some y→p y=false)→Y7 p i l=((i+k:Nat):Int)
 | [],_,_,_,h,_,_=>by simp at h
 | y::l,i,0,x,h,hp,_=>by simp at h; subst h; simp [Y7,hp]
 | y::l,i,k+1,x,h,hp,hq=>by
  have h0:=hq 0 y (by omega) rfl
  simp only [Y7,h0,Bool.false_eq_true,if_false]
  rw [C5n p l (i+1) k x (by simpa using h) hp (λj z hj hz=>hq (j+1) z (by omega) (by simpa using hz))]
  congr 1
  omega
theorem MTs.tab {p:C9} (h:MTs p.C8) {i:Nat} (hi:i<p.C8.length):A4n p (wd i)=(i:Int):=by
 have hx:=Lg hi
 have hl:=h.len
 unfold A4n
 rw [C5n _ p.C8 0 i _ hx (by rw [(h.t i _ hx).2.1]; simp) (λj y hj hy=>by
  rw [(h.t j y hy).2.1]
  refine Df λe=>?_
  have:=C8T (by omega) (by omega) e
  omega)]
 congr 1
 omega
theorem MGs.who {p:C9} (h:MGs p.A7) {i:Nat} {g:E9} (hg:p.A7[i]?=some g):0≤A7b p g.F8∧g.F8≠⟨#[]⟩:=by
 have hl:=h.len
 have hi:=P5 hg
 refine ⟨?_,by rw [(h.g i g hg).name]; exact D3O (B9a (by omega))⟩
 unfold A7b
 rw [B1L]
 exact Ay.2 ⟨g,A0C hg,by simp⟩
theorem C6M {m n:Nat} (hm:m≤9223372036854775807) (hn:0<n):A5K (m:Int) (n:Int)=some ((m / n:Nat):Int):=by
 obtain ⟨n,rfl⟩:∃ k,n=k+1:=⟨n - 1,by omega⟩
 show (bif Nat.ble m 9223372036854775807 then some (Int.ofNat (m / (n+1))) else none)=_
 rw [Nb hm]
 rfl
theorem C9n {m n:Nat} (hn:0<n):U9 (m:Int) (n:Int)=some ((m % n:Nat):Int):=by
 obtain ⟨n,rfl⟩:∃ k,n=k+1:=⟨n - 1,by omega⟩
 rfl
theorem B9h {τ ρ:Type} {bad:Nat→τ→Option ρ} {fin:ρ}:∀ (xs:List τ) (i:Nat),(∀ k x,xs[k]?=some x→bad (i+k) x=none)→A0M bad fin i xs=fin
 | [],_,_=>rfl
 | x::xs,i,h=>by
  simp only [A0M]
  rw [show bad i x=none from h 0 x rfl]
  exact B9h xs (i+1) (λk y hy=>by rw [show i+1+k=i+(k+1) by omega]; exact h (k+1) y hy)
theorem MTs.ok {l:List D7} (h:MTs l):B7O l∧(A8T l).2=0:=by
 have hl:=h.len
 refine ⟨⟨by rw [mx]; omega,λt ht=>?_⟩,?_⟩
 ·obtain ⟨i,hi⟩:=List.getElem?_of_mem ht
  exact (h.t i t hi).2.2.2.2
 ·unfold A8T
  rw [if_neg (by omega),B9h l 0 (λk t ht=>?_)]
  ·rfl
  have hk:=P5 ht
  have:=h.t k t ht
  unfold B6a
  rw [Nat.zero_add,if_neg (by simp [this.1]),if_neg]
  intro hc
  obtain ⟨y,hy,e⟩:=Ay.1 hc
  obtain ⟨j,hj⟩:=List.getElem?_of_mem hy
  have hjk:=P5 hj
  rw [List.length_take] at hjk
  have hj':l[j]?=some y:=by rw [List.getElem?_take] at hj; rw [if_pos (by omega)] at hj; exact hj
  rw [Dq,(h.t j y hj').2.1,this.2.1] at e
  have:=C8T (by omega) (by omega) e
  omega
structure B7a (m:R6):Prop where
 t:∀ e∈m.C8,0≤e∧e≤255
 g:∀ e∈m.A7,0≤e∧e≤65535
 i:∀ e∈m.N7,0≤e∧e≤255
 r:∀ e∈m.J9,0≤e∧e≤4294967295
 tl:m.C8.length≤maxLen
 gl:m.A7.length≤maxLen
 il:m.N7.length≤maxLen
 rl:m.J9.length≤maxLen
structure RU (r:F7):Prop where
 u:OkU r
 a:r.fA.size≤2
 b:r.fB.size≤2
theorem C9X {p:C9} (hG:MGs p.A7) (hT:MTs p.C8) {x:Nat} (hx:x≤4294967295):∃ r b,B0A p (x:Int)=some (r,b)∧(b=true→rCk p r=0∧RU r):=by
 have lg:=hG.len
 have lt:=hT.len
 have mg:p.A7.length≤maxLen:=by rw [mx]; omega
 have mt:=hT.ok
 have q18:A5K (x:Int) 18=some ((x / 18:Nat):Int):=C6M (n:=18) (by omega) (by omega)
 have r18:U9 (x:Int) 18=some ((x % 18:Nat):Int):=rfl
 have r5:∀ m:Nat,U9 (m:Int) 5=some ((m % 5:Nat):Int):=λm=>rfl
 have r7:∀ m:Nat,U9 (m:Int) 7=some ((m % 7:Nat):Int):=λm=>rfl
 have r4:∀ m:Nat,U9 (m:Int) 4=some ((m % 4:Nat):Int):=λm=>rfl
 have r3:∀ m:Nat,U9 (m:Int) 3=some ((m % 3:Nat):Int):=λm=>rfl
 have q5:A5K ((x / 18:Nat):Int) 5=some ((x / 18 / 5:Nat):Int):=C6M (n:=5) (by omega) (by omega)
 have e1:(1:Int)+((x % 18:Nat):Int)=((1+x % 18:Nat):Int):=by omega
 have e2:(1:Int)+((x / 18 % 7:Nat):Int)=((1+x / 18 % 7:Nat):Int):=by omega
 obtain ⟨w,hw,w0,w1⟩:∃ w:Nat,(bif decide ((1:Int)<((x / 18 % 5:Nat):Int)) then Option.bind (U9 ((x / 18:Nat):Int) (7:Int)) λt28=>Option.bind (J5 ((1:Int)+t28)) λt29=>some t29 else some (0:Int))=some (w:Int)∧0≤(w:Int)∧(w:Int)≤1000:=by
  cases decide ((1:Int)<((x / 18 % 5:Nat):Int))
  ·exact ⟨0,rfl,by omega,by omega⟩
  ·exact ⟨1+x / 18 % 7,by simp only [Cy,r7,e2,A2d (show -1000000000≤((1+x / 18 % 7:Nat):Int) by omega) (by omega),Oz],by omega,by omega⟩
 simp only [B0A,r18,e1,A2d (show -1000000000≤((1+x % 18:Nat):Int) by omega) (by omega),C6W (show 1+x % 18≤255 by omega),q18,r5,q5,hw,Oz]
 have hk1:1≤1+x % 18:=by omega
 have hk2:1+x % 18≤18:=by omega
 have hz:x / 18 / 5≤4294967295:=by omega
 generalize 1+x % 18=k at hk1 hk2
 generalize x / 18 / 5=z at hz
 by_cases hg0:p.A7.length=0
 ·rw [Dt (show (p.A7.length:Int)=0 by omega)]
  exact ⟨_,_,rfl,λh=>by cases h⟩
 rw [Df (show ¬ (p.A7.length:Int)=0 by omega)]
 by_cases ht0:p.C8.length=0
 ·rw [Dt (show (p.C8.length:Int)=0 by omega)]
  exact ⟨_,_,rfl,λh=>by cases h⟩
 rw [Df (show ¬ (p.C8.length:Int)=0 by omega)]
 simp only [Cn,Oz]
 have a1:=C9n (m:=z) (n:=p.A7.length) (by omega)
 have a2:=C6M (m:=z) (n:=p.A7.length) (by omega) (by omega)
 have a3:=C9n (m:=z / p.A7.length) (n:=p.A7.length) (by omega)
 have a4:A5K (z:Int) 7=some ((z / 7:Nat):Int):=C6M (n:=7) (by omega) (by omega)
 have a5:=C9n (m:=z / 7) (n:=p.C8.length) (by omega)
 have a6:A5K (z:Int) 11=some ((z / 11:Nat):Int):=C6M (n:=11) (by omega) (by omega)
 have a7:A5K (z:Int) 13=some ((z / 13:Nat):Int):=C6M (n:=13) (by omega) (by omega)
 obtain ⟨ga,hA⟩:∃ g,p.A7[z % p.A7.length]?=some g:=⟨_,Lg (Nat.mod_lt z (show p.A7.length > 0 by omega))⟩
 obtain ⟨gb,hB⟩:∃ g,p.A7[z / p.A7.length % p.A7.length]?=some g:=⟨_,Lg (Nat.mod_lt (z / p.A7.length) (show p.A7.length > 0 by omega))⟩
 obtain ⟨ta,hTt⟩:∃ g,p.C8[z / 7 % p.C8.length]?=some g:=⟨_,Lg (Nat.mod_lt (z / 7) (show p.C8.length > 0 by omega))⟩
 have htl:=Nat.mod_lt (z / 7) (show p.C8.length > 0 by omega)
 have hal:=Nat.mod_lt z (show p.A7.length > 0 by omega)
 have hbl:=Nat.mod_lt (z / p.A7.length) (show p.A7.length > 0 by omega)
 simp only [B3n,a1,a2,a3,a4,a5,a6,r4,Oz]
 have hn4:z / 11 % 4<4:=by omega
 generalize z / 11 % 4=n at hn4
 generalize z / 13=y at a7
 generalize z / p.A7.length % p.A7.length=b at hB hbl
 generalize z % p.A7.length=a at hA hal
 generalize z / 7 % p.C8.length=t at hTt htl
 have hr3:∃ c:Bool,U9 (z:Int) (3:Int)=some ((z % 3:Nat):Int):=⟨true,rfl⟩
 have wA:=hG.who hA
 have wB:=hG.who hB
 have nA:=hG.g a ga hA
 have nB:=hG.g b gb hB
 have tT:=hT.t t ta hTt
 have tI:A4n p ta.F8=(t:Int):=by rw [tT.2.1]; exact hT.tab htl
 have tN:ta.F8≠⟨#[]⟩:=by rw [tT.2.1]; exact D4p (by omega)
 have tC:G7 p.C8 (A4n p ta.F8)=some ta:=by rw [tI]; exact J2 hTt
 have gA:=J2 hA
 have gB:=J2 hB
 have gT:=J2 hTt
 have og:=nA.og
 have hne:a≠b→ga.F8≠gb.F8:=λhab e=>by
  rw [nA.name,nB.name] at e
  exact hab (C9o (by omega) (by omega) (C6v (Nat.le_of_lt (B9a (by omega))) (Nat.le_of_lt (B9a (by omega))) e))
 have okU:∀ {k:Int} {A B T:ByteArray} {n:Int},0≤k→k≤255→A.size≤2→B.size≤2→RU ⟨k,(w:Int),A,B,T,n⟩:=λh h' h2 h3=>⟨⟨⟨h,h'⟩,by rw [mx]; dsimp only; omega⟩,h2,h3⟩
 have z0:(⟨#[]⟩:ByteArray).size≤2:=Nat.zero_le _
 have sA:ga.F8.size≤2:=by rw [nA.name,(B9f (B9a (by omega))).2.2]; omega
 have sB:gb.F8.size≤2:=by rw [nB.name,(B9f (B9a (by omega))).2.2]; omega
 have two:∀ (k:Int) (m:Int),(k=1∨k=2∨k=3∨k=4∨k=5)→(k=1→0≤m∧m≤24)→(k=4→1≤m∧m≤24)→(k≠1→k≠4→m=0)→(!decide ((a:Int)=(b:Int)))=true→rCk p ⟨k,(w:Int),ga.F8,gb.F8,⟨#[]⟩,m⟩=0∧RU ⟨k,(w:Int),ga.F8,gb.F8,⟨#[]⟩,m⟩:=λk m h1 h2 h3 h4 h5=>by
  simp only [Bool.not_eq_true',decide_eq_false_iff_not] at h5
  exact ⟨D2q mg mt h1 w0 w1 wA.1 wB.1 (hne λe=>h5 (by rw [e])) wA.2 wB.2 h2 h3 h4,okU (by omega) (by omega) sA sB⟩
 have rest:∀ (k:Int) (T:ByteArray) (m:Int),(k=8∨k=9∨k=11∨k=12∨k=13∨k=14∨k=18∨k=15∨k=16)→(T=⟨#[]⟩∨T=ta.F8)→(m=0∨((k=15∨k=16)∧0≤m∧m≤24))→rCk p ⟨k,(w:Int),⟨#[]⟩,⟨#[]⟩,T,m⟩=0∧RU ⟨k,(w:Int),⟨#[]⟩,⟨#[]⟩,T,m⟩:=λk T m h1 h2 h3=>by
  refine ⟨D0L mg mt h1 w0 w1 ?_ h3,okU (by omega) (by omega) z0 z0⟩
  rcases h2 with rfl | rfl
  ·exact .inl rfl
  ·exact .inr ⟨tN,by omega⟩
 obtain h | h | h | h | h | h | h | h | h | h | h | h | h | h | h | h | h | h:k=1∨k=2∨k=3∨k=4∨k=5∨k=6∨k=7∨k=8∨k=9∨k=10∨k=11∨k=12∨k=13∨k=14∨k=15∨k=16∨k=17∨k=18:=by omega
 all_goals subst h
 ·exact ⟨⟨1,w,ga.F8,gb.F8,⟨#[]⟩,n⟩,!decide ((a:Int)=(b:Int)),by simp [A2Q,gA,gB],λh=>two 1 (n:Int) (by simp) (λ_=>by omega) (λh=>by omega) (λh=>by omega) h⟩
 ·exact ⟨⟨2,w,ga.F8,gb.F8,⟨#[]⟩,0⟩,!decide ((a:Int)=(b:Int)),by simp [A2Q,gA,gB],λh=>two 2 0 (by simp) (λ_=>by omega) (λh=>by omega) (λ_ _=>rfl) h⟩
 ·exact ⟨⟨3,w,ga.F8,gb.F8,⟨#[]⟩,0⟩,!decide ((a:Int)=(b:Int)),by simp [A2Q,gA,gB],λh=>two 3 0 (by simp) (λ_=>by omega) (λh=>by omega) (λ_ _=>rfl) h⟩
 ·exact ⟨⟨4,w,ga.F8,gb.F8,⟨#[]⟩,(n:Int)+1⟩,!decide ((a:Int)=(b:Int)),by simp [A2Q,gA,gB,A2d (show -1000000000≤(n:Int)+1 by omega) (by omega)],λh=>two 4 ((n:Int)+1) (by simp) (λh=>by omega) (λ_=>by omega) (λ_ h=>by omega) h⟩
 ·exact ⟨⟨5,w,ga.F8,gb.F8,⟨#[]⟩,0⟩,!decide ((a:Int)=(b:Int)),by simp [A2Q,gA,gB],λh=>two 5 0 (by simp) (λ_=>by omega) (λh=>by omega) (λ_ _=>rfl) h⟩
 ·exact ⟨⟨6,w,ga.F8,⟨#[]⟩,ta.F8,0⟩,true,by simp [A9V,gA,gT],λ_=>⟨D3H mg mt w0 w1 wA.1 wA.2 tN (by omega),okU (by omega) (by omega) sA z0⟩⟩
 ·have hb:=Y5 ta
  have hpos:=(A6w tT.1).2.1
  obtain ⟨s,hs⟩:=Zn hb.1
  have m1:=C9n (m:=y) (n:=s) (by omega)
  have hlt:=Nat.mod_lt y (show s > 0 by omega)
  have sz:=tT.2.2.1
  rw [hs] at sz
  exact ⟨⟨7,w,ga.F8,⟨#[]⟩,ta.F8,((y % s:Nat):Int)⟩,true,by simp only [A9V,gA,gT,a7,sz,m1,Oz]; rfl,λ_=>⟨D1H mg mt w0 w1 wA.1 wA.2 tN (by omega) tC (by omega) (by omega),okU (by omega) (by omega) sA z0⟩⟩
 all_goals simp only [B4e,B3U,r3,gA,gT]
 ·by_cases h3:0<z % 3
  ·exact ⟨⟨8,w,⟨#[]⟩,⟨#[]⟩,ta.F8,0⟩,true,by simp [show (0:Int)<(z:Int) % 3 by omega],λ_=>rest 8 _ 0 (by simp) (.inr rfl) (.inl rfl)⟩
  ·exact ⟨⟨8,w,⟨#[]⟩,⟨#[]⟩,⟨#[]⟩,0⟩,true,by simp [show ¬ (0:Int)<(z:Int) % 3 by omega],λ_=>rest 8 _ 0 (by simp) (.inl rfl) (.inl rfl)⟩
 ·by_cases h3:0<z % 3
  ·exact ⟨⟨9,w,⟨#[]⟩,⟨#[]⟩,ta.F8,0⟩,true,by simp [show (0:Int)<(z:Int) % 3 by omega],λ_=>rest 9 _ 0 (by simp) (.inr rfl) (.inl rfl)⟩
  ·exact ⟨⟨9,w,⟨#[]⟩,⟨#[]⟩,⟨#[]⟩,0⟩,true,by simp [show ¬ (0:Int)<(z:Int) % 3 by omega],λ_=>rest 9 _ 0 (by simp) (.inl rfl) (.inl rfl)⟩
 ·by_cases h3:z % 3=0
  ·exact ⟨⟨10,w,ga.F8,⟨#[]⟩,⟨#[]⟩,0⟩,true,by simp [show (z:Int) % 3=0 by omega],λ_=>⟨C5j mg mt w0 w1 (.inr ⟨wA.2,wA.1⟩),okU (by omega) (by omega) sA z0⟩⟩
  ·exact ⟨⟨10,w,⟨#[]⟩,⟨#[]⟩,⟨#[]⟩,0⟩,true,by simp [show ¬ (z:Int) % 3=0 by omega],λ_=>⟨C5j mg mt w0 w1 (.inl rfl),okU (by omega) (by omega) z0 z0⟩⟩
 ·by_cases h3:0<z % 3
  ·exact ⟨⟨11,w,⟨#[]⟩,⟨#[]⟩,ta.F8,0⟩,true,by simp [show (0:Int)<(z:Int) % 3 by omega],λ_=>rest 11 _ 0 (by simp) (.inr rfl) (.inl rfl)⟩
  ·exact ⟨⟨11,w,⟨#[]⟩,⟨#[]⟩,⟨#[]⟩,0⟩,true,by simp [show ¬ (0:Int)<(z:Int) % 3 by omega],λ_=>rest 11 _ 0 (by simp) (.inl rfl) (.inl rfl)⟩
 ·by_cases h3:0<z % 3
  ·exact ⟨⟨12,w,⟨#[]⟩,⟨#[]⟩,ta.F8,0⟩,true,by simp [show (0:Int)<(z:Int) % 3 by omega],λ_=>rest 12 _ 0 (by simp) (.inr rfl) (.inl rfl)⟩
  ·exact ⟨⟨12,w,⟨#[]⟩,⟨#[]⟩,⟨#[]⟩,0⟩,true,by simp [show ¬ (0:Int)<(z:Int) % 3 by omega],λ_=>rest 12 _ 0 (by simp) (.inl rfl) (.inl rfl)⟩
 ·by_cases h3:0<z % 3
  ·exact ⟨⟨13,w,⟨#[]⟩,⟨#[]⟩,ta.F8,0⟩,true,by simp [show (0:Int)<(z:Int) % 3 by omega],λ_=>rest 13 _ 0 (by simp) (.inr rfl) (.inl rfl)⟩
  ·exact ⟨⟨13,w,⟨#[]⟩,⟨#[]⟩,⟨#[]⟩,0⟩,true,by simp [show ¬ (0:Int)<(z:Int) % 3 by omega],λ_=>rest 13 _ 0 (by simp) (.inl rfl) (.inl rfl)⟩
 ·by_cases h3:0<z % 3
  ·exact ⟨⟨14,w,⟨#[]⟩,⟨#[]⟩,ta.F8,0⟩,true,by simp [show (0:Int)<(z:Int) % 3 by omega],λ_=>rest 14 _ 0 (by simp) (.inr rfl) (.inl rfl)⟩
  ·exact ⟨⟨14,w,⟨#[]⟩,⟨#[]⟩,⟨#[]⟩,0⟩,true,by simp [show ¬ (0:Int)<(z:Int) % 3 by omega],λ_=>rest 14 _ 0 (by simp) (.inl rfl) (.inl rfl)⟩
 ·by_cases h3:0<z % 3
  ·exact ⟨⟨15,w,⟨#[]⟩,⟨#[]⟩,ta.F8,(n:Int)⟩,true,by simp [show (0:Int)<(z:Int) % 3 by omega],λ_=>rest 15 _ (n:Int) (by simp) (.inr rfl) (.inr ⟨by simp,by omega,by omega⟩)⟩
  ·exact ⟨⟨15,w,⟨#[]⟩,⟨#[]⟩,⟨#[]⟩,(n:Int)⟩,true,by simp [show ¬ (0:Int)<(z:Int) % 3 by omega],λ_=>rest 15 _ (n:Int) (by simp) (.inl rfl) (.inr ⟨by simp,by omega,by omega⟩)⟩
 ·by_cases h3:0<z % 3
  ·exact ⟨⟨16,w,⟨#[]⟩,⟨#[]⟩,ta.F8,(n:Int)⟩,true,by simp [show (0:Int)<(z:Int) % 3 by omega],λ_=>rest 16 _ (n:Int) (by simp) (.inr rfl) (.inr ⟨by simp,by omega,by omega⟩)⟩
  ·exact ⟨⟨16,w,⟨#[]⟩,⟨#[]⟩,⟨#[]⟩,(n:Int)⟩,true,by simp [show ¬ (0:Int)<(z:Int) % 3 by omega],λ_=>rest 16 _ (n:Int) (by simp) (.inl rfl) (.inr ⟨by simp,by omega,by omega⟩)⟩
 ·refine ⟨⟨17,w,ga.A0z,⟨#[]⟩,ta.F8,0⟩,!decide (ga.A0z=(⟨#[]⟩:ByteArray)),by simp,λh=>?_⟩
  simp only [Bool.not_eq_true',decide_eq_false_iff_not] at h
  have hd:=nA.di
  unfold A3Z at hd
  rw [Df h,Bool.false_or] at hd
  exact ⟨C6z mg mt w0 w1 h og.diet hd tN (by omega),okU (by omega) (by omega) nA.ds z0⟩
 ·by_cases h3:0<z % 3
  ·exact ⟨⟨18,w,⟨#[]⟩,⟨#[]⟩,ta.F8,0⟩,true,by simp [show (0:Int)<(z:Int) % 3 by omega],λ_=>rest 18 _ 0 (by simp) (.inr rfl) (.inl rfl)⟩
  ·exact ⟨⟨18,w,⟨#[]⟩,⟨#[]⟩,⟨#[]⟩,0⟩,true,by simp [show ¬ (0:Int)<(z:Int) % 3 by omega],λ_=>rest 18 _ 0 (by simp) (.inl rfl) (.inl rfl)⟩
end Go.Pl
namespace Go.Pl
open Go Go.Sl Go.Dm
theorem Vld.of {p:C9} (h:OkP p) (h1:(A8T p.C8).2=0) (h2:(B4T (Q5.mk p.A7 p.N7)).2=0) (h3:p.R7.length=0∨p.R7.length=p.A7.length) (h4:p.R7.all A6G=true) (h5:(p.A7.length:Int)≤R8 p.C8)
  (h6:p.J9.length≤64) (h7:∀ r∈p.J9,rCk p r=0):Vld p:=by
 refine ⟨h,?_⟩
 have hb:B8h p=(0,0):=by
  unfold B8h
  rw [if_neg (by simp [h1]),if_neg (by simp [h2]),if_neg (by omega),if_neg (by simp [h4]),if_neg (by omega)]
 have hr:U3 (B8J p) 0 p.J9=none:=B2b _ 0 λk r hr=>by
  have:=P5 hr
  unfold B8J
  rw [if_neg (by simp [h7 r (A0C hr)]),if_neg (by omega)]
 unfold C5N
 rw [hb,hr]
 rfl
theorem C4R (l:List D7) (t:D7):R8 (l++[t])=R8 l+M6 t:=by simp [R8]
theorem C5x {m:R6} (h:B7a m):∃ s ts,iter (A1D m) FUEL (([]:List D7),(0:Int),(0:Int))=some (s,ts)∧MTs ts∧s=R8 ts∧ts.length=min m.C8.length 3:=by
 obtain ⟨r,hr,hq⟩:=L6 (f:=A1D m) (λs=>∃ k:Nat,s.2.2=(k:Int)∧k≤min m.C8.length 3∧s.1.length=k∧MTs s.1∧s.2.1=R8 s.1) (λs=>3 - s.2.2.toNat) (λr=>MTs r.2∧r.1=R8 r.2∧r.2.length=min m.C8.length 3) (λs hs=>by
  obtain ⟨ts,s,i⟩:=s
  obtain ⟨k,hk,hkn,hl,hT,hsum⟩:=hs
  simp only at hk hl hT hsum
  subst hk; subst hsum
  simp only [A1D]
  by_cases hlt:k<m.C8.length∧k<3
  ·left
   have h1:decide ((k:Int)<(m.C8.length:Int))=true:=Dt (by omega)
   have h2:decide ((k:Int)<3)=true:=Dt (by omega)
   have hx:=Lg hlt.1
   have hb:=h.t _ (Gm hlt.1)
   generalize m.C8[k]=e at hx hb
   obtain ⟨e,rfl⟩:=Zn hb.1
   obtain ⟨t,e1,t1,t2,t3,t4,t5⟩:=D0j hlt.2 (show e<256 by omega)
   have hbs:=A2I ts
   have hts:=Y5 t
   simp only [h1,h2,Cy,Oz,J2 hx,C4t (show (0:Int)≤(e:Int) by omega) (by omega),e1,V4 (show ts.length≤1000 by omega),t3,A2d (show -1000000000≤R8 ts+M6 t by omega) (by omega),H6 (show k<9223372036854775807 by omega)]
   refine ⟨_,rfl,⟨k+1,rfl,by omega,by simp [hl],⟨by simp; omega,λi t' h'=>?_,λi t' h'=>?_⟩,(C4R ts t).symm⟩,by dsimp only; omega⟩
   ·dsimp only at h'
    rw [List.getElem?_append] at h'
    split at h'
    ·exact hT.t i t' h'
    ·have hi0:i - ts.length=0:=by
      have:=P5 h'
      simp at this
      omega
     rw [hi0] at h'
     simp at h'
     subst h'
     have:i=k:=by omega
     subst this
     exact ⟨t1,t2,t3,t4,t5⟩
   ·dsimp only at h'
    rw [List.getElem?_append] at h'
    split at h'
    ·exact hT.x i t' h'
    ·have hi0:i - ts.length=0:=by
      have:=P5 h'
      simp at this
      omega
     rw [hi0] at h'
     simp at h'
     subst h'
     have:i=k:=by omega
     subst this
     exact ⟨e,by omega,e1⟩
  ·right
   have:(bif decide ((k:Int)<(m.C8.length:Int)) then some (decide ((k:Int)<(3:Int))) else some false)=some false:=by
    by_cases h1:k<m.C8.length
    ·rw [Dt (show (k:Int)<(m.C8.length:Int) by omega),Cy,Df (show ¬ (k:Int)<3 by omega)]
    ·rw [Df (show ¬ (k:Int)<(m.C8.length:Int) by omega)]; rfl
   simp only [this,Oz,Cn]
   exact ⟨_,rfl,hT,rfl,by dsimp only; omega⟩) FUEL (([]:List D7),(0:Int),(0:Int)) ⟨0,rfl,by omega,rfl,⟨by simp,λi t h=>by simp at h,λi t h=>by simp at h⟩,rfl⟩ (fuel (by dsimp only; omega))
 exact ⟨r.1,r.2,hr,hq⟩
theorem C5y {m:R6} (h:B7a m):∃ p,A9U m=some p∧Vld p∧MGs p.A7∧MTs p.C8∧p.J9.length≤12∧(∀ r∈p.J9,RU r)∧p.A7.length≤m.A7.length∧p.C8.length=min m.C8.length 3∧∃ s,iter (A1D m) FUEL (([]:List D7),(0:Int),(0:Int))=some (s,p.C8):=by
 obtain ⟨s,ts,e1,hT,rfl,hl⟩:=C5x h
 have hTl:=hT.len
 have hbs:=A2I ts
 obtain ⟨n,hn⟩:=Zn hbs.1
 have hmin:min (m.A7.length:Int) (n:Int)=((min m.A7.length n:Nat):Int):=by omega
 have hmx:=mx
 obtain ⟨r,e2,hG,hGl,hR,hRc⟩:=C8B (gn:=m.A7.take (min m.A7.length n)) (tn:=m.N7) (λe he=>h.g e (List.mem_of_mem_take he)) h.i h.il
 rw [List.length_take] at hGl
 obtain ⟨cl,e3,hc1,hc2⟩:∃ cl,(bif decide ((0:Int)<((m.N7.length % 4:Nat):Int)) then Option.bind (iter (A5i m r) FUEL (([]:List Int),(0:Int))) λclass158=>some class158 else some ([]:List Int))=some cl∧(cl.length=0∨cl.length=r.A7.length)∧cl.all A6G=true:=by
  cases decide ((0:Int)<((m.N7.length % 4:Nat):Int))
  ·exact ⟨[],rfl,.inl rfl,rfl⟩
  ·obtain ⟨cl,hq,hl2,ha⟩:=L6 (f:=A5i m r) (λs=>∃ k:Nat,s.2=(k:Int)∧k≤r.A7.length∧s.1.length=k∧s.1.all A6G=true) (λs=>r.A7.length - s.2.toNat) (λcl=>cl.length=r.A7.length∧cl.all A6G=true) (λs hs=>by
    obtain ⟨cl,i⟩:=s
    obtain ⟨k,hk,hkn,hl,ha⟩:=hs
    simp only at hk hl ha
    subst hk
    simp only [A5i,Cd]
    by_cases hlt:(k:Int)<(r.A7.length:Int)
    ·left
     have hkl:k<m.A7.length:=by omega
     have hx:=Lg hkl
     have hb:=h.g _ (Gm hkl)
     generalize m.A7[k]=e at hx hb
     obtain ⟨e,rfl⟩:=Zn hb.1
     have q3:A5K (e:Int) 3=some ((e / 3:Nat):Int):=C6M (n:=3) (by omega) (by omega)
     have r4:U9 ((e / 3:Nat):Int) 4=some ((e / 3 % 4:Nat):Int):=rfl
     rw [if_pos hlt]
     simp only [J2 hx,C4t (show (0:Int)≤(e:Int) by omega) (by omega),q3,r4,V4 (show cl.length≤1000 by have:=hG.len; omega),H6 (show k<9223372036854775807 by omega),Oz]
     refine ⟨_,rfl,⟨k+1,rfl,by omega,by simp [hl],?_⟩,by dsimp only; omega⟩
     dsimp only
     rw [List.all_append,ha]
     simp [A6G]
     omega
    ·right
     rw [if_neg hlt]
     exact ⟨_,rfl,by omega,ha⟩) FUEL (([]:List Int),(0:Int)) ⟨0,rfl,by omega,rfl,rfl⟩ (fuel (by have:=hG.len; dsimp only; omega))
   exact ⟨cl,by simp only [Cy,hq,Oz],.inr hl2,ha⟩
 obtain ⟨ru,e4,hr1,hr2⟩:∃ ru,iter (A4Y m r) FUEL (ts,cl,([]:List F7),(0:Int))=some (ts,cl,ru)∧ru.length≤12∧∀ x∈ru,rCk ⟨ts,r.A7,r.N7,cl,[]⟩ x=0∧RU x:=by
  obtain ⟨q,hq,ru,rfl,h1,h2⟩:=L6 (f:=A4Y m r) (λs=>∃ k:Nat,s.2.2.2=(k:Int)∧k≤12∧s.1=ts∧s.2.1=cl∧s.2.2.1.length≤k∧∀ x∈s.2.2.1,rCk ⟨ts,r.A7,r.N7,cl,[]⟩ x=0∧RU x) (λs=>12 - s.2.2.2.toNat) (λq=>∃ ru,q=(ts,cl,ru)∧ru.length≤12∧∀ x∈ru,rCk ⟨ts,r.A7,r.N7,cl,[]⟩ x=0∧RU x) (λs hs=>by
   obtain ⟨ts',cl',ru,i⟩:=s
   obtain ⟨k,hk,hkn,h1,h2,hl,ha⟩:=hs
   simp only at hk h1 h2 hl ha
   subst hk; subst h1; subst h2
   simp only [A4Y]
   by_cases hlt:k<m.J9.length∧k<12
   ·left
    have h1:decide ((k:Int)<(m.J9.length:Int))=true:=Dt (by omega)
    have h2:decide ((k:Int)<12)=true:=Dt (by omega)
    have hx:=Lg hlt.1
    have hb:=h.r _ (Gm hlt.1)
    generalize m.J9[k]=e at hx hb
    obtain ⟨e,rfl⟩:=Zn hb.1
    obtain ⟨x,b,ea,hax⟩:=C9X (p:=⟨ts',r.A7,r.N7,cl',[]⟩) hG hT (x:=e) (by omega)
    simp only [h1,h2,Cy,Oz,B1q,J2 hx,C4t (show (0:Int)≤(e:Int) by omega) (by omega),ea,V4 (show ru.length≤1000 by omega),H6 (show k<9223372036854775807 by omega)]
    cases b
    ·exact ⟨_,rfl,⟨k+1,rfl,by omega,rfl,rfl,by dsimp only; omega,ha⟩,by dsimp only; omega⟩
    ·exact ⟨_,rfl,⟨k+1,rfl,by omega,rfl,rfl,by simp; omega,A8h ha (hax rfl)⟩,by dsimp only; omega⟩
   ·right
    have:(bif decide ((k:Int)<(m.J9.length:Int)) then some (decide ((k:Int)<(12:Int))) else some false)=some false:=by
     by_cases h1:k<m.J9.length
     ·rw [Dt (show (k:Int)<(m.J9.length:Int) by omega),Cy,Df (show ¬ (k:Int)<12 by omega)]
     ·rw [Df (show ¬ (k:Int)<(m.J9.length:Int) by omega)]; rfl
    simp only [this,Oz,B1q,Cn]
    exact ⟨_,rfl,ru,rfl,by omega,ha⟩) FUEL (ts,cl,([]:List F7),(0:Int)) ⟨0,rfl,by omega,rfl,rfl,by simp,λx hx=>by cases hx⟩ (fuel (by dsimp only; omega))
  exact ⟨ru,hq,h1,h2⟩
 have r4:U9 (m.N7.length:Int) 4=some ((m.N7.length % 4:Nat):Int):=rfl
 refine ⟨⟨ts,r.A7,r.N7,cl,ru⟩,?_,Vld.of ⟨hT.ok.1,hR,by dsimp only; have:=hG.len; omega,by dsimp only; omega,λx hx=>(hr2 x hx).2.u⟩ hT.ok.2 hRc hc1 hc2 (by dsimp only; omega) (by dsimp only; omega) (λx hx=>(hr2 x hx).1),hG,hT,hr1,λx hx=>(hr2 x hx).2,by dsimp only; omega,hl,_,e1⟩
 simp only [A9U,B5u,e1,hn,hmin,B0a (show min m.A7.length n≤m.A7.length by omega),e2,r4,e3,e4,Oz]
end Go.Pl
namespace Go.Pl
open Go Go.Sl Go.Dm
structure A0a (N G:Nat) (part:List Int):Prop where
 len:part.length=G
 bd:∀ x∈part,-1≤x∧x<N
 one:∀ (i j:Nat) (x:Int),i<j→part[i]?=some x→part[j]?=some x→x=-1
theorem D1q {c:Nat} (hc:0<c) (hc':c≤100000) (e:Int):∃ s:Nat,B6L e (c:Int)=some (s:Int)∧s<c:=by
 obtain ⟨n,rfl⟩:∃ n,c=n+1:=⟨c - 1,by omega⟩
 unfold B6L
 cases e with
 | ofNat m=>
  refine ⟨m % (n+1),?_,Nat.mod_lt _ hc⟩
  have:U9 (Int.ofNat m) ((n+1:Nat):Int)=some ((m % (n+1):Nat):Int):=rfl
  rw [this]
  simp only [Oz]
  rw [Df (show ¬ ((m % (n+1):Nat):Int)<0 by omega)]
  rfl
 | negSucc m=>
  have hlt:=Nat.mod_lt (m+1) hc
  have:U9 (Int.negSucc m) ((n+1:Nat):Int)=some (-(((m+1) % (n+1):Nat):Int)):=rfl
  rw [this]
  generalize (m+1) % (n+1)=q at hlt
  simp only [Oz]
  by_cases h0:q=0
  ·subst h0
   exact ⟨0,rfl,hc⟩
  ·rw [Dt (show -(q:Int)<0 by omega)]
   refine ⟨n+1 - q,?_,by omega⟩
   simp only [Cy]
   rw [A2d (by omega) (by omega)]
   simp only [Oz]
   congr 1
   omega
theorem C6p {p:C9} (h:MTs p.C8):A8m p=some (R8 p.C8):=by
 have hl:=h.len
 have:=A7p (f:=A2W p) (λ(a:Int) (i:Nat)=>(a,(i:Int))) p.C8 (λa i x=>.inl (a+M6 x)) (λa=>a) (λa i=>a=R8 (p.C8.take i)) (a:=0) (by simp [R8]) (n:=FUEL) (fuel (by omega))
  (λa i x hx hI=>by
   have hi:=P5 hx
   have hI:a=R8 (p.C8.take i):=hI
   have b1:=A2I (p.C8.take i)
   have b2:=Y5 x
   simp only [List.length_take] at b1
   simp only [A2W,J2 hx,(h.t i x hx).2.2.1,Oz,Cd]
   rw [if_pos (by omega),A2d (by omega) (by omega)]
   simp only [Oz,H6 (show i<9223372036854775807 by omega)]
   exact ⟨trivial,by rw [A8H _ i hx,hI]⟩)
  (λa _=>by simp [A2W])
 simp only [A8m]
 rw [show ((0:Int),(0:Int))=(λ(a:Int) (i:Nat)=>(a,(i:Int))) 0 0 from rfl,this,C0L]
 simp
end Go.Pl
namespace Go.Pl
open Go Go.Sl
theorem A1W {α:Type} {xs:List α} {s:Int} (d:α) (h0:0≤s) (h1:s<xs.length):G7 xs s=some (xs.getD s.toNat d):=by
 obtain ⟨n,rfl⟩:=Zn h0
 have hn:n<xs.length:=by omega
 rw [A0h hn]
 simp [List.getD,Lg hn]
theorem A6R {α:Type} {xs:List α} {s:Int} (d:α) (h0:0≤s) (h1:s<xs.length):xs.getD s.toNat d∈xs:=by
 have hn:s.toNat<xs.length:=by omega
 simp [List.getD,Lg hn]
theorem fuel' {n:Nat} (h:n≤1000000):n<FUEL:=fuel (by omega)
def Z9 {σ τ:Type} (F:σ→τ→Option σ):σ→List τ→Option σ
 | s,[]=>some s
 | s,x::xs=>Option.bind (F s x) λs'=>Z9 F s' xs
section
variable {σ τ τ' ρ S:Type}
theorem C3m (F:σ→τ→Option σ) (b:List τ):∀ (a:List τ) (s:σ),Z9 F s (a++b)=Option.bind (Z9 F s a) λs'=>Z9 F s' b
 | [],s=>rfl
 | x::a,s=>by
  simp only [List.cons_append,Z9]
  cases F s x with
  | none=>rfl
  | some s'=>exact C3m F b a s'
theorem B6y (g:τ→List τ') (F:σ→τ'→Option σ):∀ (l:List τ) (s:σ),Z9 F s (l.flatMap g)=Z9 (λs x=>Z9 F s (g x)) s l
 | [],s=>rfl
 | x::l,s=>by
  simp only [List.flatMap_cons,C3m,Z9]
  cases Z9 F s (g x) with
  | none=>rfl
  | some s'=>exact B6y g F l s'
theorem B8w (g:τ→τ') (F:σ→τ'→Option σ):∀ (l:List τ) (s:σ),Z9 F s (l.map g)=Z9 (λs x=>F s (g x)) s l
 | [],s=>rfl
 | x::l,s=>by
  simp only [List.map_cons,Z9]
  cases F s (g x) with
  | none=>rfl
  | some s'=>exact B8w g F l s'
theorem A6H (p:τ→Bool) (F:σ→τ→Option σ):∀ (l:List τ) (s:σ),Z9 F s (l.filter p)=Z9 (λs x=>if p x then F s x else some s) s l
 | [],s=>rfl
 | x::l,s=>by
  by_cases h:p x=true
  ·simp only [List.filter_cons,h,if_true,Z9]
   cases F s x with
   | none=>rfl
   | some s'=>exact A6H p F l s'
  ·simp only [List.filter_cons,h,Z9]
   exact A6H p F l s
theorem C8m {f:S→Option (S⊕ρ)} (st:σ→Nat→S) (fin:σ→ρ) (N:Nat) (F:σ→Nat→Option σ)
  (h1:∀ s i,i<N→f (st s i)=Option.bind (F s i) λs'=>some (.inl (st s' (i+1))))
  (h2:∀ s,f (st s N)=some (.inr (fin s))):∀ (n k:Nat) (s:σ),k≤N→N - k<n→iter f n (st s k)=(Z9 F s (List.range' k (N - k))).map fin:=by
 intro n
 induction n with
 | zero=>intro k s _ h; omega
 | succ n ih=>
  intro k s hk hn
  by_cases hl:k=N
  ·subst hl
   simp [iter,h2,Z9]
  ·have hlt:k<N:=by omega
   have e:List.range' k (N - k)=k::List.range' (k+1) (N - (k+1)):=by
    obtain ⟨d,hd⟩:∃ d,N - k=d+1:=⟨N - k - 1,by omega⟩
    rw [hd,List.range'_succ,show N - (k+1)=d by omega]
   rw [e]
   simp only [iter,h1 s k hlt,Z9]
   cases F s k with
   | none=>rfl
   | some s'=>
    simp only [Oz]
    exact ih (k+1) s' (by omega) (by omega)
theorem B6s {f:S→Option (S⊕ρ)} (st:σ→Nat→S) (fin:σ→ρ) {N:Nat} (F:σ→Nat→Option σ)
  (h1:∀ s i,i<N→f (st s i)=Option.bind (F s i) λs'=>some (.inl (st s' (i+1))))
  (h2:∀ s,f (st s N)=some (.inr (fin s))) {n:Nat} (s:σ) (hn:N<n):iter f n (st s 0)=(Z9 F s (List.range N)).map fin:=by
 rw [List.range_eq_range']
 exact C8m st fin N F h1 h2 n 0 s (Nat.zero_le _) (by omega)
theorem C0P {α:Type} {f:S→Option (S⊕ρ)} (st:α→Nat→S) (fin:α→ρ) {N:Nat} (u:α→Nat→α) (I:α→Nat→Prop) {a:α} (h0:I a 0)
  (h1:∀ a i,i<N→I a i→f (st a i)=some (.inl (st (u a i) (i+1)))∧I (u a i) (i+1)) (h2:∀ a,I a N→f (st a N)=some (.inr (fin a))) {n:Nat} (hn:N<n) :
  iter f n (st a 0)=some (fin ((List.range N).foldl u a)):=by
 have key:∀ (n k:Nat) (a:α),I a k→k≤N→N - k<n→iter f n (st a k)=some (fin ((List.range' k (N - k)).foldl u a)):=by
  intro n
  induction n with
  | zero=>intro k a _ _ h; omega
  | succ n ih=>
   intro k a hI hk hn
   by_cases hl:k=N
   ·subst hl
    simp [iter,h2 a hI]
   ·have hlt:k<N:=by omega
    have e:List.range' k (N - k)=k::List.range' (k+1) (N - (k+1)):=by
     obtain ⟨d,hd⟩:∃ d,N - k=d+1:=⟨N - k - 1,by omega⟩
     rw [hd,List.range'_succ,show N - (k+1)=d by omega]
    obtain ⟨e1,e2⟩:=h1 a k hlt hI
    rw [e]
    simp only [iter,e1,Oz,List.foldl_cons]
    exact ih (k+1) (u a k) e2 (by omega) (by omega)
 have:=key n 0 a h0 (Nat.zero_le _) (by omega)
 rw [List.range_eq_range']
 simpa using this
theorem C6o {f:S→Option (S⊕ρ)} (st:σ→Nat→S) (fin:σ→ρ) (xs:List τ) (F:σ→τ→Option σ)
  (h1:∀ s i x,xs[i]?=some x→f (st s i)=Option.bind (F s x) λs'=>some (.inl (st s' (i+1))))
  (h2:∀ s,f (st s xs.length)=some (.inr (fin s))) {n:Nat} (s:σ) (hn:xs.length<n):iter f n (st s 0)=(Z9 F s xs).map fin:=by
 have key:∀ (n k:Nat) (s:σ),k≤xs.length→xs.length - k<n→iter f n (st s k)=(Z9 F s (xs.drop k)).map fin:=by
  intro n
  induction n with
  | zero=>intro k s _ h; omega
  | succ n ih=>
   intro k s hk hn
   by_cases hl:k=xs.length
   ·subst hl
    simp [iter,h2,Z9]
   ·have hlt:k<xs.length:=by omega
    rw [Dc hlt]
    simp only [iter,h1 s k _ (Lg hlt),Z9]
    cases F s xs[k] with
    | none=>rfl
    | some s'=>exact ih (k+1) s' (by omega) (by omega)
 have:=key n 0 s (Nat.zero_le _) (by omega)
 simpa using this
end
end Go.Pl
