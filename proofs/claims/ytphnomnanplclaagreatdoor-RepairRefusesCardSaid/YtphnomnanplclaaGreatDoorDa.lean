import Derived.Test.YtphnomnanplclaaGreatDoorL9
import Derived.Test.YtphnomnanplclaaGreatDoorL10
import Derived.Test.YtphnomnanplclaaGreatDoorL12
/- What the functions compute, as plain Lean functions. -/
set_option maxRecDepth 1000000
set_option maxHeartbeats 40000000
set_option linter.unusedVariables false
set_option linter.unusedSimpArgs false
set_option linter.unnecessarySimpa false
open Go Go.Sl
namespace Go.Dm
theorem inj2 {α β : Type} {a c : α} {b d : β} (h : some (a,b) = some (c,d)) : a = c∧b = d:=by cases h; exact ⟨rfl,rfl⟩
theorem B2G {α β γ : Type} {a c : α} {b d : β} {x y : γ} (h : some (a,b,x) = some (c,d,y)) : a = c∧b = d∧x = y:=by cases h; exact ⟨rfl,rfl,rfl⟩
theorem C8I {α β γ δ : Type} {a c : α} {b d : β} {x y : γ} {u v : δ} (h : some (a,b,x,u) = some (c,d,y,v)) : a = c∧b = d∧x = y∧u = v:=by cases h; exact ⟨rfl,rfl,rfl,rfl⟩
abbrev C1e : Nat:=100000
structure D5 where
  H7 : ByteArray
  N9 : Int
  fA : Int
  fB : Int
  A0N : List Int
  fX : Int
  fY : Int
deriving DecidableEq
structure E5 where
  H7 : ByteArray
  Y0 : ByteArray
  Q5 : ByteArray
  Q6 : Int
  U5 : Int
  V8 : ByteArray
  A0e : Bool
  Q3 : Bool
  M4 : List ByteArray
deriving DecidableEq
structure G6 where
  fA : ByteArray
  fB : ByteArray
  J4 : Int
deriving DecidableEq
structure G5 where
  J4 : Int
  Y6 : Int
  fA : ByteArray
  fB : ByteArray
  V7 : ByteArray
  fN : Int
deriving DecidableEq
structure A2v where
  A5E : ByteArray
  V5 : Int→Int→Option Int
  B2s : Int→Int→Int→Int→Option Bool
  B2A : Int→Int→Int→Int→Option Bool
  C1x : Int→Int→Option Int
  C4i : Int→Int→Option (List (Int→Option Int))
structure P9 where
  X4 : List E5
  A1d : List G6
deriving DecidableEq
structure J2 where
  J7 : P9
  fat : List (ByteArray×Int)
deriving DecidableEq
structure V6 where
  F3 : List E5
  J8 : List G6
deriving DecidableEq
structure A8 where
  H8 : List D5
  F3 : List E5
  J8 : List G6
  K5 : List Int
  K9 : List G5
deriving DecidableEq
structure I5 where
  A5E : ByteArray
  fa : Int
  fb : Bool
  ft : Int
  fn : Bool
  flo : Int
  C4y : Bool
  C3D : Nat
deriving DecidableEq
structure P8 where
  A0J : A8
  C4d : List (Int×I5)
  A3n : List Int
  C7z : List Int
  C7W : List Bool
  B2s : List (List Int)
  B2A : List (List Int)
  A2d : List (List (Int×Int))
  C6B : List (List Bool)
  A1d : List (List Int)
deriving DecidableEq
structure J6 where
  O6 : P8
  R6 : List Int
  C7m : List Int
deriving DecidableEq
structure Z0 where
  O6 : P8
  fp : A8
  A3n : List Int
  C5T : List Int
  B7M : List (List (List Int))
deriving DecidableEq
structure U1 where
  J4 : Int
  fN : Int
deriving DecidableEq
structure A0b where
  A1w : Z0
  A0T : Int
  A2d : List U1
  fat : Int
  R6 : List Int
deriving DecidableEq
structure A1u where
  fat : Int
  fe : Int
deriving DecidableEq
structure U3 where
  A1w : Z0
  A0T : Int
  A2d : List U1
  R6 : List Int
deriving DecidableEq
structure F7 where
  O6 : P8
  fp : A8
  R6 : List Int
  V5 : Int
deriving DecidableEq
structure M7 where
  J4 : Int
  L9 : E5
  fA : ByteArray
  fB : ByteArray
  V7 : ByteArray
  fN : Int
  A2M : G5
deriving DecidableEq
structure A8H where
  A5E : ByteArray
  B8o : Nat
  B8z : Nat
  C4t : Nat
  C2x : Nat
deriving DecidableEq
structure X7 where
  A1H : List Int
  A0B : Int
deriving DecidableEq
structure U6 where
  U8 : A8
  A1H : List Int
  A1X : Int
  A0B : Int
deriving DecidableEq
end Go.Dm
open Go Go.Sl
namespace Go.Dm
def B0I (s1 : List Int) (v2 : Int) : Int→Option (Int⊕(Unit⊕Int)):=fun t6=>
  bif decide (t6 < (s1.length : Int)) then
    Option.bind (K6 s1 t6) fun e15=>
    bif decide (v2 = e15) then
      some (Sum.inr (Sum.inr t6))
    else
      Option.bind (P5 (t6 + (1 : Int))) fun t19=>
      some (Sum.inl t19)
  else
    some (Sum.inr (Sum.inl ()))
def B1e (s1 : List Int) (v2 : Int) : Option (Int):=
 Option.bind (
   iter (B0I s1 v2) FUEL (0 : Int)) fun o3=>match o3 with
 | .inl _u=>
   some (-1 : Int)
 | .inr p=>
   some p
def A1A (s1 : List Int) (v2 : Int) : Option (Bool):=
 Option.bind (B1e s1 v2) fun t3=>
 some (decide ((0 : Int)≤t3))
def A6M (s1 : List Int) (f2 : Int→Option Bool) : Int→Option (Int⊕(Unit⊕Int)):=fun t6=>
  bif decide (t6 < (s1.length : Int)) then
    Option.bind (K6 s1 t6) fun e15=>
    Option.bind (f2 e15) fun t18=>
    bif t18 then
      some (Sum.inr (Sum.inr t6))
    else
      Option.bind (P5 (t6 + (1 : Int))) fun t32=>
      some (Sum.inl t32)
  else
    some (Sum.inr (Sum.inl ()))
def B0a (s1 : List Int) (f2 : Int→Option Bool) : Option (Int):=
 Option.bind (
   iter (A6M s1 f2) FUEL (0 : Int)) fun o3=>match o3 with
 | .inl _u=>
   some (-1 : Int)
 | .inr p=>
   some p
def A2q (s1 : List Int) (f2 : Int→Option Bool) : Option (Bool):=
 Option.bind (B0a s1 f2) fun t3=>
 some (decide ((0 : Int)≤t3))
def A1P (s1 : List D5) (f2 : D5→Option Bool) : Int→Option (Int⊕(Unit⊕Int)):=fun t6=>
  bif decide (t6 < (s1.length : Int)) then
    Option.bind (K6 s1 t6) fun e15=>
    Option.bind (f2 e15) fun t20=>
    bif t20 then
      some (Sum.inr (Sum.inr t6))
    else
      Option.bind (P5 (t6 + (1 : Int))) fun t34=>
      some (Sum.inl t34)
  else
    some (Sum.inr (Sum.inl ()))
def A1J (s1 : List D5) (f2 : D5→Option Bool) : Option (Int):=
 Option.bind (
   iter (A1P s1 f2) FUEL (0 : Int)) fun o3=>match o3 with
 | .inl _u=>
   some (-1 : Int)
 | .inr p=>
   some p
def A3c (s1 : List D5) (f2 : D5→Option Bool) : Option (Bool):=
 Option.bind (A1J s1 f2) fun t3=>
 some (decide ((0 : Int)≤t3))
def A1M (s1 : List E5) (f2 : E5→Option Bool) : Int→Option (Int⊕(Unit⊕Int)):=fun t6=>
  bif decide (t6 < (s1.length : Int)) then
    Option.bind (K6 s1 t6) fun e15=>
    Option.bind (f2 e15) fun t20=>
    bif t20 then
      some (Sum.inr (Sum.inr t6))
    else
      Option.bind (P5 (t6 + (1 : Int))) fun t34=>
      some (Sum.inl t34)
  else
    some (Sum.inr (Sum.inl ()))
def A1R (s1 : List E5) (f2 : E5→Option Bool) : Option (Int):=
 Option.bind (
   iter (A1M s1 f2) FUEL (0 : Int)) fun o3=>match o3 with
 | .inl _u=>
   some (-1 : Int)
 | .inr p=>
   some p
def A5Z (x1 : Int) : Option (Bool):=
 some (!decide (x1 = x1))
def B2r (x1 : Int) (y2 : Int) : Option (Int):=
 Option.bind (A5Z x1) fun t3=>
 Option.bind (A5Z y2) fun t11=>
 bif t3 then
   none
 else
   bif t11 then
     none
   else
     bif decide (x1 < y2) then
       none
     else
       bif decide (y2 < x1) then
         none
       else
         some (0 : Int)
def B6K (x1 : Int) (y2 : Int) : Option (Bool):=
 Option.bind (A5Z x1) fun t3=>
 bif t3 then
   none
 else
   some (decide (x1 < y2))
def A8F (s11 : List Int) (s22 : List Int) : Int→Option (Int⊕Unit):=fun t6=>
  bif decide (t6 < (s11.length : Int)) then
    Option.bind (K6 s11 t6) fun e15=>
    bif decide ((s22.length : Int)≤t6) then
      none
    else
      Option.bind (K6 s22 t6) fun e19=>
      Option.bind (B2r e15 e19) fun t22=>
      bif !decide (t22 = (0 : Int)) then
        none
      else
        Option.bind (P5 (t6 + (1 : Int))) fun t31=>
        some (Sum.inl t31)
  else
    some (Sum.inr ())
def A7K (s11 : List Int) (s22 : List Int) : Option (Int):=
 Option.bind (
   iter (A8F s11 s22) FUEL (0 : Int)) fun _u=>
 bif decide ((s11.length : Int) < (s22.length : Int)) then
   none
 else
   some (0 : Int)
def B1d (s11 : List Int) (s22 : List Int) : Int→Option (Int⊕Unit):=fun t7=>
  bif decide (t7 < (s11.length : Int)) then
    Option.bind (K6 s11 t7) fun e16=>
    Option.bind (K6 s22 t7) fun e19=>
    bif !decide (e16 = e19) then
      none
    else
      Option.bind (P5 (t7 + (1 : Int))) fun t23=>
      some (Sum.inl t23)
  else
    some (Sum.inr ())
def B0t (s11 : List Int) (s22 : List Int) : Option (Bool):=
 bif !decide ((s11.length : Int) = (s22.length : Int)) then
   none
 else
   Option.bind (
     iter (B1d s11 s22) FUEL (0 : Int)) fun _u=>
   some true
def A3e (s1 : List Int) : Option (List Int):=
 Option.bind (apL ([] : List Int) s1) fun t8=>
 some t8
def A7O (s1 : List D5) : Option (List D5):=
 Option.bind (apL ([] : List D5) s1) fun t8=>
 some t8
def A8m (s1 : List E5) : Option (List E5):=
 Option.bind (apL ([] : List E5) s1) fun t8=>
 some t8
def A2R (s1 : List ByteArray) : Option (List ByteArray):=
 Option.bind (apL ([] : List ByteArray) s1) fun t8=>
 some t8
def B1D (s1 : List G6) : Option (List G6):=
 Option.bind (apL ([] : List G6) s1) fun t8=>
 some t8
def A9l (s1 : List G5) : Option (List G5):=
 Option.bind (apL ([] : List G5) s1) fun t8=>
 some t8
end Go.Dm
open Go Go.Sl
namespace Go.Dm
def B9I (x1 : Int) : Option (Int):=
  Option.bind (A3q .u8 x1) fun t5=>
  Option.bind (B4C (⟨#[0,1,2,2,3,3,3,3,4,4,4,4,4,4,4,4,5,5,5,5,5,5,5,5,5,5,5,5,5,5,5,5,6,6,6,6,6,6,6,6,6,6,6,6,6,6,6,6,6,6,6,6,6,6,6,6,6,6,6,6,6,6,6,6,7,7,7,7,7,7,7,7,7,7,7,7,7,7,7,7,7,7,7,7,7,7,7,7,7,7,7,7,7,7,7,7,7,7,7,7,7,7,7,7,7,7,7,7,7,7,7,7,7,7,7,7,7,7,7,7,7,7,7,7,7,7,7,7,8,8,8,8,8,8,8,8,8,8,8,8,8,8,8,8,8,8,8,8,8,8,8,8,8,8,8,8,8,8,8,8,8,8,8,8,8,8,8,8,8,8,8,8,8,8,8,8,8,8,8,8,8,8,8,8,8,8,8,8,8,8,8,8,8,8,8,8,8,8,8,8,8,8,8,8,8,8,8,8,8,8,8,8,8,8,8,8,8,8,8,8,8,8,8,8,8,8,8,8,8,8,8,8,8,8,8,8,8,8,8,8,8,8,8,8,8,8,8,8,8,8,8,8,8,8,8,8]⟩ : ByteArray) t5) fun ch6=>
  Option.bind (A3q .i64 ch6) fun t7=>
  Option.bind (P5 ((0 : Int) + t7)) fun t8=>
  some t8
def bits_Len64 (x1 : Int) : Option (Int):=
 bif decide ((4294967296 : Int)≤x1) then
   none
 else
   bif decide ((65536 : Int)≤x1) then
     none
   else
     bif decide ((256 : Int)≤x1) then
       none
     else
       B9I x1
def bits_Len (x1 : Int) : Option (Int):=
 Option.bind (bits_Len64 x1) fun t2=>
 some t2
def B5r (data1 : List Int) (a3 : Int) (i9 : Int) : Unit→Option (Unit⊕Unit):=fun _u=>
  bif decide (a3 < i9) then
    Option.bind (K6 data1 i9) fun e29=>
    Option.bind (P5 (i9 - (1 : Int))) fun t32=>
    Option.bind (K6 data1 t32) fun e33=>
    Option.bind (B6K e29 e33) fun t36=>
    bif t36 then
      none
    else
      some (Sum.inr ())
  else
    none
def B4R (data1 : List Int) (a3 : Int) (b4 : Int) : Int→Option (Int⊕Unit):=fun i9=>
  bif decide (i9 < b4) then
    Option.bind (
      iter (B5r data1 a3 i9) FUEL ()) fun _u=>
    Option.bind (P5 (i9 + (1 : Int))) fun t48=>
    some (Sum.inl t48)
  else
    some (Sum.inr ())
def C0R (data1 : List Int) (a3 : Int) (b4 : Int) : Option (List Int):=
 Option.bind (P5 (a3 + (1 : Int))) fun t5=>
 Option.bind (
   iter (B4R data1 a3 b4) FUEL t5) fun _u=>
 some data1
def B4U (data1 : List Int) (a3 : Int) (b4 : Int) : Unit→Option (Unit⊕(List Int)):=fun _u=>
  Option.bind (P5 (b4 - a3)) fun t16=>
  bif decide (t16≤(12 : Int)) then
    Option.bind (C0R data1 a3 b4) fun l18=>
    some (Sum.inr l18)
  else
    none
def C1c : Nat→(List Int)→Int→Int→Int→Option (List Int)
  | 0,_,_,_,_=>none
  | n + 1,data1,a3,b4,limit5=>
    Option.bind (
      iter (B4U data1 a3 b4) FUEL ()) fun p=>some p
def B4f (x1 : List Int) : Option (List Int):=
 Option.bind (A3q .u64 (x1.length : Int)) fun t3=>
 Option.bind (bits_Len t3) fun t4=>
 Option.bind (C1c C1e x1 (0 : Int) (x1.length : Int) t4) fun l12=>
 some l12
def A8R (data1 : List (List Int)) (a3 : Int) (cmp5 : (List Int)→(List Int)→Option Int) (i10 : Int) : Unit→Option (Unit⊕Unit):=fun _u=>
  bif decide (a3 < i10) then
    Option.bind (K6 data1 i10) fun e30=>
    Option.bind (P5 (i10 - (1 : Int))) fun t35=>
    Option.bind (K6 data1 t35) fun e36=>
    Option.bind (cmp5 e30 e36) fun t41=>
    bif decide (t41 < (0 : Int)) then
      none
    else
      some (Sum.inr ())
  else
    none
def A8w (data1 : List (List Int)) (a3 : Int) (b4 : Int) (cmp5 : (List Int)→(List Int)→Option Int) : Int→Option (Int⊕Unit):=fun i10=>
  bif decide (i10 < b4) then
    Option.bind (
      iter (A8R data1 a3 cmp5 i10) FUEL ()) fun _u=>
    Option.bind (P5 (i10 + (1 : Int))) fun t58=>
    some (Sum.inl t58)
  else
    some (Sum.inr ())
def B3C (data1 : List (List Int)) (a3 : Int) (b4 : Int) (cmp5 : (List Int)→(List Int)→Option Int) : Option (List (List Int)):=
 Option.bind (P5 (a3 + (1 : Int))) fun t6=>
 Option.bind (
   iter (A8w data1 a3 b4 cmp5) FUEL t6) fun _u=>
 some data1
def A8B (data1 : List (List Int)) (a3 : Int) (b4 : Int) (cmp6 : (List Int)→(List Int)→Option Int) : Unit→Option (Unit⊕(List (List Int))):=fun _u=>
  Option.bind (P5 (b4 - a3)) fun t17=>
  bif decide (t17≤(12 : Int)) then
    Option.bind (B3C data1 a3 b4 cmp6) fun l19=>
    some (Sum.inr l19)
  else
    none
def B3D : Nat→(List (List Int))→Int→Int→Int→((List Int)→(List Int)→Option Int)→Option (List (List Int))
  | 0,_,_,_,_,_=>none
  | n + 1,data1,a3,b4,limit5,cmp6=>
    Option.bind (
      iter (A8B data1 a3 b4 cmp6) FUEL ()) fun p=>some p
def B0g (x1 : List (List Int)) (cmp3 : (List Int)→(List Int)→Option Int) : Option (List (List Int)):=
 Option.bind (A3q .u64 (x1.length : Int)) fun t4=>
 Option.bind (bits_Len t4) fun t5=>
 Option.bind (B3D C1e x1 (0 : Int) (x1.length : Int) t5 cmp3) fun l13=>
 some l13
end Go.Dm
open Go Go.Sl
namespace Go.Dm
def bits_Mul64 (x1 : Int) (y2 : Int) : Option (Int×Int):=
 Option.bind (C1O .u64 x1 (4294967295 : Int)) fun t3=>
 Option.bind (B2U .u64 x1 (32 : Int)) fun t4=>
 Option.bind (C1O .u64 y2 (4294967295 : Int)) fun t5=>
 Option.bind (B2U .u64 y2 (32 : Int)) fun t6=>
 Option.bind (A3q .u64 (t3 * t5)) fun t7=>
 Option.bind (A3q .u64 (t4 * t5)) fun t8=>
 Option.bind (B2U .u64 t7 (32 : Int)) fun t9=>
 Option.bind (A3q .u64 (t8 + t9)) fun t10=>
 Option.bind (C1O .u64 t10 (4294967295 : Int)) fun t11=>
 Option.bind (B2U .u64 t10 (32 : Int)) fun t12=>
 Option.bind (A3q .u64 (t3 * t6)) fun t13=>
 Option.bind (A3q .u64 (t11 + t13)) fun t14=>
 Option.bind (A3q .u64 (t4 * t6)) fun t15=>
 Option.bind (A3q .u64 (t15 + t12)) fun t16=>
 Option.bind (B2U .u64 t14 (32 : Int)) fun t17=>
 Option.bind (A3q .u64 (t16 + t17)) fun t18=>
 Option.bind (A3q .u64 (x1 * y2)) fun t19=>
 some (t18,t19)
def bits_Mul (x1 : Int) (y2 : Int) : Option (Int×Int):=
 Option.bind (bits_Mul64 x1 y2) fun (t3,t4)=>
 some (t3,t4)
def C2q (newslice41 : List Int) (n46 : Int) : Option (((List Int)×Int)⊕(List Int)):=
  Option.bind (bdV n46 (newslice41.length : Int) (newslice41.length : Int)) fun u55=>
  Option.bind (bdV (0 : Int) n46 (newslice41.length : Int)) fun u56=>
  Option.bind (bdV n46 (newslice41.length : Int) (newslice41.length : Int)) fun u57=>
  Option.bind (bdV (0 : Int) n46 (newslice41.length : Int)) fun u58=>
  Option.bind (cpL newslice41 n46.toNat ((newslice41.length : Int).toNat - n46.toNat) (List.take (n46.toNat - (0 : Int).toNat) (List.drop (0 : Int).toNat newslice41))) fun (l60,n61)=>
  Option.bind (P5 (n46 + n61)) fun t66=>
  some (Sum.inl (l60,t66))
def B4Y : ((List Int)×Int)→Option (((List Int)×Int)⊕(List Int)):=fun (newslice41,n46)=>
  bif decide (n46 < (newslice41.length : Int)) then
    C2q newslice41 n46
  else
    some (Sum.inr newslice41)
def A8v (x1 : List Int) (count2 : Int) : Option (List Int):=
 bif decide (count2 < (0 : Int)) then
   none
 else
   Option.bind (A3q .u64 (x1.length : Int)) fun t4=>
   Option.bind (A3q .u64 count2) fun t5=>
   Option.bind (bits_Mul t4 t5) fun (t6,t7)=>
   bif decide ((0 : Int) < t6) then
     none
   else
     bif decide ((9223372036854775807 : Int) < t7) then
       none
     else
       Option.bind (A3q .i64 t7) fun t17=>
       Option.bind (mkL t17 (0 : Int)) fun t23=>
       Option.bind (cpL t23 0 t23.length x1) fun (l27,n28)=>
       Option.bind (
         iter B4Y FUEL (l27,n28)) fun newslice36=>
       some newslice36
def A8A (s1 : List Int) : Int→Option (Int⊕Unit):=fun k7=>
  bif decide (k7 < (s1.length : Int)) then
    Option.bind (K6 s1 k7) fun e16=>
    Option.bind (P5 (k7 - (1 : Int))) fun t19=>
    Option.bind (K6 s1 t19) fun e20=>
    bif decide (e16 = e20) then
      none
    else
      Option.bind (P5 (k7 + (1 : Int))) fun t24=>
      some (Sum.inl t24)
  else
    some (Sum.inr ())
def A8i (s1 : List Int) : Option (List Int):=
 bif decide ((s1.length : Int) < (2 : Int)) then
   some s1
 else
   Option.bind (
     iter (A8A s1) FUEL (1 : Int)) fun _u=>
   some s1
def A4C (s1 : List (List Int)) : Unit→Option (Unit⊕Unit):=fun _u=>
  bif decide ((1 : Int) < ((((s1.length : Int).toNat - (1 : Int).toNat : Nat)) : Int)) then
    none
  else
    some (Sum.inr ())
def B0r (s1 : List (List Int)) (eq3 : (List Int)→(List Int)→Option Bool) : Option (Unit⊕(List (List Int))):=
  Option.bind (K6 s1 (1 : Int)) fun e16=>
  Option.bind (P5 ((1 : Int) - (1 : Int))) fun t21=>
  Option.bind (K6 s1 t21) fun e22=>
  Option.bind (eq3 e16 e22) fun t27=>
  bif t27 then
    Option.bind (bdV (1 : Int) (s1.length : Int) (s1.length : Int)) fun u41=>
    Option.bind (
      iter (A4C s1) FUEL ()) fun _u=>
    Option.bind (bdV (1 : Int) (s1.length : Int) (s1.length : Int)) fun u56=>
    Option.bind (bdV (1 : Int) (s1.length : Int) (s1.length : Int)) fun u57=>
    Option.bind (some (A6z s1 (1 : Int).toNat (List.replicate ((s1.length : Int).toNat - (1 : Int).toNat) ([] : List Int)))) fun l59=>
    Option.bind (sbL l59 0 (1 : Int)) fun t62=>
    some (Sum.inr t62)
  else
    none
def A4D (s1 : List (List Int)) (eq3 : (List Int)→(List Int)→Option Bool) : Unit→Option (Unit⊕(List (List Int))):=fun _u=>
  bif decide ((1 : Int) < (s1.length : Int)) then
    B0r s1 eq3
  else
    none
def A6F (s1 : List (List Int)) (eq3 : (List Int)→(List Int)→Option Bool) : Option (List (List Int)):=
 bif decide ((s1.length : Int) < (2 : Int)) then
   some s1
 else
   Option.bind (
     iter (A4D s1 eq3) FUEL ()) fun p=>some p
def A5V (s1 : List ByteArray) : Unit→Option (Unit⊕Unit):=fun _u=>
  bif decide ((0 : Int) < (s1.length : Int)) then
    none
  else
    some (Sum.inr ())
def A8V (s1 : List ByteArray) (f3 : ByteArray→Option Bool) : Option (Int×(List ByteArray)):=
 Option.bind (
   iter (A5V s1) FUEL ()) fun _u=>
 some ((-1 : Int),s1)
def A8Q (s1 : List ByteArray) (del3 : ByteArray→Option Bool) : Option (List ByteArray):=
 Option.bind (A8V s1 del3) fun (t4,l5)=>
 bif decide (t4 = (-1 : Int)) then
   some l5
 else
   none
end Go.Dm
open Go Go.Sl
namespace Go.Dm
def A3f (s1 : ByteArray) : Int→Option (Int⊕(Unit⊕Bool)):=fun i5=>
  bif decide (i5 < (s1.size : Int)) then
    Option.bind (B4C s1 i5) fun ch14=>
    bif decide (ch14 < (97 : Int)) then
      some (Sum.inr (Sum.inr false))
    else
      Option.bind (B4C s1 i5) fun ch16=>
      bif decide ((122 : Int) < ch16) then
        some (Sum.inr (Sum.inr false))
      else
        Option.bind (P5 (i5 + (1 : Int))) fun t18=>
        some (Sum.inl t18)
  else
    some (Sum.inr (Sum.inl ()))
def B2y (s1 : ByteArray) : Option (Bool):=
 Option.bind (
   iter (A3f s1) FUEL (0 : Int)) fun o2=>match o2 with
 | .inl _u=>
   bif decide ((1 : Int)≤(s1.size : Int)) then
     some (decide ((s1.size : Int)≤(12 : Int)))
   else
     some false
 | .inr p=>
   some p
def B4Z (a1 : Int) (b2 : Int) : Option (Int):=
 Option.bind (P5 (a1 + (min b2 (1 : Int)))) fun t3=>
 some t3
def A3C (a1 : Int) (b2 : Int) : Option (Int):=
 bif decide (a1 < (1 : Int)) then
   some (0 : Int)
 else
   bif decide ((24 : Int) < a1) then
     some (0 : Int)
   else
     bif !decide (b2 = (0 : Int)) then
       some (0 : Int)
     else
       some a1
def A4j (a1 : Int) (b2 : Int) : Option (Int):=
 bif decide (a1 < (1 : Int)) then
   some (0 : Int)
 else
   bif decide ((11 : Int) < a1) then
     some (0 : Int)
   else
     bif decide (b2 < (0 : Int)) then
       some (0 : Int)
     else
       bif decide ((2 : Int) < b2) then
         some (0 : Int)
       else
         Option.bind (P5 ((2 : Int) * a1)) fun t7=>
         Option.bind (P5 (t7 + b2)) fun t8=>
         some t8
def A4g (a1 : Int) (b2 : Int) : Option (Int):=
 bif decide (a1 < (1 : Int)) then
   some (0 : Int)
 else
   bif decide ((8 : Int) < a1) then
     some (0 : Int)
   else
     bif decide (b2 < (1 : Int)) then
       some (0 : Int)
     else
       bif decide ((8 : Int) < b2) then
         some (0 : Int)
       else
         Option.bind (P5 ((2 : Int) * b2)) fun t7=>
         Option.bind (P5 (a1 + t7)) fun t8=>
         some t8
def A5b (a1 : Int) (b2 : Int) : Option (Int):=
 bif decide (a1 < (1 : Int)) then
   some (0 : Int)
 else
   bif decide ((24 : Int) < a1) then
     some (0 : Int)
   else
     bif decide (b2 < (0 : Int)) then
       some (0 : Int)
     else
       bif decide (a1 < b2) then
         some (0 : Int)
       else
         some a1
def A8T (a1 : Int) (b2 : Int) (x3 : Int) (y4 : Int) : Option (Bool):=
 Option.bind (P5 (y4 - x3)) fun t5=>
 bif decide (t5 = (1 : Int)) then
   some true
 else
   Option.bind (P5 (y4 - x3)) fun t7=>
   Option.bind (P5 (a1 - (1 : Int))) fun t8=>
   some (decide (t7 = t8))
def A8u (a1 : Int) (b2 : Int) (x3 : Int) (y4 : Int) : Option (Bool):=
 Option.bind (C3T a1 (2 : Int)) fun t5=>
 bif decide (t5 = (0 : Int)) then
   Option.bind (P5 (y4 - x3)) fun t7=>
   Option.bind (C3l a1 (2 : Int)) fun t8=>
   some (decide (t7 = t8))
 else
   some false
def B4n (a1 : Int) (b2 : Int) (x3 : Int) (y4 : Int) (t5 : Int) (t16 : Bool) : Option (Bool):=
  bif t16 then
    Option.bind (
      bif decide (x3 = (0 : Int)) then
        some true
      else
        Option.bind (P5 (y4 - (1 : Int))) fun t29=>
        some (decide (x3 = t29))) fun t27=>
    some t27
  else
    Option.bind (
      bif decide ((0 : Int) < b2) then
        bif decide (x3 = a1) then
          some true
        else
          some (decide (y4 = a1))
      else
        some false) fun t36=>
    bif t36 then
      Option.bind (P5 (y4 - x3)) fun t43=>
      some (decide (t43 = (1 : Int)))
    else
      Option.bind (P5 (y4 - x3)) fun t44=>
      bif decide (t44 = (1 : Int)) then
        bif decide (y4 < a1) then
          some true
        else
          some (decide (t5≤x3))
      else
        some false
def A9Y (a1 : Int) (b2 : Int) (x3 : Int) (y4 : Int) : Option (Bool):=
 Option.bind (B4Z a1 b2) fun t5=>
 Option.bind (
   bif decide (b2 = (2 : Int)) then
     Option.bind (P5 ((2 : Int) * a1)) fun t18=>
     Option.bind (P5 (t18 + (1 : Int))) fun t19=>
     some (decide (y4 = t19))
   else
     some false) fun t16=>
 B4n a1 b2 x3 y4 t5 t16
def B0f (a1 : Int) (b2 : Int) (x3 : Int) (y4 : Int) : Option (Bool):=
 Option.bind (
   bif decide (b2 = (2 : Int)) then
     Option.bind (P5 ((2 : Int) * a1)) fun t10=>
     Option.bind (P5 (t10 + (1 : Int))) fun t11=>
     some (decide (y4 = t11))
   else
     some false) fun t8=>
 bif t8 then
   some (decide (x3 = a1))
 else
   bif decide (x3 < a1) then
     Option.bind (P5 (x3 + y4)) fun t17=>
     Option.bind (B4Z a1 b2) fun t18=>
     Option.bind (P5 (t18 + a1)) fun t26=>
     Option.bind (P5 (t26 - (1 : Int))) fun t27=>
     some (decide (t17 = t27))
   else
     some false
def B0d (a1 : Int) (b2 : Int) : Option (Int):=
 bif decide ((0 : Int) < b2) then
   some a1
 else
   Option.bind (C3l a1 (2 : Int)) fun t4=>
   some t4
def A9S (a1 : Int) (b2 : Int) (x3 : Int) (y4 : Int) : Option (Bool):=
 Option.bind (P5 (y4 - x3)) fun t5=>
 some (decide (t5 = (1 : Int)))
def A9U (a1 : Int) (b2 : Int) (x3 : Int) (y4 : Int) : Option (Bool):=
 bif decide (x3 < b2) then
   Option.bind (P5 (x3 + y4)) fun t6=>
   Option.bind (P5 ((2 : Int) * b2)) fun t7=>
   Option.bind (P5 (a1 + t7)) fun t8=>
   Option.bind (P5 (t8 - (1 : Int))) fun t9=>
   some (decide (t6 = t9))
 else
   some false
def B1K (a1 : Int) (b2 : Int) (x3 : Int) (y4 : Int) : Option (Bool):=
 Option.bind (P5 (y4 - x3)) fun t5=>
 bif decide (t5 = (1 : Int)) then
   bif decide (b2 = (0 : Int)) then
     some true
   else
     Option.bind (C3T y4 b2) fun t8=>
     some (!decide (t8 = (0 : Int)))
 else
   some false
def A3X (k1 : Int) : Option (Int):=
 some k1
def C1a (a1 : Int) (b2 : Int) : Option (Int):=
 some (0 : Int)
def C0N (a1 : Int) (b2 : Int) : Option (Int):=
 Option.bind (C3l a1 (2 : Int)) fun t3=>
 Option.bind (P5 (b2 + t3)) fun t4=>
 some t4
def C1b (a1 : Int) (b2 : Int) (x3 : Int) (y4 : Int) : Option (Bool):=
 some false
def C0M (a1 : Int) (b2 : Int) : Option (Int):=
 Option.bind (C3l a1 (2 : Int)) fun t3=>
 some t3
def A4L (k1 : Int) (t2 : Int) (t3 : Int) : Option (Int):=
 Option.bind (P5 (k1 + t2)) fun t4=>
 Option.bind (C3T t4 t3) fun t5=>
 some t5
def A4R (k1 : Int) (t2 : Int) (t3 : Int) : Option (Int):=
 Option.bind (P5 (t2 - k1)) fun t4=>
 Option.bind (P5 (t4 + t3)) fun t5=>
 Option.bind (C3T t5 t3) fun t6=>
 some t6
def A6u (a1 : Int) : ((List (Int→Option Int))×Int)→Option (((List (Int→Option Int))×Int)⊕(List (Int→Option Int))):=fun (out17,t22)=>
  bif decide (t22 < a1) then
    Option.bind (apL out17 [(fun y0=>A4L y0 t22 a1),(fun y0=>A4R y0 t22 a1)]) fun t51=>
    Option.bind (P5 (t22 + (1 : Int))) fun t57=>
    some (Sum.inl (t51,t57))
  else
    some (Sum.inr out17)
def B0b (a1 : Int) (b2 : Int) : Option (List (Int→Option Int)):=
 Option.bind (
   iter (A6u a1) FUEL (([] : List (Int→Option Int)),(0 : Int))) fun out10=>
 some out10
def O1 (k1 : Int) (t2 : Int) (t3 : Int) : Option (Bool):=
 bif decide ((0 : Int) < t2) then
   bif decide (k1 = t3) then
     some true
   else
     bif decide (t2 = (2 : Int)) then
       Option.bind (P5 ((2 : Int) * t3)) fun t7=>
       Option.bind (P5 (t7 + (1 : Int))) fun t8=>
       some (decide (k1 = t8))
     else
       some false
 else
   bif decide (t2 = (2 : Int)) then
     Option.bind (P5 ((2 : Int) * t3)) fun t10=>
     Option.bind (P5 (t10 + (1 : Int))) fun t11=>
     some (decide (k1 = t11))
   else
     some false
def A0Q (k1 : Int) (t2 : Int→Option Bool) (t5 : Int) (t6 : Int) : Option (Int):=
 Option.bind (t2 k1) fun t7=>
 bif t7 then
   some k1
 else
   Option.bind (P5 (t5 + t6)) fun t21=>
   Option.bind (P5 (t21 - (1 : Int))) fun t22=>
   Option.bind (P5 (t22 - k1)) fun t23=>
   some t23
def A1i (k1 : Int) (t2 : Int→Option Bool) (t5 : Int) (t6 : Int) : Option (Int):=
 Option.bind (t2 k1) fun t7=>
 bif t7 then
   Option.bind (P5 ((3 : Int) * t5)) fun t21=>
   Option.bind (P5 (t21 + (1 : Int))) fun t22=>
   Option.bind (P5 (t22 - k1)) fun t23=>
   some t23
 else
   bif decide (k1 < t5) then
     Option.bind (P5 (t5 - (1 : Int))) fun t25=>
     Option.bind (P5 (t25 - k1)) fun t26=>
     some t26
   else
     Option.bind (P5 ((2 : Int) * t6)) fun t27=>
     Option.bind (P5 (t27 + t5)) fun t28=>
     Option.bind (P5 (t28 - (1 : Int))) fun t29=>
     Option.bind (P5 (t29 - k1)) fun t30=>
     some t30
def A5J (k1 : Int) (t2 : Int→Option Int) (t5 : Int→Option Int) : Option (Int):=
 Option.bind (t5 k1) fun t8=>
 Option.bind (t2 t8) fun t21=>
 some t21
def B2e (a1 : Int) (b2 : Int) : Option (List (Int→Option Int)):=
 Option.bind (B4Z a1 b2) fun t11=>
 bif !decide (b2 = (1 : Int)) then
   Option.bind (apL [A3X,(fun y0=>A0Q y0 (fun y0=>O1 y0 b2 a1) t11 a1)] [(fun y0=>A1i y0 (fun y0=>O1 y0 b2 a1) a1 t11),(fun y0=>A5J y0 (fun y0=>A0Q y0 (fun y0=>O1 y0 b2 a1) t11 a1) (fun y0=>A1i y0 (fun y0=>O1 y0 b2 a1) a1 t11))]) fun t106=>
   some t106
 else
   some [A3X,(fun y0=>A0Q y0 (fun y0=>O1 y0 b2 a1) t11 a1)]
def A5P (k1 : Int) (t2 : Int) (t3 : Int) : Option (Int):=
 Option.bind (P5 ((2 : Int) * t3)) fun t4=>
 Option.bind (P5 (t2 + t4)) fun t5=>
 Option.bind (P5 (t5 - (1 : Int))) fun t6=>
 Option.bind (P5 (t6 - k1)) fun t7=>
 some t7
def B1S (a1 : Int) (b2 : Int) : Option (List (Int→Option Int)):=
 some [A3X,(fun y0=>A5P y0 a1 b2)]
def A6C (k1 : Int) (t2 : Int) : Option (Int):=
 Option.bind (P5 (t2 - (1 : Int))) fun t3=>
 Option.bind (P5 (t3 - k1)) fun t4=>
 some t4
def B3Q (a1 : Int) (b2 : Int) : Option (List (Int→Option Int)):=
 some [A3X,(fun y0=>A6C y0 a1)]
def A8K (s1 : Int) : Option (A2v×Bool):=
  bif decide (s1 = (3 : Int)) then
    some ((A2v.mk (⟨#[104,111,114,115,101,115,104,111,101]⟩ : ByteArray) A4g A9S A9U C0N B1S),true)
  else
    bif decide (s1 = (4 : Int)) then
      some ((A2v.mk (⟨#[114,111,119]⟩ : ByteArray) A5b B1K C1b C0M B3Q),true)
    else
      some ((A2v.mk (⟨#[]⟩ : ByteArray) (fun _ _=>none) (fun _ _ _ _=>none) (fun _ _ _ _=>none) (fun _ _=>none) (fun _ _=>none)),false)
def A2c (s1 : Int) : Option (A2v×Bool):=
 bif decide (s1 = (1 : Int)) then
   some ((A2v.mk (⟨#[114,111,117,110,100]⟩ : ByteArray) A3C A8T A8u C1a B0b),true)
 else
   bif decide (s1 = (2 : Int)) then
     some ((A2v.mk (⟨#[108,111,110,103]⟩ : ByteArray) A4j A9Y B0f B0d B2e),true)
   else
     A8K s1
def A2j (t1 : D5) : Option (Int):=
 Option.bind (A2c t1.N9) fun (t8,t9)=>
 bif !t9 then
   some (0 : Int)
 else
   Option.bind (t8.V5 t1.fA t1.fB) fun t33=>
   some t33
def A5G (t1 : D5) (x4 : Int) (y5 : Int) : Option (Bool):=
 Option.bind (A2c t1.N9) fun (t10,t11)=>
 bif !decide (x4 = y5) then
   Option.bind (t10.B2s t1.fA t1.fB (min x4 y5) (max x4 y5)) fun t35=>
   some t35
 else
   some false
def A5y (t1 : D5) (x4 : Int) (y5 : Int) : Option (Bool):=
 Option.bind (A2c t1.N9) fun (t10,t11)=>
 bif !decide (x4 = y5) then
   Option.bind (t10.B2A t1.fA t1.fB (min x4 y5) (max x4 y5)) fun t35=>
   some t35
 else
   some false
def C1j (t1 : D5) (x4 : Int) (y5 : Int) : Option (Bool):=
 Option.bind (A5G t1 x4 y5) fun t10=>
 bif t10 then
   some true
 else
   Option.bind (A5y t1 x4 y5) fun t19=>
   some t19
def B3P (t22 : List Int) : (Int×(List Int))→Option ((Int×(List Int))⊕(List Int)):=fun (t31,out32)=>
  bif decide (t31 < (t22.length : Int)) then
    Option.bind (K6 out32 t31) fun e45=>
    Option.bind (some (List.set out32 t31.toNat (-1 : Int))) fun l48=>
    Option.bind (P5 (t31 + (1 : Int))) fun t51=>
    some (Sum.inl (t51,l48))
  else
    some (Sum.inr out32)
def B9Z (t1 : D5) (e90 : Int) (t110 : List Int) (t115 : Int) (queue116 : List Int) : Option (((List Int)×Int×(List Int))⊕((List Int)×(List Int))):=
  Option.bind (K6 t110 t115) fun e129=>
  Option.bind (
    bif decide (e129 < (0 : Int)) then
      Option.bind (C1j t1 e90 t115) fun t137=>
      some t137
    else
      some false) fun t135=>
  bif t135 then
    Option.bind (K6 t110 e90) fun e149=>
    Option.bind (P5 (e149 + (1 : Int))) fun t152=>
    Option.bind (K6 t110 t115) fun e153=>
    Option.bind (some (List.set t110 t115.toNat t152)) fun l156=>
    Option.bind (apL queue116 [t115]) fun t162=>
    Option.bind (P5 (t115 + (1 : Int))) fun t168=>
    some (Sum.inl (l156,t168,t162))
  else
    Option.bind (P5 (t115 + (1 : Int))) fun t169=>
    some (Sum.inl (t110,t169,queue116))
def B3i (t1 : D5) (out72 : List Int) (e90 : Int) : ((List Int)×Int×(List Int))→Option (((List Int)×Int×(List Int))⊕((List Int)×(List Int))):=fun (t110,t115,queue116)=>
  bif decide (t115 < (out72.length : Int)) then
    B9Z t1 e90 t110 t115 queue116
  else
    some (Sum.inr (t110,queue116))
def B3j (t1 : D5) : ((List Int)×(List Int))→Option (((List Int)×(List Int))⊕(List Int)):=fun (out72,queue77)=>
  bif decide ((0 : Int) < (queue77.length : Int)) then
    Option.bind (K6 queue77 (0 : Int)) fun e90=>
    Option.bind (sbL queue77 (1 : Int) (queue77.length : Int)) fun t93=>
    Option.bind (
      iter (B3i t1 out72 e90) FUEL (out72,(0 : Int),t93)) fun (out100,queue105)=>
    some (Sum.inl (out100,queue105))
  else
    some (Sum.inr out72)
def B8m (t1 : D5) (from4 : Int) : Option (List Int):=
 Option.bind (A2j t1) fun t9=>
 Option.bind (mkL t9 (0 : Int)) fun t22=>
 Option.bind (
   iter (B3P t22) FUEL ((0 : Int),t22)) fun out26=>
 Option.bind (K6 out26 from4) fun e55=>
 Option.bind (some (List.set out26 from4.toNat (0 : Int))) fun l58=>
 Option.bind (
   iter (B3j t1) FUEL (l58,[from4])) fun out67=>
 some out67
def B0u (t45 : List Int) : Int→Option (Int⊕Unit):=fun t59=>
  bif decide (t59 < (t45.length : Int)) then
    Option.bind (K6 t45 t59) fun e68=>
    bif decide (e68 < (0 : Int)) then
      none
    else
      Option.bind (P5 (t59 + (1 : Int))) fun t72=>
      some (Sum.inl t72)
  else
    some (Sum.inr ())
def B6y (t1 : D5) : Option (List Int):=
 Option.bind (A2c t1.N9) fun (t8,t9)=>
 Option.bind (t8.C1x t1.fA t1.fB) fun t32=>
 Option.bind (B8m t1 t32) fun t45=>
 Option.bind (
   iter (B0u t45) FUEL (0 : Int)) fun _u=>
 some t45
def A1r (t1 : D5) (t8 : Int) : (Int×Int)→Option ((Int×Int)⊕(Unit⊕Int)):=fun (t29,last30)=>
  bif decide (t29 < (t1.A0N.length : Int)) then
    Option.bind (K6 t1.A0N t29) fun e39=>
    bif decide (e39≤last30) then
      some (Sum.inr (Sum.inr (11 : Int)))
    else
      bif decide (t8≤e39) then
        some (Sum.inr (Sum.inr (11 : Int)))
      else
        Option.bind (P5 (t29 + (1 : Int))) fun t44=>
        some (Sum.inl (t44,e39))
  else
    some (Sum.inr (Sum.inl ()))
def B3n (t1 : D5) (t8 : Int) : Option (Int):=
  bif decide (t8 = (0 : Int)) then
    some (10 : Int)
  else
    Option.bind (
      iter (A1r t1 t8) FUEL ((0 : Int),(-1 : Int))) fun o26=>match o26 with
    | .inl _u=>
      bif decide (t1.fX < (0 : Int)) then
        some (2 : Int)
      else
        bif decide ((1000 : Int) < t1.fX) then
          some (2 : Int)
        else
          bif decide (t1.fY < (0 : Int)) then
            some (2 : Int)
          else
            bif decide ((1000 : Int) < t1.fY) then
              some (2 : Int)
            else
              some (0 : Int)
    | .inr p=>
      some p
def A4G (t1 : D5) : Option (Int):=
 Option.bind (A2j t1) fun t8=>
 Option.bind (B2y t1.H7) fun t16=>
 bif !t16 then
   some (4 : Int)
 else
   B3n t1 t8
def A4p (x1 : D5) (t4 : D5) : Option (Bool):=
 some (decide (x1.H7 = t4.H7))
def A3i (l1 : List D5) : Int→Option (Int⊕(Unit⊕(Int×Int))):=fun t6=>
  bif decide (t6 < (l1.length : Int)) then
    Option.bind (K6 l1 t6) fun e15=>
    Option.bind (A4G e15) fun t25=>
    bif !decide (t25 = (0 : Int)) then
      some (Sum.inr (Sum.inr (t6,t25)))
    else
      Option.bind (sbL l1 0 t6) fun t34=>
      Option.bind (A3c t34 (fun y0=>A4p y0 e15)) fun t47=>
      bif t47 then
        some (Sum.inr (Sum.inr (t6,(5 : Int))))
      else
        Option.bind (P5 (t6 + (1 : Int))) fun t56=>
        some (Sum.inl t56)
  else
    some (Sum.inr (Sum.inl ()))
def A3r (l1 : List D5) : Option (Int×Int):=
 bif decide ((16 : Int) < (l1.length : Int)) then
   some ((0 : Int),(7 : Int))
 else
   Option.bind (
     iter (A3i l1) FUEL (0 : Int)) fun o3=>match o3 with
   | .inl _u=>
     some ((0 : Int),(0 : Int))
   | .inr p=>
     some p
def A9x (x1 : D5) (t4 : ByteArray) : Option (Bool):=
 some (decide (x1.H7 = t4))
def A3P (l1 : List D5) : Option (Bool):=
 Option.bind (A3r l1) fun (t2,t3)=>
 some (decide (t3 = (0 : Int)))
def A2J (t21 : List D5) : (Int×Int)→Option ((Int×Int)⊕Int):=fun (t30,n31)=>
  bif decide (t30 < (t21.length : Int)) then
    Option.bind (K6 t21 t30) fun e40=>
    Option.bind (A2j e40) fun t50=>
    Option.bind (P5 (n31 + t50)) fun t58=>
    Option.bind (P5 (t30 + (1 : Int))) fun t59=>
    some (Sum.inl (t59,t58))
  else
    some (Sum.inr n31)
def A3O (l1 : List D5) (t2 : Int) : Option (Int):=
 Option.bind (
   bif decide (t2 < (0 : Int)) then
     some true
   else
     bif decide ((l1.length : Int)≤t2) then
       some true
     else
       Option.bind (A3P l1) fun t9=>
       some (!t9)) fun t6=>
 bif t6 then
   some (0 : Int)
 else
   Option.bind (sbL l1 0 t2) fun t21=>
   Option.bind (
     iter (A2J t21) FUEL ((0 : Int),(0 : Int))) fun n29=>
   some n29
def A5e (l1 : List D5) : Option (Int):=
 bif decide ((l1.length : Int) = (0 : Int)) then
   some (0 : Int)
 else
   Option.bind (P5 ((l1.length : Int) - (1 : Int))) fun t3=>
   Option.bind (K6 l1 t3) fun e4=>
   Option.bind (A2j e4) fun t9=>
   some t9
def A1Y (l1 : List D5) : Option (Int):=
 Option.bind (A3P l1) fun t2=>
 bif !t2 then
   some (0 : Int)
 else
   Option.bind (P5 ((l1.length : Int) - (1 : Int))) fun t11=>
   Option.bind (A3O l1 t11) fun t12=>
   Option.bind (A5e l1) fun t20=>
   Option.bind (P5 (t12 + t20)) fun t28=>
   some t28
def B3G (l1 : List D5) : (Int×Int)→Option ((Int×Int)⊕(Int×Int×Bool)):=fun (seat16,t17)=>
  bif decide (t17 < (l1.length : Int)) then
    Option.bind (K6 l1 t17) fun e26=>
    Option.bind (A2j e26) fun t36=>
    bif decide (seat16 < t36) then
      some (Sum.inr (t17,seat16,true))
    else
      Option.bind (P5 (seat16 - t36)) fun t45=>
      Option.bind (P5 (t17 + (1 : Int))) fun t46=>
      some (Sum.inl (t45,t46))
  else
    none
def A4E (l1 : List D5) (seat2 : Int) : Option (Int×Int×Bool):=
 bif decide (seat2 < (0 : Int)) then
   none
 else
   Option.bind (A3P l1) fun t4=>
   bif !t4 then
     none
   else
     Option.bind (
       iter (B3G l1) FUEL (seat2,(0 : Int))) fun p=>some p
def B2B (l1 : List D5) (name2 : ByteArray) : Option (Int×Bool):=
 Option.bind (A1J l1 (fun y0=>A9x y0 name2)) fun t15=>
 bif decide (t15 < (0 : Int)) then
   some ((0 : Int),false)
 else
   Option.bind (A3P l1) fun t24=>
   bif !t24 then
     some ((0 : Int),false)
   else
     some (t15,true)
def B9j (t1 : D5) : Option (Int):=
 Option.bind (A4G t1) fun t8=>
 bif !decide (t8 = (0 : Int)) then
   none
 else
   Option.bind (A2j t1) fun t17=>
   some t17
def C1k (l1 : List D5) (a2 : Int) : Option (Bool):=
 Option.bind (A4E l1 a2) fun (t3,t4,t5)=>
 bif t5 then
   Option.bind (K6 l1 t3) fun e14=>
   Option.bind (A1A e14.A0N t4) fun t19=>
   some t19
 else
   none
def B9a (l1 : List D5) (a2 : Int) : Option (Int):=
 Option.bind (A4E l1 a2) fun (t3,t4,t5)=>
 bif !t5 then
   none
 else
   Option.bind (K6 l1 t3) fun e14=>
   Option.bind (B6y e14) fun t19=>
   Option.bind (K6 t19 t4) fun e30=>
   some e30
def B6h (l1 : List D5) (a2 : Int) (b3 : Int) : Option (D5×Int×Int×Bool):=
 Option.bind (A4E l1 a2) fun (t5,t6,t7)=>
 Option.bind (A4E l1 b3) fun (t15,t16,t17)=>
 bif !t7 then
   none
 else
   bif !t17 then
     none
   else
     bif !decide (t5 = t15) then
       none
     else
       Option.bind (K6 l1 t5) fun e28=>
       some (e28,t6,t16,true)
def B6H (l1 : List D5) (a2 : Int) (b3 : Int) : Option (Bool):=
 Option.bind (B6h l1 a2 b3) fun (t4,t5,t6,t7)=>
 bif t7 then
   Option.bind (A5G t4 t5 t6) fun t23=>
   some t23
 else
   none
def B7e (l1 : List D5) (a2 : Int) (b3 : Int) : Option (Bool):=
 Option.bind (B6h l1 a2 b3) fun (t4,t5,t6,t7)=>
 bif t7 then
   Option.bind (A5y t4 t5 t6) fun t23=>
   some t23
 else
   none
end Go.Dm
open Go Go.Sl
namespace Go.Dm
def A7R (s1 : ByteArray) : Int→Option (Int⊕(Unit⊕Bool)):=fun t14=>
  bif decide (t14 < (s1.size : Int)) then
    Option.bind (B4C s1 t14) fun ch23=>
    bif decide (ch23 < (97 : Int)) then
      some (Sum.inr (Sum.inr false))
    else
      Option.bind (B4C s1 t14) fun ch25=>
      bif decide ((122 : Int) < ch25) then
        some (Sum.inr (Sum.inr false))
      else
        Option.bind (P5 (t14 + (1 : Int))) fun t27=>
        some (Sum.inl t27)
  else
    some (Sum.inr (Sum.inl ()))
def A4S (s1 : ByteArray) : Option (Bool):=
 Option.bind (
   bif decide ((s1.size : Int) = (0 : Int)) then
     some true
   else
     some (decide ((12 : Int) < (s1.size : Int)))) fun t5=>
 bif t5 then
   some false
 else
   Option.bind (
     iter (A7R s1) FUEL (0 : Int)) fun o11=>match o11 with
   | .inl _u=>
     some true
   | .inr p=>
     some p
def A4K (s1 : ByteArray) : Option (Bool):=
 bif decide (s1 = (⟨#[]⟩ : ByteArray)) then
   some true
 else
   Option.bind (A4S s1) fun t3=>
   some t3
def B1t (g1 : E5) (t73 : Int) : Option (Int⊕(Unit⊕Int)):=
  Option.bind (K6 g1.M4 t73) fun e82=>
  Option.bind (A4S e82) fun t85=>
  bif !t85 then
    some (Sum.inr (Sum.inr (22 : Int)))
  else
    bif decide ((0 : Int) < t73) then
      Option.bind (P5 (t73 - (1 : Int))) fun t95=>
      Option.bind (K6 g1.M4 t95) fun e96=>
      bif !sLt e96 e82 then
        some (Sum.inr (Sum.inr (22 : Int)))
      else
        Option.bind (P5 (t73 + (1 : Int))) fun t100=>
        some (Sum.inl t100)
    else
      Option.bind (P5 (t73 + (1 : Int))) fun t101=>
      some (Sum.inl t101)
def A2V (g1 : E5) : Int→Option (Int⊕(Unit⊕Int)):=fun t73=>
  bif decide (t73 < (g1.M4.length : Int)) then
    B1t g1 t73
  else
    some (Sum.inr (Sum.inl ()))
def B0P (g1 : E5) : Option (Int):=
  Option.bind (
    bif decide (g1.Q6 < (0 : Int)) then
      some true
    else
      some (decide ((9999 : Int) < g1.Q6))) fun t54=>
  bif t54 then
    some (21 : Int)
  else
    Option.bind (
      bif decide (g1.U5 < (0 : Int)) then
        some true
      else
        some (decide ((2 : Int) < g1.U5))) fun t63=>
    bif t63 then
      some (20 : Int)
    else
      bif decide ((4 : Int) < (g1.M4.length : Int)) then
        some (22 : Int)
      else
        Option.bind (
          iter (A2V g1) FUEL (0 : Int)) fun o70=>match o70 with
        | .inl _u=>
          some (0 : Int)
        | .inr p=>
          some p
def A5D (g1 : E5) : Option (Int):=
 Option.bind (
   Option.bind (A4S g1.H7) fun t12=>
   bif !t12 then
     some true
   else
     Option.bind (A4K g1.Y0) fun t21=>
     bif !t21 then
       some true
     else
       Option.bind (A4K g1.Q5) fun t30=>
       bif !t30 then
         some true
       else
         Option.bind (A4K g1.V8) fun t39=>
         some (!t39)) fun t11=>
 bif t11 then
   some (4 : Int)
 else
   B0P g1
def A6e (g1 : E5) : Option (E5):=
 Option.bind (A2R g1.M4) fun t6=>
 some (E5.mk g1.H7 g1.Y0 g1.Q5 g1.Q6 g1.U5 g1.V8 g1.A0e g1.Q3 t6)
def bytealg_CompareString (a1 : ByteArray) (b2 : ByteArray) : Option (Int):=
 some (B7G a1 b2)
def strings_Compare (a1 : ByteArray) (b2 : ByteArray) : Option (Int):=
 Option.bind (bytealg_CompareString a1 b2) fun t3=>
 some t3
def A1Q (a1 : G6) (b2 : G6) : Option (Int):=
 Option.bind (strings_Compare a1.fA b2.fA) fun t11=>
 bif !decide (t11 = (0 : Int)) then
   some t11
 else
   Option.bind (strings_Compare a1.fB b2.fB) fun t20=>
   some t20
def A6x (one1 : ByteArray) (other2 : ByteArray) (kind3 : Int) : Option (G6):=
 some (G6.mk (minS one1 other2) (maxS one1 other2) kind3)
def B6i  : Option (J2):=
 some (J2.mk (P9.mk ([] : List E5) ([] : List G6)) ([] : List (ByteArray×Int)))
def A4O (b1 : J2) : Option (Bool):=
 some false
def A3j (x1 : List G6) (target2 : G6) (cmp3 : G6→G6→Option Int) : (Int×Int)→Option ((Int×Int)⊕Int):=fun (j12,i13)=>
  bif decide (i13 < j12) then
    Option.bind (P5 (i13 + j12)) fun t22=>
    Option.bind (A3q .u64 t22) fun t23=>
    Option.bind (B2U .u64 t23 (1 : Int)) fun t24=>
    Option.bind (A3q .i64 t24) fun t25=>
    Option.bind (K6 x1 t25) fun e26=>
    Option.bind (cmp3 e26 target2) fun t29=>
    bif decide (t29 < (0 : Int)) then
      Option.bind (P5 (t25 + (1 : Int))) fun t43=>
      some (Sum.inl (j12,t43))
    else
      some (Sum.inl (t25,i13))
  else
    some (Sum.inr i13)
def B2w (x1 : List G6) (target2 : G6) (cmp3 : G6→G6→Option Int) : Option (Int×Bool):=
 Option.bind (
   iter (A3j x1 target2 cmp3) FUEL ((x1.length : Int),(0 : Int))) fun i11=>
 bif decide (i11 < (x1.length : Int)) then
   Option.bind (K6 x1 i11) fun e48=>
   Option.bind (cmp3 e48 target2) fun t51=>
   some (i11,decide (t51 = (0 : Int)))
 else
   some (i11,false)
def B5Q (s1 : List G6) (i3 : Int) (v4 : List G6) : Option (List G6):=
 Option.bind (bdV i3 (s1.length : Int) (s1.length : Int)) fun u5=>
 bif decide ((v4.length : Int) = (0 : Int)) then
   some s1
 else
   bif decide (i3 = (s1.length : Int)) then
     Option.bind (apL s1 v4) fun t8=>
     some t8
   else
     Option.bind (P5 ((s1.length : Int) + (v4.length : Int))) fun t17=>
     none
def A2t (b1 : J2) (one2 : ByteArray) (other3 : ByteArray) : Option (Int×Bool):=
 Option.bind (A6x one2 other3 (0 : Int)) fun t13=>
 Option.bind (B2w b1.J7.A1d t13 A1Q) fun (t32,t33)=>
 some (t32,t33)
def B6x (b1 : J2) (g2 : E5) : Option (Int×J2):=
  Option.bind (lkM b1.fat g2.H7 (0 : Int)) fun (e45,ok46)=>
  bif ok46 then
    some ((5 : Int),(J2.mk (P9.mk b1.J7.X4 b1.J7.A1d) b1.fat))
  else
    bif decide ((b1.J7.X4.length : Int) = (64 : Int)) then
      some ((7 : Int),(J2.mk (P9.mk b1.J7.X4 b1.J7.A1d) b1.fat))
    else
      Option.bind (some (A3m b1.fat g2.H7 (b1.J7.X4.length : Int))) fun m52=>
      Option.bind (A6e g2) fun t55=>
      Option.bind (apL b1.J7.X4 [t55]) fun t68=>
      some ((0 : Int),(J2.mk (P9.mk t68 b1.J7.A1d) m52))
def B9f (b1 : J2) (g2 : E5) : Option (Int×J2):=
 Option.bind (A4O (J2.mk (P9.mk b1.J7.X4 b1.J7.A1d) b1.fat)) fun t24=>
 bif t24 then
   some ((1 : Int),(J2.mk (P9.mk b1.J7.X4 b1.J7.A1d) b1.fat))
 else
   Option.bind (A5D g2) fun t36=>
   bif !decide (t36 = (0 : Int)) then
     some (t36,(J2.mk (P9.mk b1.J7.X4 b1.J7.A1d) b1.fat))
   else
     B6x b1 g2
def A5u (b1 : J2) (one2 : ByteArray) (other3 : ByteArray) : Int→Option (Int⊕(Unit⊕(Int×J2))):=fun t48=>
  bif decide (t48 < ([one2,other3].length : Int)) then
    Option.bind (K6 [one2,other3] t48) fun e57=>
    Option.bind (lkM b1.fat e57 (0 : Int)) fun (e60,ok61)=>
    bif !ok61 then
      some (Sum.inr (Sum.inr ((6 : Int),(J2.mk (P9.mk b1.J7.X4 b1.J7.A1d) b1.fat))))
    else
      Option.bind (P5 (t48 + (1 : Int))) fun t65=>
      some (Sum.inl t65)
  else
    some (Sum.inr (Sum.inl ()))
def A4b (b1 : J2) (one2 : ByteArray) (other3 : ByteArray) (kind4 : Int) : Option (Int×J2):=
  Option.bind (A2t (J2.mk (P9.mk b1.J7.X4 b1.J7.A1d) b1.fat) one2 other3) fun (t81,t82)=>
  bif t82 then
    some ((5 : Int),(J2.mk (P9.mk b1.J7.X4 b1.J7.A1d) b1.fat))
  else
    bif decide ((b1.J7.A1d.length : Int) = (256 : Int)) then
      some ((7 : Int),(J2.mk (P9.mk b1.J7.X4 b1.J7.A1d) b1.fat))
    else
      Option.bind (A6x one2 other3 kind4) fun t95=>
      Option.bind (B5Q b1.J7.A1d t81 [t95]) fun t110=>
      some ((0 : Int),(J2.mk (P9.mk b1.J7.X4 t110) b1.fat))
def B4J (b1 : J2) (one2 : ByteArray) (other3 : ByteArray) (kind4 : Int) : Option (Int×J2):=
 Option.bind (A4O (J2.mk (P9.mk b1.J7.X4 b1.J7.A1d) b1.fat)) fun t20=>
 bif t20 then
   some ((1 : Int),(J2.mk (P9.mk b1.J7.X4 b1.J7.A1d) b1.fat))
 else
   Option.bind (
     bif !decide (kind4 = (1 : Int)) then
       bif !decide (kind4 = (2 : Int)) then
         some true
       else
         some (decide (one2 = other3))
     else
       some (decide (one2 = other3))) fun t35=>
   bif t35 then
     some ((23 : Int),(J2.mk (P9.mk b1.J7.X4 b1.J7.A1d) b1.fat))
   else
     Option.bind (
       iter (A5u b1 one2 other3) FUEL (0 : Int)) fun o45=>match o45 with
     | .inl _u=>
       A4b b1 one2 other3 kind4
     | .inr p=>
       some p
def A2b (r1 : V6) : ((List E5)×(List G6)×(List (ByteArray×Int))×Int)→Option (((List E5)×(List G6)×(List (ByteArray×Int))×Int)⊕(((List E5)×(List G6)×(List (ByteArray×Int)))⊕((Option J2)×Int×Int))):=fun (guests49,ties54,at59,t64)=>
  bif decide (t64 < (r1.F3.length : Int)) then
    Option.bind (K6 r1.F3 t64) fun e73=>
    Option.bind (B9f (J2.mk (P9.mk guests49 ties54) at59) e73) fun (t83,q84)=>
    bif !decide (t83 = (0 : Int)) then
      some (Sum.inr (Sum.inr ((none),t64,t83)))
    else
      Option.bind (P5 (t64 + (1 : Int))) fun t105=>
      some (Sum.inl (q84.J7.X4,q84.J7.A1d,q84.fat,t105))
  else
    some (Sum.inr (Sum.inl (guests49,ties54,at59)))
def B3d (r1 : V6) (guests127 : List E5) (ties132 : List G6) (at137 : List (ByteArray×Int)) (t142 : Int) (e151 : G6) (t162 : Bool) : Option (((List E5)×(List G6)×(List (ByteArray×Int))×Int)⊕(((List E5)×(List G6)×(List (ByteArray×Int)))⊕((Option J2)×Int×Int))):=
  bif t162 then
    Option.bind (B4J (J2.mk (P9.mk guests127 ties132) at137) e151.fA e151.fB e151.J4) fun (t181,q182)=>
    bif !decide (t181 = (0 : Int)) then
      Option.bind (P5 ((r1.F3.length : Int) + t142)) fun t203=>
      some (Sum.inr (Sum.inr ((none),t203,t181)))
    else
      Option.bind (P5 (t142 + (1 : Int))) fun t204=>
      some (Sum.inl (q182.J7.X4,q182.J7.A1d,q182.fat,t204))
  else
    bif !decide ((23 : Int) = (0 : Int)) then
      Option.bind (P5 ((r1.F3.length : Int) + t142)) fun t206=>
      some (Sum.inr (Sum.inr ((none),t206,(23 : Int))))
    else
      Option.bind (P5 (t142 + (1 : Int))) fun t207=>
      some (Sum.inl (guests127,ties132,at137,t207))
def A1Z (r1 : V6) : ((List E5)×(List G6)×(List (ByteArray×Int))×Int)→Option (((List E5)×(List G6)×(List (ByteArray×Int))×Int)⊕(((List E5)×(List G6)×(List (ByteArray×Int)))⊕((Option J2)×Int×Int))):=fun (guests127,ties132,at137,t142)=>
  bif decide (t142 < (r1.J8.length : Int)) then
    Option.bind (K6 r1.J8 t142) fun e151=>
    Option.bind (
      bif sLt e151.fA e151.fB then
        bif decide (t142 = (0 : Int)) then
          some true
        else
          Option.bind (P5 (t142 - (1 : Int))) fun t165=>
          Option.bind (K6 r1.J8 t165) fun e166=>
          Option.bind (A1Q e166 e151) fun t169=>
          some (decide (t169≤(0 : Int)))
      else
        some false) fun t162=>
    B3d r1 guests127 ties132 at137 t142 e151 t162
  else
    some (Sum.inr (Sum.inl (guests127,ties132,at137)))
def A8Y (r1 : V6) : Option ((Option J2)×Int×Int):=
 Option.bind (B6i) fun t10=>
 Option.bind (
   iter (A2b r1) FUEL (t10.J7.X4,t10.J7.A1d,t10.fat,(0 : Int))) fun o31=>match o31 with
 | .inl (guests34,ties39,at44)=>
   Option.bind (
     iter (A1Z r1) FUEL (guests34,ties39,at44,(0 : Int))) fun o109=>match o109 with
   | .inl (guests112,ties117,at122)=>
     some ((some (J2.mk (P9.mk guests112 ties117) at122)),(0 : Int),(0 : Int))
   | .inr p=>
     some p
 | .inr p=>
   some p
def A3G (r1 : V6) : Option (Int×Int):=
 Option.bind (A8Y r1) fun (t10,t11,t12)=>
 some (t11,t12)
end Go.Dm
open Go Go.Sl
namespace Go.Dm
def B3r (g1 : E5) : Option (E5):=
 Option.bind (A2R g1.M4) fun t6=>
 some (E5.mk g1.H7 g1.Y0 g1.Q5 g1.Q6 g1.U5 g1.V8 g1.A0e g1.Q3 t6)
def B5O (b1 : J2) (name2 : ByteArray) : Option (E5×Bool):=
 Option.bind (A4O b1) fun t4=>
 bif t4 then
   none
 else
   Option.bind (lkM b1.fat name2 (0 : Int)) fun (e22,ok23)=>
   bif !ok23 then
     none
   else
     Option.bind (K6 b1.J7.X4 e22) fun e27=>
     Option.bind (B3r e27) fun t32=>
     some ((E5.mk t32.H7 t32.Y0 t32.Q5 t32.Q6 t32.U5 t32.V8 t32.A0e t32.Q3 t32.M4),true)
def A9q (t1 : ByteArray) (t2 : E5) : Option (Bool):=
  none
def B6R (b1 : J2) (one2 : ByteArray) (other3 : ByteArray) : Option (List ByteArray):=
 Option.bind (B5O b1 one2) fun (t4,t5)=>
 Option.bind (B5O b1 other3) fun (t20,t21)=>
 bif !t5 then
   none
 else
   bif !t21 then
     none
   else
     Option.bind (A8Q t4.M4 (fun y0=>A9q y0 (E5.mk t20.H7 t20.Y0 t20.Q5 t20.Q6 t20.U5 t20.V8 t20.A0e t20.Q3 t20.M4))) fun t50=>
     some t50
def C0T (b1 : J2) (one2 : ByteArray) (other3 : ByteArray) : Option (Int×Bool):=
 Option.bind (A4O b1) fun t4=>
 bif t4 then
   none
 else
   Option.bind (A2t b1 one2 other3) fun (t13,t14)=>
   bif !t14 then
     some ((0 : Int),false)
   else
     Option.bind (K6 b1.J7.A1d t13) fun e32=>
     some (e32.J4,true)
end Go.Dm
open Go Go.Sl
namespace Go.Dm
def B5t (s1 : ByteArray) : Int→Option (Int⊕(Unit⊕Bool)):=fun t14=>
  bif decide (t14 < (s1.size : Int)) then
    Option.bind (B4C s1 t14) fun ch23=>
    bif decide (ch23 < (97 : Int)) then
      some (Sum.inr (Sum.inr false))
    else
      Option.bind (B4C s1 t14) fun ch25=>
      bif decide ((122 : Int) < ch25) then
        some (Sum.inr (Sum.inr false))
      else
        Option.bind (P5 (t14 + (1 : Int))) fun t27=>
        some (Sum.inl t27)
  else
    some (Sum.inr (Sum.inl ()))
def B6c (s1 : ByteArray) : Option (Bool):=
 Option.bind (
   bif decide ((s1.size : Int) = (0 : Int)) then
     some true
   else
     some (decide ((12 : Int) < (s1.size : Int)))) fun t5=>
 bif t5 then
   some false
 else
   Option.bind (
     iter (B5t s1) FUEL (0 : Int)) fun o11=>match o11 with
   | .inl _u=>
     some true
   | .inr p=>
     some p
def A9b (g1 : E5) (t4 : ByteArray) : Option (Bool):=
 some (decide (g1.H7 = t4))
def A2C (p1 : A8) (name12 : ByteArray) : Option (Int):=
 Option.bind (A1R p1.F3 (fun y0=>A9b y0 name12)) fun t29=>
 some t29
def B3p (first1 : Int) (n2 : Int) (so3 : Int→Option Bool) : ((List Int)×Int)→Option (((List Int)×Int)⊕(List Int)):=fun (out14,k19)=>
  Option.bind (P5 (first1 + n2)) fun t27=>
  bif decide (k19 < t27) then
    Option.bind (so3 k19) fun t29=>
    bif t29 then
      Option.bind (apL out14 [k19]) fun t46=>
      Option.bind (P5 (k19 + (1 : Int))) fun t52=>
      some (Sum.inl (t46,t52))
    else
      Option.bind (P5 (k19 + (1 : Int))) fun t53=>
      some (Sum.inl (out14,t53))
  else
    some (Sum.inr out14)
def B4a (first1 : Int) (n2 : Int) (so3 : Int→Option Bool) : Option (List Int):=
 Option.bind (
   iter (B3p first1 n2 so3) FUEL (([] : List Int),first1)) fun out7=>
 some out7
def B1j (t14 : List D5) : ((List D5)×Int)→Option (((List D5)×Int)⊕(List D5)):=fun (tables35,t40)=>
  bif decide (t40 < (t14.length : Int)) then
    Option.bind (K6 tables35 t40) fun e49=>
    Option.bind (A3e e49.A0N) fun t54=>
    Option.bind (K6 tables35 t40) fun e65=>
    Option.bind (some (List.set tables35 t40.toNat (D5.mk e65.H7 e65.N9 e65.fA e65.fB t54 e65.fX e65.fY))) fun l74=>
    Option.bind (P5 (t40 + (1 : Int))) fun t77=>
    some (Sum.inl (l74,t77))
  else
    some (Sum.inr tables35)
def B2l (t81 : List E5) : ((List E5)×Int)→Option (((List E5)×Int)⊕(List E5)):=fun (guests102,t107)=>
  bif decide (t107 < (t81.length : Int)) then
    Option.bind (K6 guests102 t107) fun e116=>
    Option.bind (A2R e116.M4) fun t121=>
    Option.bind (K6 guests102 t107) fun e132=>
    Option.bind (some (List.set guests102 t107.toNat (E5.mk e132.H7 e132.Y0 e132.Q5 e132.Q6 e132.U5 e132.V8 e132.A0e e132.Q3 t121))) fun l141=>
    Option.bind (P5 (t107 + (1 : Int))) fun t144=>
    some (Sum.inl (l141,t144))
  else
    some (Sum.inr guests102)
def B1k (p1 : A8) : Option (A8):=
 Option.bind (A7O p1.H8) fun t14=>
 Option.bind (
   iter (B1j t14) FUEL (t14,(0 : Int))) fun tables30=>
 Option.bind (A8m p1.F3) fun t81=>
 Option.bind (
   iter (B2l t81) FUEL (t81,(0 : Int))) fun guests97=>
 Option.bind (B1D p1.J8) fun t148=>
 Option.bind (A3e p1.K5) fun t159=>
 Option.bind (A9l p1.K9) fun t170=>
 some (A8.mk tables30 guests97 t148 t159 t170)
def C1v (v1 : J6) (r2 : G5) : Option (Int×Int×Bool):=
 Option.bind (A2C v1.O6.A0J r2.fA) fun t47=>
 Option.bind (A2C v1.O6.A0J r2.fB) fun t55=>
 Option.bind (K6 v1.R6 t47) fun e63=>
 bif decide ((0 : Int)≤e63) then
   Option.bind (K6 v1.R6 t55) fun e67=>
   some (t47,t55,decide ((0 : Int)≤e67))
 else
   some (t47,t55,false)
def C2P (v1 : J6) (a2 : Int) (b3 : Int) : Option (Int×Bool):=
 Option.bind (K6 v1.R6 a2) fun e44=>
 Option.bind (K6 v1.O6.A2d e44) fun e47=>
 Option.bind (K6 v1.R6 b3) fun e52=>
 Option.bind (lkM e47 e52 (0 : Int)) fun (e55,ok56)=>
 some (e55,ok56)
def B8T {σ : Type} (v1 : J6) (r2 : G5) (f3 : σ→Int→(List Int)→Option σ) (s0 : σ) : Option (σ):=
 Option.bind (C1v v1 r2) fun (t8,t9,t10)=>
 Option.bind (
   bif !t10 then
     some true
   else
     Option.bind (K6 v1.R6 t8) fun e63=>
     Option.bind (K6 v1.O6.A3n e63) fun e66=>
     Option.bind (K6 v1.R6 t9) fun e69=>
     Option.bind (K6 v1.O6.A3n e69) fun e72=>
     some (!decide (e66 = e72))) fun t21=>
 bif t21 then
   some s0
 else
   Option.bind (C2P v1 t8 t9) fun (t81,t82)=>
   bif decide (r2.fN = (0 : Int)) then
     none
   else
     bif t82 then
       bif decide (t81 < r2.fN) then
         Option.bind (f3 s0 (1 : Int) [t8,t9]) fun s100=>
         some s100
       else
         none
     else
       none
def B0k {σ : Type} (v1 : J6) (r2 : G5) (f3 : σ→Int→(List Int)→Option σ) (s0 : σ) : Option (σ):=
  none
def B0i {σ : Type} (v1 : J6) (r2 : G5) (f3 : σ→Int→(List Int)→Option σ) (s0 : σ) : Option (σ):=
  none
def B6J {σ : Type} (v1 : J6) (r2 : G5) (f3 : σ→Int→(List Int)→Option σ) (s0 : σ) : Option (σ):=
  none
def B3N {σ : Type} (v1 : J6) (r2 : G5) (f3 : σ→Int→(List Int)→Option σ) (s0 : σ) : Option (σ):=
  none
def C4o {σ : Type} (v1 : J6) (r2 : G5) (f3 : σ→Int→(List Int)→Option σ) (s0 : σ) : Option (σ):=
  none
def B5a (v1 : J6) (e56 : Int) : Int→Option (Int⊕Int):=fun first66=>
  bif decide ((0 : Int) < first66) then
    Option.bind (P5 (first66 - (1 : Int))) fun t75=>
    Option.bind (K6 v1.O6.A3n t75) fun e76=>
    Option.bind (K6 v1.O6.A3n e56) fun e79=>
    bif decide (e76 = e79) then
      Option.bind (P5 (first66 - (1 : Int))) fun t83=>
      some (Sum.inl t83)
    else
      some (Sum.inr first66)
  else
    some (Sum.inr first66)
def C0V {σ : Type} (v1 : J6) (r2 : G5) (f3 : σ→Int→(List Int)→Option σ) (s0 : σ) : Option (σ):=
 Option.bind (A2C v1.O6.A0J r2.fA) fun t48=>
 Option.bind (K6 v1.R6 t48) fun e56=>
 bif decide (e56 < (0 : Int)) then
   some s0
 else
   Option.bind (
     iter (B5a v1 e56) FUEL e56) fun first65=>
   Option.bind (K6 v1.O6.A3n e56) fun e87=>
   Option.bind (K6 v1.O6.A0J.H8 e87) fun e90=>
   bif !decide (e90.H7 = r2.V7) then
     Option.bind (f3 s0 (1 : Int) [t48]) fun s103=>
     some s103
   else
     Option.bind (P5 (e56 - first65)) fun t118=>
     bif !decide (t118 = r2.fN) then
       Option.bind (f3 s0 (1 : Int) [t48]) fun s127=>
       some s127
     else
       some s0
def B9e {σ : Type} (v1 : J6) (r2 : G5) (f3 : σ→Int→(List Int)→Option σ) (s0 : σ) : Option (σ):=
  none
def B8S {σ : Type} (v1 : J6) (r2 : G5) (f3 : σ→Int→(List Int)→Option σ) (s0 : σ) : Option (σ):=
  none
def B5b {σ : Type} (v1 : J6) (r2 : G5) (f3 : σ→Int→(List Int)→Option σ) (s0 : σ) : Option (σ):=
  none
def B4K {σ : Type} (v1 : J6) (r2 : G5) (f3 : σ→Int→(List Int)→Option σ) (s0 : σ) : Option (σ):=
  none
def B1l {σ : Type} (v1 : J6) (r2 : G5) (f3 : σ→Int→(List Int)→Option σ) (s0 : σ) : Option (σ):=
  none
def C3y {σ : Type} (v1 : J6) (r2 : G5) (f3 : σ→Int→(List Int)→Option σ) (s0 : σ) : Option (σ):=
  none
def B9z {σ : Type} (v1 : J6) (r2 : G5) (f3 : σ→Int→(List Int)→Option σ) (s0 : σ) : Option (σ):=
  none
def B7i {σ : Type} (v1 : J6) (r2 : G5) (f3 : σ→Int→(List Int)→Option σ) (s0 : σ) : Option (σ):=
  none
def C1u {σ : Type} (v1 : J6) (r2 : G5) (f3 : σ→Int→(List Int)→Option σ) (s0 : σ) : Option (σ):=
  none
def C0W {σ : Type} (v1 : J6) (r2 : G5) (f3 : σ→Int→(List Int)→Option σ) (s0 : σ) : Option (σ):=
  none
def B8L {σ : Type} (v1 : J6) (r2 : G5) (f3 : σ→Int→(List Int)→Option σ) (s0 : σ) : Option (σ):=
  none
end Go.Dm
open Go Go.Sl
namespace Go.Dm
def B2t {σ : Type} (n : Nat) (v : J6) (r : G5) (f : σ→Int→(List Int)→Option σ) (s : σ) : Option σ:=
  if n = 180 then B8T v r f s else
  if n = 181 then B0k v r f s else
  if n = 182 then B0i v r f s else
  if n = 183 then B6J v r f s else
  if n = 184 then B3N v r f s else
  if n = 185 then C4o v r f s else
  if n = 186 then C0V v r f s else
  if n = 187 then B1l v r f s else
  if n = 188 then C1u v r f s else
  if n = 189 then B9e v r f s else
  if n = 190 then B8S v r f s else
  if n = 191 then B9z v r f s else
  if n = 192 then B5b v r f s else
  if n = 193 then B7i v r f s else
  if n = 194 then C0W v r f s else
  if n = 195 then B8L v r f s else
  if n = 196 then B4K v r f s else
  if n = 197 then C3y v r f s else
  none
def A8t (k1 : Int) (u2 : List Int) (t3 : Int) : Option (Int):=
 Option.bind (P5 (t3 + k1)) fun t4=>
 some t4
def A7h (v1 : J6) (i2 : Int) : Option (Int):=
 Option.bind (K6 v1.O6.A0J.K9 i2) fun e44=>
 Option.bind (lkM v1.O6.C4d e44.J4 (I5.mk (⟨#[]⟩ : ByteArray) (0 : Int) false (0 : Int) false (0 : Int) false (0 : Nat))) fun (e47,ok48)=>
 Option.bind (K6 v1.O6.A0J.K9 i2) fun e51=>
 Option.bind (B2t e47.C3D v1 e51 (fun s_ y0 y1=>A8t y0 y1 s_) (0 : Int)) fun s65=>
 some s65
def B3E (v1 : J6) : (Int×Int)→Option ((Int×Int)⊕Unit):=fun (t23,left24)=>
  bif decide (t23 < (v1.R6.length : Int)) then
    Option.bind (K6 v1.R6 t23) fun e33=>
    bif decide (e33 < (0 : Int)) then
      Option.bind (P5 (left24 + (1 : Int))) fun t37=>
      Option.bind (K6 v1.O6.A0J.F3 t23) fun e69=>
      bif e69.A0e then
        none
      else
        Option.bind (P5 (t23 + (1 : Int))) fun t75=>
        some (Sum.inl (t75,t37))
    else
      Option.bind (P5 (t23 + (1 : Int))) fun t76=>
      some (Sum.inl (t76,left24))
  else
    some (Sum.inr ())
def A7b (v1 : J6) (i2 : Int) : Option (Int):=
 Option.bind (A7h v1 i2) fun t3=>
 Option.bind (
   iter (B3E v1) FUEL ((0 : Int),(0 : Int))) fun _u=>
 Option.bind (K6 v1.O6.A0J.K9 i2) fun e111=>
 bif decide (e111.J4 = (9 : Int)) then
   none
 else
   bif decide (e111.J4 = (15 : Int)) then
     none
   else
     bif decide (e111.J4 = (11 : Int)) then
       none
     else
       some (max t3 (0 : Int))
def A6N  : Option (List (Int×I5)):=
 Option.bind (some (A3m ([] : List (Int×I5)) (1 : Int) (I5.mk (⟨#[97,112,97,114,116]⟩ : ByteArray) (103 : Int) true (0 : Int) true (0 : Int) false (180 : Nat)))) fun m5=>
 Option.bind (some (A3m m5 (2 : Int) (I5.mk (⟨#[98,101,115,105,100,101]⟩ : ByteArray) (103 : Int) true (0 : Int) false (0 : Int) false (181 : Nat)))) fun m9=>
 Option.bind (some (A3m m9 (3 : Int) (I5.mk (⟨#[97,99,114,111,115,115]⟩ : ByteArray) (103 : Int) true (0 : Int) false (0 : Int) false (182 : Nat)))) fun m13=>
 Option.bind (some (A3m m13 (4 : Int) (I5.mk (⟨#[110,101,97,114]⟩ : ByteArray) (103 : Int) true (0 : Int) true (1 : Int) false (183 : Nat)))) fun m17=>
 Option.bind (some (A3m m17 (5 : Int) (I5.mk (⟨#[116,111,103,101,116,104,101,114]⟩ : ByteArray) (103 : Int) true (0 : Int) false (0 : Int) false (184 : Nat)))) fun m21=>
 Option.bind (some (A3m m21 (6 : Int) (I5.mk (⟨#[97,116]⟩ : ByteArray) (103 : Int) false (116 : Int) false (0 : Int) false (185 : Nat)))) fun m25=>
 Option.bind (some (A3m m25 (7 : Int) (I5.mk (⟨#[115,101,97,116]⟩ : ByteArray) (103 : Int) false (116 : Int) true (0 : Int) true (186 : Nat)))) fun m29=>
 Option.bind (some (A3m m29 (8 : Int) (I5.mk (⟨#[97,108,116,101,114,110,97,116,101]⟩ : ByteArray) (0 : Int) false (101 : Int) false (0 : Int) false (187 : Nat)))) fun m33=>
 Option.bind (some (A3m m33 (9 : Int) (I5.mk (⟨#[104,111,115,116]⟩ : ByteArray) (0 : Int) false (101 : Int) false (0 : Int) false (188 : Nat)))) fun m37=>
 Option.bind (some (A3m m37 (10 : Int) (I5.mk (⟨#[114,101,97,99,104]⟩ : ByteArray) (101 : Int) false (0 : Int) false (0 : Int) false (189 : Nat)))) fun m41=>
 Option.bind (some (A3m m41 (11 : Int) (I5.mk (⟨#[115,112,101,97,107]⟩ : ByteArray) (0 : Int) false (101 : Int) false (0 : Int) false (190 : Nat)))) fun m45=>
 Option.bind (some (A3m m45 (12 : Int) (I5.mk (⟨#[112,101,97,99,101]⟩ : ByteArray) (0 : Int) false (101 : Int) false (0 : Int) false (191 : Nat)))) fun m49=>
 Option.bind (some (A3m m49 (13 : Int) (I5.mk (⟨#[99,111,109,112,97,110,121]⟩ : ByteArray) (0 : Int) false (101 : Int) false (0 : Int) false (192 : Nat)))) fun m53=>
 Option.bind (some (A3m m53 (14 : Int) (I5.mk (⟨#[104,111,110,111,117,114]⟩ : ByteArray) (0 : Int) false (101 : Int) false (0 : Int) false (193 : Nat)))) fun m57=>
 Option.bind (some (A3m m57 (15 : Int) (I5.mk (⟨#[102,105,108,108]⟩ : ByteArray) (0 : Int) false (101 : Int) true (0 : Int) false (194 : Nat)))) fun m61=>
 Option.bind (some (A3m m61 (16 : Int) (I5.mk (⟨#[108,105,109,105,116]⟩ : ByteArray) (0 : Int) false (101 : Int) true (0 : Int) false (195 : Nat)))) fun m65=>
 Option.bind (some (A3m m65 (17 : Int) (I5.mk (⟨#[107,105,116,99,104,101,110]⟩ : ByteArray) (100 : Int) false (116 : Int) false (0 : Int) false (196 : Nat)))) fun m69=>
 Option.bind (some (A3m m69 (18 : Int) (I5.mk (⟨#[109,105,120]⟩ : ByteArray) (0 : Int) false (101 : Int) false (0 : Int) false (197 : Nat)))) fun m73=>
 some m73
def A7Y (k1 : I5) (r2 : G5) : Option (Bool):=
  bif k1.fb then
    bif !decide (k1.ft = (0 : Int)) then
      bif k1.fn then
        some true
      else
        some (decide (r2.fN = (0 : Int)))
    else
      bif decide (r2.V7 = (⟨#[]⟩ : ByteArray)) then
        bif k1.fn then
          some true
        else
          some (decide (r2.fN = (0 : Int)))
      else
        some false
  else
    bif decide (r2.fB = (⟨#[]⟩ : ByteArray)) then
      bif !decide (k1.ft = (0 : Int)) then
        bif k1.fn then
          some true
        else
          some (decide (r2.fN = (0 : Int)))
      else
        bif decide (r2.V7 = (⟨#[]⟩ : ByteArray)) then
          bif k1.fn then
            some true
          else
            some (decide (r2.fN = (0 : Int)))
        else
          some false
    else
      some false
def A7Z (k1 : I5) (r2 : G5) : Option (Bool):=
  bif k1.fb then
    bif !decide (k1.ft = (0 : Int)) then
      bif k1.fn then
        some true
      else
        some (decide (r2.fN = (0 : Int)))
    else
      bif decide (r2.V7 = (⟨#[]⟩ : ByteArray)) then
        bif k1.fn then
          some true
        else
          some (decide (r2.fN = (0 : Int)))
      else
        some false
  else
    bif decide (r2.fB = (⟨#[]⟩ : ByteArray)) then
      bif !decide (k1.ft = (0 : Int)) then
        bif k1.fn then
          some true
        else
          some (decide (r2.fN = (0 : Int)))
      else
        bif decide (r2.V7 = (⟨#[]⟩ : ByteArray)) then
          bif k1.fn then
            some true
          else
            some (decide (r2.fN = (0 : Int)))
        else
          some false
    else
      some false
def A9A (k1 : I5) (r2 : G5) : Option (Bool):=
 bif !decide (k1.fa = (0 : Int)) then
   A7Y k1 r2
 else
   bif decide (r2.fA = (⟨#[]⟩ : ByteArray)) then
     A7Z k1 r2
   else
     some false
def A7Q (k1 : I5) (p2 : A8) (r13 : G5) : Option (Bool):=
  bif decide (k1.fa = (101 : Int)) then
    bif !decide (r13.fA = (⟨#[]⟩ : ByteArray)) then
      Option.bind (A2C p2 r13.fA) fun t68=>
      bif decide (t68 < (0 : Int)) then
        some (decide (t68 < (0 : Int)))
      else
        bif k1.fb then
          Option.bind (A2C p2 r13.fB) fun t78=>
          some (decide (t78 < (0 : Int)))
        else
          some false
    else
      bif k1.fb then
        Option.bind (A2C p2 r13.fB) fun t87=>
        some (decide (t87 < (0 : Int)))
      else
        some false
  else
    bif k1.fb then
      Option.bind (A2C p2 r13.fB) fun t96=>
      some (decide (t96 < (0 : Int)))
    else
      some false
def A7U (k1 : I5) (p2 : A8) (r13 : G5) (t134 : Int) (t146 : Bool) : Option (Int):=
  bif t146 then
    some (6 : Int)
  else
    Option.bind (
      bif k1.C4y then
        Option.bind (P5 (t134 + (1 : Int))) fun t162=>
        Option.bind (sbL p2.H8 t134 t162) fun t163=>
        Option.bind (A1Y t163) fun t168=>
        Option.bind (P5 (t168 - (1 : Int))) fun t176=>
        some t176
      else
        some (24 : Int)) fun most160=>
    bif k1.fn then
      bif decide (r13.fN < k1.flo) then
        some (42 : Int)
      else
        bif decide (most160 < r13.fN) then
          some (42 : Int)
        else
          some (0 : Int)
    else
      some (0 : Int)
def A7T (k1 : I5) (p2 : A8) (r13 : G5) : Option (Int):=
  Option.bind (B2B p2.H8 r13.V7) fun (t134,t135)=>
  Option.bind (
    bif decide (k1.ft = (116 : Int)) then
      bif !t135 then
        some true
      else
        bif decide (k1.ft = (101 : Int)) then
          bif !decide (r13.V7 = (⟨#[]⟩ : ByteArray)) then
            some (!t135)
          else
            some false
        else
          some false
    else
      bif decide (k1.ft = (101 : Int)) then
        bif !decide (r13.V7 = (⟨#[]⟩ : ByteArray)) then
          some (!t135)
        else
          some false
      else
        some false) fun t146=>
  A7U k1 p2 r13 t134 t146
def A8o (k1 : I5) (p2 : A8) (r13 : G5) (t48 : Bool) : Option (Int):=
  Option.bind (
    bif t48 then
      some t48
    else
      A7Q k1 p2 r13) fun t64=>
  bif t64 then
    some (6 : Int)
  else
    Option.bind (
      bif decide (k1.fa = (100 : Int)) then
        Option.bind (B6c r13.fA) fun t113=>
        some (!t113)
      else
        some false) fun t111=>
    bif t111 then
      some (4 : Int)
    else
      Option.bind (
        bif k1.fb then
          some (decide (r13.fA = r13.fB))
        else
          some false) fun t128=>
      bif t128 then
        some (5 : Int)
      else
        A7T k1 p2 r13
def A9n (k1 : I5) (p2 : A8) (r13 : G5) : Option (Int):=
 bif decide (k1.A5E = (⟨#[]⟩ : ByteArray)) then
   some (40 : Int)
 else
   Option.bind (
     bif decide (r13.Y6 < (0 : Int)) then
       some true
     else
       some (decide ((1000 : Int) < r13.Y6))) fun t30=>
   bif t30 then
     some (41 : Int)
   else
     Option.bind (A9A k1 r13) fun t36=>
     bif !t36 then
       some (43 : Int)
     else
       Option.bind (
         bif decide (k1.fa = (103 : Int)) then
           Option.bind (A2C p2 r13.fA) fun t50=>
           some (decide (t50 < (0 : Int)))
         else
           some false) fun t48=>
       A8o k1 p2 r13 t48
def A3o (p1 : A8) : Int→Option (Int⊕(Unit⊕(Int×Int))):=fun t48=>
  bif decide (t48 < (p1.K5.length : Int)) then
    Option.bind (K6 p1.K5 t48) fun e57=>
    bif decide (e57 < (0 : Int)) then
      some (Sum.inr (Sum.inr ((0 : Int),(44 : Int))))
    else
      bif decide ((64 : Int)≤e57) then
        some (Sum.inr (Sum.inr ((0 : Int),(44 : Int))))
      else
        Option.bind (P5 (t48 + (1 : Int))) fun t62=>
        some (Sum.inl t62)
  else
    some (Sum.inr (Sum.inl ()))
def B3T (p1 : A8) : Option (Int×Int):=
  Option.bind (
    bif decide ((0 : Int) < (p1.K5.length : Int)) then
      some (!decide ((p1.K5.length : Int) = (p1.F3.length : Int)))
    else
      some false) fun t39=>
  bif t39 then
    some ((0 : Int),(44 : Int))
  else
    Option.bind (
      iter (A3o p1) FUEL (0 : Int)) fun o45=>match o45 with
    | .inl _u=>
      Option.bind (A1Y p1.H8) fun t66=>
      bif decide (t66 < (p1.F3.length : Int)) then
        some ((0 : Int),(45 : Int))
      else
        some ((0 : Int),(0 : Int))
    | .inr p=>
      some p
def A9d (p1 : A8) : Option (Int×Int):=
 Option.bind (A3r p1.H8) fun (t16,t17)=>
 bif !decide (t17 = (0 : Int)) then
   some (t16,t17)
 else
   Option.bind (A3G (V6.mk p1.F3 p1.J8)) fun (t26,t27)=>
   bif !decide (t27 = (0 : Int)) then
     some (t26,t27)
   else
     B3T p1
def A3B (p1 : A8) (t26 : List (Int×I5)) : Int→Option (Int⊕(Unit⊕(Int×Int))):=fun t38=>
  bif decide (t38 < (p1.K9.length : Int)) then
    Option.bind (K6 p1.K9 t38) fun e47=>
    Option.bind (lkM t26 e47.J4 (I5.mk (⟨#[]⟩ : ByteArray) (0 : Int) false (0 : Int) false (0 : Int) false (0 : Nat))) fun (e55,ok56)=>
    Option.bind (A9n e55 p1 e47) fun t59=>
    bif !decide (t59 = (0 : Int)) then
      some (Sum.inr (Sum.inr (t38,t59)))
    else
      bif decide (t38 = (64 : Int)) then
        some (Sum.inr (Sum.inr (t38,(7 : Int))))
      else
        Option.bind (P5 (t38 + (1 : Int))) fun t69=>
        some (Sum.inl t69)
  else
    some (Sum.inr (Sum.inl ()))
def A3L (p1 : A8) : Option (Int×Int):=
 Option.bind (A9d p1) fun (t16,t17)=>
 bif !decide (t17 = (0 : Int)) then
   some (t16,t17)
 else
   Option.bind (A6N) fun t26=>
   Option.bind (
     iter (A3B p1 t26) FUEL (0 : Int)) fun o35=>match o35 with
   | .inl _u=>
     some ((0 : Int),(0 : Int))
   | .inr p=>
     some p
def B3X (k1 : Int) (t2 : A8) (t13 : Int) : Option (Bool):=
 Option.bind (B6H t2.H8 t13 k1) fun t14=>
 some t14
def B4w (k1 : Int) (t2 : A8) (t13 : Int) : Option (Bool):=
 Option.bind (B7e t2.H8 t13 k1) fun t14=>
 some t14
def B9L (e125 : List Int) (t143 : Int) (out144 : List (Int×Int)) (line149 : List Int) : Option ((Int×(List (Int×Int))×(List Int))⊕((List (Int×Int))×(List Int))):=
  Option.bind (K6 e125 t143) fun e162=>
  Option.bind (lkM out144 e162 (0 : Int)) fun (e165,ok166)=>
  bif !ok166 then
    Option.bind (K6 line149 (0 : Int)) fun e170=>
    Option.bind (lkM out144 e170 (0 : Int)) fun (e173,ok174)=>
    Option.bind (P5 (e173 + (1 : Int))) fun t177=>
    Option.bind (some (A3m out144 e162 t177)) fun m179=>
    Option.bind (apL line149 [e162]) fun t185=>
    Option.bind (P5 (t143 + (1 : Int))) fun t191=>
    some (Sum.inl (t191,m179,t185))
  else
    Option.bind (P5 (t143 + (1 : Int))) fun t192=>
    some (Sum.inl (t192,out144,line149))
def B3g (e125 : List Int) : (Int×(List (Int×Int))×(List Int))→Option ((Int×(List (Int×Int))×(List Int))⊕((List (Int×Int))×(List Int))):=fun (t143,out144,line149)=>
  bif decide (t143 < (e125.length : Int)) then
    B9L e125 t143 out144 line149
  else
    some (Sum.inr (out144,line149))
def B3t (e73 : List Int) (e81 : List Int) : (Int×(List (Int×Int))×(List Int))→Option ((Int×(List (Int×Int))×(List Int))⊕((List (Int×Int))×(List Int))):=fun (t106,out107,line112)=>
  bif decide (t106 < ([e73,e81].length : Int)) then
    Option.bind (K6 [e73,e81] t106) fun e125=>
    Option.bind (
      iter (B3g e125) FUEL ((0 : Int),out107,line112)) fun (out133,line138)=>
    Option.bind (P5 (t106 + (1 : Int))) fun t196=>
    some (Sum.inl (t196,out133,line138))
  else
    some (Sum.inr (out107,line112))
def B3F (j1 : P8) : ((List (Int×Int))×(List Int))→Option (((List (Int×Int))×(List Int))⊕(List (Int×Int))):=fun (out21,line26)=>
  bif decide ((0 : Int) < (line26.length : Int)) then
    Option.bind (K6 line26 (0 : Int)) fun e70=>
    Option.bind (K6 j1.B2s e70) fun e73=>
    Option.bind (K6 line26 (0 : Int)) fun e78=>
    Option.bind (K6 j1.B2A e78) fun e81=>
    Option.bind (
      iter (B3t e73 e81) FUEL ((0 : Int),out21,line26)) fun (out96,line101)=>
    Option.bind (sbL line101 (1 : Int) (line101.length : Int)) fun t200=>
    some (Sum.inl (out96,t200))
  else
    some (Sum.inr out21)
def B7P (j1 : P8) (from2 : Int) : Option (List (Int×Int)):=
 Option.bind (some (A3m ([] : List (Int×Int)) from2 (0 : Int))) fun m7=>
 Option.bind (
   iter (B3F j1) FUEL (m7,[from2])) fun out16=>
 some out16
def A9o (j1 : P8) : Option (Bool):=
 some false
def C3v (p1 : A8) (t117 : Int) (t126 : Int) (t140 : Int) (table177 : List Int) (level182 : List Int) (open187 : List Bool) (beside192 : List (List Int)) (across197 : List (List Int)) (s202 : Int) : Option (((List Int)×(List Int)×(List Bool)×(List (List Int))×(List (List Int))×Int)⊕((List Int)×(List Int)×(List Bool)×(List (List Int))×(List (List Int)))):=
  Option.bind (apL table177 [t117]) fun t216=>
  Option.bind (B9a p1.H8 s202) fun t224=>
  Option.bind (apL level182 [t224]) fun t235=>
  Option.bind (C1k p1.H8 s202) fun t243=>
  Option.bind (apL open187 [t243]) fun t254=>
  Option.bind (B4a t126 t140 (fun y0=>B3X y0 p1 s202)) fun t271=>
  Option.bind (apL beside192 [t271]) fun t289=>
  Option.bind (B4a t126 t140 (fun y0=>B4w y0 p1 s202)) fun t303=>
  Option.bind (apL across197 [t303]) fun t321=>
  Option.bind (P5 (s202 + (1 : Int))) fun t330=>
  some (Sum.inl (t216,t235,t254,t289,t321,t330))
def B6D (p1 : A8) (t117 : Int) (t126 : Int) (t140 : Int) : ((List Int)×(List Int)×(List Bool)×(List (List Int))×(List (List Int))×Int)→Option (((List Int)×(List Int)×(List Bool)×(List (List Int))×(List (List Int))×Int)⊕((List Int)×(List Int)×(List Bool)×(List (List Int))×(List (List Int)))):=fun (table177,level182,open187,beside192,across197,s202)=>
  Option.bind (P5 (t126 + t140)) fun t211=>
  bif decide (s202 < t211) then
    C3v p1 t117 t126 t140 table177 level182 open187 beside192 across197 s202
  else
    some (Sum.inr (table177,level182,open187,beside192,across197))
def B6G (p1 : A8) : ((List Int)×(List Int)×(List Bool)×(List (List Int))×(List (List Int))×Int)→Option (((List Int)×(List Int)×(List Bool)×(List (List Int))×(List (List Int))×Int)⊕((List Int)×(List Int)×(List Bool)×(List (List Int))×(List (List Int)))):=fun (table92,level97,open102,beside107,across112,t117)=>
  bif decide (t117 < (p1.H8.length : Int)) then
    Option.bind (A3O p1.H8 t117) fun t126=>
    Option.bind (P5 (t117 + (1 : Int))) fun t134=>
    Option.bind (sbL p1.H8 t117 t134) fun t135=>
    Option.bind (A1Y t135) fun t140=>
    Option.bind (
      iter (B6D p1 t117 t126 t140) FUEL (table92,level97,open102,beside107,across112,t126)) fun (table152,level157,open162,beside167,across172)=>
    Option.bind (P5 (t117 + (1 : Int))) fun t334=>
    some (Sum.inl (table152,level157,open162,beside167,across172,t334))
  else
    some (Sum.inr (table92,level97,open102,beside107,across112))
def B6Q (t26 : A8) (t44 : List (Int×I5)) (table57 : List Int) (level62 : List Int) (open67 : List Bool) (beside72 : List (List Int)) (across77 : List (List Int)) : ((List (List (Int×Int)))×Int)→Option (((List (List (Int×Int)))×Int)⊕(List (List (Int×Int)))):=fun (steps348,t353)=>
  bif decide (t353 < (table57.length : Int)) then
    Option.bind (B7P (P8.mk t26 t44 table57 level62 open67 beside72 across77 steps348 ([] : List (List Bool)) ([] : List (List Int))) t353) fun t383=>
    Option.bind (apL steps348 [t383]) fun t407=>
    Option.bind (P5 (t353 + (1 : Int))) fun t415=>
    some (Sum.inl (t407,t415))
  else
    some (Sum.inr steps348)
def B7g (p1 : A8) (e470 : E5) : ((Option J2)×Int×(List Bool)×(List Int))→Option (((Option J2)×Int×(List Bool)×(List Int))⊕((Option J2)×(List Bool)×(List Int))):=fun (b500,t503,c504,k509)=>
  bif decide (t503 < (p1.F3.length : Int)) then
    Option.bind (K6 p1.F3 t503) fun e522=>
    Option.bind (b500) fun p532=>
    Option.bind (B6R p532 e470.H7 e522.H7) fun t534=>
    Option.bind (apL c504 [decide ((0 : Int) < (t534.length : Int))]) fun t548=>
    Option.bind (C0T p532 e470.H7 e522.H7) fun (t554,t555)=>
    Option.bind (apL k509 [t554]) fun t566=>
    Option.bind (P5 (t503 + (1 : Int))) fun t572=>
    some (Sum.inl ((some p532),t572,t548,t566))
  else
    some (Sum.inr (b500,c504,k509))
def B6S (p1 : A8) : ((List (List Bool))×(List (List Int))×(Option J2)×Int)→Option (((List (List Bool))×(List (List Int))×(Option J2)×Int)⊕((List (List Bool))×(List (List Int)))):=fun (common448,ties453,b458,t461)=>
  bif decide (t461 < (p1.F3.length : Int)) then
    Option.bind (K6 p1.F3 t461) fun e470=>
    Option.bind (
      iter (B7g p1 e470) FUEL (b458,(0 : Int),([] : List Bool),([] : List Int))) fun (b483,c486,k491)=>
    Option.bind (apL common448 [c486]) fun t587=>
    Option.bind (apL ties453 [k491]) fun t596=>
    Option.bind (P5 (t461 + (1 : Int))) fun t606=>
    some (Sum.inl (t587,t596,b483,t606))
  else
    some (Sum.inr (common448,ties453))
def C3m (p1 : A8) : Option ((Option P8)×Int×Int):=
  Option.bind (B1k p1) fun t26=>
  Option.bind (A6N) fun t44=>
  Option.bind (
    iter (B6G p1) FUEL (([] : List Int),([] : List Int),([] : List Bool),([] : List (List Int)),([] : List (List Int)),(0 : Int))) fun (table57,level62,open67,beside72,across77)=>
  Option.bind (
    iter (B6Q t26 t44 table57 level62 open67 beside72 across77) FUEL (([] : List (List (Int×Int))),(0 : Int))) fun steps341=>
  Option.bind (A8Y (V6.mk p1.F3 p1.J8)) fun (t419,t420,t421)=>
  Option.bind (
    iter (B6S p1) FUEL (([] : List (List Bool)),([] : List (List Int)),t419,(0 : Int))) fun (common434,ties439)=>
  some ((some (P8.mk t26 t44 table57 level62 open67 beside72 across77 steps341 common434 ties439)),(0 : Int),(0 : Int))
def B1P (p1 : A8) : Option ((Option P8)×Int×Int):=
 Option.bind (A3L p1) fun (t16,t17)=>
 bif !decide (t17 = (0 : Int)) then
   some ((none),t16,t17)
 else
   C3m p1
def A8k (j1 : P8) : Option (A8):=
 Option.bind (A9o j1) fun t3=>
 bif t3 then
   none
 else
   Option.bind (B1k j1.A0J) fun t43=>
   some t43
def B9O (guest73 : List Int) (t78 : Int) (e87 : Int) : Option (((List Int)×Int)⊕(List Int)):=
  bif decide ((0 : Int)≤e87) then
    Option.bind (K6 guest73 e87) fun e93=>
    bif decide ((0 : Int)≤e93) then
      none
    else
      bif decide ((0 : Int)≤e87) then
        Option.bind (K6 guest73 e87) fun e98=>
        Option.bind (some (List.set guest73 e87.toNat t78)) fun l101=>
        Option.bind (P5 (t78 + (1 : Int))) fun t104=>
        some (Sum.inl (l101,t104))
      else
        Option.bind (P5 (t78 + (1 : Int))) fun t105=>
        some (Sum.inl (guest73,t105))
  else
    bif decide ((0 : Int)≤e87) then
      Option.bind (K6 guest73 e87) fun e107=>
      Option.bind (some (List.set guest73 e87.toNat t78)) fun l110=>
      Option.bind (P5 (t78 + (1 : Int))) fun t113=>
      some (Sum.inl (l110,t113))
    else
      Option.bind (P5 (t78 + (1 : Int))) fun t114=>
      some (Sum.inl (guest73,t114))
def B2Y (j1 : P8) (part2 : List Int) : ((List Int)×Int)→Option (((List Int)×Int)⊕(List Int)):=fun (guest73,t78)=>
  bif decide (t78 < (part2.length : Int)) then
    Option.bind (K6 part2 t78) fun e87=>
    bif decide (e87 < (-1 : Int)) then
      none
    else
      bif decide ((j1.A3n.length : Int)≤e87) then
        none
      else
        B9O guest73 t78 e87
  else
    some (Sum.inr guest73)
def A6O (j1 : P8) (part2 : List Int) : Option (J6):=
 Option.bind (A9o j1) fun t3=>
 bif t3 then
   none
 else
   bif !decide ((part2.length : Int) = (j1.A0J.F3.length : Int)) then
     none
   else
     Option.bind (A8v [(-1 : Int)] (j1.A3n.length : Int)) fun t51=>
     Option.bind (
       iter (B2Y j1 part2) FUEL (t51,(0 : Int))) fun guest68=>
     some (J6.mk j1 part2 guest68)
def B1F (j1 : P8) (part2 : List Int) (i3 : Int) : Option (Int):=
 Option.bind (A6O j1 part2) fun t4=>
 bif decide (i3 < (0 : Int)) then
   none
 else
   bif decide ((t4.O6.A0J.K9.length : Int)≤i3) then
     none
   else
     Option.bind (A7b t4 i3) fun t55=>
     some t55
def B5s (count3 : J6→Int→Option Int) (t4 : J6) : (Int×Int)→Option ((Int×Int)⊕Int):=fun (t57,n58)=>
  bif decide (t57 < (t4.O6.A0J.K9.length : Int)) then
    Option.bind (K6 t4.O6.A0J.K9 t57) fun e67=>
    bif decide ((0 : Int) < e67.Y6) then
      Option.bind (count3 t4 t57) fun t76=>
      Option.bind (P5 (e67.Y6 * t76)) fun t89=>
      Option.bind (P5 (n58 + t89)) fun t90=>
      Option.bind (P5 (t57 + (1 : Int))) fun t91=>
      some (Sum.inl (t91,t90))
    else
      Option.bind (P5 (t57 + (1 : Int))) fun t92=>
      some (Sum.inl (t92,n58))
  else
    some (Sum.inr n58)
def B5I (j1 : P8) (part2 : List Int) (count3 : J6→Int→Option Int) : Option (Int):=
 Option.bind (A6O j1 part2) fun t4=>
 Option.bind (
   iter (B5s count3 t4) FUEL ((0 : Int),(0 : Int))) fun n56=>
 some n56
def B1T (j1 : P8) (part2 : List Int) : Option (Int):=
 Option.bind (B5I j1 part2 A7b) fun t12=>
 some t12
def B2Z (t3 : J6) : Int→Option (Int⊕(Unit⊕(Int×Bool))):=fun t55=>
  bif decide (t55 < (t3.O6.A0J.K9.length : Int)) then
    Option.bind (K6 t3.O6.A0J.K9 t55) fun e64=>
    bif decide (e64.Y6 = (0 : Int)) then
      Option.bind (A7b t3 t55) fun t73=>
      bif decide ((0 : Int) < t73) then
        some (Sum.inr (Sum.inr (t55,true)))
      else
        Option.bind (P5 (t55 + (1 : Int))) fun t82=>
        some (Sum.inl t82)
    else
      Option.bind (P5 (t55 + (1 : Int))) fun t83=>
      some (Sum.inl t83)
  else
    some (Sum.inr (Sum.inl ()))
def B4t (j1 : P8) (part2 : List Int) : Option (Int×Bool):=
 Option.bind (A6O j1 part2) fun t3=>
 Option.bind (
   iter (B2Z t3) FUEL (0 : Int)) fun o52=>match o52 with
 | .inl _u=>
   some ((0 : Int),false)
 | .inr p=>
   some p
def B9o (j1 : P8) (part2 : List Int) : Option (Int):=
 Option.bind (B5I j1 part2 A7h) fun t12=>
 some t12
def B9t (p1 : A8) (t12 : Int) (t39 : Int) (out40 : List Int) : Option ((Int×(List Int))⊕(List Int)):=
  Option.bind (K6 p1.K9 t39) fun e53=>
  Option.bind (
    bif decide (e53.J4 = (7 : Int)) then
      Option.bind (K6 p1.H8 t12) fun e66=>
      some (decide (e53.V7 = e66.H7))
    else
      some false) fun t64=>
  bif t64 then
    Option.bind (A3O p1.H8 t12) fun t75=>
    Option.bind (P5 (t75 + e53.fN)) fun t83=>
    Option.bind (apL out40 [t83]) fun t87=>
    Option.bind (P5 (t39 + (1 : Int))) fun t93=>
    some (Sum.inl (t93,t87))
  else
    bif decide (e53.J4 = (14 : Int)) then
      none
    else
      Option.bind (P5 (t39 + (1 : Int))) fun t95=>
      some (Sum.inl (t95,out40))
def B1C (p1 : A8) (t12 : Int) : (Int×(List Int))→Option ((Int×(List Int))⊕(List Int)):=fun (t39,out40)=>
  bif decide (t39 < (p1.K9.length : Int)) then
    B9t p1 t12 t39 out40
  else
    some (Sum.inr out40)
def B6O (p1 : A8) (t12 : Int) : Option (List Int):=
 Option.bind (A3L p1) fun (t17,t18)=>
 bif !decide (t18 = (0 : Int)) then
   none
 else
   bif decide (t12 < (0 : Int)) then
     none
   else
     bif decide ((p1.H8.length : Int)≤t12) then
       none
     else
       Option.bind (
         iter (B1C p1 t12) FUEL ((0 : Int),([] : List Int))) fun out32=>
       Option.bind (B4f out32) fun l99=>
       Option.bind (A8i l99) fun t110=>
       some t110
end Go.Dm
open Go Go.Sl
namespace Go.Dm
def B1Z (k1 : Int) (t2 : D5) : Option (Bool):=
 bif decide (k1 < (0 : Int)) then
   none
 else
   Option.bind (A2j t2) fun t6=>
   some (decide (t6≤k1))
def B0S (k1 : Int) (t2 : List Int) : Option (Bool):=
 Option.bind (K6 t2 k1) fun e5=>
 some (!decide (e5 = k1))
def B3M (t1 : D5) (p4 : List Int) (t12 : Int) : Int→Option (Int⊕Unit):=fun t44=>
  bif decide (t44 < t12) then
    Option.bind (K6 p4 t12) fun e53=>
    Option.bind (K6 p4 t44) fun e56=>
    Option.bind (A5G t1 t12 t44) fun t59=>
    Option.bind (A5G t1 e53 e56) fun t67=>
    bif !(t59 == t67) then
      none
    else
      Option.bind (K6 p4 t12) fun e76=>
      Option.bind (K6 p4 t44) fun e79=>
      Option.bind (A5y t1 t12 t44) fun t82=>
      Option.bind (A5y t1 e76 e79) fun t90=>
      bif !(t82 == t90) then
        none
      else
        Option.bind (P5 (t44 + (1 : Int))) fun t99=>
        some (Sum.inl t99)
  else
    some (Sum.inr ())
def B3m (t1 : D5) (p4 : List Int) : Int→Option (Int⊕Unit):=fun t12=>
  bif decide (t12 < (p4.length : Int)) then
    Option.bind (K6 p4 t12) fun e21=>
    Option.bind (A1A t1.A0N t12) fun t24=>
    Option.bind (A1A t1.A0N e21) fun t32=>
    bif !(t24 == t32) then
      none
    else
      Option.bind (
        iter (B3M t1 p4 t12) FUEL (0 : Int)) fun _u=>
      Option.bind (P5 (t12 + (1 : Int))) fun t103=>
      some (Sum.inl t103)
  else
    some (Sum.inr ())
def B8t (t1 : D5) (p4 : List Int) : Option (Bool):=
 Option.bind (
   iter (B3m t1 p4) FUEL (0 : Int)) fun _u=>
 some true
def A5q (e71 : Int→Option Int) (t81 : List Int) : (Int×(List Int))→Option ((Int×(List Int))⊕(List Int)):=fun (t90,p91)=>
  bif decide (t90 < (t81.length : Int)) then
    Option.bind (e71 t90) fun t104=>
    Option.bind (K6 p91 t90) fun e117=>
    Option.bind (some (List.set p91 t90.toNat t104)) fun l120=>
    Option.bind (P5 (t90 + (1 : Int))) fun t123=>
    some (Sum.inl (t123,l120))
  else
    some (Sum.inr p91)
def A5B {σ : Type} (yield1 : σ→(List Int)→Option (σ×Bool)) (t29 : Int) (t37 : List (Int→Option Int)) : (σ×Int)→Option ((σ×Int)⊕σ):=fun (s59,t62)=>
  bif decide (t62 < (t37.length : Int)) then
    Option.bind (K6 t37 t62) fun e71=>
    Option.bind (mkL t29 (0 : Int)) fun t81=>
    Option.bind (
      iter (A5q e71 t81) FUEL ((0 : Int),t81)) fun p85=>
    Option.bind (yield1 s59 p85) fun (s131,t133)=>
    bif !t133 then
      none
    else
      Option.bind (P5 (t62 + (1 : Int))) fun t148=>
      some (Sum.inl (s131,t148))
  else
    some (Sum.inr s59)
def A7D {σ : Type} (yield1 : σ→(List Int)→Option (σ×Bool)) (s0 : σ) (t2 : D5) : Option (σ):=
 Option.bind (A2c t2.N9) fun (t5,t6)=>
 Option.bind (A2j t2) fun t29=>
 Option.bind (t5.C4i t2.fA t2.fB) fun t37=>
 Option.bind (
   iter (A5B yield1 t29 t37) FUEL (s0,(0 : Int))) fun s54=>
 some s54
def A9T (t1 : D5) : Option (D5):=
 some t1
def B4L (t1 : D5) (seats4 : List Int) : ((List (List Int))⊕Unit)→(List Int)→Option (((List (List Int))⊕Unit)×Bool):=fun o_ x73=>
  match o_ with
  | .inl c55=>
    Option.bind (B8t t1 x73) fun t83=>
    bif t83 then
      Option.bind (A2q seats4 (fun y0=>B0S y0 x73)) fun t98=>
      bif !t98 then
        Option.bind (apL c55 [x73]) fun t110=>
        some (Sum.inl t110,true)
      else
        some (Sum.inl c55,true)
    else
      none
  | .inr _=>none
def C0O (t1 : D5) (seats4 : List Int) : Option (List (List Int)):=
 Option.bind (A4G t1) fun t13=>
 bif !decide (t13 = (0 : Int)) then
   none
 else
   Option.bind (A2q seats4 (fun y0=>B1Z y0 t1)) fun t28=>
   bif t28 then
     none
   else
     Option.bind (A9T t1) fun t38=>
     Option.bind (A7D (B4L t1 seats4) (Sum.inl ([] : List (List Int))) t38) fun o50=>match o50 with
     | .inl c55=>
       Option.bind (B0g c55 A7K) fun l133=>
       Option.bind (A6F l133 B0t) fun t155=>
       some t155
     | .inr _=>none
end Go.Dm
open Go Go.Sl
namespace Go.Dm
def B3a (p1 : A8) (t12 : Int) (t17 : List Int) : (Int×(List Int))→Option ((Int×(List Int))⊕(List Int)):=fun (t38,pinned39)=>
  bif decide (t38 < (t17.length : Int)) then
    Option.bind (K6 t17 t38) fun e52=>
    Option.bind (A3O p1.H8 t12) fun t55=>
    Option.bind (P5 (e52 - t55)) fun t63=>
    Option.bind (apL pinned39 [t63]) fun t67=>
    Option.bind (P5 (t38 + (1 : Int))) fun t73=>
    some (Sum.inl (t73,t67))
  else
    some (Sum.inr pinned39)
def B8I (p1 : A8) (t12 : Int) : Option (List (List Int)):=
 Option.bind (B6O p1 t12) fun t17=>
 Option.bind (
   iter (B3a p1 t12 t17) FUEL ((0 : Int),([] : List Int))) fun pinned31=>
 Option.bind (K6 p1.H8 t12) fun e77=>
 Option.bind (C0O e77 pinned31) fun t86=>
 some t86
def B8s (p1 : A8) (t12 : Int) : Option (List (List Int)):=
 Option.bind (A3L p1) fun (t17,t18)=>
 bif !decide (t18 = (0 : Int)) then
   none
 else
   bif decide (t12 < (0 : Int)) then
     none
   else
     bif decide ((p1.H8.length : Int)≤t12) then
       none
     else
       Option.bind (B8I p1 t12) fun t29=>
       some t29
def C0x (t36 : Int) (taken37 : List Bool) (e50 : Int) : Option ((Int×(List Bool))⊕Unit):=
  bif decide ((0 : Int)≤e50) then
    Option.bind (K6 taken37 e50) fun e65=>
    bif e65 then
      none
    else
      bif decide ((0 : Int)≤e50) then
        Option.bind (K6 taken37 e50) fun e70=>
        Option.bind (some (List.set taken37 e50.toNat true)) fun l73=>
        Option.bind (P5 (t36 + (1 : Int))) fun t76=>
        some (Sum.inl (t76,l73))
      else
        Option.bind (P5 (t36 + (1 : Int))) fun t77=>
        some (Sum.inl (t77,taken37))
  else
    bif decide ((0 : Int)≤e50) then
      Option.bind (K6 taken37 e50) fun e79=>
      Option.bind (some (List.set taken37 e50.toNat true)) fun l82=>
      Option.bind (P5 (t36 + (1 : Int))) fun t85=>
      some (Sum.inl (t85,l82))
    else
      Option.bind (P5 (t36 + (1 : Int))) fun t86=>
      some (Sum.inl (t86,taken37))
def B3I (part12 : List Int) (whole13 : Bool) (t19 : Int) : (Int×(List Bool))→Option ((Int×(List Bool))⊕Unit):=fun (t36,taken37)=>
  bif decide (t36 < (part12.length : Int)) then
    Option.bind (K6 part12 t36) fun e50=>
    Option.bind (
      bif decide (e50 = (-1 : Int)) then
        some whole13
      else
        some false) fun t56=>
    bif t56 then
      none
    else
      bif decide (e50 < (-1 : Int)) then
        none
      else
        bif decide (t19≤e50) then
          none
        else
          C0x t36 taken37 e50
  else
    some (Sum.inr ())
def B8n (p1 : A8) (part12 : List Int) (whole13 : Bool) : Option (Int×Int):=
 bif !decide ((part12.length : Int) = (p1.F3.length : Int)) then
   none
 else
   Option.bind (A1Y p1.H8) fun t19=>
   Option.bind (mkL t19 false) fun t32=>
   Option.bind (
     iter (B3I part12 whole13 t19) FUEL ((0 : Int),t32)) fun _u=>
   some ((0 : Int),(0 : Int))
def B5D (p1 : A8) (part12 : List Int) (whole13 : Bool) : Option (Int×Int):=
 Option.bind (A3L p1) fun (t18,t19)=>
 bif !decide (t19 = (0 : Int)) then
   none
 else
   Option.bind (B8n p1 part12 whole13) fun (t28,t29)=>
   some (t28,t29)
def B0T (p1 : A8) (part12 : List Int) : Option (Int×Int):=
 Option.bind (B5D p1 part12 false) fun (t17,t18)=>
 some (t17,t18)
end Go.Dm
open Go Go.Sl
namespace Go.Dm
def B0Y (p1 : A8) : ((List Int)×(List Int)×(List (List (List Int)))×Int)→Option (((List Int)×(List Int)×(List (List (List Int)))×Int)⊕((List Int)×(List Int)×(List (List (List Int))))):=fun (table74,first79,groups84,t89)=>
  bif decide (t89 < (p1.H8.length : Int)) then
    Option.bind (apL first79 [(table74.length : Int)]) fun t101=>
    Option.bind (
      Option.bind (K6 p1.H8 t89) fun e117=>
      Option.bind (B9j e117) fun t125=>
      Option.bind (A8v [t89] t125) fun t137=>
      Option.bind (apL table74 t137) fun t148=>
      some t148) fun table112=>
    Option.bind (B8s p1 t89) fun t195=>
    Option.bind (apL groups84 [t195]) fun t213=>
    Option.bind (P5 (t89 + (1 : Int))) fun t221=>
    some (Sum.inl (table112,t101,t213,t221))
  else
    some (Sum.inr (table74,first79,groups84))
def B0s (p1 : A8) : Option (Z0×Int×Int):=
 Option.bind (B1P p1) fun (t16,t17,t18)=>
 bif !decide (t18 = (0 : Int)) then
   none
 else
   Option.bind (t16) fun p29=>
   Option.bind (A8k p29) fun t31=>
   Option.bind (
     iter (B0Y p1) FUEL (([] : List Int),([] : List Int),([] : List (List (List Int))),(0 : Int))) fun (table53,first58,groups63)=>
   some ((Z0.mk p29 t31 table53 first58 groups63),(0 : Int),(0 : Int))
def B0F (free1 : Int) (guests2 : Int) : (Int×Int)→Option ((Int×Int)⊕Int):=fun (n7,t8)=>
  bif decide (t8 < guests2) then
    Option.bind (P5 (free1 - t8)) fun t17=>
    Option.bind (P5 (n7 * t17)) fun t18=>
    bif decide ((20000 : Int) < t18) then
      none
    else
      Option.bind (P5 (t8 + (1 : Int))) fun t20=>
      some (Sum.inl (t18,t20))
  else
    some (Sum.inr n7)
def B6N (free1 : Int) (guests2 : Int) : Option (Int):=
 Option.bind (
   iter (B0F free1 guests2) FUEL ((1 : Int),(0 : Int))) fun n6=>
 some n6
def B5z (p1 : A8) : Option (Z0×Int):=
 Option.bind (B0s p1) fun (t16,t17,t18)=>
 bif !decide (t18 = (0 : Int)) then
   none
 else
   Option.bind (B6N (t16.A3n.length : Int) (p1.F3.length : Int)) fun t50=>
   bif decide ((20000 : Int) < t50) then
     none
   else
     some (t16,(0 : Int))
def B1H (h1 : Z0) : Option (List Int):=
 Option.bind (A8v [(-1 : Int)] (h1.fp.F3.length : Int)) fun t30=>
 some t30
def C0d (h1 : Z0) (e29 : Int) (e44 : List Int) (e49 : Int) (t55 : Int) (e64 : Int) : Option (Int⊕Unit):=
  bif decide ((0 : Int)≤e64) then
    Option.bind (K6 h1.A3n e64) fun e69=>
    bif decide (e69 = e29) then
      Option.bind (P5 (e64 - e49)) fun t73=>
      Option.bind (K6 e44 t73) fun e74=>
      Option.bind (P5 (e64 - e49)) fun t77=>
      bif !decide (e74 = t77) then
        none
      else
        Option.bind (P5 (t55 + (1 : Int))) fun t79=>
        some (Sum.inl t79)
    else
      Option.bind (P5 (t55 + (1 : Int))) fun t80=>
      some (Sum.inl t80)
  else
    Option.bind (P5 (t55 + (1 : Int))) fun t81=>
    some (Sum.inl t81)
def B3L (h1 : Z0) (part2 : List Int) (g3 : Int) (e29 : Int) (e44 : List Int) (e49 : Int) : Int→Option (Int⊕Unit):=fun t55=>
  bif decide (t55 < (part2.length : Int)) then
    Option.bind (K6 part2 t55) fun e64=>
    bif !decide (t55 = g3) then
      C0d h1 e29 e44 e49 t55 e64
    else
      Option.bind (P5 (t55 + (1 : Int))) fun t82=>
      some (Sum.inl t82)
  else
    some (Sum.inr ())
def C0b (h1 : Z0) (part2 : List Int) (g3 : Int) (k4 : Int) (e29 : Int) : Option (Bool):=
  Option.bind (K6 h1.B7M e29) fun e33=>
  bif decide ((e33.length : Int)≤k4) then
    none
  else
    Option.bind (K6 h1.B7M e29) fun e39=>
    Option.bind (K6 e39 k4) fun e44=>
    Option.bind (K6 h1.C5T e29) fun e49=>
    Option.bind (
      iter (B3L h1 part2 g3 e29 e44 e49) FUEL (0 : Int)) fun _u=>
    Option.bind (K6 part2 g3) fun e86=>
    Option.bind (P5 (e86 - e49)) fun t89=>
    Option.bind (K6 e44 t89) fun e90=>
    Option.bind (K6 part2 g3) fun e93=>
    Option.bind (P5 (e93 - e49)) fun t96=>
    some (decide (e90 < t96))
def B8M (h1 : Z0) (part2 : List Int) (g3 : Int) (k4 : Int) : Option (Bool):=
 Option.bind (K6 part2 g3) fun e26=>
 Option.bind (K6 h1.A3n e26) fun e29=>
 bif decide (k4 < (0 : Int)) then
   none
 else
   C0b h1 part2 g3 k4 e29
end Go.Dm
open Go Go.Sl
namespace Go.Dm
def B8R (self : A0b→Int→Option ((Int×(List Int))⊕A1u)) (r1 : A0b) (e5 : U1) (at51 : Int) (part52 : List Int) (t57 : Int) : Option ((Int×(List Int)×Int)⊕((Int×(List Int))⊕A1u)):=
  Option.bind (A1A part52 t57) fun t69=>
  bif !t69 then
    Option.bind (K6 part52 e5.fN) fun e79=>
    Option.bind (some (List.set part52 e5.fN.toNat t57)) fun l82=>
    Option.bind (self (A0b.mk r1.A1w r1.A0T r1.A2d at51 l82) e5.fN) fun o87=>match o87 with
    | .inr w88=>
      none
    | .inl q85=>
    Option.bind (K6 q85.2 e5.fN) fun e101=>
    Option.bind (some (List.set q85.2 e5.fN.toNat (-1 : Int))) fun l104=>
    Option.bind (P5 (t57 + (1 : Int))) fun t107=>
    some (Sum.inl (q85.1,l104,t107))
  else
    Option.bind (P5 (t57 + (1 : Int))) fun t108=>
    some (Sum.inl (at51,part52,t108))
def B2o (self : A0b→Int→Option ((Int×(List Int))⊕A1u)) (r1 : A0b) (e5 : U1) : (Int×(List Int)×Int)→Option ((Int×(List Int)×Int)⊕((Int×(List Int))⊕A1u)):=fun (at51,part52,t57)=>
  bif decide (t57 < (r1.A1w.A3n.length : Int)) then
    B8R self r1 e5 at51 part52 t57
  else
    some (Sum.inr (Sum.inl (at51,part52)))
def B7R (self : A0b→Int→Option ((Int×(List Int))⊕A1u)) (r1 : A0b) (e5 : U1) : Option ((Int×(List Int))⊕A1u):=
  bif decide (e5.fN < (0 : Int)) then
    none
  else
    bif decide ((r1.R6.length : Int)≤e5.fN) then
      none
    else
      Option.bind (K6 r1.R6 e5.fN) fun e16=>
      bif decide ((0 : Int)≤e16) then
        none
      else
        Option.bind (P5 (r1.fat + (1 : Int))) fun t20=>
        Option.bind (
          iter (B2o self r1 e5) FUEL (t20,r1.R6,(0 : Int))) fun o42=>match o42 with
        | .inl (at45,part46)=>
          some (Sum.inl (at45,part46))
        | .inr p=>
          some (Sum.inr p)
def B8K (r1 : A0b) (e5 : U1) : Option ((Int×(List Int))⊕A1u):=
  bif decide (e5.J4 = (2 : Int)) then
    bif decide (e5.fN < (0 : Int)) then
      none
    else
      bif decide ((r1.A1w.fp.K9.length : Int)≤e5.fN) then
        none
      else
        Option.bind (K6 r1.A1w.fp.K9 e5.fN) fun e136=>
        bif decide ((0 : Int) < e136.Y6) then
          none
        else
          Option.bind (B1F r1.A1w.O6 r1.R6 e5.fN) fun t143=>
          bif decide (t143 = (0 : Int)) then
            none
          else
            Option.bind (P5 (r1.fat + (1 : Int))) fun t153=>
            some (Sum.inl (t153,r1.R6))
  else
    bif decide (e5.J4 = (3 : Int)) then
      bif decide (r1.A0T < (0 : Int)) then
        none
      else
        Option.bind (B1T r1.A1w.O6 r1.R6) fun t180=>
        bif decide (t180 < r1.A0T) then
          none
        else
          Option.bind (P5 (r1.fat + (1 : Int))) fun t190=>
          some (Sum.inl (t190,r1.R6))
    else
      none
def A7y : Nat→A0b→Int→Option ((Int×(List Int))⊕A1u)
  | 0,_,_=>none
  | n + 1,r1,last2=>
    bif decide (r1.fat = (r1.A2d.length : Int)) then
      none
    else
      Option.bind (K6 r1.A2d r1.fat) fun e5=>
      bif decide (e5.J4 = (1 : Int)) then
        B7R (A7y n) r1 e5
      else
        B8K r1 e5
end Go.Dm
open Go Go.Sl
namespace Go.Dm
def B3s (p1 : A8) (bound12 : Int) (steps13 : List U1) : Option (Int×Int):=
 Option.bind (B0s p1) fun (t20,t21,t22)=>
 bif !decide (t22 = (0 : Int)) then
   none
 else
   bif decide ((200000 : Int) < (steps13.length : Int)) then
     none
   else
     Option.bind (B1H t20) fun t34=>
     Option.bind (A7y C1e (A0b.mk t20 bound12 steps13 (0 : Int) t34) (-1 : Int)) fun o50=>match o50 with
     | .inr w51=>
       none
     | .inl q48=>
     bif decide (q48.1 < (steps13.length : Int)) then
       none
     else
       some ((0 : Int),(0 : Int))
end Go.Dm
open Go Go.Sl
namespace Go.Dm
def B1y (h1 : Z0) (part2 : List Int) (g3 : Int) (e31 : List (List Int)) : Int→Option (Int⊕Unit):=fun t39=>
  bif decide (t39 < (e31.length : Int)) then
    Option.bind (B8M h1 part2 g3 t39) fun t48=>
    bif t48 then
      none
    else
      Option.bind (P5 (t39 + (1 : Int))) fun t57=>
      some (Sum.inl t57)
  else
    some (Sum.inr ())
def B6L (h1 : Z0) (part2 : List Int) (g3 : Int) : Option (Int):=
 Option.bind (K6 part2 g3) fun e25=>
 Option.bind (K6 h1.A3n e25) fun e28=>
 Option.bind (K6 h1.B7M e28) fun e31=>
 Option.bind (
   iter (B1y h1 part2 g3 e31) FUEL (0 : Int)) fun _u=>
 some (-1 : Int)
def A9C (p1 : U3) (kind2 : Int) (n3 : Int) : Option (Bool×((List U1)×(List Int))):=
 Option.bind (apL p1.A2d [(U1.mk kind2 n3)]) fun t9=>
 some (true,(t9,p1.R6))
def B9y (self : U3→Option (Bool×((List U1)×(List Int)))) (p1 : U3) (t90 : Int) (steps130 : List U1) (part135 : List Int) (t140 : Int) : Option (((List U1)×(List Int)×Int)⊕(((List U1)×(List Int))⊕(Bool×((List U1)×(List Int))))):=
  Option.bind (K6 part135 t90) fun e163=>
  Option.bind (some (List.set part135 t90.toNat t140)) fun l166=>
  Option.bind (B6L p1.A1w l166 t90) fun t172=>
  bif decide ((0 : Int)≤t172) then
    none
  else
    Option.bind (self (U3.mk p1.A1w p1.A0T steps130 l166)) fun (t182,q183)=>
    Option.bind (K6 q183.2 t90) fun e199=>
    Option.bind (some (List.set q183.2 t90.toNat (-1 : Int))) fun l202=>
    bif !t182 then
      some (Sum.inr (Sum.inr (false,(q183.1,l202))))
    else
      Option.bind (P5 (t140 + (1 : Int))) fun t206=>
      some (Sum.inl (q183.1,l202,t206))
def B1N (self : U3→Option (Bool×((List U1)×(List Int)))) (p1 : U3) (t90 : Int) : ((List U1)×(List Int)×Int)→Option (((List U1)×(List Int)×Int)⊕(((List U1)×(List Int))⊕(Bool×((List U1)×(List Int))))):=fun (steps130,part135,t140)=>
  bif decide (t140 < (p1.A1w.A3n.length : Int)) then
    Option.bind (A1A part135 t140) fun t152=>
    bif t152 then
      Option.bind (P5 (t140 + (1 : Int))) fun t162=>
      some (Sum.inl (steps130,part135,t162))
    else
      B9y self p1 t90 steps130 part135 t140
  else
    some (Sum.inr (Sum.inl (steps130,part135)))
def B9i (self : U3→Option (Bool×((List U1)×(List Int)))) (p1 : U3) : Option (Bool×((List U1)×(List Int))):=
  Option.bind (B1T p1.A1w.O6 p1.R6) fun t60=>
  bif decide (p1.A0T≤t60) then
    Option.bind (A9C (U3.mk p1.A1w p1.A0T p1.A2d p1.R6) (3 : Int) (0 : Int)) fun (t70,q71)=>
    some (t70,(q71.1,q71.2))
  else
    Option.bind (B1e p1.R6 (-1 : Int)) fun t90=>
    bif decide (t90 < (0 : Int)) then
      some (false,(p1.A2d,p1.R6))
    else
      Option.bind (A9C (U3.mk p1.A1w p1.A0T p1.A2d p1.R6) (1 : Int) t90) fun (t100,q101)=>
      Option.bind (
        iter (B1N self p1 t90) FUEL (q101.1,q101.2,(0 : Int))) fun o117=>match o117 with
      | .inl (steps120,part125)=>
        some (true,(steps120,part125))
      | .inr p=>
        some p
def A7v : Nat→U3→Option (Bool×((List U1)×(List Int)))
  | 0,_=>none
  | n + 1,p1=>
    Option.bind (B4t p1.A1w.O6 p1.R6) fun (t28,t29)=>
    bif t29 then
      Option.bind (A9C (U3.mk p1.A1w p1.A0T p1.A2d p1.R6) (2 : Int) t28) fun (t39,q40)=>
      some (t39,(q40.1,q40.2))
    else
      bif decide ((0 : Int)≤p1.A0T) then
        B9i (A7v n) p1
      else
        none
def B5f (p1 : A8) (bound12 : Int) : Option ((List U1)×Int):=
 Option.bind (B5z p1) fun (t17,t18)=>
 bif !decide (t18 = (0 : Int)) then
   none
 else
   Option.bind (B1H t17) fun t29=>
   Option.bind (A7v C1e (U3.mk t17 bound12 ([] : List U1) t29)) fun (t45,q46)=>
   bif !t45 then
     some (([] : List U1),(66 : Int))
   else
     some (q46.1,(0 : Int))
end Go.Dm
open Go Go.Sl
namespace Go.Dm
def A9Q (a1 : List Int) (b2 : List Int) : Int→Option (Int⊕Unit):=fun i7=>
  bif decide (i7 < (a1.length : Int)) then
    Option.bind (K6 a1 i7) fun e16=>
    Option.bind (K6 b2 i7) fun e19=>
    bif !decide (e16 = e19) then
      none
    else
      Option.bind (P5 (i7 + (1 : Int))) fun t23=>
      some (Sum.inl t23)
  else
    some (Sum.inr ())
def A1n (a1 : List Int) (b2 : List Int) : Option (Bool):=
 bif !decide ((a1.length : Int) = (b2.length : Int)) then
   none
 else
   Option.bind (
     iter (A9Q a1 b2) FUEL (0 : Int)) fun _u=>
   some true
def A8G (a1 : List G5) (b2 : List G5) : Int→Option (Int⊕Unit):=fun i7=>
  bif decide (i7 < (a1.length : Int)) then
    Option.bind (K6 a1 i7) fun e16=>
    Option.bind (K6 b2 i7) fun e19=>
    bif !(decide (e16.J4 = e19.J4) && (decide (e16.Y6 = e19.Y6) && (decide (e16.fA = e19.fA) && (decide (e16.fB = e19.fB) && (decide (e16.V7 = e19.V7) && (decide (e16.fN = e19.fN) && true)))))) then
      none
    else
      Option.bind (P5 (i7 + (1 : Int))) fun t23=>
      some (Sum.inl t23)
  else
    some (Sum.inr ())
def A8p (a1 : List G5) (b2 : List G5) : Option (Bool):=
 bif !decide ((a1.length : Int) = (b2.length : Int)) then
   none
 else
   Option.bind (
     iter (A8G a1 b2) FUEL (0 : Int)) fun _u=>
   some true
def C0l (rules2 : List G5) : Option (A8):=
  Option.bind (apL [(D5.mk (⟨#[114]⟩ : ByteArray) (1 : Int) (4 : Int) (0 : Int) ([] : List Int) (0 : Int) (0 : Int))] [(D5.mk (⟨#[119]⟩ : ByteArray) (4 : Int) (1 : Int) (0 : Int) ([] : List Int) (0 : Int) (0 : Int))]) fun t23=>
  some (A8.mk t23 [(E5.mk (⟨#[97,110,110,97]⟩ : ByteArray) (⟨#[]⟩ : ByteArray) (⟨#[]⟩ : ByteArray) (0 : Int) (0 : Int) (⟨#[]⟩ : ByteArray) false false ([] : List ByteArray)),(E5.mk (⟨#[98,111,114,105,115]⟩ : ByteArray) (⟨#[]⟩ : ByteArray) (⟨#[]⟩ : ByteArray) (0 : Int) (0 : Int) (⟨#[]⟩ : ByteArray) false false ([] : List ByteArray)),(E5.mk (⟨#[99,97,114,108]⟩ : ByteArray) (⟨#[]⟩ : ByteArray) (⟨#[]⟩ : ByteArray) (0 : Int) (0 : Int) (⟨#[]⟩ : ByteArray) false false ([] : List ByteArray))] ([] : List G6) ([] : List Int) rules2)
def C0g (rules2 : List G5) : Option (A8):=
  some (A8.mk [(D5.mk (⟨#[114]⟩ : ByteArray) (1 : Int) (4 : Int) (0 : Int) ([] : List Int) (0 : Int) (0 : Int))] [(E5.mk (⟨#[97,110,110,97]⟩ : ByteArray) (⟨#[]⟩ : ByteArray) (⟨#[]⟩ : ByteArray) (0 : Int) (0 : Int) (⟨#[]⟩ : ByteArray) false false ([] : List ByteArray)),(E5.mk (⟨#[98,111,114,105,115]⟩ : ByteArray) (⟨#[]⟩ : ByteArray) (⟨#[]⟩ : ByteArray) (0 : Int) (0 : Int) (⟨#[]⟩ : ByteArray) false false ([] : List ByteArray)),(E5.mk (⟨#[99,97,114,108]⟩ : ByteArray) (⟨#[]⟩ : ByteArray) (⟨#[]⟩ : ByteArray) (0 : Int) (0 : Int) (⟨#[]⟩ : ByteArray) false false ([] : List ByteArray))] ([] : List G6) ([] : List Int) rules2)
def A6m (second1 : Bool) (rules2 : List G5) : Option (A8):=
 bif second1 then
   C0l rules2
 else
   C0g rules2
def B0m (t14 : List D5) : ((List D5)×Int)→Option (((List D5)×Int)⊕(List D5)):=fun (tables35,t40)=>
  bif decide (t40 < (t14.length : Int)) then
    Option.bind (K6 tables35 t40) fun e49=>
    Option.bind (A3e e49.A0N) fun t54=>
    Option.bind (K6 tables35 t40) fun e65=>
    Option.bind (some (List.set tables35 t40.toNat (D5.mk e65.H7 e65.N9 e65.fA e65.fB t54 e65.fX e65.fY))) fun l74=>
    Option.bind (P5 (t40 + (1 : Int))) fun t77=>
    some (Sum.inl (l74,t77))
  else
    some (Sum.inr tables35)
def B0l (t81 : List E5) : ((List E5)×Int)→Option (((List E5)×Int)⊕(List E5)):=fun (guests102,t107)=>
  bif decide (t107 < (t81.length : Int)) then
    Option.bind (K6 guests102 t107) fun e116=>
    Option.bind (A2R e116.M4) fun t121=>
    Option.bind (K6 guests102 t107) fun e132=>
    Option.bind (some (List.set guests102 t107.toNat (E5.mk e132.H7 e132.Y0 e132.Q5 e132.Q6 e132.U5 e132.V8 e132.A0e e132.Q3 t121))) fun l141=>
    Option.bind (P5 (t107 + (1 : Int))) fun t144=>
    some (Sum.inl (l141,t144))
  else
    some (Sum.inr guests102)
def B5h (p1 : A8) : Option (A8):=
 Option.bind (A7O p1.H8) fun t14=>
 Option.bind (
   iter (B0m t14) FUEL (t14,(0 : Int))) fun tables30=>
 Option.bind (A8m p1.F3) fun t81=>
 Option.bind (
   iter (B0l t81) FUEL (t81,(0 : Int))) fun guests97=>
 Option.bind (B1D p1.J8) fun t148=>
 Option.bind (A3e p1.K5) fun t159=>
 Option.bind (A9l p1.K9) fun t170=>
 some (A8.mk tables30 guests97 t148 t159 t170)
def A6I (j1 : P8) : Option (A8):=
 Option.bind (A9o j1) fun t3=>
 bif t3 then
   none
 else
   Option.bind (B5h j1.A0J) fun t43=>
   some (A8.mk t43.H8 t43.F3 t43.J8 t43.K5 t43.K9)
def A2o (p1 : A8) (part12 : List Int) : Option (F7×Int):=
 Option.bind (B1P p1) fun (t17,t18,t19)=>
 bif !decide (t19 = (0 : Int)) then
   none
 else
   Option.bind (B0T p1 part12) fun (t30,t31)=>
   bif !decide (t31 = (0 : Int)) then
     none
   else
     Option.bind (t17) fun p40=>
     Option.bind (A6I p40) fun t42=>
     Option.bind (A3e part12) fun t70=>
     Option.bind (A1Y p1.H8) fun t81=>
     some ((F7.mk p40 (A8.mk t42.H8 t42.F3 t42.J8 t42.K5 t42.K9) t70 t81),(0 : Int))
def A6o (s1 : List G6) : Unit→Option (Unit⊕Unit):=fun _u=>
  bif decide ((0 : Int) < (s1.length : Int)) then
    none
  else
    some (Sum.inr ())
def A9R (s1 : List G6) (f2 : G6→Option Bool) : Option (Int):=
 Option.bind (
   iter (A6o s1) FUEL ()) fun _u=>
 some (-1 : Int)
def A5s (s1 : List G5) (f3 : G5→Option Bool) : Int→Option (Int⊕Unit):=fun t7=>
  bif decide (t7 < (s1.length : Int)) then
    Option.bind (K6 s1 t7) fun e16=>
    Option.bind (f3 e16) fun t19=>
    bif t19 then
      none
    else
      Option.bind (P5 (t7 + (1 : Int))) fun t33=>
      some (Sum.inl t33)
  else
    some (Sum.inr ())
def A7G (s1 : List G5) (f3 : G5→Option Bool) : Option (Int×(List G5)):=
 Option.bind (
   iter (A5s s1 f3) FUEL (0 : Int)) fun _u=>
 some ((-1 : Int),s1)
def A7n (s1 : List G5) (del3 : G5→Option Bool) : Option (List G5):=
 Option.bind (A7G s1 del3) fun (t4,l5)=>
 bif decide (t4 = (-1 : Int)) then
   some l5
 else
   none
def B1u (g1 : E5) (t4 : ByteArray) : Option (Bool):=
 some (decide (g1.H7 = t4))
def B2C (s1 : F7) (name2 : ByteArray) : Option (Int):=
 Option.bind (A1R s1.fp.F3 (fun y0=>B1u y0 name2)) fun t32=>
 some t32
def B8g (s1 : F7) : Option (Bool):=
 some (decide ((s1.fp.K9.length : Int) = (64 : Int)))
def B1W (t1 : G6) (t2 : ByteArray) (t3 : ByteArray) : Option (Bool):=
  none
def C1q (s1 : F7) (a2 : ByteArray) (b3 : ByteArray) : Option (Int):=
 Option.bind (A9R s1.fp.J8 (fun y0=>B1W y0 a2 b3)) fun t37=>
 some t37
def B3Y (s1 : F7) (c2 : M7) : Option (Int):=
  Option.bind (A5D c2.L9) fun t27=>
  bif !decide (t27 = (0 : Int)) then
    none
  else
    Option.bind (B2C s1 c2.L9.H7) fun t36=>
    bif decide ((0 : Int)≤t36) then
      none
    else
      bif decide ((s1.fp.F3.length : Int) = (64 : Int)) then
        none
      else
        bif decide ((s1.fp.F3.length : Int) = s1.V5) then
          none
        else
          bif decide (c2.fN < (0 : Int)) then
            none
          else
            bif decide ((0 : Int) < c2.fN) then
              none
            else
              some (0 : Int)
def A9G (s1 : F7) (c2 : M7) : Option (Int):=
 bif decide ((s1.fp.K5.length : Int) = (0 : Int)) then
   B3Y s1 c2
 else
   none
def A7g (s1 : F7) (c2 : M7) : Option (Int):=
  none
def A6w (s1 : F7) (c2 : M7) : Option (Int):=
 Option.bind (B2C s1 c2.fA) fun t9=>
 bif decide (t9 < (0 : Int)) then
   none
 else
   Option.bind (B2C s1 c2.fB) fun t18=>
   bif decide (t18 < (0 : Int)) then
     none
   else
     bif decide (c2.fA = c2.fB) then
       none
     else
       Option.bind (B8g s1) fun t28=>
       bif t28 then
         none
       else
         bif decide ((s1.fp.J8.length : Int) = (256 : Int)) then
           none
         else
           some (0 : Int)
def A8M (s1 : F7) (c2 : M7) : Option (Int):=
  none
def A7u (s1 : F7) (c2 : M7) : Option (Int):=
  none
def B5J (n : Nat) (s1 : F7) (c2 : M7) : Option (Int):=
  if n = 65 then A9G s1 c2 else
  if n = 69 then A7g s1 c2 else
  if n = 73 then A6w s1 c2 else
  if n = 77 then A8M s1 c2 else
  if n = 82 then A7u s1 c2 else
  none
def A5R (x1 : G6) (y2 : G6) : Option (Int):=
  none
def B5y (b4 : Int) (t6 : Int) : Unit→Option (Unit⊕Unit):=fun _u=>
  bif decide (t6 < b4) then
    none
  else
    some (Sum.inr ())
def C1m (data1 : List G6) (a3 : Int) (b4 : Int) (cmp5 : G6→G6→Option Int) : Option (List G6):=
 Option.bind (P5 (a3 + (1 : Int))) fun t6=>
 Option.bind (
   iter (B5y b4 t6) FUEL ()) fun _u=>
 some data1
def B5e (data1 : List G6) (a3 : Int) (b4 : Int) (cmp6 : G6→G6→Option Int) : Unit→Option (Unit⊕(List G6)):=fun _u=>
  Option.bind (P5 (b4 - a3)) fun t17=>
  bif decide (t17≤(12 : Int)) then
    Option.bind (C1m data1 a3 b4 cmp6) fun l19=>
    some (Sum.inr l19)
  else
    none
def C1h : Nat→(List G6)→Int→Int→Int→(G6→G6→Option Int)→Option (List G6)
  | 0,_,_,_,_,_=>none
  | n + 1,data1,a3,b4,limit5,cmp6=>
    Option.bind (
      iter (B5e data1 a3 b4 cmp6) FUEL ()) fun p=>some p
def B1x (x1 : List G6) (cmp3 : G6→G6→Option Int) : Option (List G6):=
 Option.bind (A3q .u64 (x1.length : Int)) fun t4=>
 Option.bind (bits_Len t4) fun t5=>
 Option.bind (C1h C1e x1 (0 : Int) (x1.length : Int) t5 cmp3) fun l13=>
 some l13
def B7Z (s1 : F7) (c2 : M7) : Option (F7):=
 Option.bind (A2R c2.L9.M4) fun t16=>
 bif decide ((0 : Int) < (s1.fp.K5.length : Int)) then
   none
 else
   Option.bind (apL s1.fp.F3 [(E5.mk c2.L9.H7 c2.L9.Y0 c2.L9.Q5 c2.L9.Q6 c2.L9.U5 c2.L9.V8 c2.L9.A0e c2.L9.Q3 t16)]) fun t37=>
   Option.bind (apL s1.R6 [(-1 : Int)]) fun t48=>
   some (F7.mk s1.O6 (A8.mk s1.fp.H8 t37 s1.fp.J8 s1.fp.K5 s1.fp.K9) t48 s1.V5)
def B4P (s1 : F7) (c2 : M7) : Option (F7):=
  none
def B5Y (s1 : F7) (c2 : M7) : Option (F7):=
  Option.bind (apL s1.fp.J8 [(G6.mk (minS c2.fA c2.fB) (maxS c2.fA c2.fB) (0 : Int))]) fun t54=>
  Option.bind (K6 t54 (s1.fp.J8.length : Int)) fun e62=>
  Option.bind (some (List.set t54 (s1.fp.J8.length : Int).toNat (G6.mk e62.fA e62.fB (2 : Int)))) fun l65=>
  Option.bind (B1x l65 A5R) fun l79=>
  Option.bind (apL s1.fp.K9 [(G5.mk (1 : Int) (0 : Int) c2.fA c2.fB (⟨#[]⟩ : ByteArray) (2 : Int))]) fun t93=>
  some (F7.mk s1.O6 (A8.mk s1.fp.H8 s1.fp.F3 l79 s1.fp.K5 t93) s1.R6 s1.V5)
def B3w (s1 : F7) (c2 : M7) : Option (F7):=
 Option.bind (C1q (F7.mk s1.O6 (A8.mk s1.fp.H8 s1.fp.F3 s1.fp.J8 s1.fp.K5 s1.fp.K9) s1.R6 s1.V5) c2.fA c2.fB) fun t36=>
 bif decide (t36 < (0 : Int)) then
   B5Y s1 c2
 else
   none
def B5U (n : Nat) (s1 : F7) (c2 : M7) : Option (F7):=
  if n = 66 then B7Z s1 c2 else
  if n = 70 then B4P s1 c2 else
  if n = 74 then B3w s1 c2 else
  none
def A9c (k1 : Int) : Option (A8H×Bool):=
 bif decide (k1 = (0 : Int)) then
   none
 else
   Option.bind (A3q .i64 k1) fun t9=>
   bif decide ((6 : Int)≤t9) then
     none
   else
     bif decide (k1 = (1 : Int)) then
       some ((A8H.mk (⟨#[108,97,116,101]⟩ : ByteArray) (65 : Nat) (66 : Nat) (67 : Nat) (68 : Nat)),true)
     else
     bif decide (k1 = (3 : Int)) then
       some ((A8H.mk (⟨#[113,117,97,114,114,101,108]⟩ : ByteArray) (73 : Nat) (74 : Nat) (75 : Nat) (76 : Nat)),true)
     else
     none
def B6Z (s1 : F7) (c2 : M7) : Option (Int):=
 Option.bind (A9c c2.J4) fun (t9,t10)=>
 bif !t10 then
   none
 else
   Option.bind (B5J t9.B8o s1 c2) fun t24=>
   some t24
def B7u (c13 : M7) (t25 : F7) : Option (A8×(List Int)×Int):=
  Option.bind (B6Z (F7.mk t25.O6 (A8.mk t25.fp.H8 t25.fp.F3 t25.fp.J8 t25.fp.K5 t25.fp.K9) t25.R6 t25.V5) c13) fun t83=>
  bif !decide (t83 = (0 : Int)) then
    none
  else
    Option.bind (A9c c13.J4) fun (t98,t99)=>
    Option.bind (B5U t98.B8z (F7.mk t25.O6 (A8.mk t25.fp.H8 t25.fp.F3 t25.fp.J8 t25.fp.K5 t25.fp.K9) t25.R6 t25.V5) c13) fun q112=>
    some ((A8.mk q112.fp.H8 q112.fp.F3 q112.fp.J8 q112.fp.K5 q112.fp.K9),q112.R6,(0 : Int))
def A9m (p1 : A8) (part12 : List Int) (c13 : M7) : Option (A8×(List Int)×Int):=
 Option.bind (A2o p1 part12) fun (t25,t26)=>
 bif !decide (t26 = (0 : Int)) then
   none
 else
   B7u c13 t25
end Go.Dm
open Go Go.Sl
namespace Go.Dm
def A9F (l1 : List Int) : (Int×Int)→Option ((Int×Int)⊕Int):=fun (n6,t7)=>
  bif decide (t7 < (l1.length : Int)) then
    Option.bind (K6 l1 t7) fun e16=>
    Option.bind (P5 (n6 * e16)) fun t19=>
    Option.bind (P5 (t7 + (1 : Int))) fun t20=>
    some (Sum.inl ((min t19 (20001 : Int)),t20))
  else
    some (Sum.inr n6)
def A9v (l1 : List Int) : Option (Int):=
 Option.bind (
   iter (A9F l1) FUEL ((1 : Int),(0 : Int))) fun n5=>
 some n5
def B2c (free1 : Int) (guests2 : Int) : ((List Int)×Int)→Option (((List Int)×Int)⊕(List Int)):=fun (l13,t18)=>
  bif decide (t18 < guests2) then
    Option.bind (P5 (free1 - t18)) fun t27=>
    Option.bind (apL l13 [t27]) fun t31=>
    Option.bind (P5 (t18 + (1 : Int))) fun t37=>
    some (Sum.inl (t31,t37))
  else
    some (Sum.inr l13)
def B6A (free1 : Int) (guests2 : Int) : Option (Int):=
 Option.bind (
   iter (B2c free1 guests2) FUEL (([] : List Int),(0 : Int))) fun l6=>
 Option.bind (A9v l6) fun t45=>
 some t45
def B0X (m1 : Int) (k2 : Int) : (Int×Int)→Option ((Int×Int)⊕Int):=fun (n7,t8)=>
  bif decide (t8 < k2) then
    Option.bind (P5 (m1 - t8)) fun t17=>
    Option.bind (P5 (n7 * t17)) fun t18=>
    Option.bind (P5 (t8 + (1 : Int))) fun t19=>
    Option.bind (C3l t18 t19) fun t20=>
    bif decide ((20000 : Int) < t20) then
      none
    else
      Option.bind (P5 (t8 + (1 : Int))) fun t22=>
      some (Sum.inl (t20,t22))
  else
    some (Sum.inr n7)
def B6Y (m1 : Int) (k2 : Int) : Option (Int):=
 Option.bind (
   iter (B0X m1 k2) FUEL ((1 : Int),(0 : Int))) fun n6=>
 some n6
def B0R (s1 : F7) : (Int×Int)→Option ((Int×Int)⊕Int):=fun (t24,m25)=>
  bif decide (t24 < (s1.R6.length : Int)) then
    Option.bind (K6 s1.R6 t24) fun e34=>
    bif decide ((0 : Int)≤e34) then
      Option.bind (P5 (m25 + (1 : Int))) fun t38=>
      Option.bind (P5 (t24 + (1 : Int))) fun t39=>
      some (Sum.inl (t39,t38))
    else
      Option.bind (P5 (t24 + (1 : Int))) fun t40=>
      some (Sum.inl (t40,m25))
  else
    some (Sum.inr m25)
def B7V (s1 : F7) (m23 : Int) (sum48 : Int) (k49 : Int) (t60 : Bool) : Option ((Int×Int)⊕Int):=
  bif t60 then
    Option.bind (P5 (m23 - k49)) fun t66=>
    Option.bind (P5 (s1.V5 - m23)) fun t67=>
    Option.bind (P5 (t67 + k49)) fun t68=>
    Option.bind (P5 ((s1.R6.length : Int) - m23)) fun t69=>
    Option.bind (P5 (t69 + k49)) fun t70=>
    Option.bind (B6Y m23 (min k49 t66)) fun t71=>
    Option.bind (B6A t68 t70) fun t79=>
    Option.bind (A9v [t71,t79]) fun t94=>
    Option.bind (P5 (sum48 + t94)) fun t102=>
    Option.bind (P5 (k49 + (1 : Int))) fun t103=>
    some (Sum.inl (t102,t103))
  else
    some (Sum.inr sum48)
def B1A (s1 : F7) (most2 : Int) (m23 : Int) : (Int×Int)→Option ((Int×Int)⊕Int):=fun (sum48,k49)=>
  Option.bind (
    bif decide (k49≤(min (max most2 (0 : Int)) m23)) then
      some (decide (sum48≤(20000 : Int)))
    else
      some false) fun t60=>
  B7V s1 m23 sum48 k49 t60
def B1I (s1 : F7) (most2 : Int) : Option (Int):=
 Option.bind (
   iter (B0R s1) FUEL ((0 : Int),(0 : Int))) fun m23=>
 Option.bind (
   iter (B1A s1 most2 m23) FUEL ((0 : Int),(0 : Int))) fun sum47=>
 some (min sum47 (20001 : Int))
def A9k (p1 : A8) (part12 : List Int) (most13 : Int) : Option (Int):=
 Option.bind (A2o p1 part12) fun (t18,t19)=>
 bif !decide (t19 = (0 : Int)) then
   none
 else
   Option.bind (B1I (F7.mk t18.O6 (A8.mk t18.fp.H8 t18.fp.F3 t18.fp.J8 t18.fp.K5 t18.fp.K9) t18.R6 t18.V5) most13) fun t76=>
   some t76
def B0h (c114 : List Int) (c119 : Bool) (plan120 : List Int) (cost125 : Int) (t126 : Int) : Int→Option (Int⊕(Unit⊕((List Int)×Bool×(List Int)×Int))):=fun t185=>
  bif decide (t185 < (c114.length : Int)) then
    Option.bind (K6 c114 t185) fun e194=>
    bif decide (e194 = t126) then
      some (Sum.inr (Sum.inr (c114,c119,plan120,cost125)))
    else
      Option.bind (P5 (t185 + (1 : Int))) fun t198=>
      some (Sum.inl t198)
  else
    some (Sum.inr (Sum.inl ()))
def B7A (self : Int→Int→F7→(List Int)→Bool→X7→Int→Option ((List Int)×Bool×X7)) (g1 : Int) (left2 : Int) (t3 : F7) (t11 : Int) (c114 : List Int) (c119 : Bool) (plan120 : List Int) (cost125 : Int) (t126 : Int) (moved153 : Bool) : Option ((List Int)×Bool×(List Int)×Int):=
  Option.bind (K6 c114 g1) fun e202=>
  Option.bind (some (List.set c114 g1.toNat t126)) fun l205=>
  bif moved153 then
    Option.bind (P5 (g1 + (1 : Int))) fun t209=>
    Option.bind (P5 (left2 - (1 : Int))) fun t210=>
    Option.bind (self t209 t210 t3 l205 c119 (X7.mk plan120 cost125) t11) fun (q211,q212,q213)=>
    Option.bind (K6 q211 g1) fun e229=>
    Option.bind (some (List.set q211 g1.toNat (-1 : Int))) fun l232=>
    some (l232,q212,q213.A1H,q213.A0B)
  else
    Option.bind (P5 (g1 + (1 : Int))) fun t235=>
    Option.bind (self t235 left2 t3 l205 c119 (X7.mk plan120 cost125) t11) fun (q236,q237,q238)=>
    Option.bind (K6 q236 g1) fun e254=>
    Option.bind (some (List.set q236 g1.toNat (-1 : Int))) fun l257=>
    some (l257,q237,q238.A1H,q238.A0B)
def B7y (self : Int→Int→F7→(List Int)→Bool→X7→Int→Option ((List Int)×Bool×X7)) (g1 : Int) (left2 : Int) (t3 : F7) (t11 : Int) (c114 : List Int) (c119 : Bool) (plan120 : List Int) (cost125 : Int) (t126 : Int) (moved153 : Bool) : Option ((List Int)×Bool×(List Int)×Int):=
  Option.bind (
    bif moved153 then
      bif decide (left2 = (0 : Int)) then
        some true
      else
        bif decide (g1 = t11) then
          Option.bind (K6 t3.R6 g1) fun e171=>
          some (decide (e171 = t126))
        else
          some false
    else
      bif decide (g1 = t11) then
        Option.bind (K6 t3.R6 g1) fun e175=>
        some (decide (e175 = t126))
      else
        some false) fun t167=>
  bif t167 then
    some (c114,c119,plan120,cost125)
  else
    Option.bind (
      iter (B0h c114 c119 plan120 cost125 t126) FUEL (0 : Int)) fun o182=>match o182 with
    | .inl _u=>
      B7A self g1 left2 t3 t11 c114 c119 plan120 cost125 t126 moved153
    | .inr p=>
      some p
def B0e (self : Int→Int→F7→(List Int)→Bool→X7→Int→Option ((List Int)×Bool×X7)) (g1 : Int) (left2 : Int) (t3 : F7) (t11 : Int) : ((List Int)×Bool×(List Int)×Int×Int)→Option (((List Int)×Bool×(List Int)×Int×Int)⊕((List Int)×Bool×(List Int)×Int)):=fun (c114,c119,plan120,cost125,t126)=>
  bif decide (t126 < t3.V5) then
    Option.bind (
      Option.bind (
        Option.bind (K6 t3.R6 g1) fun e154=>
        bif decide ((0 : Int)≤e154) then
          Option.bind (K6 t3.R6 g1) fun e158=>
          some (!decide (e158 = t126))
        else
          some false) fun moved153=>
      B7y self g1 left2 t3 t11 c114 c119 plan120 cost125 t126 moved153) fun (c138,c143,plan144,cost149)=>
    Option.bind (P5 (t126 + (1 : Int))) fun t263=>
    some (Sum.inl (c138,c143,plan144,cost149,t263))
  else
    some (Sum.inr (c114,c119,plan120,cost125))
def B7t (self : Int→Int→F7→(List Int)→Bool→X7→Int→Option ((List Int)×Bool×X7)) (g1 : Int) (left2 : Int) (t3 : F7) (t6 : List Int) (t8 : Bool) (t9 : X7) (t11 : Int) : Option ((List Int)×Bool×X7):=
  bif decide (g1 = (t6.length : Int)) then
    Option.bind (B9o t3.O6 t6) fun t48=>
    Option.bind (
      bif decide (left2 = (0 : Int)) then
        bif !t8 then
          some true
        else
          some (decide (t48 < t9.A0B))
      else
        none) fun t60=>
    Option.bind (
      bif t60 then
        Option.bind (A3e t6) fun t80=>
        some (true,t80,t48)
      else
        some (t8,t9.A1H,t9.A0B)) fun (c69,plan70,cost75)=>
    some (t6,c69,(X7.mk plan70 cost75))
  else
    Option.bind (
      iter (B0e self g1 left2 t3 t11) FUEL (t6,t8,t9.A1H,t9.A0B,(0 : Int))) fun (c102,c107,plan108,cost113)=>
    some (c102,c107,(X7.mk plan108 cost113))
def A6d : Nat→Int→Int→F7→(List Int)→Bool→X7→Int→Option ((List Int)×Bool×X7)
  | 0,_,_,_,_,_,_,_=>none
  | n + 1,g1,left2,t3,t6,t8,t9,t11=>
    Option.bind (B4t t3.O6 t6) fun (t33,t34)=>
    bif t34 then
      some (t6,t8,(X7.mk t9.A1H t9.A0B))
    else
      B7t (A6d n) g1 left2 t3 t6 t8 t9 t11
def B8Y (s1 : F7) (moves2 : Int) (oust3 : Int) : Option (X7×Bool):=
 Option.bind (A8v [(-1 : Int)] (s1.R6.length : Int)) fun t37=>
 Option.bind (A6d C1e (0 : Int) moves2 s1 t37 false (X7.mk ([] : List Int) (0 : Int)) oust3) fun (q60,q61,q62)=>
 some ((X7.mk q62.A1H q62.A0B),q61)
def B1b (s1 : F7) (most2 : Int) (oust3 : Int) : Int→Option (Int⊕(Unit⊕(U6×Int))):=fun n17=>
  bif decide (n17≤(min most2 (s1.R6.length : Int))) then
    Option.bind (B8Y s1 n17 oust3) fun (t43,t44)=>
    bif t44 then
      Option.bind (A8k s1.O6) fun t60=>
      some (Sum.inr (Sum.inr ((U6.mk t60 t43.A1H n17 t43.A0B),(0 : Int))))
    else
      Option.bind (P5 (n17 + (1 : Int))) fun t78=>
      some (Sum.inl t78)
  else
    some (Sum.inr (Sum.inl ()))
def B1v (s1 : F7) (most2 : Int) (oust3 : Int) : Option (U6×Int):=
 Option.bind (B1I s1 most2) fun t5=>
 bif decide ((20000 : Int) < t5) then
   none
 else
   Option.bind (
     iter (B1b s1 most2 oust3) FUEL (0 : Int)) fun o14=>match o14 with
   | .inl _u=>
     some ((U6.mk (A8.mk ([] : List D5) ([] : List E5) ([] : List G6) ([] : List Int) ([] : List G5)) ([] : List Int) (0 : Int) (0 : Int)),(9 : Int))
   | .inr p=>
     some p
def A6Y (p1 : A8) (part12 : List Int) (most13 : Int) : Option (U6×Int):=
 Option.bind (A2o p1 part12) fun (t19,t20)=>
 bif !decide (t20 = (0 : Int)) then
   none
 else
   Option.bind (B1v (F7.mk t19.O6 (A8.mk t19.fp.H8 t19.fp.F3 t19.fp.J8 t19.fp.K5 t19.fp.K9) t19.R6 t19.V5) (max most13 (0 : Int)) (-1 : Int)) fun (t83,t84)=>
   some (t83,t84)
def B6C (p1 : A8) (part12 : List Int) (g13 : Int) (most14 : Int) : Option (U6×Int):=
 Option.bind (A2o p1 part12) fun (t20,t21)=>
 bif !decide (t21 = (0 : Int)) then
   none
 else
   bif decide (g13 < (0 : Int)) then
     none
   else
     bif decide ((part12.length : Int)≤g13) then
       none
     else
       Option.bind (K6 part12 g13) fun e59=>
       bif decide (e59 < (0 : Int)) then
         none
       else
         Option.bind (B1v (F7.mk t20.O6 (A8.mk t20.fp.H8 t20.fp.F3 t20.fp.J8 t20.fp.K5 t20.fp.K9) t20.R6 t20.V5) (max most14 (0 : Int)) g13) fun (t90,t91)=>
         some (t90,t91)
def A8c (r1 : G5) : Option (Bool):=
 some (decide ((0 : Int) < r1.Y6))
def B0K (p1 : A8) (part12 : List Int) : ((List G5)×Int)→Option (((List G5)×Int)⊕(List G5)):=fun (rules123,t128)=>
  bif decide (t128 < (part12.length : Int)) then
    Option.bind (K6 part12 t128) fun e137=>
    bif decide ((0 : Int)≤e137) then
      Option.bind (A4E p1.H8 e137) fun (t141,t142,t143)=>
      Option.bind (K6 p1.F3 t128) fun e151=>
      Option.bind (K6 p1.H8 t141) fun e156=>
      Option.bind (apL rules123 [(G5.mk (7 : Int) (1 : Int) e151.H7 (⟨#[]⟩ : ByteArray) e156.H7 t142)]) fun t164=>
      Option.bind (P5 (t128 + (1 : Int))) fun t172=>
      some (Sum.inl (t164,t172))
    else
      none
  else
    some (Sum.inr rules123)
def B1n (p1 : A8) (part12 : List Int) : Option (A8×Int):=
 Option.bind (A2o p1 part12) fun (t18,t19)=>
 bif !decide (t19 = (0 : Int)) then
   none
 else
   Option.bind (A6I t18.O6) fun t55=>
   Option.bind (A7n t55.K9 A8c) fun t102=>
   Option.bind (
     iter (B0K p1 part12) FUEL (t102,(0 : Int))) fun rules118=>
   bif decide ((64 : Int) < (rules118.length : Int)) then
     none
   else
     some ((A8.mk t55.H8 t55.F3 t55.J8 t55.K5 rules118),(0 : Int))
def A9B (p1 : A8) (part12 : List Int) (moved13 : Int) : Option ((List U1)×Int):=
 Option.bind (B1n p1 part12) fun (t18,t19)=>
 bif !decide (t19 = (0 : Int)) then
   none
 else
   Option.bind (B5f t18 moved13) fun (t43,t44)=>
   some (t43,t44)
def B0x (s1 : F7) : (Int×(List Int))→Option ((Int×(List Int))⊕(List Int)):=fun (t29,out30)=>
  bif decide (t29 < (s1.fp.K9.length : Int)) then
    Option.bind (K6 s1.fp.K9 t29) fun e43=>
    bif decide (e43.Y6 = (0 : Int)) then
      Option.bind (B1F s1.O6 s1.R6 t29) fun t52=>
      bif decide ((0 : Int) < t52) then
        Option.bind (apL out30 [t29]) fun t64=>
        Option.bind (P5 (t29 + (1 : Int))) fun t70=>
        some (Sum.inl (t70,t64))
      else
        none
    else
      none
  else
    some (Sum.inr out30)
def B2d (s1 : F7) : Option (List Int):=
 Option.bind (
   iter (B0x s1) FUEL ((0 : Int),([] : List Int))) fun out22=>
 some out22
def B5m (p1 : A8) (part12 : List Int) : Option (List Int):=
 Option.bind (A2o p1 part12) fun (t17,t18)=>
 bif !decide (t18 = (0 : Int)) then
   none
 else
   Option.bind (B2d (F7.mk t17.O6 (A8.mk t17.fp.H8 t17.fp.F3 t17.fp.J8 t17.fp.K5 t17.fp.K9) t17.R6 t17.V5)) fun t75=>
   some t75
def A7J (u1 : Int) (who2 : List Int) (t3 : List Int) : Option (List Int):=
 Option.bind (apL t3 who2) fun t5=>
 some t5
def B7T (i3 : Int) (t4 : J6) : Option (List Int):=
  bif decide ((t4.O6.A0J.K9.length : Int)≤i3) then
    none
  else
    Option.bind (K6 t4.O6.A0J.K9 i3) fun e56=>
    Option.bind (lkM t4.O6.C4d e56.J4 (I5.mk (⟨#[]⟩ : ByteArray) (0 : Int) false (0 : Int) false (0 : Int) false (0 : Nat))) fun (e59,ok60)=>
    Option.bind (K6 t4.O6.A0J.K9 i3) fun e63=>
    Option.bind (B2t e59.C3D t4 e63 (fun s_ y0 y1=>A7J y0 y1 s_) ([] : List Int)) fun s79=>
    Option.bind (B4f s79) fun l98=>
    Option.bind (A8i l98) fun t109=>
    some t109
def B6w (j1 : P8) (part2 : List Int) (i3 : Int) : Option (List Int):=
 Option.bind (A6O j1 part2) fun t4=>
 bif decide (i3 < (0 : Int)) then
   none
 else
   B7T i3 t4
def A4F (g1 : Int) (t2 : List Int) : Option (Bool):=
 Option.bind (A1A t2 g1) fun t5=>
 some t5
def B4I (t17 : F7) (c99 : List Int) (t104 : Int) (n105 : Int) (e114 : Int) (e117 : G5) : Option (((List Int)×Int×Int)⊕Int):=
  bif decide (e117.J4 = (11 : Int)) then
    none
  else
    bif decide (e117.J4 = (15 : Int)) then
      none
    else
      Option.bind (B6w t17.O6 t17.R6 e114) fun t126=>
      Option.bind (A2q t126 (fun y0=>A4F y0 c99)) fun t147=>
      bif !t147 then
        Option.bind (apL c99 t126) fun t164=>
        Option.bind (P5 (n105 + (1 : Int))) fun t173=>
        Option.bind (P5 (t104 + (1 : Int))) fun t174=>
        some (Sum.inl (t164,t174,t173))
      else
        none
def A7o (t17 : F7) (t76 : List Int) : ((List Int)×Int×Int)→Option (((List Int)×Int×Int)⊕Int):=fun (c99,t104,n105)=>
  bif decide (t104 < (t76.length : Int)) then
    Option.bind (K6 t76 t104) fun e114=>
    Option.bind (K6 t17.fp.K9 e114) fun e117=>
    bif decide (e117.J4 = (9 : Int)) then
      none
    else
      B4I t17 c99 t104 n105 e114 e117
  else
    some (Sum.inr n105)
def B2b (p1 : A8) (part12 : List Int) : Option (Int):=
 Option.bind (A2o p1 part12) fun (t17,t18)=>
 bif !decide (t18 = (0 : Int)) then
   none
 else
   Option.bind (B2d (F7.mk t17.O6 (A8.mk t17.fp.H8 t17.fp.F3 t17.fp.J8 t17.fp.K5 t17.fp.K9) t17.R6 t17.V5)) fun t76=>
   Option.bind (
     iter (A7o t17 t76) FUEL (([] : List Int),(0 : Int),(0 : Int))) fun n96=>
   some n96
def B8U : Option (Bool):=
  Option.bind (A6m false [(G5.mk (7 : Int) (0 : Int) (⟨#[99,97,114,108]⟩ : ByteArray) (⟨#[]⟩ : ByteArray) (⟨#[114]⟩ : ByteArray) (0 : Int))]) fun t359=>
  Option.bind (A6Y t359 [(0 : Int),(1 : Int),(2 : Int)] (1 : Int)) fun (t382,t383)=>
  Option.bind (A6Y t359 [(0 : Int),(1 : Int),(2 : Int)] (2 : Int)) fun (t403,t404)=>
  Option.bind (A6m false ([] : List G5)) fun t429=>
  Option.bind (B6C t429 [(0 : Int),(1 : Int),(2 : Int)] (1 : Int) (1 : Int)) fun (t447,t448)=>
  bif decide (t383 = (9 : Int)) then
    Option.bind (P5 (t404 + t448)) fun t474=>
    bif decide (t474 = (0 : Int)) then
      bif decide (t403.A1X = (2 : Int)) then
        Option.bind (A1n t403.A1H [(2 : Int),(1 : Int),(0 : Int)]) fun t484=>
        bif t484 then
          Option.bind (A1n t447.A1H [(0 : Int),(3 : Int),(2 : Int)]) fun t500=>
          some t500
        else
          none
      else
        none
    else
      none
  else
    none
def B8B : Option (Bool):=
  Option.bind (A6m false ([] : List G5)) fun t238=>
  Option.bind (A9m t238 [(0 : Int),(1 : Int),(2 : Int)] (M7.mk (1 : Int) (E5.mk (⟨#[100,111,114,97]⟩ : ByteArray) (⟨#[]⟩ : ByteArray) (⟨#[]⟩ : ByteArray) (0 : Int) (0 : Int) (⟨#[]⟩ : ByteArray) false false ([] : List ByteArray)) (⟨#[]⟩ : ByteArray) (⟨#[]⟩ : ByteArray) (⟨#[]⟩ : ByteArray) (0 : Int) (G5.mk (0 : Int) (0 : Int) (⟨#[]⟩ : ByteArray) (⟨#[]⟩ : ByteArray) (⟨#[]⟩ : ByteArray) (0 : Int)))) fun (t256,t257,t258)=>
  Option.bind (A6Y t256 t257 (0 : Int)) fun (t289,t290)=>
  Option.bind (P5 (t258 + t290)) fun t315=>
  bif !decide (t315 = (0 : Int)) then
    none
  else
    Option.bind (A1n t289.A1H [(0 : Int),(1 : Int),(2 : Int),(3 : Int)]) fun t324=>
    bif !t324 then
      none
    else
      bif !decide (t289.A1X = (0 : Int)) then
        none
      else
        Option.bind (A9k t256 t257 (0 : Int)) fun t334=>
        bif !decide (t334 = (1 : Int)) then
          none
        else
          Option.bind (A9k t256 t257 (1 : Int)) fun t343=>
          bif !decide (t343 = (7 : Int)) then
            none
          else
            B8U
def B8i (t26 : A8) (t27 : List Int) (t86 : U6) (t163 : Int) : Option (Bool):=
  bif !decide (t163 = (66 : Int)) then
    none
  else
    bif !decide (t86.A1X = (1 : Int)) then
      none
    else
      Option.bind (A1n t86.A1H [(0 : Int),(4 : Int),(2 : Int)]) fun t189=>
      bif !t189 then
        none
      else
        Option.bind (B2b t26 t27) fun t198=>
        bif !decide (t198 = (1 : Int)) then
          none
        else
          Option.bind (B5m t26 t27) fun t207=>
          Option.bind (A1n t207 [(0 : Int)]) fun t229=>
          bif !t229 then
            none
          else
            B8B
def B8l (t26 : A8) (t27 : List Int) : Option (Bool):=
  Option.bind (A6Y t26 t27 (1 : Int)) fun (t86,t87)=>
  Option.bind (A9B t26 t27 (1 : Int)) fun (t112,t113)=>
  Option.bind (B1n t26 t27) fun (t125,t126)=>
  Option.bind (B3s t125 (1 : Int) t112) fun (t153,t154)=>
  Option.bind (A9B t26 t27 (2 : Int)) fun (t162,t163)=>
  Option.bind (P5 (t87 + t113)) fun t175=>
  Option.bind (P5 (t175 + t126)) fun t176=>
  Option.bind (P5 (t176 + t154)) fun t177=>
  bif !decide (t177 = (0 : Int)) then
    none
  else
    bif !decide (t153 = (0 : Int)) then
      none
    else
      B8i t26 t27 t86 t163
def A3V  : Option (Bool):=
 Option.bind (A6m true ([] : List G5)) fun t4=>
 Option.bind (A9m t4 [(0 : Int),(1 : Int),(2 : Int)] (M7.mk (3 : Int) (E5.mk (⟨#[]⟩ : ByteArray) (⟨#[]⟩ : ByteArray) (⟨#[]⟩ : ByteArray) (0 : Int) (0 : Int) (⟨#[]⟩ : ByteArray) false false ([] : List ByteArray)) (⟨#[97,110,110,97]⟩ : ByteArray) (⟨#[98,111,114,105,115]⟩ : ByteArray) (⟨#[]⟩ : ByteArray) (0 : Int) (G5.mk (0 : Int) (0 : Int) (⟨#[]⟩ : ByteArray) (⟨#[]⟩ : ByteArray) (⟨#[]⟩ : ByteArray) (0 : Int)))) fun (t26,t27,t28)=>
 bif !decide (t28 = (0 : Int)) then
   none
 else
   Option.bind (A1n t27 [(0 : Int),(1 : Int),(2 : Int)]) fun t60=>
   bif !t60 then
     none
   else
     Option.bind (A8p t26.K9 [(G5.mk (1 : Int) (0 : Int) (⟨#[97,110,110,97]⟩ : ByteArray) (⟨#[98,111,114,105,115]⟩ : ByteArray) (⟨#[]⟩ : ByteArray) (2 : Int))]) fun t76=>
     bif !t76 then
       none
     else
       bif !decide ((t26.J8.length : Int) = (1 : Int)) then
         none
       else
         B8l t26 t27
end Go.Dm
open Go Go.Sl
namespace Go.Dm
def A7I (s1 : ByteArray) : Int→Option (Int⊕(Unit⊕Bool)):=fun i14=>
  bif decide (i14 < (s1.size : Int)) then
    Option.bind (B4C s1 i14) fun ch23=>
    bif decide (ch23 < (97 : Int)) then
      some (Sum.inr (Sum.inr false))
    else
      Option.bind (B4C s1 i14) fun ch25=>
      bif decide ((122 : Int) < ch25) then
        some (Sum.inr (Sum.inr false))
      else
        Option.bind (P5 (i14 + (1 : Int))) fun t27=>
        some (Sum.inl t27)
  else
    some (Sum.inr (Sum.inl ()))
def A6R (s1 : ByteArray) : Option (Bool):=
 Option.bind (
   bif decide ((s1.size : Int) = (0 : Int)) then
     some true
   else
     some (decide ((12 : Int) < (s1.size : Int)))) fun t5=>
 bif t5 then
   some false
 else
   Option.bind (
     iter (A7I s1) FUEL (0 : Int)) fun o11=>match o11 with
   | .inl _u=>
     some true
   | .inr p=>
     some p
def A0j (n1 : Int) (low2 : Int) (high3 : Int) : Option (Bool):=
 bif decide (low2≤n1) then
   some (decide (n1≤high3))
 else
   some false
def B3R (t1 : D5) : Option (Int):=
  bif decide (t1.N9 = (3 : Int)) then
    Option.bind (A0j t1.fA (1 : Int) (8 : Int)) fun t41=>
    bif t41 then
      Option.bind (A0j t1.fB (1 : Int) (8 : Int)) fun t50=>
      bif t50 then
        Option.bind (P5 ((2 : Int) * t1.fB)) fun t59=>
        Option.bind (P5 (t1.fA + t59)) fun t60=>
        some t60
      else
        some (0 : Int)
    else
      some (0 : Int)
  else
    bif decide (t1.N9 = (4 : Int)) then
      Option.bind (A0j t1.fA (1 : Int) (24 : Int)) fun t62=>
      bif t62 then
        Option.bind (A0j t1.fB (0 : Int) t1.fA) fun t71=>
        bif t71 then
          some t1.fA
        else
          some (0 : Int)
      else
        some (0 : Int)
    else
      some (0 : Int)
def A3R (t1 : D5) : Option (Int):=
 bif decide (t1.N9 = (1 : Int)) then
   Option.bind (A0j t1.fA (1 : Int) (24 : Int)) fun t9=>
   bif t9 then
     bif decide (t1.fB = (0 : Int)) then
       some t1.fA
     else
       some (0 : Int)
   else
     some (0 : Int)
 else
   bif decide (t1.N9 = (2 : Int)) then
     Option.bind (A0j t1.fA (1 : Int) (11 : Int)) fun t20=>
     bif t20 then
       Option.bind (A0j t1.fB (0 : Int) (2 : Int)) fun t29=>
       bif t29 then
         Option.bind (P5 ((2 : Int) * t1.fA)) fun t38=>
         Option.bind (P5 (t38 + t1.fB)) fun t39=>
         some t39
       else
         some (0 : Int)
     else
       some (0 : Int)
   else
     B3R t1
def B2p (t1 : D5) (t8 : Int) (i29 : Int) : Option (Int⊕(Unit⊕Int)):=
  Option.bind (K6 t1.A0N i29) fun e38=>
  Option.bind (P5 (t8 - (1 : Int))) fun t41=>
  Option.bind (A0j e38 (0 : Int) t41) fun t42=>
  bif !t42 then
    some (Sum.inr (Sum.inr (11 : Int)))
  else
    bif decide ((0 : Int) < i29) then
      Option.bind (K6 t1.A0N i29) fun e52=>
      Option.bind (P5 (i29 - (1 : Int))) fun t55=>
      Option.bind (K6 t1.A0N t55) fun e56=>
      bif decide (e52≤e56) then
        some (Sum.inr (Sum.inr (11 : Int)))
      else
        Option.bind (P5 (i29 + (1 : Int))) fun t60=>
        some (Sum.inl t60)
    else
      Option.bind (P5 (i29 + (1 : Int))) fun t61=>
      some (Sum.inl t61)
def A3d (t1 : D5) (t8 : Int) : Int→Option (Int⊕(Unit⊕Int)):=fun i29=>
  bif decide (i29 < (t1.A0N.length : Int)) then
    B2p t1 t8 i29
  else
    some (Sum.inr (Sum.inl ()))
def A7i (t1 : D5) : Option (Int):=
 Option.bind (A3R t1) fun t8=>
 Option.bind (A6R t1.H7) fun t16=>
 bif !t16 then
   some (4 : Int)
 else
   bif decide (t8 = (0 : Int)) then
     some (10 : Int)
   else
     Option.bind (
       iter (A3d t1 t8) FUEL (0 : Int)) fun o26=>match o26 with
     | .inl _u=>
       Option.bind (A0j t1.fX (0 : Int) (1000 : Int)) fun t65=>
       bif !t65 then
         some (2 : Int)
       else
         Option.bind (A0j t1.fY (0 : Int) (1000 : Int)) fun t74=>
         bif !t74 then
           some (2 : Int)
         else
           some (0 : Int)
     | .inr p=>
       some p
def A1L (l1 : List D5) (i6 : Int) : Int→Option (Int⊕(Unit⊕(Int×Int))):=fun k32=>
  bif decide (k32 < i6) then
    Option.bind (K6 l1 k32) fun e41=>
    Option.bind (K6 l1 i6) fun e46=>
    bif decide (e41.H7 = e46.H7) then
      some (Sum.inr (Sum.inr (i6,(5 : Int))))
    else
      Option.bind (P5 (k32 + (1 : Int))) fun t52=>
      some (Sum.inl t52)
  else
    some (Sum.inr (Sum.inl ()))
def A2O (l1 : List D5) : Int→Option (Int⊕(Unit⊕(Int×Int))):=fun i6=>
  bif decide (i6 < (l1.length : Int)) then
    Option.bind (K6 l1 i6) fun e15=>
    Option.bind (A7i e15) fun t20=>
    bif !decide (t20 = (0 : Int)) then
      some (Sum.inr (Sum.inr (i6,t20)))
    else
      Option.bind (
        iter (A1L l1 i6) FUEL (0 : Int)) fun o29=>match o29 with
      | .inl _u=>
        Option.bind (P5 (i6 + (1 : Int))) fun t56=>
        some (Sum.inl t56)
      | .inr p=>
        some (Sum.inr (Sum.inr p))
  else
    some (Sum.inr (Sum.inl ()))
def A4o (l1 : List D5) : Option (Int×Int):=
 bif decide ((16 : Int) < (l1.length : Int)) then
   some ((0 : Int),(7 : Int))
 else
   Option.bind (
     iter (A2O l1) FUEL (0 : Int)) fun o3=>match o3 with
   | .inl _u=>
     some ((0 : Int),(0 : Int))
   | .inr p=>
     some p
def A2S (l1 : List D5) (t2 : Int) : (Int×Int)→Option ((Int×Int)⊕Int):=fun (n7,i8)=>
  bif decide (i8 < t2) then
    Option.bind (K6 l1 i8) fun e17=>
    Option.bind (A3R e17) fun t22=>
    Option.bind (P5 (n7 + t22)) fun t30=>
    Option.bind (P5 (i8 + (1 : Int))) fun t31=>
    some (Sum.inl (t30,t31))
  else
    some (Sum.inr n7)
def A7B (l1 : List D5) (t2 : Int) : Option (Int):=
 Option.bind (
   iter (A2S l1 t2) FUEL ((0 : Int),(0 : Int))) fun n6=>
 some n6
def A7s (l1 : List D5) : Option (Int):=
 Option.bind (A7B l1 (l1.length : Int)) fun t2=>
 some t2
def B1L (s1 : ByteArray) : Int→Option (Int⊕(Unit⊕Bool)):=fun i14=>
  bif decide (i14 < (s1.size : Int)) then
    Option.bind (B4C s1 i14) fun ch23=>
    bif decide (ch23 < (97 : Int)) then
      some (Sum.inr (Sum.inr false))
    else
      Option.bind (B4C s1 i14) fun ch25=>
      bif decide ((122 : Int) < ch25) then
        some (Sum.inr (Sum.inr false))
      else
        Option.bind (P5 (i14 + (1 : Int))) fun t27=>
        some (Sum.inl t27)
  else
    some (Sum.inr (Sum.inl ()))
def A1y (s1 : ByteArray) : Option (Bool):=
 Option.bind (
   bif decide ((s1.size : Int) < (1 : Int)) then
     some true
   else
     some (decide ((12 : Int) < (s1.size : Int)))) fun t5=>
 bif t5 then
   some false
 else
   Option.bind (
     iter (B1L s1) FUEL (0 : Int)) fun o11=>match o11 with
   | .inl _u=>
     some true
   | .inr p=>
     some p
def B1r (g1 : E5) : Option (Bool):=
  Option.bind (A1y g1.Y0) fun t22=>
  bif !t22 then
    some true
  else
    bif !decide (g1.Q5 = (⟨#[]⟩ : ByteArray)) then
      Option.bind (A1y g1.Q5) fun t32=>
      bif !t32 then
        some true
      else
        bif !decide (g1.V8 = (⟨#[]⟩ : ByteArray)) then
          Option.bind (A1y g1.V8) fun t42=>
          some (!t42)
        else
          some false
    else
      bif !decide (g1.V8 = (⟨#[]⟩ : ByteArray)) then
        Option.bind (A1y g1.V8) fun t51=>
        some (!t51)
      else
        some false
def A6U (g1 : E5) : Option (Bool):=
  bif !decide (g1.Y0 = (⟨#[]⟩ : ByteArray)) then
    B1r g1
  else
    bif !decide (g1.Q5 = (⟨#[]⟩ : ByteArray)) then
      Option.bind (A1y g1.Q5) fun t60=>
      bif !t60 then
        some true
      else
        bif !decide (g1.V8 = (⟨#[]⟩ : ByteArray)) then
          Option.bind (A1y g1.V8) fun t70=>
          some (!t70)
        else
          some false
    else
      bif !decide (g1.V8 = (⟨#[]⟩ : ByteArray)) then
        Option.bind (A1y g1.V8) fun t79=>
        some (!t79)
      else
        some false
def B0J (g1 : E5) (i114 : Int) : Option (Int⊕(Unit⊕Int)):=
  Option.bind (K6 g1.M4 i114) fun e123=>
  Option.bind (A1y e123) fun t126=>
  bif !t126 then
    some (Sum.inr (Sum.inr (22 : Int)))
  else
    bif decide ((0 : Int) < i114) then
      Option.bind (K6 g1.M4 i114) fun e136=>
      Option.bind (P5 (i114 - (1 : Int))) fun t139=>
      Option.bind (K6 g1.M4 t139) fun e140=>
      bif sLt e136 e140 || decide (e136 = e140) then
        some (Sum.inr (Sum.inr (22 : Int)))
      else
        Option.bind (P5 (i114 + (1 : Int))) fun t144=>
        some (Sum.inl t144)
    else
      Option.bind (P5 (i114 + (1 : Int))) fun t145=>
      some (Sum.inl t145)
def A2T (g1 : E5) : Int→Option (Int⊕(Unit⊕Int)):=fun i114=>
  bif decide (i114 < (g1.M4.length : Int)) then
    B0J g1 i114
  else
    some (Sum.inr (Sum.inl ()))
def B0w (g1 : E5) (t94 : Bool) : Option (Int):=
  bif t94 then
    some (21 : Int)
  else
    Option.bind (
      bif !decide (g1.U5 = (0 : Int)) then
        bif !decide (g1.U5 = (1 : Int)) then
          some (!decide (g1.U5 = (2 : Int)))
        else
          some false
      else
        some false) fun t103=>
    bif t103 then
      some (20 : Int)
    else
      bif decide ((4 : Int) < (g1.M4.length : Int)) then
        some (22 : Int)
      else
        Option.bind (
          iter (A2T g1) FUEL (0 : Int)) fun o111=>match o111 with
        | .inl _u=>
          some (0 : Int)
        | .inr p=>
          some p
def A7z (g1 : E5) : Option (Int):=
 Option.bind (
   Option.bind (A1y g1.H7) fun t12=>
   bif !t12 then
     some true
   else
     A6U g1) fun t11=>
 bif t11 then
   some (4 : Int)
 else
   Option.bind (
     bif decide (g1.Q6 < (0 : Int)) then
       some true
     else
       some (decide ((9999 : Int) < g1.Q6))) fun t94=>
   B0w g1 t94
def A7E (l1 : List E5) (name2 : ByteArray) : Int→Option (Int⊕(Unit⊕Int)):=fun i6=>
  bif decide (i6 < (l1.length : Int)) then
    Option.bind (K6 l1 i6) fun e15=>
    bif decide (e15.H7 = name2) then
      some (Sum.inr (Sum.inr i6))
    else
      Option.bind (P5 (i6 + (1 : Int))) fun t21=>
      some (Sum.inl t21)
  else
    some (Sum.inr (Sum.inl ()))
def A2A (l1 : List E5) (name2 : ByteArray) : Option (Int):=
 Option.bind (
   iter (A7E l1 name2) FUEL (0 : Int)) fun o3=>match o3 with
 | .inl _u=>
   some (-1 : Int)
 | .inr p=>
   some p
def A2u (a1 : G6) (b2 : G6) : Option (Bool):=
 bif sLt a1.fA b2.fA then
   some true
 else
   bif decide (a1.fA = b2.fA) then
     some (sLt a1.fB b2.fB)
   else
     some false
def A6t (r1 : V6) (i13 : Int) : Option (Int⊕(Unit⊕(Int×Int))):=
  Option.bind (K6 r1.F3 i13) fun e22=>
  Option.bind (A7z e22) fun t27=>
  bif !decide (t27 = (0 : Int)) then
    some (Sum.inr (Sum.inr (i13,t27)))
  else
    Option.bind (sbL r1.F3 0 i13) fun t36=>
    Option.bind (K6 r1.F3 i13) fun e41=>
    Option.bind (A2A t36 e41.H7) fun t46=>
    bif decide ((0 : Int)≤t46) then
      some (Sum.inr (Sum.inr (i13,(5 : Int))))
    else
      bif decide ((64 : Int)≤i13) then
        some (Sum.inr (Sum.inr (i13,(7 : Int))))
      else
        Option.bind (P5 (i13 + (1 : Int))) fun t56=>
        some (Sum.inl t56)
def A1z (r1 : V6) : Int→Option (Int⊕(Unit⊕(Int×Int))):=fun i13=>
  bif decide (i13 < (r1.F3.length : Int)) then
    A6t r1 i13
  else
    some (Sum.inr (Sum.inl ()))
def A3M (r1 : V6) (i63 : Int) (e72 : G6) : Option (Bool):=
  bif !decide (e72.J4 = (1 : Int)) then
    bif !decide (e72.J4 = (2 : Int)) then
      some true
    else
      bif !sLt e72.fA e72.fB then
        some true
      else
        bif decide ((0 : Int) < i63) then
          Option.bind (P5 (i63 - (1 : Int))) fun t89=>
          Option.bind (K6 r1.J8 t89) fun e90=>
          Option.bind (A2u e72 e90) fun t93=>
          some t93
        else
          some false
  else
    bif !sLt e72.fA e72.fB then
      some true
    else
      bif decide ((0 : Int) < i63) then
        Option.bind (P5 (i63 - (1 : Int))) fun t103=>
        Option.bind (K6 r1.J8 t103) fun e104=>
        Option.bind (A2u e72 e104) fun t107=>
        some t107
      else
        some false
def A6J (r1 : V6) (i63 : Int) (e72 : G6) (t80 : Int) : Option (Int⊕(Unit⊕(Int×Int))):=
  bif decide ((0 : Int) < i63) then
    Option.bind (P5 (i63 - (1 : Int))) fun t145=>
    Option.bind (K6 r1.J8 t145) fun e146=>
    Option.bind (A2u e146 e72) fun t149=>
    bif !t149 then
      some (Sum.inr (Sum.inr (t80,(5 : Int))))
    else
      bif decide ((256 : Int)≤i63) then
        some (Sum.inr (Sum.inr (t80,(7 : Int))))
      else
        Option.bind (P5 (i63 + (1 : Int))) fun t159=>
        some (Sum.inl t159)
  else
    bif decide ((256 : Int)≤i63) then
      some (Sum.inr (Sum.inr (t80,(7 : Int))))
    else
      Option.bind (P5 (i63 + (1 : Int))) fun t161=>
      some (Sum.inl t161)
def A6q (r1 : V6) (i63 : Int) : Option (Int⊕(Unit⊕(Int×Int))):=
  Option.bind (K6 r1.J8 i63) fun e72=>
  Option.bind (P5 ((r1.F3.length : Int) + i63)) fun t80=>
  Option.bind (
    A3M r1 i63 e72) fun t84=>
  bif t84 then
    some (Sum.inr (Sum.inr (t80,(23 : Int))))
  else
    Option.bind (
      Option.bind (A2A r1.F3 e72.fA) fun t123=>
      bif decide (t123 < (0 : Int)) then
        some true
      else
        Option.bind (A2A r1.F3 e72.fB) fun t132=>
        some (decide (t132 < (0 : Int)))) fun t122=>
    bif t122 then
      some (Sum.inr (Sum.inr (t80,(6 : Int))))
    else
      A6J r1 i63 e72 t80
def A0z (r1 : V6) : Int→Option (Int⊕(Unit⊕(Int×Int))):=fun i63=>
  bif decide (i63 < (r1.J8.length : Int)) then
    A6q r1 i63
  else
    some (Sum.inr (Sum.inl ()))
def A3E (r1 : V6) : Option (Int×Int):=
 Option.bind (
   iter (A1z r1) FUEL (0 : Int)) fun o10=>match o10 with
 | .inl _u=>
   Option.bind (
     iter (A0z r1) FUEL (0 : Int)) fun o60=>match o60 with
   | .inl _u=>
     some ((0 : Int),(0 : Int))
   | .inr p=>
     some p
 | .inr p=>
   some p
def C0s (k1 : Int) : Option (ByteArray):=
  Option.bind (K6 [(⟨#[]⟩ : ByteArray),(⟨#[97,112,97,114,116]⟩ : ByteArray),(⟨#[98,101,115,105,100,101]⟩ : ByteArray),(⟨#[97,99,114,111,115,115]⟩ : ByteArray),(⟨#[110,101,97,114]⟩ : ByteArray),(⟨#[116,111,103,101,116,104,101,114]⟩ : ByteArray),(⟨#[97,116]⟩ : ByteArray),(⟨#[115,101,97,116]⟩ : ByteArray),(⟨#[97,108,116,101,114,110,97,116,101]⟩ : ByteArray),(⟨#[104,111,115,116]⟩ : ByteArray),(⟨#[114,101,97,99,104]⟩ : ByteArray),(⟨#[115,112,101,97,107]⟩ : ByteArray),(⟨#[112,101,97,99,101]⟩ : ByteArray),(⟨#[99,111,109,112,97,110,121]⟩ : ByteArray),(⟨#[104,111,110,111,117,114]⟩ : ByteArray),(⟨#[102,105,108,108]⟩ : ByteArray),(⟨#[108,105,109,105,116]⟩ : ByteArray),(⟨#[107,105,116,99,104,101,110]⟩ : ByteArray),(⟨#[109,105,120]⟩ : ByteArray)] k1) fun e7=>
  some e7
def A6P (k1 : Int) : Option (ByteArray):=
 Option.bind (A3q .i64 k1) fun t5=>
 bif decide (([(⟨#[]⟩ : ByteArray),(⟨#[97,112,97,114,116]⟩ : ByteArray),(⟨#[98,101,115,105,100,101]⟩ : ByteArray),(⟨#[97,99,114,111,115,115]⟩ : ByteArray),(⟨#[110,101,97,114]⟩ : ByteArray),(⟨#[116,111,103,101,116,104,101,114]⟩ : ByteArray),(⟨#[97,116]⟩ : ByteArray),(⟨#[115,101,97,116]⟩ : ByteArray),(⟨#[97,108,116,101,114,110,97,116,101]⟩ : ByteArray),(⟨#[104,111,115,116]⟩ : ByteArray),(⟨#[114,101,97,99,104]⟩ : ByteArray),(⟨#[115,112,101,97,107]⟩ : ByteArray),(⟨#[112,101,97,99,101]⟩ : ByteArray),(⟨#[99,111,109,112,97,110,121]⟩ : ByteArray),(⟨#[104,111,110,111,117,114]⟩ : ByteArray),(⟨#[102,105,108,108]⟩ : ByteArray),(⟨#[108,105,109,105,116]⟩ : ByteArray),(⟨#[107,105,116,99,104,101,110]⟩ : ByteArray),(⟨#[109,105,120]⟩ : ByteArray)].length : Int)≤t5) then
   some (⟨#[]⟩ : ByteArray)
 else
   C0s k1
def A2G (k1 : Int) : Option (Bool):=
 bif decide (k1 = (1 : Int)) then
   some true
 else
   bif decide (k1 = (2 : Int)) then
     some true
   else
     bif decide (k1 = (3 : Int)) then
       some true
     else
       bif decide (k1 = (4 : Int)) then
         some true
       else
         some (decide (k1 = (5 : Int)))
def B5L (k1 : Int) : Option (Bool):=
 bif decide (k1 = (6 : Int)) then
   some true
 else
   bif decide (k1 = (7 : Int)) then
     some true
   else
     some (decide (k1 = (10 : Int)))
def A0x (k1 : Int) : Option (Int):=
 Option.bind (
   Option.bind (A2G k1) fun t6=>
   bif t6 then
     some true
   else
     some (decide (k1 = (10 : Int)))) fun t5=>
 bif t5 then
   some (0 : Int)
 else
   bif decide (k1 = (6 : Int)) then
     some (1 : Int)
   else
     bif decide (k1 = (7 : Int)) then
       some (1 : Int)
     else
       bif decide (k1 = (17 : Int)) then
         some (1 : Int)
       else
         some (2 : Int)
def V9 (k1 : Int) : Option (Bool):=
 bif decide (k1 = (1 : Int)) then
   some true
 else
   bif decide (k1 = (4 : Int)) then
     some true
   else
     bif decide (k1 = (7 : Int)) then
       some true
     else
       bif decide (k1 = (15 : Int)) then
         some true
       else
         some (decide (k1 = (16 : Int)))
def A3h (l1 : List D5) (name2 : ByteArray) : Int→Option (Int⊕(Unit⊕Int)):=fun i6=>
  bif decide (i6 < (l1.length : Int)) then
    Option.bind (K6 l1 i6) fun e15=>
    bif decide (e15.H7 = name2) then
      some (Sum.inr (Sum.inr i6))
    else
      Option.bind (P5 (i6 + (1 : Int))) fun t21=>
      some (Sum.inl t21)
  else
    some (Sum.inr (Sum.inl ()))
def A3y (l1 : List D5) (name2 : ByteArray) : Option (Int):=
 Option.bind (
   iter (A3h l1 name2) FUEL (0 : Int)) fun o3=>match o3 with
 | .inl _u=>
   some (-1 : Int)
 | .inr p=>
   some p
def A2Q (p1 : A8) : Int→Option (Int⊕(Unit⊕(Int×Int))):=fun k48=>
  bif decide (k48 < (p1.K5.length : Int)) then
    Option.bind (K6 p1.K5 k48) fun e57=>
    bif decide (e57 < (0 : Int)) then
      some (Sum.inr (Sum.inr ((0 : Int),(44 : Int))))
    else
      Option.bind (K6 p1.K5 k48) fun e61=>
      bif decide ((64 : Int)≤e61) then
        some (Sum.inr (Sum.inr ((0 : Int),(44 : Int))))
      else
        Option.bind (P5 (k48 + (1 : Int))) fun t65=>
        some (Sum.inl t65)
  else
    some (Sum.inr (Sum.inl ()))
def B0Z (p1 : A8) : Option (Int×Int):=
  Option.bind (
    bif !decide ((p1.K5.length : Int) = (0 : Int)) then
      some (!decide ((p1.K5.length : Int) = (p1.F3.length : Int)))
    else
      some false) fun t39=>
  bif t39 then
    some ((0 : Int),(44 : Int))
  else
    Option.bind (
      iter (A2Q p1) FUEL (0 : Int)) fun o45=>match o45 with
    | .inl _u=>
      Option.bind (A7s p1.H8) fun t69=>
      bif decide (t69 < (p1.F3.length : Int)) then
        some ((0 : Int),(45 : Int))
      else
        some ((0 : Int),(0 : Int))
    | .inr p=>
      some p
def A7F (p1 : A8) : Option (Int×Int):=
 Option.bind (A4o p1.H8) fun (t16,t17)=>
 bif !decide (t17 = (0 : Int)) then
   some (t16,t17)
 else
   Option.bind (A3E (V6.mk p1.F3 p1.J8)) fun (t26,t27)=>
   bif !decide (t27 = (0 : Int)) then
     some (t26,t27)
   else
     B0Z p1
def A7c (r12 : G5) : Option (Bool):=
  Option.bind (A2G r12.J4) fun t64=>
  bif !t64 then
    some true
  else
    bif !decide (r12.V7 = (⟨#[]⟩ : ByteArray)) then
      Option.bind (A0x r12.J4) fun t74=>
      bif decide (t74 = (0 : Int)) then
        some true
      else
        bif !decide (r12.fN = (0 : Int)) then
          Option.bind (V9 r12.J4) fun t84=>
          some (!t84)
        else
          some false
    else
      bif !decide (r12.fN = (0 : Int)) then
        Option.bind (V9 r12.J4) fun t93=>
        some (!t93)
      else
        some false
def A6G (r12 : G5) : Option (Bool):=
  bif !decide (r12.fB = (⟨#[]⟩ : ByteArray)) then
    A7c r12
  else
    bif !decide (r12.V7 = (⟨#[]⟩ : ByteArray)) then
      Option.bind (A0x r12.J4) fun t102=>
      bif decide (t102 = (0 : Int)) then
        some true
      else
        bif !decide (r12.fN = (0 : Int)) then
          Option.bind (V9 r12.J4) fun t112=>
          some (!t112)
        else
          some false
    else
      bif !decide (r12.fN = (0 : Int)) then
        Option.bind (V9 r12.J4) fun t121=>
        some (!t121)
      else
        some false
def A6S (r12 : G5) : Option (Bool):=
  Option.bind (A2G r12.J4) fun t130=>
  bif !t130 then
    some true
  else
    bif !decide (r12.V7 = (⟨#[]⟩ : ByteArray)) then
      Option.bind (A0x r12.J4) fun t140=>
      bif decide (t140 = (0 : Int)) then
        some true
      else
        bif !decide (r12.fN = (0 : Int)) then
          Option.bind (V9 r12.J4) fun t150=>
          some (!t150)
        else
          some false
    else
      bif !decide (r12.fN = (0 : Int)) then
        Option.bind (V9 r12.J4) fun t159=>
        some (!t159)
      else
        some false
def A6Q (r12 : G5) : Option (Bool):=
  bif !decide (r12.fB = (⟨#[]⟩ : ByteArray)) then
    A6S r12
  else
    bif !decide (r12.V7 = (⟨#[]⟩ : ByteArray)) then
      Option.bind (A0x r12.J4) fun t168=>
      bif decide (t168 = (0 : Int)) then
        some true
      else
        bif !decide (r12.fN = (0 : Int)) then
          Option.bind (V9 r12.J4) fun t178=>
          some (!t178)
        else
          some false
    else
      bif !decide (r12.fN = (0 : Int)) then
        Option.bind (V9 r12.J4) fun t187=>
        some (!t187)
      else
        some false
def A6n (r12 : G5) : Option (Bool):=
  Option.bind (A2G r12.J4) fun t196=>
  bif !t196 then
    some true
  else
    bif !decide (r12.V7 = (⟨#[]⟩ : ByteArray)) then
      Option.bind (A0x r12.J4) fun t206=>
      bif decide (t206 = (0 : Int)) then
        some true
      else
        bif !decide (r12.fN = (0 : Int)) then
          Option.bind (V9 r12.J4) fun t216=>
          some (!t216)
        else
          some false
    else
      bif !decide (r12.fN = (0 : Int)) then
        Option.bind (V9 r12.J4) fun t225=>
        some (!t225)
      else
        some false
def A6v (r12 : G5) : Option (Bool):=
  bif !decide (r12.fB = (⟨#[]⟩ : ByteArray)) then
    A6n r12
  else
    bif !decide (r12.V7 = (⟨#[]⟩ : ByteArray)) then
      Option.bind (A0x r12.J4) fun t234=>
      bif decide (t234 = (0 : Int)) then
        some true
      else
        bif !decide (r12.fN = (0 : Int)) then
          Option.bind (V9 r12.J4) fun t244=>
          some (!t244)
        else
          some false
    else
      bif !decide (r12.fN = (0 : Int)) then
        Option.bind (V9 r12.J4) fun t253=>
        some (!t253)
      else
        some false
def A6r (r12 : G5) : Option (Bool):=
  Option.bind (A2G r12.J4) fun t262=>
  bif !t262 then
    some true
  else
    bif !decide (r12.V7 = (⟨#[]⟩ : ByteArray)) then
      Option.bind (A0x r12.J4) fun t272=>
      bif decide (t272 = (0 : Int)) then
        some true
      else
        bif !decide (r12.fN = (0 : Int)) then
          Option.bind (V9 r12.J4) fun t282=>
          some (!t282)
        else
          some false
    else
      bif !decide (r12.fN = (0 : Int)) then
        Option.bind (V9 r12.J4) fun t291=>
        some (!t291)
      else
        some false
def A6y (r12 : G5) : Option (Bool):=
  bif !decide (r12.fB = (⟨#[]⟩ : ByteArray)) then
    A6r r12
  else
    bif !decide (r12.V7 = (⟨#[]⟩ : ByteArray)) then
      Option.bind (A0x r12.J4) fun t300=>
      bif decide (t300 = (0 : Int)) then
        some true
      else
        bif !decide (r12.fN = (0 : Int)) then
          Option.bind (V9 r12.J4) fun t310=>
          some (!t310)
        else
          some false
    else
      bif !decide (r12.fN = (0 : Int)) then
        Option.bind (V9 r12.J4) fun t319=>
        some (!t319)
      else
        some false
def A7a (p1 : A8) (r12 : G5) : Option (Bool):=
  Option.bind (A2G r12.J4) fun t335=>
  bif t335 then
    bif decide (r12.J4 = (10 : Int)) then
      bif !(decide (r12.fA = (⟨#[]⟩ : ByteArray))) then
        Option.bind (A2A p1.F3 r12.fA) fun t346=>
        some (decide (t346 < (0 : Int)))
      else
        some false
    else
      Option.bind (A2A p1.F3 r12.fA) fun t354=>
      some (decide (t354 < (0 : Int)))
  else
    Option.bind (B5L r12.J4) fun t362=>
    bif t362 then
      bif decide (r12.J4 = (10 : Int)) then
        bif !(decide (r12.fA = (⟨#[]⟩ : ByteArray))) then
          Option.bind (A2A p1.F3 r12.fA) fun t373=>
          some (decide (t373 < (0 : Int)))
        else
          some false
      else
        Option.bind (A2A p1.F3 r12.fA) fun t381=>
        some (decide (t381 < (0 : Int)))
    else
      some false
def A6s (r12 : G5) (t452 : Int) : Option (Bool):=
  Option.bind (A0x r12.J4) fun t464=>
  bif decide (t464 = (1 : Int)) then
    bif decide (t452 < (0 : Int)) then
      some true
    else
      Option.bind (A0x r12.J4) fun t474=>
      bif decide (t474 = (2 : Int)) then
        bif !decide (r12.V7 = (⟨#[]⟩ : ByteArray)) then
          some (decide (t452 < (0 : Int)))
        else
          some false
      else
        some false
  else
    Option.bind (A0x r12.J4) fun t484=>
    bif decide (t484 = (2 : Int)) then
      bif !decide (r12.V7 = (⟨#[]⟩ : ByteArray)) then
        some (decide (t452 < (0 : Int)))
      else
        some false
    else
      some false
def A5I (p1 : A8) (r12 : G5) (t452 : Int) : Option (Int):=
  Option.bind (
    bif decide (r12.J4 = (4 : Int)) then
      some (1 : Int)
    else
      some (0 : Int)) fun lo501=>
  Option.bind (
    bif decide (r12.J4 = (7 : Int)) then
      Option.bind (K6 p1.H8 t452) fun e511=>
      Option.bind (A3R e511) fun t516=>
      Option.bind (P5 (t516 - (1 : Int))) fun t524=>
      some t524
    else
      some (24 : Int)) fun hi509=>
  Option.bind (V9 r12.J4) fun t528=>
  bif t528 then
    bif decide (r12.fN < lo501) then
      some (42 : Int)
    else
      bif decide (hi509 < r12.fN) then
        some (42 : Int)
      else
        some (0 : Int)
  else
    some (0 : Int)
def A5S (p1 : A8) (r12 : G5) : Option (Int):=
  Option.bind (
    bif decide (r12.J4 = (17 : Int)) then
      Option.bind (A1y r12.fA) fun t423=>
      some (!t423)
    else
      some false) fun t421=>
  bif t421 then
    some (4 : Int)
  else
    Option.bind (
      Option.bind (A2G r12.J4) fun t439=>
      bif t439 then
        some (decide (r12.fA = r12.fB))
      else
        some false) fun t438=>
    bif t438 then
      some (5 : Int)
    else
      Option.bind (A3y p1.H8 r12.V7) fun t452=>
      Option.bind (
        A6s r12 t452) fun t463=>
      bif t463 then
        some (6 : Int)
      else
        A5I p1 r12 t452
def A5N (p1 : A8) (r12 : G5) : Option (Int):=
  Option.bind (
    bif !decide (r12.fA = (⟨#[]⟩ : ByteArray)) then
      Option.bind (A2G r12.J4) fun t44=>
      bif !t44 then
        Option.bind (B5L r12.J4) fun t53=>
        bif !t53 then
          bif !decide (r12.J4 = (17 : Int)) then
            some true
          else
            A6G r12
        else
          A6Q r12
      else
        A6v r12
    else
      A6y r12) fun t42=>
  bif t42 then
    some (43 : Int)
  else
    Option.bind (
      A7a p1 r12) fun t334=>
    bif t334 then
      some (6 : Int)
    else
      Option.bind (
        Option.bind (A2G r12.J4) fun t397=>
        bif t397 then
          Option.bind (A2A p1.F3 r12.fB) fun t406=>
          some (decide (t406 < (0 : Int)))
        else
          some false) fun t396=>
      bif t396 then
        some (6 : Int)
      else
        A5S p1 r12
def A4a (p1 : A8) (r12 : G5) : Option (Int):=
 Option.bind (A6P r12.J4) fun t21=>
 bif decide (t21 = (⟨#[]⟩ : ByteArray)) then
   some (40 : Int)
 else
   Option.bind (
     bif decide (r12.Y6 < (0 : Int)) then
       some true
     else
       some (decide ((1000 : Int) < r12.Y6))) fun t33=>
   bif t33 then
     some (41 : Int)
   else
     A5N p1 r12
def A2k (p1 : A8) : Int→Option (Int⊕(Unit⊕(Int×Int))):=fun k29=>
  bif decide (k29 < (p1.K9.length : Int)) then
    Option.bind (K6 p1.K9 k29) fun e38=>
    Option.bind (A4a p1 e38) fun t41=>
    bif !decide (t41 = (0 : Int)) then
      some (Sum.inr (Sum.inr (k29,t41)))
    else
      bif decide ((64 : Int)≤k29) then
        some (Sum.inr (Sum.inr (k29,(7 : Int))))
      else
        Option.bind (P5 (k29 + (1 : Int))) fun t51=>
        some (Sum.inl t51)
  else
    some (Sum.inr (Sum.inl ()))
def A7j (p1 : A8) : Option (Int×Int):=
 Option.bind (A7F p1) fun (t16,t17)=>
 bif !decide (t17 = (0 : Int)) then
   some (t16,t17)
 else
   Option.bind (
     iter (A2k p1) FUEL (0 : Int)) fun o26=>match o26 with
   | .inl _u=>
     some ((0 : Int),(0 : Int))
   | .inr p=>
     some p
def B7K (p1 : A8) (most12 : Int) : Option (Bool):=
 bif decide ((p1.H8.length : Int)≤most12) then
   bif decide ((p1.F3.length : Int)≤most12) then
     bif decide ((p1.J8.length : Int)≤most12) then
       bif decide ((p1.K5.length : Int)≤most12) then
         some (decide ((p1.K9.length : Int)≤most12))
       else
         some false
     else
       some false
   else
     some false
 else
   some false
end Go.Dm
open Go Go.Sl
namespace Go.Dm
def A7f (a1 : List E5) : Unit→Option (Unit⊕Unit):=fun _u=>
  bif decide ((0 : Int) < (a1.length : Int)) then
    none
  else
    some (Sum.inr ())
def B1i (a1 : List E5) (b2 : List E5) : Option (Bool):=
 bif !decide ((a1.length : Int) = (b2.length : Int)) then
   none
 else
   Option.bind (
     iter (A7f a1) FUEL ()) fun _u=>
   some true
def B0c (a1 : List G6) : Unit→Option (Unit⊕Unit):=fun _u=>
  bif decide ((0 : Int) < (a1.length : Int)) then
    none
  else
    some (Sum.inr ())
def B4X (a1 : List G6) (b2 : List G6) : Option (Bool):=
 bif !decide ((a1.length : Int) = (b2.length : Int)) then
   none
 else
   Option.bind (
     iter (B0c a1) FUEL ()) fun _u=>
   some true
def A7C (a1 : List D5) : Unit→Option (Unit⊕Unit):=fun _u=>
  bif decide ((0 : Int) < (a1.length : Int)) then
    none
  else
    some (Sum.inr ())
def B1s (a1 : List D5) (b2 : List D5) : Option (Bool):=
 bif !decide ((a1.length : Int) = (b2.length : Int)) then
   none
 else
   Option.bind (
     iter (A7C a1) FUEL ()) fun _u=>
   some true
def A3I (a1 : A8) (b12 : A8) : Option (Bool):=
 Option.bind (B1s a1.H8 b12.H8) fun t31=>
 bif t31 then
   Option.bind (B1i a1.F3 b12.F3) fun t40=>
   bif t40 then
     Option.bind (B4X a1.J8 b12.J8) fun t49=>
     bif t49 then
       Option.bind (A1n a1.K5 b12.K5) fun t58=>
       bif t58 then
         Option.bind (A8p a1.K9 b12.K9) fun t67=>
         some t67
       else
         none
     else
       none
   else
     none
 else
   none
def A0w (p1 : A8) (part12 : List Int) : Option ((Option F7)×Int):=
 Option.bind (B1P p1) fun (t17,t18,t19)=>
 bif !decide (t19 = (0 : Int)) then
   some ((none),t19)
 else
   none
def A5f (p1 : A8) (part12 : List Int) (c13 : M7) : Option (Int):=
 Option.bind (A0w p1 part12) fun (t24,t25)=>
 bif !decide (t25 = (0 : Int)) then
   some t25
 else
   none
def A4X (p1 : A8) (part12 : List Int) (c13 : M7) : Option (A8×(List Int)×Int):=
 Option.bind (A0w p1 part12) fun (t25,t26)=>
 bif !decide (t26 = (0 : Int)) then
   some ((A8.mk ([] : List D5) ([] : List E5) ([] : List G6) ([] : List Int) ([] : List G5)),([] : List Int),t26)
 else
   none
def A4T (p1 : A8) (part12 : List Int) (most13 : Int) : Option (Int):=
 Option.bind (A0w p1 part12) fun (t18,t19)=>
 bif !decide (t19 = (0 : Int)) then
   some (0 : Int)
 else
   none
def A7x (p1 : A8) (part12 : List Int) (most13 : Int) : Option (U6×Int):=
 Option.bind (A0w p1 part12) fun (t19,t20)=>
 bif !decide (t20 = (0 : Int)) then
   some ((U6.mk (A8.mk ([] : List D5) ([] : List E5) ([] : List G6) ([] : List Int) ([] : List G5)) ([] : List Int) (0 : Int) (0 : Int)),t20)
 else
   none
def A6f (p1 : A8) (part12 : List Int) (g13 : Int) (most14 : Int) : Option (U6×Int):=
 Option.bind (A0w p1 part12) fun (t20,t21)=>
 bif !decide (t21 = (0 : Int)) then
   some ((U6.mk (A8.mk ([] : List D5) ([] : List E5) ([] : List G6) ([] : List Int) ([] : List G5)) ([] : List Int) (0 : Int) (0 : Int)),t21)
 else
   none
def A4l (p1 : A8) (part12 : List Int) : Option (A8×Int):=
 Option.bind (A0w p1 part12) fun (t18,t19)=>
 bif !decide (t19 = (0 : Int)) then
   some ((A8.mk ([] : List D5) ([] : List E5) ([] : List G6) ([] : List Int) ([] : List G5)),t19)
 else
   none
def A5i (p1 : A8) (part12 : List Int) (moved13 : Int) : Option ((List U1)×Int):=
 Option.bind (A4l p1 part12) fun (t18,t19)=>
 bif !decide (t19 = (0 : Int)) then
   some (([] : List U1),t19)
 else
   none
def A4q (p1 : A8) (part12 : List Int) (l13 : List M7) (most14 : Int) : Option ((List U6)×Int×Int):=
 Option.bind (A0w p1 part12) fun (t16,t17)=>
 bif !decide (t17 = (0 : Int)) then
   some (([] : List U6),(0 : Int),t17)
 else
   none
def A5h (p1 : A8) (part12 : List Int) : Option (List Int):=
 Option.bind (A0w p1 part12) fun (t17,t18)=>
 bif !decide (t18 = (0 : Int)) then
   some ([] : List Int)
 else
   none
def A3J (p1 : A8) (part12 : List Int) : Option (Int):=
 Option.bind (A0w p1 part12) fun (t17,t18)=>
 bif !decide (t18 = (0 : Int)) then
   some (0 : Int)
 else
   none
def A4P (a1 : U6) (b14 : U6) : Option (Bool):=
 bif decide (a1.A1X = b14.A1X) then
   bif decide (a1.A0B = b14.A0B) then
     Option.bind (A1n a1.A1H b14.A1H) fun t37=>
     bif t37 then
       Option.bind (A3I a1.U8 b14.U8) fun t46=>
       some t46
     else
       none
   else
     none
 else
   none
def A4k (p1 : A8) (part12 : List Int) (n13 : Int) (t61 : A8) (t62 : List Int) (t88 : U6) (t114 : U6) (t140 : A8) (t164 : List U1) (t182 : List U6) (t183 : Int) : Option (Bool):=
  Option.bind (P5 (t183 + (t62.length : Int))) fun t198=>
  Option.bind (P5 (t198 + (t164.length : Int))) fun t199=>
  Option.bind (P5 (t199 + (t182.length : Int))) fun t200=>
  Option.bind (A5h p1 part12) fun t201=>
  Option.bind (P5 (t200 + (t201.length : Int))) fun t210=>
  Option.bind (A3J p1 part12) fun t211=>
  Option.bind (P5 (t210 + t211)) fun t219=>
  Option.bind (A4T p1 part12 n13) fun t220=>
  Option.bind (P5 (t219 + t220)) fun t228=>
  bif !decide (t228 = (0 : Int)) then
    some true
  else
    Option.bind (A3I t61 t140) fun t230=>
    bif !t230 then
      some true
    else
      bif !decide ((t140.H8.length : Int) = (0 : Int)) then
        some true
      else
        Option.bind (A4P t88 t114) fun t240=>
        bif !t240 then
          some true
        else
          some (!decide ((t88.A1H.length : Int) = (0 : Int)))
def A0K (t44 : Int) (t63 : Int) (t89 : Int) (t115 : Int) (t141 : Int) (t165 : Int) (t184 : Int) (t253 : Int) : Int→Option (Int⊕(Unit⊕Bool)):=fun t267=>
  bif decide (t267 < ([t63,t89,t115,t141,t165,t184,t253].length : Int)) then
    Option.bind (K6 [t63,t89,t115,t141,t165,t184,t253] t267) fun e276=>
    bif !decide (e276 = t44) then
      some (Sum.inr (Sum.inr false))
    else
      Option.bind (P5 (t267 + (1 : Int))) fun t280=>
      some (Sum.inl t280)
  else
    some (Sum.inr (Sum.inl ()))
def A4i (p1 : A8) (part12 : List Int) (t44 : Int) (t63 : Int) (t89 : Int) (t115 : Int) (t141 : Int) (t165 : Int) (t184 : Int) : Option (Bool):=
  Option.bind (A5f p1 part12 (M7.mk (0 : Int) (E5.mk (⟨#[]⟩ : ByteArray) (⟨#[]⟩ : ByteArray) (⟨#[]⟩ : ByteArray) (0 : Int) (0 : Int) (⟨#[]⟩ : ByteArray) false false ([] : List ByteArray)) (⟨#[]⟩ : ByteArray) (⟨#[]⟩ : ByteArray) (⟨#[]⟩ : ByteArray) (0 : Int) (G5.mk (0 : Int) (0 : Int) (⟨#[]⟩ : ByteArray) (⟨#[]⟩ : ByteArray) (⟨#[]⟩ : ByteArray) (0 : Int)))) fun t253=>
  Option.bind (
    iter (A0K t44 t63 t89 t115 t141 t165 t184 t253) FUEL (0 : Int)) fun o264=>match o264 with
  | .inl _u=>
    Option.bind (A3V) fun t284=>
    some t284
  | .inr p=>
    some p
def A4f (p1 : A8) (part12 : List Int) (n13 : Int) (t44 : Int) : Option (Bool):=
  Option.bind (A4X p1 part12 (M7.mk (2 : Int) (E5.mk (⟨#[]⟩ : ByteArray) (⟨#[]⟩ : ByteArray) (⟨#[]⟩ : ByteArray) (0 : Int) (0 : Int) (⟨#[]⟩ : ByteArray) false false ([] : List ByteArray)) (⟨#[]⟩ : ByteArray) (⟨#[]⟩ : ByteArray) (⟨#[]⟩ : ByteArray) (0 : Int) (G5.mk (0 : Int) (0 : Int) (⟨#[]⟩ : ByteArray) (⟨#[]⟩ : ByteArray) (⟨#[]⟩ : ByteArray) (0 : Int)))) fun (t61,t62,t63)=>
  Option.bind (A7x p1 part12 n13) fun (t88,t89)=>
  Option.bind (A6f p1 part12 n13 n13) fun (t114,t115)=>
  Option.bind (A4l p1 part12) fun (t140,t141)=>
  Option.bind (A5i p1 part12 n13) fun (t164,t165)=>
  Option.bind (A4q p1 part12 [(M7.mk (2 : Int) (E5.mk (⟨#[]⟩ : ByteArray) (⟨#[]⟩ : ByteArray) (⟨#[]⟩ : ByteArray) (0 : Int) (0 : Int) (⟨#[]⟩ : ByteArray) false false ([] : List ByteArray)) (⟨#[]⟩ : ByteArray) (⟨#[]⟩ : ByteArray) (⟨#[]⟩ : ByteArray) (0 : Int) (G5.mk (0 : Int) (0 : Int) (⟨#[]⟩ : ByteArray) (⟨#[]⟩ : ByteArray) (⟨#[]⟩ : ByteArray) (0 : Int)))] n13) fun (t182,t183,t184)=>
  Option.bind (
    A4k p1 part12 n13 t61 t62 t88 t114 t140 t164 t182 t183) fun t197=>
  bif t197 then
    some false
  else
    A4i p1 part12 t44 t63 t89 t115 t141 t165 t184
def A3l (p1 : A8) (part12 : List Int) (n13 : Int) : Option (Bool):=
 Option.bind (
   Option.bind (B7K p1 (100 : Int)) fun t22=>
   bif !t22 then
     some true
   else
     some (decide ((100 : Int) < (part12.length : Int)))) fun t21=>
 bif t21 then
   Option.bind (A3V) fun t35=>
   some t35
 else
   Option.bind (A7j p1) fun (t43,t44)=>
   bif decide (t44 = (0 : Int)) then
     Option.bind (A3V) fun t53=>
     some t53
   else
     A4f p1 part12 n13 t44
end Go.Dm
