import Derived.Test.YtnjnnebigkgnlaaGreatDoorL9
import Derived.Test.YtnjnnebigkgnlaaGreatDoorL10
import Derived.Test.YtnjnnebigkgnlaaGreatDoorL12
/- What the functions compute, as plain Lean functions. -/
set_option maxRecDepth 1000000
set_option maxHeartbeats 40000000
set_option linter.unusedVariables false
set_option linter.unusedSimpArgs false
set_option linter.unnecessarySimpa false
open Go Go.Sl
namespace Go.Dm
abbrev C2U : Nat:=100000
structure C8 where
 F8 : ByteArray
 O6 : Int
 fA : Int
 fB : Int
 A2H : List Int
 fX : Int
 fY : Int
deriving DecidableEq
structure D6 where
 F8 : ByteArray
 A0k : ByteArray
 V9 : ByteArray
 V3 : Int
 A0f : Int
 Z0 : ByteArray
 A0u : Bool
 U2 : Bool
 M6 : List ByteArray
deriving DecidableEq
structure F5 where
 fA : ByteArray
 fB : ByteArray
 H8 : Int
deriving DecidableEq
structure F6 where
 H8 : Int
 Q3 : Int
 fA : ByteArray
 fB : ByteArray
 R6 : ByteArray
 fN : Int
deriving DecidableEq
structure A1E where
 A7v : ByteArray
 A0j : Int→Int→Option Int
 A5i : Int→Int→Int→Int→Option Bool
 A5e : Int→Int→Int→Int→Option Bool
 B9n : Int→Int→Option Int
 C5N : Int→Int→Option (List (Int→Option Int))
structure U6 where
 Z8 : List D6
 A1z : List F5
deriving DecidableEq
structure K4 where
 K5 : U6
 fat : List (ByteArray×Int)
deriving DecidableEq
structure R4 where
 A8 : List D6
 I8 : List F5
deriving DecidableEq
structure A9 where
 D7 : List C8
 A8 : List D6
 I8 : List F5
 I6 : List Int
 J3 : List F6
deriving DecidableEq
structure I5 where
 A7v : ByteArray
 fa : Int
 fb : Bool
 ft : Int
 fn : Bool
 flo : Int
 C6n : Bool
 C5k : Nat
deriving DecidableEq
structure X7 where
 A1C : A9
 C3T : List (Int×I5)
 A4d : List Int
 C9t : List Int
 D0h : List Bool
 A5i : List (List Int)
 A5e : List (List Int)
 A2g : List (List (Int×Int))
 C3W : List (List Bool)
 A1z : List (List Int)
deriving DecidableEq
structure O8 where
 Q0 : X7
 U3 : List Int
 D0U : List Int
deriving DecidableEq
structure A1b where
 Q0 : X7
 fp : A9
 A4d : List Int
 C8J : List Int
 B9p : List (List (List Int))
deriving DecidableEq
structure Y2 where
 H8 : Int
 fN : Int
deriving DecidableEq
structure A0h where
 A3v : A1b
 A1e : Int
 A2g : List Y2
 fat : Int
 U3 : List Int
deriving DecidableEq
structure A1X where
 fat : Int
 fe : Int
deriving DecidableEq
structure U7 where
 A3v : A1b
 A1e : Int
 A2g : List Y2
 U3 : List Int
deriving DecidableEq
structure H6 where
 Q0 : X7
 fp : A9
 U3 : List Int
 A0j : Int
deriving DecidableEq
structure V4 where
 H8 : Int
 L6 : D6
 fA : ByteArray
 fB : ByteArray
 R6 : ByteArray
 fN : Int
 A3M : F6
deriving DecidableEq
structure A8q where
 A7v : ByteArray
 B5J : Nat
 B5L : Nat
 C6J : Nat
 C3z : Nat
deriving DecidableEq
structure Z9 where
 A3K : List Int
 A1N : Int
deriving DecidableEq
structure A5u where
 A0J : A9
 A3K : List Int
 A6A : Int
 A1N : Int
deriving DecidableEq
structure A0g where
 D7 : List Int
 A8 : List Int
 I8 : List Int
 J3 : List Int
deriving DecidableEq
end Go.Dm
open Go Go.Sl
namespace Go.Dm
def A5Y (s1 : List Int) (v2 : Int) : Int→Option (Int⊕(Unit⊕Int)):=fun t6=>
 bif decide (t6 < (s1.length : Int)) then
  Option.bind (J6 s1 t6) fun e15=>
  bif decide (v2 = e15) then
   some (Sum.inr (Sum.inr t6))
  else
   Option.bind (N7 (t6 + 1)) fun t19=>
   some (Sum.inl t19)
 else
  some (Sum.inr (Sum.inl ()))
def A7o (s1 : List Int) (v2 : Int) : Option (Int):=
 Option.bind (
   iter (A5Y s1 v2) FUEL 0) fun o3=>match o3 with
 | .inl _u=>
   some (-1)
 | .inr p=>
   some p
def A0Q (s1 : List Int) (v2 : Int) : Option (Bool):=
 Option.bind (A7o s1 v2) fun t3=>
 some (decide (0≤t3))
def A8R (s1 : List Int) (f2 : Int→Option Bool) : Int→Option (Int⊕(Unit⊕Int)):=fun t6=>
 bif decide (t6 < (s1.length : Int)) then
  Option.bind (J6 s1 t6) fun e15=>
  Option.bind (f2 e15) fun t18=>
  bif t18 then
   some (Sum.inr (Sum.inr t6))
  else
   Option.bind (N7 (t6 + 1)) fun t32=>
   some (Sum.inl t32)
 else
  some (Sum.inr (Sum.inl ()))
def B2c (s1 : List Int) (f2 : Int→Option Bool) : Option (Int):=
 Option.bind (
   iter (A8R s1 f2) FUEL 0) fun o3=>match o3 with
 | .inl _u=>
   some (-1)
 | .inr p=>
   some p
def A3p (s1 : List Int) (f2 : Int→Option Bool) : Option (Bool):=
 Option.bind (B2c s1 f2) fun t3=>
 some (decide (0≤t3))
def A2y (s1 : List C8) (f2 : C8→Option Bool) : Int→Option (Int⊕(Unit⊕Int)):=fun t6=>
 bif decide (t6 < (s1.length : Int)) then
  Option.bind (J6 s1 t6) fun e15=>
  Option.bind (f2 e15) fun t20=>
  bif t20 then
   some (Sum.inr (Sum.inr t6))
  else
   Option.bind (N7 (t6 + 1)) fun t34=>
   some (Sum.inl t34)
 else
  some (Sum.inr (Sum.inl ()))
def A2A (s1 : List C8) (f2 : C8→Option Bool) : Option (Int):=
 Option.bind (
   iter (A2y s1 f2) FUEL 0) fun o3=>match o3 with
 | .inl _u=>
   some (-1)
 | .inr p=>
   some p
def A3W (s1 : List C8) (f2 : C8→Option Bool) : Option (Bool):=
 Option.bind (A2A s1 f2) fun t3=>
 some (decide (0≤t3))
def A2t (s1 : List D6) (f2 : D6→Option Bool) : Int→Option (Int⊕(Unit⊕Int)):=fun t6=>
 bif decide (t6 < (s1.length : Int)) then
  Option.bind (J6 s1 t6) fun e15=>
  Option.bind (f2 e15) fun t20=>
  bif t20 then
   some (Sum.inr (Sum.inr t6))
  else
   Option.bind (N7 (t6 + 1)) fun t34=>
   some (Sum.inl t34)
 else
  some (Sum.inr (Sum.inl ()))
def A2u (s1 : List D6) (f2 : D6→Option Bool) : Option (Int):=
 Option.bind (
   iter (A2t s1 f2) FUEL 0) fun o3=>match o3 with
 | .inl _u=>
   some (-1)
 | .inr p=>
   some p
def A5Z (s1 : List ByteArray) (v2 : ByteArray) : Int→Option (Int⊕(Unit⊕Int)):=fun t6=>
 bif decide (t6 < (s1.length : Int)) then
  Option.bind (J6 s1 t6) fun e15=>
  bif decide (v2 = e15) then
   some (Sum.inr (Sum.inr t6))
  else
   Option.bind (N7 (t6 + 1)) fun t19=>
   some (Sum.inl t19)
 else
  some (Sum.inr (Sum.inl ()))
def A9B (s1 : List ByteArray) (v2 : ByteArray) : Option (Int):=
 Option.bind (
   iter (A5Z s1 v2) FUEL 0) fun o3=>match o3 with
 | .inl _u=>
   some (-1)
 | .inr p=>
   some p
def A6a (s1 : List ByteArray) (v2 : ByteArray) : Option (Bool):=
 Option.bind (A9B s1 v2) fun t3=>
 some (decide (0≤t3))
def A8j (x1 : Int) : Option (Bool):=
 some (!decide (x1 = x1))
def B3V (x1 : Int) (y2 : Int) : Option (Int):=
 Option.bind (A8j x1) fun t3=>
 Option.bind (A8j y2) fun t11=>
 bif t3 then
   none
 else
   bif t11 then
     none
   else
     bif decide (x1 < y2) then
       none
     else
       bif decide (y2 < x1) then
         none
       else
         some 0
def B8D (x1 : Int) (y2 : Int) : Option (Bool):=
 Option.bind (A8j x1) fun t3=>
 bif t3 then
   none
 else
   some (decide (x1 < y2))
def B0T (s11 : List Int) (s22 : List Int) : Int→Option (Int⊕Unit):=fun t6=>
 bif decide (t6 < (s11.length : Int)) then
  Option.bind (J6 s11 t6) fun e15=>
  bif decide ((s22.length : Int)≤t6) then
   none
  else
   Option.bind (J6 s22 t6) fun e19=>
   Option.bind (B3V e15 e19) fun t22=>
   bif !decide (t22 = 0) then
    none
   else
    Option.bind (N7 (t6 + 1)) fun t31=>
    some (Sum.inl t31)
 else
  some (Sum.inr ())
def A9U (s11 : List Int) (s22 : List Int) : Option (Int):=
 Option.bind (
   iter (B0T s11 s22) FUEL 0) fun _u=>
 bif decide ((s11.length : Int) < (s22.length : Int)) then
   none
 else
   some 0
def B3H (s11 : List Int) (s22 : List Int) : Int→Option (Int⊕Unit):=fun t7=>
 bif decide (t7 < (s11.length : Int)) then
  Option.bind (J6 s11 t7) fun e16=>
  Option.bind (J6 s22 t7) fun e19=>
  bif !decide (e16 = e19) then
   none
  else
   Option.bind (N7 (t7 + 1)) fun t23=>
   some (Sum.inl t23)
 else
  some (Sum.inr ())
def B2Q (s11 : List Int) (s22 : List Int) : Option (Bool):=
 bif !decide ((s11.length : Int) = (s22.length : Int)) then
   none
 else
   Option.bind (
     iter (B3H s11 s22) FUEL 0) fun _u=>
   some true
def A2w (s1 : List Int) : Option (List Int):=
 Option.bind (apL ([] : List Int) s1) fun t8=>
 some t8
def A4M (s1 : List C8) : Option (List C8):=
 Option.bind (apL ([] : List C8) s1) fun t8=>
 some t8
def A4K (s1 : List D6) : Option (List D6):=
 Option.bind (apL ([] : List D6) s1) fun t8=>
 some t8
def A1Y (s1 : List ByteArray) : Option (List ByteArray):=
 Option.bind (apL ([] : List ByteArray) s1) fun t8=>
 some t8
def A7C (s1 : List F5) : Option (List F5):=
 Option.bind (apL ([] : List F5) s1) fun t8=>
 some t8
def A5O (s1 : List F6) : Option (List F6):=
 Option.bind (apL ([] : List F6) s1) fun t8=>
 some t8
end Go.Dm
open Go Go.Sl
namespace Go.Dm
def C2a (x1 : Int) : Option (Int):=
 Option.bind (A1p .u8 x1) fun t5=>
 Option.bind (B7K (⟨#[0,1,2,2,3,3,3,3,4,4,4,4,4,4,4,4,5,5,5,5,5,5,5,5,5,5,5,5,5,5,5,5,6,6,6,6,6,6,6,6,6,6,6,6,6,6,6,6,6,6,6,6,6,6,6,6,6,6,6,6,6,6,6,6,7,7,7,7,7,7,7,7,7,7,7,7,7,7,7,7,7,7,7,7,7,7,7,7,7,7,7,7,7,7,7,7,7,7,7,7,7,7,7,7,7,7,7,7,7,7,7,7,7,7,7,7,7,7,7,7,7,7,7,7,7,7,7,7,8,8,8,8,8,8,8,8,8,8,8,8,8,8,8,8,8,8,8,8,8,8,8,8,8,8,8,8,8,8,8,8,8,8,8,8,8,8,8,8,8,8,8,8,8,8,8,8,8,8,8,8,8,8,8,8,8,8,8,8,8,8,8,8,8,8,8,8,8,8,8,8,8,8,8,8,8,8,8,8,8,8,8,8,8,8,8,8,8,8,8,8,8,8,8,8,8,8,8,8,8,8,8,8,8,8,8,8,8,8,8,8,8,8,8,8,8,8,8,8,8,8,8,8,8,8,8,8]⟩ : ByteArray) t5) fun ch6=>
 Option.bind (A1p .i64 ch6) fun t7=>
 Option.bind (N7 (0 + t7)) fun t8=>
 some t8
def bits_Len64 (x1 : Int) : Option (Int):=
 bif decide (4294967296≤x1) then
   none
 else
   bif decide (65536≤x1) then
     none
   else
     bif decide (256≤x1) then
       none
     else
       C2a x1
def bits_Len (x1 : Int) : Option (Int):=
 Option.bind (bits_Len64 x1) fun t2=>
 some t2
def B7a (data1 : List Int) (a3 : Int) (i9 : Int) : Unit→Option (Unit⊕Unit):=fun _u=>
 bif decide (a3 < i9) then
  Option.bind (J6 data1 i9) fun e29=>
  Option.bind (N7 (i9 - 1)) fun t32=>
  Option.bind (J6 data1 t32) fun e33=>
  Option.bind (B8D e29 e33) fun t36=>
  bif t36 then
   none
  else
   some (Sum.inr ())
 else
  none
def B6s (data1 : List Int) (a3 : Int) (b4 : Int) : Int→Option (Int⊕Unit):=fun i9=>
 bif decide (i9 < b4) then
  Option.bind (
   iter (B7a data1 a3 i9) FUEL ()) fun _u=>
  Option.bind (N7 (i9 + 1)) fun t48=>
  some (Sum.inl t48)
 else
  some (Sum.inr ())
def C2Q (data1 : List Int) (a3 : Int) (b4 : Int) : Option (List Int):=
 Option.bind (N7 (a3 + 1)) fun t5=>
 Option.bind (
   iter (B6s data1 a3 b4) FUEL t5) fun _u=>
 some data1
def B6x (data1 : List Int) (a3 : Int) (b4 : Int) : Unit→Option (Unit⊕(List Int)):=fun _u=>
 Option.bind (N7 (b4 - a3)) fun t16=>
 bif decide (t16≤12) then
  Option.bind (C2Q data1 a3 b4) fun l18=>
  some (Sum.inr l18)
 else
  none
def C2K : Nat→(List Int)→Int→Int→Int→Option (List Int)
 | 0,_,_,_,_=>none
 | n + 1,data1,a3,b4,limit5=>
  Option.bind (
   iter (B6x data1 a3 b4) FUEL ()) fun p=>some p
def B5Z (x1 : List Int) : Option (List Int):=
 Option.bind (A1p .u64 (x1.length : Int)) fun t3=>
 Option.bind (bits_Len t3) fun t4=>
 Option.bind (C2K C2U x1 0 (x1.length : Int) t4) fun l12=>
 some l12
def B0Q (data1 : List (List Int)) (a3 : Int) (cmp5 : (List Int)→(List Int)→Option Int) (i10 : Int) : Unit→Option (Unit⊕Unit):=fun _u=>
 bif decide (a3 < i10) then
  Option.bind (J6 data1 i10) fun e30=>
  Option.bind (N7 (i10 - 1)) fun t35=>
  Option.bind (J6 data1 t35) fun e36=>
  Option.bind (cmp5 e30 e36) fun t41=>
  bif decide (t41 < 0) then
   none
  else
   some (Sum.inr ())
 else
  none
def B0Z (data1 : List (List Int)) (a3 : Int) (b4 : Int) (cmp5 : (List Int)→(List Int)→Option Int) : Int→Option (Int⊕Unit):=fun i10=>
 bif decide (i10 < b4) then
  Option.bind (
   iter (B0Q data1 a3 cmp5 i10) FUEL ()) fun _u=>
  Option.bind (N7 (i10 + 1)) fun t58=>
  some (Sum.inl t58)
 else
  some (Sum.inr ())
def B4P (data1 : List (List Int)) (a3 : Int) (b4 : Int) (cmp5 : (List Int)→(List Int)→Option Int) : Option (List (List Int)):=
 Option.bind (N7 (a3 + 1)) fun t6=>
 Option.bind (
   iter (B0Z data1 a3 b4 cmp5) FUEL t6) fun _u=>
 some data1
def B0N (data1 : List (List Int)) (a3 : Int) (b4 : Int) (cmp6 : (List Int)→(List Int)→Option Int) : Unit→Option (Unit⊕(List (List Int))):=fun _u=>
 Option.bind (N7 (b4 - a3)) fun t17=>
 bif decide (t17≤12) then
  Option.bind (B4P data1 a3 b4 cmp6) fun l19=>
  some (Sum.inr l19)
 else
  none
def B4V : Nat→(List (List Int))→Int→Int→Int→((List Int)→(List Int)→Option Int)→Option (List (List Int))
 | 0,_,_,_,_,_=>none
 | n + 1,data1,a3,b4,limit5,cmp6=>
  Option.bind (
   iter (B0N data1 a3 b4 cmp6) FUEL ()) fun p=>some p
def B1N (x1 : List (List Int)) (cmp3 : (List Int)→(List Int)→Option Int) : Option (List (List Int)):=
 Option.bind (A1p .u64 (x1.length : Int)) fun t4=>
 Option.bind (bits_Len t4) fun t5=>
 Option.bind (B4V C2U x1 0 (x1.length : Int) t5 cmp3) fun l13=>
 some l13
end Go.Dm
open Go Go.Sl
namespace Go.Dm
def bits_Mul64 (x1 : Int) (y2 : Int) : Option (Int×Int):=
 Option.bind (C3u .u64 x1 4294967295) fun t3=>
 Option.bind (A5x .u64 x1 32) fun t4=>
 Option.bind (C3u .u64 y2 4294967295) fun t5=>
 Option.bind (A5x .u64 y2 32) fun t6=>
 Option.bind (A1p .u64 (t3 * t5)) fun t7=>
 Option.bind (A1p .u64 (t4 * t5)) fun t8=>
 Option.bind (A5x .u64 t7 32) fun t9=>
 Option.bind (A1p .u64 (t8 + t9)) fun t10=>
 Option.bind (C3u .u64 t10 4294967295) fun t11=>
 Option.bind (A5x .u64 t10 32) fun t12=>
 Option.bind (A1p .u64 (t3 * t6)) fun t13=>
 Option.bind (A1p .u64 (t11 + t13)) fun t14=>
 Option.bind (A1p .u64 (t4 * t6)) fun t15=>
 Option.bind (A1p .u64 (t15 + t12)) fun t16=>
 Option.bind (A5x .u64 t14 32) fun t17=>
 Option.bind (A1p .u64 (t16 + t17)) fun t18=>
 Option.bind (A1p .u64 (x1 * y2)) fun t19=>
 some (t18,t19)
def bits_Mul (x1 : Int) (y2 : Int) : Option (Int×Int):=
 Option.bind (bits_Mul64 x1 y2) fun (t3,t4)=>
 some (t3,t4)
def C3M (newslice41 : List Int) (n46 : Int) : Option (((List Int)×Int)⊕(List Int)):=
 Option.bind (bdV n46 (newslice41.length : Int) (newslice41.length : Int)) fun u55=>
 Option.bind (bdV 0 n46 (newslice41.length : Int)) fun u56=>
 Option.bind (bdV n46 (newslice41.length : Int) (newslice41.length : Int)) fun u57=>
 Option.bind (bdV 0 n46 (newslice41.length : Int)) fun u58=>
 Option.bind (cpL newslice41 n46.toNat ((newslice41.length : Int).toNat - n46.toNat) (List.take (n46.toNat - (0 : Int).toNat) (List.drop (0 : Int).toNat newslice41))) fun (l60,n61)=>
 Option.bind (N7 (n46 + n61)) fun t66=>
 some (Sum.inl (l60,t66))
def B6V : ((List Int)×Int)→Option (((List Int)×Int)⊕(List Int)):=fun (newslice41,n46)=>
 bif decide (n46 < (newslice41.length : Int)) then
  C3M newslice41 n46
 else
  some (Sum.inr newslice41)
def B0C (x1 : List Int) (count2 : Int) : Option (List Int):=
 bif decide (count2 < 0) then
   none
 else
   Option.bind (A1p .u64 (x1.length : Int)) fun t4=>
   Option.bind (A1p .u64 count2) fun t5=>
   Option.bind (bits_Mul t4 t5) fun (t6,t7)=>
   bif decide (0 < t6) then
     none
   else
     bif decide (9223372036854775807 < t7) then
       none
     else
       Option.bind (A1p .i64 t7) fun t17=>
       Option.bind (mkL t17 0) fun t23=>
       Option.bind (cpL t23 0 t23.length x1) fun (l27,n28)=>
       Option.bind (
         iter B6V FUEL (l27,n28)) fun newslice36=>
       some newslice36
def B0U (s1 : List Int) : Int→Option (Int⊕Unit):=fun k7=>
 bif decide (k7 < (s1.length : Int)) then
  Option.bind (J6 s1 k7) fun e16=>
  Option.bind (N7 (k7 - 1)) fun t19=>
  Option.bind (J6 s1 t19) fun e20=>
  bif decide (e16 = e20) then
   none
  else
   Option.bind (N7 (k7 + 1)) fun t24=>
   some (Sum.inl t24)
 else
  some (Sum.inr ())
def B0c (s1 : List Int) : Option (List Int):=
 bif decide ((s1.length : Int) < 2) then
   some s1
 else
   Option.bind (
     iter (B0U s1) FUEL 1) fun _u=>
   some s1
def A6j (s1 : List (List Int)) : Unit→Option (Unit⊕Unit):=fun _u=>
 bif decide (1 < ((((s1.length : Int).toNat - (1 : Int).toNat : Nat)) : Int)) then
  none
 else
  some (Sum.inr ())
def B2g (s1 : List (List Int)) (eq3 : (List Int)→(List Int)→Option Bool) : Option (Unit⊕(List (List Int))):=
 Option.bind (J6 s1 1) fun e16=>
 Option.bind (N7 (1 - 1)) fun t21=>
 Option.bind (J6 s1 t21) fun e22=>
 Option.bind (eq3 e16 e22) fun t27=>
 bif t27 then
  Option.bind (bdV 1 (s1.length : Int) (s1.length : Int)) fun u41=>
  Option.bind (
   iter (A6j s1) FUEL ()) fun _u=>
  Option.bind (bdV 1 (s1.length : Int) (s1.length : Int)) fun u56=>
  Option.bind (bdV 1 (s1.length : Int) (s1.length : Int)) fun u57=>
  Option.bind (some (A2E s1 (1 : Int).toNat (List.replicate ((s1.length : Int).toNat - (1 : Int).toNat) ([] : List Int)))) fun l59=>
  Option.bind (sbL l59 0 1) fun t62=>
  some (Sum.inr t62)
 else
  none
def A6k (s1 : List (List Int)) (eq3 : (List Int)→(List Int)→Option Bool) : Unit→Option (Unit⊕(List (List Int))):=fun _u=>
 bif decide (1 < (s1.length : Int)) then
  B2g s1 eq3
 else
  none
def A8T (s1 : List (List Int)) (eq3 : (List Int)→(List Int)→Option Bool) : Option (List (List Int)):=
 bif decide ((s1.length : Int) < 2) then
   some s1
 else
   Option.bind (
     iter (A6k s1 eq3) FUEL ()) fun p=>some p
def A2L (s1 : List ByteArray) (f3 : ByteArray→Option Bool) : Int→Option (Int⊕(Unit⊕(Int×(List ByteArray)))):=fun t7=>
 bif decide (t7 < (s1.length : Int)) then
  Option.bind (J6 s1 t7) fun e16=>
  Option.bind (f3 e16) fun t19=>
  bif t19 then
   some (Sum.inr (Sum.inr (t7,s1)))
  else
   Option.bind (N7 (t7 + 1)) fun t33=>
   some (Sum.inl t33)
 else
  some (Sum.inr (Sum.inl ()))
def A4q (s1 : List ByteArray) (f3 : ByteArray→Option Bool) : Option (Int×(List ByteArray)):=
 Option.bind (
   iter (A2L s1 f3) FUEL 0) fun o4=>match o4 with
 | .inl _u=>
   some ((-1),s1)
 | .inr p=>
   some p
def A2I (del3 : ByteArray→Option Bool) : ((List ByteArray)×Int×Int)→Option (((List ByteArray)×Int×Int)⊕((List ByteArray)×Int)):=fun (s27,i32,j33)=>
 bif decide (j33 < (s27.length : Int)) then
  Option.bind (J6 s27 j33) fun e42=>
  Option.bind (del3 e42) fun t45=>
  bif !t45 then
   Option.bind (J6 s27 i32) fun e59=>
   Option.bind (some (List.set s27 i32.toNat e42)) fun l62=>
   Option.bind (N7 (i32 + 1)) fun t65=>
   Option.bind (N7 (j33 + 1)) fun t66=>
   some (Sum.inl (l62,t65,t66))
  else
   Option.bind (N7 (j33 + 1)) fun t67=>
   some (Sum.inl (s27,i32,t67))
 else
  some (Sum.inr (s27,i32))
def A2T (s1 : List ByteArray) (del3 : ByteArray→Option Bool) : Option (List ByteArray):=
 Option.bind (A4q s1 del3) fun (t4,l5)=>
 bif decide (t4 = (-1)) then
   some l5
 else
   Option.bind (N7 (t4 + 1)) fun t17=>
   Option.bind (
     iter (A2I del3) FUEL (l5,t4,t17)) fun (s21,i26)=>
   Option.bind (bdV i26 (s21.length : Int) (s21.length : Int)) fun u71=>
   Option.bind (bdV i26 (s21.length : Int) (s21.length : Int)) fun u72=>
   Option.bind (some (A2E s21 i26.toNat (List.replicate ((s21.length : Int).toNat - i26.toNat) (⟨#[]⟩ : ByteArray)))) fun l74=>
   Option.bind (sbL l74 0 i26) fun t77=>
   some t77
end Go.Dm
open Go Go.Sl
namespace Go.Dm
def A4l (s1 : ByteArray) : Int→Option (Int⊕(Unit⊕Bool)):=fun i5=>
 bif decide (i5 < (s1.size : Int)) then
  Option.bind (B7K s1 i5) fun ch14=>
  bif decide (ch14 < 97) then
   some (Sum.inr (Sum.inr false))
  else
   Option.bind (B7K s1 i5) fun ch16=>
   bif decide (122 < ch16) then
    some (Sum.inr (Sum.inr false))
   else
    Option.bind (N7 (i5 + 1)) fun t18=>
    some (Sum.inl t18)
 else
  some (Sum.inr (Sum.inl ()))
def B4k (s1 : ByteArray) : Option (Bool):=
 Option.bind (
   iter (A4l s1) FUEL 0) fun o2=>match o2 with
 | .inl _u=>
   bif decide (1≤(s1.size : Int)) then
     some (decide ((s1.size : Int)≤12))
   else
     some false
 | .inr p=>
   some p
def B0H (a1 : Int) (b2 : Int) : Option (Int):=
 Option.bind (N7 (a1 + (min b2 1))) fun t3=>
 some t3
def A3r (a1 : Int) (b2 : Int) : Option (Int):=
 bif decide (a1 < 1) then
   some 0
 else
   bif decide (24 < a1) then
     some 0
   else
     bif !decide (b2 = 0) then
       some 0
     else
       some a1
def A3Y (a1 : Int) (b2 : Int) : Option (Int):=
 bif decide (a1 < 1) then
   some 0
 else
   bif decide (11 < a1) then
     some 0
   else
     bif decide (b2 < 0) then
       some 0
     else
       bif decide (2 < b2) then
         some 0
       else
         Option.bind (N7 (2 * a1)) fun t7=>
         Option.bind (N7 (t7 + b2)) fun t8=>
         some t8
def A4b (a1 : Int) (b2 : Int) : Option (Int):=
 bif decide (a1 < 1) then
   some 0
 else
   bif decide (8 < a1) then
     some 0
   else
     bif decide (b2 < 1) then
       some 0
     else
       bif decide (8 < b2) then
         some 0
       else
         Option.bind (N7 (2 * b2)) fun t7=>
         Option.bind (N7 (a1 + t7)) fun t8=>
         some t8
def A4S (a1 : Int) (b2 : Int) : Option (Int):=
 bif decide (a1 < 1) then
   some 0
 else
   bif decide (24 < a1) then
     some 0
   else
     bif decide (b2 < 0) then
       some 0
     else
       bif decide (a1 < b2) then
         some 0
       else
         some a1
def A2U (a1 : Int) (b2 : Int) (x3 : Int) (y4 : Int) : Option (Bool):=
 Option.bind (N7 (y4 - x3)) fun t5=>
 bif decide (t5 = 1) then
   some true
 else
   Option.bind (N7 (y4 - x3)) fun t7=>
   Option.bind (N7 (a1 - 1)) fun t8=>
   some (decide (t7 = t8))
def A2R (a1 : Int) (b2 : Int) (x3 : Int) (y4 : Int) : Option (Bool):=
 Option.bind (Y7 a1 2) fun t5=>
 bif decide (t5 = 0) then
   Option.bind (N7 (y4 - x3)) fun t7=>
   Option.bind (A4V a1 2) fun t8=>
   some (decide (t7 = t8))
 else
   some false
def A8K (a1 : Int) (b2 : Int) (x3 : Int) (y4 : Int) (t5 : Int) (t16 : Bool) : Option (Bool):=
 bif t16 then
  Option.bind (
   bif decide (x3 = 0) then
    some true
   else
    Option.bind (N7 (y4 - 1)) fun t29=>
    some (decide (x3 = t29))) fun t27=>
  some t27
 else
  Option.bind (
   bif decide (0 < b2) then
    bif decide (x3 = a1) then
     some true
    else
     some (decide (y4 = a1))
   else
    some false) fun t36=>
  bif t36 then
   Option.bind (N7 (y4 - x3)) fun t43=>
   some (decide (t43 = 1))
  else
   Option.bind (N7 (y4 - x3)) fun t44=>
   bif decide (t44 = 1) then
    bif decide (y4 < a1) then
     some true
    else
     some (decide (t5≤x3))
   else
    some false
def A3C (a1 : Int) (b2 : Int) (x3 : Int) (y4 : Int) : Option (Bool):=
 Option.bind (B0H a1 b2) fun t5=>
 Option.bind (
   bif decide (b2 = 2) then
     Option.bind (N7 (2 * a1)) fun t18=>
     Option.bind (N7 (t18 + 1)) fun t19=>
     some (decide (y4 = t19))
   else
     some false) fun t16=>
 A8K a1 b2 x3 y4 t5 t16
def A3s (a1 : Int) (b2 : Int) (x3 : Int) (y4 : Int) : Option (Bool):=
 Option.bind (
   bif decide (b2 = 2) then
     Option.bind (N7 (2 * a1)) fun t10=>
     Option.bind (N7 (t10 + 1)) fun t11=>
     some (decide (y4 = t11))
   else
     some false) fun t8=>
 bif t8 then
   some (decide (x3 = a1))
 else
   bif decide (x3 < a1) then
     Option.bind (N7 (x3 + y4)) fun t17=>
     Option.bind (B0H a1 b2) fun t18=>
     Option.bind (N7 (t18 + a1)) fun t26=>
     Option.bind (N7 (t26 - 1)) fun t27=>
     some (decide (t17 = t27))
   else
     some false
def A3t (a1 : Int) (b2 : Int) : Option (Int):=
 bif decide (0 < b2) then
   some a1
 else
   Option.bind (A4V a1 2) fun t4=>
   some t4
def A3x (a1 : Int) (b2 : Int) (x3 : Int) (y4 : Int) : Option (Bool):=
 Option.bind (N7 (y4 - x3)) fun t5=>
 some (decide (t5 = 1))
def A3A (a1 : Int) (b2 : Int) (x3 : Int) (y4 : Int) : Option (Bool):=
 bif decide (x3 < b2) then
   Option.bind (N7 (x3 + y4)) fun t6=>
   Option.bind (N7 (2 * b2)) fun t7=>
   Option.bind (N7 (a1 + t7)) fun t8=>
   Option.bind (N7 (t8 - 1)) fun t9=>
   some (decide (t6 = t9))
 else
   some false
def A4c (a1 : Int) (b2 : Int) (x3 : Int) (y4 : Int) : Option (Bool):=
 Option.bind (N7 (y4 - x3)) fun t5=>
 bif decide (t5 = 1) then
   bif decide (b2 = 0) then
     some true
   else
     Option.bind (Y7 y4 b2) fun t8=>
     some (!decide (t8 = 0))
 else
   some false
def A5p (k1 : Int) : Option (Int):=
 some k1
def B8d (a1 : Int) (b2 : Int) : Option (Int):=
 some 0
def B4h (a1 : Int) (b2 : Int) : Option (Int):=
 Option.bind (A4V a1 2) fun t3=>
 Option.bind (N7 (b2 + t3)) fun t4=>
 some t4
def B7w (a1 : Int) (b2 : Int) (x3 : Int) (y4 : Int) : Option (Bool):=
 some false
def B4q (a1 : Int) (b2 : Int) : Option (Int):=
 Option.bind (A4V a1 2) fun t3=>
 some t3
def A6s (k1 : Int) (t2 : Int) (t3 : Int) : Option (Int):=
 Option.bind (N7 (k1 + t2)) fun t4=>
 Option.bind (Y7 t4 t3) fun t5=>
 some t5
def A6w (k1 : Int) (t2 : Int) (t3 : Int) : Option (Int):=
 Option.bind (N7 (t2 - k1)) fun t4=>
 Option.bind (N7 (t4 + t3)) fun t5=>
 Option.bind (Y7 t5 t3) fun t6=>
 some t6
def A8S (a1 : Int) : ((List (Int→Option Int))×Int)→Option (((List (Int→Option Int))×Int)⊕(List (Int→Option Int))):=fun (out17,t22)=>
 bif decide (t22 < a1) then
  Option.bind (apL out17 [(fun y0=>A6s y0 t22 a1),(fun y0=>A6w y0 t22 a1)]) fun t51=>
  Option.bind (N7 (t22 + 1)) fun t57=>
  some (Sum.inl (t51,t57))
 else
  some (Sum.inr out17)
def A7L (a1 : Int) (b2 : Int) : Option (List (Int→Option Int)):=
 Option.bind (
   iter (A8S a1) FUEL (([] : List (Int→Option Int)),0)) fun out10=>
 some out10
def T9 (k1 : Int) (t2 : Int) (t3 : Int) : Option (Bool):=
 bif decide (0 < t2) then
   bif decide (k1 = t3) then
     some true
   else
     bif decide (t2 = 2) then
       Option.bind (N7 (2 * t3)) fun t7=>
       Option.bind (N7 (t7 + 1)) fun t8=>
       some (decide (k1 = t8))
     else
       some false
 else
   bif decide (t2 = 2) then
     Option.bind (N7 (2 * t3)) fun t10=>
     Option.bind (N7 (t10 + 1)) fun t11=>
     some (decide (k1 = t11))
   else
     some false
def A1F (k1 : Int) (t2 : Int→Option Bool) (t5 : Int) (t6 : Int) : Option (Int):=
 Option.bind (t2 k1) fun t7=>
 bif t7 then
   some k1
 else
   Option.bind (N7 (t5 + t6)) fun t21=>
   Option.bind (N7 (t21 - 1)) fun t22=>
   Option.bind (N7 (t22 - k1)) fun t23=>
   some t23
def A2k (k1 : Int) (t2 : Int→Option Bool) (t5 : Int) (t6 : Int) : Option (Int):=
 Option.bind (t2 k1) fun t7=>
 bif t7 then
   Option.bind (N7 (3 * t5)) fun t21=>
   Option.bind (N7 (t21 + 1)) fun t22=>
   Option.bind (N7 (t22 - k1)) fun t23=>
   some t23
 else
   bif decide (k1 < t5) then
     Option.bind (N7 (t5 - 1)) fun t25=>
     Option.bind (N7 (t25 - k1)) fun t26=>
     some t26
   else
     Option.bind (N7 (2 * t6)) fun t27=>
     Option.bind (N7 (t27 + t5)) fun t28=>
     Option.bind (N7 (t28 - 1)) fun t29=>
     Option.bind (N7 (t29 - k1)) fun t30=>
     some t30
def A7H (k1 : Int) (t2 : Int→Option Int) (t5 : Int→Option Int) : Option (Int):=
 Option.bind (t5 k1) fun t8=>
 Option.bind (t2 t8) fun t21=>
 some t21
def A8s (a1 : Int) (b2 : Int) : Option (List (Int→Option Int)):=
 Option.bind (B0H a1 b2) fun t11=>
 bif !decide (b2 = 1) then
   Option.bind (apL [A5p,(fun y0=>A1F y0 (fun y0=>T9 y0 b2 a1) t11 a1)] [(fun y0=>A2k y0 (fun y0=>T9 y0 b2 a1) a1 t11),(fun y0=>A7H y0 (fun y0=>A1F y0 (fun y0=>T9 y0 b2 a1) t11 a1) (fun y0=>A2k y0 (fun y0=>T9 y0 b2 a1) a1 t11))]) fun t106=>
   some t106
 else
   some [A5p,(fun y0=>A1F y0 (fun y0=>T9 y0 b2 a1) t11 a1)]
def A7G (k1 : Int) (t2 : Int) (t3 : Int) : Option (Int):=
 Option.bind (N7 (2 * t3)) fun t4=>
 Option.bind (N7 (t2 + t4)) fun t5=>
 Option.bind (N7 (t5 - 1)) fun t6=>
 Option.bind (N7 (t6 - k1)) fun t7=>
 some t7
def A8v (a1 : Int) (b2 : Int) : Option (List (Int→Option Int)):=
 some [A5p,(fun y0=>A7G y0 a1 b2)]
def A8F (k1 : Int) (t2 : Int) : Option (Int):=
 Option.bind (N7 (t2 - 1)) fun t3=>
 Option.bind (N7 (t3 - k1)) fun t4=>
 some t4
def B0r (a1 : Int) (b2 : Int) : Option (List (Int→Option Int)):=
 some [A5p,(fun y0=>A8F y0 a1)]
def B0z (s1 : Int) : Option (A1E×Bool):=
 bif decide (s1 = 3) then
  some ((A1E.mk (⟨#[104,111,114,115,101,115,104,111,101]⟩ : ByteArray) A4b A3x A3A B4h A8v),true)
 else
  bif decide (s1 = 4) then
   some ((A1E.mk (⟨#[114,111,119]⟩ : ByteArray) A4S A4c B7w B4q B0r),true)
  else
   some ((A1E.mk (⟨#[]⟩ : ByteArray) (fun _ _=>none) (fun _ _ _ _=>none) (fun _ _ _ _=>none) (fun _ _=>none) (fun _ _=>none)),false)
def A0n (s1 : Int) : Option (A1E×Bool):=
 bif decide (s1 = 1) then
   some ((A1E.mk (⟨#[114,111,117,110,100]⟩ : ByteArray) A3r A2U A2R B8d A7L),true)
 else
   bif decide (s1 = 2) then
     some ((A1E.mk (⟨#[108,111,110,103]⟩ : ByteArray) A3Y A3C A3s A3t A8s),true)
   else
     B0z s1
def A3a (t1 : C8) : Option (Int):=
 Option.bind (A0n t1.O6) fun (t8,t9)=>
 bif !t9 then
   some 0
 else
   Option.bind (t8.A0j t1.fA t1.fB) fun t33=>
   some t33
def A3O (t1 : C8) (x4 : Int) (y5 : Int) : Option (Bool):=
 Option.bind (A0n t1.O6) fun (t10,t11)=>
 bif !decide (x4 = y5) then
   Option.bind (t10.A5i t1.fA t1.fB (min x4 y5) (max x4 y5)) fun t35=>
   some t35
 else
   some false
def A4i (t1 : C8) (x4 : Int) (y5 : Int) : Option (Bool):=
 Option.bind (A0n t1.O6) fun (t10,t11)=>
 bif !decide (x4 = y5) then
   Option.bind (t10.A5e t1.fA t1.fB (min x4 y5) (max x4 y5)) fun t35=>
   some t35
 else
   some false
def B4n (t1 : C8) (x4 : Int) (y5 : Int) : Option (Bool):=
 Option.bind (A3O t1 x4 y5) fun t10=>
 bif t10 then
   some true
 else
   Option.bind (A4i t1 x4 y5) fun t19=>
   some t19
def A3D (t22 : List Int) : (Int×(List Int))→Option ((Int×(List Int))⊕(List Int)):=fun (t31,out32)=>
 bif decide (t31 < (t22.length : Int)) then
  Option.bind (J6 out32 t31) fun e45=>
  Option.bind (some (List.set out32 t31.toNat (-1))) fun l48=>
  Option.bind (N7 (t31 + 1)) fun t51=>
  some (Sum.inl (t51,l48))
 else
  some (Sum.inr out32)
def B4H (t1 : C8) (e90 : Int) (t110 : List Int) (t115 : Int) (queue116 : List Int) : Option (((List Int)×Int×(List Int))⊕((List Int)×(List Int))):=
 Option.bind (J6 t110 t115) fun e129=>
 Option.bind (
  bif decide (e129 < 0) then
   Option.bind (B4n t1 e90 t115) fun t137=>
   some t137
  else
   some false) fun t135=>
 bif t135 then
  Option.bind (J6 t110 e90) fun e149=>
  Option.bind (N7 (e149 + 1)) fun t152=>
  Option.bind (J6 t110 t115) fun e153=>
  Option.bind (some (List.set t110 t115.toNat t152)) fun l156=>
  Option.bind (apL queue116 [t115]) fun t162=>
  Option.bind (N7 (t115 + 1)) fun t168=>
  some (Sum.inl (l156,t168,t162))
 else
  Option.bind (N7 (t115 + 1)) fun t169=>
  some (Sum.inl (t110,t169,queue116))
def A6X (t1 : C8) (out72 : List Int) (e90 : Int) : ((List Int)×Int×(List Int))→Option (((List Int)×Int×(List Int))⊕((List Int)×(List Int))):=fun (t110,t115,queue116)=>
 bif decide (t115 < (out72.length : Int)) then
  B4H t1 e90 t110 t115 queue116
 else
  some (Sum.inr (t110,queue116))
def A6U (t1 : C8) : ((List Int)×(List Int))→Option (((List Int)×(List Int))⊕(List Int)):=fun (out72,queue77)=>
 bif decide (0 < (queue77.length : Int)) then
  Option.bind (J6 queue77 0) fun e90=>
  Option.bind (sbL queue77 1 (queue77.length : Int)) fun t93=>
  Option.bind (
   iter (A6X t1 out72 e90) FUEL (out72,0,t93)) fun (out100,queue105)=>
  some (Sum.inl (out100,queue105))
 else
  some (Sum.inr out72)
def B1h (t1 : C8) (from4 : Int) : Option (List Int):=
 Option.bind (A3a t1) fun t9=>
 Option.bind (mkL t9 0) fun t22=>
 Option.bind (
   iter (A3D t22) FUEL (0,t22)) fun out26=>
 Option.bind (J6 out26 from4) fun e55=>
 Option.bind (some (List.set out26 from4.toNat 0)) fun l58=>
 Option.bind (
   iter (A6U t1) FUEL (l58,[from4])) fun out67=>
 some out67
def A5L (t45 : List Int) : ((List Int)×Int)→Option (((List Int)×Int)⊕(List Int)):=fun (t64,t69)=>
 bif decide (t69 < (t45.length : Int)) then
  Option.bind (J6 t64 t69) fun e78=>
  bif decide (e78 < 0) then
   Option.bind (J6 t64 t69) fun e82=>
   Option.bind (some (List.set t64 t69.toNat (t64.length : Int))) fun l85=>
   Option.bind (N7 (t69 + 1)) fun t88=>
   some (Sum.inl (l85,t88))
  else
   Option.bind (N7 (t69 + 1)) fun t89=>
   some (Sum.inl (t64,t89))
 else
  some (Sum.inr t64)
def A9t (t1 : C8) : Option (List Int):=
 Option.bind (A0n t1.O6) fun (t8,t9)=>
 Option.bind (t8.B9n t1.fA t1.fB) fun t32=>
 Option.bind (B1h t1 t32) fun t45=>
 Option.bind (
   iter (A5L t45) FUEL (t45,0)) fun out59=>
 some out59
def A1S (t1 : C8) (t8 : Int) : (Int×Int)→Option ((Int×Int)⊕(Unit⊕Int)):=fun (t29,last30)=>
 bif decide (t29 < (t1.A2H.length : Int)) then
  Option.bind (J6 t1.A2H t29) fun e39=>
  bif decide (e39≤last30) then
   some (Sum.inr (Sum.inr 11))
  else
   bif decide (t8≤e39) then
    some (Sum.inr (Sum.inr 11))
   else
    Option.bind (N7 (t29 + 1)) fun t44=>
    some (Sum.inl (t44,e39))
 else
  some (Sum.inr (Sum.inl ()))
def B4I (t1 : C8) (t8 : Int) : Option (Int):=
 bif decide (t8 = 0) then
  some 10
 else
  Option.bind (
   iter (A1S t1 t8) FUEL (0,(-1))) fun o26=>match o26 with
  | .inl _u=>
   bif decide (t1.fX < 0) then
    some 2
   else
    bif decide (1000 < t1.fX) then
     some 2
    else
     bif decide (t1.fY < 0) then
      some 2
     else
      bif decide (1000 < t1.fY) then
       some 2
      else
       some 0
  | .inr p=>
   some p
def A6t (t1 : C8) : Option (Int):=
 Option.bind (A3a t1) fun t8=>
 Option.bind (B4k t1.F8) fun t16=>
 bif !t16 then
   some 4
 else
   B4I t1 t8
def A5H (x1 : C8) (t4 : C8) : Option (Bool):=
 some (decide (x1.F8 = t4.F8))
def A4r (l1 : List C8) : Int→Option (Int⊕(Unit⊕(Int×Int))):=fun t6=>
 bif decide (t6 < (l1.length : Int)) then
  Option.bind (J6 l1 t6) fun e15=>
  Option.bind (A6t e15) fun t25=>
  bif !decide (t25 = 0) then
   some (Sum.inr (Sum.inr (t6,t25)))
  else
   Option.bind (sbL l1 0 t6) fun t34=>
   Option.bind (A3W t34 (fun y0=>A5H y0 e15)) fun t47=>
   bif t47 then
    some (Sum.inr (Sum.inr (t6,5)))
   else
    Option.bind (N7 (t6 + 1)) fun t56=>
    some (Sum.inl t56)
 else
  some (Sum.inr (Sum.inl ()))
def A4O (l1 : List C8) : Option (Int×Int):=
 bif decide (16 < (l1.length : Int)) then
   some (0,7)
 else
   Option.bind (
     iter (A4r l1) FUEL 0) fun o3=>match o3 with
   | .inl _u=>
     some (0,0)
   | .inr p=>
     some p
def B1r (x1 : C8) (t4 : ByteArray) : Option (Bool):=
 some (decide (x1.F8 = t4))
def A4g (l1 : List C8) : Option (Bool):=
 Option.bind (A4O l1) fun (t2,t3)=>
 some (decide (t3 = 0))
def A3E (t21 : List C8) : (Int×Int)→Option ((Int×Int)⊕Int):=fun (t30,n31)=>
 bif decide (t30 < (t21.length : Int)) then
  Option.bind (J6 t21 t30) fun e40=>
  Option.bind (A3a e40) fun t50=>
  Option.bind (N7 (n31 + t50)) fun t58=>
  Option.bind (N7 (t30 + 1)) fun t59=>
  some (Sum.inl (t59,t58))
 else
  some (Sum.inr n31)
def A3i (l1 : List C8) (t2 : Int) : Option (Int):=
 Option.bind (
   bif decide (t2 < 0) then
     some true
   else
     bif decide ((l1.length : Int)≤t2) then
       some true
     else
       Option.bind (A4g l1) fun t9=>
       some (!t9)) fun t6=>
 bif t6 then
   some 0
 else
   Option.bind (sbL l1 0 t2) fun t21=>
   Option.bind (
     iter (A3E t21) FUEL (0,0)) fun n29=>
   some n29
def A6E (l1 : List C8) : Option (Int):=
 bif decide ((l1.length : Int) = 0) then
   some 0
 else
   Option.bind (N7 ((l1.length : Int) - 1)) fun t3=>
   Option.bind (J6 l1 t3) fun e4=>
   Option.bind (A3a e4) fun t9=>
   some t9
def A2d (l1 : List C8) : Option (Int):=
 Option.bind (A4g l1) fun t2=>
 bif !t2 then
   some 0
 else
   Option.bind (N7 ((l1.length : Int) - 1)) fun t11=>
   Option.bind (A3i l1 t11) fun t12=>
   Option.bind (A6E l1) fun t20=>
   Option.bind (N7 (t12 + t20)) fun t28=>
   some t28
def A3F (l1 : List C8) : (Int×Int)→Option ((Int×Int)⊕(Unit⊕(Int×Int×Bool))):=fun (seat23,t24)=>
 bif decide (t24 < (l1.length : Int)) then
  Option.bind (J6 l1 t24) fun e33=>
  Option.bind (A3a e33) fun t43=>
  bif decide (seat23 < t43) then
   some (Sum.inr (Sum.inr (t24,seat23,true)))
  else
   Option.bind (N7 (seat23 - t43)) fun t52=>
   Option.bind (N7 (t24 + 1)) fun t53=>
   some (Sum.inl (t52,t53))
 else
  some (Sum.inr (Sum.inl ()))
def A2C (l1 : List C8) (seat2 : Int) : Option (Int×Int×Bool):=
 Option.bind (
   bif decide (seat2 < 0) then
     some true
   else
     Option.bind (A4g l1) fun t8=>
     some (!t8)) fun t6=>
 bif t6 then
   some (0,0,false)
 else
   Option.bind (
     iter (A3F l1) FUEL (seat2,0)) fun o20=>match o20 with
   | .inl _u=>
     some (0,0,false)
   | .inr p=>
     some p
def B4s (l1 : List C8) (name2 : ByteArray) : Option (Int×Bool):=
 Option.bind (A2A l1 (fun y0=>B1r y0 name2)) fun t15=>
 bif decide (t15 < 0) then
   some (0,false)
 else
   Option.bind (A4g l1) fun t24=>
   bif !t24 then
     some (0,false)
   else
     some (t15,true)
def B9E (t1 : C8) : Option (Int):=
 Option.bind (A6t t1) fun t8=>
 bif !decide (t8 = 0) then
   none
 else
   Option.bind (A3a t1) fun t17=>
   some t17
def B4d (l1 : List C8) (a2 : Int) : Option (Bool):=
 Option.bind (A2C l1 a2) fun (t3,t4,t5)=>
 bif t5 then
   Option.bind (J6 l1 t3) fun e14=>
   Option.bind (A0Q e14.A2H t4) fun t19=>
   some t19
 else
   some false
def B1s (l1 : List C8) (a2 : Int) : Option (Int):=
 Option.bind (A2C l1 a2) fun (t3,t4,t5)=>
 bif !t5 then
   some 0
 else
   Option.bind (J6 l1 t3) fun e14=>
   Option.bind (A9t e14) fun t19=>
   Option.bind (J6 t19 t4) fun e30=>
   some e30
def A8l (l1 : List C8) (a2 : Int) (b3 : Int) : Option (C8×Int×Int×Bool):=
 Option.bind (A2C l1 a2) fun (t5,t6,t7)=>
 Option.bind (A2C l1 b3) fun (t15,t16,t17)=>
 Option.bind (
   bif !t7 then
     some true
   else
     bif !t17 then
       some true
     else
       some (!decide (t5 = t15))) fun t28=>
 bif t28 then
   some ((C8.mk (⟨#[]⟩ : ByteArray) 0 0 0 ([] : List Int) 0 0),0,0,false)
 else
   Option.bind (J6 l1 t5) fun e35=>
   some (e35,t6,t16,true)
def A9D (l1 : List C8) (a2 : Int) (b3 : Int) : Option (Bool):=
 Option.bind (A8l l1 a2 b3) fun (t4,t5,t6,t7)=>
 bif t7 then
   Option.bind (A3O t4 t5 t6) fun t23=>
   some t23
 else
   some false
def A9k (l1 : List C8) (a2 : Int) (b3 : Int) : Option (Bool):=
 Option.bind (A8l l1 a2 b3) fun (t4,t5,t6,t7)=>
 bif t7 then
   Option.bind (A4i t4 t5 t6) fun t23=>
   some t23
 else
   some false
end Go.Dm
open Go Go.Sl
namespace Go.Dm
def A6F (s1 : ByteArray) : Int→Option (Int⊕(Unit⊕Bool)):=fun t14=>
 bif decide (t14 < (s1.size : Int)) then
  Option.bind (B7K s1 t14) fun ch23=>
  bif decide (ch23 < 97) then
   some (Sum.inr (Sum.inr false))
  else
   Option.bind (B7K s1 t14) fun ch25=>
   bif decide (122 < ch25) then
    some (Sum.inr (Sum.inr false))
   else
    Option.bind (N7 (t14 + 1)) fun t27=>
    some (Sum.inl t27)
 else
  some (Sum.inr (Sum.inl ()))
def A3P (s1 : ByteArray) : Option (Bool):=
 Option.bind (
   bif decide ((s1.size : Int) = 0) then
     some true
   else
     some (decide (12 < (s1.size : Int)))) fun t5=>
 bif t5 then
   some false
 else
   Option.bind (
     iter (A6F s1) FUEL 0) fun o11=>match o11 with
   | .inl _u=>
     some true
   | .inr p=>
     some p
def A6o (s1 : ByteArray) : Option (Bool):=
 bif decide (s1 = (⟨#[]⟩ : ByteArray)) then
   some true
 else
   Option.bind (A3P s1) fun t3=>
   some t3
def B3K (g1 : D6) (t73 : Int) : Option (Int⊕(Unit⊕Int)):=
 Option.bind (J6 g1.M6 t73) fun e82=>
 Option.bind (A3P e82) fun t85=>
 bif !t85 then
  some (Sum.inr (Sum.inr 22))
 else
  bif decide (0 < t73) then
   Option.bind (N7 (t73 - 1)) fun t95=>
   Option.bind (J6 g1.M6 t95) fun e96=>
   bif !sLt e96 e82 then
    some (Sum.inr (Sum.inr 22))
   else
    Option.bind (N7 (t73 + 1)) fun t100=>
    some (Sum.inl t100)
  else
   Option.bind (N7 (t73 + 1)) fun t101=>
   some (Sum.inl t101)
def A3X (g1 : D6) : Int→Option (Int⊕(Unit⊕Int)):=fun t73=>
 bif decide (t73 < (g1.M6.length : Int)) then
  B3K g1 t73
 else
  some (Sum.inr (Sum.inl ()))
def B3d (g1 : D6) : Option (Int):=
 Option.bind (
  bif decide (g1.V3 < 0) then
   some true
  else
   some (decide (9999 < g1.V3))) fun t54=>
 bif t54 then
  some 21
 else
  Option.bind (
   bif decide (g1.A0f < 0) then
    some true
   else
    some (decide (2 < g1.A0f))) fun t63=>
  bif t63 then
   some 20
  else
   bif decide (4 < (g1.M6.length : Int)) then
    some 22
   else
    Option.bind (
     iter (A3X g1) FUEL 0) fun o70=>match o70 with
    | .inl _u=>
     some 0
    | .inr p=>
     some p
def A5q (g1 : D6) : Option (Int):=
 Option.bind (
   Option.bind (A3P g1.F8) fun t12=>
   bif !t12 then
     some true
   else
     Option.bind (A6o g1.A0k) fun t21=>
     bif !t21 then
       some true
     else
       Option.bind (A6o g1.V9) fun t30=>
       bif !t30 then
         some true
       else
         Option.bind (A6o g1.Z0) fun t39=>
         some (!t39)) fun t11=>
 bif t11 then
   some 4
 else
   B3d g1
def A7X (g1 : D6) : Option (D6):=
 Option.bind (A1Y g1.M6) fun t6=>
 some (D6.mk g1.F8 g1.A0k g1.V9 g1.V3 g1.A0f g1.Z0 g1.A0u g1.U2 t6)
def bytealg_CompareString (a1 : ByteArray) (b2 : ByteArray) : Option (Int):=
 some (B9c a1 b2)
def strings_Compare (a1 : ByteArray) (b2 : ByteArray) : Option (Int):=
 Option.bind (bytealg_CompareString a1 b2) fun t3=>
 some t3
def A1o (a1 : F5) (b2 : F5) : Option (Int):=
 Option.bind (strings_Compare a1.fA b2.fA) fun t11=>
 bif !decide (t11 = 0) then
   some t11
 else
   Option.bind (strings_Compare a1.fB b2.fB) fun t20=>
   some t20
def A6r (one1 : ByteArray) (other2 : ByteArray) (kind3 : Int) : Option (F5):=
 some (F5.mk (minS one1 other2) (maxS one1 other2) kind3)
def B4l  : Option (K4):=
 some (K4.mk (U6.mk ([] : List D6) ([] : List F5)) ([] : List (ByteArray×Int)))
def A4s (b1 : K4) : Option (Bool):=
 some false
def A1l (x1 : List F5) (target2 : F5) (cmp3 : F5→F5→Option Int) : (Int×Int)→Option ((Int×Int)⊕Int):=fun (j12,i13)=>
 bif decide (i13 < j12) then
  Option.bind (N7 (i13 + j12)) fun t22=>
  Option.bind (A1p .u64 t22) fun t23=>
  Option.bind (A5x .u64 t23 1) fun t24=>
  Option.bind (A1p .i64 t24) fun t25=>
  Option.bind (J6 x1 t25) fun e26=>
  Option.bind (cmp3 e26 target2) fun t29=>
  bif decide (t29 < 0) then
   Option.bind (N7 (t25 + 1)) fun t43=>
   some (Sum.inl (j12,t43))
  else
   some (Sum.inl (t25,i13))
 else
  some (Sum.inr i13)
def B0G (x1 : List F5) (target2 : F5) (cmp3 : F5→F5→Option Int) : Option (Int×Bool):=
 Option.bind (
   iter (A1l x1 target2 cmp3) FUEL ((x1.length : Int),0)) fun i11=>
 bif decide (i11 < (x1.length : Int)) then
   Option.bind (J6 x1 i11) fun e48=>
   Option.bind (cmp3 e48 target2) fun t51=>
   some (i11,decide (t51 = 0))
 else
   some (i11,false)
def B7S (s1 : List F5) (i3 : Int) (v4 : List F5) : Option (List F5):=
 Option.bind (bdV i3 (s1.length : Int) (s1.length : Int)) fun u5=>
 bif decide ((v4.length : Int) = 0) then
   some s1
 else
   bif decide (i3 = (s1.length : Int)) then
     Option.bind (apL s1 v4) fun t8=>
     some t8
   else
     Option.bind (N7 ((s1.length : Int) + (v4.length : Int))) fun t17=>
     none
def A2G (b1 : K4) (one2 : ByteArray) (other3 : ByteArray) : Option (Int×Bool):=
 Option.bind (A6r one2 other3 0) fun t13=>
 Option.bind (B0G b1.K5.A1z t13 A1o) fun (t32,t33)=>
 some (t32,t33)
def B8w (b1 : K4) (g2 : D6) : Option (Int×K4):=
 Option.bind (lkM b1.fat g2.F8 0) fun (e45,ok46)=>
 bif ok46 then
  some (5,(K4.mk (U6.mk b1.K5.Z8 b1.K5.A1z) b1.fat))
 else
  bif decide ((b1.K5.Z8.length : Int) = 64) then
   some (7,(K4.mk (U6.mk b1.K5.Z8 b1.K5.A1z) b1.fat))
  else
   Option.bind (some (A2O b1.fat g2.F8 (b1.K5.Z8.length : Int))) fun m52=>
   Option.bind (A7X g2) fun t55=>
   Option.bind (apL b1.K5.Z8 [t55]) fun t68=>
   some (0,(K4.mk (U6.mk t68 b1.K5.A1z) m52))
def B9V (b1 : K4) (g2 : D6) : Option (Int×K4):=
 Option.bind (A4s (K4.mk (U6.mk b1.K5.Z8 b1.K5.A1z) b1.fat)) fun t24=>
 bif t24 then
   some (1,(K4.mk (U6.mk b1.K5.Z8 b1.K5.A1z) b1.fat))
 else
   Option.bind (A5q g2) fun t36=>
   bif !decide (t36 = 0) then
     some (t36,(K4.mk (U6.mk b1.K5.Z8 b1.K5.A1z) b1.fat))
   else
     B8w b1 g2
def A7E (b1 : K4) (one2 : ByteArray) (other3 : ByteArray) : Int→Option (Int⊕(Unit⊕(Int×K4))):=fun t48=>
 bif decide (t48 < ([one2,other3].length : Int)) then
  Option.bind (J6 [one2,other3] t48) fun e57=>
  Option.bind (lkM b1.fat e57 0) fun (e60,ok61)=>
  bif !ok61 then
   some (Sum.inr (Sum.inr (6,(K4.mk (U6.mk b1.K5.Z8 b1.K5.A1z) b1.fat))))
  else
   Option.bind (N7 (t48 + 1)) fun t65=>
   some (Sum.inl t65)
 else
  some (Sum.inr (Sum.inl ()))
def A5v (b1 : K4) (one2 : ByteArray) (other3 : ByteArray) (kind4 : Int) : Option (Int×K4):=
 Option.bind (A2G (K4.mk (U6.mk b1.K5.Z8 b1.K5.A1z) b1.fat) one2 other3) fun (t81,t82)=>
 bif t82 then
  some (5,(K4.mk (U6.mk b1.K5.Z8 b1.K5.A1z) b1.fat))
 else
  bif decide ((b1.K5.A1z.length : Int) = 256) then
   some (7,(K4.mk (U6.mk b1.K5.Z8 b1.K5.A1z) b1.fat))
  else
   Option.bind (A6r one2 other3 kind4) fun t95=>
   Option.bind (B7S b1.K5.A1z t81 [t95]) fun t110=>
   some (0,(K4.mk (U6.mk b1.K5.Z8 t110) b1.fat))
def B6D (b1 : K4) (one2 : ByteArray) (other3 : ByteArray) (kind4 : Int) : Option (Int×K4):=
 Option.bind (A4s (K4.mk (U6.mk b1.K5.Z8 b1.K5.A1z) b1.fat)) fun t20=>
 bif t20 then
   some (1,(K4.mk (U6.mk b1.K5.Z8 b1.K5.A1z) b1.fat))
 else
   Option.bind (
     bif !decide (kind4 = 1) then
       bif !decide (kind4 = 2) then
         some true
       else
         some (decide (one2 = other3))
     else
       some (decide (one2 = other3))) fun t35=>
   bif t35 then
     some (23,(K4.mk (U6.mk b1.K5.Z8 b1.K5.A1z) b1.fat))
   else
     Option.bind (
       iter (A7E b1 one2 other3) FUEL 0) fun o45=>match o45 with
     | .inl _u=>
       A5v b1 one2 other3 kind4
     | .inr p=>
       some p
def A2F (r1 : R4) : ((List D6)×(List F5)×(List (ByteArray×Int))×Int)→Option (((List D6)×(List F5)×(List (ByteArray×Int))×Int)⊕(((List D6)×(List F5)×(List (ByteArray×Int)))⊕((Option K4)×Int×Int))):=fun (guests49,ties54,at59,t64)=>
 bif decide (t64 < (r1.A8.length : Int)) then
  Option.bind (J6 r1.A8 t64) fun e73=>
  Option.bind (B9V (K4.mk (U6.mk guests49 ties54) at59) e73) fun (t83,q84)=>
  bif !decide (t83 = 0) then
   some (Sum.inr (Sum.inr ((none),t64,t83)))
  else
   Option.bind (N7 (t64 + 1)) fun t105=>
   some (Sum.inl (q84.K5.Z8,q84.K5.A1z,q84.fat,t105))
 else
  some (Sum.inr (Sum.inl (guests49,ties54,at59)))
def B4L (r1 : R4) (guests127 : List D6) (ties132 : List F5) (at137 : List (ByteArray×Int)) (t142 : Int) (e151 : F5) (t162 : Bool) : Option (((List D6)×(List F5)×(List (ByteArray×Int))×Int)⊕(((List D6)×(List F5)×(List (ByteArray×Int)))⊕((Option K4)×Int×Int))):=
 bif t162 then
  Option.bind (B6D (K4.mk (U6.mk guests127 ties132) at137) e151.fA e151.fB e151.H8) fun (t181,q182)=>
  bif !decide (t181 = 0) then
   Option.bind (N7 ((r1.A8.length : Int) + t142)) fun t203=>
   some (Sum.inr (Sum.inr ((none),t203,t181)))
  else
   Option.bind (N7 (t142 + 1)) fun t204=>
   some (Sum.inl (q182.K5.Z8,q182.K5.A1z,q182.fat,t204))
 else
  bif !decide (23 = 0) then
   Option.bind (N7 ((r1.A8.length : Int) + t142)) fun t206=>
   some (Sum.inr (Sum.inr ((none),t206,23)))
  else
   Option.bind (N7 (t142 + 1)) fun t207=>
   some (Sum.inl (guests127,ties132,at137,t207))
def A2B (r1 : R4) : ((List D6)×(List F5)×(List (ByteArray×Int))×Int)→Option (((List D6)×(List F5)×(List (ByteArray×Int))×Int)⊕(((List D6)×(List F5)×(List (ByteArray×Int)))⊕((Option K4)×Int×Int))):=fun (guests127,ties132,at137,t142)=>
 bif decide (t142 < (r1.I8.length : Int)) then
  Option.bind (J6 r1.I8 t142) fun e151=>
  Option.bind (
   bif sLt e151.fA e151.fB then
    bif decide (t142 = 0) then
     some true
    else
     Option.bind (N7 (t142 - 1)) fun t165=>
     Option.bind (J6 r1.I8 t165) fun e166=>
     Option.bind (A1o e166 e151) fun t169=>
     some (decide (t169≤0))
   else
    some false) fun t162=>
  B4L r1 guests127 ties132 at137 t142 e151 t162
 else
  some (Sum.inr (Sum.inl (guests127,ties132,at137)))
def A6u (r1 : R4) : Option ((Option K4)×Int×Int):=
 Option.bind (B4l) fun t10=>
 Option.bind (
   iter (A2F r1) FUEL (t10.K5.Z8,t10.K5.A1z,t10.fat,0)) fun o31=>match o31 with
 | .inl (guests34,ties39,at44)=>
   Option.bind (
     iter (A2B r1) FUEL (guests34,ties39,at44,0)) fun o109=>match o109 with
   | .inl (guests112,ties117,at122)=>
     some ((some (K4.mk (U6.mk guests112 ties117) at122)),0,0)
   | .inr p=>
     some p
 | .inr p=>
   some p
def A5j (r1 : R4) : Option (Int×Int):=
 Option.bind (A6u r1) fun (t10,t11,t12)=>
 some (t11,t12)
end Go.Dm
open Go Go.Sl
namespace Go.Dm
def A9T (g1 : D6) : Option (D6):=
 Option.bind (A1Y g1.M6) fun t6=>
 some (D6.mk g1.F8 g1.A0k g1.V9 g1.V3 g1.A0f g1.Z0 g1.A0u g1.U2 t6)
def B0B (b1 : K4) (name2 : ByteArray) : Option (D6×Bool):=
 Option.bind (A4s b1) fun t4=>
 bif t4 then
   some ((D6.mk (⟨#[]⟩ : ByteArray) (⟨#[]⟩ : ByteArray) (⟨#[]⟩ : ByteArray) 0 0 (⟨#[]⟩ : ByteArray) false false ([] : List ByteArray)),false)
 else
   Option.bind (lkM b1.fat name2 0) fun (e24,ok25)=>
   bif !ok25 then
     some ((D6.mk (⟨#[]⟩ : ByteArray) (⟨#[]⟩ : ByteArray) (⟨#[]⟩ : ByteArray) 0 0 (⟨#[]⟩ : ByteArray) false false ([] : List ByteArray)),false)
   else
     Option.bind (J6 b1.K5.Z8 e24) fun e31=>
     Option.bind (A9T e31) fun t36=>
     some ((D6.mk t36.F8 t36.A0k t36.V9 t36.V3 t36.A0f t36.Z0 t36.A0u t36.U2 t36.M6),true)
def A4t (t1 : ByteArray) (t2 : D6) : Option (Bool):=
 Option.bind (A6a t2.M6 t1) fun t5=>
 some (!t5)
def A9w (b1 : K4) (one2 : ByteArray) (other3 : ByteArray) : Option (List ByteArray):=
 Option.bind (B0B b1 one2) fun (t4,t5)=>
 Option.bind (B0B b1 other3) fun (t20,t21)=>
 bif !t5 then
   some ([] : List ByteArray)
 else
   bif !t21 then
     some ([] : List ByteArray)
   else
     Option.bind (A2T t4.M6 (fun y0=>A4t y0 (D6.mk t20.F8 t20.A0k t20.V9 t20.V3 t20.A0f t20.Z0 t20.A0u t20.U2 t20.M6))) fun t54=>
     some t54
def B4e (b1 : K4) (one2 : ByteArray) (other3 : ByteArray) : Option (Int×Bool):=
 Option.bind (A4s b1) fun t4=>
 bif t4 then
   some (0,false)
 else
   Option.bind (A2G b1 one2 other3) fun (t13,t14)=>
   bif !t14 then
     some (0,false)
   else
     Option.bind (J6 b1.K5.A1z t13) fun e32=>
     some (e32.H8,true)
end Go.Dm
open Go Go.Sl
namespace Go.Dm
def B6H (s1 : ByteArray) : Int→Option (Int⊕(Unit⊕Bool)):=fun t14=>
 bif decide (t14 < (s1.size : Int)) then
  Option.bind (B7K s1 t14) fun ch23=>
  bif decide (ch23 < 97) then
   some (Sum.inr (Sum.inr false))
  else
   Option.bind (B7K s1 t14) fun ch25=>
   bif decide (122 < ch25) then
    some (Sum.inr (Sum.inr false))
   else
    Option.bind (N7 (t14 + 1)) fun t27=>
    some (Sum.inl t27)
 else
  some (Sum.inr (Sum.inl ()))
def B7Y (s1 : ByteArray) : Option (Bool):=
 Option.bind (
   bif decide ((s1.size : Int) = 0) then
     some true
   else
     some (decide (12 < (s1.size : Int)))) fun t5=>
 bif t5 then
   some false
 else
   Option.bind (
     iter (B6H s1) FUEL 0) fun o11=>match o11 with
   | .inl _u=>
     some true
   | .inr p=>
     some p
def B1B (g1 : D6) (t4 : ByteArray) : Option (Bool):=
 some (decide (g1.F8 = t4))
def A3B (p1 : A9) (name12 : ByteArray) : Option (Int):=
 Option.bind (A2u p1.A8 (fun y0=>B1B y0 name12)) fun t29=>
 some t29
def A6R (first1 : Int) (n2 : Int) (so3 : Int→Option Bool) : ((List Int)×Int)→Option (((List Int)×Int)⊕(List Int)):=fun (out14,k19)=>
 Option.bind (N7 (first1 + n2)) fun t27=>
 bif decide (k19 < t27) then
  Option.bind (so3 k19) fun t29=>
  bif t29 then
   Option.bind (apL out14 [k19]) fun t46=>
   Option.bind (N7 (k19 + 1)) fun t52=>
   some (Sum.inl (t46,t52))
  else
   Option.bind (N7 (k19 + 1)) fun t53=>
   some (Sum.inl (out14,t53))
 else
  some (Sum.inr out14)
def A8t (first1 : Int) (n2 : Int) (so3 : Int→Option Bool) : Option (List Int):=
 Option.bind (
   iter (A6R first1 n2 so3) FUEL (([] : List Int),first1)) fun out7=>
 some out7
def A2S (t14 : List C8) : ((List C8)×Int)→Option (((List C8)×Int)⊕(List C8)):=fun (tables35,t40)=>
 bif decide (t40 < (t14.length : Int)) then
  Option.bind (J6 tables35 t40) fun e49=>
  Option.bind (A2w e49.A2H) fun t54=>
  Option.bind (J6 tables35 t40) fun e65=>
  Option.bind (some (List.set tables35 t40.toNat (C8.mk e65.F8 e65.O6 e65.fA e65.fB t54 e65.fX e65.fY))) fun l74=>
  Option.bind (N7 (t40 + 1)) fun t77=>
  some (Sum.inl (l74,t77))
 else
  some (Sum.inr tables35)
def A2V (t81 : List D6) : ((List D6)×Int)→Option (((List D6)×Int)⊕(List D6)):=fun (guests102,t107)=>
 bif decide (t107 < (t81.length : Int)) then
  Option.bind (J6 guests102 t107) fun e116=>
  Option.bind (A1Y e116.M6) fun t121=>
  Option.bind (J6 guests102 t107) fun e132=>
  Option.bind (some (List.set guests102 t107.toNat (D6.mk e132.F8 e132.A0k e132.V9 e132.V3 e132.A0f e132.Z0 e132.A0u e132.U2 t121))) fun l141=>
  Option.bind (N7 (t107 + 1)) fun t144=>
  some (Sum.inl (l141,t144))
 else
  some (Sum.inr guests102)
def A7n (p1 : A9) : Option (A9):=
 Option.bind (A4M p1.D7) fun t14=>
 Option.bind (
   iter (A2S t14) FUEL (t14,0)) fun tables30=>
 Option.bind (A4K p1.A8) fun t81=>
 Option.bind (
   iter (A2V t81) FUEL (t81,0)) fun guests97=>
 Option.bind (A7C p1.I8) fun t148=>
 Option.bind (A2w p1.I6) fun t159=>
 Option.bind (A5O p1.J3) fun t170=>
 some (A9.mk tables30 guests97 t148 t159 t170)
def C2w (v1 : O8) (r2 : F6) : Option (Int×Int×Bool):=
 Option.bind (A3B v1.Q0.A1C r2.fA) fun t47=>
 Option.bind (A3B v1.Q0.A1C r2.fB) fun t55=>
 Option.bind (J6 v1.U3 t47) fun e63=>
 bif decide (0≤e63) then
   Option.bind (J6 v1.U3 t55) fun e67=>
   some (t47,t55,decide (0≤e67))
 else
   some (t47,t55,false)
def C5y (v1 : O8) (a2 : Int) (b3 : Int) : Option (Int×Bool):=
 Option.bind (J6 v1.U3 a2) fun e44=>
 Option.bind (J6 v1.Q0.A2g e44) fun e47=>
 Option.bind (J6 v1.U3 b3) fun e52=>
 Option.bind (lkM e47 e52 0) fun (e55,ok56)=>
 some (e55,ok56)
def C0v {σ : Type} (v1 : O8) (r2 : F6) (f3 : σ→Int→(List Int)→Option σ) (s0 : σ) : Option (σ):=
 Option.bind (C2w v1 r2) fun (t8,t9,t10)=>
 Option.bind (
   bif !t10 then
     some true
   else
     Option.bind (J6 v1.U3 t8) fun e63=>
     Option.bind (J6 v1.Q0.A4d e63) fun e66=>
     Option.bind (J6 v1.U3 t9) fun e69=>
     Option.bind (J6 v1.Q0.A4d e69) fun e72=>
     some (!decide (e66 = e72))) fun t21=>
 bif t21 then
   some s0
 else
   Option.bind (C5y v1 t8 t9) fun (t81,t82)=>
   bif decide (r2.fN = 0) then
     none
   else
     bif t82 then
       bif decide (t81 < r2.fN) then
         Option.bind (f3 s0 1 [t8,t9]) fun s100=>
         some s100
       else
         none
     else
       none
def B1L {σ : Type} (v1 : O8) (r2 : F6) (f3 : σ→Int→(List Int)→Option σ) (s0 : σ) : Option (σ):=
 none
def B1X {σ : Type} (v1 : O8) (r2 : F6) (f3 : σ→Int→(List Int)→Option σ) (s0 : σ) : Option (σ):=
 none
def B8J {σ : Type} (v1 : O8) (r2 : F6) (f3 : σ→Int→(List Int)→Option σ) (s0 : σ) : Option (σ):=
 none
def B4R {σ : Type} (v1 : O8) (r2 : F6) (f3 : σ→Int→(List Int)→Option σ) (s0 : σ) : Option (σ):=
 none
def C6G {σ : Type} (v1 : O8) (r2 : F6) (f3 : σ→Int→(List Int)→Option σ) (s0 : σ) : Option (σ):=
 none
def B6Q (v1 : O8) (e56 : Int) : Int→Option (Int⊕Int):=fun first66=>
 bif decide (0 < first66) then
  Option.bind (N7 (first66 - 1)) fun t75=>
  Option.bind (J6 v1.Q0.A4d t75) fun e76=>
  Option.bind (J6 v1.Q0.A4d e56) fun e79=>
  bif decide (e76 = e79) then
   Option.bind (N7 (first66 - 1)) fun t83=>
   some (Sum.inl t83)
  else
   some (Sum.inr first66)
 else
  some (Sum.inr first66)
def C3a {σ : Type} (v1 : O8) (r2 : F6) (f3 : σ→Int→(List Int)→Option σ) (s0 : σ) : Option (σ):=
 Option.bind (A3B v1.Q0.A1C r2.fA) fun t48=>
 Option.bind (J6 v1.U3 t48) fun e56=>
 bif decide (e56 < 0) then
   some s0
 else
   Option.bind (
     iter (B6Q v1 e56) FUEL e56) fun first65=>
   Option.bind (J6 v1.Q0.A4d e56) fun e87=>
   Option.bind (J6 v1.Q0.A1C.D7 e87) fun e90=>
   bif !decide (e90.F8 = r2.R6) then
     Option.bind (f3 s0 1 [t48]) fun s103=>
     some s103
   else
     Option.bind (N7 (e56 - first65)) fun t118=>
     bif !decide (t118 = r2.fN) then
       Option.bind (f3 s0 1 [t48]) fun s127=>
       some s127
     else
       some s0
def C0M {σ : Type} (v1 : O8) (r2 : F6) (f3 : σ→Int→(List Int)→Option σ) (s0 : σ) : Option (σ):=
 none
def C0g {σ : Type} (v1 : O8) (r2 : F6) (f3 : σ→Int→(List Int)→Option σ) (s0 : σ) : Option (σ):=
 none
def B6p {σ : Type} (v1 : O8) (r2 : F6) (f3 : σ→Int→(List Int)→Option σ) (s0 : σ) : Option (σ):=
 none
def B6G {σ : Type} (v1 : O8) (r2 : F6) (f3 : σ→Int→(List Int)→Option σ) (s0 : σ) : Option (σ):=
 none
def B3r {σ : Type} (v1 : O8) (r2 : F6) (f3 : σ→Int→(List Int)→Option σ) (s0 : σ) : Option (σ):=
 none
def C4u {σ : Type} (v1 : O8) (r2 : F6) (f3 : σ→Int→(List Int)→Option σ) (s0 : σ) : Option (σ):=
 none
def C0Q {σ : Type} (v1 : O8) (r2 : F6) (f3 : σ→Int→(List Int)→Option σ) (s0 : σ) : Option (σ):=
 none
def B8H {σ : Type} (v1 : O8) (r2 : F6) (f3 : σ→Int→(List Int)→Option σ) (s0 : σ) : Option (σ):=
 none
def C2y {σ : Type} (v1 : O8) (r2 : F6) (f3 : σ→Int→(List Int)→Option σ) (s0 : σ) : Option (σ):=
 none
def C2P {σ : Type} (v1 : O8) (r2 : F6) (f3 : σ→Int→(List Int)→Option σ) (s0 : σ) : Option (σ):=
 none
def C0I {σ : Type} (v1 : O8) (r2 : F6) (f3 : σ→Int→(List Int)→Option σ) (s0 : σ) : Option (σ):=
 none
end Go.Dm
open Go Go.Sl
namespace Go.Dm
def B4g {σ : Type} (n : Nat) (v : O8) (r : F6) (f : σ→Int→(List Int)→Option σ) (s : σ) : Option σ:=
 if n = 152 then C0v v r f s else
 if n = 153 then B1L v r f s else
 if n = 154 then B1X v r f s else
 if n = 155 then B8J v r f s else
 if n = 156 then B4R v r f s else
 if n = 157 then C6G v r f s else
 if n = 158 then C3a v r f s else
 if n = 159 then B3r v r f s else
 if n = 160 then C2y v r f s else
 if n = 161 then C0M v r f s else
 if n = 162 then C0g v r f s else
 if n = 163 then C0Q v r f s else
 if n = 164 then B6p v r f s else
 if n = 165 then B8H v r f s else
 if n = 166 then C2P v r f s else
 if n = 167 then C0I v r f s else
 if n = 168 then B6G v r f s else
 if n = 169 then C4u v r f s else
 none
def A9O (k1 : Int) (u2 : List Int) (t3 : Int) : Option (Int):=
 Option.bind (N7 (t3 + k1)) fun t4=>
 some t4
def A9s (v1 : O8) (i2 : Int) : Option (Int):=
 Option.bind (J6 v1.Q0.A1C.J3 i2) fun e44=>
 Option.bind (lkM v1.Q0.C3T e44.H8 (I5.mk (⟨#[]⟩ : ByteArray) 0 false 0 false 0 false (0 : Nat))) fun (e47,ok48)=>
 Option.bind (J6 v1.Q0.A1C.J3 i2) fun e51=>
 Option.bind (B4g e47.C5k v1 e51 (fun s_ y0 y1=>A9O y0 y1 s_) 0) fun s65=>
 some s65
def B4M (v1 : O8) : (Int×Int)→Option ((Int×Int)⊕Unit):=fun (t23,left24)=>
 bif decide (t23 < (v1.U3.length : Int)) then
  Option.bind (J6 v1.U3 t23) fun e33=>
  bif decide (e33 < 0) then
   Option.bind (N7 (left24 + 1)) fun t37=>
   Option.bind (J6 v1.Q0.A1C.A8 t23) fun e69=>
   bif e69.A0u then
    none
   else
    Option.bind (N7 (t23 + 1)) fun t75=>
    some (Sum.inl (t75,t37))
  else
   Option.bind (N7 (t23 + 1)) fun t76=>
   some (Sum.inl (t76,left24))
 else
  some (Sum.inr ())
def A8J (v1 : O8) (i2 : Int) : Option (Int):=
 Option.bind (A9s v1 i2) fun t3=>
 Option.bind (
   iter (B4M v1) FUEL (0,0)) fun _u=>
 Option.bind (J6 v1.Q0.A1C.J3 i2) fun e111=>
 bif decide (e111.H8 = 9) then
   none
 else
   bif decide (e111.H8 = 15) then
     none
   else
     bif decide (e111.H8 = 11) then
       none
     else
       some (max t3 0)
def A8X  : Option (List (Int×I5)):=
 Option.bind (some (A2O ([] : List (Int×I5)) 1 (I5.mk (⟨#[97,112,97,114,116]⟩ : ByteArray) 103 true 0 true 0 false (152 : Nat)))) fun m5=>
 Option.bind (some (A2O m5 2 (I5.mk (⟨#[98,101,115,105,100,101]⟩ : ByteArray) 103 true 0 false 0 false (153 : Nat)))) fun m9=>
 Option.bind (some (A2O m9 3 (I5.mk (⟨#[97,99,114,111,115,115]⟩ : ByteArray) 103 true 0 false 0 false (154 : Nat)))) fun m13=>
 Option.bind (some (A2O m13 4 (I5.mk (⟨#[110,101,97,114]⟩ : ByteArray) 103 true 0 true 1 false (155 : Nat)))) fun m17=>
 Option.bind (some (A2O m17 5 (I5.mk (⟨#[116,111,103,101,116,104,101,114]⟩ : ByteArray) 103 true 0 false 0 false (156 : Nat)))) fun m21=>
 Option.bind (some (A2O m21 6 (I5.mk (⟨#[97,116]⟩ : ByteArray) 103 false 116 false 0 false (157 : Nat)))) fun m25=>
 Option.bind (some (A2O m25 7 (I5.mk (⟨#[115,101,97,116]⟩ : ByteArray) 103 false 116 true 0 true (158 : Nat)))) fun m29=>
 Option.bind (some (A2O m29 8 (I5.mk (⟨#[97,108,116,101,114,110,97,116,101]⟩ : ByteArray) 0 false 101 false 0 false (159 : Nat)))) fun m33=>
 Option.bind (some (A2O m33 9 (I5.mk (⟨#[104,111,115,116]⟩ : ByteArray) 0 false 101 false 0 false (160 : Nat)))) fun m37=>
 Option.bind (some (A2O m37 10 (I5.mk (⟨#[114,101,97,99,104]⟩ : ByteArray) 101 false 0 false 0 false (161 : Nat)))) fun m41=>
 Option.bind (some (A2O m41 11 (I5.mk (⟨#[115,112,101,97,107]⟩ : ByteArray) 0 false 101 false 0 false (162 : Nat)))) fun m45=>
 Option.bind (some (A2O m45 12 (I5.mk (⟨#[112,101,97,99,101]⟩ : ByteArray) 0 false 101 false 0 false (163 : Nat)))) fun m49=>
 Option.bind (some (A2O m49 13 (I5.mk (⟨#[99,111,109,112,97,110,121]⟩ : ByteArray) 0 false 101 false 0 false (164 : Nat)))) fun m53=>
 Option.bind (some (A2O m53 14 (I5.mk (⟨#[104,111,110,111,117,114]⟩ : ByteArray) 0 false 101 false 0 false (165 : Nat)))) fun m57=>
 Option.bind (some (A2O m57 15 (I5.mk (⟨#[102,105,108,108]⟩ : ByteArray) 0 false 101 true 0 false (166 : Nat)))) fun m61=>
 Option.bind (some (A2O m61 16 (I5.mk (⟨#[108,105,109,105,116]⟩ : ByteArray) 0 false 101 true 0 false (167 : Nat)))) fun m65=>
 Option.bind (some (A2O m65 17 (I5.mk (⟨#[107,105,116,99,104,101,110]⟩ : ByteArray) 100 false 116 false 0 false (168 : Nat)))) fun m69=>
 Option.bind (some (A2O m69 18 (I5.mk (⟨#[109,105,120]⟩ : ByteArray) 0 false 101 false 0 false (169 : Nat)))) fun m73=>
 some m73
def A9M (k1 : I5) (r2 : F6) : Option (Bool):=
 bif k1.fb then
  bif !decide (k1.ft = 0) then
   bif k1.fn then
    some true
   else
    some (decide (r2.fN = 0))
  else
   bif decide (r2.R6 = (⟨#[]⟩ : ByteArray)) then
    bif k1.fn then
     some true
    else
     some (decide (r2.fN = 0))
   else
    some false
 else
  bif decide (r2.fB = (⟨#[]⟩ : ByteArray)) then
   bif !decide (k1.ft = 0) then
    bif k1.fn then
     some true
    else
     some (decide (r2.fN = 0))
   else
    bif decide (r2.R6 = (⟨#[]⟩ : ByteArray)) then
     bif k1.fn then
      some true
     else
      some (decide (r2.fN = 0))
    else
     some false
  else
   some false
def B0h (k1 : I5) (r2 : F6) : Option (Bool):=
 bif k1.fb then
  bif !decide (k1.ft = 0) then
   bif k1.fn then
    some true
   else
    some (decide (r2.fN = 0))
  else
   bif decide (r2.R6 = (⟨#[]⟩ : ByteArray)) then
    bif k1.fn then
     some true
    else
     some (decide (r2.fN = 0))
   else
    some false
 else
  bif decide (r2.fB = (⟨#[]⟩ : ByteArray)) then
   bif !decide (k1.ft = 0) then
    bif k1.fn then
     some true
    else
     some (decide (r2.fN = 0))
   else
    bif decide (r2.R6 = (⟨#[]⟩ : ByteArray)) then
     bif k1.fn then
      some true
     else
      some (decide (r2.fN = 0))
    else
     some false
  else
   some false
def B1F (k1 : I5) (r2 : F6) : Option (Bool):=
 bif !decide (k1.fa = 0) then
   A9M k1 r2
 else
   bif decide (r2.fA = (⟨#[]⟩ : ByteArray)) then
     B0h k1 r2
   else
     some false
def B0a (k1 : I5) (p2 : A9) (r13 : F6) : Option (Bool):=
 bif decide (k1.fa = 101) then
  bif !decide (r13.fA = (⟨#[]⟩ : ByteArray)) then
   Option.bind (A3B p2 r13.fA) fun t68=>
   bif decide (t68 < 0) then
    some (decide (t68 < 0))
   else
    bif k1.fb then
     Option.bind (A3B p2 r13.fB) fun t78=>
     some (decide (t78 < 0))
    else
     some false
  else
   bif k1.fb then
    Option.bind (A3B p2 r13.fB) fun t87=>
    some (decide (t87 < 0))
   else
    some false
 else
  bif k1.fb then
   Option.bind (A3B p2 r13.fB) fun t96=>
   some (decide (t96 < 0))
  else
   some false
def B0j (k1 : I5) (p2 : A9) (r13 : F6) (t134 : Int) (t146 : Bool) : Option (Int):=
 bif t146 then
  some 6
 else
  Option.bind (
   bif k1.C6n then
    Option.bind (N7 (t134 + 1)) fun t162=>
    Option.bind (sbL p2.D7 t134 t162) fun t163=>
    Option.bind (A2d t163) fun t168=>
    Option.bind (N7 (t168 - 1)) fun t176=>
    some t176
   else
    some 24) fun most160=>
  bif k1.fn then
   bif decide (r13.fN < k1.flo) then
    some 42
   else
    bif decide (most160 < r13.fN) then
     some 42
    else
     some 0
  else
   some 0
def B0k (k1 : I5) (p2 : A9) (r13 : F6) : Option (Int):=
 Option.bind (B4s p2.D7 r13.R6) fun (t134,t135)=>
 Option.bind (
  bif decide (k1.ft = 116) then
   bif !t135 then
    some true
   else
    bif decide (k1.ft = 101) then
     bif !decide (r13.R6 = (⟨#[]⟩ : ByteArray)) then
      some (!t135)
     else
      some false
    else
     some false
  else
   bif decide (k1.ft = 101) then
    bif !decide (r13.R6 = (⟨#[]⟩ : ByteArray)) then
     some (!t135)
    else
     some false
   else
    some false) fun t146=>
 B0j k1 p2 r13 t134 t146
def A9R (k1 : I5) (p2 : A9) (r13 : F6) (t48 : Bool) : Option (Int):=
 Option.bind (
  bif t48 then
   some t48
  else
   B0a k1 p2 r13) fun t64=>
 bif t64 then
  some 6
 else
  Option.bind (
   bif decide (k1.fa = 100) then
    Option.bind (B7Y r13.fA) fun t113=>
    some (!t113)
   else
    some false) fun t111=>
  bif t111 then
   some 4
  else
   Option.bind (
    bif k1.fb then
     some (decide (r13.fA = r13.fB))
    else
     some false) fun t128=>
   bif t128 then
    some 5
   else
    B0k k1 p2 r13
def B1n (k1 : I5) (p2 : A9) (r13 : F6) : Option (Int):=
 bif decide (k1.A7v = (⟨#[]⟩ : ByteArray)) then
   some 40
 else
   Option.bind (
     bif decide (r13.Q3 < 0) then
       some true
     else
       some (decide (1000 < r13.Q3))) fun t30=>
   bif t30 then
     some 41
   else
     Option.bind (B1F k1 r13) fun t36=>
     bif !t36 then
       some 43
     else
       Option.bind (
         bif decide (k1.fa = 103) then
           Option.bind (A3B p2 r13.fA) fun t50=>
           some (decide (t50 < 0))
         else
           some false) fun t48=>
       A9R k1 p2 r13 t48
def A4L (p1 : A9) : Int→Option (Int⊕(Unit⊕(Int×Int))):=fun t48=>
 bif decide (t48 < (p1.I6.length : Int)) then
  Option.bind (J6 p1.I6 t48) fun e57=>
  bif decide (e57 < 0) then
   some (Sum.inr (Sum.inr (0,44)))
  else
   bif decide (64≤e57) then
    some (Sum.inr (Sum.inr (0,44)))
   else
    Option.bind (N7 (t48 + 1)) fun t62=>
    some (Sum.inl t62)
 else
  some (Sum.inr (Sum.inl ()))
def B4J (p1 : A9) : Option (Int×Int):=
 Option.bind (
  bif decide (0 < (p1.I6.length : Int)) then
   some (!decide ((p1.I6.length : Int) = (p1.A8.length : Int)))
  else
   some false) fun t39=>
 bif t39 then
  some (0,44)
 else
  Option.bind (
   iter (A4L p1) FUEL 0) fun o45=>match o45 with
  | .inl _u=>
   Option.bind (A2d p1.D7) fun t66=>
   bif decide (t66 < (p1.A8.length : Int)) then
    some (0,45)
   else
    some (0,0)
  | .inr p=>
   some p
def B1m (p1 : A9) : Option (Int×Int):=
 Option.bind (A4O p1.D7) fun (t16,t17)=>
 bif !decide (t17 = 0) then
   some (t16,t17)
 else
   Option.bind (A5j (R4.mk p1.A8 p1.I8)) fun (t26,t27)=>
   bif !decide (t27 = 0) then
     some (t26,t27)
   else
     B4J p1
def A4D (p1 : A9) (t26 : List (Int×I5)) : Int→Option (Int⊕(Unit⊕(Int×Int))):=fun t38=>
 bif decide (t38 < (p1.J3.length : Int)) then
  Option.bind (J6 p1.J3 t38) fun e47=>
  Option.bind (lkM t26 e47.H8 (I5.mk (⟨#[]⟩ : ByteArray) 0 false 0 false 0 false (0 : Nat))) fun (e55,ok56)=>
  Option.bind (B1n e55 p1 e47) fun t59=>
  bif !decide (t59 = 0) then
   some (Sum.inr (Sum.inr (t38,t59)))
  else
   bif decide (t38 = 64) then
    some (Sum.inr (Sum.inr (t38,7)))
   else
    Option.bind (N7 (t38 + 1)) fun t69=>
    some (Sum.inl t69)
 else
  some (Sum.inr (Sum.inl ()))
def A5k (p1 : A9) : Option (Int×Int):=
 Option.bind (B1m p1) fun (t16,t17)=>
 bif !decide (t17 = 0) then
   some (t16,t17)
 else
   Option.bind (A8X) fun t26=>
   Option.bind (
     iter (A4D p1 t26) FUEL 0) fun o35=>match o35 with
   | .inl _u=>
     some (0,0)
   | .inr p=>
     some p
def A8w (k1 : Int) (t2 : A9) (t13 : Int) : Option (Bool):=
 Option.bind (A9D t2.D7 t13 k1) fun t14=>
 some t14
def A8D (k1 : Int) (t2 : A9) (t13 : Int) : Option (Bool):=
 Option.bind (A9k t2.D7 t13 k1) fun t14=>
 some t14
def B4U (e125 : List Int) (t143 : Int) (out144 : List (Int×Int)) (line149 : List Int) : Option ((Int×(List (Int×Int))×(List Int))⊕((List (Int×Int))×(List Int))):=
 Option.bind (J6 e125 t143) fun e162=>
 Option.bind (lkM out144 e162 0) fun (e165,ok166)=>
 bif !ok166 then
  Option.bind (J6 line149 0) fun e170=>
  Option.bind (lkM out144 e170 0) fun (e173,ok174)=>
  Option.bind (N7 (e173 + 1)) fun t177=>
  Option.bind (some (A2O out144 e162 t177)) fun m179=>
  Option.bind (apL line149 [e162]) fun t185=>
  Option.bind (N7 (t143 + 1)) fun t191=>
  some (Sum.inl (t191,m179,t185))
 else
  Option.bind (N7 (t143 + 1)) fun t192=>
  some (Sum.inl (t192,out144,line149))
def A6V (e125 : List Int) : (Int×(List (Int×Int))×(List Int))→Option ((Int×(List (Int×Int))×(List Int))⊕((List (Int×Int))×(List Int))):=fun (t143,out144,line149)=>
 bif decide (t143 < (e125.length : Int)) then
  B4U e125 t143 out144 line149
 else
  some (Sum.inr (out144,line149))
def A7d (e73 : List Int) (e81 : List Int) : (Int×(List (Int×Int))×(List Int))→Option ((Int×(List (Int×Int))×(List Int))⊕((List (Int×Int))×(List Int))):=fun (t106,out107,line112)=>
 bif decide (t106 < ([e73,e81].length : Int)) then
  Option.bind (J6 [e73,e81] t106) fun e125=>
  Option.bind (
   iter (A6V e125) FUEL (0,out107,line112)) fun (out133,line138)=>
  Option.bind (N7 (t106 + 1)) fun t196=>
  some (Sum.inl (t196,out133,line138))
 else
  some (Sum.inr (out107,line112))
def A7i (j1 : X7) : ((List (Int×Int))×(List Int))→Option (((List (Int×Int))×(List Int))⊕(List (Int×Int))):=fun (out21,line26)=>
 bif decide (0 < (line26.length : Int)) then
  Option.bind (J6 line26 0) fun e70=>
  Option.bind (J6 j1.A5i e70) fun e73=>
  Option.bind (J6 line26 0) fun e78=>
  Option.bind (J6 j1.A5e e78) fun e81=>
  Option.bind (
   iter (A7d e73 e81) FUEL (0,out21,line26)) fun (out96,line101)=>
  Option.bind (sbL line101 1 (line101.length : Int)) fun t200=>
  some (Sum.inl (out96,t200))
 else
  some (Sum.inr out21)
def B1v (j1 : X7) (from2 : Int) : Option (List (Int×Int)):=
 Option.bind (some (A2O ([] : List (Int×Int)) from2 0)) fun m7=>
 Option.bind (
   iter (A7i j1) FUEL (m7,[from2])) fun out16=>
 some out16
def A8V (j1 : X7) : Option (Bool):=
 some false
def B8r (p1 : A9) (t117 : Int) (t126 : Int) (t140 : Int) (table177 : List Int) (level182 : List Int) (open187 : List Bool) (beside192 : List (List Int)) (across197 : List (List Int)) (s202 : Int) : Option (((List Int)×(List Int)×(List Bool)×(List (List Int))×(List (List Int))×Int)⊕((List Int)×(List Int)×(List Bool)×(List (List Int))×(List (List Int)))):=
 Option.bind (apL table177 [t117]) fun t216=>
 Option.bind (B1s p1.D7 s202) fun t224=>
 Option.bind (apL level182 [t224]) fun t235=>
 Option.bind (B4d p1.D7 s202) fun t243=>
 Option.bind (apL open187 [t243]) fun t254=>
 Option.bind (A8t t126 t140 (fun y0=>A8w y0 p1 s202)) fun t271=>
 Option.bind (apL beside192 [t271]) fun t289=>
 Option.bind (A8t t126 t140 (fun y0=>A8D y0 p1 s202)) fun t303=>
 Option.bind (apL across197 [t303]) fun t321=>
 Option.bind (N7 (s202 + 1)) fun t330=>
 some (Sum.inl (t216,t235,t254,t289,t321,t330))
def A9q (p1 : A9) (t117 : Int) (t126 : Int) (t140 : Int) : ((List Int)×(List Int)×(List Bool)×(List (List Int))×(List (List Int))×Int)→Option (((List Int)×(List Int)×(List Bool)×(List (List Int))×(List (List Int))×Int)⊕((List Int)×(List Int)×(List Bool)×(List (List Int))×(List (List Int)))):=fun (table177,level182,open187,beside192,across197,s202)=>
 Option.bind (N7 (t126 + t140)) fun t211=>
 bif decide (s202 < t211) then
  B8r p1 t117 t126 t140 table177 level182 open187 beside192 across197 s202
 else
  some (Sum.inr (table177,level182,open187,beside192,across197))
def A9F (p1 : A9) : ((List Int)×(List Int)×(List Bool)×(List (List Int))×(List (List Int))×Int)→Option (((List Int)×(List Int)×(List Bool)×(List (List Int))×(List (List Int))×Int)⊕((List Int)×(List Int)×(List Bool)×(List (List Int))×(List (List Int)))):=fun (table92,level97,open102,beside107,across112,t117)=>
 bif decide (t117 < (p1.D7.length : Int)) then
  Option.bind (A3i p1.D7 t117) fun t126=>
  Option.bind (N7 (t117 + 1)) fun t134=>
  Option.bind (sbL p1.D7 t117 t134) fun t135=>
  Option.bind (A2d t135) fun t140=>
  Option.bind (
   iter (A9q p1 t117 t126 t140) FUEL (table92,level97,open102,beside107,across112,t126)) fun (table152,level157,open162,beside167,across172)=>
  Option.bind (N7 (t117 + 1)) fun t334=>
  some (Sum.inl (table152,level157,open162,beside167,across172,t334))
 else
  some (Sum.inr (table92,level97,open102,beside107,across112))
def A9h (t26 : A9) (t44 : List (Int×I5)) (table57 : List Int) (level62 : List Int) (open67 : List Bool) (beside72 : List (List Int)) (across77 : List (List Int)) : ((List (List (Int×Int)))×Int)→Option (((List (List (Int×Int)))×Int)⊕(List (List (Int×Int)))):=fun (steps348,t353)=>
 bif decide (t353 < (table57.length : Int)) then
  Option.bind (B1v (X7.mk t26 t44 table57 level62 open67 beside72 across77 steps348 ([] : List (List Bool)) ([] : List (List Int))) t353) fun t383=>
  Option.bind (apL steps348 [t383]) fun t407=>
  Option.bind (N7 (t353 + 1)) fun t415=>
  some (Sum.inl (t407,t415))
 else
  some (Sum.inr steps348)
def A9r (p1 : A9) (e470 : D6) : ((Option K4)×Int×(List Bool)×(List Int))→Option (((Option K4)×Int×(List Bool)×(List Int))⊕((Option K4)×(List Bool)×(List Int))):=fun (b500,t503,c504,k509)=>
 bif decide (t503 < (p1.A8.length : Int)) then
  Option.bind (J6 p1.A8 t503) fun e522=>
  Option.bind (b500) fun p532=>
  Option.bind (A9w p532 e470.F8 e522.F8) fun t534=>
  Option.bind (apL c504 [decide (0 < (t534.length : Int))]) fun t548=>
  Option.bind (B4e p532 e470.F8 e522.F8) fun (t554,t555)=>
  Option.bind (apL k509 [t554]) fun t566=>
  Option.bind (N7 (t503 + 1)) fun t572=>
  some (Sum.inl ((some p532),t572,t548,t566))
 else
  some (Sum.inr (b500,c504,k509))
def A9m (p1 : A9) : ((List (List Bool))×(List (List Int))×(Option K4)×Int)→Option (((List (List Bool))×(List (List Int))×(Option K4)×Int)⊕((List (List Bool))×(List (List Int)))):=fun (common448,ties453,b458,t461)=>
 bif decide (t461 < (p1.A8.length : Int)) then
  Option.bind (J6 p1.A8 t461) fun e470=>
  Option.bind (
   iter (A9r p1 e470) FUEL (b458,0,([] : List Bool),([] : List Int))) fun (b483,c486,k491)=>
  Option.bind (apL common448 [c486]) fun t587=>
  Option.bind (apL ties453 [k491]) fun t596=>
  Option.bind (N7 (t461 + 1)) fun t606=>
  some (Sum.inl (t587,t596,b483,t606))
 else
  some (Sum.inr (common448,ties453))
def B8M (p1 : A9) : Option ((Option X7)×Int×Int):=
 Option.bind (A7n p1) fun t26=>
 Option.bind (A8X) fun t44=>
 Option.bind (
  iter (A9F p1) FUEL (([] : List Int),([] : List Int),([] : List Bool),([] : List (List Int)),([] : List (List Int)),0)) fun (table57,level62,open67,beside72,across77)=>
 Option.bind (
  iter (A9h t26 t44 table57 level62 open67 beside72 across77) FUEL (([] : List (List (Int×Int))),0)) fun steps341=>
 Option.bind (A6u (R4.mk p1.A8 p1.I8)) fun (t419,t420,t421)=>
 Option.bind (
  iter (A9m p1) FUEL (([] : List (List Bool)),([] : List (List Int)),t419,0)) fun (common434,ties439)=>
 some ((some (X7.mk t26 t44 table57 level62 open67 beside72 across77 steps341 common434 ties439)),0,0)
def B3I (p1 : A9) : Option ((Option X7)×Int×Int):=
 Option.bind (A5k p1) fun (t16,t17)=>
 bif !decide (t17 = 0) then
   some ((none),t16,t17)
 else
   B8M p1
def A9K (j1 : X7) : Option (A9):=
 Option.bind (A8V j1) fun t3=>
 bif t3 then
   none
 else
   Option.bind (A7n j1.A1C) fun t43=>
   some t43
def C2e (guest73 : List Int) (t78 : Int) (e87 : Int) : Option (((List Int)×Int)⊕(List Int)):=
 bif decide (0≤e87) then
  Option.bind (J6 guest73 e87) fun e93=>
  bif decide (0≤e93) then
   none
  else
   bif decide (0≤e87) then
    Option.bind (J6 guest73 e87) fun e98=>
    Option.bind (some (List.set guest73 e87.toNat t78)) fun l101=>
    Option.bind (N7 (t78 + 1)) fun t104=>
    some (Sum.inl (l101,t104))
   else
    Option.bind (N7 (t78 + 1)) fun t105=>
    some (Sum.inl (guest73,t105))
 else
  bif decide (0≤e87) then
   Option.bind (J6 guest73 e87) fun e107=>
   Option.bind (some (List.set guest73 e87.toNat t78)) fun l110=>
   Option.bind (N7 (t78 + 1)) fun t113=>
   some (Sum.inl (l110,t113))
  else
   Option.bind (N7 (t78 + 1)) fun t114=>
   some (Sum.inl (guest73,t114))
def B5u (j1 : X7) (part2 : List Int) : ((List Int)×Int)→Option (((List Int)×Int)⊕(List Int)):=fun (guest73,t78)=>
 bif decide (t78 < (part2.length : Int)) then
  Option.bind (J6 part2 t78) fun e87=>
  bif decide (e87 < (-1)) then
   none
  else
   bif decide ((j1.A4d.length : Int)≤e87) then
    none
   else
    C2e guest73 t78 e87
 else
  some (Sum.inr guest73)
def A8E (j1 : X7) (part2 : List Int) : Option (O8):=
 Option.bind (A8V j1) fun t3=>
 bif t3 then
   none
 else
   bif !decide ((part2.length : Int) = (j1.A1C.A8.length : Int)) then
     none
   else
     Option.bind (B0C [(-1)] (j1.A4d.length : Int)) fun t51=>
     Option.bind (
       iter (B5u j1 part2) FUEL (t51,0)) fun guest68=>
     some (O8.mk j1 part2 guest68)
def B3t (j1 : X7) (part2 : List Int) (i3 : Int) : Option (Int):=
 Option.bind (A8E j1 part2) fun t4=>
 bif decide (i3 < 0) then
   none
 else
   bif decide ((t4.Q0.A1C.J3.length : Int)≤i3) then
     none
   else
     Option.bind (A8J t4 i3) fun t55=>
     some t55
def B7f (count3 : O8→Int→Option Int) (t4 : O8) : (Int×Int)→Option ((Int×Int)⊕Int):=fun (t57,n58)=>
 bif decide (t57 < (t4.Q0.A1C.J3.length : Int)) then
  Option.bind (J6 t4.Q0.A1C.J3 t57) fun e67=>
  bif decide (0 < e67.Q3) then
   Option.bind (count3 t4 t57) fun t76=>
   Option.bind (N7 (e67.Q3 * t76)) fun t89=>
   Option.bind (N7 (n58 + t89)) fun t90=>
   Option.bind (N7 (t57 + 1)) fun t91=>
   some (Sum.inl (t91,t90))
  else
   Option.bind (N7 (t57 + 1)) fun t92=>
   some (Sum.inl (t92,n58))
 else
  some (Sum.inr n58)
def B8f (j1 : X7) (part2 : List Int) (count3 : O8→Int→Option Int) : Option (Int):=
 Option.bind (A8E j1 part2) fun t4=>
 Option.bind (
   iter (B7f count3 t4) FUEL (0,0)) fun n56=>
 some n56
def B3y (j1 : X7) (part2 : List Int) : Option (Int):=
 Option.bind (B8f j1 part2 A8J) fun t12=>
 some t12
def B5t (t3 : O8) : Int→Option (Int⊕(Unit⊕(Int×Bool))):=fun t55=>
 bif decide (t55 < (t3.Q0.A1C.J3.length : Int)) then
  Option.bind (J6 t3.Q0.A1C.J3 t55) fun e64=>
  bif decide (e64.Q3 = 0) then
   Option.bind (A8J t3 t55) fun t73=>
   bif decide (0 < t73) then
    some (Sum.inr (Sum.inr (t55,true)))
   else
    Option.bind (N7 (t55 + 1)) fun t82=>
    some (Sum.inl t82)
  else
   Option.bind (N7 (t55 + 1)) fun t83=>
   some (Sum.inl t83)
 else
  some (Sum.inr (Sum.inl ()))
def B5O (j1 : X7) (part2 : List Int) : Option (Int×Bool):=
 Option.bind (A8E j1 part2) fun t3=>
 Option.bind (
   iter (B5t t3) FUEL 0) fun o52=>match o52 with
 | .inl _u=>
   some (0,false)
 | .inr p=>
   some p
def B9r (j1 : X7) (part2 : List Int) : Option (Int):=
 Option.bind (B8f j1 part2 A9s) fun t12=>
 some t12
def C1a (p1 : A9) (t12 : Int) (t39 : Int) (out40 : List Int) : Option ((Int×(List Int))⊕(List Int)):=
 Option.bind (J6 p1.J3 t39) fun e53=>
 Option.bind (
  bif decide (e53.H8 = 7) then
   Option.bind (J6 p1.D7 t12) fun e66=>
   some (decide (e53.R6 = e66.F8))
  else
   some false) fun t64=>
 bif t64 then
  Option.bind (A3i p1.D7 t12) fun t75=>
  Option.bind (N7 (t75 + e53.fN)) fun t83=>
  Option.bind (apL out40 [t83]) fun t87=>
  Option.bind (N7 (t39 + 1)) fun t93=>
  some (Sum.inl (t93,t87))
 else
  bif decide (e53.H8 = 14) then
   none
  else
   Option.bind (N7 (t39 + 1)) fun t95=>
   some (Sum.inl (t95,out40))
def B3L (p1 : A9) (t12 : Int) : (Int×(List Int))→Option ((Int×(List Int))⊕(List Int)):=fun (t39,out40)=>
 bif decide (t39 < (p1.J3.length : Int)) then
  C1a p1 t12 t39 out40
 else
  some (Sum.inr out40)
def B8B (p1 : A9) (t12 : Int) : Option (List Int):=
 Option.bind (A5k p1) fun (t17,t18)=>
 bif !decide (t18 = 0) then
   none
 else
   bif decide (t12 < 0) then
     none
   else
     bif decide ((p1.D7.length : Int)≤t12) then
       none
     else
       Option.bind (
         iter (B3L p1 t12) FUEL (0,([] : List Int))) fun out32=>
       Option.bind (B5Z out32) fun l99=>
       Option.bind (B0c l99) fun t110=>
       some t110
end Go.Dm
open Go Go.Sl
namespace Go.Dm
def B2H (k1 : Int) (t2 : C8) : Option (Bool):=
 bif decide (k1 < 0) then
   none
 else
   Option.bind (A3a t2) fun t6=>
   some (decide (t6≤k1))
def B2C (k1 : Int) (t2 : List Int) : Option (Bool):=
 Option.bind (J6 t2 k1) fun e5=>
 some (!decide (e5 = k1))
def B5w (t1 : C8) (p4 : List Int) (t12 : Int) : Int→Option (Int⊕Unit):=fun t44=>
 bif decide (t44 < t12) then
  Option.bind (J6 p4 t12) fun e53=>
  Option.bind (J6 p4 t44) fun e56=>
  Option.bind (A3O t1 t12 t44) fun t59=>
  Option.bind (A3O t1 e53 e56) fun t67=>
  bif !(t59 == t67) then
   none
  else
   Option.bind (J6 p4 t12) fun e76=>
   Option.bind (J6 p4 t44) fun e79=>
   Option.bind (A4i t1 t12 t44) fun t82=>
   Option.bind (A4i t1 e76 e79) fun t90=>
   bif !(t82 == t90) then
    none
   else
    Option.bind (N7 (t44 + 1)) fun t99=>
    some (Sum.inl t99)
 else
  some (Sum.inr ())
def B4X (t1 : C8) (p4 : List Int) : Int→Option (Int⊕Unit):=fun t12=>
 bif decide (t12 < (p4.length : Int)) then
  Option.bind (J6 p4 t12) fun e21=>
  Option.bind (A0Q t1.A2H t12) fun t24=>
  Option.bind (A0Q t1.A2H e21) fun t32=>
  bif !(t24 == t32) then
   none
  else
   Option.bind (
    iter (B5w t1 p4 t12) FUEL 0) fun _u=>
   Option.bind (N7 (t12 + 1)) fun t103=>
   some (Sum.inl t103)
 else
  some (Sum.inr ())
def B9Z (t1 : C8) (p4 : List Int) : Option (Bool):=
 Option.bind (
   iter (B4X t1 p4) FUEL 0) fun _u=>
 some true
def A7r (e71 : Int→Option Int) (t81 : List Int) : (Int×(List Int))→Option ((Int×(List Int))⊕(List Int)):=fun (t90,p91)=>
 bif decide (t90 < (t81.length : Int)) then
  Option.bind (e71 t90) fun t104=>
  Option.bind (J6 p91 t90) fun e117=>
  Option.bind (some (List.set p91 t90.toNat t104)) fun l120=>
  Option.bind (N7 (t90 + 1)) fun t123=>
  some (Sum.inl (t123,l120))
 else
  some (Sum.inr p91)
def A7q {σ : Type} (yield1 : σ→(List Int)→Option (σ×Bool)) (t29 : Int) (t37 : List (Int→Option Int)) : (σ×Int)→Option ((σ×Int)⊕σ):=fun (s59,t62)=>
 bif decide (t62 < (t37.length : Int)) then
  Option.bind (J6 t37 t62) fun e71=>
  Option.bind (mkL t29 0) fun t81=>
  Option.bind (
   iter (A7r e71 t81) FUEL (0,t81)) fun p85=>
  Option.bind (yield1 s59 p85) fun (s131,t133)=>
  bif !t133 then
   none
  else
   Option.bind (N7 (t62 + 1)) fun t148=>
   some (Sum.inl (s131,t148))
 else
  some (Sum.inr s59)
def A9v {σ : Type} (yield1 : σ→(List Int)→Option (σ×Bool)) (s0 : σ) (t2 : C8) : Option (σ):=
 Option.bind (A0n t2.O6) fun (t5,t6)=>
 Option.bind (A3a t2) fun t29=>
 Option.bind (t5.C5N t2.fA t2.fB) fun t37=>
 Option.bind (
   iter (A7q yield1 t29 t37) FUEL (s0,0)) fun s54=>
 some s54
def B1G (t1 : C8) : Option (C8):=
 some t1
def B6u (t1 : C8) (seats4 : List Int) : ((List (List Int))⊕Unit)→(List Int)→Option (((List (List Int))⊕Unit)×Bool):=fun o_ x73=>
 match o_ with
 | .inl c55=>
  Option.bind (B9Z t1 x73) fun t83=>
  bif t83 then
   Option.bind (A3p seats4 (fun y0=>B2C y0 x73)) fun t98=>
   bif !t98 then
    Option.bind (apL c55 [x73]) fun t110=>
    some (Sum.inl t110,true)
   else
    some (Sum.inl c55,true)
  else
   none
 | .inr _=>none
def C2L (t1 : C8) (seats4 : List Int) : Option (List (List Int)):=
 Option.bind (A6t t1) fun t13=>
 bif !decide (t13 = 0) then
   none
 else
   Option.bind (A3p seats4 (fun y0=>B2H y0 t1)) fun t28=>
   bif t28 then
     none
   else
     Option.bind (B1G t1) fun t38=>
     Option.bind (A9v (B6u t1 seats4) (Sum.inl ([] : List (List Int))) t38) fun o50=>match o50 with
     | .inl c55=>
       Option.bind (B1N c55 A9U) fun l133=>
       Option.bind (A8T l133 B2Q) fun t155=>
       some t155
     | .inr _=>none
end Go.Dm
open Go Go.Sl
namespace Go.Dm
def B5h (p1 : A9) (t12 : Int) (t17 : List Int) : (Int×(List Int))→Option ((Int×(List Int))⊕(List Int)):=fun (t38,pinned39)=>
 bif decide (t38 < (t17.length : Int)) then
  Option.bind (J6 t17 t38) fun e52=>
  Option.bind (A3i p1.D7 t12) fun t55=>
  Option.bind (N7 (e52 - t55)) fun t63=>
  Option.bind (apL pinned39 [t63]) fun t67=>
  Option.bind (N7 (t38 + 1)) fun t73=>
  some (Sum.inl (t73,t67))
 else
  some (Sum.inr pinned39)
def C0r (p1 : A9) (t12 : Int) : Option (List (List Int)):=
 Option.bind (B8B p1 t12) fun t17=>
 Option.bind (
   iter (B5h p1 t12 t17) FUEL (0,([] : List Int))) fun pinned31=>
 Option.bind (J6 p1.D7 t12) fun e77=>
 Option.bind (C2L e77 pinned31) fun t86=>
 some t86
def C0c (p1 : A9) (t12 : Int) : Option (List (List Int)):=
 Option.bind (A5k p1) fun (t17,t18)=>
 bif !decide (t18 = 0) then
   none
 else
   bif decide (t12 < 0) then
     none
   else
     bif decide ((p1.D7.length : Int)≤t12) then
       none
     else
       Option.bind (C0r p1 t12) fun t29=>
       some t29
def B4Y (t36 : Int) (taken37 : List Bool) (e50 : Int) : Option ((Int×(List Bool))⊕(Unit⊕(Int×Int))):=
 bif decide (0≤e50) then
  Option.bind (J6 taken37 e50) fun e72=>
  bif e72 then
   some (Sum.inr (Sum.inr (t36,51)))
  else
   bif decide (0≤e50) then
    Option.bind (J6 taken37 e50) fun e77=>
    Option.bind (some (List.set taken37 e50.toNat true)) fun l80=>
    Option.bind (N7 (t36 + 1)) fun t83=>
    some (Sum.inl (t83,l80))
   else
    Option.bind (N7 (t36 + 1)) fun t84=>
    some (Sum.inl (t84,taken37))
 else
  bif decide (0≤e50) then
   Option.bind (J6 taken37 e50) fun e86=>
   Option.bind (some (List.set taken37 e50.toNat true)) fun l89=>
   Option.bind (N7 (t36 + 1)) fun t92=>
   some (Sum.inl (t92,l89))
  else
   Option.bind (N7 (t36 + 1)) fun t93=>
   some (Sum.inl (t93,taken37))
def A7h (part12 : List Int) (whole13 : Bool) (t19 : Int) : (Int×(List Bool))→Option ((Int×(List Bool))⊕(Unit⊕(Int×Int))):=fun (t36,taken37)=>
 bif decide (t36 < (part12.length : Int)) then
  Option.bind (J6 part12 t36) fun e50=>
  Option.bind (
   bif decide (e50 = (-1)) then
    some whole13
   else
    some false) fun t56=>
  bif t56 then
   some (Sum.inr (Sum.inr (t36,52)))
  else
   Option.bind (
    bif decide (e50 < (-1)) then
     some true
    else
     some (decide (t19≤e50))) fun t65=>
   bif t65 then
    some (Sum.inr (Sum.inr (t36,50)))
   else
    B4Y t36 taken37 e50
 else
  some (Sum.inr (Sum.inl ()))
def B1z (p1 : A9) (part12 : List Int) (whole13 : Bool) : Option (Int×Int):=
 bif !decide ((part12.length : Int) = (p1.A8.length : Int)) then
   some (0,53)
 else
   Option.bind (A2d p1.D7) fun t19=>
   Option.bind (mkL t19 false) fun t32=>
   Option.bind (
     iter (A7h part12 whole13 t19) FUEL (0,t32)) fun o33=>match o33 with
   | .inl _u=>
     some (0,0)
   | .inr p=>
     some p
def B1q (p1 : A9) (part12 : List Int) (whole13 : Bool) : Option (Int×Int):=
 Option.bind (A5k p1) fun (t18,t19)=>
 bif !decide (t19 = 0) then
   none
 else
   Option.bind (B1z p1 part12 whole13) fun (t28,t29)=>
   some (t28,t29)
def A5V (p1 : A9) (part12 : List Int) : Option (Int×Int):=
 Option.bind (B1q p1 part12 false) fun (t17,t18)=>
 some (t17,t18)
end Go.Dm
open Go Go.Sl
namespace Go.Dm
def B2w (p1 : A9) : ((List Int)×(List Int)×(List (List (List Int)))×Int)→Option (((List Int)×(List Int)×(List (List (List Int)))×Int)⊕((List Int)×(List Int)×(List (List (List Int))))):=fun (table74,first79,groups84,t89)=>
 bif decide (t89 < (p1.D7.length : Int)) then
  Option.bind (apL first79 [(table74.length : Int)]) fun t101=>
  Option.bind (
   Option.bind (J6 p1.D7 t89) fun e117=>
   Option.bind (B9E e117) fun t125=>
   Option.bind (B0C [t89] t125) fun t137=>
   Option.bind (apL table74 t137) fun t148=>
   some t148) fun table112=>
  Option.bind (C0c p1 t89) fun t195=>
  Option.bind (apL groups84 [t195]) fun t213=>
  Option.bind (N7 (t89 + 1)) fun t221=>
  some (Sum.inl (table112,t101,t213,t221))
 else
  some (Sum.inr (table74,first79,groups84))
def B3u (p1 : A9) : Option (A1b×Int×Int):=
 Option.bind (B3I p1) fun (t16,t17,t18)=>
 bif !decide (t18 = 0) then
   none
 else
   Option.bind (t16) fun p29=>
   Option.bind (A9K p29) fun t31=>
   Option.bind (
     iter (B2w p1) FUEL (([] : List Int),([] : List Int),([] : List (List (List Int))),0)) fun (table53,first58,groups63)=>
   some ((A1b.mk p29 t31 table53 first58 groups63),0,0)
def B3P (free1 : Int) (guests2 : Int) : (Int×Int)→Option ((Int×Int)⊕Int):=fun (n7,t8)=>
 bif decide (t8 < guests2) then
  Option.bind (N7 (free1 - t8)) fun t17=>
  Option.bind (N7 (n7 * t17)) fun t18=>
  bif decide (20000 < t18) then
   none
  else
   Option.bind (N7 (t8 + 1)) fun t20=>
   some (Sum.inl (t18,t20))
 else
  some (Sum.inr n7)
def B8n (free1 : Int) (guests2 : Int) : Option (Int):=
 Option.bind (
   iter (B3P free1 guests2) FUEL (1,0)) fun n6=>
 some n6
def B7g (p1 : A9) : Option (A1b×Int):=
 Option.bind (B3u p1) fun (t16,t17,t18)=>
 bif !decide (t18 = 0) then
   none
 else
   Option.bind (B8n (t16.A4d.length : Int) (p1.A8.length : Int)) fun t50=>
   bif decide (20000 < t50) then
     none
   else
     some (t16,0)
def B3j (h1 : A1b) : Option (List Int):=
 Option.bind (B0C [(-1)] (h1.fp.A8.length : Int)) fun t30=>
 some t30
def C1u (h1 : A1b) (e29 : Int) (e44 : List Int) (e49 : Int) (t55 : Int) (e64 : Int) : Option (Int⊕Unit):=
 bif decide (0≤e64) then
  Option.bind (J6 h1.A4d e64) fun e69=>
  bif decide (e69 = e29) then
   Option.bind (N7 (e64 - e49)) fun t73=>
   Option.bind (J6 e44 t73) fun e74=>
   Option.bind (N7 (e64 - e49)) fun t77=>
   bif !decide (e74 = t77) then
    none
   else
    Option.bind (N7 (t55 + 1)) fun t79=>
    some (Sum.inl t79)
  else
   Option.bind (N7 (t55 + 1)) fun t80=>
   some (Sum.inl t80)
 else
  Option.bind (N7 (t55 + 1)) fun t81=>
  some (Sum.inl t81)
def B4Q (h1 : A1b) (part2 : List Int) (g3 : Int) (e29 : Int) (e44 : List Int) (e49 : Int) : Int→Option (Int⊕Unit):=fun t55=>
 bif decide (t55 < (part2.length : Int)) then
  Option.bind (J6 part2 t55) fun e64=>
  bif !decide (t55 = g3) then
   C1u h1 e29 e44 e49 t55 e64
  else
   Option.bind (N7 (t55 + 1)) fun t82=>
   some (Sum.inl t82)
 else
  some (Sum.inr ())
def C1G (h1 : A1b) (part2 : List Int) (g3 : Int) (k4 : Int) (e29 : Int) : Option (Bool):=
 Option.bind (J6 h1.B9p e29) fun e33=>
 bif decide ((e33.length : Int)≤k4) then
  none
 else
  Option.bind (J6 h1.B9p e29) fun e39=>
  Option.bind (J6 e39 k4) fun e44=>
  Option.bind (J6 h1.C8J e29) fun e49=>
  Option.bind (
   iter (B4Q h1 part2 g3 e29 e44 e49) FUEL 0) fun _u=>
  Option.bind (J6 part2 g3) fun e86=>
  Option.bind (N7 (e86 - e49)) fun t89=>
  Option.bind (J6 e44 t89) fun e90=>
  Option.bind (J6 part2 g3) fun e93=>
  Option.bind (N7 (e93 - e49)) fun t96=>
  some (decide (e90 < t96))
def B9M (h1 : A1b) (part2 : List Int) (g3 : Int) (k4 : Int) : Option (Bool):=
 Option.bind (J6 part2 g3) fun e26=>
 Option.bind (J6 h1.A4d e26) fun e29=>
 bif decide (k4 < 0) then
   none
 else
   C1G h1 part2 g3 k4 e29
end Go.Dm
open Go Go.Sl
namespace Go.Dm
def C0Y (self : A0h→Int→Option ((Int×(List Int))⊕A1X)) (r1 : A0h) (e5 : Y2) (at51 : Int) (part52 : List Int) (t57 : Int) : Option ((Int×(List Int)×Int)⊕((Int×(List Int))⊕A1X)):=
 Option.bind (A0Q part52 t57) fun t69=>
 bif !t69 then
  Option.bind (J6 part52 e5.fN) fun e79=>
  Option.bind (some (List.set part52 e5.fN.toNat t57)) fun l82=>
  Option.bind (self (A0h.mk r1.A3v r1.A1e r1.A2g at51 l82) e5.fN) fun o87=>match o87 with
  | .inr w88=>
   none
  | .inl q85=>
  Option.bind (J6 q85.2 e5.fN) fun e101=>
  Option.bind (some (List.set q85.2 e5.fN.toNat (-1))) fun l104=>
  Option.bind (N7 (t57 + 1)) fun t107=>
  some (Sum.inl (q85.1,l104,t107))
 else
  Option.bind (N7 (t57 + 1)) fun t108=>
  some (Sum.inl (at51,part52,t108))
def B3Q (self : A0h→Int→Option ((Int×(List Int))⊕A1X)) (r1 : A0h) (e5 : Y2) : (Int×(List Int)×Int)→Option ((Int×(List Int)×Int)⊕((Int×(List Int))⊕A1X)):=fun (at51,part52,t57)=>
 bif decide (t57 < (r1.A3v.A4d.length : Int)) then
  C0Y self r1 e5 at51 part52 t57
 else
  some (Sum.inr (Sum.inl (at51,part52)))
def B9F (self : A0h→Int→Option ((Int×(List Int))⊕A1X)) (r1 : A0h) (e5 : Y2) : Option ((Int×(List Int))⊕A1X):=
 bif decide (e5.fN < 0) then
  none
 else
  bif decide ((r1.U3.length : Int)≤e5.fN) then
   none
  else
   Option.bind (J6 r1.U3 e5.fN) fun e16=>
   bif decide (0≤e16) then
    none
   else
    Option.bind (N7 (r1.fat + 1)) fun t20=>
    Option.bind (
     iter (B3Q self r1 e5) FUEL (t20,r1.U3,0)) fun o42=>match o42 with
    | .inl (at45,part46)=>
     some (Sum.inl (at45,part46))
    | .inr p=>
     some (Sum.inr p)
def C0N (r1 : A0h) (e5 : Y2) : Option ((Int×(List Int))⊕A1X):=
 bif decide (e5.H8 = 2) then
  bif decide (e5.fN < 0) then
   none
  else
   bif decide ((r1.A3v.fp.J3.length : Int)≤e5.fN) then
    none
   else
    Option.bind (J6 r1.A3v.fp.J3 e5.fN) fun e136=>
    bif decide (0 < e136.Q3) then
     none
    else
     Option.bind (B3t r1.A3v.Q0 r1.U3 e5.fN) fun t143=>
     bif decide (t143 = 0) then
      none
     else
      Option.bind (N7 (r1.fat + 1)) fun t153=>
      some (Sum.inl (t153,r1.U3))
 else
  bif decide (e5.H8 = 3) then
   bif decide (r1.A1e < 0) then
    none
   else
    Option.bind (B3y r1.A3v.Q0 r1.U3) fun t180=>
    bif decide (t180 < r1.A1e) then
     none
    else
     Option.bind (N7 (r1.fat + 1)) fun t190=>
     some (Sum.inl (t190,r1.U3))
  else
   none
def A9E : Nat→A0h→Int→Option ((Int×(List Int))⊕A1X)
 | 0,_,_=>none
 | n + 1,r1,last2=>
  bif decide (r1.fat = (r1.A2g.length : Int)) then
   none
  else
   Option.bind (J6 r1.A2g r1.fat) fun e5=>
   bif decide (e5.H8 = 1) then
    B9F (A9E n) r1 e5
   else
    C0N r1 e5
end Go.Dm
open Go Go.Sl
namespace Go.Dm
def B4N (p1 : A9) (bound12 : Int) (steps13 : List Y2) : Option (Int×Int):=
 Option.bind (B3u p1) fun (t20,t21,t22)=>
 bif !decide (t22 = 0) then
   none
 else
   bif decide (200000 < (steps13.length : Int)) then
     none
   else
     Option.bind (B3j t20) fun t34=>
     Option.bind (A9E C2U (A0h.mk t20 bound12 steps13 0 t34) (-1)) fun o50=>match o50 with
     | .inr w51=>
       none
     | .inl q48=>
     bif decide (q48.1 < (steps13.length : Int)) then
       none
     else
       some (0,0)
end Go.Dm
open Go Go.Sl
namespace Go.Dm
def B2M (h1 : A1b) (part2 : List Int) (g3 : Int) (e31 : List (List Int)) : Int→Option (Int⊕Unit):=fun t39=>
 bif decide (t39 < (e31.length : Int)) then
  Option.bind (B9M h1 part2 g3 t39) fun t48=>
  bif t48 then
   none
  else
   Option.bind (N7 (t39 + 1)) fun t57=>
   some (Sum.inl t57)
 else
  some (Sum.inr ())
def B8q (h1 : A1b) (part2 : List Int) (g3 : Int) : Option (Int):=
 Option.bind (J6 part2 g3) fun e25=>
 Option.bind (J6 h1.A4d e25) fun e28=>
 Option.bind (J6 h1.B9p e28) fun e31=>
 Option.bind (
   iter (B2M h1 part2 g3 e31) FUEL 0) fun _u=>
 some (-1)
def B1x (p1 : U7) (kind2 : Int) (n3 : Int) : Option (Bool×((List Y2)×(List Int))):=
 Option.bind (apL p1.A2g [(Y2.mk kind2 n3)]) fun t9=>
 some (true,(t9,p1.U3))
def C0k (self : U7→Option (Bool×((List Y2)×(List Int)))) (p1 : U7) (t90 : Int) (steps130 : List Y2) (part135 : List Int) (t140 : Int) : Option (((List Y2)×(List Int)×Int)⊕(((List Y2)×(List Int))⊕(Bool×((List Y2)×(List Int))))):=
 Option.bind (J6 part135 t90) fun e163=>
 Option.bind (some (List.set part135 t90.toNat t140)) fun l166=>
 Option.bind (B8q p1.A3v l166 t90) fun t172=>
 bif decide (0≤t172) then
  none
 else
  Option.bind (self (U7.mk p1.A3v p1.A1e steps130 l166)) fun (t182,q183)=>
  Option.bind (J6 q183.2 t90) fun e199=>
  Option.bind (some (List.set q183.2 t90.toNat (-1))) fun l202=>
  bif !t182 then
   some (Sum.inr (Sum.inr (false,(q183.1,l202))))
  else
   Option.bind (N7 (t140 + 1)) fun t206=>
   some (Sum.inl (q183.1,l202,t206))
def B3X (self : U7→Option (Bool×((List Y2)×(List Int)))) (p1 : U7) (t90 : Int) : ((List Y2)×(List Int)×Int)→Option (((List Y2)×(List Int)×Int)⊕(((List Y2)×(List Int))⊕(Bool×((List Y2)×(List Int))))):=fun (steps130,part135,t140)=>
 bif decide (t140 < (p1.A3v.A4d.length : Int)) then
  Option.bind (A0Q part135 t140) fun t152=>
  bif t152 then
   Option.bind (N7 (t140 + 1)) fun t162=>
   some (Sum.inl (steps130,part135,t162))
  else
   C0k self p1 t90 steps130 part135 t140
 else
  some (Sum.inr (Sum.inl (steps130,part135)))
def C0a (self : U7→Option (Bool×((List Y2)×(List Int)))) (p1 : U7) : Option (Bool×((List Y2)×(List Int))):=
 Option.bind (B3y p1.A3v.Q0 p1.U3) fun t60=>
 bif decide (p1.A1e≤t60) then
  Option.bind (B1x (U7.mk p1.A3v p1.A1e p1.A2g p1.U3) 3 0) fun (t70,q71)=>
  some (t70,(q71.1,q71.2))
 else
  Option.bind (A7o p1.U3 (-1)) fun t90=>
  bif decide (t90 < 0) then
   some (false,(p1.A2g,p1.U3))
  else
   Option.bind (B1x (U7.mk p1.A3v p1.A1e p1.A2g p1.U3) 1 t90) fun (t100,q101)=>
   Option.bind (
    iter (B3X self p1 t90) FUEL (q101.1,q101.2,0)) fun o117=>match o117 with
   | .inl (steps120,part125)=>
    some (true,(steps120,part125))
   | .inr p=>
    some p
def A9y : Nat→U7→Option (Bool×((List Y2)×(List Int)))
 | 0,_=>none
 | n + 1,p1=>
  Option.bind (B5O p1.A3v.Q0 p1.U3) fun (t28,t29)=>
  bif t29 then
   Option.bind (B1x (U7.mk p1.A3v p1.A1e p1.A2g p1.U3) 2 t28) fun (t39,q40)=>
   some (t39,(q40.1,q40.2))
  else
   bif decide (0≤p1.A1e) then
    C0a (A9y n) p1
   else
    none
def B6T (p1 : A9) (bound12 : Int) : Option ((List Y2)×Int):=
 Option.bind (B7g p1) fun (t17,t18)=>
 bif !decide (t18 = 0) then
   none
 else
   Option.bind (B3j t17) fun t29=>
   Option.bind (A9y C2U (U7.mk t17 bound12 ([] : List Y2) t29)) fun (t45,q46)=>
   bif !t45 then
     some (([] : List Y2),66)
   else
     some (q46.1,0)
end Go.Dm
open Go Go.Sl
namespace Go.Dm
def A5a (a1 : List Int) (b2 : List Int) : Int→Option (Int⊕Unit):=fun i7=>
 bif decide (i7 < (a1.length : Int)) then
  Option.bind (J6 a1 i7) fun e16=>
  Option.bind (J6 b2 i7) fun e19=>
  bif !decide (e16 = e19) then
   none
  else
   Option.bind (N7 (i7 + 1)) fun t23=>
   some (Sum.inl t23)
 else
  some (Sum.inr ())
def A0A (a1 : List Int) (b2 : List Int) : Option (Bool):=
 bif !decide ((a1.length : Int) = (b2.length : Int)) then
   none
 else
   Option.bind (
     iter (A5a a1 b2) FUEL 0) fun _u=>
   some true
def A4n (a1 : List F6) (b2 : List F6) : Int→Option (Int⊕Unit):=fun i7=>
 bif decide (i7 < (a1.length : Int)) then
  Option.bind (J6 a1 i7) fun e16=>
  Option.bind (J6 b2 i7) fun e19=>
  bif !(decide (e16.H8 = e19.H8) && (decide (e16.Q3 = e19.Q3) && (decide (e16.fA = e19.fA) && (decide (e16.fB = e19.fB) && (decide (e16.R6 = e19.R6) && (decide (e16.fN = e19.fN) && true)))))) then
   none
  else
   Option.bind (N7 (i7 + 1)) fun t23=>
   some (Sum.inl t23)
 else
  some (Sum.inr ())
def A4R (a1 : List F6) (b2 : List F6) : Option (Bool):=
 bif !decide ((a1.length : Int) = (b2.length : Int)) then
   none
 else
   Option.bind (
     iter (A4n a1 b2) FUEL 0) fun _u=>
   some true
def C1o (rules2 : List F6) : Option (A9):=
 Option.bind (apL [(C8.mk (⟨#[114]⟩ : ByteArray) 1 4 0 ([] : List Int) 0 0)] [(C8.mk (⟨#[119]⟩ : ByteArray) 4 1 0 ([] : List Int) 0 0)]) fun t23=>
 some (A9.mk t23 [(D6.mk (⟨#[97,110,110,97]⟩ : ByteArray) (⟨#[]⟩ : ByteArray) (⟨#[]⟩ : ByteArray) 0 0 (⟨#[]⟩ : ByteArray) false false ([] : List ByteArray)),(D6.mk (⟨#[98,111,114,105,115]⟩ : ByteArray) (⟨#[]⟩ : ByteArray) (⟨#[]⟩ : ByteArray) 0 0 (⟨#[]⟩ : ByteArray) false false ([] : List ByteArray)),(D6.mk (⟨#[99,97,114,108]⟩ : ByteArray) (⟨#[]⟩ : ByteArray) (⟨#[]⟩ : ByteArray) 0 0 (⟨#[]⟩ : ByteArray) false false ([] : List ByteArray))] ([] : List F5) ([] : List Int) rules2)
def C1l (rules2 : List F6) : Option (A9):=
 some (A9.mk [(C8.mk (⟨#[114]⟩ : ByteArray) 1 4 0 ([] : List Int) 0 0)] [(D6.mk (⟨#[97,110,110,97]⟩ : ByteArray) (⟨#[]⟩ : ByteArray) (⟨#[]⟩ : ByteArray) 0 0 (⟨#[]⟩ : ByteArray) false false ([] : List ByteArray)),(D6.mk (⟨#[98,111,114,105,115]⟩ : ByteArray) (⟨#[]⟩ : ByteArray) (⟨#[]⟩ : ByteArray) 0 0 (⟨#[]⟩ : ByteArray) false false ([] : List ByteArray)),(D6.mk (⟨#[99,97,114,108]⟩ : ByteArray) (⟨#[]⟩ : ByteArray) (⟨#[]⟩ : ByteArray) 0 0 (⟨#[]⟩ : ByteArray) false false ([] : List ByteArray))] ([] : List F5) ([] : List Int) rules2)
def A8Y (second1 : Bool) (rules2 : List F6) : Option (A9):=
 bif second1 then
   C1o rules2
 else
   C1l rules2
def B2d (t14 : List C8) : ((List C8)×Int)→Option (((List C8)×Int)⊕(List C8)):=fun (tables35,t40)=>
 bif decide (t40 < (t14.length : Int)) then
  Option.bind (J6 tables35 t40) fun e49=>
  Option.bind (A2w e49.A2H) fun t54=>
  Option.bind (J6 tables35 t40) fun e65=>
  Option.bind (some (List.set tables35 t40.toNat (C8.mk e65.F8 e65.O6 e65.fA e65.fB t54 e65.fX e65.fY))) fun l74=>
  Option.bind (N7 (t40 + 1)) fun t77=>
  some (Sum.inl (l74,t77))
 else
  some (Sum.inr tables35)
def B1P (t81 : List D6) : ((List D6)×Int)→Option (((List D6)×Int)⊕(List D6)):=fun (guests102,t107)=>
 bif decide (t107 < (t81.length : Int)) then
  Option.bind (J6 guests102 t107) fun e116=>
  Option.bind (A1Y e116.M6) fun t121=>
  Option.bind (J6 guests102 t107) fun e132=>
  Option.bind (some (List.set guests102 t107.toNat (D6.mk e132.F8 e132.A0k e132.V9 e132.V3 e132.A0f e132.Z0 e132.A0u e132.U2 t121))) fun l141=>
  Option.bind (N7 (t107 + 1)) fun t144=>
  some (Sum.inl (l141,t144))
 else
  some (Sum.inr guests102)
def B1k (p1 : A9) : Option (A9):=
 Option.bind (A4M p1.D7) fun t14=>
 Option.bind (
   iter (B2d t14) FUEL (t14,0)) fun tables30=>
 Option.bind (A4K p1.A8) fun t81=>
 Option.bind (
   iter (B1P t81) FUEL (t81,0)) fun guests97=>
 Option.bind (A7C p1.I8) fun t148=>
 Option.bind (A2w p1.I6) fun t159=>
 Option.bind (A5O p1.J3) fun t170=>
 some (A9.mk tables30 guests97 t148 t159 t170)
def A5C (j1 : X7) : Option (A9):=
 Option.bind (A8V j1) fun t3=>
 bif t3 then
   none
 else
   Option.bind (B1k j1.A1C) fun t43=>
   some (A9.mk t43.D7 t43.A8 t43.I8 t43.I6 t43.J3)
def A1V (p1 : A9) (part12 : List Int) : Option (H6×Int):=
 Option.bind (B3I p1) fun (t17,t18,t19)=>
 bif !decide (t19 = 0) then
   none
 else
   Option.bind (A5V p1 part12) fun (t30,t31)=>
   bif !decide (t31 = 0) then
     none
   else
     Option.bind (t17) fun p40=>
     Option.bind (A5C p40) fun t42=>
     Option.bind (A2w part12) fun t70=>
     Option.bind (A2d p1.D7) fun t81=>
     some ((H6.mk p40 (A9.mk t42.D7 t42.A8 t42.I8 t42.I6 t42.J3) t70 t81),0)
def A2K (s1 : List F5) (f3 : F5→Option Bool) : Int→Option (Int⊕Unit):=fun t7=>
 bif decide (t7 < (s1.length : Int)) then
  Option.bind (J6 s1 t7) fun e16=>
  Option.bind (f3 e16) fun t19=>
  bif t19 then
   none
  else
   Option.bind (N7 (t7 + 1)) fun t33=>
   some (Sum.inl t33)
 else
  some (Sum.inr ())
def A4j (s1 : List F5) (f3 : F5→Option Bool) : Option (Int×(List F5)):=
 Option.bind (
   iter (A2K s1 f3) FUEL 0) fun _u=>
 some ((-1),s1)
def A8G (s1 : List F5) : Unit→Option (Unit⊕Unit):=fun _u=>
 bif decide (0 < (s1.length : Int)) then
  none
 else
  some (Sum.inr ())
def B1T (s1 : List F5) (f2 : F5→Option Bool) : Option (Int):=
 Option.bind (
   iter (A8G s1) FUEL ()) fun _u=>
 some (-1)
def A2W (s1 : List F5) (del3 : F5→Option Bool) : Option (List F5):=
 Option.bind (A4j s1 del3) fun (t4,l5)=>
 bif decide (t4 = (-1)) then
   some l5
 else
   none
def A2z (s1 : List F6) (f3 : F6→Option Bool) : Int→Option (Int⊕Unit):=fun t7=>
 bif decide (t7 < (s1.length : Int)) then
  Option.bind (J6 s1 t7) fun e16=>
  Option.bind (f3 e16) fun t19=>
  bif t19 then
   none
  else
   Option.bind (N7 (t7 + 1)) fun t33=>
   some (Sum.inl t33)
 else
  some (Sum.inr ())
def A3L (s1 : List F6) (f3 : F6→Option Bool) : Option (Int×(List F6)):=
 Option.bind (
   iter (A2z s1 f3) FUEL 0) fun _u=>
 some ((-1),s1)
def A1A (s1 : List F6) (del3 : F6→Option Bool) : Option (List F6):=
 Option.bind (A3L s1 del3) fun (t4,l5)=>
 bif decide (t4 = (-1)) then
   some l5
 else
   none
def A9G (g1 : D6) (t4 : ByteArray) : Option (Bool):=
 some (decide (g1.F8 = t4))
def A2M (s1 : H6) (name2 : ByteArray) : Option (Int):=
 Option.bind (A2u s1.fp.A8 (fun y0=>A9G y0 name2)) fun t32=>
 some t32
def B9S (s1 : H6) : Option (Bool):=
 some (decide ((s1.fp.J3.length : Int) = 64))
def B2S (t1 : F5) (t2 : ByteArray) (t3 : ByteArray) : Option (Bool):=
 none
def C2O (s1 : H6) (a2 : ByteArray) (b3 : ByteArray) : Option (Int):=
 Option.bind (B1T s1.fp.I8 (fun y0=>B2S y0 a2 b3)) fun t37=>
 some t37
def A8y (s1 : H6) (c2 : V4) (most29 : Int) : Option (Int):=
 Option.bind (A5q c2.L6) fun t34=>
 bif !decide (t34 = 0) then
  none
 else
  Option.bind (A2M s1 c2.L6.F8) fun t43=>
  bif decide (0≤t43) then
   none
  else
   bif decide ((s1.fp.A8.length : Int) = 64) then
    none
   else
    bif decide ((s1.fp.A8.length : Int) = s1.A0j) then
     some 45
    else
     bif decide (c2.fN < 0) then
      none
     else
      bif decide (most29 < c2.fN) then
       none
      else
       some 0
def A2l (s1 : H6) (c2 : V4) : Option (Int):=
 Option.bind (
   bif decide ((s1.fp.I6.length : Int) = 0) then
     some 0
   else
     some 63) fun most29=>
 A8y s1 c2 most29
def A1w (s1 : H6) (c2 : V4) : Option (Int):=
 Option.bind (A2M s1 c2.fA) fun t9=>
 bif decide (t9 < 0) then
   none
 else
   some 0
def A8C (s1 : H6) (c2 : V4) : Option (Int):=
 Option.bind (A2M s1 c2.fA) fun t9=>
 bif decide (t9 < 0) then
   none
 else
   Option.bind (A2M s1 c2.fB) fun t18=>
   bif decide (t18 < 0) then
     none
   else
     bif decide (c2.fA = c2.fB) then
       none
     else
       Option.bind (B9S s1) fun t28=>
       bif t28 then
         none
       else
         bif decide ((s1.fp.I8.length : Int) = 256) then
           none
         else
           some 0
def B0D (s1 : H6) (c2 : V4) : Option (Int):=
 none
def A9i (s1 : H6) (c2 : V4) : Option (Int):=
 none
def B0E (n : Nat) (s1 : H6) (c2 : V4) : Option (Int):=
 if n = 42 then A2l s1 c2 else
 if n = 46 then A1w s1 c2 else
 if n = 50 then A8C s1 c2 else
 if n = 54 then B0D s1 c2 else
 if n = 59 then A9i s1 c2 else
 none
def B1Z (r1 : F6) (name2 : ByteArray) : Option (Bool):=
 bif decide (r1.H8 = 5) then
  bif decide (r1.fA = name2) then
   some true
  else
   some (decide (r1.fB = name2))
 else
  bif decide (r1.H8 = 6) then
   bif decide (r1.fA = name2) then
    some true
   else
    some (decide (r1.fB = name2))
  else
   bif decide (r1.H8 = 7) then
    bif decide (r1.fA = name2) then
     some true
    else
     some (decide (r1.fB = name2))
   else
    bif decide (r1.H8 = 10) then
     bif decide (r1.fA = name2) then
      some true
     else
      some (decide (r1.fB = name2))
    else
     some false
def A7S (r1 : F6) (name2 : ByteArray) : Option (Bool):=
 bif decide (r1.H8 = 1) then
   bif decide (r1.fA = name2) then
     some true
   else
     some (decide (r1.fB = name2))
 else
   bif decide (r1.H8 = 2) then
     bif decide (r1.fA = name2) then
       some true
     else
       some (decide (r1.fB = name2))
   else
     bif decide (r1.H8 = 3) then
       bif decide (r1.fA = name2) then
         some true
       else
         some (decide (r1.fB = name2))
     else
       bif decide (r1.H8 = 4) then
         bif decide (r1.fA = name2) then
           some true
         else
           some (decide (r1.fB = name2))
       else
         B1Z r1 name2
def A4a (t1 : F5) (t2 : V4) : Option (Bool):=
 bif decide (t1.fA = t2.fA) then
   none
 else
   some (decide (t1.fB = t2.fA))
def A3S (r1 : F6) (t2 : V4) : Option (Bool):=
 Option.bind (A7S r1 t2.fA) fun t9=>
 some t9
def A7F (x1 : F5) (y2 : F5) : Option (Int):=
 none
def A9n (s1 : List D6) (i3 : Int) (j4 : Int) : Option (List D6):=
 Option.bind (bdV 0 i3 (s1.length : Int)) fun u8=>
 Option.bind (bdV j4 (s1.length : Int) (s1.length : Int)) fun u9=>
 Option.bind (emV j4 (s1.length : Int)) fun u10=>
 Option.bind (bdV (((i3.toNat - (0 : Int).toNat : Nat)) : Int) (s1.length : Int) (s1.length : Int)) fun u11=>
 Option.bind (bdV (((i3.toNat - (0 : Int).toNat : Nat)) : Int) (s1.length : Int) (s1.length : Int)) fun u12=>
 Option.bind (some (A2E s1 (((i3.toNat - (0 : Int).toNat : Nat)) : Int).toNat (List.replicate ((s1.length : Int).toNat - (((i3.toNat - (0 : Int).toNat : Nat)) : Int).toNat) (D6.mk (⟨#[]⟩ : ByteArray) (⟨#[]⟩ : ByteArray) (⟨#[]⟩ : ByteArray) 0 0 (⟨#[]⟩ : ByteArray) false false ([] : List ByteArray))))) fun l14=>
 some (List.take i3.toNat l14)
def A4e (s1 : List D6) (i3 : Int) (j4 : Int) : Option (List D6):=
 Option.bind (bdV i3 j4 (s1.length : Int)) fun u5=>
 Option.bind (bdV j4 (s1.length : Int) (s1.length : Int)) fun u6=>
 bif decide (i3 = j4) then
   none
 else
   A9n s1 i3 j4
def B1I (s1 : List Int) (i3 : Int) (j4 : Int) : Option (List Int):=
 Option.bind (bdV 0 i3 (s1.length : Int)) fun u8=>
 Option.bind (bdV j4 (s1.length : Int) (s1.length : Int)) fun u9=>
 Option.bind (emV j4 (s1.length : Int)) fun u10=>
 Option.bind (bdV (((i3.toNat - (0 : Int).toNat : Nat)) : Int) (s1.length : Int) (s1.length : Int)) fun u11=>
 Option.bind (bdV (((i3.toNat - (0 : Int).toNat : Nat)) : Int) (s1.length : Int) (s1.length : Int)) fun u12=>
 Option.bind (some (A2E s1 (((i3.toNat - (0 : Int).toNat : Nat)) : Int).toNat (List.replicate ((s1.length : Int).toNat - (((i3.toNat - (0 : Int).toNat : Nat)) : Int).toNat) 0))) fun l14=>
 some (List.take i3.toNat l14)
def A2s (s1 : List Int) (i3 : Int) (j4 : Int) : Option (List Int):=
 Option.bind (bdV i3 j4 (s1.length : Int)) fun u5=>
 Option.bind (bdV j4 (s1.length : Int) (s1.length : Int)) fun u6=>
 bif decide (i3 = j4) then
   none
 else
   B1I s1 i3 j4
def B6m (b4 : Int) (t6 : Int) : Unit→Option (Unit⊕Unit):=fun _u=>
 bif decide (t6 < b4) then
  none
 else
  some (Sum.inr ())
def C2D (data1 : List F5) (a3 : Int) (b4 : Int) (cmp5 : F5→F5→Option Int) : Option (List F5):=
 Option.bind (N7 (a3 + 1)) fun t6=>
 Option.bind (
   iter (B6m b4 t6) FUEL ()) fun _u=>
 some data1
def B6X (data1 : List F5) (a3 : Int) (b4 : Int) (cmp6 : F5→F5→Option Int) : Unit→Option (Unit⊕(List F5)):=fun _u=>
 Option.bind (N7 (b4 - a3)) fun t17=>
 bif decide (t17≤12) then
  Option.bind (C2D data1 a3 b4 cmp6) fun l19=>
  some (Sum.inr l19)
 else
  none
def C2B : Nat→(List F5)→Int→Int→Int→(F5→F5→Option Int)→Option (List F5)
 | 0,_,_,_,_,_=>none
 | n + 1,data1,a3,b4,limit5,cmp6=>
  Option.bind (
   iter (B6X data1 a3 b4 cmp6) FUEL ()) fun p=>some p
def B2n (x1 : List F5) (cmp3 : F5→F5→Option Int) : Option (List F5):=
 Option.bind (A1p .u64 (x1.length : Int)) fun t4=>
 Option.bind (bits_Len t4) fun t5=>
 Option.bind (C2B C2U x1 0 (x1.length : Int) t5 cmp3) fun l13=>
 some l13
def A8B (s1 : H6) (c2 : V4) : Option (H6):=
 Option.bind (A1Y c2.L6.M6) fun t16=>
 Option.bind (
   bif decide (0 < (s1.fp.I6.length : Int)) then
     Option.bind (apL s1.fp.I6 [c2.fN]) fun t41=>
     some t41
   else
     some s1.fp.I6) fun class32=>
 Option.bind (apL s1.fp.A8 [(D6.mk c2.L6.F8 c2.L6.A0k c2.L6.V9 c2.L6.V3 c2.L6.A0f c2.L6.Z0 c2.L6.A0u c2.L6.U2 t16)]) fun t59=>
 Option.bind (apL s1.U3 [(-1)]) fun t70=>
 some (H6.mk s1.Q0 (A9.mk s1.fp.D7 t59 s1.fp.I8 class32 s1.fp.J3) t70 s1.A0j)
def A5D (s1 : H6) (c2 : V4) : Option (H6):=
 Option.bind (A2M (H6.mk s1.Q0 (A9.mk s1.fp.D7 s1.fp.A8 s1.fp.I8 s1.fp.I6 s1.fp.J3) s1.U3 s1.A0j) c2.fA) fun t36=>
 Option.bind (N7 (t36 + 1)) fun t50=>
 Option.bind (A4e s1.fp.A8 t36 t50) fun t51=>
 Option.bind (
   bif decide (0 < (s1.fp.I6.length : Int)) then
     Option.bind (N7 (t36 + 1)) fun t73=>
     Option.bind (A2s s1.fp.I6 t36 t73) fun t74=>
     some t74
   else
     some s1.fp.I6) fun class67=>
 Option.bind (N7 (t36 + 1)) fun t90=>
 Option.bind (A2s s1.U3 t36 t90) fun t91=>
 Option.bind (A2W s1.fp.I8 (fun y0=>A4a y0 c2)) fun t112=>
 Option.bind (A1A s1.fp.J3 (fun y0=>A3S y0 c2)) fun t133=>
 some (H6.mk s1.Q0 (A9.mk s1.fp.D7 t51 t112 class67 t133) t91 s1.A0j)
def B7R (s1 : H6) (c2 : V4) : Option (H6):=
 Option.bind (apL s1.fp.I8 [(F5.mk (minS c2.fA c2.fB) (maxS c2.fA c2.fB) 0)]) fun t54=>
 Option.bind (J6 t54 (s1.fp.I8.length : Int)) fun e62=>
 Option.bind (some (List.set t54 (s1.fp.I8.length : Int).toNat (F5.mk e62.fA e62.fB 2))) fun l65=>
 Option.bind (B2n l65 A7F) fun l79=>
 Option.bind (apL s1.fp.J3 [(F6.mk 1 0 c2.fA c2.fB (⟨#[]⟩ : ByteArray) 2)]) fun t93=>
 some (H6.mk s1.Q0 (A9.mk s1.fp.D7 s1.fp.A8 l79 s1.fp.I6 t93) s1.U3 s1.A0j)
def B5c (s1 : H6) (c2 : V4) : Option (H6):=
 Option.bind (C2O (H6.mk s1.Q0 (A9.mk s1.fp.D7 s1.fp.A8 s1.fp.I8 s1.fp.I6 s1.fp.J3) s1.U3 s1.A0j) c2.fA c2.fB) fun t36=>
 bif decide (t36 < 0) then
   B7R s1 c2
 else
   none
def B0I (n : Nat) (s1 : H6) (c2 : V4) : Option (H6):=
 if n = 43 then A8B s1 c2 else
 if n = 47 then A5D s1 c2 else
 if n = 51 then B5c s1 c2 else
 none
def B8U (k1 : Int) : Option (A8q×Bool):=
 Option.bind (A1p .i64 k1) fun t9=>
 bif decide (6≤t9) then
  none
 else
  bif decide (k1 = 1) then
   some ((A8q.mk (⟨#[108,97,116,101]⟩ : ByteArray) (42 : Nat) (43 : Nat) (44 : Nat) (45 : Nat)),true)
  else
  bif decide (k1 = 2) then
   some ((A8q.mk (⟨#[99,97,110,99,101,108]⟩ : ByteArray) (46 : Nat) (47 : Nat) (48 : Nat) (49 : Nat)),true)
  else
  bif decide (k1 = 3) then
   some ((A8q.mk (⟨#[113,117,97,114,114,101,108]⟩ : ByteArray) (50 : Nat) (51 : Nat) (52 : Nat) (53 : Nat)),true)
  else
  none
def A6d (k1 : Int) : Option (A8q×Bool):=
 bif decide (k1 = 0) then
   none
 else
   B8U k1
def A1U (s1 : H6) (c2 : V4) : Option (Int):=
 Option.bind (A6d c2.H8) fun (t9,t10)=>
 bif !t10 then
   none
 else
   Option.bind (B0E t9.B5J s1 c2) fun t24=>
   some t24
def A7I (c13 : V4) (t25 : H6) : Option (A9×(List Int)×Int):=
 Option.bind (A1U (H6.mk t25.Q0 (A9.mk t25.fp.D7 t25.fp.A8 t25.fp.I8 t25.fp.I6 t25.fp.J3) t25.U3 t25.A0j) c13) fun t83=>
 bif !decide (t83 = 0) then
  some ((A9.mk ([] : List C8) ([] : List D6) ([] : List F5) ([] : List Int) ([] : List F6)),([] : List Int),t83)
 else
  Option.bind (A6d c13.H8) fun (t100,t101)=>
  Option.bind (B0I t100.B5L (H6.mk t25.Q0 (A9.mk t25.fp.D7 t25.fp.A8 t25.fp.I8 t25.fp.I6 t25.fp.J3) t25.U3 t25.A0j) c13) fun q114=>
  some ((A9.mk q114.fp.D7 q114.fp.A8 q114.fp.I8 q114.fp.I6 q114.fp.J3),q114.U3,0)
def A1P (p1 : A9) (part12 : List Int) (c13 : V4) : Option (A9×(List Int)×Int):=
 Option.bind (A1V p1 part12) fun (t25,t26)=>
 bif !decide (t26 = 0) then
   none
 else
   A7I c13 t25
end Go.Dm
open Go Go.Sl
namespace Go.Dm
def B1Y (l1 : List Int) : (Int×Int)→Option ((Int×Int)⊕Int):=fun (n6,t7)=>
 bif decide (t7 < (l1.length : Int)) then
  Option.bind (J6 l1 t7) fun e16=>
  Option.bind (N7 (n6 * e16)) fun t19=>
  Option.bind (N7 (t7 + 1)) fun t20=>
  some (Sum.inl ((min t19 20001),t20))
 else
  some (Sum.inr n6)
def B1o (l1 : List Int) : Option (Int):=
 Option.bind (
   iter (B1Y l1) FUEL (1,0)) fun n5=>
 some n5
def B2I (free1 : Int) (guests2 : Int) : ((List Int)×Int)→Option (((List Int)×Int)⊕(List Int)):=fun (l13,t18)=>
 bif decide (t18 < guests2) then
  Option.bind (N7 (free1 - t18)) fun t27=>
  Option.bind (apL l13 [t27]) fun t31=>
  Option.bind (N7 (t18 + 1)) fun t37=>
  some (Sum.inl (t31,t37))
 else
  some (Sum.inr l13)
def B8m (free1 : Int) (guests2 : Int) : Option (Int):=
 Option.bind (
   iter (B2I free1 guests2) FUEL (([] : List Int),0)) fun l6=>
 Option.bind (B1o l6) fun t45=>
 some t45
def B3s (m1 : Int) (k2 : Int) : (Int×Int)→Option ((Int×Int)⊕Int):=fun (n7,t8)=>
 bif decide (t8 < k2) then
  Option.bind (N7 (m1 - t8)) fun t17=>
  Option.bind (N7 (n7 * t17)) fun t18=>
  Option.bind (N7 (t8 + 1)) fun t19=>
  Option.bind (A4V t18 t19) fun t20=>
  bif decide (20000 < t20) then
   none
  else
   Option.bind (N7 (t8 + 1)) fun t22=>
   some (Sum.inl (t20,t22))
 else
  some (Sum.inr n7)
def B8A (m1 : Int) (k2 : Int) : Option (Int):=
 Option.bind (
   iter (B3s m1 k2) FUEL (1,0)) fun n6=>
 some n6
def B3b (s1 : H6) : (Int×Int)→Option ((Int×Int)⊕Int):=fun (t24,m25)=>
 bif decide (t24 < (s1.U3.length : Int)) then
  Option.bind (J6 s1.U3 t24) fun e34=>
  bif decide (0≤e34) then
   Option.bind (N7 (m25 + 1)) fun t38=>
   Option.bind (N7 (t24 + 1)) fun t39=>
   some (Sum.inl (t39,t38))
  else
   Option.bind (N7 (t24 + 1)) fun t40=>
   some (Sum.inl (t40,m25))
 else
  some (Sum.inr m25)
def C0Z (s1 : H6) (m23 : Int) (sum48 : Int) (k49 : Int) (t60 : Bool) : Option ((Int×Int)⊕Int):=
 bif t60 then
  Option.bind (N7 (m23 - k49)) fun t66=>
  Option.bind (N7 (s1.A0j - m23)) fun t67=>
  Option.bind (N7 (t67 + k49)) fun t68=>
  Option.bind (N7 ((s1.U3.length : Int) - m23)) fun t69=>
  Option.bind (N7 (t69 + k49)) fun t70=>
  Option.bind (B8A m23 (min k49 t66)) fun t71=>
  Option.bind (B8m t68 t70) fun t79=>
  Option.bind (B1o [t71,t79]) fun t94=>
  Option.bind (N7 (sum48 + t94)) fun t102=>
  Option.bind (N7 (k49 + 1)) fun t103=>
  some (Sum.inl (t102,t103))
 else
  some (Sum.inr sum48)
def B3a (s1 : H6) (most2 : Int) (m23 : Int) : (Int×Int)→Option ((Int×Int)⊕Int):=fun (sum48,k49)=>
 Option.bind (
  bif decide (k49≤(min (max most2 0) m23)) then
   some (decide (sum48≤20000))
  else
   some false) fun t60=>
 C0Z s1 m23 sum48 k49 t60
def B3M (s1 : H6) (most2 : Int) : Option (Int):=
 Option.bind (
   iter (B3b s1) FUEL (0,0)) fun m23=>
 Option.bind (
   iter (B3a s1 most2 m23) FUEL (0,0)) fun sum47=>
 some (min sum47 20001)
def B1l (p1 : A9) (part12 : List Int) (most13 : Int) : Option (Int):=
 Option.bind (A1V p1 part12) fun (t18,t19)=>
 bif !decide (t19 = 0) then
   none
 else
   Option.bind (B3M (H6.mk t18.Q0 (A9.mk t18.fp.D7 t18.fp.A8 t18.fp.I8 t18.fp.I6 t18.fp.J3) t18.U3 t18.A0j) most13) fun t76=>
   some t76
def B2a (c114 : List Int) (c119 : Bool) (plan120 : List Int) (cost125 : Int) (t126 : Int) : Int→Option (Int⊕(Unit⊕((List Int)×Bool×(List Int)×Int))):=fun t185=>
 bif decide (t185 < (c114.length : Int)) then
  Option.bind (J6 c114 t185) fun e194=>
  bif decide (e194 = t126) then
   some (Sum.inr (Sum.inr (c114,c119,plan120,cost125)))
  else
   Option.bind (N7 (t185 + 1)) fun t198=>
   some (Sum.inl t198)
 else
  some (Sum.inr (Sum.inl ()))
def B9g (self : Int→Int→H6→(List Int)→Bool→Z9→Int→Option ((List Int)×Bool×Z9)) (g1 : Int) (left2 : Int) (t3 : H6) (t11 : Int) (c114 : List Int) (c119 : Bool) (plan120 : List Int) (cost125 : Int) (t126 : Int) (moved153 : Bool) : Option ((List Int)×Bool×(List Int)×Int):=
 Option.bind (J6 c114 g1) fun e202=>
 Option.bind (some (List.set c114 g1.toNat t126)) fun l205=>
 bif moved153 then
  Option.bind (N7 (g1 + 1)) fun t209=>
  Option.bind (N7 (left2 - 1)) fun t210=>
  Option.bind (self t209 t210 t3 l205 c119 (Z9.mk plan120 cost125) t11) fun (q211,q212,q213)=>
  Option.bind (J6 q211 g1) fun e229=>
  Option.bind (some (List.set q211 g1.toNat (-1))) fun l232=>
  some (l232,q212,q213.A3K,q213.A1N)
 else
  Option.bind (N7 (g1 + 1)) fun t235=>
  Option.bind (self t235 left2 t3 l205 c119 (Z9.mk plan120 cost125) t11) fun (q236,q237,q238)=>
  Option.bind (J6 q236 g1) fun e254=>
  Option.bind (some (List.set q236 g1.toNat (-1))) fun l257=>
  some (l257,q237,q238.A3K,q238.A1N)
def B9d (self : Int→Int→H6→(List Int)→Bool→Z9→Int→Option ((List Int)×Bool×Z9)) (g1 : Int) (left2 : Int) (t3 : H6) (t11 : Int) (c114 : List Int) (c119 : Bool) (plan120 : List Int) (cost125 : Int) (t126 : Int) (moved153 : Bool) : Option ((List Int)×Bool×(List Int)×Int):=
 Option.bind (
  bif moved153 then
   bif decide (left2 = 0) then
    some true
   else
    bif decide (g1 = t11) then
     Option.bind (J6 t3.U3 g1) fun e171=>
     some (decide (e171 = t126))
    else
     some false
  else
   bif decide (g1 = t11) then
    Option.bind (J6 t3.U3 g1) fun e175=>
    some (decide (e175 = t126))
   else
    some false) fun t167=>
 bif t167 then
  some (c114,c119,plan120,cost125)
 else
  Option.bind (
   iter (B2a c114 c119 plan120 cost125 t126) FUEL 0) fun o182=>match o182 with
  | .inl _u=>
   B9g self g1 left2 t3 t11 c114 c119 plan120 cost125 t126 moved153
  | .inr p=>
   some p
def B1V (self : Int→Int→H6→(List Int)→Bool→Z9→Int→Option ((List Int)×Bool×Z9)) (g1 : Int) (left2 : Int) (t3 : H6) (t11 : Int) : ((List Int)×Bool×(List Int)×Int×Int)→Option (((List Int)×Bool×(List Int)×Int×Int)⊕((List Int)×Bool×(List Int)×Int)):=fun (c114,c119,plan120,cost125,t126)=>
 bif decide (t126 < t3.A0j) then
  Option.bind (
   Option.bind (
    Option.bind (J6 t3.U3 g1) fun e154=>
    bif decide (0≤e154) then
     Option.bind (J6 t3.U3 g1) fun e158=>
     some (!decide (e158 = t126))
    else
     some false) fun moved153=>
   B9d self g1 left2 t3 t11 c114 c119 plan120 cost125 t126 moved153) fun (c138,c143,plan144,cost149)=>
  Option.bind (N7 (t126 + 1)) fun t263=>
  some (Sum.inl (c138,c143,plan144,cost149,t263))
 else
  some (Sum.inr (c114,c119,plan120,cost125))
def B9h (self : Int→Int→H6→(List Int)→Bool→Z9→Int→Option ((List Int)×Bool×Z9)) (g1 : Int) (left2 : Int) (t3 : H6) (t6 : List Int) (t8 : Bool) (t9 : Z9) (t11 : Int) : Option ((List Int)×Bool×Z9):=
 bif decide (g1 = (t6.length : Int)) then
  Option.bind (B9r t3.Q0 t6) fun t48=>
  Option.bind (
   bif decide (left2 = 0) then
    bif !t8 then
     some true
    else
     some (decide (t48 < t9.A1N))
   else
    none) fun t60=>
  Option.bind (
   bif t60 then
    Option.bind (A2w t6) fun t80=>
    some (true,t80,t48)
   else
    some (t8,t9.A3K,t9.A1N)) fun (c69,plan70,cost75)=>
  some (t6,c69,(Z9.mk plan70 cost75))
 else
  Option.bind (
   iter (B1V self g1 left2 t3 t11) FUEL (t6,t8,t9.A3K,t9.A1N,0)) fun (c102,c107,plan108,cost113)=>
  some (c102,c107,(Z9.mk plan108 cost113))
def A7V : Nat→Int→Int→H6→(List Int)→Bool→Z9→Int→Option ((List Int)×Bool×Z9)
 | 0,_,_,_,_,_,_,_=>none
 | n + 1,g1,left2,t3,t6,t8,t9,t11=>
  Option.bind (B5O t3.Q0 t6) fun (t33,t34)=>
  bif t34 then
   some (t6,t8,(Z9.mk t9.A3K t9.A1N))
  else
   B9h (A7V n) g1 left2 t3 t6 t8 t9 t11
def B9B (s1 : H6) (moves2 : Int) (oust3 : Int) : Option (Z9×Bool):=
 Option.bind (B0C [(-1)] (s1.U3.length : Int)) fun t37=>
 Option.bind (A7V C2U 0 moves2 s1 t37 false (Z9.mk ([] : List Int) 0) oust3) fun (q60,q61,q62)=>
 some ((Z9.mk q62.A3K q62.A1N),q61)
def B3N (s1 : H6) (most2 : Int) (oust3 : Int) : Int→Option (Int⊕(Unit⊕(A5u×Int))):=fun n17=>
 bif decide (n17≤(min most2 (s1.U3.length : Int))) then
  Option.bind (B9B s1 n17 oust3) fun (t43,t44)=>
  bif t44 then
   Option.bind (A9K s1.Q0) fun t60=>
   some (Sum.inr (Sum.inr ((A5u.mk t60 t43.A3K n17 t43.A1N),0)))
  else
   Option.bind (N7 (n17 + 1)) fun t78=>
   some (Sum.inl t78)
 else
  some (Sum.inr (Sum.inl ()))
def B2D (s1 : H6) (most2 : Int) (oust3 : Int) : Option (A5u×Int):=
 Option.bind (B3M s1 most2) fun t5=>
 bif decide (20000 < t5) then
   none
 else
   Option.bind (
     iter (B3N s1 most2 oust3) FUEL 0) fun o14=>match o14 with
   | .inl _u=>
     some ((A5u.mk (A9.mk ([] : List C8) ([] : List D6) ([] : List F5) ([] : List Int) ([] : List F6)) ([] : List Int) 0 0),9)
   | .inr p=>
     some p
def A8L (p1 : A9) (part12 : List Int) (most13 : Int) : Option (A5u×Int):=
 Option.bind (A1V p1 part12) fun (t19,t20)=>
 bif !decide (t20 = 0) then
   none
 else
   Option.bind (B2D (H6.mk t19.Q0 (A9.mk t19.fp.D7 t19.fp.A8 t19.fp.I8 t19.fp.I6 t19.fp.J3) t19.U3 t19.A0j) (max most13 0) (-1)) fun (t83,t84)=>
   some (t83,t84)
def B8y (p1 : A9) (part12 : List Int) (g13 : Int) (most14 : Int) : Option (A5u×Int):=
 Option.bind (A1V p1 part12) fun (t20,t21)=>
 bif !decide (t21 = 0) then
   none
 else
   bif decide (g13 < 0) then
     none
   else
     bif decide ((part12.length : Int)≤g13) then
       none
     else
       Option.bind (J6 part12 g13) fun e59=>
       bif decide (e59 < 0) then
         none
       else
         Option.bind (B2D (H6.mk t20.Q0 (A9.mk t20.fp.D7 t20.fp.A8 t20.fp.I8 t20.fp.I6 t20.fp.J3) t20.U3 t20.A0j) (max most14 0) g13) fun (t90,t91)=>
         some (t90,t91)
def B0e (r1 : F6) : Option (Bool):=
 some (decide (0 < r1.Q3))
def B3O (p1 : A9) (part12 : List Int) : ((List F6)×Int)→Option (((List F6)×Int)⊕(List F6)):=fun (rules123,t128)=>
 bif decide (t128 < (part12.length : Int)) then
  Option.bind (J6 part12 t128) fun e137=>
  bif decide (0≤e137) then
   Option.bind (A2C p1.D7 e137) fun (t141,t142,t143)=>
   Option.bind (J6 p1.A8 t128) fun e151=>
   Option.bind (J6 p1.D7 t141) fun e156=>
   Option.bind (apL rules123 [(F6.mk 7 1 e151.F8 (⟨#[]⟩ : ByteArray) e156.F8 t142)]) fun t164=>
   Option.bind (N7 (t128 + 1)) fun t172=>
   some (Sum.inl (t164,t172))
  else
   none
 else
  some (Sum.inr rules123)
def B3J (p1 : A9) (part12 : List Int) : Option (A9×Int):=
 Option.bind (A1V p1 part12) fun (t18,t19)=>
 bif !decide (t19 = 0) then
   none
 else
   Option.bind (A5C t18.Q0) fun t55=>
   Option.bind (A1A t55.J3 B0e) fun t102=>
   Option.bind (
     iter (B3O p1 part12) FUEL (t102,0)) fun rules118=>
   bif decide (64 < (rules118.length : Int)) then
     none
   else
     some ((A9.mk t55.D7 t55.A8 t55.I8 t55.I6 rules118),0)
def B1i (p1 : A9) (part12 : List Int) (moved13 : Int) : Option ((List Y2)×Int):=
 Option.bind (B3J p1 part12) fun (t18,t19)=>
 bif !decide (t19 = 0) then
   none
 else
   Option.bind (B6T t18 moved13) fun (t43,t44)=>
   some (t43,t44)
def B3g (s1 : H6) : (Int×(List Int))→Option ((Int×(List Int))⊕(List Int)):=fun (t29,out30)=>
 bif decide (t29 < (s1.fp.J3.length : Int)) then
  Option.bind (J6 s1.fp.J3 t29) fun e43=>
  bif decide (e43.Q3 = 0) then
   Option.bind (B3t s1.Q0 s1.U3 t29) fun t52=>
   bif decide (0 < t52) then
    Option.bind (apL out30 [t29]) fun t64=>
    Option.bind (N7 (t29 + 1)) fun t70=>
    some (Sum.inl (t70,t64))
   else
    none
  else
   none
 else
  some (Sum.inr out30)
def B3Z (s1 : H6) : Option (List Int):=
 Option.bind (
   iter (B3g s1) FUEL (0,([] : List Int))) fun out22=>
 some out22
def B7e (p1 : A9) (part12 : List Int) : Option (List Int):=
 Option.bind (A1V p1 part12) fun (t17,t18)=>
 bif !decide (t18 = 0) then
   none
 else
   Option.bind (B3Z (H6.mk t17.Q0 (A9.mk t17.fp.D7 t17.fp.A8 t17.fp.I8 t17.fp.I6 t17.fp.J3) t17.U3 t17.A0j)) fun t75=>
   some t75
def A9S (u1 : Int) (who2 : List Int) (t3 : List Int) : Option (List Int):=
 Option.bind (apL t3 who2) fun t5=>
 some t5
def C0F (i3 : Int) (t4 : O8) : Option (List Int):=
 bif decide ((t4.Q0.A1C.J3.length : Int)≤i3) then
  none
 else
  Option.bind (J6 t4.Q0.A1C.J3 i3) fun e56=>
  Option.bind (lkM t4.Q0.C3T e56.H8 (I5.mk (⟨#[]⟩ : ByteArray) 0 false 0 false 0 false (0 : Nat))) fun (e59,ok60)=>
  Option.bind (J6 t4.Q0.A1C.J3 i3) fun e63=>
  Option.bind (B4g e59.C5k t4 e63 (fun s_ y0 y1=>A9S y0 y1 s_) ([] : List Int)) fun s79=>
  Option.bind (B5Z s79) fun l98=>
  Option.bind (B0c l98) fun t109=>
  some t109
def B8v (j1 : X7) (part2 : List Int) (i3 : Int) : Option (List Int):=
 Option.bind (A8E j1 part2) fun t4=>
 bif decide (i3 < 0) then
   none
 else
   C0F i3 t4
def A6x (g1 : Int) (t2 : List Int) : Option (Bool):=
 Option.bind (A0Q t2 g1) fun t5=>
 some t5
def B7p (t17 : H6) (c99 : List Int) (t104 : Int) (n105 : Int) (e114 : Int) (e117 : F6) : Option (((List Int)×Int×Int)⊕Int):=
 bif decide (e117.H8 = 11) then
  none
 else
  bif decide (e117.H8 = 15) then
   none
  else
   Option.bind (B8v t17.Q0 t17.U3 e114) fun t126=>
   Option.bind (A3p t126 (fun y0=>A6x y0 c99)) fun t147=>
   bif !t147 then
    Option.bind (apL c99 t126) fun t164=>
    Option.bind (N7 (n105 + 1)) fun t173=>
    Option.bind (N7 (t104 + 1)) fun t174=>
    some (Sum.inl (t164,t174,t173))
   else
    none
def A9p (t17 : H6) (t76 : List Int) : ((List Int)×Int×Int)→Option (((List Int)×Int×Int)⊕Int):=fun (c99,t104,n105)=>
 bif decide (t104 < (t76.length : Int)) then
  Option.bind (J6 t76 t104) fun e114=>
  Option.bind (J6 t17.fp.J3 e114) fun e117=>
  bif decide (e117.H8 = 9) then
   none
  else
   B7p t17 c99 t104 n105 e114 e117
 else
  some (Sum.inr n105)
def B3l (p1 : A9) (part12 : List Int) : Option (Int):=
 Option.bind (A1V p1 part12) fun (t17,t18)=>
 bif !decide (t18 = 0) then
   none
 else
   Option.bind (B3Z (H6.mk t17.Q0 (A9.mk t17.fp.D7 t17.fp.A8 t17.fp.I8 t17.fp.I6 t17.fp.J3) t17.U3 t17.A0j)) fun t76=>
   Option.bind (
     iter (A9p t17 t76) FUEL (([] : List Int),0,0)) fun n96=>
   some n96
def C0K : Option (Bool):=
 Option.bind (A8Y false [(F6.mk 7 0 (⟨#[99,97,114,108]⟩ : ByteArray) (⟨#[]⟩ : ByteArray) (⟨#[114]⟩ : ByteArray) 0)]) fun t359=>
 Option.bind (A8L t359 [0,1,2] 1) fun (t382,t383)=>
 Option.bind (A8L t359 [0,1,2] 2) fun (t403,t404)=>
 Option.bind (A8Y false ([] : List F6)) fun t429=>
 Option.bind (B8y t429 [0,1,2] 1 1) fun (t447,t448)=>
 bif decide (t383 = 9) then
  Option.bind (N7 (t404 + t448)) fun t474=>
  bif decide (t474 = 0) then
   bif decide (t403.A6A = 2) then
    Option.bind (A0A t403.A3K [2,1,0]) fun t484=>
    bif t484 then
     Option.bind (A0A t447.A3K [0,3,2]) fun t500=>
     some t500
    else
     none
   else
    none
  else
   none
 else
  none
def B9C : Option (Bool):=
 Option.bind (A8Y false ([] : List F6)) fun t238=>
 Option.bind (A1P t238 [0,1,2] (V4.mk 1 (D6.mk (⟨#[100,111,114,97]⟩ : ByteArray) (⟨#[]⟩ : ByteArray) (⟨#[]⟩ : ByteArray) 0 0 (⟨#[]⟩ : ByteArray) false false ([] : List ByteArray)) (⟨#[]⟩ : ByteArray) (⟨#[]⟩ : ByteArray) (⟨#[]⟩ : ByteArray) 0 (F6.mk 0 0 (⟨#[]⟩ : ByteArray) (⟨#[]⟩ : ByteArray) (⟨#[]⟩ : ByteArray) 0))) fun (t256,t257,t258)=>
 Option.bind (A8L t256 t257 0) fun (t289,t290)=>
 Option.bind (N7 (t258 + t290)) fun t315=>
 bif !decide (t315 = 0) then
  none
 else
  Option.bind (A0A t289.A3K [0,1,2,3]) fun t324=>
  bif !t324 then
   none
  else
   bif !decide (t289.A6A = 0) then
    none
   else
    Option.bind (B1l t256 t257 0) fun t334=>
    bif !decide (t334 = 1) then
     none
    else
     Option.bind (B1l t256 t257 1) fun t343=>
     bif !decide (t343 = 7) then
      none
     else
      C0K
def C0U (t26 : A9) (t27 : List Int) (t86 : A5u) (t163 : Int) : Option (Bool):=
 bif !decide (t163 = 66) then
  none
 else
  bif !decide (t86.A6A = 1) then
   none
  else
   Option.bind (A0A t86.A3K [0,4,2]) fun t189=>
   bif !t189 then
    none
   else
    Option.bind (B3l t26 t27) fun t198=>
    bif !decide (t198 = 1) then
     none
    else
     Option.bind (B7e t26 t27) fun t207=>
     Option.bind (A0A t207 [0]) fun t229=>
     bif !t229 then
      none
     else
      B9C
def C1d (t26 : A9) (t27 : List Int) : Option (Bool):=
 Option.bind (A8L t26 t27 1) fun (t86,t87)=>
 Option.bind (B1i t26 t27 1) fun (t112,t113)=>
 Option.bind (B3J t26 t27) fun (t125,t126)=>
 Option.bind (B4N t125 1 t112) fun (t153,t154)=>
 Option.bind (B1i t26 t27 2) fun (t162,t163)=>
 Option.bind (N7 (t87 + t113)) fun t175=>
 Option.bind (N7 (t175 + t126)) fun t176=>
 Option.bind (N7 (t176 + t154)) fun t177=>
 bif !decide (t177 = 0) then
  none
 else
  bif !decide (t153 = 0) then
   none
  else
   C0U t26 t27 t86 t163
def A7s  : Option (Bool):=
 Option.bind (A8Y true ([] : List F6)) fun t4=>
 Option.bind (A1P t4 [0,1,2] (V4.mk 3 (D6.mk (⟨#[]⟩ : ByteArray) (⟨#[]⟩ : ByteArray) (⟨#[]⟩ : ByteArray) 0 0 (⟨#[]⟩ : ByteArray) false false ([] : List ByteArray)) (⟨#[97,110,110,97]⟩ : ByteArray) (⟨#[98,111,114,105,115]⟩ : ByteArray) (⟨#[]⟩ : ByteArray) 0 (F6.mk 0 0 (⟨#[]⟩ : ByteArray) (⟨#[]⟩ : ByteArray) (⟨#[]⟩ : ByteArray) 0))) fun (t26,t27,t28)=>
 bif !decide (t28 = 0) then
   none
 else
   Option.bind (A0A t27 [0,1,2]) fun t60=>
   bif !t60 then
     none
   else
     Option.bind (A4R t26.J3 [(F6.mk 1 0 (⟨#[97,110,110,97]⟩ : ByteArray) (⟨#[98,111,114,105,115]⟩ : ByteArray) (⟨#[]⟩ : ByteArray) 2)]) fun t76=>
     bif !t76 then
       none
     else
       bif !decide ((t26.I8.length : Int) = 1) then
         none
       else
         C1d t26 t27
end Go.Dm
open Go Go.Sl
namespace Go.Dm
def A1O (n1 : Int) (low2 : Int) (high3 : Int) : Option (Bool):=
 bif decide (low2≤n1) then
   some (decide (n1≤high3))
 else
   some false
def B5q (t1 : C8) : Option (Int):=
 bif decide (t1.O6 = 3) then
  Option.bind (A1O t1.fA 1 8) fun t41=>
  bif t41 then
   Option.bind (A1O t1.fB 1 8) fun t50=>
   bif t50 then
    Option.bind (N7 (2 * t1.fB)) fun t59=>
    Option.bind (N7 (t1.fA + t59)) fun t60=>
    some t60
   else
    some 0
  else
   some 0
 else
  bif decide (t1.O6 = 4) then
   Option.bind (A1O t1.fA 1 24) fun t62=>
   bif t62 then
    Option.bind (A1O t1.fB 0 t1.fA) fun t71=>
    bif t71 then
     some t1.fA
    else
     some 0
   else
    some 0
  else
   some 0
def B1E (t1 : C8) : Option (Int):=
 bif decide (t1.O6 = 1) then
   Option.bind (A1O t1.fA 1 24) fun t9=>
   bif t9 then
     bif decide (t1.fB = 0) then
       some t1.fA
     else
       some 0
   else
     some 0
 else
   bif decide (t1.O6 = 2) then
     Option.bind (A1O t1.fA 1 11) fun t20=>
     bif t20 then
       Option.bind (A1O t1.fB 0 2) fun t29=>
       bif t29 then
         Option.bind (N7 (2 * t1.fA)) fun t38=>
         Option.bind (N7 (t38 + t1.fB)) fun t39=>
         some t39
       else
         some 0
     else
       some 0
   else
     B5q t1
def B8t (s1 : ByteArray) : Int→Option (Int⊕(Unit⊕Bool)):=fun i14=>
 bif decide (i14 < (s1.size : Int)) then
  Option.bind (B7K s1 i14) fun ch23=>
  bif decide (ch23 < 97) then
   some (Sum.inr (Sum.inr false))
  else
   Option.bind (B7K s1 i14) fun ch25=>
   bif decide (122 < ch25) then
    some (Sum.inr (Sum.inr false))
   else
    Option.bind (N7 (i14 + 1)) fun t27=>
    some (Sum.inl t27)
 else
  some (Sum.inr (Sum.inl ()))
def B6j (s1 : ByteArray) : Option (Bool):=
 Option.bind (
   bif decide ((s1.size : Int) < 1) then
     some true
   else
     some (decide (12 < (s1.size : Int)))) fun t5=>
 bif t5 then
   some false
 else
   Option.bind (
     iter (B8t s1) FUEL 0) fun o11=>match o11 with
   | .inl _u=>
     some true
   | .inr p=>
     some p
def B3T (l1 : List D6) (name2 : ByteArray) : Int→Option (Int⊕(Unit⊕Int)):=fun i6=>
 bif decide (i6 < (l1.length : Int)) then
  Option.bind (J6 l1 i6) fun e15=>
  bif decide (e15.F8 = name2) then
   some (Sum.inr (Sum.inr i6))
  else
   Option.bind (N7 (i6 + 1)) fun t21=>
   some (Sum.inl t21)
 else
  some (Sum.inr (Sum.inl ()))
def A3w (l1 : List D6) (name2 : ByteArray) : Option (Int):=
 Option.bind (
   iter (B3T l1 name2) FUEL 0) fun o3=>match o3 with
 | .inl _u=>
   some (-1)
 | .inr p=>
   some p
def C1K (k1 : Int) : Option (ByteArray):=
 Option.bind (J6 [(⟨#[]⟩ : ByteArray),(⟨#[97,112,97,114,116]⟩ : ByteArray),(⟨#[98,101,115,105,100,101]⟩ : ByteArray),(⟨#[97,99,114,111,115,115]⟩ : ByteArray),(⟨#[110,101,97,114]⟩ : ByteArray),(⟨#[116,111,103,101,116,104,101,114]⟩ : ByteArray),(⟨#[97,116]⟩ : ByteArray),(⟨#[115,101,97,116]⟩ : ByteArray),(⟨#[97,108,116,101,114,110,97,116,101]⟩ : ByteArray),(⟨#[104,111,115,116]⟩ : ByteArray),(⟨#[114,101,97,99,104]⟩ : ByteArray),(⟨#[115,112,101,97,107]⟩ : ByteArray),(⟨#[112,101,97,99,101]⟩ : ByteArray),(⟨#[99,111,109,112,97,110,121]⟩ : ByteArray),(⟨#[104,111,110,111,117,114]⟩ : ByteArray),(⟨#[102,105,108,108]⟩ : ByteArray),(⟨#[108,105,109,105,116]⟩ : ByteArray),(⟨#[107,105,116,99,104,101,110]⟩ : ByteArray),(⟨#[109,105,120]⟩ : ByteArray)] k1) fun e7=>
 some e7
def A3R (k1 : Int) : Option (ByteArray):=
 Option.bind (A1p .i64 k1) fun t5=>
 bif decide (([(⟨#[]⟩ : ByteArray),(⟨#[97,112,97,114,116]⟩ : ByteArray),(⟨#[98,101,115,105,100,101]⟩ : ByteArray),(⟨#[97,99,114,111,115,115]⟩ : ByteArray),(⟨#[110,101,97,114]⟩ : ByteArray),(⟨#[116,111,103,101,116,104,101,114]⟩ : ByteArray),(⟨#[97,116]⟩ : ByteArray),(⟨#[115,101,97,116]⟩ : ByteArray),(⟨#[97,108,116,101,114,110,97,116,101]⟩ : ByteArray),(⟨#[104,111,115,116]⟩ : ByteArray),(⟨#[114,101,97,99,104]⟩ : ByteArray),(⟨#[115,112,101,97,107]⟩ : ByteArray),(⟨#[112,101,97,99,101]⟩ : ByteArray),(⟨#[99,111,109,112,97,110,121]⟩ : ByteArray),(⟨#[104,111,110,111,117,114]⟩ : ByteArray),(⟨#[102,105,108,108]⟩ : ByteArray),(⟨#[108,105,109,105,116]⟩ : ByteArray),(⟨#[107,105,116,99,104,101,110]⟩ : ByteArray),(⟨#[109,105,120]⟩ : ByteArray)].length : Int)≤t5) then
   some (⟨#[]⟩ : ByteArray)
 else
   C1K k1
def X8 (k1 : Int) : Option (Bool):=
 bif decide (k1 = 1) then
   some true
 else
   bif decide (k1 = 2) then
     some true
   else
     bif decide (k1 = 3) then
       some true
     else
       bif decide (k1 = 4) then
         some true
       else
         some (decide (k1 = 5))
def A1y (k1 : Int) : Option (Bool):=
 bif decide (k1 = 6) then
   some true
 else
   bif decide (k1 = 7) then
     some true
   else
     some (decide (k1 = 10))
def Q6 (k1 : Int) : Option (Int):=
 Option.bind (
   Option.bind (X8 k1) fun t6=>
   bif t6 then
     some true
   else
     some (decide (k1 = 10))) fun t5=>
 bif t5 then
   some 0
 else
   bif decide (k1 = 6) then
     some 1
   else
     bif decide (k1 = 7) then
       some 1
     else
       bif decide (k1 = 17) then
         some 1
       else
         some 2
def O0 (k1 : Int) : Option (Bool):=
 bif decide (k1 = 1) then
   some true
 else
   bif decide (k1 = 4) then
     some true
   else
     bif decide (k1 = 7) then
       some true
     else
       bif decide (k1 = 15) then
         some true
       else
         some (decide (k1 = 16))
def A6z (l1 : List C8) (name2 : ByteArray) : Int→Option (Int⊕(Unit⊕Int)):=fun i6=>
 bif decide (i6 < (l1.length : Int)) then
  Option.bind (J6 l1 i6) fun e15=>
  bif decide (e15.F8 = name2) then
   some (Sum.inr (Sum.inr i6))
  else
   Option.bind (N7 (i6 + 1)) fun t21=>
   some (Sum.inl t21)
 else
  some (Sum.inr (Sum.inl ()))
def A4X (l1 : List C8) (name2 : ByteArray) : Option (Int):=
 Option.bind (
   iter (A6z l1 name2) FUEL 0) fun o3=>match o3 with
 | .inl _u=>
   some (-1)
 | .inr p=>
   some p
def A5T (r12 : F6) : Option (Bool):=
 Option.bind (X8 r12.H8) fun t64=>
 bif !t64 then
  some true
 else
  bif !decide (r12.R6 = (⟨#[]⟩ : ByteArray)) then
   Option.bind (Q6 r12.H8) fun t74=>
   bif decide (t74 = 0) then
    some true
   else
    bif !decide (r12.fN = 0) then
     Option.bind (O0 r12.H8) fun t84=>
     some (!t84)
    else
     some false
  else
   bif !decide (r12.fN = 0) then
    Option.bind (O0 r12.H8) fun t93=>
    some (!t93)
   else
    some false
def A4h (r12 : F6) : Option (Bool):=
 bif !decide (r12.fB = (⟨#[]⟩ : ByteArray)) then
  A5T r12
 else
  bif !decide (r12.R6 = (⟨#[]⟩ : ByteArray)) then
   Option.bind (Q6 r12.H8) fun t102=>
   bif decide (t102 = 0) then
    some true
   else
    bif !decide (r12.fN = 0) then
     Option.bind (O0 r12.H8) fun t112=>
     some (!t112)
    else
     some false
  else
   bif !decide (r12.fN = 0) then
    Option.bind (O0 r12.H8) fun t121=>
    some (!t121)
   else
    some false
def A2f (r12 : F6) : Option (Bool):=
 Option.bind (X8 r12.H8) fun t130=>
 bif !t130 then
  some true
 else
  bif !decide (r12.R6 = (⟨#[]⟩ : ByteArray)) then
   Option.bind (Q6 r12.H8) fun t140=>
   bif decide (t140 = 0) then
    some true
   else
    bif !decide (r12.fN = 0) then
     Option.bind (O0 r12.H8) fun t150=>
     some (!t150)
    else
     some false
  else
   bif !decide (r12.fN = 0) then
    Option.bind (O0 r12.H8) fun t159=>
    some (!t159)
   else
    some false
def A1n (r12 : F6) : Option (Bool):=
 bif !decide (r12.fB = (⟨#[]⟩ : ByteArray)) then
  A2f r12
 else
  bif !decide (r12.R6 = (⟨#[]⟩ : ByteArray)) then
   Option.bind (Q6 r12.H8) fun t168=>
   bif decide (t168 = 0) then
    some true
   else
    bif !decide (r12.fN = 0) then
     Option.bind (O0 r12.H8) fun t178=>
     some (!t178)
    else
     some false
  else
   bif !decide (r12.fN = 0) then
    Option.bind (O0 r12.H8) fun t187=>
    some (!t187)
   else
    some false
def A1r (r12 : F6) : Option (Bool):=
 Option.bind (X8 r12.H8) fun t196=>
 bif !t196 then
  some true
 else
  bif !decide (r12.R6 = (⟨#[]⟩ : ByteArray)) then
   Option.bind (Q6 r12.H8) fun t206=>
   bif decide (t206 = 0) then
    some true
   else
    bif !decide (r12.fN = 0) then
     Option.bind (O0 r12.H8) fun t216=>
     some (!t216)
    else
     some false
  else
   bif !decide (r12.fN = 0) then
    Option.bind (O0 r12.H8) fun t225=>
    some (!t225)
   else
    some false
def A0R (r12 : F6) : Option (Bool):=
 bif !decide (r12.fB = (⟨#[]⟩ : ByteArray)) then
  A1r r12
 else
  bif !decide (r12.R6 = (⟨#[]⟩ : ByteArray)) then
   Option.bind (Q6 r12.H8) fun t234=>
   bif decide (t234 = 0) then
    some true
   else
    bif !decide (r12.fN = 0) then
     Option.bind (O0 r12.H8) fun t244=>
     some (!t244)
    else
     some false
  else
   bif !decide (r12.fN = 0) then
    Option.bind (O0 r12.H8) fun t253=>
    some (!t253)
   else
    some false
def A8P (r12 : F6) : Option (Bool):=
 Option.bind (X8 r12.H8) fun t262=>
 bif !t262 then
  some true
 else
  bif !decide (r12.R6 = (⟨#[]⟩ : ByteArray)) then
   Option.bind (Q6 r12.H8) fun t272=>
   bif decide (t272 = 0) then
    some true
   else
    bif !decide (r12.fN = 0) then
     Option.bind (O0 r12.H8) fun t282=>
     some (!t282)
    else
     some false
  else
   bif !decide (r12.fN = 0) then
    Option.bind (O0 r12.H8) fun t291=>
    some (!t291)
   else
    some false
def A2e (r12 : F6) : Option (Bool):=
 bif !decide (r12.fB = (⟨#[]⟩ : ByteArray)) then
  A8P r12
 else
  bif !decide (r12.R6 = (⟨#[]⟩ : ByteArray)) then
   Option.bind (Q6 r12.H8) fun t300=>
   bif decide (t300 = 0) then
    some true
   else
    bif !decide (r12.fN = 0) then
     Option.bind (O0 r12.H8) fun t310=>
     some (!t310)
    else
     some false
  else
   bif !decide (r12.fN = 0) then
    Option.bind (O0 r12.H8) fun t319=>
    some (!t319)
   else
    some false
def P7 (p1 : A9) (r12 : F6) : Option (Bool):=
 Option.bind (X8 r12.H8) fun t335=>
 bif t335 then
  bif decide (r12.H8 = 10) then
   bif !(decide (r12.fA = (⟨#[]⟩ : ByteArray))) then
    Option.bind (A3w p1.A8 r12.fA) fun t346=>
    some (decide (t346 < 0))
   else
    some false
  else
   Option.bind (A3w p1.A8 r12.fA) fun t354=>
   some (decide (t354 < 0))
 else
  Option.bind (A1y r12.H8) fun t362=>
  bif t362 then
   bif decide (r12.H8 = 10) then
    bif !(decide (r12.fA = (⟨#[]⟩ : ByteArray))) then
     Option.bind (A3w p1.A8 r12.fA) fun t373=>
     some (decide (t373 < 0))
    else
     some false
   else
    Option.bind (A3w p1.A8 r12.fA) fun t381=>
    some (decide (t381 < 0))
  else
   some false
def W9 (r12 : F6) (t452 : Int) : Option (Bool):=
 Option.bind (Q6 r12.H8) fun t464=>
 bif decide (t464 = 1) then
  bif decide (t452 < 0) then
   some true
  else
   Option.bind (Q6 r12.H8) fun t474=>
   bif decide (t474 = 2) then
    bif !decide (r12.R6 = (⟨#[]⟩ : ByteArray)) then
     some (decide (t452 < 0))
    else
     some false
   else
    some false
 else
  Option.bind (Q6 r12.H8) fun t484=>
  bif decide (t484 = 2) then
   bif !decide (r12.R6 = (⟨#[]⟩ : ByteArray)) then
    some (decide (t452 < 0))
   else
    some false
  else
   some false
def U8 (p1 : A9) (r12 : F6) (t452 : Int) : Option (Int):=
 Option.bind (
  bif decide (r12.H8 = 4) then
   some 1
  else
   some 0) fun lo501=>
 Option.bind (
  bif decide (r12.H8 = 7) then
   Option.bind (J6 p1.D7 t452) fun e511=>
   Option.bind (B1E e511) fun t516=>
   Option.bind (N7 (t516 - 1)) fun t524=>
   some t524
  else
   some 24) fun hi509=>
 Option.bind (O0 r12.H8) fun t528=>
 bif t528 then
  bif decide (r12.fN < lo501) then
   some 42
  else
   bif decide (hi509 < r12.fN) then
    some 42
   else
    some 0
 else
  some 0
def U1 (p1 : A9) (r12 : F6) : Option (Int):=
 Option.bind (
  bif decide (r12.H8 = 17) then
   Option.bind (B6j r12.fA) fun t423=>
   some (!t423)
  else
   some false) fun t421=>
 bif t421 then
  some 4
 else
  Option.bind (
   Option.bind (X8 r12.H8) fun t439=>
   bif t439 then
    some (decide (r12.fA = r12.fB))
   else
    some false) fun t438=>
  bif t438 then
   some 5
  else
   Option.bind (A4X p1.D7 r12.R6) fun t452=>
   Option.bind (
    W9 r12 t452) fun t463=>
   bif t463 then
    some 6
   else
    U8 p1 r12 t452
def U0 (p1 : A9) (r12 : F6) : Option (Int):=
 Option.bind (
  bif !decide (r12.fA = (⟨#[]⟩ : ByteArray)) then
   Option.bind (X8 r12.H8) fun t44=>
   bif !t44 then
    Option.bind (A1y r12.H8) fun t53=>
    bif !t53 then
     bif !decide (r12.H8 = 17) then
      some true
     else
      A4h r12
    else
     A1n r12
   else
    A0R r12
  else
   A2e r12) fun t42=>
 bif t42 then
  some 43
 else
  Option.bind (
   P7 p1 r12) fun t334=>
  bif t334 then
   some 6
  else
   Option.bind (
    Option.bind (X8 r12.H8) fun t397=>
    bif t397 then
     Option.bind (A3w p1.A8 r12.fB) fun t406=>
     some (decide (t406 < 0))
    else
     some false) fun t396=>
   bif t396 then
    some 6
   else
    U1 p1 r12
def A1T (p1 : A9) (r12 : F6) : Option (Int):=
 Option.bind (A3R r12.H8) fun t21=>
 bif decide (t21 = (⟨#[]⟩ : ByteArray)) then
   some 40
 else
   Option.bind (
     bif decide (r12.Q3 < 0) then
       some true
     else
       some (decide (1000 < r12.Q3))) fun t33=>
   bif t33 then
     some 41
   else
     U0 p1 r12
end Go.Dm
open Go Go.Sl
namespace Go.Dm
def A0i (i1 : Int) : Option (ByteArray):=
 Option.bind (A4V i1 26) fun t2=>
 Option.bind (Y7 t2 26) fun t3=>
 Option.bind (N7 (97 + t3)) fun t4=>
 Option.bind (A1p .u8 t4) fun t5=>
 Option.bind (Y7 i1 26) fun t6=>
 Option.bind (N7 (97 + t6)) fun t7=>
 Option.bind (A1p .u8 t7) fun t8=>
 some (B8c [t5,t8])
def A5R (r1 : R4) (i5 : Int) : Int→Option (Int⊕(Unit⊕Bool)):=fun k13=>
 bif decide (k13 < (r1.A8.length : Int)) then
  Option.bind (J6 r1.A8 k13) fun e22=>
  Option.bind (A0i i5) fun t27=>
  bif decide (e22.F8 = t27) then
   some (Sum.inr (Sum.inr true))
  else
   Option.bind (N7 (k13 + 1)) fun t36=>
   some (Sum.inl t36)
 else
  some (Sum.inr (Sum.inl ()))
def A2v (r1 : R4) (i5 : Int) : Option (Bool):=
 Option.bind (
   iter (A5R r1 i5) FUEL 0) fun o10=>match o10 with
 | .inl _u=>
   some false
 | .inr p=>
   some p
def A4W (t40 : Int) : ((List ByteArray)×Int)→Option (((List ByteArray)×Int)⊕(List ByteArray)):=fun (tongues123,k128)=>
 bif decide (k128 < 4) then
  Option.bind (N7 (2 * k128)) fun t137=>
  Option.bind (N7 (6 + t137)) fun t138=>
  Option.bind (A5x .i64 t40 t138) fun t139=>
  Option.bind (Y7 t139 4) fun t140=>
  bif decide (t140 = 1) then
   Option.bind (A0i k128) fun t142=>
   Option.bind (apL tongues123 [t142]) fun t153=>
   Option.bind (N7 (k128 + 1)) fun t161=>
   some (Sum.inl (t153,t161))
  else
   Option.bind (N7 (k128 + 1)) fun t162=>
   some (Sum.inl (tongues123,t162))
 else
  some (Sum.inr tongues123)
def B4S (guests15 : List D6) (i20 : Int) (t40 : Int) (t45 : ByteArray) (t54 : Int) (t55 : Int) (t56 : Int) (t57 : Int) (rank63 : ByteArray) (court81 : ByteArray) : Option (((List D6)×Int)⊕(List D6)):=
 Option.bind (Y7 t40 3) fun t95=>
 Option.bind (
  bif decide (t95 = 2) then
   Option.bind (Y7 t40 5) fun t101=>
   Option.bind (A0i t101) fun t102=>
   some t102
  else
   some (⟨#[]⟩ : ByteArray)) fun diet99=>
 Option.bind (
  iter (A4W t40) FUEL (([] : List ByteArray),0)) fun tongues116=>
 Option.bind (apL guests15 [(D6.mk t45 rank63 court81 t54 t55 diet99 (decide (t56 = 0)) (decide (t57 = 0)) tongues116)]) fun t173=>
 Option.bind (N7 (i20 + 1)) fun t181=>
 some (Sum.inl (t173,t181))
def B0o (guests1 : List Int) (guests15 : List D6) (i20 : Int) : Option (((List D6)×Int)⊕(List D6)):=
 Option.bind (J6 guests1 i20) fun e37=>
 Option.bind (A1p .i64 e37) fun t40=>
 Option.bind (N7 (25 * i20)) fun t41=>
 Option.bind (Y7 t41 312) fun t42=>
 Option.bind (A4V i20 12) fun t43=>
 Option.bind (N7 (t42 + t43)) fun t44=>
 Option.bind (A0i t44) fun t45=>
 Option.bind (Y7 t40 4) fun t53=>
 Option.bind (N7 (t53 * 500)) fun t54=>
 Option.bind (Y7 t40 3) fun t55=>
 Option.bind (Y7 t40 5) fun t56=>
 Option.bind (Y7 t40 7) fun t57=>
 Option.bind (Y7 t40 2) fun t59=>
 Option.bind (
  bif decide (t59 = 1) then
   Option.bind (Y7 t40 3) fun t65=>
   Option.bind (A0i t65) fun t66=>
   some t66
  else
   some (⟨#[]⟩ : ByteArray)) fun rank63=>
 Option.bind (Y7 t40 8) fun t77=>
 Option.bind (
  bif decide (4 < t77) then
   Option.bind (Y7 t40 8) fun t83=>
   Option.bind (A0i t83) fun t84=>
   some t84
  else
   some (⟨#[]⟩ : ByteArray)) fun court81=>
 B4S guests15 i20 t40 t45 t54 t55 t56 t57 rank63 court81
def A6N (guests1 : List Int) : ((List D6)×Int)→Option (((List D6)×Int)⊕(List D6)):=fun (guests15,i20)=>
 Option.bind (
  bif decide (i20 < (guests1.length : Int)) then
   some (decide (i20 < 12))
  else
   some false) fun t31=>
 bif t31 then
  B0o guests1 guests15 i20
 else
  some (Sum.inr guests15)
def A9Q (ties2 : List Int) (i201 : Int) (ties220 : List F5) (n225 : Int) (k226 : Int) (t265 : Bool) : Option (((List F5)×Int×Int)⊕(Int×(List F5))):=
 bif t265 then
  Option.bind (J6 ties2 n225) fun e275=>
  Option.bind (Y7 e275 4) fun t278=>
  Option.bind (A1p .u8 (1 + t278)) fun t279=>
  Option.bind (A0i i201) fun t280=>
  Option.bind (A0i k226) fun t288=>
  Option.bind (apL ties220 [(F5.mk t280 t288 t279)]) fun t299=>
  Option.bind (N7 (n225 + 1)) fun t307=>
  Option.bind (N7 (k226 + 1)) fun t308=>
  some (Sum.inl (t299,t307,t308))
 else
  Option.bind (N7 (n225 + 1)) fun t309=>
  Option.bind (N7 (k226 + 1)) fun t310=>
  some (Sum.inl (ties220,t309,t310))
def A6J (ties2 : List Int) (guests8 : List D6) (i201 : Int) (ties220 : List F5) (n225 : Int) (k226 : Int) : Option (((List F5)×Int×Int)⊕(Int×(List F5))):=
 Option.bind (A2v (R4.mk guests8 ([] : List F5)) i201) fun t238=>
 bif !t238 then
  some (Sum.inr (n225,ties220))
 else
  Option.bind (A2v (R4.mk guests8 ([] : List F5)) k226) fun t251=>
  bif !t251 then
   Option.bind (N7 (k226 + 1)) fun t261=>
   some (Sum.inl (ties220,n225,t261))
  else
   Option.bind (
    bif decide (n225 < (ties2.length : Int)) then
     Option.bind (J6 ties2 n225) fun e267=>
     Option.bind (Y7 e267 4) fun t270=>
     some (decide (t270 < 2))
    else
     some false) fun t265=>
   A9Q ties2 i201 ties220 n225 k226 t265
def A6Z (ties2 : List Int) (guests8 : List D6) (i201 : Int) : ((List F5)×Int×Int)→Option (((List F5)×Int×Int)⊕(Int×(List F5))):=fun (ties220,n225,k226)=>
 bif decide (k226 < 312) then
  A6J ties2 guests8 i201 ties220 n225 k226
 else
  some (Sum.inr (n225,ties220))
def A7e (ties2 : List Int) (guests8 : List D6) : ((List F5)×Int×Int)→Option (((List F5)×Int×Int)⊕(List F5)):=fun (ties195,n200,i201)=>
 bif decide (i201 < 312) then
  Option.bind (N7 (i201 + 1)) fun t210=>
  Option.bind (
   iter (A6Z ties2 guests8 i201) FUEL (ties195,n200,t210)) fun (n214,ties215)=>
  Option.bind (N7 (i201 + 1)) fun t314=>
  some (Sum.inl (ties215,n214,t314))
 else
  some (Sum.inr ties195)
def B1j (guests1 : List Int) (ties2 : List Int) : Option (R4):=
 Option.bind (
   iter (A6N guests1) FUEL (([] : List D6),0)) fun guests8=>
 Option.bind (
   iter (A7e ties2 guests8) FUEL (([] : List F5),0,0)) fun ties188=>
 some (R4.mk guests8 ties188)
def B9X (i1 : Int) : Option (ByteArray):=
 Option.bind (Y7 i1 26) fun t2=>
 Option.bind (N7 (97 + t2)) fun t3=>
 Option.bind (A1p .u8 t3) fun t4=>
 some (B8c [116,t4])
def A1D (t1 : C8) : Option (Int):=
 bif decide (t1.O6 = 2) then
   Option.bind (N7 (2 * t1.fA)) fun t8=>
   Option.bind (N7 (t8 + t1.fB)) fun t9=>
   some t9
 else
   bif decide (t1.O6 = 3) then
     Option.bind (N7 (2 * t1.fB)) fun t11=>
     Option.bind (N7 (t1.fA + t11)) fun t12=>
     some t12
   else
     some t1.fA
def B9A (x2 : Int) (open31 : List Int) (k36 : Int) : Option (((List Int)×Int)⊕(List Int)):=
 Option.bind (A5x .i64 x2 k36) fun t53=>
 Option.bind (Y7 t53 2) fun t54=>
 bif decide (t54 = 1) then
  Option.bind (Y7 x2 3) fun t56=>
  bif decide (0 < t56) then
   Option.bind (apL open31 [k36]) fun t61=>
   Option.bind (N7 (k36 + 1)) fun t69=>
   some (Sum.inl (t61,t69))
  else
   Option.bind (N7 (k36 + 1)) fun t70=>
   some (Sum.inl (open31,t70))
 else
  Option.bind (N7 (k36 + 1)) fun t71=>
  some (Sum.inl (open31,t71))
def B3E (x2 : Int) (t4 : ByteArray) (t14 : Int) (t15 : Int) (t20 : Int) : ((List Int)×Int)→Option (((List Int)×Int)⊕(List Int)):=fun (open31,k36)=>
 Option.bind (A1D (C8.mk t4 t14 t20 0 ([] : List Int) x2 t15)) fun t44=>
 bif decide (k36 < t44) then
  B9A x2 open31 k36
 else
  some (Sum.inr open31)
def C0b (x2 : Int) (open98 : List Int) (k103 : Int) : Option (((List Int)×Int)⊕(List Int)):=
 Option.bind (A5x .i64 x2 k103) fun t120=>
 Option.bind (Y7 t120 2) fun t121=>
 bif decide (t121 = 1) then
  Option.bind (Y7 x2 3) fun t123=>
  bif decide (0 < t123) then
   Option.bind (apL open98 [k103]) fun t128=>
   Option.bind (N7 (k103 + 1)) fun t136=>
   some (Sum.inl (t128,t136))
  else
   Option.bind (N7 (k103 + 1)) fun t137=>
   some (Sum.inl (open98,t137))
 else
  Option.bind (N7 (k103 + 1)) fun t138=>
  some (Sum.inl (open98,t138))
def B4a (x2 : Int) (t4 : ByteArray) (t14 : Int) (t15 : Int) (t85 : Int) (t87 : Int) : ((List Int)×Int)→Option (((List Int)×Int)⊕(List Int)):=fun (open98,k103)=>
 Option.bind (A1D (C8.mk t4 t14 t85 t87 ([] : List Int) x2 t15)) fun t111=>
 bif decide (k103 < t111) then
  C0b x2 open98 k103
 else
  some (Sum.inr open98)
def C0w (x2 : Int) (open166 : List Int) (k171 : Int) : Option (((List Int)×Int)⊕(List Int)):=
 Option.bind (A5x .i64 x2 k171) fun t188=>
 Option.bind (Y7 t188 2) fun t189=>
 bif decide (t189 = 1) then
  Option.bind (Y7 x2 3) fun t191=>
  bif decide (0 < t191) then
   Option.bind (apL open166 [k171]) fun t196=>
   Option.bind (N7 (k171 + 1)) fun t204=>
   some (Sum.inl (t196,t204))
  else
   Option.bind (N7 (k171 + 1)) fun t205=>
   some (Sum.inl (open166,t205))
 else
  Option.bind (N7 (k171 + 1)) fun t206=>
  some (Sum.inl (open166,t206))
def B2W (x2 : Int) (t4 : ByteArray) (t14 : Int) (t15 : Int) (t152 : Int) (t155 : Int) : ((List Int)×Int)→Option (((List Int)×Int)⊕(List Int)):=fun (open166,k171)=>
 Option.bind (A1D (C8.mk t4 t14 t152 t155 ([] : List Int) x2 t15)) fun t179=>
 bif decide (k171 < t179) then
  C0w x2 open166 k171
 else
  some (Sum.inr open166)
def C0T (x2 : Int) (open233 : List Int) (k238 : Int) : Option (((List Int)×Int)⊕(List Int)):=
 Option.bind (A5x .i64 x2 k238) fun t255=>
 Option.bind (Y7 t255 2) fun t256=>
 bif decide (t256 = 1) then
  Option.bind (Y7 x2 3) fun t258=>
  bif decide (0 < t258) then
   Option.bind (apL open233 [k238]) fun t263=>
   Option.bind (N7 (k238 + 1)) fun t271=>
   some (Sum.inl (t263,t271))
  else
   Option.bind (N7 (k238 + 1)) fun t272=>
   some (Sum.inl (open233,t272))
 else
  Option.bind (N7 (k238 + 1)) fun t273=>
  some (Sum.inl (open233,t273))
def B3G (x2 : Int) (t4 : ByteArray) (t14 : Int) (t15 : Int) (t220 : Int) (t222 : Int) : ((List Int)×Int)→Option (((List Int)×Int)⊕(List Int)):=fun (open233,k238)=>
 Option.bind (A1D (C8.mk t4 t14 t220 (min t220 t222) ([] : List Int) x2 t15)) fun t246=>
 bif decide (k238 < t246) then
  C0T x2 open233 k238
 else
  some (Sum.inr open233)
def B9u (x2 : Int) (open295 : List Int) (k300 : Int) : Option (((List Int)×Int)⊕(List Int)):=
 Option.bind (A5x .i64 x2 k300) fun t317=>
 Option.bind (Y7 t317 2) fun t318=>
 bif decide (t318 = 1) then
  Option.bind (Y7 x2 3) fun t320=>
  bif decide (0 < t320) then
   Option.bind (apL open295 [k300]) fun t325=>
   Option.bind (N7 (k300 + 1)) fun t333=>
   some (Sum.inl (t325,t333))
  else
   Option.bind (N7 (k300 + 1)) fun t334=>
   some (Sum.inl (open295,t334))
 else
  Option.bind (N7 (k300 + 1)) fun t335=>
  some (Sum.inl (open295,t335))
def B3h (x2 : Int) (t4 : ByteArray) (t14 : Int) (t15 : Int) : ((List Int)×Int)→Option (((List Int)×Int)⊕(List Int)):=fun (open295,k300)=>
 Option.bind (A1D (C8.mk t4 t14 0 0 ([] : List Int) x2 t15)) fun t308=>
 bif decide (k300 < t308) then
  B9u x2 open295 k300
 else
  some (Sum.inr open295)
def C0J (x2 : Int) (t4 : ByteArray) (t14 : Int) (t15 : Int) (t17 : Int) : Option (C8):=
 bif decide (t14 = 4) then
  Option.bind (Y7 t17 5) fun t219=>
  Option.bind (N7 (1 + t219)) fun t220=>
  Option.bind (A4V t17 5) fun t221=>
  Option.bind (Y7 t221 4) fun t222=>
  Option.bind (
   iter (B3G x2 t4 t14 t15 t220 t222) FUEL (([] : List Int),0)) fun open226=>
  some (C8.mk t4 t14 t220 (min t220 t222) open226 x2 t15)
 else
  Option.bind (
   iter (B3h x2 t4 t14 t15) FUEL (([] : List Int),0)) fun open288=>
  some (C8.mk t4 t14 0 0 open288 x2 t15)
def C1f (x2 : Int) (t4 : ByteArray) (t14 : Int) (t15 : Int) (t17 : Int) : Option (C8):=
 bif decide (t14 = 2) then
  Option.bind (Y7 t17 3) fun t84=>
  Option.bind (N7 (1 + t84)) fun t85=>
  Option.bind (A4V t17 3) fun t86=>
  Option.bind (Y7 t86 3) fun t87=>
  Option.bind (
   iter (B4a x2 t4 t14 t15 t85 t87) FUEL (([] : List Int),0)) fun open91=>
  some (C8.mk t4 t14 t85 t87 open91 x2 t15)
 else
  bif decide (t14 = 3) then
   Option.bind (Y7 t17 2) fun t151=>
   Option.bind (N7 (1 + t151)) fun t152=>
   Option.bind (A4V t17 2) fun t153=>
   Option.bind (Y7 t153 2) fun t154=>
   Option.bind (N7 (1 + t154)) fun t155=>
   Option.bind (
    iter (B2W x2 t4 t14 t15 t152 t155) FUEL (([] : List Int),0)) fun open159=>
   some (C8.mk t4 t14 t152 t155 open159 x2 t15)
  else
   C0J x2 t4 t14 t15 t17
def A7D (i1 : Int) (x2 : Int) : Option (C8):=
 Option.bind (B9X i1) fun t4=>
 Option.bind (Y7 x2 4) fun t12=>
 Option.bind (N7 (1 + t12)) fun t13=>
 Option.bind (A1p .u8 t13) fun t14=>
 Option.bind (N7 (255 - x2)) fun t15=>
 Option.bind (A4V x2 4) fun t17=>
 bif decide (t14 = 1) then
   Option.bind (Y7 t17 6) fun t19=>
   Option.bind (N7 (1 + t19)) fun t20=>
   Option.bind (
     iter (B3E x2 t4 t14 t15 t20) FUEL (([] : List Int),0)) fun open24=>
   some (C8.mk t4 t14 t20 0 open24 x2 t15)
 else
   C1f x2 t4 t14 t15 t17
def A2Z (p1 : A9) (t19 : Int) (weight26 : Int) (t43 : Int) (t45 : Int) (t49 : Int) : Option (F6×Bool):=
 Option.bind (J6 p1.A8 t43) fun e62=>
 Option.bind (J6 p1.A8 t45) fun e67=>
 Option.bind (
  bif decide (t19 = 1) then
   some true
  else
   some (decide (t19 = 4))) fun t75=>
 Option.bind (
  bif t75 then
   some t49
  else
   some 0) fun n83=>
 Option.bind (
  bif decide (t19 = 4) then
   Option.bind (N7 (n83 + 1)) fun t93=>
   some t93
  else
   some n83) fun n91=>
 some ((F6.mk t19 weight26 e62.F8 e67.F8 (⟨#[]⟩ : ByteArray) n91),!decide (t43 = t45))
def A8W (p1 : A9) (t19 : Int) (weight26 : Int) (t33 : Int) (t43 : Int) (t47 : Int) : Option (F6×Bool):=
 Option.bind (J6 p1.A8 t43) fun e106=>
 Option.bind (J6 p1.D7 t47) fun e111=>
 Option.bind (
  bif decide (t19 = 7) then
   Option.bind (A4V t33 13) fun t121=>
   Option.bind (J6 p1.D7 t47) fun e122=>
   Option.bind (A1D (C8.mk e122.F8 e122.O6 e122.fA e122.fB ([] : List Int) e122.fX e122.fY)) fun t127=>
   Option.bind (Y7 t121 t127) fun t135=>
   some t135
  else
   some 0) fun n119=>
 some ((F6.mk t19 weight26 e106.F8 (⟨#[]⟩ : ByteArray) e111.F8 n119),true)
def B3x (p1 : A9) (t19 : Int) (weight26 : Int) (t33 : Int) (t47 : Int) (t49 : Int) (t168 : Bool) : Option (F6×Bool):=
 bif t168 then
  Option.bind (Y7 t33 3) fun t174=>
  bif decide (0 < t174) then
   Option.bind (J6 p1.D7 t47) fun e176=>
   some ((F6.mk t19 weight26 (⟨#[]⟩ : ByteArray) (⟨#[]⟩ : ByteArray) e176.F8 t49),true)
  else
   some ((F6.mk t19 weight26 (⟨#[]⟩ : ByteArray) (⟨#[]⟩ : ByteArray) (⟨#[]⟩ : ByteArray) t49),true)
 else
  Option.bind (Y7 t33 3) fun t181=>
  bif decide (0 < t181) then
   Option.bind (J6 p1.D7 t47) fun e183=>
   some ((F6.mk t19 weight26 (⟨#[]⟩ : ByteArray) (⟨#[]⟩ : ByteArray) e183.F8 0),true)
  else
   some ((F6.mk t19 weight26 (⟨#[]⟩ : ByteArray) (⟨#[]⟩ : ByteArray) (⟨#[]⟩ : ByteArray) 0),true)
def B2N (p1 : A9) (t19 : Int) (weight26 : Int) (t33 : Int) (t43 : Int) (t47 : Int) (t49 : Int) : Option (F6×Bool):=
 bif decide (t19 = 10) then
  Option.bind (Y7 t33 3) fun t140=>
  Option.bind (
   bif decide (t140 = 0) then
    Option.bind (J6 p1.A8 t43) fun e146=>
    some e146.F8
   else
    some (⟨#[]⟩ : ByteArray)) fun a144=>
  some ((F6.mk t19 weight26 a144 (⟨#[]⟩ : ByteArray) (⟨#[]⟩ : ByteArray) 0),true)
 else
  bif decide (t19 = 17) then
   Option.bind (J6 p1.A8 t43) fun e155=>
   Option.bind (J6 p1.D7 t47) fun e160=>
   some ((F6.mk t19 weight26 e155.Z0 (⟨#[]⟩ : ByteArray) e160.F8 0),!decide (e155.Z0 = (⟨#[]⟩ : ByteArray)))
  else
   Option.bind (
    bif decide (t19 = 15) then
     some (decide (t19 = 15))
    else
     some (decide (t19 = 16))) fun t168=>
   B3x p1 t19 weight26 t33 t47 t49 t168
def B2r (p1 : A9) (t19 : Int) (weight26 : Int) (t33 : Int) : Option (F6×Bool):=
 Option.bind (Y7 t33 (p1.A8.length : Int)) fun t43=>
 Option.bind (A4V t33 (p1.A8.length : Int)) fun t44=>
 Option.bind (Y7 t44 (p1.A8.length : Int)) fun t45=>
 Option.bind (A4V t33 7) fun t46=>
 Option.bind (Y7 t46 (p1.D7.length : Int)) fun t47=>
 Option.bind (A4V t33 11) fun t48=>
 Option.bind (Y7 t48 4) fun t49=>
 Option.bind (
  bif decide (t19 = 1) then
   some (decide (t19 = 1))
  else
   bif decide (t19 = 2) then
    some (decide (t19 = 2))
   else
    bif decide (t19 = 3) then
     some (decide (t19 = 3))
    else
     bif decide (t19 = 4) then
      some (decide (t19 = 4))
     else
      some (decide (t19 = 5))) fun t53=>
 bif t53 then
  A2Z p1 t19 weight26 t43 t45 t49
 else
  Option.bind (
   bif decide (t19 = 6) then
    some (decide (t19 = 6))
   else
    some (decide (t19 = 7))) fun t100=>
  bif t100 then
   A8W p1 t19 weight26 t33 t43 t47
  else
   B2N p1 t19 weight26 t33 t43 t47 t49
def A9l (p1 : A9) (x11 : Int) : Option (F6×Bool):=
 Option.bind (Y7 x11 18) fun t17=>
 Option.bind (N7 (1 + t17)) fun t18=>
 Option.bind (A1p .u8 t18) fun t19=>
 Option.bind (A4V x11 18) fun t21=>
 Option.bind (Y7 t21 5) fun t22=>
 Option.bind (
   bif decide (1 < t22) then
     Option.bind (Y7 t21 7) fun t28=>
     Option.bind (N7 (1 + t28)) fun t29=>
     some t29
   else
     some 0) fun weight26=>
 Option.bind (A4V t21 5) fun t33=>
 Option.bind (
   bif decide ((p1.A8.length : Int) = 0) then
     some true
   else
     some (decide ((p1.D7.length : Int) = 0))) fun t37=>
 bif t37 then
   some ((F6.mk t19 weight26 (⟨#[]⟩ : ByteArray) (⟨#[]⟩ : ByteArray) (⟨#[]⟩ : ByteArray) 0),false)
 else
   B2r p1 t19 weight26 t33
def A4C (m1 : A0g) : ((List C8)×Int×Int)→Option (((List C8)×Int×Int)⊕(Int×(List C8))):=fun (tables27,seats32,i33)=>
 Option.bind (
  bif decide (i33 < (m1.D7.length : Int)) then
   some (decide (i33 < 3))
  else
   some false) fun t44=>
 bif t44 then
  Option.bind (J6 m1.D7 i33) fun e50=>
  Option.bind (A1p .i64 e50) fun t53=>
  Option.bind (A7D i33 t53) fun t54=>
  Option.bind (apL tables27 [t54]) fun t72=>
  Option.bind (A1D (C8.mk t54.F8 t54.O6 t54.fA t54.fB ([] : List Int) t54.fX t54.fY)) fun t80=>
  Option.bind (N7 (seats32 + t80)) fun t88=>
  Option.bind (N7 (i33 + 1)) fun t89=>
  some (Sum.inl (t72,t88,t89))
 else
  some (Sum.inr (seats32,tables27))
def A4Q (m1 : A0g) (r96 : R4) : ((List Int)×Int)→Option (((List Int)×Int)⊕(List Int)):=fun (class165,i170)=>
 bif decide (i170 < (r96.A8.length : Int)) then
  Option.bind (J6 m1.A8 i170) fun e179=>
  Option.bind (A1p .i64 e179) fun t182=>
  Option.bind (A4V t182 3) fun t183=>
  Option.bind (Y7 t183 4) fun t184=>
  Option.bind (apL class165 [t184]) fun t188=>
  Option.bind (N7 (i170 + 1)) fun t196=>
  some (Sum.inl (t188,t196))
 else
  some (Sum.inr class165)
def A9N (m1 : A0g) (r96 : R4) (tables229 : List C8) (class232 : List Int) (rules235 : List F6) (i240 : Int) (t251 : Bool) : Option (((List C8)×(List Int)×(List F6)×Int)⊕((List C8)×(List Int)×(List F6))):=
 bif t251 then
  Option.bind (J6 m1.J3 i240) fun e257=>
  Option.bind (A1p .i64 e257) fun t260=>
  Option.bind (A9l (A9.mk tables229 r96.A8 r96.I8 class232 ([] : List F6)) t260) fun (t261,t262)=>
  bif t262 then
   Option.bind (apL rules235 [t261]) fun t279=>
   Option.bind (N7 (i240 + 1)) fun t287=>
   some (Sum.inl (tables229,class232,t279,t287))
  else
   Option.bind (N7 (i240 + 1)) fun t288=>
   some (Sum.inl (tables229,class232,rules235,t288))
 else
  some (Sum.inr (tables229,class232,rules235))
def A4H (m1 : A0g) (r96 : R4) : ((List C8)×(List Int)×(List F6)×Int)→Option (((List C8)×(List Int)×(List F6)×Int)⊕((List C8)×(List Int)×(List F6))):=fun (tables229,class232,rules235,i240)=>
 Option.bind (
  bif decide (i240 < (m1.J3.length : Int)) then
   some (decide (i240 < 12))
  else
   some false) fun t251=>
 A9N m1 r96 tables229 class232 rules235 i240 t251
def B5n (m1 : A0g) (seats19 : Int) (tables20 : List C8) : Option (A9):=
 Option.bind (
  Option.bind (sbL m1.A8 0 (min (m1.A8.length : Int) seats19)) fun t103=>
  Option.bind (B1j t103 m1.I8) fun t108=>
  some t108) fun r96=>
 Option.bind (Y7 (m1.I8.length : Int) 4) fun t145=>
 Option.bind (
  bif decide (0 < t145) then
   Option.bind (
    iter (A4Q m1 r96) FUEL (([] : List Int),0)) fun class158=>
   some class158
  else
   some ([] : List Int)) fun class149=>
 Option.bind (
  iter (A4H m1 r96) FUEL (tables20,class149,([] : List F6),0)) fun (tables208,class211,rules214)=>
 some (A9.mk tables208 r96.A8 r96.I8 class211 rules214)
def B1D (m1 : A0g) : Option (A9):=
 Option.bind (
   iter (A4C m1) FUEL (([] : List C8),0,0)) fun (seats19,tables20)=>
 B5n m1 seats19 tables20
end Go.Dm
open Go Go.Sl
namespace Go.Dm
def A4o (a1 : List ByteArray) (b2 : List ByteArray) : Int→Option (Int⊕Unit):=fun i7=>
 bif decide (i7 < (a1.length : Int)) then
  Option.bind (J6 a1 i7) fun e16=>
  Option.bind (J6 b2 i7) fun e19=>
  bif !decide (e16 = e19) then
   none
  else
   Option.bind (N7 (i7 + 1)) fun t23=>
   some (Sum.inl t23)
 else
  some (Sum.inr ())
def A6G (a1 : List ByteArray) (b2 : List ByteArray) : Option (Bool):=
 bif !decide ((a1.length : Int) = (b2.length : Int)) then
   none
 else
   Option.bind (
     iter (A4o a1 b2) FUEL 0) fun _u=>
   some true
def B0V (a1 : D6) (b4 : D6) : Option (Bool):=
 bif decide (a1.A0k = b4.A0k) then
  bif decide (a1.V9 = b4.V9) then
   bif decide (a1.V3 = b4.V3) then
    bif decide (a1.A0f = b4.A0f) then
     bif decide (a1.Z0 = b4.Z0) then
      bif (a1.A0u == b4.A0u) then
       bif (a1.U2 == b4.U2) then
        Option.bind (A6G a1.M6 b4.M6) fun t23=>
        some t23
       else
        none
      else
       none
     else
      none
    else
     none
   else
    none
  else
   none
 else
  none
def A6O (a1 : D6) (b4 : D6) : Option (Bool):=
 bif decide (a1.F8 = b4.F8) then
   B0V a1 b4
 else
   none
def A3J (a1 : List D6) (b2 : List D6) : Int→Option (Int⊕Unit):=fun i7=>
 bif decide (i7 < (a1.length : Int)) then
  Option.bind (J6 a1 i7) fun e16=>
  Option.bind (J6 b2 i7) fun e21=>
  Option.bind (A6O e16 e21) fun t26=>
  bif !t26 then
   none
  else
   Option.bind (N7 (i7 + 1)) fun t35=>
   some (Sum.inl t35)
 else
  some (Sum.inr ())
def A5I (a1 : List D6) (b2 : List D6) : Option (Bool):=
 bif !decide ((a1.length : Int) = (b2.length : Int)) then
   none
 else
   Option.bind (
     iter (A3J a1 b2) FUEL 0) fun _u=>
   some true
def A5f (a1 : List F5) (b2 : List F5) : Int→Option (Int⊕Unit):=fun i7=>
 bif decide (i7 < (a1.length : Int)) then
  Option.bind (J6 a1 i7) fun e16=>
  Option.bind (J6 b2 i7) fun e19=>
  bif !(decide (e16.fA = e19.fA) && (decide (e16.fB = e19.fB) && (decide (e16.H8 = e19.H8) && true))) then
   none
  else
   Option.bind (N7 (i7 + 1)) fun t23=>
   some (Sum.inl t23)
 else
  some (Sum.inr ())
def A7U (a1 : List F5) (b2 : List F5) : Option (Bool):=
 bif !decide ((a1.length : Int) = (b2.length : Int)) then
   none
 else
   Option.bind (
     iter (A5f a1 b2) FUEL 0) fun _u=>
   some true
def A6B (a1 : C8) (b4 : C8) : Option (Bool):=
 bif decide (a1.F8 = b4.F8) then
   bif decide (a1.O6 = b4.O6) then
     bif decide (a1.fA = b4.fA) then
       bif decide (a1.fB = b4.fB) then
         bif decide (a1.fX = b4.fX) then
           bif decide (a1.fY = b4.fY) then
             Option.bind (A0A a1.A2H b4.A2H) fun t21=>
             some t21
           else
             none
         else
           none
       else
         none
     else
       none
   else
     none
 else
   none
def A3N (a1 : List C8) (b2 : List C8) : Int→Option (Int⊕Unit):=fun i7=>
 bif decide (i7 < (a1.length : Int)) then
  Option.bind (J6 a1 i7) fun e16=>
  Option.bind (J6 b2 i7) fun e21=>
  Option.bind (A6B e16 e21) fun t26=>
  bif !t26 then
   none
  else
   Option.bind (N7 (i7 + 1)) fun t35=>
   some (Sum.inl t35)
 else
  some (Sum.inr ())
def A6f (a1 : List C8) (b2 : List C8) : Option (Bool):=
 bif !decide ((a1.length : Int) = (b2.length : Int)) then
   none
 else
   Option.bind (
     iter (A3N a1 b2) FUEL 0) fun _u=>
   some true
def A5d (a1 : A9) (b12 : A9) : Option (Bool):=
 Option.bind (A6f a1.D7 b12.D7) fun t31=>
 bif t31 then
   Option.bind (A5I a1.A8 b12.A8) fun t40=>
   bif t40 then
     Option.bind (A7U a1.I8 b12.I8) fun t49=>
     bif t49 then
       Option.bind (A0A a1.I6 b12.I6) fun t58=>
       bif t58 then
         Option.bind (A4R a1.J3 b12.J3) fun t67=>
         some t67
       else
         none
     else
       none
   else
     none
 else
   none
def B3U (i1 : Int) (n2 : Int) : Option (Int):=
 Option.bind (Y7 i1 n2) fun t3=>
 bif decide (t3 < 0) then
   Option.bind (N7 (t3 + n2)) fun t5=>
   some t5
 else
   some t3
def A2X (p1 : A9) : (Int×Int)→Option ((Int×Int)⊕Int):=fun (n20,i21)=>
 bif decide (i21 < (p1.D7.length : Int)) then
  Option.bind (J6 p1.D7 i21) fun e30=>
  Option.bind (A1D (C8.mk e30.F8 e30.O6 e30.fA e30.fB ([] : List Int) e30.fX e30.fY)) fun t35=>
  Option.bind (N7 (n20 + t35)) fun t43=>
  Option.bind (N7 (i21 + 1)) fun t44=>
  some (Sum.inl (t43,t44))
 else
  some (Sum.inr n20)
def A7c (p1 : A9) : Option (Int):=
 Option.bind (
   iter (A2X p1) FUEL (0,0)) fun n19=>
 some n19
def A6b (taken1 : List Bool) (from3 : Int) : Int→Option (Int⊕(Unit⊕(Int×(List Bool)))):=fun k7=>
 bif decide (k7 < (taken1.length : Int)) then
  Option.bind (N7 (from3 + k7)) fun t16=>
  Option.bind (Y7 t16 (taken1.length : Int)) fun t17=>
  Option.bind (J6 taken1 t17) fun e18=>
  bif !e18 then
   Option.bind (J6 taken1 t17) fun e22=>
   Option.bind (some (List.set taken1 t17.toNat true)) fun l25=>
   some (Sum.inr (Sum.inr (t17,l25)))
  else
   Option.bind (N7 (k7 + 1)) fun t28=>
   some (Sum.inl t28)
 else
  some (Sum.inr (Sum.inl ()))
def A7z (taken1 : List Bool) (from3 : Int) : Option (Int×(List Bool)):=
 Option.bind (
   iter (A6b taken1 from3) FUEL 0) fun o4=>match o4 with
 | .inl _u=>
   some ((-1),taken1)
 | .inr p=>
   some p
def B1K (seats12 : List Int) (t17 : Int) (taken41 : List Bool) (out46 : List Int) (g51 : Int) : Option (((List Bool)×(List Int)×Int)⊕(List Int)):=
 Option.bind (
  bif decide (g51 < (seats12.length : Int)) then
   Option.bind (J6 seats12 g51) fun e65=>
   Option.bind (N7 (t17 + 1)) fun t68=>
   Option.bind (B3U e65 t68) fun t69=>
   some t69
  else
   some t17) fun s63=>
 bif decide (s63 = t17) then
  Option.bind (apL out46 [(-1)]) fun t84=>
  Option.bind (N7 (g51 + 1)) fun t90=>
  some (Sum.inl (taken41,t84,t90))
 else
  Option.bind (A7z taken41 s63) fun (t91,l92)=>
  Option.bind (apL out46 [t91]) fun t106=>
  Option.bind (N7 (g51 + 1)) fun t112=>
  some (Sum.inl (l92,t106,t112))
def A5b (p1 : A9) (seats12 : List Int) (t17 : Int) : ((List Bool)×(List Int)×Int)→Option (((List Bool)×(List Int)×Int)⊕(List Int)):=fun (taken41,out46,g51)=>
 bif decide (g51 < (p1.A8.length : Int)) then
  B1K seats12 t17 taken41 out46 g51
 else
  some (Sum.inr out46)
def A7Z (p1 : A9) (seats12 : List Int) : Option (List Int):=
 Option.bind (A7c p1) fun t17=>
 Option.bind (mkL t17 false) fun t30=>
 Option.bind (
   iter (A5b p1 seats12 t17) FUEL (t30,([] : List Int),0)) fun out34=>
 some out34
def A7P (t18 : A9) (t41 : List Int) (t80 : A9) (t81 : List Int) : Option (Bool):=
 Option.bind (A1P t80 t81 (V4.mk 2 (D6.mk (⟨#[]⟩ : ByteArray) (⟨#[]⟩ : ByteArray) (⟨#[]⟩ : ByteArray) 0 0 (⟨#[]⟩ : ByteArray) false false ([] : List ByteArray)) (⟨#[110,101,119,99,111,109,101,114]⟩ : ByteArray) (⟨#[]⟩ : ByteArray) (⟨#[]⟩ : ByteArray) 0 (F6.mk 0 0 (⟨#[]⟩ : ByteArray) (⟨#[]⟩ : ByteArray) (⟨#[]⟩ : ByteArray) 0))) fun (t133,t134,t135)=>
 bif decide (t135 = 0) then
  Option.bind (A5d t133 t18) fun t163=>
  bif t163 then
   Option.bind (A0A t134 t41) fun t176=>
   bif t176 then
    Option.bind (A7s) fun t185=>
    some t185
   else
    none
  else
   none
 else
  none
def A7N (host12 : Bool) (t18 : A9) (t41 : List Int) (t53 : Int) (n65 : Int) : Option (Bool):=
 Option.bind (A1P t18 t41 (V4.mk 1 (D6.mk (⟨#[110,101,119,99,111,109,101,114]⟩ : ByteArray) (⟨#[]⟩ : ByteArray) (⟨#[]⟩ : ByteArray) 0 t53 (⟨#[]⟩ : ByteArray) host12 false [(⟨#[97,97]⟩ : ByteArray)]) (⟨#[]⟩ : ByteArray) (⟨#[]⟩ : ByteArray) (⟨#[]⟩ : ByteArray) n65 (F6.mk 0 0 (⟨#[]⟩ : ByteArray) (⟨#[]⟩ : ByteArray) (⟨#[]⟩ : ByteArray) 0))) fun (t80,t81,t82)=>
 bif decide (t82 = 45) then
  Option.bind (N7 ((t80.A8.length : Int) + (t81.length : Int))) fun t110=>
  bif decide (t110 = 0) then
   Option.bind (A7s) fun t112=>
   some t112
  else
   none
 else
  bif !decide (t82 = 0) then
   none
  else
   Option.bind (N7 ((t18.A8.length : Int) + 1)) fun t121=>
   bif !decide ((t80.A8.length : Int) = t121) then
    none
   else
    Option.bind (N7 ((t41.length : Int) + 1)) fun t123=>
    bif !decide ((t81.length : Int) = t123) then
     none
    else
     Option.bind (J6 t81 (t41.length : Int)) fun e125=>
     bif !decide (e125 = (-1)) then
      none
     else
      A7P t18 t41 t80 t81
def A6n (m1 : A0g) (seats10 : List Int) (side11 : Int) (host12 : Bool) (class13 : Int) : Option (Bool):=
 Option.bind (B1D m1) fun t18=>
 Option.bind (A7Z t18 seats10) fun t41=>
 Option.bind (Y7 side11 3) fun t52=>
 Option.bind (A1p .i64 t52) fun t53=>
 Option.bind (
   bif decide (0 < (t18.I6.length : Int)) then
     Option.bind (Y7 class13 64) fun t67=>
     Option.bind (A1p .i64 t67) fun t68=>
     some t68
   else
     some 0) fun n65=>
 A7N host12 t18 t41 t53 n65
end Go.Dm
