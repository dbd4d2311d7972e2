import Derived.Test.YthchjfilgaondaaGreatL9
import Derived.Test.YthchjfilgaondaaGreatL12
/- What the functions compute, as plain Lean functions. -/
set_option maxRecDepth 1000000
set_option maxHeartbeats 40000000
set_option linter.unusedVariables false
set_option linter.unusedSimpArgs false
set_option linter.unnecessarySimpa false
open Go Go.Sl
namespace Go.Dm
theorem inj2 {α β:Type} {a c:α} {b d:β} (h:some (a,b)=some (c,d)):a=c∧b=d:=by cases h; exact ⟨rfl,rfl⟩
abbrev A6c:Nat:=100000
structure D5 where
 F7:ByteArray
 Q4:Int
 fA:Int
 fB:Int
 A2M:List Int
 fX:Int
 fY:Int
deriving DecidableEq
structure E8 where
 F7:ByteArray
 A1S:ByteArray
 W9:ByteArray
 A0h:Int
 A0r:Int
 A0t:ByteArray
 A0s:Bool
 Y6:Bool
 O4:List ByteArray
deriving DecidableEq
structure H7 where
 fA:ByteArray
 fB:ByteArray
 H6:Int
deriving DecidableEq
structure F3 where
 H6:Int
 J3:Int
 fA:ByteArray
 fB:ByteArray
 J2:ByteArray
 fN:Int
deriving DecidableEq
structure I1 where
 A1T:Int
 Y8:Int
 A2G:Int
deriving DecidableEq
structure Q7 where
 A8:List E8
 M9:List H7
deriving DecidableEq
structure C9 where
 C8:List D5
 A8:List E8
 M9:List H7
 R8:List Int
 F9:List F3
deriving DecidableEq
structure R7 where
 C8:List Int
 A8:List Int
 M9:List Int
 F9:List Int
deriving DecidableEq
structure A1n where
 A7b:ByteArray
 C5v:Int→Int→Option Int
 Y5:Int→Int→Int→Int→Option Bool
 A0D:Int→Int→Int→Int→Option Bool
 B9f:Int→Int→Option Int
 C3k:Int→Int→Option (List (Int→Option Int))
structure U0 where
 V6:List E8
 A0E:List H7
deriving DecidableEq
structure L6 where
 K6:U0
 fat:List (ByteArray×Int)
deriving DecidableEq
structure G7 where
 A7b:ByteArray
 fa:Int
 fb:Bool
 ft:Int
 fn:Bool
 flo:Int
 A6j:Bool
 C4y:Nat
deriving DecidableEq
structure P9 where
 P6:C9
 B7L:List (Int×G7)
 A0d:List Int
 B6f:List Int
 C2v:List Bool
 Y5:List (List Int)
 A0D:List (List Int)
 A2E:List (List (Int×Int))
 B0q:List (List Bool)
 A0E:List (List Int)
deriving DecidableEq
structure F6 where
 G5:P9
 R5:List Int
 B7H:List Int
deriving DecidableEq
structure M0 where
 G5:P9
 fp:C9
 A0d:List Int
 B7I:List Int
 A7V:List (List (List Int))
deriving DecidableEq
structure N9 where
 H6:Int
 fN:Int
deriving DecidableEq
structure Q8 where
 A9E:M0
 A7j:Int
 A2E:List N9
 fat:Int
 R5:List Int
deriving DecidableEq
structure Z5 where
 fat:Int
 fe:Int
deriving DecidableEq
structure A3D where
 C8Y:List Int
 A1T:Int
deriving DecidableEq
end Go.Dm
open Go Go.Sl
namespace Go.Dm
def A2J (d:List Int) (e:Int):Int→Option (Int⊕(Unit⊕Int)):=fun a=>
 bif decide (a < (d.length:Int)) then
  (H5 d a).bind fun c=>
  bif decide (e=c) then
   some (Sum.inr (Sum.inr a))
  else
   (J8 (a + 1)).bind fun b=>
   some (Sum.inl b)
 else
  some (Sum.inr (Sum.inl ()))
def A3Y (b:List Int) (c:Int):Option (Int):=
 (
   iter (A2J b c) FUEL 0).bind fun a=>match a with
 | .inl _u=>
   some (-1)
 | .inr p=>
   some p
def A0Z (c:List Int) (b:Int):Option (Bool):=
 (A3Y c b).bind fun a=>
 some (decide (0≤a))
def A1M (e:List Int) (g:Int→Option Bool):Int→Option (Int⊕(Unit⊕Int)):=fun a=>
 bif decide (a < (e.length:Int)) then
  (H5 e a).bind fun b=>
  (g b).bind fun c=>
  bif c then
   some (Sum.inr (Sum.inr a))
  else
   (J8 (a + 1)).bind fun d=>
   some (Sum.inl d)
 else
  some (Sum.inr (Sum.inl ()))
def A8G (b:List Int) (c:Int→Option Bool):Option (Int):=
 (
   iter (A1M b c) FUEL 0).bind fun a=>match a with
 | .inl _u=>
   some (-1)
 | .inr p=>
   some p
def A0v (c:List Int) (b:Int→Option Bool):Option (Bool):=
 (A8G c b).bind fun a=>
 some (decide (0≤a))
def A2i (e:List D5) (g:D5→Option Bool):Int→Option (Int⊕(Unit⊕Int)):=fun a=>
 bif decide (a < (e.length:Int)) then
  (H5 e a).bind fun b=>
  (g b).bind fun c=>
  bif c then
   some (Sum.inr (Sum.inr a))
  else
   (J8 (a + 1)).bind fun d=>
   some (Sum.inl d)
 else
  some (Sum.inr (Sum.inl ()))
def A2g (b:List D5) (c:D5→Option Bool):Option (Int):=
 (
   iter (A2i b c) FUEL 0).bind fun a=>match a with
 | .inl _u=>
   some (-1)
 | .inr p=>
   some p
def A4b (c:List D5) (b:D5→Option Bool):Option (Bool):=
 (A2g c b).bind fun a=>
 some (decide (0≤a))
def A2l (e:List E8) (g:E8→Option Bool):Int→Option (Int⊕(Unit⊕Int)):=fun a=>
 bif decide (a < (e.length:Int)) then
  (H5 e a).bind fun b=>
  (g b).bind fun c=>
  bif c then
   some (Sum.inr (Sum.inr a))
  else
   (J8 (a + 1)).bind fun d=>
   some (Sum.inl d)
 else
  some (Sum.inr (Sum.inl ()))
def A3L (b:List E8) (c:E8→Option Bool):Option (Int):=
 (
   iter (A2l b c) FUEL 0).bind fun a=>match a with
 | .inl _u=>
   some (-1)
 | .inr p=>
   some p
def A6x (d:List ByteArray) (e:ByteArray):Int→Option (Int⊕(Unit⊕Int)):=fun a=>
 bif decide (a < (d.length:Int)) then
  (H5 d a).bind fun c=>
  bif decide (e=c) then
   some (Sum.inr (Sum.inr a))
  else
   (J8 (a + 1)).bind fun b=>
   some (Sum.inl b)
 else
  some (Sum.inr (Sum.inl ()))
def B0y (b:List ByteArray) (c:ByteArray):Option (Int):=
 (
   iter (A6x b c) FUEL 0).bind fun a=>match a with
 | .inl _u=>
   some (-1)
 | .inr p=>
   some p
def A6K (c:List ByteArray) (b:ByteArray):Option (Bool):=
 (B0y c b).bind fun a=>
 some (decide (0≤a))
def A1p (a:Int):Option (Bool):=
 some (!decide (a=a))
def A6p (b:Int) (c:Int):Option (Int):=
 (A1p b).bind fun d=>
 (A1p c).bind fun a=>
 bif d then
   bif a then
     some 0
   else
     some (-1)
 else
   bif a then
     some 1
   else
     bif decide (b < c) then
       some (-1)
     else
       bif decide (c < b) then
         some 1
       else
         some 0
def B0s (b:Int) (a:Int):Option (Bool):=
 (A1p b).bind fun d=>
 bif d then
   (A1p a).bind fun c=>
   bif !c then
     some true
   else
     some (decide (b < a))
 else
   some (decide (b < a))
def A2K (d:List Int) (b:List Int):Int→Option (Int⊕(Unit⊕Int)):=fun a=>
 bif decide (a < (d.length:Int)) then
  (H5 d a).bind fun g=>
  bif decide ((b.length:Int)≤a) then
   some (Sum.inr (Sum.inr 1))
  else
   (H5 b a).bind fun e=>
   (A6p g e).bind fun c=>
   bif !decide (c=0) then
    some (Sum.inr (Sum.inr c))
   else
    (J8 (a + 1)).bind fun h=>
    some (Sum.inl h)
 else
  some (Sum.inr (Sum.inl ()))
def A3B (b:List Int) (a:List Int):Option (Int):=
 (
   iter (A2K b a) FUEL 0).bind fun c=>match c with
 | .inl _u=>
   bif decide ((b.length:Int) < (a.length:Int)) then
     some (-1)
   else
     some 0
 | .inr p=>
   some p
def A6n (a:List Int) (e:List Int):Int→Option (Int⊕(Unit⊕Bool)):=fun b=>
 bif decide (b < (a.length:Int)) then
  (H5 a b).bind fun g=>
  (H5 e b).bind fun c=>
  bif !decide (g=c) then
   some (Sum.inr (Sum.inr false))
  else
   (J8 (b + 1)).bind fun d=>
   some (Sum.inl d)
 else
  some (Sum.inr (Sum.inl ()))
def A2S (b:List Int) (a:List Int):Option (Bool):=
 bif !decide ((b.length:Int)=(a.length:Int)) then
   some false
 else
   (
     iter (A6n b a) FUEL 0).bind fun c=>match c with
   | .inl _u=>
     some true
   | .inr p=>
     some p
def A0Y (b:List Int):Option (List Int):=
 (apL ([]:List Int) b).bind fun a=>
 some a
def A7B (b:List D5):Option (List D5):=
 (apL ([]:List D5) b).bind fun a=>
 some a
def A8a (b:List E8):Option (List E8):=
 (apL ([]:List E8) b).bind fun a=>
 some a
def A4e (b:List ByteArray):Option (List ByteArray):=
 (apL ([]:List ByteArray) b).bind fun a=>
 some a
def B0z (b:List H7):Option (List H7):=
 (apL ([]:List H7) b).bind fun a=>
 some a
def A8Y (b:List F3):Option (List F3):=
 (apL ([]:List F3) b).bind fun a=>
 some a
end Go.Dm
open Go Go.Sl
namespace Go.Dm
def C1t (g:Int) (d:Int):Option (Int):=
 (A3P .u64 g 8).bind fun i=>
 (J8 (d + 8)).bind fun c=>
 (A0P .u8 i).bind fun e=>
 (B8F (⟨#[0,1,2,2,3,3,3,3,4,4,4,4,4,4,4,4,5,5,5,5,5,5,5,5,5,5,5,5,5,5,5,5,6,6,6,6,6,6,6,6,6,6,6,6,6,6,6,6,6,6,6,6,6,6,6,6,6,6,6,6,6,6,6,6,7,7,7,7,7,7,7,7,7,7,7,7,7,7,7,7,7,7,7,7,7,7,7,7,7,7,7,7,7,7,7,7,7,7,7,7,7,7,7,7,7,7,7,7,7,7,7,7,7,7,7,7,7,7,7,7,7,7,7,7,7,7,7,7,8,8,8,8,8,8,8,8,8,8,8,8,8,8,8,8,8,8,8,8,8,8,8,8,8,8,8,8,8,8,8,8,8,8,8,8,8,8,8,8,8,8,8,8,8,8,8,8,8,8,8,8,8,8,8,8,8,8,8,8,8,8,8,8,8,8,8,8,8,8,8,8,8,8,8,8,8,8,8,8,8,8,8,8,8,8,8,8,8,8,8,8,8,8,8,8,8,8,8,8,8,8,8,8,8,8,8,8,8,8,8,8,8,8,8,8,8,8,8,8,8,8,8,8,8,8,8,8]⟩:ByteArray) e).bind fun a=>
 (A0P .i64 a).bind fun h=>
 (J8 (c + h)).bind fun b=>
 some b
def C1G (d:Int) (c:Int):Option (Int):=
 (A0P .u8 d).bind fun b=>
 (B8F (⟨#[0,1,2,2,3,3,3,3,4,4,4,4,4,4,4,4,5,5,5,5,5,5,5,5,5,5,5,5,5,5,5,5,6,6,6,6,6,6,6,6,6,6,6,6,6,6,6,6,6,6,6,6,6,6,6,6,6,6,6,6,6,6,6,6,7,7,7,7,7,7,7,7,7,7,7,7,7,7,7,7,7,7,7,7,7,7,7,7,7,7,7,7,7,7,7,7,7,7,7,7,7,7,7,7,7,7,7,7,7,7,7,7,7,7,7,7,7,7,7,7,7,7,7,7,7,7,7,7,8,8,8,8,8,8,8,8,8,8,8,8,8,8,8,8,8,8,8,8,8,8,8,8,8,8,8,8,8,8,8,8,8,8,8,8,8,8,8,8,8,8,8,8,8,8,8,8,8,8,8,8,8,8,8,8,8,8,8,8,8,8,8,8,8,8,8,8,8,8,8,8,8,8,8,8,8,8,8,8,8,8,8,8,8,8,8,8,8,8,8,8,8,8,8,8,8,8,8,8,8,8,8,8,8,8,8,8,8,8,8,8,8,8,8,8,8,8,8,8,8,8,8,8,8,8,8,8]⟩:ByteArray) b).bind fun a=>
 (A0P .i64 a).bind fun e=>
 (J8 (c + e)).bind fun g=>
 some g
def bits_Len64 (g:Int):Option (Int):=
 (
   bif decide (4294967296≤g) then
     (A3P .u64 g 32).bind fun i=>
     some (i,32)
   else
     some (g,0)).bind fun (d,h)=>
 (
   bif decide (65536≤d) then
     (A3P .u64 d 16).bind fun e=>
     (J8 (h + 16)).bind fun c=>
     some (e,c)
   else
     some (d,h)).bind fun (a,b)=>
 bif decide (256≤a) then
   C1t a b
 else
   C1G a b
def bits_Len (b:Int):Option (Int):=
 (bits_Len64 b).bind fun a=>
 some a
def B1W (a:List Int) (b:Int) (j:Bool):Option (((List Int)×Int)⊕(List Int)):=
 bif j then
  (J8 (b - 1)).bind fun c=>
  (J8 (b - 1)).bind fun g=>
  (H5 a g).bind fun h=>
  (H5 a b).bind fun i=>
  (H5 a b).bind fun m=>
  (some (List.set a b.toNat h)).bind fun d=>
  (H5 d c).bind fun l=>
  (some (List.set d c.toNat i)).bind fun e=>
  (J8 (b - 1)).bind fun k=>
  some (Sum.inl (e,k))
 else
  some (Sum.inr a)
def A4C (i:Int):((List Int)×Int)→Option (((List Int)×Int)⊕(List Int)):=fun (a,b)=>
 (
  bif decide (i < b) then
   (H5 a b).bind fun d=>
   (J8 (b - 1)).bind fun c=>
   (H5 a c).bind fun g=>
   (B0s d g).bind fun h=>
   some h
  else
   some false).bind fun e=>
 B1W a b e
def A4I (e:Int) (g:Int):((List Int)×Int)→Option (((List Int)×Int)⊕(List Int)):=fun (a,c)=>
 bif decide (c < g) then
  (
   iter (A4C e) FUEL (a,c)).bind fun b=>
  (J8 (c + 1)).bind fun d=>
  some (Sum.inl (b,d))
 else
  some (Sum.inr a)
def B3Y (b:List Int) (c:Int) (d:Int):Option (List Int):=
 (J8 (c + 1)).bind fun e=>
 (
   iter (A4I c d) FUEL (b,e)).bind fun a=>
 some a
def A8S (b:List Int) (e:Int) (g:Int) (a:Int):Unit→Option (Unit⊕(List Int)):=fun _u=>
 (J8 (g - e)).bind fun d=>
 bif decide (d≤12) then
  (B3Y b e g).bind fun c=>
  some (Sum.inr c)
 else
  bif decide (a=0) then
   none
  else
   none
def B7G:Nat→(List Int)→Int→Int→Int→Option (List Int)
 | 0,_,_,_,_=>none
 | n + 1,data1,a3,b4,limit5=>
  (
   iter (A8S data1 a3 b4 limit5) FUEL ()).bind fun p=>some p
def B2d (a:List Int):Option (List Int):=
 (A0P .u64 (a.length:Int)).bind fun c=>
 (bits_Len c).bind fun d=>
 (B7G A6c a 0 (a.length:Int) d).bind fun b=>
 some b
def A8E (a:List Int) (b:Int) (g:Bool):Option (((List Int)×Int)⊕(List Int)):=
 bif g then
  (J8 (b - 1)).bind fun d=>
  (J8 (b - 1)).bind fun e=>
  (H5 a e).bind fun h=>
  (H5 a b).bind fun i=>
  (H5 a b).bind fun l=>
  (some (List.set a b.toNat h)).bind fun c=>
  (H5 c d).bind fun m=>
  (some (List.set c d.toNat i)).bind fun j=>
  (J8 (b - 1)).bind fun k=>
  some (Sum.inl (j,k))
 else
  some (Sum.inr a)
def A1X (j:Int) (c:Int→Int→Option Int):((List Int)×Int)→Option (((List Int)×Int)⊕(List Int)):=fun (a,b)=>
 (
  bif decide (j < b) then
   (H5 a b).bind fun h=>
   (J8 (b - 1)).bind fun d=>
   (H5 a d).bind fun g=>
   (c h g).bind fun i=>
   some (decide (i < 0))
  else
   some false).bind fun e=>
 A8E a b e
def A1Y (g:Int) (h:Int) (e:Int→Int→Option Int):((List Int)×Int)→Option (((List Int)×Int)⊕(List Int)):=fun (a,c)=>
 bif decide (c < h) then
  (
   iter (A1X g e) FUEL (a,c)).bind fun b=>
  (J8 (c + 1)).bind fun d=>
  some (Sum.inl (b,d))
 else
  some (Sum.inr a)
def A6M (b:List Int) (d:Int) (e:Int) (c:Int→Int→Option Int):Option (List Int):=
 (J8 (d + 1)).bind fun g=>
 (
   iter (A1Y d e c) FUEL (b,g)).bind fun a=>
 some a
def B2z (d:Int) (a:Int) (b:Int):Unit→Option (Unit⊕Unit):=fun _u=>
 bif decide (b≤d) then
  (J8 (0 + a)).bind fun c=>
  none
 else
  some (Sum.inr ())
def A8J (e:Int):Int→Option (Int⊕Unit):=fun a=>
 bif decide (a < e) then
  (J8 (2 * a)).bind fun c=>
  (
   iter (B2z e a c) FUEL ()).bind fun _u=>
  (J8 (0 + a)).bind fun d=>
  bif decide (d < e) then
   none
  else
   (J8 (a * 2)).bind fun b=>
   some (Sum.inl b)
 else
  some (Sum.inr ())
def A8B (h:Int) (c:Int→Int→Option Int):((List Int)×Int×Int)→Option (((List Int)×Int×Int)⊕((List Int)×Int)):=fun (a,d,b)=>
 bif decide (b≤h) then
  (A6M a d b c).bind fun e=>
  (J8 (b + 20)).bind fun g=>
  some (Sum.inl (e,b,g))
 else
  some (Sum.inr (a,d))
def B2r (c:List Int) (e:Int) (b:Int→Int→Option Int):Option (List Int):=
 (
   iter (A8B e b) FUEL (c,0,20)).bind fun (a,g)=>
 (A6M a g e b).bind fun d=>
 (
   iter (A8J e) FUEL 20).bind fun _u=>
 some d
def A4r (b:List Int) (a:Int→Int→Option Int):Option (List Int):=
 (B2r b (b.length:Int) a).bind fun c=>
 some c
def A7i (a:List (List Int)) (b:Int) (j:Bool):Option (((List (List Int))×Int)⊕(List (List Int))):=
 bif j then
  (J8 (b - 1)).bind fun g=>
  (J8 (b - 1)).bind fun i=>
  (H5 a i).bind fun h=>
  (H5 a b).bind fun k=>
  (H5 a b).bind fun m=>
  (some (List.set a b.toNat h)).bind fun c=>
  (H5 c g).bind fun l=>
  (some (List.set c g.toNat k)).bind fun e=>
  (J8 (b - 1)).bind fun d=>
  some (Sum.inl (e,d))
 else
  some (Sum.inr a)
def A1w (j:Int) (c:(List Int)→(List Int)→Option Int):((List (List Int))×Int)→Option (((List (List Int))×Int)⊕(List (List Int))):=fun (a,b)=>
 (
  bif decide (j < b) then
   (H5 a b).bind fun h=>
   (J8 (b - 1)).bind fun i=>
   (H5 a i).bind fun e=>
   (c h e).bind fun d=>
   some (decide (d < 0))
  else
   some false).bind fun g=>
 A7i a b g
def A1u (g:Int) (h:Int) (d:(List Int)→(List Int)→Option Int):((List (List Int))×Int)→Option (((List (List Int))×Int)⊕(List (List Int))):=fun (a,c)=>
 bif decide (c < h) then
  (
   iter (A1w g d) FUEL (a,c)).bind fun b=>
  (J8 (c + 1)).bind fun e=>
  some (Sum.inl (b,e))
 else
  some (Sum.inr a)
def A7L (b:List (List Int)) (d:Int) (e:Int) (c:(List Int)→(List Int)→Option Int):Option (List (List Int)):=
 (J8 (d + 1)).bind fun g=>
 (
   iter (A1u d e c) FUEL (b,g)).bind fun a=>
 some a
def A4E (b:List (List Int)) (g:Int) (h:Int) (a:Int) (c:(List Int)→(List Int)→Option Int):Unit→Option (Unit⊕(List (List Int))):=fun _u=>
 (J8 (h - g)).bind fun d=>
 bif decide (d≤12) then
  (A7L b g h c).bind fun e=>
  some (Sum.inr e)
 else
  bif decide (a=0) then
   none
  else
   none
def B1c:Nat→(List (List Int))→Int→Int→Int→((List Int)→(List Int)→Option Int)→Option (List (List Int))
 | 0,_,_,_,_,_=>none
 | n + 1,data1,a3,b4,limit5,cmp6=>
  (
   iter (A4E data1 a3 b4 limit5 cmp6) FUEL ()).bind fun p=>some p
def A5y (b:List (List Int)) (a:(List Int)→(List Int)→Option Int):Option (List (List Int)):=
 (A0P .u64 (b.length:Int)).bind fun e=>
 (bits_Len e).bind fun d=>
 (B1c A6c b 0 (b.length:Int) d a).bind fun c=>
 some c
def B8S (a:List I1) (b:Int) (g:Bool):Option (((List I1)×Int)⊕(List I1)):=
 bif g then
  (J8 (b - 1)).bind fun d=>
  (J8 (b - 1)).bind fun e=>
  (H5 a e).bind fun h=>
  (H5 a b).bind fun i=>
  (H5 a b).bind fun l=>
  (some (List.set a b.toNat h)).bind fun c=>
  (H5 c d).bind fun m=>
  (some (List.set c d.toNat i)).bind fun j=>
  (J8 (b - 1)).bind fun k=>
  some (Sum.inl (j,k))
 else
  some (Sum.inr a)
def B2E (j:Int) (c:I1→I1→Option Int):((List I1)×Int)→Option (((List I1)×Int)⊕(List I1)):=fun (a,b)=>
 (
  bif decide (j < b) then
   (H5 a b).bind fun h=>
   (J8 (b - 1)).bind fun d=>
   (H5 a d).bind fun g=>
   (c h g).bind fun i=>
   some (decide (i < 0))
  else
   some false).bind fun e=>
 B8S a b e
def B2O (g:Int) (h:Int) (e:I1→I1→Option Int):((List I1)×Int)→Option (((List I1)×Int)⊕(List I1)):=fun (a,c)=>
 bif decide (c < h) then
  (
   iter (B2E g e) FUEL (a,c)).bind fun b=>
  (J8 (c + 1)).bind fun d=>
  some (Sum.inl (b,d))
 else
  some (Sum.inr a)
def B6I (b:List I1) (d:Int) (e:Int) (c:I1→I1→Option Int):Option (List I1):=
 (J8 (d + 1)).bind fun g=>
 (
   iter (B2O d e c) FUEL (b,g)).bind fun a=>
 some a
def B2A (a:List I1) (e:Int) (g:Int) (b:I1→I1→Option Int):Unit→Option (Unit⊕(List I1)):=fun _u=>
 (J8 (g - e)).bind fun c=>
 bif decide (c≤12) then
  (B6I a e g b).bind fun d=>
  some (Sum.inr d)
 else
  none
def B6U:Nat→(List I1)→Int→Int→Int→(I1→I1→Option Int)→Option (List I1)
 | 0,_,_,_,_,_=>none
 | n + 1,data1,a3,b4,limit5,cmp6=>
  (
   iter (B2A data1 a3 b4 cmp6) FUEL ()).bind fun p=>some p
def B3D (b:List I1) (a:I1→I1→Option Int):Option (List I1):=
 (A0P .u64 (b.length:Int)).bind fun e=>
 (bits_Len e).bind fun d=>
 (B6U A6c b 0 (b.length:Int) d a).bind fun c=>
 some c
end Go.Dm
open Go Go.Sl
namespace Go.Dm
def bits_Mul64 (i:Int) (j:Int):Option (Int×Int):=
 (C3G .u64 i 4294967295).bind fun n=>
 (A3P .u64 i 32).bind fun q=>
 (C3G .u64 j 4294967295).bind fun p=>
 (A3P .u64 j 32).bind fun o=>
 (A0P .u64 (n * p)).bind fun s=>
 (A0P .u64 (q * p)).bind fun t=>
 (A3P .u64 s 32).bind fun r=>
 (A0P .u64 (t + r)).bind fun a=>
 (C3G .u64 a 4294967295).bind fun d=>
 (A3P .u64 a 32).bind fun h=>
 (A0P .u64 (n * o)).bind fun b=>
 (A0P .u64 (d + b)).bind fun m=>
 (A0P .u64 (q * o)).bind fun g=>
 (A0P .u64 (g + h)).bind fun c=>
 (A3P .u64 m 32).bind fun k=>
 (A0P .u64 (c + k)).bind fun l=>
 (A0P .u64 (i * j)).bind fun e=>
 some (l,e)
def bits_Mul (c:Int) (b:Int):Option (Int×Int):=
 (bits_Mul64 c b).bind fun (a,d)=>
 some (a,d)
def B7k (a:List Int) (b:Int):Option (((List Int)×Int)⊕(List Int)):=
 (bdV b (a.length:Int) (a.length:Int)).bind fun g=>
 (bdV 0 b (a.length:Int)).bind fun i=>
 (bdV b (a.length:Int) (a.length:Int)).bind fun h=>
 (bdV 0 b (a.length:Int)).bind fun j=>
 (cpL a b.toNat ((a.length:Int).toNat - b.toNat) (List.take (b.toNat - (0:Int).toNat) (List.drop (0:Int).toNat a))).bind fun (e,d)=>
 (J8 (b + d)).bind fun c=>
 some (Sum.inl (e,c))
def A9d:((List Int)×Int)→Option (((List Int)×Int)⊕(List Int)):=fun (a,b)=>
 bif decide (b < (a.length:Int)) then
  B7k a b
 else
  some (Sum.inr a)
def B6k (m:List Int) (b:Int):Option (List Int):=
 (A0P .u64 (m.length:Int)).bind fun k=>
 (A0P .u64 b).bind fun i=>
 (bits_Mul k i).bind fun (j,d)=>
 (
  bif decide (0 < j) then
   some true
  else
   some (decide (9223372036854775807 < d))).bind fun l=>
 (
  bif l then
   none
  else
   some ()).bind fun _u=>
 (A0P .i64 d).bind fun e=>
 (mkL e 0).bind fun c=>
 (cpL c 0 c.length m).bind fun (g,h)=>
 (
  iter A9d FUEL (g,h)).bind fun a=>
 some a
def A6h (b:List Int) (a:Int):Option (List Int):=
 (
   bif decide (a < 0) then
     none
   else
     some ()).bind fun _u=>
 B6k b a
def B1F (k:List Int) (l:Int) (b:List Int) (c:Int) (a:Int):Option (((List Int)×Int×Int)⊕((List Int)×Int)):=
 (B8U b l (k.length:Int) a).bind fun m=>
 (J8 (a - 1)).bind fun n=>
 (B8U b l (k.length:Int) n).bind fun d=>
 bif !decide (m=d) then
  (B8U b l (k.length:Int) a).bind fun i=>
  (H5 b c).bind fun o=>
  (some (List.set b c.toNat i)).bind fun h=>
  (J8 (c + 1)).bind fun e=>
  (J8 (a + 1)).bind fun g=>
  some (Sum.inl (h,e,g))
 else
  (J8 (a + 1)).bind fun j=>
  some (Sum.inl (b,c,j))
def A4s (d:List Int) (e:Int):((List Int)×Int×Int)→Option (((List Int)×Int×Int)⊕((List Int)×Int)):=fun (b,c,a)=>
 bif decide (a < ((((d.length:Int).toNat - e.toNat:Nat)):Int)) then
  B1F d e b c a
 else
  some (Sum.inr (b,c))
def B1C (c:List Int) (d:Int):Option (Int⊕(Unit⊕(List Int))):=
 (H5 c d).bind fun i=>
 (J8 (d - 1)).bind fun e=>
 (H5 c e).bind fun g=>
 bif decide (i=g) then
  (bdV d (c.length:Int) (c.length:Int)).bind fun n=>
  (
   iter (A4s c d) FUEL (c,d,1)).bind fun (a,b)=>
  (bdV b (a.length:Int) (a.length:Int)).bind fun l=>
  (bdV b (a.length:Int) (a.length:Int)).bind fun m=>
  (some (A3k a b.toNat (List.replicate ((a.length:Int).toNat - b.toNat) 0))).bind fun j=>
  (sbL j 0 b).bind fun k=>
  some (Sum.inr (Sum.inr k))
 else
  (J8 (d + 1)).bind fun h=>
  some (Sum.inl h)
def A4q (b:List Int):Int→Option (Int⊕(Unit⊕(List Int))):=fun a=>
 bif decide (a < (b.length:Int)) then
  B1C b a
 else
  some (Sum.inr (Sum.inl ()))
def A7C (a:List Int):Option (List Int):=
 bif decide ((a.length:Int) < 2) then
   some a
 else
   (
     iter (A4q a) FUEL 1).bind fun b=>match b with
   | .inl _u=>
     some a
   | .inr p=>
     some p
def A7c (l:List (List Int)) (n:(List Int)→(List Int)→Option Bool) (o:Int) (b:List (List Int)) (c:Int) (a:Int):Option (((List (List Int))×Int×Int)⊕((List (List Int))×Int)):=
 (B8U b o (l.length:Int) a).bind fun i=>
 (J8 (a - 1)).bind fun m=>
 (B8U b o (l.length:Int) m).bind fun p=>
 (n i p).bind fun k=>
 bif !k then
  (B8U b o (l.length:Int) a).bind fun j=>
  (H5 b c).bind fun q=>
  (some (List.set b c.toNat j)).bind fun d=>
  (J8 (c + 1)).bind fun e=>
  (J8 (a + 1)).bind fun h=>
  some (Sum.inl (d,e,h))
 else
  (J8 (a + 1)).bind fun g=>
  some (Sum.inl (b,c,g))
def A1P (e:List (List Int)) (d:(List Int)→(List Int)→Option Bool) (g:Int):((List (List Int))×Int×Int)→Option (((List (List Int))×Int×Int)⊕((List (List Int))×Int)):=fun (c,b,a)=>
 bif decide (a < ((((e.length:Int).toNat - g.toNat:Nat)):Int)) then
  A7c e d g c b a
 else
  some (Sum.inr (c,b))
def A7e (e:List (List Int)) (g:(List Int)→(List Int)→Option Bool) (h:Int):Option (Int⊕(Unit⊕(List (List Int)))):=
 (bdV h (e.length:Int) (e.length:Int)).bind fun k=>
 (
  iter (A1P e g h) FUEL (e,h,1)).bind fun (a,b)=>
 (bdV b (a.length:Int) (a.length:Int)).bind fun j=>
 (bdV b (a.length:Int) (a.length:Int)).bind fun i=>
 (some (A3k a b.toNat (List.replicate ((a.length:Int).toNat - b.toNat) ([]:List Int)))).bind fun c=>
 (sbL c 0 b).bind fun d=>
 some (Sum.inr (Sum.inr d))
def A1Q (d:List (List Int)) (a:(List Int)→(List Int)→Option Bool):Int→Option (Int⊕(Unit⊕(List (List Int)))):=fun c=>
 bif decide (c < (d.length:Int)) then
  (H5 d c).bind fun i=>
  (J8 (c - 1)).bind fun g=>
  (H5 d g).bind fun e=>
  (a i e).bind fun h=>
  bif h then
   A7e d a c
  else
   (J8 (c + 1)).bind fun b=>
   some (Sum.inl b)
 else
  some (Sum.inr (Sum.inl ()))
def A2Y (a:List (List Int)) (b:(List Int)→(List Int)→Option Bool):Option (List (List Int)):=
 bif decide ((a.length:Int) < 2) then
   some a
 else
   (
     iter (A1Q a b) FUEL 1).bind fun c=>match c with
   | .inl _u=>
     some a
   | .inr p=>
     some p
def A2A (c:List ByteArray) (g:ByteArray→Option Bool):Int→Option (Int⊕(Unit⊕(Int×(List ByteArray)))):=fun a=>
 bif decide (a < (c.length:Int)) then
  (H5 c a).bind fun d=>
  (g d).bind fun b=>
  bif b then
   some (Sum.inr (Sum.inr (a,c)))
  else
   (J8 (a + 1)).bind fun e=>
   some (Sum.inl e)
 else
  some (Sum.inr (Sum.inl ()))
def A4B (a:List ByteArray) (c:ByteArray→Option Bool):Option (Int×(List ByteArray)):=
 (
   iter (A2A a c) FUEL 0).bind fun b=>match b with
 | .inl _u=>
   some ((-1),a)
 | .inr p=>
   some p
def A2C (d:ByteArray→Option Bool):((List ByteArray)×Int×Int)→Option (((List ByteArray)×Int×Int)⊕((List ByteArray)×Int)):=fun (a,b,c)=>
 bif decide (c < (a.length:Int)) then
  (H5 a c).bind fun e=>
  (d e).bind fun g=>
  bif !g then
   (H5 a b).bind fun l=>
   (some (List.set a b.toNat e)).bind fun k=>
   (J8 (b + 1)).bind fun h=>
   (J8 (c + 1)).bind fun i=>
   some (Sum.inl (k,h,i))
  else
   (J8 (c + 1)).bind fun j=>
   some (Sum.inl (a,b,j))
 else
  some (Sum.inr (a,b))
def A2N (k:List ByteArray) (c:ByteArray→Option Bool):Option (List ByteArray):=
 (A4B k c).bind fun (h,i)=>
 bif decide (h=(-1)) then
   some i
 else
   (J8 (h + 1)).bind fun e=>
   (
     iter (A2C c) FUEL (i,h,e)).bind fun (a,b)=>
   (bdV b (a.length:Int) (a.length:Int)).bind fun l=>
   (bdV b (a.length:Int) (a.length:Int)).bind fun j=>
   (some (A3k a b.toNat (List.replicate ((a.length:Int).toNat - b.toNat) (⟨#[]⟩:ByteArray)))).bind fun g=>
   (sbL g 0 b).bind fun d=>
   some d
end Go.Dm
open Go Go.Sl
namespace Go.Dm
def Y7 (a:Int):Option (ByteArray):=
 (A5G a 26).bind fun d=>
 (V9 d 26).bind fun b=>
 (J8 (97 + b)).bind fun h=>
 (A0P .u8 h).bind fun g=>
 (V9 a 26).bind fun c=>
 (J8 (97 + c)).bind fun i=>
 (A0P .u8 i).bind fun e=>
 some (B8f [g,e])
def A6E (e:Q7) (g:Int):Int→Option (Int⊕(Unit⊕Bool)):=fun a=>
 bif decide (a < (e.A8.length:Int)) then
  (H5 e.A8 a).bind fun c=>
  (Y7 g).bind fun d=>
  bif decide (c.F7=d) then
   some (Sum.inr (Sum.inr true))
  else
   (J8 (a + 1)).bind fun b=>
   some (Sum.inl b)
 else
  some (Sum.inr (Sum.inl ()))
def A2f (c:Q7) (b:Int):Option (Bool):=
 (
   iter (A6E c b) FUEL 0).bind fun a=>match a with
 | .inl _u=>
   some false
 | .inr p=>
   some p
def A5n (l:Int):((List ByteArray)×Int)→Option (((List ByteArray)×Int)⊕(List ByteArray)):=fun (a,b)=>
 bif decide (b < 4) then
  (J8 (2 * b)).bind fun i=>
  (J8 (6 + i)).bind fun d=>
  (A3P .i64 l d).bind fun h=>
  (V9 h 4).bind fun k=>
  bif decide (k=1) then
   (Y7 b).bind fun j=>
   (apL a [j]).bind fun c=>
   (J8 (b + 1)).bind fun e=>
   some (Sum.inl (c,e))
  else
   (J8 (b + 1)).bind fun g=>
   some (Sum.inl (a,g))
 else
  some (Sum.inr a)
def B5y (b:List E8) (n:Int) (g:Int) (p:ByteArray) (m:Int) (r:Int) (l:Int) (o:Int) (d:ByteArray) (c:ByteArray):Option (((List E8)×Int)⊕(List E8)):=
 (V9 g 3).bind fun q=>
 (
  bif decide (q=2) then
   (V9 g 5).bind fun j=>
   (Y7 j).bind fun k=>
   some k
  else
   some (⟨#[]⟩:ByteArray)).bind fun e=>
 (
  iter (A5n g) FUEL (([]:List ByteArray),0)).bind fun a=>
 (apL b [(E8.mk p d c m r e (decide (l=0)) (decide (o=0)) a)]).bind fun h=>
 (J8 (n + 1)).bind fun i=>
 some (Sum.inl (h,i))
def B1a (d:List Int) (b:List E8) (e:Int):Option (((List E8)×Int)⊕(List E8)):=
 (H5 d e).bind fun x=>
 (A0P .i64 x).bind fun a=>
 (J8 (25 * e)).bind fun q=>
 (V9 q 312).bind fun j=>
 (A5G e 12).bind fun h=>
 (J8 (j + h)).bind fun u=>
 (Y7 u).bind fun o=>
 (V9 a 4).bind fun m=>
 (J8 (m * 500)).bind fun l=>
 (V9 a 3).bind fun t=>
 (V9 a 5).bind fun i=>
 (V9 a 7).bind fun n=>
 (V9 a 2).bind fun r=>
 (
  bif decide (r=1) then
   (V9 a 3).bind fun p=>
   (Y7 p).bind fun k=>
   some k
  else
   some (⟨#[]⟩:ByteArray)).bind fun g=>
 (V9 a 8).bind fun v=>
 (
  bif decide (4 < v) then
   (V9 a 8).bind fun w=>
   (Y7 w).bind fun s=>
   some s
  else
   some (⟨#[]⟩:ByteArray)).bind fun c=>
 B5y b e a o l t i n g c
def B0U (d:List Int) (o:Int) (a:List H7) (b:Int) (c:Int) (l:Bool):Option (((List H7)×Int×Int)⊕(Int×(List H7))):=
 bif l then
  (H5 d b).bind fun h=>
  (V9 h 4).bind fun m=>
  (A0P .u8 (1 + m)).bind fun q=>
  (Y7 o).bind fun e=>
  (Y7 c).bind fun n=>
  (apL a [(H7.mk e n q)]).bind fun i=>
  (J8 (b + 1)).bind fun p=>
  (J8 (c + 1)).bind fun g=>
  some (Sum.inl (i,p,g))
 else
  (J8 (b + 1)).bind fun j=>
  (J8 (c + 1)).bind fun k=>
  some (Sum.inl (a,j,k))
def A8h (d:List Int) (b:List E8) (g:Int) (a:List H7) (c:Int) (e:Int):Option (((List H7)×Int×Int)⊕(Int×(List H7))):=
 (A2f (Q7.mk b ([]:List H7)) g).bind fun k=>
 bif !k then
  some (Sum.inr (c,a))
 else
  (A2f (Q7.mk b ([]:List H7)) e).bind fun i=>
  bif !i then
   (J8 (e + 1)).bind fun h=>
   some (Sum.inl (a,c,h))
  else
   (
    bif decide (c < (d.length:Int)) then
     (H5 d c).bind fun j=>
     (V9 j 4).bind fun m=>
     some (decide (m < 2))
    else
     some false).bind fun l=>
   B0U d g a c e l
def A7J (e:List Int) (b:List E8) (g:Int):((List H7)×Int×Int)→Option (((List H7)×Int×Int)⊕(Int×(List H7))):=fun (a,c,d)=>
 bif decide (d < 312) then
  A8h e b g a c d
 else
  some (Sum.inr (c,a))
def A8b (e:List Int) (c:List E8):((List H7)×Int×Int)→Option (((List H7)×Int×Int)⊕(List H7)):=fun (a,g,b)=>
 bif decide (b < 312) then
  (J8 (b + 1)).bind fun i=>
  (
   iter (A7J e c b) FUEL (a,g,i)).bind fun (j,d)=>
  (J8 (b + 1)).bind fun h=>
  some (Sum.inl (d,j,h))
 else
  some (Sum.inr a)
def A8f (b:List Int):((List E8)×Int)→Option (((List E8)×Int)⊕(List E8)):=fun (a,c)=>
 (
  bif decide (c < (b.length:Int)) then
   some (decide (c < 12))
  else
   some false).bind fun d=>
 bif d then
  B1a b a c
 else
  some (Sum.inr a)
def B2j (c:List Int) (d:List Int):Option (Q7):=
 (
   iter (A8f c) FUEL (([]:List E8),0)).bind fun a=>
 (
   iter (A8b d a) FUEL (([]:List H7),0,0)).bind fun b=>
 some (Q7.mk a b)
def C0s (b:Int):Option (ByteArray):=
 (V9 b 26).bind fun a=>
 (J8 (97 + a)).bind fun c=>
 (A0P .u8 c).bind fun d=>
 some (B8f [116,d])
def A1z (a:D5):Option (Int):=
 bif decide (a.Q4=2) then
   (J8 (2 * a.fA)).bind fun e=>
   (J8 (e + a.fB)).bind fun d=>
   some d
 else
   bif decide (a.Q4=3) then
     (J8 (2 * a.fB)).bind fun c=>
     (J8 (a.fA + c)).bind fun b=>
     some b
   else
     some a.fA
def C0I (k:Int) (a:List Int) (b:Int):Option (((List Int)×Int)⊕(List Int)):=
 (A3P .i64 k b).bind fun e=>
 (V9 e 2).bind fun d=>
 bif decide (d=1) then
  (V9 k 3).bind fun c=>
  bif decide (0 < c) then
   (apL a [b]).bind fun j=>
   (J8 (b + 1)).bind fun i=>
   some (Sum.inl (j,i))
  else
   (J8 (b + 1)).bind fun h=>
   some (Sum.inl (a,h))
 else
  (J8 (b + 1)).bind fun g=>
  some (Sum.inl (a,g))
def B3n (h:Int) (i:ByteArray) (g:Int) (d:Int) (c:Int):((List Int)×Int)→Option (((List Int)×Int)⊕(List Int)):=fun (a,b)=>
 (A1z (D5.mk i g c 0 ([]:List Int) h d)).bind fun e=>
 bif decide (b < e) then
  C0I h a b
 else
  some (Sum.inr a)
def C0d (k:Int) (a:List Int) (b:Int):Option (((List Int)×Int)⊕(List Int)):=
 (A3P .i64 k b).bind fun d=>
 (V9 d 2).bind fun h=>
 bif decide (h=1) then
  (V9 k 3).bind fun e=>
  bif decide (0 < e) then
   (apL a [b]).bind fun c=>
   (J8 (b + 1)).bind fun i=>
   some (Sum.inl (c,i))
  else
   (J8 (b + 1)).bind fun g=>
   some (Sum.inl (a,g))
 else
  (J8 (b + 1)).bind fun j=>
  some (Sum.inl (a,j))
def B3f (i:Int) (j:ByteArray) (h:Int) (g:Int) (e:Int) (d:Int):((List Int)×Int)→Option (((List Int)×Int)⊕(List Int)):=fun (a,b)=>
 (A1z (D5.mk j h e d ([]:List Int) i g)).bind fun c=>
 bif decide (b < c) then
  C0d i a b
 else
  some (Sum.inr a)
def C0u (k:Int) (a:List Int) (b:Int):Option (((List Int)×Int)⊕(List Int)):=
 (A3P .i64 k b).bind fun e=>
 (V9 e 2).bind fun h=>
 bif decide (h=1) then
  (V9 k 3).bind fun c=>
  bif decide (0 < c) then
   (apL a [b]).bind fun g=>
   (J8 (b + 1)).bind fun j=>
   some (Sum.inl (g,j))
  else
   (J8 (b + 1)).bind fun i=>
   some (Sum.inl (a,i))
 else
  (J8 (b + 1)).bind fun d=>
  some (Sum.inl (a,d))
def B3j (i:Int) (j:ByteArray) (h:Int) (g:Int) (c:Int) (d:Int):((List Int)×Int)→Option (((List Int)×Int)⊕(List Int)):=fun (a,b)=>
 (A1z (D5.mk j h c d ([]:List Int) i g)).bind fun e=>
 bif decide (b < e) then
  C0u i a b
 else
  some (Sum.inr a)
def B9j (k:Int) (a:List Int) (b:Int):Option (((List Int)×Int)⊕(List Int)):=
 (A3P .i64 k b).bind fun d=>
 (V9 d 2).bind fun h=>
 bif decide (h=1) then
  (V9 k 3).bind fun c=>
  bif decide (0 < c) then
   (apL a [b]).bind fun j=>
   (J8 (b + 1)).bind fun e=>
   some (Sum.inl (j,e))
  else
   (J8 (b + 1)).bind fun i=>
   some (Sum.inl (a,i))
 else
  (J8 (b + 1)).bind fun g=>
  some (Sum.inl (a,g))
def B3v (i:Int) (j:ByteArray) (h:Int) (g:Int) (b:Int) (d:Int):((List Int)×Int)→Option (((List Int)×Int)⊕(List Int)):=fun (a,c)=>
 (A1z (D5.mk j h b (min b d) ([]:List Int) i g)).bind fun e=>
 bif decide (c < e) then
  B9j i a c
 else
  some (Sum.inr a)
def C0T (k:Int) (a:List Int) (b:Int):Option (((List Int)×Int)⊕(List Int)):=
 (A3P .i64 k b).bind fun h=>
 (V9 h 2).bind fun d=>
 bif decide (d=1) then
  (V9 k 3).bind fun c=>
  bif decide (0 < c) then
   (apL a [b]).bind fun i=>
   (J8 (b + 1)).bind fun j=>
   some (Sum.inl (i,j))
  else
   (J8 (b + 1)).bind fun e=>
   some (Sum.inl (a,e))
 else
  (J8 (b + 1)).bind fun g=>
  some (Sum.inl (a,g))
def B3K (g:Int) (h:ByteArray) (e:Int) (d:Int):((List Int)×Int)→Option (((List Int)×Int)⊕(List Int)):=fun (a,b)=>
 (A1z (D5.mk h e 0 0 ([]:List Int) g d)).bind fun c=>
 bif decide (b < c) then
  C0T g a b
 else
  some (Sum.inr a)
def C0U (l:Int) (k:ByteArray) (d:Int) (e:Int) (i:Int):Option (D5):=
 bif decide (d=4) then
  (V9 i 5).bind fun h=>
  (J8 (1 + h)).bind fun a=>
  (A5G i 5).bind fun j=>
  (V9 j 4).bind fun g=>
  (
   iter (B3v l k d e a g) FUEL (([]:List Int),0)).bind fun c=>
  some (D5.mk k d a (min a g) c l e)
 else
  (
   iter (B3K l k d e) FUEL (([]:List Int),0)).bind fun b=>
  some (D5.mk k d 0 0 b l e)
def C0l (m:Int) (o:ByteArray) (a:Int) (c:Int) (d:Int):Option (D5):=
 bif decide (a=2) then
  (V9 d 3).bind fun p=>
  (J8 (1 + p)).bind fun l=>
  (A5G d 3).bind fun q=>
  (V9 q 3).bind fun k=>
  (
   iter (B3f m o a c l k) FUEL (([]:List Int),0)).bind fun e=>
  some (D5.mk o a l k e m c)
 else
  bif decide (a=3) then
   (V9 d 2).bind fun n=>
   (J8 (1 + n)).bind fun g=>
   (A5G d 2).bind fun j=>
   (V9 j 2).bind fun i=>
   (J8 (1 + i)).bind fun h=>
   (
    iter (B3j m o a c g h) FUEL (([]:List Int),0)).bind fun b=>
   some (D5.mk o a g h b m c)
  else
   C0U m o a c d
def A2X (l:Int) (d:Int):Option (D5):=
 (C0s l).bind fun k=>
 (V9 d 4).bind fun j=>
 (J8 (1 + j)).bind fun i=>
 (A0P .u8 i).bind fun a=>
 (J8 (255 - d)).bind fun c=>
 (A5G d 4).bind fun g=>
 bif decide (a=1) then
   (V9 g 6).bind fun h=>
   (J8 (1 + h)).bind fun e=>
   (
     iter (B3n d k a c e) FUEL (([]:List Int),0)).bind fun b=>
   some (D5.mk k a e 0 b d c)
 else
   C0l d k a c g
def A2R (m:C9) (b:Int) (a:Int) (c:Int) (d:Int) (j:Int):Option (F3×Bool):=
 (H5 m.A8 c).bind fun h=>
 (H5 m.A8 d).bind fun i=>
 (
  bif decide (b=1) then
   some true
  else
   some (decide (b=4))).bind fun l=>
 (
  bif l then
   some j
  else
   some 0).bind fun e=>
 (
  bif decide (b=4) then
   (J8 (e + 1)).bind fun g=>
   some g
  else
   some e).bind fun k=>
 some ((F3.mk b a h.F7 i.F7 (⟨#[]⟩:ByteArray) k),!decide (c=d))
def A9z (m:C9) (i:Int) (b:Int) (n:Int) (l:Int) (c:Int):Option (F3×Bool):=
 (H5 m.A8 l).bind fun d=>
 (H5 m.C8 c).bind fun j=>
 (
  bif decide (i=7) then
   (A5G n 13).bind fun h=>
   (H5 m.C8 c).bind fun a=>
   (A1z (D5.mk a.F7 a.Q4 a.fA a.fB ([]:List Int) a.fX a.fY)).bind fun e=>
   (V9 h e).bind fun k=>
   some k
  else
   some 0).bind fun g=>
 some ((F3.mk i b d.F7 (⟨#[]⟩:ByteArray) j.F7 g),true)
def B3o (l:C9) (b:Int) (a:Int) (i:Int) (d:Int) (h:Int) (k:Bool):Option (F3×Bool):=
 bif k then
  (V9 i 3).bind fun e=>
  bif decide (0 < e) then
   (H5 l.C8 d).bind fun c=>
   some ((F3.mk b a (⟨#[]⟩:ByteArray) (⟨#[]⟩:ByteArray) c.F7 h),true)
  else
   some ((F3.mk b a (⟨#[]⟩:ByteArray) (⟨#[]⟩:ByteArray) (⟨#[]⟩:ByteArray) h),true)
 else
  (V9 i 3).bind fun g=>
  bif decide (0 < g) then
   (H5 l.C8 d).bind fun j=>
   some ((F3.mk b a (⟨#[]⟩:ByteArray) (⟨#[]⟩:ByteArray) j.F7 0),true)
  else
   some ((F3.mk b a (⟨#[]⟩:ByteArray) (⟨#[]⟩:ByteArray) (⟨#[]⟩:ByteArray) 0),true)
def B3I (m:C9) (b:Int) (a:Int) (l:Int) (d:Int) (g:Int) (n:Int):Option (F3×Bool):=
 bif decide (b=10) then
  (V9 l 3).bind fun h=>
  (
   bif decide (h=0) then
    (H5 m.A8 d).bind fun e=>
    some e.F7
   else
    some (⟨#[]⟩:ByteArray)).bind fun k=>
  some ((F3.mk b a k (⟨#[]⟩:ByteArray) (⟨#[]⟩:ByteArray) 0),true)
 else
  bif decide (b=17) then
   (H5 m.A8 d).bind fun c=>
   (H5 m.C8 g).bind fun i=>
   some ((F3.mk b a c.A0t (⟨#[]⟩:ByteArray) i.F7 0),!decide (c.A0t=(⟨#[]⟩:ByteArray)))
  else
   (
    bif decide (b=15) then
     some (decide (b=15))
    else
     some (decide (b=16))).bind fun j=>
   B3o m b a l g n j
def B3m (e:C9) (a:Int) (b:Int) (c:Int):Option (F3×Bool):=
 (V9 c (e.A8.length:Int)).bind fun d=>
 (A5G c (e.A8.length:Int)).bind fun l=>
 (V9 l (e.A8.length:Int)).bind fun j=>
 (A5G c 7).bind fun m=>
 (V9 m (e.C8.length:Int)).bind fun g=>
 (A5G c 11).bind fun n=>
 (V9 n 4).bind fun i=>
 (
  bif decide (a=1) then
   some (decide (a=1))
  else
   bif decide (a=2) then
    some (decide (a=2))
   else
    bif decide (a=3) then
     some (decide (a=3))
    else
     bif decide (a=4) then
      some (decide (a=4))
     else
      some (decide (a=5))).bind fun k=>
 bif k then
  A2R e a b d j i
 else
  (
   bif decide (a=6) then
    some (decide (a=6))
   else
    some (decide (a=7))).bind fun h=>
  bif h then
   A9z e a b c d g
  else
   B3I e a b c d g i
def B0t (j:C9) (d:Int):Option (F3×Bool):=
 (V9 d 18).bind fun i=>
 (J8 (1 + i)).bind fun g=>
 (A0P .u8 g).bind fun c=>
 (A5G d 18).bind fun b=>
 (V9 b 5).bind fun l=>
 (
   bif decide (1 < l) then
     (V9 b 7).bind fun h=>
     (J8 (1 + h)).bind fun m=>
     some m
   else
     some 0).bind fun a=>
 (A5G b 5).bind fun k=>
 (
   bif decide ((j.A8.length:Int)=0) then
     some true
   else
     some (decide ((j.C8.length:Int)=0))).bind fun e=>
 bif e then
   some ((F3.mk c a (⟨#[]⟩:ByteArray) (⟨#[]⟩:ByteArray) (⟨#[]⟩:ByteArray) 0),false)
 else
   B3m j c a k
def A4X (k:R7) (j:Q7):((List Int)×Int)→Option (((List Int)×Int)⊕(List Int)):=fun (a,b)=>
 bif decide (b < (j.A8.length:Int)) then
  (H5 k.A8 b).bind fun g=>
  (A0P .i64 g).bind fun e=>
  (A5G e 3).bind fun h=>
  (V9 h 4).bind fun d=>
  (apL a [d]).bind fun c=>
  (J8 (b + 1)).bind fun i=>
  some (Sum.inl (c,i))
 else
  some (Sum.inr a)
def B0Z (o:R7) (h:Q7) (a:List D5) (b:List Int) (c:List F3) (d:Int) (g:Bool):Option (((List D5)×(List Int)×(List F3)×Int)⊕((List D5)×(List Int)×(List F3))):=
 bif g then
  (H5 o.F9 d).bind fun i=>
  (A0P .i64 i).bind fun l=>
  (B0t (C9.mk a h.A8 h.M9 b ([]:List F3)) l).bind fun (e,m)=>
  bif m then
   (apL c [e]).bind fun n=>
   (J8 (d + 1)).bind fun j=>
   some (Sum.inl (a,b,n,j))
  else
   (J8 (d + 1)).bind fun k=>
   some (Sum.inl (a,b,c,k))
 else
  some (Sum.inr (a,b,c))
def A4S (h:R7) (g:Q7):((List D5)×(List Int)×(List F3)×Int)→Option (((List D5)×(List Int)×(List F3)×Int)⊕((List D5)×(List Int)×(List F3))):=fun (a,b,c,d)=>
 (
  bif decide (d < (h.F9.length:Int)) then
   some (decide (d < 12))
  else
   some false).bind fun e=>
 B0Z h g a b c d e
def B4K (j:R7) (h:Int) (d:List D5):Option (C9):=
 (
  (sbL j.A8 0 (min (j.A8.length:Int) h)).bind fun k=>
  (B2j k j.M9).bind fun l=>
  some l).bind fun i=>
 (V9 (j.M9.length:Int) 4).bind fun m=>
 (
  bif decide (0 < m) then
   (
    iter (A4X j i) FUEL (([]:List Int),0)).bind fun e=>
   some e
  else
   some ([]:List Int)).bind fun c=>
 (
  iter (A4S j i) FUEL (d,c,([]:List F3),0)).bind fun (a,b,g)=>
 some (C9.mk a i.A8 i.M9 b g)
def A1t (m:R7):((List D5)×Int×Int)→Option (((List D5)×Int×Int)⊕(Int×(List D5))):=fun (a,b,d)=>
 (
  bif decide (d < (m.C8.length:Int)) then
   some (decide (d < 3))
  else
   some false).bind fun k=>
 bif k then
  (H5 m.C8 d).bind fun g=>
  (A0P .i64 g).bind fun h=>
  (A2X d h).bind fun c=>
  (apL a [c]).bind fun l=>
  (A1z (D5.mk c.F7 c.Q4 c.fA c.fB ([]:List Int) c.fX c.fY)).bind fun i=>
  (J8 (b + i)).bind fun e=>
  (J8 (d + 1)).bind fun j=>
  some (Sum.inl (l,e,j))
 else
  some (Sum.inr (b,a))
def B0a (c:R7):Option (C9):=
 (
   iter (A1t c) FUEL (([]:List D5),0,0)).bind fun (b,a)=>
 B4K c b a
def B1x (o:C9) (c:Int) (b:Int):Option ((Int×Int)⊕Int):=
 (H5 o.C8 b).bind fun a=>
 bif decide (a.Q4=2) then
  (J8 (2 * a.fA)).bind fun g=>
  (J8 (g + a.fB)).bind fun e=>
  (J8 (c + e)).bind fun d=>
  (J8 (b + 1)).bind fun j=>
  some (Sum.inl (d,j))
 else
  bif decide (a.Q4=3) then
   (J8 (2 * a.fB)).bind fun k=>
   (J8 (a.fA + k)).bind fun h=>
   (J8 (c + h)).bind fun n=>
   (J8 (b + 1)).bind fun l=>
   some (Sum.inl (n,l))
  else
   (J8 (c + a.fA)).bind fun m=>
   (J8 (b + 1)).bind fun i=>
   some (Sum.inl (m,i))
def A2D (c:C9):(Int×Int)→Option ((Int×Int)⊕Int):=fun (b,a)=>
 bif decide (a < (c.C8.length:Int)) then
  B1x c b a
 else
  some (Sum.inr b)
def A7M (b:C9):Option (Int):=
 (
   iter (A2D b) FUEL (0,0)).bind fun a=>
 some a
def A6U (j:R7) (c:Int):(Int×Int)→Option ((Int×Int)⊕Int):=fun (b,a)=>
 bif decide (a < (j.A8.length:Int)) then
  bif decide (a < c) then
   (J8 (c - a)).bind fun d=>
   (J8 (b * d)).bind fun e=>
   bif decide (e≤800) then
    (J8 (c - a)).bind fun i=>
    (J8 (b * i)).bind fun g=>
    (J8 (a + 1)).bind fun h=>
    some (Sum.inl (g,h))
   else
    some (Sum.inr a)
  else
   some (Sum.inr a)
 else
  some (Sum.inr a)
def B0w (b:R7):Option (C9):=
 (sbL b.C8 0 (min (b.C8.length:Int) 2)).bind fun c=>
 (B0a (R7.mk c ([]:List Int) ([]:List Int) ([]:List Int))).bind fun d=>
 (A7M d).bind fun g=>
 (
   iter (A6U b g) FUEL (1,0)).bind fun a=>
 (sbL b.A8 0 a).bind fun e=>
 (B0a (R7.mk c e b.M9 b.F9)).bind fun h=>
 some h
def B0P (a:List F3):Option (C9):=
 some (C9.mk [(D5.mk (⟨#[114]⟩:ByteArray) 1 4 0 ([]:List Int) 0 0)] [(E8.mk (⟨#[97,110,110,97]⟩:ByteArray) (⟨#[]⟩:ByteArray) (⟨#[]⟩:ByteArray) 0 0 (⟨#[]⟩:ByteArray) false false ([]:List ByteArray)),(E8.mk (⟨#[98,111,114,105,115]⟩:ByteArray) (⟨#[]⟩:ByteArray) (⟨#[]⟩:ByteArray) 0 0 (⟨#[]⟩:ByteArray) false false ([]:List ByteArray)),(E8.mk (⟨#[99,97,114,108]⟩:ByteArray) (⟨#[]⟩:ByteArray) (⟨#[]⟩:ByteArray) 0 0 (⟨#[]⟩:ByteArray) false false ([]:List ByteArray))] ([]:List H7) ([]:List Int) a)
end Go.Dm
open Go Go.Sl
namespace Go.Dm
def A4A (e:ByteArray):Int→Option (Int⊕(Unit⊕Bool)):=fun c=>
 bif decide (c < (e.size:Int)) then
  (B8F e c).bind fun a=>
  bif decide (a < 97) then
   some (Sum.inr (Sum.inr false))
  else
   (B8F e c).bind fun b=>
   bif decide (122 < b) then
    some (Sum.inr (Sum.inr false))
   else
    (J8 (c + 1)).bind fun d=>
    some (Sum.inl d)
 else
  some (Sum.inr (Sum.inl ()))
def B4c (a:ByteArray):Option (Bool):=
 (
   iter (A4A a) FUEL 0).bind fun b=>match b with
 | .inl _u=>
   bif decide (1≤(a.size:Int)) then
     some (decide ((a.size:Int)≤12))
   else
     some false
 | .inr p=>
   some p
def B1E (c:Int) (b:Int):Option (Int):=
 (J8 (c + (min b 1))).bind fun a=>
 some a
def A3u (a:Int) (b:Int):Option (Int):=
 bif decide (a < 1) then
   some 0
 else
   bif decide (24 < a) then
     some 0
   else
     bif !decide (b=0) then
       some 0
     else
       some a
def A4k (a:Int) (b:Int):Option (Int):=
 bif decide (a < 1) then
   some 0
 else
   bif decide (11 < a) then
     some 0
   else
     bif decide (b < 0) then
       some 0
     else
       bif decide (2 < b) then
         some 0
       else
         (J8 (2 * a)).bind fun d=>
         (J8 (d + b)).bind fun c=>
         some c
def A4i (a:Int) (b:Int):Option (Int):=
 bif decide (a < 1) then
   some 0
 else
   bif decide (8 < a) then
     some 0
   else
     bif decide (b < 1) then
       some 0
     else
       bif decide (8 < b) then
         some 0
       else
         (J8 (2 * b)).bind fun d=>
         (J8 (a + d)).bind fun c=>
         some c
def A4V (a:Int) (b:Int):Option (Int):=
 bif decide (a < 1) then
   some 0
 else
   bif decide (24 < a) then
     some 0
   else
     bif decide (b < 0) then
       some 0
     else
       bif decide (a < b) then
         some 0
       else
         some a
def A2L (c:Int) (h:Int) (b:Int) (a:Int):Option (Bool):=
 (J8 (a - b)).bind fun e=>
 bif decide (e=1) then
   some true
 else
   (J8 (a - b)).bind fun g=>
   (J8 (c - 1)).bind fun d=>
   some (decide (g=d))
def A2O (a:Int) (h:Int) (c:Int) (b:Int):Option (Bool):=
 (V9 a 2).bind fun e=>
 bif decide (e=0) then
   (J8 (b - c)).bind fun g=>
   (A5G a 2).bind fun d=>
   some (decide (g=d))
 else
   some false
def A9X (i:Int) (k:Int) (a:Int) (b:Int) (l:Int) (e:Bool):Option (Bool):=
 bif e then
  (
   bif decide (a=0) then
    some true
   else
    (J8 (b - 1)).bind fun g=>
    some (decide (a=g))).bind fun h=>
  some h
 else
  (
   bif decide (0 < k) then
    bif decide (a=i) then
     some true
    else
     some (decide (b=i))
   else
    some false).bind fun c=>
  bif c then
   (J8 (b - a)).bind fun d=>
   some (decide (d=1))
  else
   (J8 (b - a)).bind fun j=>
   bif decide (j=1) then
    bif decide (b < i) then
     some true
    else
     some (decide (l≤a))
   else
    some false
def A3r (e:Int) (c:Int) (h:Int) (g:Int):Option (Bool):=
 (B1E e c).bind fun i=>
 (
   bif decide (c=2) then
     (J8 (2 * e)).bind fun b=>
     (J8 (b + 1)).bind fun a=>
     some (decide (g=a))
   else
     some false).bind fun d=>
 A9X e c h g i d
def A3n (a:Int) (j:Int) (i:Int) (k:Int):Option (Bool):=
 (
   bif decide (j=2) then
     (J8 (2 * a)).bind fun h=>
     (J8 (h + 1)).bind fun d=>
     some (decide (k=d))
   else
     some false).bind fun l=>
 bif l then
   some (decide (i=a))
 else
   bif decide (i < a) then
     (J8 (i + k)).bind fun c=>
     (B1E a j).bind fun g=>
     (J8 (g + a)).bind fun b=>
     (J8 (b - 1)).bind fun e=>
     some (decide (c=e))
   else
     some false
def A3j (a:Int) (b:Int):Option (Int):=
 bif decide (0 < b) then
   some a
 else
   (A5G a 2).bind fun c=>
   some c
def A3z (d:Int) (e:Int) (b:Int) (a:Int):Option (Bool):=
 (J8 (a - b)).bind fun c=>
 some (decide (c=1))
def A3s (h:Int) (a:Int) (b:Int) (d:Int):Option (Bool):=
 bif decide (b < a) then
   (J8 (b + d)).bind fun c=>
   (J8 (2 * a)).bind fun i=>
   (J8 (h + i)).bind fun g=>
   (J8 (g - 1)).bind fun e=>
   some (decide (c=e))
 else
   some false
def A3T (g:Int) (b:Int) (c:Int) (a:Int):Option (Bool):=
 (J8 (a - c)).bind fun e=>
 bif decide (e=1) then
   bif decide (b=0) then
     some true
   else
     (V9 a b).bind fun d=>
     some (!decide (d=0))
 else
   some false
def A6b (a:Int):Option (Int):=
 some a
def B7W (b:Int) (a:Int):Option (Int):=
 some 0
def B4q (c:Int) (b:Int):Option (Int):=
 (A5G c 2).bind fun a=>
 (J8 (b + a)).bind fun d=>
 some d
def B7T (d:Int) (a:Int) (c:Int) (b:Int):Option (Bool):=
 some false
def B3X (b:Int) (c:Int):Option (Int):=
 (A5G b 2).bind fun a=>
 some a
def A7v (a:Int) (c:Int) (b:Int):Option (Int):=
 (J8 (a + c)).bind fun e=>
 (V9 e b).bind fun d=>
 some d
def A7y (b:Int) (d:Int) (a:Int):Option (Int):=
 (J8 (d - b)).bind fun g=>
 (J8 (g + a)).bind fun e=>
 (V9 e a).bind fun c=>
 some c
def B0b (e:Int):((List (Int→Option Int))×Int)→Option (((List (Int→Option Int))×Int)⊕(List (Int→Option Int))):=fun (a,b)=>
 bif decide (b < e) then
  (apL a [(fun c=>A7v c b e),(fun c=>A7y c b e)]).bind fun g=>
  (J8 (b + 1)).bind fun d=>
  some (Sum.inl (g,d))
 else
  some (Sum.inr a)
def A8C (b:Int) (c:Int):Option (List (Int→Option Int)):=
 (
   iter (B0b b) FUEL (([]:List (Int→Option Int)),0)).bind fun a=>
 some a
def R6 (a:Int) (d:Int) (c:Int):Option (Bool):=
 bif decide (0 < d) then
   bif decide (a=c) then
     some true
   else
     bif decide (d=2) then
       (J8 (2 * c)).bind fun h=>
       (J8 (h + 1)).bind fun g=>
       some (decide (a=g))
     else
       some false
 else
   bif decide (d=2) then
     (J8 (2 * c)).bind fun b=>
     (J8 (b + 1)).bind fun e=>
     some (decide (a=e))
   else
     some false
def A1j (a:Int) (g:Int→Option Bool) (h:Int) (e:Int):Option (Int):=
 (g a).bind fun i=>
 bif i then
   some a
 else
   (J8 (h + e)).bind fun d=>
   (J8 (d - 1)).bind fun c=>
   (J8 (c - a)).bind fun b=>
   some b
def A1V (a:Int) (o:Int→Option Bool) (b:Int) (n:Int):Option (Int):=
 (o a).bind fun m=>
 bif m then
   (J8 (3 * b)).bind fun j=>
   (J8 (j + 1)).bind fun i=>
   (J8 (i - a)).bind fun d=>
   some d
 else
   bif decide (a < b) then
     (J8 (b - 1)).bind fun e=>
     (J8 (e - a)).bind fun g=>
     some g
   else
     (J8 (2 * n)).bind fun l=>
     (J8 (l + b)).bind fun k=>
     (J8 (k - 1)).bind fun h=>
     (J8 (h - a)).bind fun c=>
     some c
def A8D (b:Int) (c:Int→Option Int) (e:Int→Option Int):Option (Int):=
 (e b).bind fun d=>
 (c d).bind fun a=>
 some a
def A9H (b:Int) (d:Int):Option (List (Int→Option Int)):=
 (B1E b d).bind fun c=>
 bif !decide (d=1) then
   (apL [A6b,(fun a=>A1j a (fun a=>R6 a d b) c b)] [(fun a=>A1V a (fun a=>R6 a d b) b c),(fun a=>A8D a (fun a=>A1j a (fun a=>R6 a d b) c b) (fun a=>A1V a (fun a=>R6 a d b) b c))]).bind fun e=>
   some e
 else
   some [A6b,(fun a=>A1j a (fun a=>R6 a d b) c b)]
def A8H (a:Int) (d:Int) (c:Int):Option (Int):=
 (J8 (2 * c)).bind fun g=>
 (J8 (d + g)).bind fun e=>
 (J8 (e - 1)).bind fun b=>
 (J8 (b - a)).bind fun h=>
 some h
def B0i (c:Int) (b:Int):Option (List (Int→Option Int)):=
 some [A6b,(fun a=>A8H a c b)]
def A9u (c:Int) (b:Int):Option (Int):=
 (J8 (b - 1)).bind fun a=>
 (J8 (a - c)).bind fun d=>
 some d
def B1h (b:Int) (c:Int):Option (List (Int→Option Int)):=
 some [A6b,(fun a=>A9u a b)]
def B1o (a:Int):Option (A1n×Bool):=
 bif decide (a=3) then
  some ((A1n.mk (⟨#[104,111,114,115,101,115,104,111,101]⟩:ByteArray) A4i A3z A3s B4q B0i),true)
 else
  bif decide (a=4) then
   some ((A1n.mk (⟨#[114,111,119]⟩:ByteArray) A4V A3T B7T B3X B1h),true)
  else
   some ((A1n.mk (⟨#[]⟩:ByteArray) (fun _ _=>none) (fun _ _ _ _=>none) (fun _ _ _ _=>none) (fun _ _=>none) (fun _ _=>none)),false)
def Y0 (a:Int):Option (A1n×Bool):=
 bif decide (a=1) then
   some ((A1n.mk (⟨#[114,111,117,110,100]⟩:ByteArray) A3u A2L A2O B7W A8C),true)
 else
   bif decide (a=2) then
     some ((A1n.mk (⟨#[108,111,110,103]⟩:ByteArray) A4k A3r A3n A3j A9H),true)
   else
     B1o a
def A2F (a:D5):Option (Int):=
 (Y0 a.Q4).bind fun (c,d)=>
 bif !d then
   some 0
 else
   (c.C5v a.fA a.fB).bind fun b=>
   some b
def A4f (a:D5) (e:Int) (c:Int):Option (Bool):=
 (Y0 a.Q4).bind fun (b,g)=>
 bif !decide (e=c) then
   (b.Y5 a.fA a.fB (min e c) (max e c)).bind fun d=>
   some d
 else
   some false
def A3S (a:D5) (e:Int) (c:Int):Option (Bool):=
 (Y0 a.Q4).bind fun (b,g)=>
 bif !decide (e=c) then
   (b.A0D a.fA a.fB (min e c) (max e c)).bind fun d=>
   some d
 else
   some false
def B4h (c:D5) (e:Int) (d:Int):Option (Bool):=
 (A4f c e d).bind fun b=>
 bif b then
   some true
 else
   (A3S c e d).bind fun a=>
   some a
def B4X (p:D5) (e:Int) (c:List Int) (a:Int) (b:List Int):Option (((List Int)×Int×(List Int))⊕((List Int)×(List Int))):=
 (H5 c a).bind fun m=>
 (
  bif decide (m < 0) then
   (B4h p e a).bind fun i=>
   some i
  else
   some false).bind fun j=>
 bif j then
  (H5 c e).bind fun d=>
  (J8 (d + 1)).bind fun g=>
  (H5 c a).bind fun o=>
  (some (List.set c a.toNat g)).bind fun k=>
  (apL b [a]).bind fun n=>
  (J8 (a + 1)).bind fun l=>
  some (Sum.inl (k,l,n))
 else
  (J8 (a + 1)).bind fun h=>
  some (Sum.inl (c,h,b))
def A7W (g:D5) (d:List Int) (e:Int):((List Int)×Int×(List Int))→Option (((List Int)×Int×(List Int))⊕((List Int)×(List Int))):=fun (b,c,a)=>
 bif decide (c < (d.length:Int)) then
  B4X g e b c a
 else
  some (Sum.inr (b,a))
def A7z (h:D5):((List Int)×(List Int))→Option (((List Int)×(List Int))⊕(List Int)):=fun (b,a)=>
 bif decide (0 < (a.length:Int)) then
  (H5 a 0).bind fun g=>
  (sbL a 1 (a.length:Int)).bind fun e=>
  (
   iter (A7W h b g) FUEL (b,0,e)).bind fun (d,c)=>
  some (Sum.inl (d,c))
 else
  some (Sum.inr b)
def A3A (c:List Int):(Int×(List Int))→Option ((Int×(List Int))⊕(List Int)):=fun (b,a)=>
 bif decide (b < (c.length:Int)) then
  (H5 a b).bind fun g=>
  (some (List.set a b.toNat (-1))).bind fun d=>
  (J8 (b + 1)).bind fun e=>
  some (Sum.inl (e,d))
 else
  some (Sum.inr a)
def B1O (g:D5) (a:Int):Option (List Int):=
 (A2F g).bind fun h=>
 (mkL h 0).bind fun d=>
 (
   iter (A3A d) FUEL (0,d)).bind fun b=>
 (H5 b a).bind fun i=>
 (some (List.set b a.toNat 0)).bind fun e=>
 (
   iter (A7z g) FUEL (e,[a])).bind fun c=>
 some c
def A6V (g:List Int):((List Int)×Int)→Option (((List Int)×Int)⊕(List Int)):=fun (a,b)=>
 bif decide (b < (g.length:Int)) then
  (H5 a b).bind fun c=>
  bif decide (c < 0) then
   (H5 a b).bind fun i=>
   (some (List.set a b.toNat (a.length:Int))).bind fun d=>
   (J8 (b + 1)).bind fun h=>
   some (Sum.inl (d,h))
  else
   (J8 (b + 1)).bind fun e=>
   some (Sum.inl (a,e))
 else
  some (Sum.inr a)
def A4h (b:D5):Option (List Int):=
 (Y0 b.Q4).bind fun (e,g)=>
 (e.B9f b.fA b.fB).bind fun d=>
 (B1O b d).bind fun a=>
 (
   iter (A6V a) FUEL (a,0)).bind fun c=>
 some c
def A1q (e:D5) (g:Int):(Int×Int)→Option ((Int×Int)⊕(Unit⊕Int)):=fun (c,a)=>
 bif decide (c < (e.A2M.length:Int)) then
  (H5 e.A2M c).bind fun b=>
  bif decide (b≤a) then
   some (Sum.inr (Sum.inr 11))
  else
   bif decide (g≤b) then
    some (Sum.inr (Sum.inr 11))
   else
    (J8 (c + 1)).bind fun d=>
    some (Sum.inl (d,b))
 else
  some (Sum.inr (Sum.inl ()))
def B5h (a:D5) (c:Int):Option (Int):=
 bif decide (c=0) then
  some 10
 else
  (
   iter (A1q a c) FUEL (0,(-1))).bind fun b=>match b with
  | .inl _u=>
   bif decide (a.fX < 0) then
    some 2
   else
    bif decide (1000 < a.fX) then
     some 2
    else
     bif decide (a.fY < 0) then
      some 2
     else
      bif decide (1000 < a.fY) then
       some 2
      else
       some 0
  | .inr p=>
   some p
def A5I (b:D5):Option (Int):=
 (A2F b).bind fun c=>
 (B4c b.F7).bind fun a=>
 bif !a then
   some 4
 else
   B5h b c
def A6I (a:D5) (b:D5):Option (Bool):=
 some (decide (a.F7=b.F7))
def A4t (g:List D5):Int→Option (Int⊕(Unit⊕(Int×Int))):=fun a=>
 bif decide (a < (g.length:Int)) then
  (H5 g a).bind fun b=>
  (A5I b).bind fun c=>
  bif !decide (c=0) then
   some (Sum.inr (Sum.inr (a,c)))
  else
   (sbL g 0 a).bind fun h=>
   (A4b h (fun i=>A6I i b)).bind fun e=>
   bif e then
    some (Sum.inr (Sum.inr (a,5)))
   else
    (J8 (a + 1)).bind fun d=>
    some (Sum.inl d)
 else
  some (Sum.inr (Sum.inl ()))
def A5u (a:List D5):Option (Int×Int):=
 bif decide (16 < (a.length:Int)) then
   some (0,7)
 else
   (
     iter (A4t a) FUEL 0).bind fun b=>match b with
   | .inl _u=>
     some (0,0)
   | .inr p=>
     some p
def B1R (a:D5) (b:ByteArray):Option (Bool):=
 some (decide (a.F7=b))
def A3f (a:List D5):Option (Bool):=
 (A5u a).bind fun (c,b)=>
 some (decide (b=0))
def A3G (c:List D5):(Int×Int)→Option ((Int×Int)⊕Int):=fun (a,b)=>
 bif decide (a < (c.length:Int)) then
  (H5 c a).bind fun h=>
  (A2F h).bind fun g=>
  (J8 (b + g)).bind fun e=>
  (J8 (a + 1)).bind fun d=>
  some (Sum.inl (d,e))
 else
  some (Sum.inr b)
def A2o (b:List D5) (c:Int):Option (Int):=
 (
   bif decide (c < 0) then
     some true
   else
     bif decide ((b.length:Int)≤c) then
       some true
     else
       (A3f b).bind fun g=>
       some (!g)).bind fun e=>
 bif e then
   some 0
 else
   (sbL b 0 c).bind fun d=>
   (
     iter (A3G d) FUEL (0,0)).bind fun a=>
   some a
def A7T (a:List D5):Option (Int):=
 bif decide ((a.length:Int)=0) then
   some 0
 else
   (J8 ((a.length:Int) - 1)).bind fun b=>
   (H5 a b).bind fun d=>
   (A2F d).bind fun c=>
   some c
def A2r (a:List D5):Option (Int):=
 (A3f a).bind fun g=>
 bif !g then
   some 0
 else
   (J8 ((a.length:Int) - 1)).bind fun c=>
   (A2o a c).bind fun e=>
   (A7T a).bind fun b=>
   (J8 (e + b)).bind fun d=>
   some d
def A3J (h:List D5):(Int×Int)→Option ((Int×Int)⊕(Unit⊕(Int×Int×Bool))):=fun (a,b)=>
 bif decide (b < (h.length:Int)) then
  (H5 h b).bind fun g=>
  (A2F g).bind fun c=>
  bif decide (a < c) then
   some (Sum.inr (Sum.inr (b,a,true)))
  else
   (J8 (a - c)).bind fun d=>
   (J8 (b + 1)).bind fun e=>
   some (Sum.inl (d,e))
 else
  some (Sum.inr (Sum.inl ()))
def A3a (c:List D5) (a:Int):Option (Int×Int×Bool):=
 (
   bif decide (a < 0) then
     some true
   else
     (A3f c).bind fun e=>
     some (!e)).bind fun d=>
 bif d then
   some (0,0,false)
 else
   (
     iter (A3J c) FUEL (a,0)).bind fun b=>match b with
   | .inl _u=>
     some (0,0,false)
   | .inr p=>
     some p
def B3W (d:List D5) (a:ByteArray):Option (Int×Bool):=
 (A2g d (fun e=>B1R e a)).bind fun b=>
 bif decide (b < 0) then
   some (0,false)
 else
   (A3f d).bind fun c=>
   bif !c then
     some (0,false)
   else
     some (b,true)
def B1N (b:D5):Option (Int):=
 (A5I b).bind fun c=>
 bif !decide (c=0) then
   some 0
 else
   (A2F b).bind fun a=>
   some a
def B4j (c:List D5) (e:Int):Option (Bool):=
 (A3a c e).bind fun (d,h,g)=>
 bif g then
   (H5 c d).bind fun b=>
   (A0Z b.A2M h).bind fun a=>
   some a
 else
   some false
def B1Q (d:List D5) (g:Int):Option (Int):=
 (A3a d g).bind fun (e,i,h)=>
 bif !h then
   some 0
 else
   (H5 d e).bind fun b=>
   (A4h b).bind fun a=>
   (H5 a i).bind fun c=>
   some c
def A9o (a:List D5) (i:Int) (j:Int):Option (D5×Int×Int×Bool):=
 (A3a a i).bind fun (h,k,l)=>
 (A3a a j).bind fun (e,c,b)=>
 (
   bif !l then
     some true
   else
     bif !b then
       some true
     else
       some (!decide (h=e))).bind fun g=>
 bif g then
   some ((D5.mk (⟨#[]⟩:ByteArray) 0 0 0 ([]:List Int) 0 0),0,0,false)
 else
   (H5 a h).bind fun d=>
   some (d,k,c,true)
def B0r (e:List D5) (c:Int) (d:Int):Option (Bool):=
 (A9o e c d).bind fun (h,g,b,i)=>
 bif i then
   (A4f h g b).bind fun a=>
   some a
 else
   some false
def B0H (e:List D5) (c:Int) (d:Int):Option (Bool):=
 (A9o e c d).bind fun (h,g,b,i)=>
 bif i then
   (A3S h g b).bind fun a=>
   some a
 else
   some false
end Go.Dm
open Go Go.Sl
namespace Go.Dm
def B0X (d:ByteArray):Int→Option (Int⊕(Unit⊕Bool)):=fun a=>
 bif decide (a < (d.size:Int)) then
  (B8F d a).bind fun c=>
  bif decide (c < 97) then
   some (Sum.inr (Sum.inr false))
  else
   (B8F d a).bind fun b=>
   bif decide (122 < b) then
    some (Sum.inr (Sum.inr false))
   else
    (J8 (a + 1)).bind fun e=>
    some (Sum.inl e)
 else
  some (Sum.inr (Sum.inl ()))
def A7o (b:ByteArray):Option (Bool):=
 (
   bif decide ((b.size:Int)=0) then
     some true
   else
     some (decide (12 < (b.size:Int)))).bind fun c=>
 bif c then
   some false
 else
   (
     iter (B0X b) FUEL 0).bind fun a=>match a with
   | .inl _u=>
     some true
   | .inr p=>
     some p
def A7x (a:ByteArray):Option (Bool):=
 bif decide (a=(⟨#[]⟩:ByteArray)) then
   some true
 else
   (A7o a).bind fun b=>
   some b
def B3N (i:E8) (a:Int):Option (Int⊕(Unit⊕Int)):=
 (H5 i.O4 a).bind fun b=>
 (A7o b).bind fun e=>
 bif !e then
  some (Sum.inr (Sum.inr 22))
 else
  bif decide (0 < a) then
   (J8 (a - 1)).bind fun g=>
   (H5 i.O4 g).bind fun h=>
   bif !sLt h b then
    some (Sum.inr (Sum.inr 22))
   else
    (J8 (a + 1)).bind fun c=>
    some (Sum.inl c)
  else
   (J8 (a + 1)).bind fun d=>
   some (Sum.inl d)
def A3V (b:E8):Int→Option (Int⊕(Unit⊕Int)):=fun a=>
 bif decide (a < (b.O4.length:Int)) then
  B3N b a
 else
  some (Sum.inr (Sum.inl ()))
def B3a (a:E8):Option (Int):=
 (
  bif decide (a.A0h < 0) then
   some true
  else
   some (decide (9999 < a.A0h))).bind fun c=>
 bif c then
  some 21
 else
  (
   bif decide (a.A0r < 0) then
    some true
   else
    some (decide (2 < a.A0r))).bind fun d=>
  bif d then
   some 20
  else
   bif decide (4 < (a.O4.length:Int)) then
    some 22
   else
    (
     iter (A3V a) FUEL 0).bind fun b=>match b with
    | .inl _u=>
     some 0
    | .inr p=>
     some p
def B0G (a:E8):Option (Int):=
 (
   (A7o a.F7).bind fun g=>
   bif !g then
     some true
   else
     (A7x a.A1S).bind fun d=>
     bif !d then
       some true
     else
       (A7x a.W9).bind fun b=>
       bif !b then
         some true
       else
         (A7x a.A0t).bind fun c=>
         some (!c)).bind fun e=>
 bif e then
   some 4
 else
   B3a a
def A8W (a:E8):Option (E8):=
 (A4e a.O4).bind fun b=>
 some (E8.mk a.F7 a.A1S a.W9 a.A0h a.A0r a.A0t a.A0s a.Y6 b)
def bytealg_CompareString (b:ByteArray) (a:ByteArray):Option (Int):=
 some (B8W b a)
def strings_Compare (c:ByteArray) (b:ByteArray):Option (Int):=
 (bytealg_CompareString c b).bind fun a=>
 some a
def A1f (d:H7) (c:H7):Option (Int):=
 (strings_Compare d.fA c.fA).bind fun a=>
 bif !decide (a=0) then
   some a
 else
   (strings_Compare d.fB c.fB).bind fun b=>
   some b
def A7q (b:ByteArray) (a:ByteArray) (c:Int):Option (H7):=
 some (H7.mk (minS b a) (maxS b a) c)
def B4d  : Option (L6):=
 some (L6.mk (U0.mk ([]:List E8) ([]:List H7)) ([]:List (ByteArray×Int)))
def A4y (a:L6):Option (Bool):=
 some false
def A0X (m:List H7) (a:H7) (e:H7→H7→Option Int):(Int×Int)→Option ((Int×Int)⊕Int):=fun (c,b)=>
 bif decide (b < c) then
  (J8 (b + c)).bind fun j=>
  (A0P .u64 j).bind fun h=>
  (A3P .u64 h 1).bind fun l=>
  (A0P .i64 l).bind fun d=>
  (H5 m d).bind fun i=>
  (e i a).bind fun k=>
  bif decide (k < 0) then
   (J8 (d + 1)).bind fun g=>
   some (Sum.inl (c,g))
  else
   some (Sum.inl (d,b))
 else
  some (Sum.inr b)
def B1H (d:List H7) (a:H7) (c:H7→H7→Option Int):Option (Int×Bool):=
 (
   iter (A0X d a c) FUEL ((d.length:Int),0)).bind fun b=>
 bif decide (b < (d.length:Int)) then
   (H5 d b).bind fun e=>
   (c e a).bind fun g=>
   some (b,decide (g=0))
 else
   some (b,false)
def B7l (a:List H7) (c:Int) (b:List H7):Option (List H7):=
 (bdV c (a.length:Int) (a.length:Int)).bind fun g=>
 bif decide ((b.length:Int)=0) then
   some a
 else
   bif decide (c=(a.length:Int)) then
     (apL a b).bind fun e=>
     some e
   else
     (J8 ((a.length:Int) + (b.length:Int))).bind fun d=>
     none
def A2t (g:L6) (b:ByteArray) (a:ByteArray):Option (Int×Bool):=
 (A7q b a 0).bind fun c=>
 (B1H g.K6.A0E c A1f).bind fun (d,e)=>
 some (d,e)
def B8z (a:L6) (e:E8):Option (Int×L6):=
 (lkM a.fat e.F7 0).bind fun (h,b)=>
 bif b then
  some (5,(L6.mk (U0.mk a.K6.V6 a.K6.A0E) a.fat))
 else
  bif decide ((a.K6.V6.length:Int)=64) then
   some (7,(L6.mk (U0.mk a.K6.V6 a.K6.A0E) a.fat))
  else
   (some (A2q a.fat e.F7 (a.K6.V6.length:Int))).bind fun c=>
   (A8W e).bind fun g=>
   (apL a.K6.V6 [g]).bind fun d=>
   some (0,(L6.mk (U0.mk d a.K6.A0E) c))
def C0H (a:L6) (d:E8):Option (Int×L6):=
 (A4y (L6.mk (U0.mk a.K6.V6 a.K6.A0E) a.fat)).bind fun c=>
 bif c then
   some (1,(L6.mk (U0.mk a.K6.V6 a.K6.A0E) a.fat))
 else
   (B0G d).bind fun b=>
   bif !decide (b=0) then
     some (b,(L6.mk (U0.mk a.K6.V6 a.K6.A0E) a.fat))
   else
     B8z a d
def A6k (b:L6) (c:ByteArray) (a:ByteArray) (d:Int):Option (Int×L6):=
 (A2t (L6.mk (U0.mk b.K6.V6 b.K6.A0E) b.fat) c a).bind fun (h,i)=>
 bif i then
  some (5,(L6.mk (U0.mk b.K6.V6 b.K6.A0E) b.fat))
 else
  bif decide ((b.K6.A0E.length:Int)=256) then
   some (7,(L6.mk (U0.mk b.K6.V6 b.K6.A0E) b.fat))
  else
   (A7q c a d).bind fun g=>
   (B7l b.K6.A0E h [g]).bind fun e=>
   some (0,(L6.mk (U0.mk b.K6.V6 e) b.fat))
def A8q (e:L6) (b:ByteArray) (a:ByteArray):Int→Option (Int⊕(Unit⊕(Int×L6))):=fun c=>
 bif decide (c < ([b,a].length:Int)) then
  (H5 [b,a] c).bind fun h=>
  (lkM e.fat h 0).bind fun (i,d)=>
  bif !d then
   some (Sum.inr (Sum.inr (6,(L6.mk (U0.mk e.K6.V6 e.K6.A0E) e.fat))))
  else
   (J8 (c + 1)).bind fun g=>
   some (Sum.inl g)
 else
  some (Sum.inr (Sum.inl ()))
def B6j (d:L6) (c:ByteArray) (a:ByteArray) (b:Int):Option (Int×L6):=
 (A4y (L6.mk (U0.mk d.K6.V6 d.K6.A0E) d.fat)).bind fun g=>
 bif g then
   some (1,(L6.mk (U0.mk d.K6.V6 d.K6.A0E) d.fat))
 else
   (
     bif !decide (b=1) then
       bif !decide (b=2) then
         some true
       else
         some (decide (c=a))
     else
       some (decide (c=a))).bind fun h=>
   bif h then
     some (23,(L6.mk (U0.mk d.K6.V6 d.K6.A0E) d.fat))
   else
     (
       iter (A8q d c a) FUEL 0).bind fun e=>match e with
     | .inl _u=>
       A6k d c a b
     | .inr p=>
       some p
def B5g (n:Q7) (a:List E8) (b:List H7) (d:List (ByteArray×Int)) (c:Int) (g:H7) (m:Bool):Option (((List E8)×(List H7)×(List (ByteArray×Int))×Int)⊕(((List E8)×(List H7)×(List (ByteArray×Int)))⊕((Option L6)×Int×Int))):=
 bif m then
  (B6j (L6.mk (U0.mk a b) d) g.fA g.fB g.H6).bind fun (h,e)=>
  bif !decide (h=0) then
   (J8 ((n.A8.length:Int) + c)).bind fun i=>
   some (Sum.inr (Sum.inr ((none),i,h)))
  else
   (J8 (c + 1)).bind fun j=>
   some (Sum.inl (e.K6.V6,e.K6.A0E,e.fat,j))
 else
  bif !decide (23=0) then
   (J8 ((n.A8.length:Int) + c)).bind fun k=>
   some (Sum.inr (Sum.inr ((none),k,23)))
  else
   (J8 (c + 1)).bind fun l=>
   some (Sum.inl (a,b,d,l))
def A2y (k:Q7):((List E8)×(List H7)×(List (ByteArray×Int))×Int)→Option (((List E8)×(List H7)×(List (ByteArray×Int))×Int)⊕(((List E8)×(List H7)×(List (ByteArray×Int)))⊕((Option L6)×Int×Int))):=fun (a,c,e,b)=>
 bif decide (b < (k.M9.length:Int)) then
  (H5 k.M9 b).bind fun d=>
  (
   bif sLt d.fA d.fB then
    bif decide (b=0) then
     some true
    else
     (J8 (b - 1)).bind fun g=>
     (H5 k.M9 g).bind fun h=>
     (A1f h d).bind fun i=>
     some (decide (i≤0))
   else
    some false).bind fun j=>
  B5g k a c e b d j
 else
  some (Sum.inr (Sum.inl (a,c,e)))
def A2x (j:Q7):((List E8)×(List H7)×(List (ByteArray×Int))×Int)→Option (((List E8)×(List H7)×(List (ByteArray×Int))×Int)⊕(((List E8)×(List H7)×(List (ByteArray×Int)))⊕((Option L6)×Int×Int))):=fun (a,b,d,c)=>
 bif decide (c < (j.A8.length:Int)) then
  (H5 j.A8 c).bind fun i=>
  (C0H (L6.mk (U0.mk a b) d) i).bind fun (h,e)=>
  bif !decide (h=0) then
   some (Sum.inr (Sum.inr ((none),c,h)))
  else
   (J8 (c + 1)).bind fun g=>
   some (Sum.inl (e.K6.V6,e.K6.A0E,e.fat,g))
 else
  some (Sum.inr (Sum.inl (a,b,d)))
def A7t (d:Q7):Option ((Option L6)×Int×Int):=
 B4d.bind fun a=>
 (
   iter (A2x d) FUEL (a.K6.V6,a.K6.A0E,a.fat,0)).bind fun c=>match c with
 | .inl (guests49,ties54,at59)=>
   (
     iter (A2y d) FUEL (guests49,ties54,at59,0)).bind fun b=>match b with
   | .inl (guests124,ties129,at134)=>
     some ((some (L6.mk (U0.mk guests124 ties129) at134)),0,0)
   | .inr p=>
     some p
 | .inr p=>
   some p
def A5A (d:Q7):Option (Int×Int):=
 (A7t d).bind fun (c,a,b)=>
 some (a,b)
end Go.Dm
open Go Go.Sl
namespace Go.Dm
def B0V (a:E8):Option (E8):=
 (A4e a.O4).bind fun b=>
 some (E8.mk a.F7 a.A1S a.W9 a.A0h a.A0r a.A0t a.A0s a.Y6 b)
def B1v (g:L6) (b:ByteArray):Option (E8×Bool):=
 (A4y g).bind fun h=>
 bif h then
   some ((E8.mk (⟨#[]⟩:ByteArray) (⟨#[]⟩:ByteArray) (⟨#[]⟩:ByteArray) 0 0 (⟨#[]⟩:ByteArray) false false ([]:List ByteArray)),false)
 else
   (lkM g.fat b 0).bind fun (e,c)=>
   bif !c then
     some ((E8.mk (⟨#[]⟩:ByteArray) (⟨#[]⟩:ByteArray) (⟨#[]⟩:ByteArray) 0 0 (⟨#[]⟩:ByteArray) false false ([]:List ByteArray)),false)
   else
     (H5 g.K6.V6 e).bind fun d=>
     (B0V d).bind fun a=>
     some ((E8.mk a.F7 a.A1S a.W9 a.A0h a.A0r a.A0t a.A0s a.Y6 a.O4),true)
def A4z (b:ByteArray) (a:E8):Option (Bool):=
 (A6K a.O4 b).bind fun c=>
 some (!c)
def B0m (g:L6) (c:ByteArray) (b:ByteArray):Option (List ByteArray):=
 (B1v g c).bind fun (h,j)=>
 (B1v g b).bind fun (a,e)=>
 bif !j then
   some ([]:List ByteArray)
 else
   bif !e then
     some ([]:List ByteArray)
   else
     (A2N h.O4 (fun i=>A4z i (E8.mk a.F7 a.A1S a.W9 a.A0h a.A0r a.A0t a.A0s a.Y6 a.O4))).bind fun d=>
     some d
def B4n (e:L6) (b:ByteArray) (a:ByteArray):Option (Int×Bool):=
 (A4y e).bind fun h=>
 bif h then
   some (0,false)
 else
   (A2t e b a).bind fun (c,g)=>
   bif !g then
     some (0,false)
   else
     (H5 e.K6.A0E c).bind fun d=>
     some (d.H6,true)
end Go.Dm
open Go Go.Sl
namespace Go.Dm
def B7j (d:ByteArray):Int→Option (Int⊕(Unit⊕Bool)):=fun a=>
 bif decide (a < (d.size:Int)) then
  (B8F d a).bind fun c=>
  bif decide (c < 97) then
   some (Sum.inr (Sum.inr false))
  else
   (B8F d a).bind fun b=>
   bif decide (122 < b) then
    some (Sum.inr (Sum.inr false))
   else
    (J8 (a + 1)).bind fun e=>
    some (Sum.inl e)
 else
  some (Sum.inr (Sum.inl ()))
def A9k (b:ByteArray):Option (Bool):=
 (
   bif decide ((b.size:Int)=0) then
     some true
   else
     some (decide (12 < (b.size:Int)))).bind fun c=>
 bif c then
   some false
 else
   (
     iter (B7j b) FUEL 0).bind fun a=>match a with
   | .inl _u=>
     some true
   | .inr p=>
     some p
def B1P (a:E8) (b:ByteArray):Option (Bool):=
 some (decide (a.F7=b))
def A0O (d:C9) (a:ByteArray):Option (Int):=
 (A3L d.A8 (fun c=>B1P c a)).bind fun b=>
 some b
def A8e (c:Int) (k:Int) (h:Int→Option Bool):((List Int)×Int)→Option (((List Int)×Int)⊕(List Int)):=fun (a,b)=>
 (J8 (c + k)).bind fun g=>
 bif decide (b < g) then
  (h b).bind fun e=>
  bif e then
   (apL a [b]).bind fun i=>
   (J8 (b + 1)).bind fun j=>
   some (Sum.inl (i,j))
  else
   (J8 (b + 1)).bind fun d=>
   some (Sum.inl (a,d))
 else
  some (Sum.inr a)
def A9s (a:Int) (d:Int) (c:Int→Option Bool):Option (List Int):=
 (
   iter (A8e a d c) FUEL (([]:List Int),a)).bind fun b=>
 some b
def A2Q (i:List E8):((List E8)×Int)→Option (((List E8)×Int)⊕(List E8)):=fun (a,c)=>
 bif decide (c < (i.length:Int)) then
  (H5 a c).bind fun g=>
  (A4e g.O4).bind fun h=>
  (H5 a c).bind fun b=>
  (some (List.set a c.toNat (E8.mk b.F7 b.A1S b.W9 b.A0h b.A0r b.A0t b.A0s b.Y6 h))).bind fun e=>
  (J8 (c + 1)).bind fun d=>
  some (Sum.inl (e,d))
 else
  some (Sum.inr a)
def A2P (i:List D5):((List D5)×Int)→Option (((List D5)×Int)⊕(List D5)):=fun (a,c)=>
 bif decide (c < (i.length:Int)) then
  (H5 a c).bind fun h=>
  (A0Y h.A2M).bind fun d=>
  (H5 a c).bind fun b=>
  (some (List.set a c.toNat (D5.mk b.F7 b.Q4 b.fA b.fB d b.fX b.fY))).bind fun g=>
  (J8 (c + 1)).bind fun e=>
  some (Sum.inl (g,e))
 else
  some (Sum.inr a)
def A5W (e:C9):Option (C9):=
 (A7B e.C8).bind fun i=>
 (
   iter (A2P i) FUEL (i,0)).bind fun a=>
 (A8a e.A8).bind fun g=>
 (
   iter (A2Q g) FUEL (g,0)).bind fun b=>
 (B0z e.M9).bind fun d=>
 (A0Y e.R8).bind fun c=>
 (A8Y e.F9).bind fun h=>
 some (C9.mk a b d c h)
def A6a (c:F6) (g:F3):Option (Int×Int×Bool):=
 (A0O c.G5.P6 g.fA).bind fun a=>
 (A0O c.G5.P6 g.fB).bind fun b=>
 (H5 c.R5 a).bind fun e=>
 bif decide (0≤e) then
   (H5 c.R5 b).bind fun d=>
   some (a,b,decide (0≤d))
 else
   some (a,b,false)
def B3c (d:F6) (h:Int) (i:Int):Option (Int×Bool):=
 (H5 d.R5 h).bind fun c=>
 (H5 d.G5.A2E c).bind fun b=>
 (H5 d.R5 i).bind fun g=>
 (lkM b g 0).bind fun (e,a)=>
 some (e,a)
def A4P (g:F6) (h:Int) (b:List Int):Int→Option (Int⊕(Unit⊕Bool)):=fun a=>
 bif decide (a < (b.length:Int)) then
  (H5 b a).bind fun d=>
  (H5 g.R5 h).bind fun e=>
  bif decide (d=e) then
   some (Sum.inr (Sum.inr true))
  else
   (J8 (a + 1)).bind fun c=>
   some (Sum.inl c)
 else
  some (Sum.inr (Sum.inl ()))
def A1B (d:F6) (h:List (List Int)) (e:Int) (g:Int):Option (Bool):=
 (H5 d.R5 e).bind fun a=>
 (H5 h a).bind fun c=>
 (
   iter (A4P d g c) FUEL 0).bind fun b=>match b with
 | .inl _u=>
   some false
 | .inr p=>
   some p
def A5Q (a:F6) (e:Int) (d:Int):Option (Bool):=
 (A1B a a.G5.Y5 e d).bind fun c=>
 bif c then
   some true
 else
   (A1B a a.G5.A0D e d).bind fun b=>
   some b
def A4l (c:F6) (d:F3) (e:Int):Option (Bool):=
 bif decide (d.J2=(⟨#[]⟩:ByteArray)) then
   some true
 else
   (H5 c.G5.A0d e).bind fun b=>
   (H5 c.G5.P6.C8 b).bind fun a=>
   some (decide (d.J2=a.F7))
def B1M {σ:Type} (a:F6) (j:F3) (q:σ→Int→(List Int)→Option σ) (b:σ):Option (σ):=
 (A6a a j).bind fun (e,d,k)=>
 (
   bif !k then
     some true
   else
     (H5 a.R5 e).bind fun p=>
     (H5 a.G5.A0d p).bind fun g=>
     (H5 a.R5 d).bind fun m=>
     (H5 a.G5.A0d m).bind fun n=>
     some (!decide (g=n))).bind fun o=>
 bif o then
   some b
 else
   (B3c a e d).bind fun (l,h)=>
   bif decide (j.fN=0) then
     (q b 1 [e,d]).bind fun i=>
     some i
   else
     bif h then
       bif decide (l < j.fN) then
         (q b 1 [e,d]).bind fun c=>
         some c
       else
         some b
     else
       some b
def A5v {σ:Type} (b:F6) (j:F3) (i:σ→Int→(List Int)→Option σ) (a:σ):Option (σ):=
 (A6a b j).bind fun (h,g,e)=>
 bif e then
   (A1B b b.G5.Y5 h g).bind fun c=>
   bif !c then
     (i a 1 [h,g]).bind fun d=>
     some d
   else
     some a
 else
   some a
def A5w {σ:Type} (b:F6) (j:F3) (i:σ→Int→(List Int)→Option σ) (a:σ):Option (σ):=
 (A6a b j).bind fun (h,g,e)=>
 bif e then
   (A1B b b.G5.A0D h g).bind fun c=>
   bif !c then
     (i a 1 [h,g]).bind fun d=>
     some d
   else
     some a
 else
   some a
def B0I {σ:Type} (j:F6) (l:F3) (k:σ→Int→(List Int)→Option σ) (a:σ):Option (σ):=
 (A6a j l).bind fun (i,b,g)=>
 bif g then
   (B3c j i b).bind fun (c,d)=>
   bif !d then
     (k a 1 [i,b]).bind fun h=>
     some h
   else
     bif decide (l.fN < c) then
       (k a 1 [i,b]).bind fun e=>
       some e
     else
       some a
 else
   some a
def A7N {σ:Type} (a:F6) (m:F3) (l:σ→Int→(List Int)→Option σ) (b:σ):Option (σ):=
 (A6a a m).bind fun (k,j,h)=>
 bif h then
   (H5 a.R5 k).bind fun d=>
   (H5 a.G5.A0d d).bind fun e=>
   (H5 a.R5 j).bind fun c=>
   (H5 a.G5.A0d c).bind fun g=>
   bif !decide (e=g) then
     (l b 1 [k,j]).bind fun i=>
     some i
   else
     some b
 else
   some b
def B9b {σ:Type} (c:F6) (i:F3) (j:σ→Int→(List Int)→Option σ) (d:σ):Option (σ):=
 (A0O c.G5.P6 i.fA).bind fun b=>
 (H5 c.R5 b).bind fun a=>
 bif decide (0≤a) then
   (H5 c.G5.A0d a).bind fun h=>
   (H5 c.G5.P6.C8 h).bind fun e=>
   bif !decide (e.F7=i.J2) then
     (j d 1 [b]).bind fun g=>
     some g
   else
     some d
 else
   some d
def A9a (h:F6) (b:Int):Int→Option (Int⊕Int):=fun a=>
 bif decide (0 < a) then
  (J8 (a - 1)).bind fun e=>
  (H5 h.G5.A0d e).bind fun c=>
  (H5 h.G5.A0d b).bind fun g=>
  bif decide (c=g) then
   (J8 (a - 1)).bind fun d=>
   some (Sum.inl d)
  else
   some (Sum.inr a)
 else
  some (Sum.inr a)
def B4t {σ:Type} (e:F6) (l:F3) (m:σ→Int→(List Int)→Option σ) (i:σ):Option (σ):=
 (A0O e.G5.P6 l.fA).bind fun c=>
 (H5 e.R5 c).bind fun a=>
 bif decide (a < 0) then
   some i
 else
   (
     iter (A9a e a) FUEL a).bind fun b=>
   (H5 e.G5.A0d a).bind fun j=>
   (H5 e.G5.P6.C8 j).bind fun k=>
   bif !decide (k.F7=l.J2) then
     (m i 1 [c]).bind fun d=>
     some d
   else
     (J8 (a - b)).bind fun h=>
     bif !decide (h=l.fN) then
       (m i 1 [c]).bind fun g=>
       some g
     else
       some i
def B4W {σ:Type} (l:F6) (n:F3) (m:σ→Int→(List Int)→Option σ) (b:σ) (a:Int):Option ((σ×Int)⊕σ):=
 (H5 l.G5.P6.A8 a).bind fun k=>
 bif decide (n.fA=k.F7) then
  (m b 1 [a]).bind fun j=>
  (J8 (a + 1)).bind fun h=>
  some (Sum.inl (j,h))
 else
  bif decide (n.fA=(⟨#[]⟩:ByteArray)) then
   (H5 l.G5.P6.A8 a).bind fun d=>
   bif d.Y6 then
    (m b 1 [a]).bind fun c=>
    (J8 (a + 1)).bind fun i=>
    some (Sum.inl (c,i))
   else
    (J8 (a + 1)).bind fun g=>
    some (Sum.inl (b,g))
  else
   (J8 (a + 1)).bind fun e=>
   some (Sum.inl (b,e))
def A5a {σ:Type} (g:F6) (j:F3) (i:σ→Int→(List Int)→Option σ):(σ×Int)→Option ((σ×Int)⊕σ):=fun (b,a)=>
 bif decide (a < (g.R5.length:Int)) then
  (H5 g.R5 a).bind fun d=>
  bif decide (0≤d) then
   (H5 g.G5.C2v d).bind fun h=>
   bif !h then
    B4W g j i b a
   else
    (J8 (a + 1)).bind fun c=>
    some (Sum.inl (b,c))
  else
   (J8 (a + 1)).bind fun e=>
   some (Sum.inl (b,e))
 else
  some (Sum.inr b)
def B1U {σ:Type} (c:F6) (d:F3) (e:σ→Int→(List Int)→Option σ) (b:σ):Option (σ):=
 (
   iter (A5a c d e) FUEL (b,0)).bind fun a=>
 some a
def B5o (n:F6) (m:Int) (i:List Int) (b:Int) (c:Bool) (a:Bool):Option ((Int×Bool×Bool)⊕(Bool×Bool)):=
 (H5 i b).bind fun g=>
 (H5 n.B7H g).bind fun d=>
 bif decide (0≤d) then
  bif a then
   (H5 n.G5.B0q m).bind fun h=>
   (H5 h d).bind fun j=>
   (J8 (b + 1)).bind fun l=>
   some (Sum.inl (l,true,!j))
  else
   (J8 (b + 1)).bind fun k=>
   some (Sum.inl (k,true,false))
 else
  (J8 (b + 1)).bind fun e=>
  some (Sum.inl (e,c,a))
def A2s (g:F6) (e:Int) (d:List Int):(Int×Bool×Bool)→Option ((Int×Bool×Bool)⊕(Bool×Bool)):=fun (c,b,a)=>
 bif decide (c < (d.length:Int)) then
  B5o g e d c b a
 else
  some (Sum.inr (b,a))
def A1r (l:F6) (k:Int) (h:List Int) (j:List Int):(Int×Bool×Bool)→Option ((Int×Bool×Bool)⊕(Bool×Bool)):=fun (e,b,a)=>
 bif decide (e < ([h,j].length:Int)) then
  (H5 [h,j] e).bind fun i=>
  (
   iter (A2s l k i) FUEL (0,b,a)).bind fun (d,c)=>
  (J8 (e + 1)).bind fun g=>
  some (Sum.inl (g,d,c))
 else
  some (Sum.inr (b,a))
def B4M {σ:Type} (k:F6) (n:σ→Int→(List Int)→Option σ) (d:σ) (c:Int) (e:Int):Option ((σ×Int)⊕σ):=
 (H5 k.G5.Y5 e).bind fun l=>
 (H5 k.G5.A0D e).bind fun m=>
 (
  iter (A1r k c l m) FUEL (0,false,true)).bind fun (b,a)=>
 bif b then
  bif a then
   (n d 1 [c]).bind fun i=>
   (J8 (c + 1)).bind fun g=>
   some (Sum.inl (i,g))
  else
   (J8 (c + 1)).bind fun j=>
   some (Sum.inl (d,j))
 else
  (J8 (c + 1)).bind fun h=>
  some (Sum.inl (d,h))
def A4Y {σ:Type} (d:F6) (j:F3) (i:σ→Int→(List Int)→Option σ):(σ×Int)→Option ((σ×Int)⊕σ):=fun (c,a)=>
 bif decide (a < (d.R5.length:Int)) then
  (H5 d.R5 a).bind fun b=>
  (
   bif decide (b < 0) then
    some true
   else
    (A4l d j b).bind fun h=>
    some (!h)).bind fun g=>
  bif g then
   (J8 (a + 1)).bind fun e=>
   some (Sum.inl (c,e))
  else
   B4M d i c a b
 else
  some (Sum.inr c)
def B2c {σ:Type} (c:F6) (d:F3) (e:σ→Int→(List Int)→Option σ) (b:σ):Option (σ):=
 (
   iter (A4Y c d e) FUEL (b,0)).bind fun a=>
 some a
def B2G {σ:Type} (p:F6) (s:F3) (t:σ→Int→(List Int)→Option σ) (c:Int) (q:Int) (b:σ) (a:Int) (r:Int):Option ((σ×Int)⊕σ):=
 (A4l p s q).bind fun l=>
 bif l then
  (A5Q p c a).bind fun i=>
  bif !i then
   (t b 1 [c,a]).bind fun m=>
   (J8 (a + 1)).bind fun h=>
   some (Sum.inl (m,h))
  else
   (J8 (a + 1)).bind fun d=>
   some (Sum.inl (b,d))
 else
  (A4l p s r).bind fun j=>
  bif j then
   (A5Q p c a).bind fun g=>
   bif !g then
    (t b 1 [c,a]).bind fun n=>
    (J8 (a + 1)).bind fun e=>
    some (Sum.inl (n,e))
   else
    (J8 (a + 1)).bind fun o=>
    some (Sum.inl (b,o))
  else
   (J8 (a + 1)).bind fun k=>
   some (Sum.inl (b,k))
def B2M {σ:Type} (j:F6) (n:F3) (m:σ→Int→(List Int)→Option σ) (h:Int) (d:Int) (b:σ) (a:Int):Option ((σ×Int)⊕σ):=
 (H5 j.R5 a).bind fun e=>
 bif decide (0≤d) then
  bif decide (0≤e) then
   (H5 j.G5.A0E h).bind fun k=>
   (H5 k a).bind fun l=>
   bif decide (l=1) then
    B2G j n m h d b a e
   else
    (J8 (a + 1)).bind fun c=>
    some (Sum.inl (b,c))
  else
   (J8 (a + 1)).bind fun g=>
   some (Sum.inl (b,g))
 else
  (J8 (a + 1)).bind fun i=>
  some (Sum.inl (b,i))
def A3l {σ:Type} (e:F6) (g:F3) (h:σ→Int→(List Int)→Option σ) (d:Int) (c:Int):(σ×Int)→Option ((σ×Int)⊕σ):=fun (a,b)=>
 bif decide (b < (e.R5.length:Int)) then
  B2M e g h d c a b
 else
  some (Sum.inr a)
def A3y {σ:Type} (d:F6) (j:F3) (i:σ→Int→(List Int)→Option σ):(σ×Int)→Option ((σ×Int)⊕σ):=fun (c,a)=>
 bif decide (a < (d.R5.length:Int)) then
  (H5 d.R5 a).bind fun e=>
  (J8 (a + 1)).bind fun h=>
  (
   iter (A3l d j i a e) FUEL (c,h)).bind fun g=>
  (J8 (a + 1)).bind fun b=>
  some (Sum.inl (g,b))
 else
  some (Sum.inr c)
def A9c {σ:Type} (c:F6) (d:F3) (e:σ→Int→(List Int)→Option σ) (b:σ):Option (σ):=
 (
   iter (A3y c d e) FUEL (b,0)).bind fun a=>
 some a
def B2P {σ:Type} (i:F6) (m:F3) (n:σ→Int→(List Int)→Option σ) (b:σ) (a:Int):Option ((σ×Int)⊕σ):=
 (H5 i.R5 a).bind fun c=>
 bif decide (0≤c) then
  (H5 i.G5.P6.A8 a).bind fun k=>
  bif decide (k.A0t=m.fA) then
   (A4l i m c).bind fun l=>
   bif !l then
    (n b 1 [a]).bind fun j=>
    (J8 (a + 1)).bind fun d=>
    some (Sum.inl (j,d))
   else
    (J8 (a + 1)).bind fun h=>
    some (Sum.inl (b,h))
  else
   (J8 (a + 1)).bind fun e=>
   some (Sum.inl (b,e))
 else
  (J8 (a + 1)).bind fun g=>
  some (Sum.inl (b,g))
def A3p {σ:Type} (c:F6) (d:F3) (e:σ→Int→(List Int)→Option σ):(σ×Int)→Option ((σ×Int)⊕σ):=fun (a,b)=>
 bif decide (b < (c.R5.length:Int)) then
  B2P c d e a b
 else
  some (Sum.inr a)
def A8V {σ:Type} (c:F6) (d:F3) (e:σ→Int→(List Int)→Option σ) (b:σ):Option (σ):=
 (
   iter (A3p c d e) FUEL (b,0)).bind fun a=>
 some a
def B4J {σ:Type} (o:F6) (m:Int→Int→Option Bool) (p:σ→Int→(List Int)→Option σ) (k:Int) (n:Int) (b:σ) (a:Int) (l:Int):Option ((σ×Int)⊕σ):=
 (H5 o.G5.A0d l).bind fun g=>
 (H5 o.G5.A0d n).bind fun c=>
 bif decide (g=c) then
  (m k a).bind fun i=>
  bif i then
   (p b 1 [k,a]).bind fun e=>
   (J8 (a + 1)).bind fun h=>
   some (Sum.inl (e,h))
  else
   (J8 (a + 1)).bind fun d=>
   some (Sum.inl (b,d))
 else
  (J8 (a + 1)).bind fun j=>
  some (Sum.inl (b,j))
def A5q {σ:Type} (e:F6) (g:Int→Int→Option Bool) (j:σ→Int→(List Int)→Option σ) (h:Int) (i:Int):(σ×Int)→Option ((σ×Int)⊕σ):=fun (b,a)=>
 bif decide (a < (e.R5.length:Int)) then
  (H5 e.R5 a).bind fun d=>
  bif decide (0≤d) then
   B4J e g j h i b a d
  else
   (J8 (a + 1)).bind fun c=>
   some (Sum.inl (b,c))
 else
  some (Sum.inr b)
def B5j {σ:Type} (g:F6) (m:F3) (l:Int→Int→Option Bool) (n:σ→Int→(List Int)→Option σ) (d:σ) (a:Int):Option ((σ×Int)⊕σ):=
 (H5 g.R5 a).bind fun b=>
 (
  bif decide (b < 0) then
   some true
  else
   (A4l g m b).bind fun j=>
   some (!j)).bind fun e=>
 bif e then
  (J8 (a + 1)).bind fun i=>
  some (Sum.inl (d,i))
 else
  (J8 (a + 1)).bind fun k=>
  (
   iter (A5q g l n a b) FUEL (d,k)).bind fun h=>
  (J8 (a + 1)).bind fun c=>
  some (Sum.inl (h,c))
def A5t {σ:Type} (d:F6) (e:F3) (c:Int→Int→Option Bool) (g:σ→Int→(List Int)→Option σ):(σ×Int)→Option ((σ×Int)⊕σ):=fun (a,b)=>
 bif decide (b < (d.R5.length:Int)) then
  B5j d e c g a b
 else
  some (Sum.inr a)
def A5L {σ:Type} (d:F6) (e:F3) (a:Int→Int→Option Bool) (g:σ→Int→(List Int)→Option σ) (c:σ):Option (σ):=
 (
   iter (A5t d e a g) FUEL (c,0)).bind fun b=>
 some b
def A3i (j:F6) (k:Int):(Int×(List Int))→Option ((Int×(List Int))⊕(List Int)):=fun (b,a)=>
 bif decide (b < (j.R5.length:Int)) then
  (H5 j.R5 b).bind fun c=>
  bif decide (0≤c) then
   (H5 j.G5.A0d c).bind fun d=>
   bif decide (d=k) then
    (apL a [b]).bind fun e=>
    (J8 (b + 1)).bind fun g=>
    some (Sum.inl (g,e))
   else
    (J8 (b + 1)).bind fun i=>
    some (Sum.inl (i,a))
  else
   (J8 (b + 1)).bind fun h=>
   some (Sum.inl (h,a))
 else
  some (Sum.inr a)
def B6x {σ:Type} (k:F6) (l:F3) (h:σ→(List Int)→Option σ) (b:σ) (a:Int):Option ((σ×Int)⊕σ):=
 (H5 k.G5.P6.C8 a).bind fun i=>
 (
  bif !decide (l.J2=(⟨#[]⟩:ByteArray)) then
   some (!decide (l.J2=i.F7))
  else
   some false).bind fun g=>
 bif g then
  (J8 (a + 1)).bind fun j=>
  some (Sum.inl (b,j))
 else
  (
   iter (A3i k a) FUEL (0,([]:List Int))).bind fun e=>
  (h b e).bind fun c=>
  (J8 (a + 1)).bind fun d=>
  some (Sum.inl (c,d))
def A4D {σ:Type} (d:F6) (e:F3) (c:σ→(List Int)→Option σ):(σ×Int)→Option ((σ×Int)⊕σ):=fun (a,b)=>
 bif decide (b < (d.G5.P6.C8.length:Int)) then
  B6x d e c a b
 else
  some (Sum.inr a)
def A9q {σ:Type} (d:F6) (e:F3) (b:σ→(List Int)→Option σ) (c:σ):Option (σ):=
 (
   iter (A4D d e b) FUEL (c,0)).bind fun a=>
 some a
def A4u (g:Int) (h:Int) (a:F6):Option (Bool):=
 (H5 a.G5.P6.A8 g).bind fun c=>
 bif decide (0 < c.A0r) then
   (H5 a.G5.P6.A8 g).bind fun d=>
   (H5 a.G5.P6.A8 h).bind fun b=>
   bif decide (d.A0r=b.A0r) then
     (A1B a a.G5.Y5 g h).bind fun e=>
     some e
   else
     some false
 else
   some false
def A6J {σ:Type} (b:F6) (e:F3) (g:σ→Int→(List Int)→Option σ) (d:σ):Option (σ):=
 (A5L b e (fun c h=>A4u c h b) g d).bind fun a=>
 some a
def B2k (g:Int) (h:Int) (a:F6):Option (Bool):=
 (H5 a.G5.P6.A8 g).bind fun c=>
 bif !decide (c.W9=(⟨#[]⟩:ByteArray)) then
   (H5 a.G5.P6.A8 g).bind fun d=>
   (H5 a.G5.P6.A8 h).bind fun b=>
   bif decide (d.W9=b.W9) then
     (A1B a a.G5.Y5 g h).bind fun e=>
     some e
   else
     some false
 else
   some false
def B7i {σ:Type} (b:F6) (e:F3) (g:σ→Int→(List Int)→Option σ) (d:σ):Option (σ):=
 (A5L b e (fun c h=>B2k c h b) g d).bind fun a=>
 some a
def A8Q (g:Int) (e:Int) (d:F6):Option (Bool):=
 (H5 d.G5.A0E g).bind fun a=>
 (H5 a e).bind fun c=>
 bif decide (c=2) then
   (A5Q d g e).bind fun b=>
   some b
 else
   some false
def B1V {σ:Type} (b:F6) (e:F3) (g:σ→Int→(List Int)→Option σ) (d:σ):Option (σ):=
 (A5L b e (fun c h=>A8Q c h b) g d).bind fun a=>
 some a
def A7Z (h:Int) (l:Int) (a:F6):Option (Bool):=
 (H5 a.G5.P6.R8 h).bind fun e=>
 (H5 a.G5.P6.R8 l).bind fun n=>
 (
   bif decide (n < e) then
     some (l,h)
   else
     some (h,l)).bind fun (c,b)=>
 (H5 a.G5.P6.R8 c).bind fun d=>
 (H5 a.G5.P6.R8 b).bind fun k=>
 bif decide (d < k) then
   (H5 a.R5 c).bind fun j=>
   (H5 a.G5.B6f j).bind fun i=>
   (H5 a.R5 b).bind fun g=>
   (H5 a.G5.B6f g).bind fun m=>
   some (decide (m < i))
 else
   some false
def B0N {σ:Type} (a:F6) (e:F3) (g:σ→Int→(List Int)→Option σ) (c:σ):Option (σ):=
 bif decide ((a.G5.P6.R8.length:Int)=0) then
   some c
 else
   (A5L a e (fun d h=>A7Z d h a) g c).bind fun b=>
   some b
def A4m {σ:Type} (e:List Int) (h:F6) (g:σ):Int→Option (Int⊕(Unit⊕σ)):=fun c=>
 bif decide (c < (e.length:Int)) then
  (H5 e c).bind fun d=>
  (H5 h.G5.P6.A8 d).bind fun a=>
  bif a.A0s then
   some (Sum.inr (Sum.inr g))
  else
   (J8 (c + 1)).bind fun b=>
   some (Sum.inl b)
 else
  some (Sum.inr (Sum.inl ()))
def B0x {σ:Type} (b:List Int) (e:F6) (g:σ→Int→(List Int)→Option σ) (a:σ):Option (σ):=
 (
   iter (A4m b e a) FUEL 0).bind fun d=>match d with
 | .inl _u=>
   bif decide (0 < (b.length:Int)) then
     (g a 1 b).bind fun c=>
     some c
   else
     some a
 | .inr p=>
   some p
def B4a {σ:Type} (b:F6) (e:F3) (g:σ→Int→(List Int)→Option σ) (d:σ):Option (σ):=
 (A9q b e (fun s_ c=>B0x c b g s_) d).bind fun a=>
 some a
def B0J {σ:Type} (a:List Int) (c:F3) (e:σ→Int→(List Int)→Option σ) (b:σ):Option (σ):=
 bif decide ((a.length:Int) < c.fN) then
   (J8 (c.fN - (a.length:Int))).bind fun g=>
   (e b g a).bind fun d=>
   some d
 else
   some b
def B4i {σ:Type} (e:F6) (b:F3) (g:σ→Int→(List Int)→Option σ) (d:σ):Option (σ):=
 (A9q e b (fun s_ c=>B0J c b g s_) d).bind fun a=>
 some a
def A8X {σ:Type} (a:List Int) (c:F3) (e:σ→Int→(List Int)→Option σ) (b:σ):Option (σ):=
 bif decide (c.fN < (a.length:Int)) then
   (J8 ((a.length:Int) - c.fN)).bind fun g=>
   (e b g a).bind fun d=>
   some d
 else
   some b
def B2o {σ:Type} (e:F6) (b:F3) (g:σ→Int→(List Int)→Option σ) (d:σ):Option (σ):=
 (A9q e b (fun s_ c=>A8X c b g s_) d).bind fun a=>
 some a
end Go.Dm
open Go Go.Sl
namespace Go.Dm
def B3T {σ:Type} (n:Nat) (v:F6) (r:F3) (f:σ→Int→(List Int)→Option σ) (s:σ):Option σ:=
 if n=87 then B1M v r f s else
 if n=88 then A5v v r f s else
 if n=89 then A5w v r f s else
 if n=90 then B0I v r f s else
 if n=91 then A7N v r f s else
 if n=92 then B9b v r f s else
 if n=93 then B4t v r f s else
 if n=94 then A6J v r f s else
 if n=95 then B4a v r f s else
 if n=96 then B1U v r f s else
 if n=97 then B2c v r f s else
 if n=98 then B1V v r f s else
 if n=99 then A9c v r f s else
 if n=100 then B0N v r f s else
 if n=101 then B4i v r f s else
 if n=102 then B2o v r f s else
 if n=103 then A8V v r f s else
 if n=104 then B7i v r f s else
 none
def A0W (a:Int) (d:List Int) (b:Int):Option (Int):=
 (J8 (b + a)).bind fun c=>
 some c
def A4j (a:F6) (h:Int):Option (Int):=
 (H5 a.G5.P6.F9 h).bind fun c=>
 (lkM a.G5.B7L c.H6 (G7.mk (⟨#[]⟩:ByteArray) 0 false 0 false 0 false (0:Nat))).bind fun (b,g)=>
 (H5 a.G5.P6.F9 h).bind fun e=>
 (B3T b.C4y a e (fun s_ j i=>A0W j i s_) 0).bind fun d=>
 some d
def B4O (l:F6) (c:Int) (b:Int) (a:Int):Option ((Int×Int×Int)⊕(Int×Int)):=
 (H5 l.R5 c).bind fun i=>
 bif decide (i < 0) then
  (J8 (b + 1)).bind fun d=>
  (H5 l.G5.P6.A8 c).bind fun h=>
  bif h.A0s then
   (J8 (a + 1)).bind fun j=>
   (J8 (c + 1)).bind fun k=>
   some (Sum.inl (k,d,j))
  else
   (J8 (c + 1)).bind fun e=>
   some (Sum.inl (e,d,a))
 else
  (J8 (c + 1)).bind fun g=>
  some (Sum.inl (g,b,a))
def B4I (h:F6) (i:Int) (g:Int) (a:Int) (b:Int):Option (Int):=
 (H5 h.G5.P6.F9 i).bind fun c=>
 bif decide (c.H6=9) then
  (J8 (g - b)).bind fun e=>
  some (max e 0)
 else
  bif decide (c.H6=15) then
   (J8 (g - a)).bind fun d=>
   some (max d 0)
  else
   bif decide (c.H6=11) then
    bif decide (0 < a) then
     some (max 0 0)
    else
     some (max g 0)
   else
    some (max g 0)
def A2m (d:F6):(Int×Int×Int)→Option ((Int×Int×Int)⊕(Int×Int)):=fun (c,b,a)=>
 bif decide (c < (d.R5.length:Int)) then
  B4O d c b a
 else
  some (Sum.inr (b,a))
def A9r (c:F6) (d:Int):Option (Int):=
 (A4j c d).bind fun e=>
 (
   iter (A2m c) FUEL (0,0,0)).bind fun (b,a)=>
 B4I c d e b a
def A9C  : Option (List (Int×G7)):=
 (some (A2q ([]:List (Int×G7)) 1 (G7.mk (⟨#[97,112,97,114,116]⟩:ByteArray) 103 true 0 true 0 false (87:Nat)))).bind fun s=>
 (some (A2q s 2 (G7.mk (⟨#[98,101,115,105,100,101]⟩:ByteArray) 103 true 0 false 0 false (88:Nat)))).bind fun r=>
 (some (A2q r 3 (G7.mk (⟨#[97,99,114,111,115,115]⟩:ByteArray) 103 true 0 false 0 false (89:Nat)))).bind fun p=>
 (some (A2q p 4 (G7.mk (⟨#[110,101,97,114]⟩:ByteArray) 103 true 0 true 1 false (90:Nat)))).bind fun j=>
 (some (A2q j 5 (G7.mk (⟨#[116,111,103,101,116,104,101,114]⟩:ByteArray) 103 true 0 false 0 false (91:Nat)))).bind fun a=>
 (some (A2q a 6 (G7.mk (⟨#[97,116]⟩:ByteArray) 103 false 116 false 0 false (92:Nat)))).bind fun h=>
 (some (A2q h 7 (G7.mk (⟨#[115,101,97,116]⟩:ByteArray) 103 false 116 true 0 true (93:Nat)))).bind fun e=>
 (some (A2q e 8 (G7.mk (⟨#[97,108,116,101,114,110,97,116,101]⟩:ByteArray) 0 false 101 false 0 false (94:Nat)))).bind fun i=>
 (some (A2q i 9 (G7.mk (⟨#[104,111,115,116]⟩:ByteArray) 0 false 101 false 0 false (95:Nat)))).bind fun n=>
 (some (A2q n 10 (G7.mk (⟨#[114,101,97,99,104]⟩:ByteArray) 101 false 0 false 0 false (96:Nat)))).bind fun q=>
 (some (A2q q 11 (G7.mk (⟨#[115,112,101,97,107]⟩:ByteArray) 0 false 101 false 0 false (97:Nat)))).bind fun k=>
 (some (A2q k 12 (G7.mk (⟨#[112,101,97,99,101]⟩:ByteArray) 0 false 101 false 0 false (98:Nat)))).bind fun b=>
 (some (A2q b 13 (G7.mk (⟨#[99,111,109,112,97,110,121]⟩:ByteArray) 0 false 101 false 0 false (99:Nat)))).bind fun l=>
 (some (A2q l 14 (G7.mk (⟨#[104,111,110,111,117,114]⟩:ByteArray) 0 false 101 false 0 false (100:Nat)))).bind fun g=>
 (some (A2q g 15 (G7.mk (⟨#[102,105,108,108]⟩:ByteArray) 0 false 101 true 0 false (101:Nat)))).bind fun o=>
 (some (A2q o 16 (G7.mk (⟨#[108,105,109,105,116]⟩:ByteArray) 0 false 101 true 0 false (102:Nat)))).bind fun m=>
 (some (A2q m 17 (G7.mk (⟨#[107,105,116,99,104,101,110]⟩:ByteArray) 100 false 116 false 0 false (103:Nat)))).bind fun c=>
 (some (A2q c 18 (G7.mk (⟨#[109,105,120]⟩:ByteArray) 0 false 101 false 0 false (104:Nat)))).bind fun d=>
 some d
def A0p (a:G7) (b:F3):Option (Bool):=
 bif a.fb then
  bif !decide (a.ft=0) then
   bif a.fn then
    some true
   else
    some (decide (b.fN=0))
  else
   bif decide (b.J2=(⟨#[]⟩:ByteArray)) then
    bif a.fn then
     some true
    else
     some (decide (b.fN=0))
   else
    some false
 else
  bif decide (b.fB=(⟨#[]⟩:ByteArray)) then
   bif !decide (a.ft=0) then
    bif a.fn then
     some true
    else
     some (decide (b.fN=0))
   else
    bif decide (b.J2=(⟨#[]⟩:ByteArray)) then
     bif a.fn then
      some true
     else
      some (decide (b.fN=0))
    else
     some false
  else
   some false
def A0n (a:G7) (b:F3):Option (Bool):=
 bif a.fb then
  bif !decide (a.ft=0) then
   bif a.fn then
    some true
   else
    some (decide (b.fN=0))
  else
   bif decide (b.J2=(⟨#[]⟩:ByteArray)) then
    bif a.fn then
     some true
    else
     some (decide (b.fN=0))
   else
    some false
 else
  bif decide (b.fB=(⟨#[]⟩:ByteArray)) then
   bif !decide (a.ft=0) then
    bif a.fn then
     some true
    else
     some (decide (b.fN=0))
   else
    bif decide (b.J2=(⟨#[]⟩:ByteArray)) then
     bif a.fn then
      some true
     else
      some (decide (b.fN=0))
    else
     some false
  else
   some false
def A0w (a:G7) (b:F3):Option (Bool):=
 bif !decide (a.fa=0) then
   A0p a b
 else
   bif decide (b.fA=(⟨#[]⟩:ByteArray)) then
     A0n a b
   else
     some false
def A3H (c:G7) (d:C9) (a:F3):Option (Bool):=
 bif decide (c.fa=101) then
  bif !decide (a.fA=(⟨#[]⟩:ByteArray)) then
   (A0O d a.fA).bind fun b=>
   bif decide (b < 0) then
    some (decide (b < 0))
   else
    bif c.fb then
     (A0O d a.fB).bind fun e=>
     some (decide (e < 0))
    else
     some false
  else
   bif c.fb then
    (A0O d a.fB).bind fun g=>
    some (decide (g < 0))
   else
    some false
 else
  bif c.fb then
   (A0O d a.fB).bind fun h=>
   some (decide (h < 0))
  else
   some false
def A3F (j:G7) (k:C9) (c:F3) (b:Int) (d:Bool):Option (Int):=
 bif d then
  some 6
 else
  (
   bif j.A6j then
    (J8 (b + 1)).bind fun e=>
    (sbL k.C8 b e).bind fun g=>
    (A2r g).bind fun i=>
    (J8 (i - 1)).bind fun h=>
    some h
   else
    some 24).bind fun a=>
  bif j.fn then
   bif decide (c.fN < j.flo) then
    some 42
   else
    bif decide (a < c.fN) then
     some 42
    else
     some 0
  else
   some 0
def A7S (e:G7) (g:C9) (b:F3):Option (Int):=
 (B3W g.C8 b.J2).bind fun (d,a)=>
 (
  bif decide (e.ft=116) then
   bif !a then
    some true
   else
    bif decide (e.ft=101) then
     bif !decide (b.J2=(⟨#[]⟩:ByteArray)) then
      some (!a)
     else
      some false
    else
     some false
  else
   bif decide (e.ft=101) then
    bif !decide (b.J2=(⟨#[]⟩:ByteArray)) then
     some (!a)
    else
     some false
   else
    some false).bind fun c=>
 A3F e g b d c
def A7Y (g:G7) (i:C9) (a:F3) (e:Bool):Option (Int):=
 (
  bif e then
   some e
  else
   A3H g i a).bind fun h=>
 bif h then
  some 6
 else
  (
   bif decide (g.fa=100) then
    (A9k a.fA).bind fun c=>
    some (!c)
   else
    some false).bind fun d=>
  bif d then
   some 4
  else
   (
    bif g.fb then
     some (decide (a.fA=a.fB))
    else
     some false).bind fun b=>
   bif b then
    some 5
   else
    A7S g i a
def A1D (b:G7) (h:C9) (a:F3):Option (Int):=
 bif decide (b.A7b=(⟨#[]⟩:ByteArray)) then
   some 40
 else
   (
     bif decide (a.J3 < 0) then
       some true
     else
       some (decide (1000 < a.J3))).bind fun d=>
   bif d then
     some 41
   else
     (A0w b a).bind fun c=>
     bif !c then
       some 43
     else
       (
         bif decide (b.fa=103) then
           (A0O h a.fA).bind fun e=>
           some (decide (e < 0))
         else
           some false).bind fun g=>
       A7Y b h a g
def A5r (d:C9):Int→Option (Int⊕(Unit⊕(Int×Int))):=fun a=>
 bif decide (a < (d.R8.length:Int)) then
  (H5 d.R8 a).bind fun b=>
  bif decide (b < 0) then
   some (Sum.inr (Sum.inr (0,44)))
  else
   bif decide (64≤b) then
    some (Sum.inr (Sum.inr (0,44)))
   else
    (J8 (a + 1)).bind fun c=>
    some (Sum.inl c)
 else
  some (Sum.inr (Sum.inl ()))
def B4R (a:C9):Option (Int×Int):=
 (
  bif decide (0 < (a.R8.length:Int)) then
   some (!decide ((a.R8.length:Int)=(a.A8.length:Int)))
  else
   some false).bind fun c=>
 bif c then
  some (0,44)
 else
  (
   iter (A5r a) FUEL 0).bind fun b=>match b with
  | .inl _u=>
   (A2r a.C8).bind fun d=>
   bif decide (d < (a.A8.length:Int)) then
    some (0,45)
   else
    some (0,0)
  | .inr p=>
   some p
def B2v (c:C9):Option (Int×Int):=
 (A5u c.C8).bind fun (e,a)=>
 bif !decide (a=0) then
   some (e,a)
 else
   (A5A (Q7.mk c.A8 c.M9)).bind fun (d,b)=>
   bif !decide (b=0) then
     some (d,b)
   else
     B4R c
def A5g (d:C9) (e:List (Int×G7)):Int→Option (Int⊕(Unit⊕(Int×Int))):=fun a=>
 bif decide (a < (d.F9.length:Int)) then
  (H5 d.F9 a).bind fun b=>
  (lkM e b.H6 (G7.mk (⟨#[]⟩:ByteArray) 0 false 0 false 0 false (0:Nat))).bind fun (g,i)=>
  (A1D g d b).bind fun c=>
  bif !decide (c=0) then
   some (Sum.inr (Sum.inr (a,c)))
  else
   bif decide (a=64) then
    some (Sum.inr (Sum.inr (a,7)))
   else
    (J8 (a + 1)).bind fun h=>
    some (Sum.inl h)
 else
  some (Sum.inr (Sum.inl ()))
def A2u (e:C9):Option (Int×Int):=
 (B2v e).bind fun (d,a)=>
 bif !decide (a=0) then
   some (d,a)
 else
   A9C.bind fun c=>
   (
     iter (A5g e c) FUEL 0).bind fun b=>match b with
   | .inl _u=>
     some (0,0)
   | .inr p=>
     some p
def B0d (d:Int) (c:C9) (a:Int):Option (Bool):=
 (B0r c.C8 a d).bind fun b=>
 some b
def A9Z (d:Int) (c:C9) (a:Int):Option (Bool):=
 (B0H c.C8 a d).bind fun b=>
 some b
def B5b (n:List Int) (d:Int) (a:List (Int×Int)) (b:List Int):Option ((Int×(List (Int×Int))×(List Int))⊕((List (Int×Int))×(List Int))):=
 (H5 n d).bind fun c=>
 (lkM a c 0).bind fun (p,e)=>
 bif !e then
  (H5 b 0).bind fun g=>
  (lkM a g 0).bind fun (j,o)=>
  (J8 (j + 1)).bind fun l=>
  (some (A2q a c l)).bind fun m=>
  (apL b [c]).bind fun h=>
  (J8 (d + 1)).bind fun i=>
  some (Sum.inl (i,m,h))
 else
  (J8 (d + 1)).bind fun k=>
  some (Sum.inl (k,a,b))
def A7K (d:List Int):(Int×(List (Int×Int))×(List Int))→Option ((Int×(List (Int×Int))×(List Int))⊕((List (Int×Int))×(List Int))):=fun (c,b,a)=>
 bif decide (c < (d.length:Int)) then
  B5b d c b a
 else
  some (Sum.inr (b,a))
def A7H (i:List Int) (g:List Int):(Int×(List (Int×Int))×(List Int))→Option ((Int×(List (Int×Int))×(List Int))⊕((List (Int×Int))×(List Int))):=fun (c,b,a)=>
 bif decide (c < ([i,g].length:Int)) then
  (H5 [i,g] c).bind fun h=>
  (
   iter (A7K h) FUEL (0,b,a)).bind fun (e,d)=>
  (J8 (c + 1)).bind fun j=>
  some (Sum.inl (j,e,d))
 else
  some (Sum.inr (b,a))
def A8d (k:P9):((List (Int×Int))×(List Int))→Option (((List (Int×Int))×(List Int))⊕(List (Int×Int))):=fun (c,a)=>
 bif decide (0 < (a.length:Int)) then
  (H5 a 0).bind fun j=>
  (H5 k.Y5 j).bind fun i=>
  (H5 a 0).bind fun g=>
  (H5 k.A0D g).bind fun h=>
  (
   iter (A7H i h) FUEL (0,c,a)).bind fun (d,b)=>
  (sbL b 1 (b.length:Int)).bind fun e=>
  some (Sum.inl (d,e))
 else
  some (Sum.inr c)
def B1X (d:P9) (a:Int):Option (List (Int×Int)):=
 (some (A2q ([]:List (Int×Int)) a 0)).bind fun c=>
 (
   iter (A8d d) FUEL (c,[a])).bind fun b=>
 some b
def A5J (a:P9):Option (Bool):=
 some false
def B8m (u:C9) (l:Int) (i:Int) (h:Int) (e:List Int) (d:List Int) (g:List Bool) (b:List (List Int)) (c:List (List Int)) (a:Int):Option (((List Int)×(List Int)×(List Bool)×(List (List Int))×(List (List Int))×Int)⊕((List Int)×(List Int)×(List Bool)×(List (List Int))×(List (List Int)))):=
 (apL e [l]).bind fun n=>
 (B1Q u.C8 a).bind fun q=>
 (apL d [q]).bind fun j=>
 (B4j u.C8 a).bind fun s=>
 (apL g [s]).bind fun o=>
 (A9s i h (fun v=>B0d v u a)).bind fun r=>
 (apL b [r]).bind fun m=>
 (A9s i h (fun v=>A9Z v u a)).bind fun k=>
 (apL c [k]).bind fun p=>
 (J8 (a + 1)).bind fun t=>
 some (Sum.inl (n,j,o,m,p,t))
def B0u (l:C9) (k:Int) (h:Int) (g:Int):((List Int)×(List Int)×(List Bool)×(List (List Int))×(List (List Int))×Int)→Option (((List Int)×(List Int)×(List Bool)×(List (List Int))×(List (List Int))×Int)⊕((List Int)×(List Int)×(List Bool)×(List (List Int))×(List (List Int)))):=fun (c,d,e,a,b,i)=>
 (J8 (h + g)).bind fun j=>
 bif decide (i < j) then
  B8m l k h g c d e a b i
 else
  some (Sum.inr (c,d,e,a,b))
def B0M (n:C9) (e:E8):((Option L6)×Int×(List Bool)×(List Int))→Option (((Option L6)×Int×(List Bool)×(List Int))⊕((Option L6)×(List Bool)×(List Int))):=fun (d,a,g,c)=>
 bif decide (a < (n.A8.length:Int)) then
  (H5 n.A8 a).bind fun h=>
  d.bind fun b=>
  (B0m b e.F7 h.F7).bind fun i=>
  (apL g [decide (0 < (i.length:Int))]).bind fun l=>
  (B4n b e.F7 h.F7).bind fun (j,o)=>
  (apL c [j]).bind fun k=>
  (J8 (a + 1)).bind fun m=>
  some (Sum.inl ((some b),m,l,k))
 else
  some (Sum.inr (d,g,c))
def A5R (m:C9):((List (List Bool))×(List (List Int))×(Option L6)×Int)→Option (((List (List Bool))×(List (List Int))×(Option L6)×Int)⊕((List (List Bool))×(List (List Int)))):=fun (a,b,e,c)=>
 bif decide (c < (m.A8.length:Int)) then
  (H5 m.A8 c).bind fun k=>
  (
   iter (B0M m k) FUEL (e,0,([]:List Bool),([]:List Int))).bind fun (h,i,g)=>
  (apL a [i]).bind fun l=>
  (apL b [g]).bind fun j=>
  (J8 (c + 1)).bind fun d=>
  some (Sum.inl (l,j,h,d))
 else
  some (Sum.inr (a,b))
def A6f (l:C9) (m:List (Int×G7)) (b:List Int) (g:List Int) (h:List Bool) (c:List (List Int)) (d:List (List Int)):((List (List (Int×Int)))×Int)→Option (((List (List (Int×Int)))×Int)⊕(List (List (Int×Int)))):=fun (a,e)=>
 bif decide (e < (b.length:Int)) then
  (B1X (P9.mk l m b g h c d a ([]:List (List Bool)) ([]:List (List Int))) e).bind fun i=>
  (apL a [i]).bind fun k=>
  (J8 (e + 1)).bind fun j=>
  some (Sum.inl (k,j))
 else
  some (Sum.inr a)
def B3R (m:C9) (j:C9) (k:List (Int×G7)) (e:List Int) (c:List Int) (d:List Bool) (a:List (List Int)) (b:List (List Int)):Option ((Option P9)×Int×Int):=
 (
  iter (A6f j k e c d a b) FUEL (([]:List (List (Int×Int))),0)).bind fun h=>
 (A7t (Q7.mk m.A8 m.M9)).bind fun (l,o,n)=>
 (
  iter (A5R m) FUEL (([]:List (List Bool)),([]:List (List Int)),l,0)).bind fun (g,i)=>
 some ((some (P9.mk j k e c d a b h g i)),0,0)
def A5X (r:C9):((List Int)×(List Int)×(List Bool)×(List (List Int))×(List (List Int))×Int)→Option (((List Int)×(List Int)×(List Bool)×(List (List Int))×(List (List Int))×Int)⊕((List Int)×(List Int)×(List Bool)×(List (List Int))×(List (List Int)))):=fun (d,g,e,b,a,c)=>
 bif decide (c < (r.C8.length:Int)) then
  (A2o r.C8 c).bind fun m=>
  (J8 (c + 1)).bind fun o=>
  (sbL r.C8 c o).bind fun q=>
  (A2r q).bind fun p=>
  (
   iter (B0u r c m p) FUEL (d,g,e,b,a,m)).bind fun (k,j,l,h,i)=>
  (J8 (c + 1)).bind fun n=>
  some (Sum.inl (k,j,l,h,i,n))
 else
  some (Sum.inr (d,g,e,b,a))
def A6R (h:C9):Option ((Option P9)×Int×Int):=
 (A2u h).bind fun (k,g)=>
 bif !decide (g=0) then
   some ((none),k,g)
 else
   (A5W h).bind fun i=>
   A9C.bind fun j=>
   (
     iter (A5X h) FUEL (([]:List Int),([]:List Int),([]:List Bool),([]:List (List Int)),([]:List (List Int)),0)).bind fun (c,e,d,b,a)=>
   B3R h i j c e d b a
def A7Q (b:P9):Option (C9):=
 (A5J b).bind fun c=>
 bif c then
   some (C9.mk ([]:List D5) ([]:List E8) ([]:List H7) ([]:List Int) ([]:List F3))
 else
   (A5W b.P6).bind fun a=>
   some a
def B5n (l:P9) (d:List Int) (a:List Int) (c:Int):Option (((List Int)×Int)⊕((List Int)⊕(Option F6))):=
 (H5 d c).bind fun b=>
 (
  bif decide (b < (-1)) then
   some true
  else
   bif decide ((l.A0d.length:Int)≤b) then
    some true
   else
    bif decide (0≤b) then
     (H5 a b).bind fun g=>
     some (decide (0≤g))
    else
     some false).bind fun j=>
 bif j then
  some (Sum.inr (Sum.inr (none)))
 else
  bif decide (0≤b) then
   (H5 a b).bind fun k=>
   (some (List.set a b.toNat c)).bind fun h=>
   (J8 (c + 1)).bind fun e=>
   some (Sum.inl (h,e))
  else
   (J8 (c + 1)).bind fun i=>
   some (Sum.inl (a,i))
def A7F (d:P9) (b:List Int):((List Int)×Int)→Option (((List Int)×Int)⊕((List Int)⊕(Option F6))):=fun (a,c)=>
 bif decide (c < (b.length:Int)) then
  B5n d b a c
 else
  some (Sum.inr (Sum.inl a))
def A7h (d:P9) (a:List Int):Option (Option F6):=
 (
   (A5J d).bind fun h=>
   bif h then
     some true
   else
     some (!decide ((a.length:Int)=(d.P6.A8.length:Int)))).bind fun g=>
 bif g then
   some (none)
 else
   (A6h [(-1)] (d.A0d.length:Int)).bind fun e=>
   (
     iter (A7F d a) FUEL (e,0)).bind fun c=>match c with
   | .inl b=>
     some (some (F6.mk d a b))
   | .inr p=>
     some p
def B8l (g:P9) (a:List Int) (d:Int):Option (Int):=
 (A7h g a).bind fun e=>
 bif e.isNone then
   none
 else
   bif decide (d < 0) then
     none
   else
     e.bind fun b=>
     bif decide ((b.G5.P6.F9.length:Int)≤d) then
       none
     else
       (A9r b d).bind fun c=>
       some c
def A6u (b:F6→Int→Option Int) (c:F6):(Int×Int)→Option ((Int×Int)⊕Int):=fun (a,d)=>
 bif decide (a < (c.G5.P6.F9.length:Int)) then
  (H5 c.G5.P6.F9 a).bind fun e=>
  bif decide (0 < e.J3) then
   (b c a).bind fun k=>
   (J8 (e.J3 * k)).bind fun h=>
   (J8 (d + h)).bind fun g=>
   (J8 (a + 1)).bind fun i=>
   some (Sum.inl (i,g))
  else
   (J8 (a + 1)).bind fun j=>
   some (Sum.inl (j,d))
 else
  some (Sum.inr d)
def B4f (g:P9) (b:List Int) (a:F6→Int→Option Int):Option (Int):=
 (A7h g b).bind fun e=>
 bif e.isNone then
   some 0
 else
   e.bind fun c=>
   (
     iter (A6u a c) FUEL (0,0)).bind fun d=>
   some d
def A5f (b:F6):Int→Option (Int⊕(Unit⊕(Int×Bool))):=fun a=>
 bif decide (a < (b.G5.P6.F9.length:Int)) then
  (H5 b.G5.P6.F9 a).bind fun e=>
  bif decide (e.J3=0) then
   (A9r b a).bind fun d=>
   bif decide (0 < d) then
    some (Sum.inr (Sum.inr (a,true)))
   else
    (J8 (a + 1)).bind fun c=>
    some (Sum.inl c)
  else
   (J8 (a + 1)).bind fun g=>
   some (Sum.inl g)
 else
  some (Sum.inr (Sum.inl ()))
def B2a (e:P9) (a:List Int):Option (Int×Bool):=
 (A7h e a).bind fun d=>
 bif d.isNone then
   some (0,false)
 else
   d.bind fun c=>
   (
     iter (A5f c) FUEL 0).bind fun b=>match b with
   | .inl _u=>
     some (0,false)
   | .inr p=>
     some p
def A9D (c:P9) (a:List Int):Option (Int):=
 (B4f c a A4j).bind fun b=>
 some b
def A5e (j:Int) (h:Int) (d:List Int) (e:Int):Option (Int):=
 (J8 (j - e)).bind fun i=>
 (H5 d i).bind fun g=>
 (J8 (h - e)).bind fun a=>
 (H5 d a).bind fun c=>
 (J8 (g - c)).bind fun b=>
 some b
def A6z (g:Int) (e:List Int):(Int×(List Int))→Option ((Int×(List Int))⊕(List Int)):=fun (b,a)=>
 bif decide (b < (e.length:Int)) then
  (J8 (g + b)).bind fun c=>
  (H5 a b).bind fun i=>
  (some (List.set a b.toNat c)).bind fun d=>
  (J8 (b + 1)).bind fun h=>
  some (Sum.inl (h,d))
 else
  some (Sum.inr a)
def A8m (g:List D5) (h:Int):Option (List Int):=
 (
   bif decide (h < 0) then
     some true
   else
     bif decide ((g.length:Int)≤h) then
       some true
     else
       (A3f g).bind fun m=>
       some (!m)).bind fun l=>
 bif l then
   some ([]:List Int)
 else
   (H5 g h).bind fun i=>
   (A4h i).bind fun e=>
   (A2o g h).bind fun d=>
   (mkL (e.length:Int) 0).bind fun b=>
   (
     iter (A6z d b) FUEL (0,b)).bind fun a=>
   (A4r a (fun j k=>A5e j k e d)).bind fun c=>
   some c
def B3P (p:C9) (b:Int) (c:Int) (a:List Int) (l:F3):Option ((Int×(List Int))⊕(List Int)):=
 bif decide (l.J2=(⟨#[]⟩:ByteArray)) then
  (A8m p.C8 b).bind fun j=>
  (H5 j 0).bind fun k=>
  (apL a [k]).bind fun h=>
  (J8 (c + 1)).bind fun e=>
  some (Sum.inl (e,h))
 else
  (H5 p.C8 b).bind fun g=>
  bif decide (l.J2=g.F7) then
   (A8m p.C8 b).bind fun n=>
   (H5 n 0).bind fun d=>
   (apL a [d]).bind fun m=>
   (J8 (c + 1)).bind fun i=>
   some (Sum.inl (i,m))
  else
   (J8 (c + 1)).bind fun o=>
   some (Sum.inl (o,a))
def B3e (h:C9) (d:Int) (c:Int) (a:List Int):Option ((Int×(List Int))⊕(List Int)):=
 (H5 h.F9 c).bind fun b=>
 (
  bif decide (b.H6=7) then
   (H5 h.C8 d).bind fun l=>
   some (decide (b.J2=l.F7))
  else
   some false).bind fun i=>
 bif i then
  (A2o h.C8 d).bind fun j=>
  (J8 (j + b.fN)).bind fun k=>
  (apL a [k]).bind fun m=>
  (J8 (c + 1)).bind fun g=>
  some (Sum.inl (g,m))
 else
  bif decide (b.H6=14) then
   B3P h d c a b
  else
   (J8 (c + 1)).bind fun e=>
   some (Sum.inl (e,a))
def A6W (d:C9) (c:Int):(Int×(List Int))→Option ((Int×(List Int))⊕(List Int)):=fun (b,a)=>
 bif decide (b < (d.F9.length:Int)) then
  B3e d c b a
 else
  some (Sum.inr a)
def B0n (e:C9) (b:Int):Option (List Int):=
 (A2u e).bind fun (i,g)=>
 (
   bif !decide (g=0) then
     some true
   else
     bif decide (b < 0) then
       some true
     else
       some (decide ((e.C8.length:Int)≤b))).bind fun h=>
 bif h then
   some ([]:List Int)
 else
   (
     iter (A6W e b) FUEL (0,([]:List Int))).bind fun a=>
   (B2d a).bind fun d=>
   (A7C d).bind fun c=>
   some c
end Go.Dm
open Go Go.Sl
namespace Go.Dm
def A8j (a:Int) (c:D5):Option (Bool):=
 bif decide (a < 0) then
   some true
 else
   (A2F c).bind fun b=>
   some (decide (b≤a))
def A8s (a:Int) (b:List Int):Option (Bool):=
 (H5 b a).bind fun c=>
 some (!decide (c=a))
def B5l (c:D5) (d:List Int) (b:Int) (a:Int):Option (Int⊕(Unit⊕Bool)):=
 (H5 d b).bind fun e=>
 (H5 d a).bind fun g=>
 (A4f c b a).bind fun h=>
 (A4f c e g).bind fun i=>
 bif !(h == i) then
  some (Sum.inr (Sum.inr false))
 else
  (H5 d b).bind fun l=>
  (H5 d a).bind fun n=>
  (A3S c b a).bind fun j=>
  (A3S c l n).bind fun k=>
  bif !(j == k) then
   some (Sum.inr (Sum.inr false))
  else
   (J8 (a + 1)).bind fun m=>
   some (Sum.inl m)
def A4Z (c:D5) (d:List Int) (a:Int):Int→Option (Int⊕(Unit⊕Bool)):=fun b=>
 bif decide (b < a) then
  B5l c d a b
 else
  some (Sum.inr (Sum.inl ()))
def A7I (e:D5) (i:List Int):Int→Option (Int⊕(Unit⊕Bool)):=fun a=>
 bif decide (a < (i.length:Int)) then
  (H5 i a).bind fun c=>
  (A0Z e.A2M a).bind fun d=>
  (A0Z e.A2M c).bind fun h=>
  bif !(d == h) then
   some (Sum.inr (Sum.inr false))
  else
   (
    iter (A4Z e i a) FUEL 0).bind fun g=>match g with
   | .inl _u=>
    (J8 (a + 1)).bind fun b=>
    some (Sum.inl b)
   | .inr p=>
    some (Sum.inr (Sum.inr p))
 else
  some (Sum.inr (Sum.inl ()))
def A1F (a:D5) (c:List Int):Option (Bool):=
 (
   iter (A7I a c) FUEL 0).bind fun b=>match b with
 | .inl _u=>
   some true
 | .inr p=>
   some p
def A1a (h:Int→Option Int) (g:List Int):(Int×(List Int))→Option ((Int×(List Int))⊕(List Int)):=fun (a,b)=>
 bif decide (a < (g.length:Int)) then
  (h a).bind fun e=>
  (H5 b a).bind fun i=>
  (some (List.set b a.toNat e)).bind fun c=>
  (J8 (a + 1)).bind fun d=>
  some (Sum.inl (d,c))
 else
  some (Sum.inr b)
def A0C {σ:Type} (a:σ→(List Int)→Option (σ×Bool)) (j:Int) (d:List (Int→Option Int)):(σ×Int)→Option ((σ×Int)⊕(σ⊕σ)):=fun (i,c)=>
 bif decide (c < (d.length:Int)) then
  (H5 d c).bind fun l=>
  (mkL j 0).bind fun e=>
  (
   iter (A1a l e) FUEL (0,e)).bind fun k=>
  (a i k).bind fun (b,g)=>
  bif !g then
   some (Sum.inr (Sum.inr b))
  else
   (J8 (c + 1)).bind fun h=>
   some (Sum.inl (b,h))
 else
  some (Sum.inr (Sum.inl i))
def A3M {σ:Type} (a:σ→(List Int)→Option (σ×Bool)) (h:σ) (b:D5):Option (σ):=
 (Y0 b.Q4).bind fun (i,j)=>
 (A2F b).bind fun d=>
 (i.C3k b.fA b.fB).bind fun c=>
 (
   iter (A0C a d c) FUEL (h,0)).bind fun g=>match g with
 | .inl e=>
   some e
 | .inr p=>
   some p
def A8I (a:D5):Option (D5):=
 some a
def A9g (i:D5) (a:List Int):((List (List Int))⊕Unit)→(List Int)→Option (((List (List Int))⊕Unit)×Bool):=fun o_ b=>
 match o_ with
 | .inl c=>
  (A1F i b).bind fun g=>
  bif g then
   (A0v a (fun h=>A8s h b)).bind fun e=>
   bif !e then
    (apL c [b]).bind fun d=>
    some (Sum.inl d,true)
   else
    some (Sum.inl c,true)
  else
   some (Sum.inl c,true)
 | .inr _=>none
def B4g (d:D5) (a:List Int):Option (List (List Int)):=
 (
   (A5I d).bind fun g=>
   bif !decide (g=0) then
     some true
   else
     (A0v a (fun l=>A8j l d)).bind fun j=>
     some j).bind fun h=>
 bif h then
   some ([]:List (List Int))
 else
   (A8I d).bind fun e=>
   (A3M (A9g d a) (Sum.inl ([]:List (List Int))) e).bind fun i=>match i with
   | .inl k=>
     (A5y k A3B).bind fun c=>
     (A2Y c A2S).bind fun b=>
     some b
   | .inr _=>none
end Go.Dm
open Go Go.Sl
namespace Go.Dm
def A7R (k:C9) (i:Int) (c:List Int):(Int×(List Int))→Option ((Int×(List Int))⊕(List Int)):=fun (b,a)=>
 bif decide (b < (c.length:Int)) then
  (H5 c b).bind fun g=>
  (A2o k.C8 i).bind fun h=>
  (J8 (g - h)).bind fun j=>
  (apL a [j]).bind fun e=>
  (J8 (b + 1)).bind fun d=>
  some (Sum.inl (d,e))
 else
  some (Sum.inr a)
def B6e (e:C9) (b:Int):Option (List (List Int)):=
 (B0n e b).bind fun d=>
 (
   iter (A7R e b d) FUEL (0,([]:List Int))).bind fun a=>
 (H5 e.C8 b).bind fun c=>
 (B4g c a).bind fun g=>
 some g
def B2x (c:C9) (a:Int):Option (List (List Int)):=
 (A2u c).bind fun (e,b)=>
 bif !decide (b=0) then
   some ([]:List (List Int))
 else
   bif decide (a < 0) then
     some ([]:List (List Int))
   else
     bif decide ((c.C8.length:Int)≤a) then
       some ([]:List (List Int))
     else
       (B6e c a).bind fun d=>
       some d
def C1d (c:Int) (a:List Bool) (b:Int):Option ((Int×(List Bool))⊕(Unit⊕(Int×Int))):=
 bif decide (0≤b) then
  (H5 a b).bind fun h=>
  bif h then
   some (Sum.inr (Sum.inr (c,51)))
  else
   bif decide (0≤b) then
    (H5 a b).bind fun l=>
    (some (List.set a b.toNat true)).bind fun g=>
    (J8 (c + 1)).bind fun i=>
    some (Sum.inl (i,g))
   else
    (J8 (c + 1)).bind fun d=>
    some (Sum.inl (d,a))
 else
  bif decide (0≤b) then
   (H5 a b).bind fun m=>
   (some (List.set a b.toNat true)).bind fun k=>
   (J8 (c + 1)).bind fun e=>
   some (Sum.inl (e,k))
  else
   (J8 (c + 1)).bind fun j=>
   some (Sum.inl (j,a))
def B5p (a:List Int) (d:Bool) (i:Int):(Int×(List Bool))→Option ((Int×(List Bool))⊕(Unit⊕(Int×Int))):=fun (b,c)=>
 bif decide (b < (a.length:Int)) then
  (H5 a b).bind fun e=>
  (
   bif decide (e=(-1)) then
    some d
   else
    some false).bind fun g=>
  bif g then
   some (Sum.inr (Sum.inr (b,52)))
  else
   (
    bif decide (e < (-1)) then
     some true
    else
     some (decide (i≤e))).bind fun h=>
   bif h then
    some (Sum.inr (Sum.inr (b,50)))
   else
    C1d b c e
 else
  some (Sum.inr (Sum.inl ()))
def B9P (g:C9) (a:List Int) (b:Bool):Option (Int×Int):=
 bif !decide ((a.length:Int)=(g.A8.length:Int)) then
   some (0,53)
 else
   (A2r g.C8).bind fun c=>
   (mkL c false).bind fun d=>
   (
     iter (B5p a b c) FUEL (0,d)).bind fun e=>match e with
   | .inl _u=>
     some (0,0)
   | .inr p=>
     some p
def B6r (g:C9) (b:List Int) (a:Bool):Option (Int×Int):=
 (A2u g).bind fun (h,c)=>
 bif !decide (c=0) then
   some (0,c)
 else
   (B9P g b a).bind fun (e,d)=>
   some (e,d)
def B3d (d:C9) (a:List Int):Option (Int×Int):=
 (B6r d a false).bind fun (c,b)=>
 some (c,b)
end Go.Dm
open Go Go.Sl
namespace Go.Dm
def A6A (o:C9):((List Int)×(List Int)×(List (List (List Int)))×Int)→Option (((List Int)×(List Int)×(List (List (List Int)))×Int)⊕((List Int)×(List Int)×(List (List (List Int))))):=fun (a,c,b,e)=>
 bif decide (e < (o.C8.length:Int)) then
  (apL c [(a.length:Int)]).bind fun j=>
  (
   (H5 o.C8 e).bind fun i=>
   (B1N i).bind fun h=>
   (A6h [e] h).bind fun k=>
   (apL a k).bind fun m=>
   some m).bind fun d=>
  (B2x o e).bind fun n=>
  (apL b [n]).bind fun g=>
  (J8 (e + 1)).bind fun l=>
  some (Sum.inl (d,j,g,l))
 else
  some (Sum.inr (a,c,b))
def A5S (j:C9):Option ((Option M0)×Int×Int):=
 (A6R j).bind fun (h,g,e)=>
 bif !decide (e=0) then
   some ((none),g,e)
 else
   h.bind fun d=>
   (A7Q d).bind fun i=>
   (
     iter (A6A j) FUEL (([]:List Int),([]:List Int),([]:List (List (List Int))),0)).bind fun (c,b,a)=>
   some ((some (M0.mk d i c b a)),0,0)
def A6r (c:Int) (a:Int):(Int×Int)→Option ((Int×Int)⊕(Int⊕Int)):=fun (h,g)=>
 bif decide (g < a) then
  (J8 (c - g)).bind fun d=>
  (J8 (h * d)).bind fun b=>
  bif decide (20000 < b) then
   some (Sum.inr (Sum.inr b))
  else
   (J8 (g + 1)).bind fun e=>
   some (Sum.inl (b,e))
 else
  some (Sum.inr (Sum.inl h))
def A6i (b:Int) (a:Int):Option (Int):=
 (
   iter (A6r b a) FUEL (1,0)).bind fun d=>match d with
 | .inl c=>
   some c
 | .inr p=>
   some p
def A0R (e:C9):Option ((Option M0)×Int):=
 (A5S e).bind fun (c,g,a)=>
 bif !decide (a=0) then
   some ((none),a)
 else
   c.bind fun b=>
   (A6i (b.A0d.length:Int) (e.A8.length:Int)).bind fun d=>
   bif decide (20000 < d) then
     some ((none),8)
   else
     some ((some b),0)
def A2V (b:M0):Option (List Int):=
 (A6h [(-1)] (b.fp.A8.length:Int)).bind fun a=>
 some a
def B5k (a:List Int) (g:Int):Int→Option (Int⊕Unit):=fun b=>
 bif decide (b < (a.length:Int)) then
  (H5 a b).bind fun c=>
  bif !decide (b=g) then
   bif decide (0≤c) then
    none
   else
    (J8 (b + 1)).bind fun e=>
    some (Sum.inl e)
  else
   (J8 (b + 1)).bind fun d=>
   some (Sum.inl d)
 else
  some (Sum.inr ())
def C1Q (n:M0) (a:List Int) (e:Int) (o:Int) (b:Int):Option (Bool):=
 (H5 n.A7V b).bind fun i=>
 bif decide ((i.length:Int)≤o) then
  none
 else
  (H5 n.A7V b).bind fun j=>
  (H5 j o).bind fun k=>
  (H5 n.B7I b).bind fun c=>
  (
   iter (B5k a e) FUEL 0).bind fun _u=>
  (H5 a e).bind fun h=>
  (J8 (h - c)).bind fun d=>
  (H5 k d).bind fun g=>
  (H5 a e).bind fun l=>
  (J8 (l - c)).bind fun m=>
  some (decide (g < m))
def B9n (g:M0) (a:List Int) (d:Int) (e:Int):Option (Bool):=
 (H5 a d).bind fun b=>
 (H5 g.A0d b).bind fun c=>
 bif decide (e < 0) then
   none
 else
   C1Q g a d e c
def B0v (n:M0) (b:List Int) (d:Int) (g:List Int) (c:Int):Option (Int⊕(Unit⊕Bool)):=
 (H5 b c).bind fun a=>
 (H5 n.A0d a).bind fun o=>
 bif !decide (o=d) then
  (J8 (c + 1)).bind fun m=>
  some (Sum.inl m)
 else
  (H5 n.B7I d).bind fun k=>
  (H5 n.B7I d).bind fun l=>
  (J8 (a - l)).bind fun i=>
  (H5 g i).bind fun h=>
  (J8 (k + h)).bind fun e=>
  bif decide (e < a) then
   some (Sum.inr (Sum.inr false))
  else
   bif decide (a < e) then
    some (Sum.inr (Sum.inl ()))
   else
    (J8 (c + 1)).bind fun j=>
    some (Sum.inl j)
def A2b (e:M0) (a:List Int) (d:Int) (c:List Int):Int→Option (Int⊕(Unit⊕Bool)):=fun b=>
 bif decide (b < (a.length:Int)) then
  B0v e a d c b
 else
  some (Sum.inr (Sum.inl ()))
def A2e (i:M0) (b:List Int) (h:Int) (c:List (List Int)):Int→Option (Int⊕(Unit⊕Bool)):=fun a=>
 bif decide (a < (c.length:Int)) then
  (H5 c a).bind fun d=>
  (
   iter (A2b i b h d) FUEL 0).bind fun g=>match g with
  | .inl _u=>
   (J8 (a + 1)).bind fun e=>
   some (Sum.inl e)
  | .inr p=>
   some (Sum.inr (Sum.inr p))
 else
  some (Sum.inr (Sum.inl ()))
def A3O (e:M0) (b:List Int):Int→Option (Int⊕(Unit⊕Bool)):=fun a=>
 bif decide (a < (e.A7V.length:Int)) then
  (H5 e.A7V a).bind fun d=>
  (
   iter (A2e e b a d) FUEL 0).bind fun c=>match c with
  | .inl _u=>
   (J8 (a + 1)).bind fun g=>
   some (Sum.inl g)
  | .inr p=>
   some (Sum.inr (Sum.inr p))
 else
  some (Sum.inr (Sum.inl ()))
def A1O (c:M0) (a:List Int):Option (Bool):=
 (
   iter (A3O c a) FUEL 0).bind fun b=>match b with
 | .inl _u=>
   some true
 | .inr p=>
   some p
def B3q (i:Int):(Int×(Option M0)×Int)→Option ((Int×(Option M0)×Int)⊕Int):=fun (b,d,a)=>
 bif decide (b < i) then
  d.bind fun c=>
  (A6i (c.A0d.length:Int) b).bind fun g=>
  (J8 (a + g)).bind fun e=>
  (J8 (b + 1)).bind fun h=>
  some (Sum.inl (h,(some c),e))
 else
  some (Sum.inr a)
def B8r (e:C9):Option (Int×Int):=
 (A0R e).bind fun (c,b)=>
 bif !decide (b=0) then
   none
 else
   (J8 ((e.A8.length:Int) + 1)).bind fun d=>
   (
     iter (B3q d) FUEL (0,c,0)).bind fun a=>
   some (a,0)
end Go.Dm
open Go Go.Sl
namespace Go.Dm
def A6d (b:List Int) (a:Int):Option (List Int):=
 (H5 b a).bind fun d=>
 (some (List.set b a.toNat (-1))).bind fun c=>
 some c
def A4G {σ:Type} (g:σ) (a:List Int) (c:Int):Int→Option (Int⊕(Unit⊕(σ×(List Int)))):=fun b=>
 bif decide (b < (a.length:Int)) then
  (H5 a b).bind fun e=>
  bif decide (e=c) then
   some (Sum.inr (Sum.inr (g,a)))
  else
   (J8 (b + 1)).bind fun d=>
   some (Sum.inl d)
 else
  some (Sum.inr (Sum.inl ()))
def B6S {σ:Type} (self:M0→(List Int)→(σ→(List Int)→Option (σ×Bool))→σ→Option (Bool×(List Int)×σ)) (o:M0) (c:σ→(List Int)→Option (σ×Bool)) (d:Int) (j:σ) (a:List Int) (g:Int):Option ((σ×(List Int))⊕(Bool×(List Int)×σ)):=
 (
  iter (A4G j a g) FUEL 0).bind fun i=>match i with
 | .inl _u=>
  (H5 a d).bind fun n=>
  (some (List.set a d.toNat g)).bind fun k=>
  (self o k c j).bind fun (l,b,e)=>
  bif !l then
   some (Sum.inr (false,b,e))
  else
   (H5 b d).bind fun m=>
   (some (List.set b d.toNat (-1))).bind fun h=>
   some (Sum.inl (e,h))
 | .inr p=>
  some (Sum.inl p)
def A6N {σ:Type} (self:M0→(List Int)→(σ→(List Int)→Option (σ×Bool))→σ→Option (Bool×(List Int)×σ)) (i:M0) (c:σ→(List Int)→Option (σ×Bool)) (h:Int):(σ×(List Int)×Int)→Option ((σ×(List Int)×Int)⊕((σ×(List Int))⊕(Bool×(List Int)×σ))):=fun (g,a,b)=>
 bif decide (b < (i.A0d.length:Int)) then
  (
   B6S self i c h g a b).bind fun e=>match e with
  | .inl (s115,part118)=>
   (J8 (b + 1)).bind fun d=>
   some (Sum.inl (s115,part118,d))
  | .inr p=>
   some (Sum.inr (Sum.inr p))
 else
  some (Sum.inr (Sum.inl (g,a)))
def B6R {σ:Type} (self:M0→(List Int)→(σ→(List Int)→Option (σ×Bool))→σ→Option (Bool×(List Int)×σ)) (i:M0) (a:List Int) (b:σ→(List Int)→Option (σ×Bool)) (h:σ):Option (Bool×(List Int)×σ):=
 (A3Y a (-1)).bind fun c=>
 bif decide (c < 0) then
  (b h a).bind fun (g,e)=>
  some (e,a,g)
 else
  (
   iter (A6N self i b c) FUEL (h,a,0)).bind fun d=>match d with
  | .inl (s95,part98)=>
   (match (true,part98,s95) with | (r_0_,q_1_,q_s_)=>(A6d q_1_ c).bind fun q_1_=>some (r_0_,q_1_,q_s_))
  | .inr p=>
   (match p with | (r_0_,q_1_,q_s_)=>(A6d q_1_ c).bind fun q_1_=>some (r_0_,q_1_,q_s_))
def A6g {σ:Type}:Nat→M0→(List Int)→(σ→(List Int)→Option (σ×Bool))→σ→Option (Bool×(List Int)×σ)
 | 0,_,_,_,_=>none
 | n + 1,h1,part2,yield4,s0=>
  (B2a h1.G5 part2).bind fun (b,a)=>
  bif a then
   some (true,part2,s0)
  else
   B6R (A6g n) h1 part2 yield4 s0
def A2d {σ:Type} (a:σ→(List Int)→Option (σ×Bool)) (d:σ) (g:M0) (i:List Int):Option (σ):=
 (A0Y i).bind fun h=>
 (A6g A6c g h a d).bind fun (e,c,b)=>
 some b
def A3Q (b:M0) (a:List Int):Option (M0×(List Int)):=
 some (b,a)
def B2W (b:Q8) (a:Int):Option ((Int×(List Int))⊕Z5):=
 some (Sum.inr (Z5.mk b.fat a))
def C0O (self:Q8→Int→Option ((Int×(List Int))⊕Z5)) (j:Q8) (b:N9) (d:Int) (a:List Int) (c:Int):Option ((Int×(List Int)×Int)⊕((Int×(List Int))⊕Z5)):=
 (A0Z a c).bind fun n=>
 bif !n then
  (H5 a b.fN).bind fun p=>
  (some (List.set a b.fN.toNat c)).bind fun k=>
  (self (Q8.mk j.A9E j.A7j j.A2E d k) b.fN).bind fun l=>match l with
  | .inr m=>
   some (Sum.inr (Sum.inr m))
  | .inl e=>
  (H5 e.2 b.fN).bind fun o=>
  (some (List.set e.2 b.fN.toNat (-1))).bind fun g=>
  (J8 (c + 1)).bind fun h=>
  some (Sum.inl (e.1,g,h))
 else
  (J8 (c + 1)).bind fun i=>
  some (Sum.inl (d,a,i))
def B3p (self:Q8→Int→Option ((Int×(List Int))⊕Z5)) (e:Q8) (d:N9):(Int×(List Int)×Int)→Option ((Int×(List Int)×Int)⊕((Int×(List Int))⊕Z5)):=fun (b,a,c)=>
 bif decide (c < (e.A9E.A0d.length:Int)) then
  C0O self e d b a c
 else
  some (Sum.inr (Sum.inl (b,a)))
def C0x (self:Q8→Int→Option ((Int×(List Int))⊕Z5)) (b:Q8) (a:N9):Option ((Int×(List Int))⊕Z5):=
 bif decide (a.fN < 0) then
  none
 else
  bif decide ((b.R5.length:Int)≤a.fN) then
   none
  else
   (H5 b.R5 a.fN).bind fun e=>
   bif decide (0≤e) then
    none
   else
    (J8 (b.fat + 1)).bind fun d=>
    (
     iter (B3p self b a) FUEL (d,b.R5,0)).bind fun c=>match c with
    | .inl (at57,part58)=>
     some (Sum.inl (at57,part58))
    | .inr p=>
     some (Sum.inr p)
def C0r (b:Q8) (a:Int) (h:N9):Option ((Int×(List Int))⊕Z5):=
 bif decide (h.H6=4) then
  bif decide (a < 0) then
   none
  else
   (B9n b.A9E b.R5 a h.fN).bind fun g=>
   bif !g then
    (B2W (Q8.mk b.A9E b.A7j b.A2E b.fat b.R5) 65).bind fun e=>match e with
    | .inr d=>
     some (Sum.inr d)
    | .inl i=>
    none
   else
    (J8 (b.fat + 1)).bind fun c=>
    some (Sum.inl (c,b.R5))
 else
  none
def B9H (b:Q8) (c:Int) (a:N9):Option ((Int×(List Int))⊕Z5):=
 bif decide (a.H6=2) then
  bif decide (a.fN < 0) then
   none
  else
   bif decide ((b.A9E.fp.F9.length:Int)≤a.fN) then
    none
   else
    (H5 b.A9E.fp.F9 a.fN).bind fun g=>
    bif decide (0 < g.J3) then
     none
    else
     (B8l b.A9E.G5 b.R5 a.fN).bind fun d=>
     bif decide (d=0) then
      none
     else
      (J8 (b.fat + 1)).bind fun e=>
      some (Sum.inl (e,b.R5))
 else
  bif decide (a.H6=3) then
   none
  else
   C0r b c a
def B0Q:Nat→Q8→Int→Option ((Int×(List Int))⊕Z5)
 | 0,_,_=>none
 | n + 1,r1,last2=>
  bif decide (r1.fat=(r1.A2E.length:Int)) then
   (B2W (Q8.mk r1.A9E r1.A7j r1.A2E r1.fat r1.R5) 60).bind fun c=>match c with
   | .inr b=>
    some (Sum.inr b)
   | .inl d=>
   none
  else
   (H5 r1.A2E r1.fat).bind fun a=>
   bif decide (a.H6=1) then
    C0x (B0Q n) r1 a
   else
    B9H r1 last2 a
end Go.Dm
open Go Go.Sl
namespace Go.Dm
def B8C (b:Int) (a:Int) (x_:Z5):Option (Int×Int):=
 some (x_.fat,x_.fe)
def A7P (k:C9) (b:Int) (a:List N9):Option (Int×Int):=
 (A5S k).bind fun (h,l,j)=>
 bif !decide (j=0) then
   none
 else
   bif decide (200000 < (a.length:Int)) then
     none
   else
     h.bind fun d=>
     (A2V d).bind fun e=>
     (B0Q A6c (Q8.mk d b a 0 e) (-1)).bind fun i=>match i with
     | .inr c=>
       some (c.fat,c.fe)
     | .inl g=>
     bif decide (g.1 < (a.length:Int)) then
       none
     else
       some (0,0)
def A5x (e:M0):((Int×Int)⊕Unit)→(List Int)→Option (((Int×Int)⊕Unit)×Bool):=fun o_ c=>
 match o_ with
 | .inl (c71,c72)=>
  (J8 (c71 + 1)).bind fun b=>
  (A1O e c).bind fun d=>
  bif d then
   (J8 (c72 + 1)).bind fun a=>
   some (Sum.inl (b,a),true)
  else
   some (Sum.inl (b,c72),true)
 | .inr _=>none
def A2a (h:C9):Option (Int×Int×Int):=
 (A0R h).bind fun (g,b)=>
 bif !decide (b=0) then
   some (0,0,b)
 else
   g.bind fun a=>
   (A2V a).bind fun e=>
   (A3Q a e).bind fun c=>
   (A2d (A5x a) (Sum.inl (0,0)) c.1 c.2).bind fun d=>match d with
   | .inl (c71,c72)=>
     some (c71,c72,0)
   | .inr _=>none
end Go.Dm
open Go Go.Sl
namespace Go.Dm
def A6Q (e:M0):(((List Int)×Int×Bool)⊕Unit)→(List Int)→Option ((((List Int)×Int×Bool)⊕Unit)×Bool):=fun o_ b=>
 match o_ with
 | .inl (plan74,cost79,c80)=>
  (A9D e.G5 b).bind fun a=>
  bif !c80 then
   (A0Y b).bind fun c=>
   some (Sum.inl (c,a,true),true)
  else
   bif decide (a < cost79) then
    (A0Y b).bind fun d=>
    some (Sum.inl (d,a,true),true)
   else
    some (Sum.inl (plan74,cost79,c80),true)
 | .inr _=>none
def A2U (h:C9):Option (A3D×Int):=
 (A0R h).bind fun (d,b)=>
 bif !decide (b=0) then
   some ((A3D.mk ([]:List Int) 0),b)
 else
   d.bind fun a=>
   (A2V a).bind fun e=>
   (A3Q a e).bind fun c=>
   (A2d (A6Q a) (Sum.inl (([]:List Int),0,false)) c.1 c.2).bind fun g=>match g with
   | .inl (plan74,cost79,c80)=>
     bif !c80 then
       some ((A3D.mk ([]:List Int) 0),9)
     else
       some ((A3D.mk plan74 cost79),0)
   | .inr _=>none
def B4Y (a:Int) (g:M0):((Int×(List (List Int)))⊕(Int×(List (List Int))))→(List Int)→Option (((Int×(List (List Int)))⊕(Int×(List (List Int))))×Bool):=fun o_ b=>
 match o_ with
 | .inl (c79,c80)=>
  (A1O g b).bind fun e=>
  bif !e then
   some (Sum.inl (c79,c80),true)
  else
   bif decide (a≤(c80.length:Int)) then
    some (Sum.inr (7,c80),false)
   else
    (A0Y b).bind fun d=>
    (apL c80 [d]).bind fun c=>
    some (Sum.inl (c79,c),true)
 | .inr _=>none
def B5S (i:C9) (a:Int):Option ((List (List Int))×Int):=
 (A0R i).bind fun (e,h)=>
 bif !decide (h=0) then
   none
 else
   e.bind fun b=>
   (A2V b).bind fun d=>
   (A3Q b d).bind fun c=>
   (A2d (B4Y a b) (Sum.inl (0,([]:List (List Int)))) c.1 c.2).bind fun g=>match g with
   | .inl (c79,c80)=>
     some (c80,0)
   | .inr (c79,c80)=>
     some (([]:List (List Int)),c79)
def B1y:((List Int)⊕(List Int))→(List Int)→Option (((List Int)⊕(List Int))×Bool):=fun o_ b=>
 match o_ with
 | .inl c=>
  (A0Y b).bind fun a=>
  some (Sum.inr a,false)
 | .inr _=>none
def B7U (b:List Int) (h:Option M0) (a:Int):Option ((List Int)×Int):=
 h.bind fun g=>
 (J8 ((g.A0d.length:Int) - a)).bind fun j=>
 (J8 ((b.length:Int) - a)).bind fun k=>
 (A6i j k).bind fun i=>
 bif decide (20000 < i) then
  some (([]:List Int),8)
 else
  (A3Q g b).bind fun d=>
  (A2d B1y (Sum.inl ([]:List Int)) d.1 d.2).bind fun e=>match e with
  | .inl c=>
   some (([]:List Int),9)
  | .inr c=>
   some (c,0)
def B1r (b:List Int):(Int×Int)→Option ((Int×Int)⊕Int):=fun (a,c)=>
 bif decide (c < (b.length:Int)) then
  (H5 b c).bind fun d=>
  bif decide (0≤d) then
   (J8 (a + 1)).bind fun g=>
   (J8 (c + 1)).bind fun h=>
   some (Sum.inl (g,h))
  else
   (J8 (c + 1)).bind fun e=>
   some (Sum.inl (a,e))
 else
  some (Sum.inr a)
def B4L (g:C9) (a:List Int):Option ((List Int)×Int):=
 (A5S g).bind fun (e,h,d)=>
 bif !decide (d=0) then
   some (([]:List Int),d)
 else
   (B3d g a).bind fun (i,c)=>
   bif !decide (c=0) then
     some (([]:List Int),c)
   else
     (
       iter (B1r a) FUEL (0,0)).bind fun b=>
     B7U a e b
end Go.Dm
open Go Go.Sl
namespace Go.Dm
def A9w (c:I1) (b:I1):Option (Int):=
 (J8 (c.A1T - b.A1T)).bind fun a=>
 some a
def B2K:(List I1)→Int×I1→Option (List I1):=fun a (d,c)=>
 (apL a [c]).bind fun b=>
 some b
def B2I:(List I1)→Option ((List I1)×Int):=fun a=>
 (B3D a A9w).bind fun b=>
 some (b,0)
def B2F (g:M0):((List (Int×I1))⊕Unit)→(List Int)→Option (((List (Int×I1))⊕Unit)×Bool):=fun o_ i=>
 match o_ with
 | .inl d=>
  (A9D g.G5 i).bind fun a=>
  (lkM d a (I1.mk 0 0 0)).bind fun (b,l)=>
  (J8 (b.A2G + 1)).bind fun c=>
  (A1O g i).bind fun h=>
  bif h then
   (J8 (b.Y8 + 1)).bind fun e=>
   (some (A2q d a (I1.mk a e c))).bind fun k=>
   some (Sum.inl k,true)
  else
   (some (A2q d a (I1.mk a b.Y8 c))).bind fun j=>
   some (Sum.inl j,true)
 | .inr _=>none
def B6y (i:C9):Option ((List I1)×Int):=
 (A0R i).bind fun (e,d)=>
 bif !decide (d=0) then
   none
 else
   e.bind fun a=>
   (A2V a).bind fun h=>
   (A3Q a h).bind fun b=>
   (A2d (B2F a) (Sum.inl ([]:List (Int×I1))) b.1 b.2).bind fun g=>match g with
   | .inl c=>
     C5Q c (fun l_=>Option.bind (A0e B2K ([]:List I1) l_) B2I)
   | .inr _=>none
end Go.Dm
open Go Go.Sl
namespace Go.Dm
end Go.Dm
open Go Go.Sl
namespace Go.Dm
def B2L (e:List Int) (g:List Int):Int→Option (Int⊕(Unit⊕Bool)):=fun a=>
 bif decide (a < (e.length:Int)) then
  (H5 e a).bind fun d=>
  (H5 g a).bind fun b=>
  bif !decide (d=b) then
   some (Sum.inr (Sum.inr false))
  else
   (J8 (a + 1)).bind fun c=>
   some (Sum.inl c)
 else
  some (Sum.inr (Sum.inl ()))
def A9f (a:List Int) (b:List Int):Option (Bool):=
 bif !decide ((a.length:Int)=(b.length:Int)) then
   some false
 else
   (
     iter (B2L a b) FUEL 0).bind fun c=>match c with
   | .inl _u=>
     some true
   | .inr p=>
     some p
def B1p (g:List (List Int)) (h:List (List Int)):Int→Option (Int⊕Unit):=fun a=>
 bif decide (a < (g.length:Int)) then
  (H5 g a).bind fun b=>
  (H5 h a).bind fun e=>
  (A9f b e).bind fun d=>
  bif !d then
   none
  else
   (J8 (a + 1)).bind fun c=>
   some (Sum.inl c)
 else
  some (Sum.inr ())
def B4N (b:List (List Int)) (a:List (List Int)):Option (Bool):=
 bif !decide ((b.length:Int)=(a.length:Int)) then
   none
 else
   (
     iter (B1p b a) FUEL 0).bind fun _u=>
   some true
def C0f (c:List I1) (b:A3D) (e:List (List Int)) (i:List Int):Option (Bool):=
 (H5 c 1).bind fun a=>
 bif (decide (a.A1T=5) && (decide (a.Y8=2) && (decide (a.A2G=16) && true))) then
  bif decide (b.A1T=0) then
   (A9f b.C8Y [0,2,1]).bind fun h=>
   bif h then
    (B4N e [[0,1,2],[0,1,3],[0,2,1]]).bind fun d=>
    bif d then
     (A9f i [1,0,2]).bind fun g=>
     some g
    else
     none
   else
    none
  else
   none
 else
  none
def C0j:Option (Bool):=
 (B0P [(F3.mk 3 5 (⟨#[97,110,110,97]⟩:ByteArray) (⟨#[98,111,114,105,115]⟩:ByteArray) (⟨#[]⟩:ByteArray) 0)]).bind fun a=>
 (B6y a).bind fun (c,n)=>
 (A2U a).bind fun (d,g)=>
 (B5S a 3).bind fun (j,l)=>
 (B5S a 2).bind fun (p,e)=>
 (B4L a [(-1),0,(-1)]).bind fun (o,k)=>
 (J8 (n + g)).bind fun m=>
 (J8 (m + l)).bind fun h=>
 (J8 (h + k)).bind fun i=>
 bif decide (i=0) then
  bif decide (e=7) then
   bif decide ((c.length:Int)=2) then
    (H5 c 0).bind fun b=>
    bif (decide (b.A1T=0) && (decide (b.Y8=1) && (decide (b.A2G=8) && true))) then
     C0f c d j o
    else
     none
   else
    none
  else
   none
 else
  none
def C0B (g:Int) (e:Int) (h:Int):Option (Bool):=
 bif !decide (g=60) then
  none
 else
  bif !decide (e=5) then
   none
  else
   bif !decide (h=65) then
    none
   else
    (B0P ([]:List F3)).bind fun a=>
    (A2a a).bind fun (d,b,c)=>
    bif !decide (d=24) then
     none
    else
     bif !decide (b=3) then
      none
     else
      bif !decide (c=0) then
       none
      else
       C0j
def B9s (h:C9):Option (Bool):=
 (bdV 0 7 ([(N9.mk 1 0),(N9.mk 1 1),(N9.mk 2 0),(N9.mk 2 0),(N9.mk 2 0),(N9.mk 4 2),(N9.mk 4 4),(N9.mk 4 1)].length:Int)).bind fun i=>
 (A7P h (-1) (Go.Sl.sub [(N9.mk 1 0),(N9.mk 1 1),(N9.mk 2 0),(N9.mk 2 0),(N9.mk 2 0),(N9.mk 4 2),(N9.mk 4 4),(N9.mk 4 1)] (0:Int).toNat (7:Int).toNat)).bind fun (b,e)=>
 (H5 [(N9.mk 1 0),(N9.mk 1 1),(N9.mk 2 0),(N9.mk 2 0),(N9.mk 2 0),(N9.mk 4 2),(N9.mk 4 4),(N9.mk 4 1)] 5).bind fun c=>
 (some (List.set [(N9.mk 1 0),(N9.mk 1 1),(N9.mk 2 0),(N9.mk 2 0),(N9.mk 2 0),(N9.mk 4 2),(N9.mk 4 4),(N9.mk 4 1)] (5:Int).toNat (N9.mk c.H6 0))).bind fun a=>
 (A7P h (-1) a).bind fun (d,g)=>
 bif !decide (b=7) then
  none
 else
  C0B e d g
def A5P  : Option (Bool):=
 (B0P [(F3.mk 1 0 (⟨#[97,110,110,97]⟩:ByteArray) (⟨#[98,111,114,105,115]⟩:ByteArray) (⟨#[]⟩:ByteArray) 2)]).bind fun a=>
 (A2a a).bind fun (j,g,h)=>
 (B8r a).bind fun (d,c)=>
 (A7P a (-1) [(N9.mk 1 0),(N9.mk 1 1),(N9.mk 2 0),(N9.mk 2 0),(N9.mk 2 0),(N9.mk 4 2),(N9.mk 4 4),(N9.mk 4 1)]).bind fun (b,i)=>
 (J8 (j + g)).bind fun e=>
 bif !decide (e=0) then
   none
 else
   bif !decide (h=0) then
     none
   else
     bif !decide (d=41) then
       none
     else
       bif !decide (c=0) then
         none
       else
         bif !decide (b=0) then
           none
         else
           bif !decide (i=0) then
             none
           else
             B9s a
def B6n (c:Int) (b:Int):Option (Int):=
 (V9 c b).bind fun a=>
 bif decide (a < 0) then
   (J8 (a + b)).bind fun d=>
   some d
 else
   some a
def A8R (j:C9) (b:List Int):((List F3)×Int)→Option (((List F3)×Int)⊕(List F3)):=fun (a,c)=>
 bif decide (c < (j.F9.length:Int)) then
  (H5 j.F9 c).bind fun g=>
  (A0Z b c).bind fun h=>
  bif h then
   (apL a [g]).bind fun e=>
   (J8 (c + 1)).bind fun i=>
   some (Sum.inl (e,i))
  else
   (J8 (c + 1)).bind fun d=>
   some (Sum.inl (a,d))
 else
  some (Sum.inr a)
def B3S (e:C9) (a:List Int):Option (C9):=
 (A2u e).bind fun (g,d)=>
 bif !decide (d=0) then
   some (C9.mk ([]:List D5) ([]:List E8) ([]:List H7) ([]:List Int) ([]:List F3))
 else
   (A5W e).bind fun c=>
   (
     iter (A8R e a) FUEL (([]:List F3),0)).bind fun b=>
   some (C9.mk c.C8 c.A8 c.M9 c.R8 b)
def A8K (j:C9) (i:C9) (d:Int):Option (Bool):=
 (A2U j).bind fun (e,a)=>
 (A2U i).bind fun (g,b)=>
 bif decide (a=0) then
  bif decide (b=0) then
   bif decide (g.A1T≤e.A1T) then
    A5P.bind fun c=>
    some c
   else
    some false
  else
   some false
 else
  bif decide (a=9) then
   bif (decide (b=0) == decide (0 < d)) then
    A5P.bind fun h=>
    some h
   else
    some false
  else
   some false
def A8O (b:C9) (l:Int) (c:List Int):Option (Bool):=
 (B3S b c).bind fun e=>
 (A2a b).bind fun (d,m,i)=>
 (A2a e).bind fun (a,n,j)=>
 (
  (J8 (i + j)).bind fun g=>
  bif !decide (g=0) then
   some true
  else
   bif decide (a < d) then
    some true
   else
    (H5 b.F9 l).bind fun k=>
    bif decide (0 < k.J3) then
     some (!decide (d=a))
    else
     some false).bind fun h=>
 bif h then
  some false
 else
  A8K b e a
def A2B (h:C9) (g:Int):((List Int)×Int)→Option (((List Int)×Int)⊕(List Int)):=fun (a,b)=>
 bif decide (b < (h.F9.length:Int)) then
  bif !decide (b=g) then
   (apL a [b]).bind fun c=>
   (J8 (b + 1)).bind fun d=>
   some (Sum.inl (c,d))
  else
   (J8 (b + 1)).bind fun e=>
   some (Sum.inl (a,e))
 else
  some (Sum.inr a)
def A7w (j:R7) (a:Int):Option (Bool):=
 (B0w j).bind fun b=>
 bif decide ((b.F9.length:Int)=0) then
   (A2a b).bind fun (h,k,e)=>
   (
     bif decide (0 < h) then
       bif decide (e=0) then
         A5P.bind fun g=>
         some g
       else
         some false
     else
       some false).bind fun i=>
   some i
 else
   (B6n a (b.F9.length:Int)).bind fun d=>
   (
     iter (A2B b d) FUEL (([]:List Int),0)).bind fun c=>
   A8O b d c
end Go.Dm
