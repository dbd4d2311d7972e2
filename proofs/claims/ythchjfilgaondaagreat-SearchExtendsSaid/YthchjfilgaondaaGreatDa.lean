import Derived.Test.YthchjfilgaondaaGreatL9
import Derived.Test.YthchjfilgaondaaGreatL12
/- Functions. -/
set_option maxRecDepth 1000000
set_option maxHeartbeats 40000000
set_option linter.unusedVariables false
set_option linter.unusedSimpArgs false
set_option linter.unusedSectionVars false
set_option linter.unnecessarySimpa false
open Go Go.Sl Sum
namespace Go.Dm
theorem inj2 {α β:Type} {a c:α} {b d:β} (h:some (a,b)=some (c,d)):a=c∧b=d:=by cases h; exact ⟨rfl,rfl⟩
abbrev A2Y:Nat:=100000
structure D5 where
 F8:ByteArray
 Q6:Int
 fA:Int
 fB:Int
 A2Q:List Int
 fX:Int
 fY:Int
deriving DecidableEq
structure E9 where
 F8:ByteArray
 A1X:ByteArray
 X4:ByteArray
 A0j:Int
 A0x:Int
 A0y:ByteArray
 X9:Bool
 Y8:Bool
 O9:List ByteArray
deriving DecidableEq
structure I1 where
 fA:ByteArray
 fB:ByteArray
 F9:Int
deriving DecidableEq
structure F4 where
 F9:Int
 K8:Int
 fA:ByteArray
 fB:ByteArray
 I7:ByteArray
 fN:Int
deriving DecidableEq
structure H8 where
 A3e:Int
 Y9:Int
 A2L:Int
deriving DecidableEq
structure R4 where
 A8:List E9
 O0:List I1
deriving DecidableEq
structure C9 where
 C8:List D5
 A8:List E9
 O0:List I1
 S9:List Int
 K5:List F4
deriving DecidableEq
structure T9 where
 C8:List Int
 A8:List Int
 O0:List Int
 K5:List Int
deriving DecidableEq
structure A1u where
 A7s:ByteArray
 C6e:Int→Int→Option Int
 Y2:Int→Int→Int→Int→Option Bool
 A0w:Int→Int→Int→Int→Option Bool
 B9R:Int→Int→Option Int
 C3G:Int→Int→Option (List (Int→Option Int))
structure U2 where
 V6:List E9
 A0L:List I1
deriving DecidableEq
structure L6 where
 K7:U2
 fat:List (ByteArray×Int)
deriving DecidableEq
structure H7 where
 A7s:ByteArray
 fa:Int
 fb:Bool
 ft:Int
 fn:Bool
 flo:Int
 A6l:Bool
 C5T:Nat
deriving DecidableEq
structure Q5 where
 P9:C9
 C1v:List (Int×H7)
 A0k:List Int
 B8v:List Int
 C5P:List Bool
 Y2:List (List Int)
 A0w:List (List Int)
 A3q:List (List (Int×Int))
 B2q:List (List Bool)
 A0L:List (List Int)
deriving DecidableEq
structure F5 where
 F7:Q5
 Q9:List Int
 B3N:List Int
deriving DecidableEq
structure M7 where
 F7:Q5
 fp:C9
 A0k:List Int
 B8D:List Int
 B2C:List (List (List Int))
deriving DecidableEq
structure O3 where
 F9:Int
 fN:Int
deriving DecidableEq
structure R3 where
 A9V:M7
 A7x:Int
 A3q:List O3
 fat:Int
 Q9:List Int
deriving DecidableEq
structure A0c where
 fat:Int
 fe:Int
deriving DecidableEq
structure A9B where
 D0m:List Int
 A3e:Int
deriving DecidableEq
end Go.Dm
open Go Go.Sl Sum
namespace Go.Dm
def A2T (d:List Int) (e:Int):Int→Option (Int⊕(Unit⊕Int)):=λa=>
 bif decide (a<(d.length:Int)) then
  (G9 d a).bind λc=>
  bif decide (e=c) then
   some (inr (inr a))
  else
   (J8 (a+1)).bind λb=>
   some (inl b)
 else
  some (inr (inl ()))
def A4g (c:List Int) (b:Int):Option (Int):=
 (
   iter (A2T c b) FUEL 0).bind λa=>match a with
 | .inl _u=>
   some (-1)
 | .inr p=>
   some p
def A1f (b:List Int) (c:Int):Option (Bool):=
 (A4g b c).bind λa=>
 some (decide (0≤a))
def A1R (e:List Int) (g:Int→Option Bool):Int→Option (Int⊕(Unit⊕Int)):=λa=>
 bif decide (a<(e.length:Int)) then
  (G9 e a).bind λc=>
  (g c).bind λd=>
  bif d then
   some (inr (inr a))
  else
   (J8 (a+1)).bind λb=>
   some (inl b)
 else
  some (inr (inl ()))
def A8V (c:List Int) (b:Int→Option Bool):Option (Int):=
 (
   iter (A1R c b) FUEL 0).bind λa=>match a with
 | .inl _u=>
   some (-1)
 | .inr p=>
   some p
def A0B (b:List Int) (c:Int→Option Bool):Option (Bool):=
 (A8V b c).bind λa=>
 some (decide (0≤a))
def A2r (e:List D5) (g:D5→Option Bool):Int→Option (Int⊕(Unit⊕Int)):=λa=>
 bif decide (a<(e.length:Int)) then
  (G9 e a).bind λc=>
  (g c).bind λd=>
  bif d then
   some (inr (inr a))
  else
   (J8 (a+1)).bind λb=>
   some (inl b)
 else
  some (inr (inl ()))
def A2q (c:List D5) (b:D5→Option Bool):Option (Int):=
 (
   iter (A2r c b) FUEL 0).bind λa=>match a with
 | .inl _u=>
   some (-1)
 | .inr p=>
   some p
def A4j (b:List D5) (c:D5→Option Bool):Option (Bool):=
 (A2q b c).bind λa=>
 some (decide (0≤a))
def A2p (e:List E9) (g:E9→Option Bool):Int→Option (Int⊕(Unit⊕Int)):=λa=>
 bif decide (a<(e.length:Int)) then
  (G9 e a).bind λc=>
  (g c).bind λd=>
  bif d then
   some (inr (inr a))
  else
   (J8 (a+1)).bind λb=>
   some (inl b)
 else
  some (inr (inl ()))
def A3X (c:List E9) (b:E9→Option Bool):Option (Int):=
 (
   iter (A2p c b) FUEL 0).bind λa=>match a with
 | .inl _u=>
   some (-1)
 | .inr p=>
   some p
def A6C (d:List ByteArray) (e:ByteArray):Int→Option (Int⊕(Unit⊕Int)):=λa=>
 bif decide (a<(d.length:Int)) then
  (G9 d a).bind λc=>
  bif decide (e=c) then
   some (inr (inr a))
  else
   (J8 (a+1)).bind λb=>
   some (inl b)
 else
  some (inr (inl ()))
def B0V (c:List ByteArray) (b:ByteArray):Option (Int):=
 (
   iter (A6C c b) FUEL 0).bind λa=>match a with
 | .inl _u=>
   some (-1)
 | .inr p=>
   some p
def A6R (b:List ByteArray) (c:ByteArray):Option (Bool):=
 (B0V b c).bind λa=>
 some (decide (0≤a))
def A1x (a:Int):Option (Bool):=
 some (!decide (a=a))
def A7h (b:Int) (c:Int):Option (Int):=
 (A1x b).bind λd=>
 (A1x c).bind λa=>
 bif d then
   bif a then
     some 0
   else
     some (-1)
 else
   bif a then
     some 1
   else
     bif decide (b<c) then
       some (-1)
     else
       bif decide (c<b) then
         some 1
       else
         some 0
def B0Y (a:Int) (c:Int):Option (Bool):=
 (A1x a).bind λd=>
 bif d then
   (A1x c).bind λb=>
   bif !b then
     some true
   else
     some (decide (a<c))
 else
   some (decide (a<c))
def A2O (d:List Int) (a:List Int):Int→Option (Int⊕(Unit⊕Int)):=λc=>
 bif decide (c<(d.length:Int)) then
  (G9 d c).bind λh=>
  bif decide ((a.length:Int)≤c) then
   some (inr (inr 1))
  else
   (G9 a c).bind λg=>
   (A7h h g).bind λb=>
   bif !decide (b=0) then
    some (inr (inr b))
   else
    (J8 (c+1)).bind λe=>
    some (inl e)
 else
  some (inr (inl ()))
def A3M (a:List Int) (b:List Int):Option (Int):=
 (
   iter (A2O a b) FUEL 0).bind λc=>match c with
 | .inl _u=>
   bif decide ((a.length:Int)<(b.length:Int)) then
     some (-1)
   else
     some 0
 | .inr p=>
   some p
def A6E (a:List Int) (d:List Int):Int→Option (Int⊕(Unit⊕Bool)):=λb=>
 bif decide (b<(a.length:Int)) then
  (G9 a b).bind λe=>
  (G9 d b).bind λg=>
  bif !decide (e=g) then
   some (inr (inr false))
  else
   (J8 (b+1)).bind λc=>
   some (inl c)
 else
  some (inr (inl ()))
def A3c (a:List Int) (b:List Int):Option (Bool):=
 bif !decide ((a.length:Int)=(b.length:Int)) then
   some false
 else
   (
     iter (A6E a b) FUEL 0).bind λc=>match c with
   | .inl _u=>
     some true
   | .inr p=>
     some p
def A0D (b:List Int):Option (List Int):=
 (apL ([]:List Int) b).bind λa=>
 some a
def A8e (b:List D5):Option (List D5):=
 (apL ([]:List D5) b).bind λa=>
 some a
def A8t (b:List E9):Option (List E9):=
 (apL ([]:List E9) b).bind λa=>
 some a
def A4v (b:List ByteArray):Option (List ByteArray):=
 (apL ([]:List ByteArray) b).bind λa=>
 some a
def B0F (b:List I1):Option (List I1):=
 (apL ([]:List I1) b).bind λa=>
 some a
def A9w (b:List F4):Option (List F4):=
 (apL ([]:List F4) b).bind λa=>
 some a
end Go.Dm
open Go Go.Sl Sum
namespace Go.Dm
def C1T (e:Int) (h:Int):Option (Int):=
 (A3Y .u64 e 8).bind λb=>
 (J8 (h+8)).bind λc=>
 (A0U .u8 b).bind λd=>
 (B9n (⟨#[0,1,2,2,3,3,3,3,4,4,4,4,4,4,4,4,5,5,5,5,5,5,5,5,5,5,5,5,5,5,5,5,6,6,6,6,6,6,6,6,6,6,6,6,6,6,6,6,6,6,6,6,6,6,6,6,6,6,6,6,6,6,6,6,7,7,7,7,7,7,7,7,7,7,7,7,7,7,7,7,7,7,7,7,7,7,7,7,7,7,7,7,7,7,7,7,7,7,7,7,7,7,7,7,7,7,7,7,7,7,7,7,7,7,7,7,7,7,7,7,7,7,7,7,7,7,7,7,8,8,8,8,8,8,8,8,8,8,8,8,8,8,8,8,8,8,8,8,8,8,8,8,8,8,8,8,8,8,8,8,8,8,8,8,8,8,8,8,8,8,8,8,8,8,8,8,8,8,8,8,8,8,8,8,8,8,8,8,8,8,8,8,8,8,8,8,8,8,8,8,8,8,8,8,8,8,8,8,8,8,8,8,8,8,8,8,8,8,8,8,8,8,8,8,8,8,8,8,8,8,8,8,8,8,8,8,8,8,8,8,8,8,8,8,8,8,8,8,8,8,8,8,8,8,8,8]⟩:ByteArray) d).bind λa=>
 (A0U .i64 a).bind λg=>
 (J8 (c+g)).bind λi=>
 some i
def C2J (c:Int) (d:Int):Option (Int):=
 (A0U .u8 c).bind λe=>
 (B9n (⟨#[0,1,2,2,3,3,3,3,4,4,4,4,4,4,4,4,5,5,5,5,5,5,5,5,5,5,5,5,5,5,5,5,6,6,6,6,6,6,6,6,6,6,6,6,6,6,6,6,6,6,6,6,6,6,6,6,6,6,6,6,6,6,6,6,7,7,7,7,7,7,7,7,7,7,7,7,7,7,7,7,7,7,7,7,7,7,7,7,7,7,7,7,7,7,7,7,7,7,7,7,7,7,7,7,7,7,7,7,7,7,7,7,7,7,7,7,7,7,7,7,7,7,7,7,7,7,7,7,8,8,8,8,8,8,8,8,8,8,8,8,8,8,8,8,8,8,8,8,8,8,8,8,8,8,8,8,8,8,8,8,8,8,8,8,8,8,8,8,8,8,8,8,8,8,8,8,8,8,8,8,8,8,8,8,8,8,8,8,8,8,8,8,8,8,8,8,8,8,8,8,8,8,8,8,8,8,8,8,8,8,8,8,8,8,8,8,8,8,8,8,8,8,8,8,8,8,8,8,8,8,8,8,8,8,8,8,8,8,8,8,8,8,8,8,8,8,8,8,8,8,8,8,8,8,8,8]⟩:ByteArray) e).bind λa=>
 (A0U .i64 a).bind λb=>
 (J8 (d+b)).bind λg=>
 some g
def bits_Len64 (d:Int):Option (Int):=
 (
   bif decide (4294967296≤d) then
     (A3Y .u64 d 32).bind λi=>
     some (i,32)
   else
     some (d,0)).bind λ(g,h)=>
 (
   bif decide (65536≤g) then
     (A3Y .u64 g 16).bind λe=>
     (J8 (h+16)).bind λc=>
     some (e,c)
   else
     some (g,h)).bind λ(a,b)=>
 bif decide (256≤a) then
   C1T a b
 else
   C2J a b
def bits_Len (a:Int):Option (Int):=
 (bits_Len64 a).bind λb=>
 some b
def B2x (a:List Int) (b:Int) (g:Bool):Option (((List Int)×Int)⊕(List Int)):=
 bif g then
  (J8 (b - 1)).bind λc=>
  (J8 (b - 1)).bind λk=>
  (G9 a k).bind λe=>
  (G9 a b).bind λj=>
  (G9 a b).bind λm=>
  (some (List.set a b.toNat e)).bind λd=>
  (G9 d c).bind λl=>
  (some (List.set d c.toNat j)).bind λi=>
  (J8 (b - 1)).bind λh=>
  some (inl (i,h))
 else
  some (inr a)
def A4N (i:Int):((List Int)×Int)→Option (((List Int)×Int)⊕(List Int)):=λ(a,b)=>
 (
  bif decide (i<b) then
   (G9 a b).bind λg=>
   (J8 (b - 1)).bind λe=>
   (G9 a e).bind λd=>
   (B0Y g d).bind λc=>
   some c
  else
   some false).bind λh=>
 B2x a b h
def A4D (e:Int) (g:Int):((List Int)×Int)→Option (((List Int)×Int)⊕(List Int)):=λ(a,c)=>
 bif decide (c<g) then
  (
   iter (A4N e) FUEL (a,c)).bind λb=>
  (J8 (c+1)).bind λd=>
  some (inl (b,d))
 else
  some (inr a)
def B4G (b:List Int) (c:Int) (e:Int):Option (List Int):=
 (J8 (c+1)).bind λd=>
 (
   iter (A4D c e) FUEL (b,d)).bind λa=>
 some a
def A9v (b:List Int) (e:Int) (g:Int) (a:Int):Unit→Option (Unit⊕(List Int)):=λ_u=>
 (J8 (g - e)).bind λc=>
 bif decide (c≤12) then
  (B4G b e g).bind λd=>
  some (inr d)
 else
  bif decide (a=0) then
   none
  else
   none
def B7W:Nat→(List Int)→Int→Int→Int→Option (List Int)
 | 0,_,_,_,_=>none
 | n+1,data1,a3,b4,limit5=>
  (
   iter (A9v data1 a3 b4 limit5) FUEL ()).bind λp=>some p
def B2k (b:List Int):Option (List Int):=
 (A0U .u64 (b.length:Int)).bind λc=>
 (bits_Len c).bind λd=>
 (B7W A2Y b 0 (b.length:Int) d).bind λa=>
 some a
def A8Y (a:List Int) (b:Int) (h:Bool):Option (((List Int)×Int)⊕(List Int)):=
 bif h then
  (J8 (b - 1)).bind λc=>
  (J8 (b - 1)).bind λk=>
  (G9 a k).bind λj=>
  (G9 a b).bind λi=>
  (G9 a b).bind λm=>
  (some (List.set a b.toNat j)).bind λd=>
  (G9 d c).bind λl=>
  (some (List.set d c.toNat i)).bind λe=>
  (J8 (b - 1)).bind λg=>
  some (inl (e,g))
 else
  some (inr a)
def A2d (j:Int) (c:Int→Int→Option Int):((List Int)×Int)→Option (((List Int)×Int)⊕(List Int)):=λ(a,b)=>
 (
  bif decide (j<b) then
   (G9 a b).bind λi=>
   (J8 (b - 1)).bind λe=>
   (G9 a e).bind λg=>
   (c i g).bind λh=>
   some (decide (h<0))
  else
   some false).bind λd=>
 A8Y a b d
def A2e (g:Int) (h:Int) (d:Int→Int→Option Int):((List Int)×Int)→Option (((List Int)×Int)⊕(List Int)):=λ(a,c)=>
 bif decide (c<h) then
  (
   iter (A2d g d) FUEL (a,c)).bind λb=>
  (J8 (c+1)).bind λe=>
  some (inl (b,e))
 else
  some (inr a)
def A6D (b:List Int) (d:Int) (g:Int) (c:Int→Int→Option Int):Option (List Int):=
 (J8 (d+1)).bind λe=>
 (
   iter (A2e d g c) FUEL (b,e)).bind λa=>
 some a
def B3p (d:Int) (a:Int) (b:Int):Unit→Option (Unit⊕Unit):=λ_u=>
 bif decide (b≤d) then
  (J8 (0+a)).bind λc=>
  none
 else
  some (inr ())
def A9d (b:Int):Int→Option (Int⊕Unit):=λa=>
 bif decide (a<b) then
  (J8 (2*a)).bind λe=>
  (
   iter (B3p b a e) FUEL ()).bind λ_u=>
  (J8 (0+a)).bind λc=>
  bif decide (c<b) then
   none
  else
   (J8 (a*2)).bind λd=>
   some (inl d)
 else
  some (inr ())
def A9e (h:Int) (c:Int→Int→Option Int):((List Int)×Int×Int)→Option (((List Int)×Int×Int)⊕((List Int)×Int)):=λ(a,d,b)=>
 bif decide (b≤h) then
  (A6D a d b c).bind λe=>
  (J8 (b+20)).bind λg=>
  some (inl (e,b,g))
 else
  some (inr (a,d))
def B2T (c:List Int) (g:Int) (b:Int→Int→Option Int):Option (List Int):=
 (
   iter (A9e g b) FUEL (c,0,20)).bind λ(a,e)=>
 (A6D a e g b).bind λd=>
 (
   iter (A9d g) FUEL 20).bind λ_u=>
 some d
def A4L (b:List Int) (a:Int→Int→Option Int):Option (List Int):=
 (B2T b (b.length:Int) a).bind λc=>
 some c
def A7A (a:List (List Int)) (b:Int) (h:Bool):Option (((List (List Int))×Int)⊕(List (List Int))):=
 bif h then
  (J8 (b - 1)).bind λe=>
  (J8 (b - 1)).bind λj=>
  (G9 a j).bind λi=>
  (G9 a b).bind λk=>
  (G9 a b).bind λm=>
  (some (List.set a b.toNat i)).bind λc=>
  (G9 c e).bind λl=>
  (some (List.set c e.toNat k)).bind λd=>
  (J8 (b - 1)).bind λg=>
  some (inl (d,g))
 else
  some (inr a)
def A1I (j:Int) (c:(List Int)→(List Int)→Option Int):((List (List Int))×Int)→Option (((List (List Int))×Int)⊕(List (List Int))):=λ(a,b)=>
 (
  bif decide (j<b) then
   (G9 a b).bind λh=>
   (J8 (b - 1)).bind λd=>
   (G9 a d).bind λi=>
   (c h i).bind λg=>
   some (decide (g<0))
  else
   some false).bind λe=>
 A7A a b e
def A1H (g:Int) (h:Int) (d:(List Int)→(List Int)→Option Int):((List (List Int))×Int)→Option (((List (List Int))×Int)⊕(List (List Int))):=λ(a,c)=>
 bif decide (c<h) then
  (
   iter (A1I g d) FUEL (a,c)).bind λb=>
  (J8 (c+1)).bind λe=>
  some (inl (b,e))
 else
  some (inr a)
def A8o (b:List (List Int)) (d:Int) (g:Int) (c:(List Int)→(List Int)→Option Int):Option (List (List Int)):=
 (J8 (d+1)).bind λe=>
 (
   iter (A1H d g c) FUEL (b,e)).bind λa=>
 some a
def A4I (b:List (List Int)) (g:Int) (h:Int) (a:Int) (c:(List Int)→(List Int)→Option Int):Unit→Option (Unit⊕(List (List Int))):=λ_u=>
 (J8 (h - g)).bind λd=>
 bif decide (d≤12) then
  (A8o b g h c).bind λe=>
  some (inr e)
 else
  bif decide (a=0) then
   none
  else
   none
def B1v:Nat→(List (List Int))→Int→Int→Int→((List Int)→(List Int)→Option Int)→Option (List (List Int))
 | 0,_,_,_,_,_=>none
 | n+1,data1,a3,b4,limit5,cmp6=>
  (
   iter (A4I data1 a3 b4 limit5 cmp6) FUEL ()).bind λp=>some p
def A5P (c:List (List Int)) (a:(List Int)→(List Int)→Option Int):Option (List (List Int)):=
 (A0U .u64 (c.length:Int)).bind λd=>
 (bits_Len d).bind λe=>
 (B1v A2Y c 0 (c.length:Int) e a).bind λb=>
 some b
def B9x (a:List H8) (b:Int) (h:Bool):Option (((List H8)×Int)⊕(List H8)):=
 bif h then
  (J8 (b - 1)).bind λc=>
  (J8 (b - 1)).bind λk=>
  (G9 a k).bind λj=>
  (G9 a b).bind λi=>
  (G9 a b).bind λm=>
  (some (List.set a b.toNat j)).bind λd=>
  (G9 d c).bind λl=>
  (some (List.set d c.toNat i)).bind λe=>
  (J8 (b - 1)).bind λg=>
  some (inl (e,g))
 else
  some (inr a)
def B3e (j:Int) (c:H8→H8→Option Int):((List H8)×Int)→Option (((List H8)×Int)⊕(List H8)):=λ(a,b)=>
 (
  bif decide (j<b) then
   (G9 a b).bind λi=>
   (J8 (b - 1)).bind λe=>
   (G9 a e).bind λg=>
   (c i g).bind λh=>
   some (decide (h<0))
  else
   some false).bind λd=>
 B9x a b d
def B2Z (g:Int) (h:Int) (d:H8→H8→Option Int):((List H8)×Int)→Option (((List H8)×Int)⊕(List H8)):=λ(a,c)=>
 bif decide (c<h) then
  (
   iter (B3e g d) FUEL (a,c)).bind λb=>
  (J8 (c+1)).bind λe=>
  some (inl (b,e))
 else
  some (inr a)
def B7v (b:List H8) (d:Int) (g:Int) (c:H8→H8→Option Int):Option (List H8):=
 (J8 (d+1)).bind λe=>
 (
   iter (B2Z d g c) FUEL (b,e)).bind λa=>
 some a
def B3d (a:List H8) (e:Int) (g:Int) (b:H8→H8→Option Int):Unit→Option (Unit⊕(List H8)):=λ_u=>
 (J8 (g - e)).bind λc=>
 bif decide (c≤12) then
  (B7v a e g b).bind λd=>
  some (inr d)
 else
  none
def B7L:Nat→(List H8)→Int→Int→Int→(H8→H8→Option Int)→Option (List H8)
 | 0,_,_,_,_,_=>none
 | n+1,data1,a3,b4,limit5,cmp6=>
  (
   iter (B3d data1 a3 b4 cmp6) FUEL ()).bind λp=>some p
def B4u (c:List H8) (a:H8→H8→Option Int):Option (List H8):=
 (A0U .u64 (c.length:Int)).bind λd=>
 (bits_Len d).bind λe=>
 (B7L A2Y c 0 (c.length:Int) e a).bind λb=>
 some b
end Go.Dm
open Go Go.Sl Sum
namespace Go.Dm
def bits_Mul64 (l:Int) (j:Int):Option (Int×Int):=
 (C4v .u64 l 4294967295).bind λp=>
 (A3Y .u64 l 32).bind λo=>
 (C4v .u64 j 4294967295).bind λq=>
 (A3Y .u64 j 32).bind λn=>
 (A0U .u64 (p*q)).bind λs=>
 (A0U .u64 (o*q)).bind λr=>
 (A3Y .u64 s 32).bind λt=>
 (A0U .u64 (r+t)).bind λa=>
 (C4v .u64 a 4294967295).bind λm=>
 (A3Y .u64 a 32).bind λc=>
 (A0U .u64 (p*n)).bind λd=>
 (A0U .u64 (m+d)).bind λi=>
 (A0U .u64 (o*n)).bind λe=>
 (A0U .u64 (e+c)).bind λk=>
 (A3Y .u64 i 32).bind λg=>
 (A0U .u64 (k+g)).bind λb=>
 (A0U .u64 (l*j)).bind λh=>
 some (b,h)
def bits_Mul (a:Int) (d:Int):Option (Int×Int):=
 (bits_Mul64 a d).bind λ(b,c)=>
 some (b,c)
def B7P (a:List Int) (b:Int):Option (((List Int)×Int)⊕(List Int)):=
 (bdV b (a.length:Int) (a.length:Int)).bind λj=>
 (bdV 0 b (a.length:Int)).bind λi=>
 (bdV b (a.length:Int) (a.length:Int)).bind λg=>
 (bdV 0 b (a.length:Int)).bind λh=>
 (cpL a b.toNat ((a.length:Int).toNat - b.toNat) (List.take (b.toNat - (0:Int).toNat) (List.drop (0:Int).toNat a))).bind λ(e,d)=>
 (J8 (b+d)).bind λc=>
 some (inl (e,c))
def A9s:((List Int)×Int)→Option (((List Int)×Int)⊕(List Int)):=λ(a,b)=>
 bif decide (b<(a.length:Int)) then
  B7P a b
 else
  some (inr a)
def B6S (m:List Int) (b:Int):Option (List Int):=
 (A0U .u64 (m.length:Int)).bind λl=>
 (A0U .u64 b).bind λi=>
 (bits_Mul l i).bind λ(g,c)=>
 (
  bif decide (0<g) then
   some true
  else
   some (decide (9223372036854775807<c))).bind λh=>
 (
  bif h then
   none
  else
   some ()).bind λ_u=>
 (A0U .i64 c).bind λk=>
 (mkL k 0).bind λd=>
 (cpL d 0 d.length m).bind λ(j,e)=>
 (
  iter A9s FUEL (j,e)).bind λa=>
 some a
def A6t (b:List Int) (a:Int):Option (List Int):=
 (
   bif decide (a<0) then
     none
   else
     some ()).bind λ_u=>
 B6S b a
def B2a (l:List Int) (d:Int) (b:List Int) (c:Int) (a:Int):Option (((List Int)×Int×Int)⊕((List Int)×Int)):=
 (B9m b d (l.length:Int) a).bind λe=>
 (J8 (a - 1)).bind λm=>
 (B9m b d (l.length:Int) m).bind λk=>
 bif !decide (e=k) then
  (B9m b d (l.length:Int) a).bind λg=>
  (G9 b c).bind λo=>
  (some (List.set b c.toNat g)).bind λj=>
  (J8 (c+1)).bind λn=>
  (J8 (a+1)).bind λh=>
  some (inl (j,n,h))
 else
  (J8 (a+1)).bind λi=>
  some (inl (b,c,i))
def A4F (e:List Int) (d:Int):((List Int)×Int×Int)→Option (((List Int)×Int×Int)⊕((List Int)×Int)):=λ(c,b,a)=>
 bif decide (a<((((e.length:Int).toNat - d.toNat:Nat)):Int)) then
  B2a e d c b a
 else
  some (inr (c,b))
def B1N (d:List Int) (c:Int):Option (Int⊕(Unit⊕(List Int))):=
 (G9 d c).bind λj=>
 (J8 (c - 1)).bind λg=>
 (G9 d g).bind λe=>
 bif decide (j=e) then
  (bdV c (d.length:Int) (d.length:Int)).bind λm=>
  (
   iter (A4F d c) FUEL (d,c,1)).bind λ(a,b)=>
  (bdV b (a.length:Int) (a.length:Int)).bind λn=>
  (bdV b (a.length:Int) (a.length:Int)).bind λl=>
  (some (A3G a b.toNat (List.replicate ((a.length:Int).toNat - b.toNat) 0))).bind λk=>
  (sbL k 0 b).bind λi=>
  some (inr (inr i))
 else
  (J8 (c+1)).bind λh=>
  some (inl h)
def A4R (a:List Int):Int→Option (Int⊕(Unit⊕(List Int))):=λb=>
 bif decide (b<(a.length:Int)) then
  B1N a b
 else
  some (inr (inl ()))
def A7N (a:List Int):Option (List Int):=
 bif decide ((a.length:Int)<2) then
   some a
 else
   (
     iter (A4R a) FUEL 1).bind λb=>match b with
   | .inl _u=>
     some a
   | .inr p=>
     some p
def A7o (o:List (List Int)) (p:(List Int)→(List Int)→Option Bool) (n:Int) (b:List (List Int)) (c:Int) (a:Int):Option (((List (List Int))×Int×Int)⊕((List (List Int))×Int)):=
 (B9m b n (o.length:Int) a).bind λl=>
 (J8 (a - 1)).bind λm=>
 (B9m b n (o.length:Int) m).bind λj=>
 (p l j).bind λk=>
 bif !k then
  (B9m b n (o.length:Int) a).bind λi=>
  (G9 b c).bind λq=>
  (some (List.set b c.toNat i)).bind λe=>
  (J8 (c+1)).bind λd=>
  (J8 (a+1)).bind λh=>
  some (inl (e,d,h))
 else
  (J8 (a+1)).bind λg=>
  some (inl (b,c,g))
def A1W (g:List (List Int)) (d:(List Int)→(List Int)→Option Bool) (e:Int):((List (List Int))×Int×Int)→Option (((List (List Int))×Int×Int)⊕((List (List Int))×Int)):=λ(c,b,a)=>
 bif decide (a<((((g.length:Int).toNat - e.toNat:Nat)):Int)) then
  A7o g d e c b a
 else
  some (inr (c,b))
def A7n (e:List (List Int)) (h:(List Int)→(List Int)→Option Bool) (g:Int):Option (Int⊕(Unit⊕(List (List Int)))):=
 (bdV g (e.length:Int) (e.length:Int)).bind λk=>
 (
  iter (A1W e h g) FUEL (e,g,1)).bind λ(a,b)=>
 (bdV b (a.length:Int) (a.length:Int)).bind λj=>
 (bdV b (a.length:Int) (a.length:Int)).bind λi=>
 (some (A3G a b.toNat (List.replicate ((a.length:Int).toNat - b.toNat) ([]:List Int)))).bind λd=>
 (sbL d 0 b).bind λc=>
 some (inr (inr c))
def A1V (d:List (List Int)) (a:(List Int)→(List Int)→Option Bool):Int→Option (Int⊕(Unit⊕(List (List Int)))):=λb=>
 bif decide (b<(d.length:Int)) then
  (G9 d b).bind λh=>
  (J8 (b - 1)).bind λe=>
  (G9 d e).bind λi=>
  (a h i).bind λg=>
  bif g then
   A7n d a b
  else
   (J8 (b+1)).bind λc=>
   some (inl c)
 else
  some (inr (inl ()))
def A3n (a:List (List Int)) (b:(List Int)→(List Int)→Option Bool):Option (List (List Int)):=
 bif decide ((a.length:Int)<2) then
   some a
 else
   (
     iter (A1V a b) FUEL 1).bind λc=>match c with
   | .inl _u=>
     some a
   | .inr p=>
     some p
def A2F (e:List ByteArray) (g:ByteArray→Option Bool):Int→Option (Int⊕(Unit⊕(Int×(List ByteArray)))):=λa=>
 bif decide (a<(e.length:Int)) then
  (G9 e a).bind λd=>
  (g d).bind λc=>
  bif c then
   some (inr (inr (a,e)))
  else
   (J8 (a+1)).bind λb=>
   some (inl b)
 else
  some (inr (inl ()))
def A4K (a:List ByteArray) (b:ByteArray→Option Bool):Option (Int×(List ByteArray)):=
 (
   iter (A2F a b) FUEL 0).bind λc=>match c with
 | .inl _u=>
   some ((-1),a)
 | .inr p=>
   some p
def A2H (e:ByteArray→Option Bool):((List ByteArray)×Int×Int)→Option (((List ByteArray)×Int×Int)⊕((List ByteArray)×Int)):=λ(a,b,c)=>
 bif decide (c<(a.length:Int)) then
  (G9 a c).bind λd=>
  (e d).bind λj=>
  bif !j then
   (G9 a b).bind λl=>
   (some (List.set a b.toNat d)).bind λg=>
   (J8 (b+1)).bind λi=>
   (J8 (c+1)).bind λk=>
   some (inl (g,i,k))
  else
   (J8 (c+1)).bind λh=>
   some (inl (a,b,h))
 else
  some (inr (a,b))
def A3b (k:List ByteArray) (c:ByteArray→Option Bool):Option (List ByteArray):=
 (A4K k c).bind λ(e,i)=>
 bif decide (e=(-1)) then
   some i
 else
   (J8 (e+1)).bind λd=>
   (
     iter (A2H c) FUEL (i,e,d)).bind λ(a,b)=>
   (bdV b (a.length:Int) (a.length:Int)).bind λj=>
   (bdV b (a.length:Int) (a.length:Int)).bind λl=>
   (some (A3G a b.toNat (List.replicate ((a.length:Int).toNat - b.toNat) (⟨#[]⟩:ByteArray)))).bind λh=>
   (sbL h 0 b).bind λg=>
   some g
end Go.Dm
open Go Go.Sl Sum
namespace Go.Dm
def Y7 (a:Int):Option (ByteArray):=
 (A5X a 26).bind λd=>
 (V9 d 26).bind λg=>
 (J8 (97+g)).bind λh=>
 (A0U .u8 h).bind λc=>
 (V9 a 26).bind λe=>
 (J8 (97+e)).bind λi=>
 (A0U .u8 i).bind λb=>
 some (B8m [c,b])
def A6N (e:R4) (g:Int):Int→Option (Int⊕(Unit⊕Bool)):=λa=>
 bif decide (a<(e.A8.length:Int)) then
  (G9 e.A8 a).bind λc=>
  (Y7 g).bind λb=>
  bif decide (c.F8=b) then
   some (inr (inr true))
  else
   (J8 (a+1)).bind λd=>
   some (inl d)
 else
  some (inr (inl ()))
def A2l (b:R4) (c:Int):Option (Bool):=
 (
   iter (A6N b c) FUEL 0).bind λa=>match a with
 | .inl _u=>
   some false
 | .inr p=>
   some p
def A5D (l:Int):((List ByteArray)×Int)→Option (((List ByteArray)×Int)⊕(List ByteArray)):=λ(a,b)=>
 bif decide (b<4) then
  (J8 (2*b)).bind λd=>
  (J8 (6+d)).bind λk=>
  (A3Y .i64 l k).bind λi=>
  (V9 i 4).bind λe=>
  bif decide (e=1) then
   (Y7 b).bind λg=>
   (apL a [g]).bind λh=>
   (J8 (b+1)).bind λc=>
   some (inl (h,c))
  else
   (J8 (b+1)).bind λj=>
   some (inl (a,j))
 else
  some (inr a)
def B5E (b:List E9) (p:Int) (g:Int) (m:ByteArray) (l:Int) (r:Int) (q:Int) (o:Int) (d:ByteArray) (c:ByteArray):Option (((List E9)×Int)⊕(List E9)):=
 (V9 g 3).bind λn=>
 (
  bif decide (n=2) then
   (V9 g 5).bind λj=>
   (Y7 j).bind λh=>
   some h
  else
   some (⟨#[]⟩:ByteArray)).bind λe=>
 (
  iter (A5D g) FUEL (([]:List ByteArray),0)).bind λa=>
 (apL b [(E9.mk m d c l r e (decide (q=0)) (decide (o=0)) a)]).bind λk=>
 (J8 (p+1)).bind λi=>
 some (inl (k,i))
def B1z (d:List Int) (b:List E9) (e:Int):Option (((List E9)×Int)⊕(List E9)):=
 (G9 d e).bind λm=>
 (A0U .i64 m).bind λa=>
 (J8 (25*e)).bind λu=>
 (V9 u 312).bind λw=>
 (A5X e 12).bind λs=>
 (J8 (w+s)).bind λo=>
 (Y7 o).bind λl=>
 (V9 a 4).bind λh=>
 (J8 (h*500)).bind λk=>
 (V9 a 3).bind λx=>
 (V9 a 5).bind λv=>
 (V9 a 7).bind λq=>
 (V9 a 2).bind λp=>
 (
  bif decide (p=1) then
   (V9 a 3).bind λj=>
   (Y7 j).bind λn=>
   some n
  else
   some (⟨#[]⟩:ByteArray)).bind λg=>
 (V9 a 8).bind λt=>
 (
  bif decide (4<t) then
   (V9 a 8).bind λr=>
   (Y7 r).bind λi=>
   some i
  else
   some (⟨#[]⟩:ByteArray)).bind λc=>
 B5E b e a l k x v q g c
def B1C (d:List Int) (e:Int) (a:List I1) (b:Int) (c:Int) (g:Bool):Option (((List I1)×Int×Int)⊕(Int×(List I1))):=
 bif g then
  (G9 d b).bind λi=>
  (V9 i 4).bind λl=>
  (A0U .u8 (1+l)).bind λj=>
  (Y7 e).bind λq=>
  (Y7 c).bind λn=>
  (apL a [(I1.mk q n j)]).bind λh=>
  (J8 (b+1)).bind λk=>
  (J8 (c+1)).bind λm=>
  some (inl (h,k,m))
 else
  (J8 (b+1)).bind λp=>
  (J8 (c+1)).bind λo=>
  some (inl (a,p,o))
def A8q (d:List Int) (b:List E9) (g:Int) (a:List I1) (c:Int) (e:Int):Option (((List I1)×Int×Int)⊕(Int×(List I1))):=
 (A2l (R4.mk b ([]:List I1)) g).bind λi=>
 bif !i then
  some (inr (c,a))
 else
  (A2l (R4.mk b ([]:List I1)) e).bind λl=>
  bif !l then
   (J8 (e+1)).bind λh=>
   some (inl (a,c,h))
  else
   (
    bif decide (c<(d.length:Int)) then
     (G9 d c).bind λk=>
     (V9 k 4).bind λm=>
     some (decide (m<2))
    else
     some false).bind λj=>
   B1C d g a c e j
def A8r (e:List Int) (b:List E9) (g:Int):((List I1)×Int×Int)→Option (((List I1)×Int×Int)⊕(Int×(List I1))):=λ(a,c,d)=>
 bif decide (d<312) then
  A8q e b g a c d
 else
  some (inr (c,a))
def A8g (e:List Int) (c:List E9):((List I1)×Int×Int)→Option (((List I1)×Int×Int)⊕(List I1)):=λ(a,j,b)=>
 bif decide (b<312) then
  (J8 (b+1)).bind λg=>
  (
   iter (A8r e c b) FUEL (a,j,g)).bind λ(h,d)=>
  (J8 (b+1)).bind λi=>
  some (inl (d,h,i))
 else
  some (inr a)
def A7Z (b:List Int):((List E9)×Int)→Option (((List E9)×Int)⊕(List E9)):=λ(a,c)=>
 (
  bif decide (c<(b.length:Int)) then
   some (decide (c<12))
  else
   some false).bind λd=>
 bif d then
  B1z b a c
 else
  some (inr a)
def B2A (c:List Int) (d:List Int):Option (R4):=
 (
   iter (A7Z c) FUEL (([]:List E9),0)).bind λa=>
 (
   iter (A8g d a) FUEL (([]:List I1),0,0)).bind λb=>
 some (R4.mk a b)
def B9V (d:Int):Option (ByteArray):=
 (V9 d 26).bind λc=>
 (J8 (97+c)).bind λa=>
 (A0U .u8 a).bind λb=>
 some (B8m [116,b])
def A1t (a:D5):Option (Int):=
 bif decide (a.Q6=2) then
   (J8 (2*a.fA)).bind λd=>
   (J8 (d+a.fB)).bind λe=>
   some e
 else
   bif decide (a.Q6=3) then
     (J8 (2*a.fB)).bind λc=>
     (J8 (a.fA+c)).bind λb=>
     some b
   else
     some a.fA
def B9X (k:Int) (a:List Int) (b:Int):Option (((List Int)×Int)⊕(List Int)):=
 (A3Y .i64 k b).bind λd=>
 (V9 d 2).bind λe=>
 bif decide (e=1) then
  (V9 k 3).bind λi=>
  bif decide (0<i) then
   (apL a [b]).bind λh=>
   (J8 (b+1)).bind λg=>
   some (inl (h,g))
  else
   (J8 (b+1)).bind λc=>
   some (inl (a,c))
 else
  (J8 (b+1)).bind λj=>
  some (inl (a,j))
def B3U (h:Int) (i:ByteArray) (d:Int) (e:Int) (g:Int):((List Int)×Int)→Option (((List Int)×Int)⊕(List Int)):=λ(a,b)=>
 (A1t (D5.mk i d g 0 ([]:List Int) h e)).bind λc=>
 bif decide (b<c) then
  B9X h a b
 else
  some (inr a)
def C0C (k:Int) (a:List Int) (b:Int):Option (((List Int)×Int)⊕(List Int)):=
 (A3Y .i64 k b).bind λe=>
 (V9 e 2).bind λg=>
 bif decide (g=1) then
  (V9 k 3).bind λc=>
  bif decide (0<c) then
   (apL a [b]).bind λi=>
   (J8 (b+1)).bind λh=>
   some (inl (i,h))
  else
   (J8 (b+1)).bind λd=>
   some (inl (a,d))
 else
  (J8 (b+1)).bind λj=>
  some (inl (a,j))
def B3A (i:Int) (j:ByteArray) (d:Int) (e:Int) (h:Int) (g:Int):((List Int)×Int)→Option (((List Int)×Int)⊕(List Int)):=λ(a,b)=>
 (A1t (D5.mk j d h g ([]:List Int) i e)).bind λc=>
 bif decide (b<c) then
  C0C i a b
 else
  some (inr a)
def B9W (k:Int) (a:List Int) (b:Int):Option (((List Int)×Int)⊕(List Int)):=
 (A3Y .i64 k b).bind λd=>
 (V9 d 2).bind λj=>
 bif decide (j=1) then
  (V9 k 3).bind λh=>
  bif decide (0<h) then
   (apL a [b]).bind λe=>
   (J8 (b+1)).bind λi=>
   some (inl (e,i))
  else
   (J8 (b+1)).bind λc=>
   some (inl (a,c))
 else
  (J8 (b+1)).bind λg=>
  some (inl (a,g))
def B4o (i:Int) (j:ByteArray) (g:Int) (h:Int) (d:Int) (c:Int):((List Int)×Int)→Option (((List Int)×Int)⊕(List Int)):=λ(a,b)=>
 (A1t (D5.mk j g d c ([]:List Int) i h)).bind λe=>
 bif decide (b<e) then
  B9W i a b
 else
  some (inr a)
def C0s (k:Int) (a:List Int) (b:Int):Option (((List Int)×Int)⊕(List Int)):=
 (A3Y .i64 k b).bind λc=>
 (V9 c 2).bind λd=>
 bif decide (d=1) then
  (V9 k 3).bind λi=>
  bif decide (0<i) then
   (apL a [b]).bind λh=>
   (J8 (b+1)).bind λe=>
   some (inl (h,e))
  else
   (J8 (b+1)).bind λj=>
   some (inl (a,j))
 else
  (J8 (b+1)).bind λg=>
  some (inl (a,g))
def B4n (i:Int) (j:ByteArray) (g:Int) (h:Int) (b:Int) (e:Int):((List Int)×Int)→Option (((List Int)×Int)⊕(List Int)):=λ(a,c)=>
 (A1t (D5.mk j g b (min b e) ([]:List Int) i h)).bind λd=>
 bif decide (c<d) then
  C0s i a c
 else
  some (inr a)
def C1s (k:Int) (a:List Int) (b:Int):Option (((List Int)×Int)⊕(List Int)):=
 (A3Y .i64 k b).bind λd=>
 (V9 d 2).bind λi=>
 bif decide (i=1) then
  (V9 k 3).bind λh=>
  bif decide (0<h) then
   (apL a [b]).bind λg=>
   (J8 (b+1)).bind λe=>
   some (inl (g,e))
  else
   (J8 (b+1)).bind λc=>
   some (inl (a,c))
 else
  (J8 (b+1)).bind λj=>
  some (inl (a,j))
def B3H (g:Int) (h:ByteArray) (d:Int) (e:Int):((List Int)×Int)→Option (((List Int)×Int)⊕(List Int)):=λ(a,b)=>
 (A1t (D5.mk h d 0 0 ([]:List Int) g e)).bind λc=>
 bif decide (b<c) then
  C1s g a b
 else
  some (inr a)
def C1j (k:Int) (l:ByteArray) (d:Int) (e:Int) (i:Int):Option (D5):=
 bif decide (d=4) then
  (V9 i 5).bind λj=>
  (J8 (1+j)).bind λb=>
  (A5X i 5).bind λh=>
  (V9 h 4).bind λg=>
  (
   iter (B4n k l d e b g) FUEL (([]:List Int),0)).bind λc=>
  some (D5.mk l d b (min b g) c k e)
 else
  (
   iter (B3H k l d e) FUEL (([]:List Int),0)).bind λa=>
  some (D5.mk l d 0 0 a k e)
def C0G (j:Int) (k:ByteArray) (a:Int) (d:Int) (b:Int):Option (D5):=
 bif decide (a=2) then
  (V9 b 3).bind λq=>
  (J8 (1+q)).bind λi=>
  (A5X b 3).bind λp=>
  (V9 p 3).bind λl=>
  (
   iter (B3A j k a d i l) FUEL (([]:List Int),0)).bind λe=>
  some (D5.mk k a i l e j d)
 else
  bif decide (a=3) then
   (V9 b 2).bind λo=>
   (J8 (1+o)).bind λh=>
   (A5X b 2).bind λm=>
   (V9 m 2).bind λn=>
   (J8 (1+n)).bind λg=>
   (
    iter (B4o j k a d h g) FUEL (([]:List Int),0)).bind λc=>
   some (D5.mk k a h g c j d)
  else
   C1j j k a d b
def A3d (l:Int) (d:Int):Option (D5):=
 (B9V l).bind λk=>
 (V9 d 4).bind λh=>
 (J8 (1+h)).bind λi=>
 (A0U .u8 i).bind λa=>
 (J8 (255 - d)).bind λc=>
 (A5X d 4).bind λe=>
 bif decide (a=1) then
   (V9 e 6).bind λj=>
   (J8 (1+j)).bind λg=>
   (
     iter (B3U d k a c g) FUEL (([]:List Int),0)).bind λb=>
   some (D5.mk k a g 0 b d c)
 else
   C0G d k a c e
def A2X (m:C9) (b:Int) (a:Int) (e:Int) (c:Int) (l:Int):Option (F4×Bool):=
 (G9 m.A8 e).bind λk=>
 (G9 m.A8 c).bind λg=>
 (
  bif decide (b=1) then
   some true
  else
   some (decide (b=4))).bind λh=>
 (
  bif h then
   some l
  else
   some 0).bind λd=>
 (
  bif decide (b=4) then
   (J8 (d+1)).bind λj=>
   some j
  else
   some d).bind λi=>
 some ((F4.mk b a k.F8 g.F8 (⟨#[]⟩:ByteArray) i),!decide (e=c))
def B0y (n:C9) (c:Int) (b:Int) (l:Int) (m:Int) (d:Int):Option (F4×Bool):=
 (G9 n.A8 m).bind λg=>
 (G9 n.C8 d).bind λe=>
 (
  bif decide (c=7) then
   (A5X l 13).bind λk=>
   (G9 n.C8 d).bind λa=>
   (A1t (D5.mk a.F8 a.Q6 a.fA a.fB ([]:List Int) a.fX a.fY)).bind λh=>
   (V9 k h).bind λj=>
   some j
  else
   some 0).bind λi=>
 some ((F4.mk c b g.F8 (⟨#[]⟩:ByteArray) e.F8 i),true)
def B3M (l:C9) (b:Int) (a:Int) (i:Int) (d:Int) (j:Int) (g:Bool):Option (F4×Bool):=
 bif g then
  (V9 i 3).bind λe=>
  bif decide (0<e) then
   (G9 l.C8 d).bind λk=>
   some ((F4.mk b a (⟨#[]⟩:ByteArray) (⟨#[]⟩:ByteArray) k.F8 j),true)
  else
   some ((F4.mk b a (⟨#[]⟩:ByteArray) (⟨#[]⟩:ByteArray) (⟨#[]⟩:ByteArray) j),true)
 else
  (V9 i 3).bind λh=>
  bif decide (0<h) then
   (G9 l.C8 d).bind λc=>
   some ((F4.mk b a (⟨#[]⟩:ByteArray) (⟨#[]⟩:ByteArray) c.F8 0),true)
  else
   some ((F4.mk b a (⟨#[]⟩:ByteArray) (⟨#[]⟩:ByteArray) (⟨#[]⟩:ByteArray) 0),true)
def B4f (m:C9) (b:Int) (a:Int) (i:Int) (k:Int) (e:Int) (n:Int):Option (F4×Bool):=
 bif decide (b=10) then
  (V9 i 3).bind λg=>
  (
   bif decide (g=0) then
    (G9 m.A8 k).bind λl=>
    some l.F8
   else
    some (⟨#[]⟩:ByteArray)).bind λj=>
  some ((F4.mk b a j (⟨#[]⟩:ByteArray) (⟨#[]⟩:ByteArray) 0),true)
 else
  bif decide (b=17) then
   (G9 m.A8 k).bind λc=>
   (G9 m.C8 e).bind λd=>
   some ((F4.mk b a c.A0y (⟨#[]⟩:ByteArray) d.F8 0),!decide (c.A0y=(⟨#[]⟩:ByteArray)))
  else
   (
    bif decide (b=15) then
     some (decide (b=15))
    else
     some (decide (b=16))).bind λh=>
   B3M m b a i e n h
def B4e (e:C9) (a:Int) (b:Int) (c:Int):Option (F4×Bool):=
 (V9 c (e.A8.length:Int)).bind λd=>
 (A5X c (e.A8.length:Int)).bind λj=>
 (V9 j (e.A8.length:Int)).bind λm=>
 (A5X c 7).bind λk=>
 (V9 k (e.C8.length:Int)).bind λg=>
 (A5X c 11).bind λn=>
 (V9 n 4).bind λi=>
 (
  bif decide (a=1) then
   some (decide (a=1))
  else
   bif decide (a=2) then
    some (decide (a=2))
   else
    bif decide (a=3) then
     some (decide (a=3))
    else
     bif decide (a=4) then
      some (decide (a=4))
     else
      some (decide (a=5))).bind λl=>
 bif l then
  A2X e a b d m i
 else
  (
   bif decide (a=6) then
    some (decide (a=6))
   else
    some (decide (a=7))).bind λh=>
  bif h then
   B0y e a b c d g
  else
   B4f e a b c d g i
def B0J (j:C9) (d:Int):Option (F4×Bool):=
 (V9 d 18).bind λe=>
 (J8 (1+e)).bind λh=>
 (A0U .u8 h).bind λc=>
 (A5X d 18).bind λb=>
 (V9 b 5).bind λi=>
 (
   bif decide (1<i) then
     (V9 b 7).bind λk=>
     (J8 (1+k)).bind λm=>
     some m
   else
     some 0).bind λa=>
 (A5X b 5).bind λl=>
 (
   bif decide ((j.A8.length:Int)=0) then
     some true
   else
     some (decide ((j.C8.length:Int)=0))).bind λg=>
 bif g then
   some ((F4.mk c a (⟨#[]⟩:ByteArray) (⟨#[]⟩:ByteArray) (⟨#[]⟩:ByteArray) 0),false)
 else
   B4e j c a l
def A5q (k:T9) (j:R4):((List Int)×Int)→Option (((List Int)×Int)⊕(List Int)):=λ(a,b)=>
 bif decide (b<(j.A8.length:Int)) then
  (G9 k.A8 b).bind λe=>
  (A0U .i64 e).bind λi=>
  (A5X i 3).bind λd=>
  (V9 d 4).bind λh=>
  (apL a [h]).bind λg=>
  (J8 (b+1)).bind λc=>
  some (inl (g,c))
 else
  some (inr a)
def B1x (o:T9) (i:R4) (a:List D5) (b:List Int) (c:List F4) (d:Int) (l:Bool):Option (((List D5)×(List Int)×(List F4)×Int)⊕((List D5)×(List Int)×(List F4))):=
 bif l then
  (G9 o.K5 d).bind λk=>
  (A0U .i64 k).bind λn=>
  (B0J (C9.mk a i.A8 i.O0 b ([]:List F4)) n).bind λ(e,g)=>
  bif g then
   (apL c [e]).bind λm=>
   (J8 (d+1)).bind λh=>
   some (inl (a,b,m,h))
  else
   (J8 (d+1)).bind λj=>
   some (inl (a,b,c,j))
 else
  some (inr (a,b,c))
def A5A (h:T9) (g:R4):((List D5)×(List Int)×(List F4)×Int)→Option (((List D5)×(List Int)×(List F4)×Int)⊕((List D5)×(List Int)×(List F4))):=λ(a,c,b,d)=>
 (
  bif decide (d<(h.K5.length:Int)) then
   some (decide (d<12))
  else
   some false).bind λe=>
 B1x h g a c b d e
def B5Q (j:T9) (h:Int) (e:List D5):Option (C9):=
 (
  (sbL j.A8 0 (min (j.A8.length:Int) h)).bind λm=>
  (B2A m j.O0).bind λk=>
  some k).bind λi=>
 (V9 (j.O0.length:Int) 4).bind λl=>
 (
  bif decide (0<l) then
   (
    iter (A5q j i) FUEL (([]:List Int),0)).bind λc=>
   some c
  else
   some ([]:List Int)).bind λd=>
 (
  iter (A5A j i) FUEL (e,d,([]:List F4),0)).bind λ(a,g,b)=>
 some (C9.mk a i.A8 i.O0 g b)
def A1E (m:T9):((List D5)×Int×Int)→Option (((List D5)×Int×Int)⊕(Int×(List D5))):=λ(a,b,d)=>
 (
  bif decide (d<(m.C8.length:Int)) then
   some (decide (d<3))
  else
   some false).bind λe=>
 bif e then
  (G9 m.C8 d).bind λk=>
  (A0U .i64 k).bind λi=>
  (A3d d i).bind λc=>
  (apL a [c]).bind λj=>
  (A1t (D5.mk c.F8 c.Q6 c.fA c.fB ([]:List Int) c.fX c.fY)).bind λl=>
  (J8 (b+l)).bind λg=>
  (J8 (d+1)).bind λh=>
  some (inl (j,g,h))
 else
  some (inr (b,a))
def A9Q (c:T9):Option (C9):=
 (
   iter (A1E c) FUEL (([]:List D5),0,0)).bind λ(b,a)=>
 B5Q c b a
def B1R (o:C9) (c:Int) (b:Int):Option ((Int×Int)⊕Int):=
 (G9 o.C8 b).bind λa=>
 bif decide (a.Q6=2) then
  (J8 (2*a.fA)).bind λk=>
  (J8 (k+a.fB)).bind λl=>
  (J8 (c+l)).bind λh=>
  (J8 (b+1)).bind λd=>
  some (inl (h,d))
 else
  bif decide (a.Q6=3) then
   (J8 (2*a.fB)).bind λg=>
   (J8 (a.fA+g)).bind λi=>
   (J8 (c+i)).bind λm=>
   (J8 (b+1)).bind λn=>
   some (inl (m,n))
  else
   (J8 (c+a.fA)).bind λj=>
   (J8 (b+1)).bind λe=>
   some (inl (j,e))
def A3a (c:C9):(Int×Int)→Option ((Int×Int)⊕Int):=λ(b,a)=>
 bif decide (a<(c.C8.length:Int)) then
  B1R c b a
 else
  some (inr b)
def A7R (b:C9):Option (Int):=
 (
   iter (A3a b) FUEL (0,0)).bind λa=>
 some a
def A6J (j:T9) (c:Int):(Int×Int)→Option ((Int×Int)⊕Int):=λ(b,a)=>
 bif decide (a<(j.A8.length:Int)) then
  bif decide (a<c) then
   (J8 (c - a)).bind λh=>
   (J8 (b*h)).bind λg=>
   bif decide (g≤800) then
    (J8 (c - a)).bind λe=>
    (J8 (b*e)).bind λi=>
    (J8 (a+1)).bind λd=>
    some (inl (i,d))
   else
    some (inr a)
  else
   some (inr a)
 else
  some (inr a)
def B0O (b:T9):Option (C9):=
 (sbL b.C8 0 (min (b.C8.length:Int) 2)).bind λc=>
 (A9Q (T9.mk c ([]:List Int) ([]:List Int) ([]:List Int))).bind λg=>
 (A7R g).bind λe=>
 (
   iter (A6J b e) FUEL (1,0)).bind λa=>
 (sbL b.A8 0 a).bind λh=>
 (A9Q (T9.mk c h b.O0 b.K5)).bind λd=>
 some d
def B1h (a:List F4):Option (C9):=
 some (C9.mk [(D5.mk (⟨#[114]⟩:ByteArray) 1 4 0 ([]:List Int) 0 0)] [(E9.mk (⟨#[97,110,110,97]⟩:ByteArray) (⟨#[]⟩:ByteArray) (⟨#[]⟩:ByteArray) 0 0 (⟨#[]⟩:ByteArray) false false ([]:List ByteArray)),(E9.mk (⟨#[98,111,114,105,115]⟩:ByteArray) (⟨#[]⟩:ByteArray) (⟨#[]⟩:ByteArray) 0 0 (⟨#[]⟩:ByteArray) false false ([]:List ByteArray)),(E9.mk (⟨#[99,97,114,108]⟩:ByteArray) (⟨#[]⟩:ByteArray) (⟨#[]⟩:ByteArray) 0 0 (⟨#[]⟩:ByteArray) false false ([]:List ByteArray))] ([]:List I1) ([]:List Int) a)
end Go.Dm
open Go Go.Sl Sum
namespace Go.Dm
def A4E (e:ByteArray):Int→Option (Int⊕(Unit⊕Bool)):=λc=>
 bif decide (c<(e.size:Int)) then
  (B9n e c).bind λb=>
  bif decide (b<97) then
   some (inr (inr false))
  else
   (B9n e c).bind λa=>
   bif decide (122<a) then
    some (inr (inr false))
   else
    (J8 (c+1)).bind λd=>
    some (inl d)
 else
  some (inr (inl ()))
def B4x (a:ByteArray):Option (Bool):=
 (
   iter (A4E a) FUEL 0).bind λb=>match b with
 | .inl _u=>
   bif decide (1≤(a.size:Int)) then
     some (decide ((a.size:Int)≤12))
   else
     some false
 | .inr p=>
   some p
def B2b (b:Int) (c:Int):Option (Int):=
 (J8 (b+(min c 1))).bind λa=>
 some a
def A3H (a:Int) (b:Int):Option (Int):=
 bif decide (a<1) then
   some 0
 else
   bif decide (24<a) then
     some 0
   else
     bif !decide (b=0) then
       some 0
     else
       some a
def A4k (a:Int) (b:Int):Option (Int):=
 bif decide (a<1) then
   some 0
 else
   bif decide (11<a) then
     some 0
   else
     bif decide (b<0) then
       some 0
     else
       bif decide (2<b) then
         some 0
       else
         (J8 (2*a)).bind λd=>
         (J8 (d+b)).bind λc=>
         some c
def A4x (a:Int) (b:Int):Option (Int):=
 bif decide (a<1) then
   some 0
 else
   bif decide (8<a) then
     some 0
   else
     bif decide (b<1) then
       some 0
     else
       bif decide (8<b) then
         some 0
       else
         (J8 (2*b)).bind λd=>
         (J8 (a+d)).bind λc=>
         some c
def A5f (a:Int) (b:Int):Option (Int):=
 bif decide (a<1) then
   some 0
 else
   bif decide (24<a) then
     some 0
   else
     bif decide (b<0) then
       some 0
     else
       bif decide (a<b) then
         some 0
       else
         some a
def A2V (e:Int) (h:Int) (a:Int) (b:Int):Option (Bool):=
 (J8 (b - a)).bind λd=>
 bif decide (d=1) then
   some true
 else
   (J8 (b - a)).bind λg=>
   (J8 (e - 1)).bind λc=>
   some (decide (g=c))
def A2W (a:Int) (h:Int) (c:Int) (e:Int):Option (Bool):=
 (V9 a 2).bind λd=>
 bif decide (d=0) then
   (J8 (e - c)).bind λg=>
   (A5X a 2).bind λb=>
   some (decide (g=b))
 else
   some false
def B0c (j:Int) (k:Int) (a:Int) (b:Int) (l:Int) (d:Bool):Option (Bool):=
 bif d then
  (
   bif decide (a=0) then
    some true
   else
    (J8 (b - 1)).bind λg=>
    some (decide (a=g))).bind λc=>
  some c
 else
  (
   bif decide (0<k) then
    bif decide (a=j) then
     some true
    else
     some (decide (b=j))
   else
    some false).bind λe=>
  bif e then
   (J8 (b - a)).bind λi=>
   some (decide (i=1))
  else
   (J8 (b - a)).bind λh=>
   bif decide (h=1) then
    bif decide (b<j) then
     some true
    else
     some (decide (l≤a))
   else
    some false
def A3D (e:Int) (a:Int) (h:Int) (g:Int):Option (Bool):=
 (B2b e a).bind λi=>
 (
   bif decide (a=2) then
     (J8 (2*e)).bind λb=>
     (J8 (b+1)).bind λc=>
     some (decide (g=c))
   else
     some false).bind λd=>
 B0c e a h g i d
def A3A (a:Int) (k:Int) (e:Int) (j:Int):Option (Bool):=
 (
   bif decide (k=2) then
     (J8 (2*a)).bind λh=>
     (J8 (h+1)).bind λi=>
     some (decide (j=i))
   else
     some false).bind λl=>
 bif l then
   some (decide (e=a))
 else
   bif decide (e<a) then
     (J8 (e+j)).bind λc=>
     (B2b a k).bind λd=>
     (J8 (d+a)).bind λb=>
     (J8 (b - 1)).bind λg=>
     some (decide (c=g))
   else
     some false
def A3E (a:Int) (c:Int):Option (Int):=
 bif decide (0<c) then
   some a
 else
   (A5X a 2).bind λb=>
   some b
def A3K (e:Int) (d:Int) (a:Int) (c:Int):Option (Bool):=
 (J8 (c - a)).bind λb=>
 some (decide (b=1))
def A3z (g:Int) (a:Int) (b:Int) (e:Int):Option (Bool):=
 bif decide (b<a) then
   (J8 (b+e)).bind λd=>
   (J8 (2*a)).bind λi=>
   (J8 (g+i)).bind λc=>
   (J8 (c - 1)).bind λh=>
   some (decide (d=h))
 else
   some false
def A4z (g:Int) (a:Int) (d:Int) (b:Int):Option (Bool):=
 (J8 (b - d)).bind λe=>
 bif decide (e=1) then
   bif decide (a=0) then
     some true
   else
     (V9 b a).bind λc=>
     some (!decide (c=0))
 else
   some false
def A6u (a:Int):Option (Int):=
 some a
def B8F (a:Int) (b:Int):Option (Int):=
 some 0
def B4A (c:Int) (d:Int):Option (Int):=
 (A5X c 2).bind λa=>
 (J8 (d+a)).bind λb=>
 some b
def B8o (b:Int) (d:Int) (c:Int) (a:Int):Option (Bool):=
 some false
def B4R (b:Int) (c:Int):Option (Int):=
 (A5X b 2).bind λa=>
 some a
def A7u (d:Int) (a:Int) (e:Int):Option (Int):=
 (J8 (d+a)).bind λb=>
 (V9 b e).bind λc=>
 some c
def A7w (g:Int) (b:Int) (a:Int):Option (Int):=
 (J8 (b - g)).bind λd=>
 (J8 (d+a)).bind λe=>
 (V9 e a).bind λc=>
 some c
def B0u (g:Int):((List (Int→Option Int))×Int)→Option (((List (Int→Option Int))×Int)⊕(List (Int→Option Int))):=λ(a,b)=>
 bif decide (b<g) then
  (apL a [(λc=>A7u c b g),(λc=>A7w c b g)]).bind λe=>
  (J8 (b+1)).bind λd=>
  some (inl (e,d))
 else
  some (inr a)
def A8Z (b:Int) (c:Int):Option (List (Int→Option Int)):=
 (
   iter (B0u b) FUEL (([]:List (Int→Option Int)),0)).bind λa=>
 some a
def R9 (b:Int) (a:Int) (d:Int):Option (Bool):=
 bif decide (0<a) then
   bif decide (b=d) then
     some true
   else
     bif decide (a=2) then
       (J8 (2*d)).bind λh=>
       (J8 (h+1)).bind λg=>
       some (decide (b=g))
     else
       some false
 else
   bif decide (a=2) then
     (J8 (2*d)).bind λe=>
     (J8 (e+1)).bind λc=>
     some (decide (b=c))
   else
     some false
def A1o (b:Int) (e:Int→Option Bool) (h:Int) (g:Int):Option (Int):=
 (e b).bind λi=>
 bif i then
   some b
 else
   (J8 (h+g)).bind λd=>
   (J8 (d - 1)).bind λc=>
   (J8 (c - b)).bind λa=>
   some a
def A2f (a:Int) (m:Int→Option Bool) (b:Int) (n:Int):Option (Int):=
 (m a).bind λo=>
 bif o then
   (J8 (3*b)).bind λi=>
   (J8 (i+1)).bind λh=>
   (J8 (h - a)).bind λc=>
   some c
 else
   bif decide (a<b) then
     (J8 (b - 1)).bind λd=>
     (J8 (d - a)).bind λe=>
     some e
   else
     (J8 (2*n)).bind λg=>
     (J8 (g+b)).bind λk=>
     (J8 (k - 1)).bind λl=>
     (J8 (l - a)).bind λj=>
     some j
def A9c (e:Int) (c:Int→Option Int) (d:Int→Option Int):Option (Int):=
 (d e).bind λb=>
 (c b).bind λa=>
 some a
def B0s (c:Int) (d:Int):Option (List (Int→Option Int)):=
 (B2b c d).bind λb=>
 bif !decide (d=1) then
   (apL [A6u,(λa=>A1o a (λa=>R9 a d c) b c)] [(λa=>A2f a (λa=>R9 a d c) c b),(λa=>A9c a (λa=>A1o a (λa=>R9 a d c) b c) (λa=>A2f a (λa=>R9 a d c) c b))]).bind λe=>
   some e
 else
   some [A6u,(λa=>A1o a (λa=>R9 a d c) b c)]
def A8X (e:Int) (a:Int) (g:Int):Option (Int):=
 (J8 (2*g)).bind λc=>
 (J8 (a+c)).bind λd=>
 (J8 (d - 1)).bind λb=>
 (J8 (b - e)).bind λh=>
 some h
def B0p (a:Int) (c:Int):Option (List (Int→Option Int)):=
 some [A6u,(λb=>A8X b a c)]
def B0q (a:Int) (d:Int):Option (Int):=
 (J8 (d - 1)).bind λb=>
 (J8 (b - a)).bind λc=>
 some c
def B1q (a:Int) (c:Int):Option (List (Int→Option Int)):=
 some [A6u,(λb=>B0q b a)]
def B1G (a:Int):Option (A1u×Bool):=
 bif decide (a=3) then
  some ((A1u.mk (⟨#[104,111,114,115,101,115,104,111,101]⟩:ByteArray) A4x A3K A3z B4A B0p),true)
 else
  bif decide (a=4) then
   some ((A1u.mk (⟨#[114,111,119]⟩:ByteArray) A5f A4z B8o B4R B1q),true)
  else
   some ((A1u.mk (⟨#[]⟩:ByteArray) (λ_ _=>none) (λ_ _ _ _=>none) (λ_ _ _ _=>none) (λ_ _=>none) (λ_ _=>none)),false)
def Y4 (a:Int):Option (A1u×Bool):=
 bif decide (a=1) then
   some ((A1u.mk (⟨#[114,111,117,110,100]⟩:ByteArray) A3H A2V A2W B8F A8Z),true)
 else
   bif decide (a=2) then
     some ((A1u.mk (⟨#[108,111,110,103]⟩:ByteArray) A4k A3D A3A A3E B0s),true)
   else
     B1G a
def A2Z (b:D5):Option (Int):=
 (Y4 b.Q6).bind λ(c,d)=>
 bif !d then
   some 0
 else
   (c.C6e b.fA b.fB).bind λa=>
   some a
def A4A (c:D5) (d:Int) (b:Int):Option (Bool):=
 (Y4 c.Q6).bind λ(e,g)=>
 bif !decide (d=b) then
   (e.Y2 c.fA c.fB (min d b) (max d b)).bind λa=>
   some a
 else
   some false
def A4t (c:D5) (d:Int) (b:Int):Option (Bool):=
 (Y4 c.Q6).bind λ(e,g)=>
 bif !decide (d=b) then
   (e.A0w c.fA c.fB (min d b) (max d b)).bind λa=>
   some a
 else
   some false
def B4T (d:D5) (e:Int) (c:Int):Option (Bool):=
 (A4A d e c).bind λb=>
 bif b then
   some true
 else
   (A4t d e c).bind λa=>
   some a
def B5J (p:D5) (j:Int) (c:List Int) (a:Int) (b:List Int):Option (((List Int)×Int×(List Int))⊕((List Int)×(List Int))):=
 (G9 c a).bind λe=>
 (
  bif decide (e<0) then
   (B4T p j a).bind λn=>
   some n
  else
   some false).bind λg=>
 bif g then
  (G9 c j).bind λm=>
  (J8 (m+1)).bind λd=>
  (G9 c a).bind λo=>
  (some (List.set c a.toNat d)).bind λh=>
  (apL b [a]).bind λl=>
  (J8 (a+1)).bind λi=>
  some (inl (h,i,l))
 else
  (J8 (a+1)).bind λk=>
  some (inl (c,k,b))
def A8x (g:D5) (d:List Int) (e:Int):((List Int)×Int×(List Int))→Option (((List Int)×Int×(List Int))⊕((List Int)×(List Int))):=λ(c,b,a)=>
 bif decide (b<(d.length:Int)) then
  B5J g e c b a
 else
  some (inr (c,a))
def A8h (h:D5):((List Int)×(List Int))→Option (((List Int)×(List Int))⊕(List Int)):=λ(b,a)=>
 bif decide (0<(a.length:Int)) then
  (G9 a 0).bind λe=>
  (sbL a 1 (a.length:Int)).bind λg=>
  (
   iter (A8x h b e) FUEL (b,0,g)).bind λ(d,c)=>
  some (inl (d,c))
 else
  some (inr b)
def A3N (c:List Int):(Int×(List Int))→Option ((Int×(List Int))⊕(List Int)):=λ(b,a)=>
 bif decide (b<(c.length:Int)) then
  (G9 a b).bind λg=>
  (some (List.set a b.toNat (-1))).bind λd=>
  (J8 (b+1)).bind λe=>
  some (inl (e,d))
 else
  some (inr a)
def B2v (g:D5) (a:Int):Option (List Int):=
 (A2Z g).bind λi=>
 (mkL i 0).bind λd=>
 (
   iter (A3N d) FUEL (0,d)).bind λb=>
 (G9 b a).bind λh=>
 (some (List.set b a.toNat 0)).bind λe=>
 (
   iter (A8h g) FUEL (e,[a])).bind λc=>
 some c
def A6A (e:List Int):((List Int)×Int)→Option (((List Int)×Int)⊕(List Int)):=λ(a,b)=>
 bif decide (b<(e.length:Int)) then
  (G9 a b).bind λh=>
  bif decide (h<0) then
   (G9 a b).bind λi=>
   (some (List.set a b.toNat (a.length:Int))).bind λc=>
   (J8 (b+1)).bind λg=>
   some (inl (c,g))
  else
   (J8 (b+1)).bind λd=>
   some (inl (a,d))
 else
  some (inr a)
def A4y (b:D5):Option (List Int):=
 (Y4 b.Q6).bind λ(e,g)=>
 (e.B9R b.fA b.fB).bind λc=>
 (B2v b c).bind λa=>
 (
   iter (A6A a) FUEL (a,0)).bind λd=>
 some d
def A1A (e:D5) (g:Int):(Int×Int)→Option ((Int×Int)⊕(Unit⊕Int)):=λ(c,a)=>
 bif decide (c<(e.A2Q.length:Int)) then
  (G9 e.A2Q c).bind λb=>
  bif decide (b≤a) then
   some (inr (inr 11))
  else
   bif decide (g≤b) then
    some (inr (inr 11))
   else
    (J8 (c+1)).bind λd=>
    some (inl (d,b))
 else
  some (inr (inl ()))
def B5V (a:D5) (c:Int):Option (Int):=
 bif decide (c=0) then
  some 10
 else
  (
   iter (A1A a c) FUEL (0,(-1))).bind λb=>match b with
  | .inl _u=>
   bif decide (a.fX<0) then
    some 2
   else
    bif decide (1000<a.fX) then
     some 2
    else
     bif decide (a.fY<0) then
      some 2
     else
      bif decide (1000<a.fY) then
       some 2
      else
       some 0
  | .inr p=>
   some p
def A5W (b:D5):Option (Int):=
 (A2Z b).bind λc=>
 (B4x b.F8).bind λa=>
 bif !a then
   some 4
 else
   B5V b c
def A6O (a:D5) (b:D5):Option (Bool):=
 some (decide (a.F8=b.F8))
def A4V (g:List D5):Int→Option (Int⊕(Unit⊕(Int×Int))):=λa=>
 bif decide (a<(g.length:Int)) then
  (G9 g a).bind λc=>
  (A5W c).bind λb=>
  bif !decide (b=0) then
   some (inr (inr (a,b)))
  else
   (sbL g 0 a).bind λd=>
   (A4j d (λi=>A6O i c)).bind λh=>
   bif h then
    some (inr (inr (a,5)))
   else
    (J8 (a+1)).bind λe=>
    some (inl e)
 else
  some (inr (inl ()))
def A5e (a:List D5):Option (Int×Int):=
 bif decide (16<(a.length:Int)) then
   some (0,7)
 else
   (
     iter (A4V a) FUEL 0).bind λb=>match b with
   | .inl _u=>
     some (0,0)
   | .inr p=>
     some p
def B2S (a:D5) (b:ByteArray):Option (Bool):=
 some (decide (a.F8=b))
def A3w (a:List D5):Option (Bool):=
 (A5e a).bind λ(c,b)=>
 some (decide (b=0))
def A3Q (b:List D5):(Int×Int)→Option ((Int×Int)⊕Int):=λ(a,c)=>
 bif decide (a<(b.length:Int)) then
  (G9 b a).bind λd=>
  (A2Z d).bind λh=>
  (J8 (c+h)).bind λg=>
  (J8 (a+1)).bind λe=>
  some (inl (e,g))
 else
  some (inr c)
def A2A (b:List D5) (a:Int):Option (Int):=
 (
   bif decide (a<0) then
     some true
   else
     bif decide ((b.length:Int)≤a) then
       some true
     else
       (A3w b).bind λg=>
       some (!g)).bind λe=>
 bif e then
   some 0
 else
   (sbL b 0 a).bind λd=>
   (
     iter (A3Q d) FUEL (0,0)).bind λc=>
   some c
def A7L (a:List D5):Option (Int):=
 bif decide ((a.length:Int)=0) then
   some 0
 else
   (J8 ((a.length:Int) - 1)).bind λb=>
   (G9 a b).bind λd=>
   (A2Z d).bind λc=>
   some c
def A2s (a:List D5):Option (Int):=
 (A3w a).bind λg=>
 bif !g then
   some 0
 else
   (J8 ((a.length:Int) - 1)).bind λc=>
   (A2A a c).bind λd=>
   (A7L a).bind λb=>
   (J8 (d+b)).bind λe=>
   some e
def A3R (h:List D5):(Int×Int)→Option ((Int×Int)⊕(Unit⊕(Int×Int×Bool))):=λ(a,b)=>
 bif decide (b<(h.length:Int)) then
  (G9 h b).bind λd=>
  (A2Z d).bind λc=>
  bif decide (a<c) then
   some (inr (inr (b,a,true)))
  else
   (J8 (a - c)).bind λe=>
   (J8 (b+1)).bind λg=>
   some (inl (e,g))
 else
  some (inr (inl ()))
def A3u (c:List D5) (a:Int):Option (Int×Int×Bool):=
 (
   bif decide (a<0) then
     some true
   else
     (A3w c).bind λd=>
     some (!d)).bind λe=>
 bif e then
   some (0,0,false)
 else
   (
     iter (A3R c) FUEL (a,0)).bind λb=>match b with
   | .inl _u=>
     some (0,0,false)
   | .inr p=>
     some p
def B4w (d:List D5) (a:ByteArray):Option (Int×Bool):=
 (A2q d (λe=>B2S e a)).bind λb=>
 bif decide (b<0) then
   some (0,false)
 else
   (A3w d).bind λc=>
   bif !c then
     some (0,false)
   else
     some (b,true)
def B2p (b:D5):Option (Int):=
 (A5W b).bind λc=>
 bif !decide (c=0) then
   some 0
 else
   (A2Z b).bind λa=>
   some a
def B4P (c:List D5) (e:Int):Option (Bool):=
 (A3u c e).bind λ(g,h,d)=>
 bif d then
   (G9 c g).bind λb=>
   (A1f b.A2Q h).bind λa=>
   some a
 else
   some false
def B2B (d:List D5) (g:Int):Option (Int):=
 (A3u d g).bind λ(h,i,e)=>
 bif !e then
   some 0
 else
   (G9 d h).bind λb=>
   (A4y b).bind λa=>
   (G9 a i).bind λc=>
   some c
def A9C (c:List D5) (k:Int) (i:Int):Option (D5×Int×Int×Bool):=
 (A3u c k).bind λ(h,j,l)=>
 (A3u c i).bind λ(d,b,a)=>
 (
   bif !l then
     some true
   else
     bif !a then
       some true
     else
       some (!decide (h=d))).bind λg=>
 bif g then
   some ((D5.mk (⟨#[]⟩:ByteArray) 0 0 0 ([]:List Int) 0 0),0,0,false)
 else
   (G9 c h).bind λe=>
   some (e,j,b,true)
def B0T (g:List D5) (e:Int) (c:Int):Option (Bool):=
 (A9C g e c).bind λ(h,b,d,i)=>
 bif i then
   (A4A h b d).bind λa=>
   some a
 else
   some false
def B1m (g:List D5) (e:Int) (c:Int):Option (Bool):=
 (A9C g e c).bind λ(h,b,d,i)=>
 bif i then
   (A4t h b d).bind λa=>
   some a
 else
   some false
end Go.Dm
open Go Go.Sl Sum
namespace Go.Dm
def B1p (e:ByteArray):Int→Option (Int⊕(Unit⊕Bool)):=λa=>
 bif decide (a<(e.size:Int)) then
  (B9n e a).bind λc=>
  bif decide (c<97) then
   some (inr (inr false))
  else
   (B9n e a).bind λb=>
   bif decide (122<b) then
    some (inr (inr false))
   else
    (J8 (a+1)).bind λd=>
    some (inl d)
 else
  some (inr (inl ()))
def A7H (b:ByteArray):Option (Bool):=
 (
   bif decide ((b.size:Int)=0) then
     some true
   else
     some (decide (12<(b.size:Int)))).bind λc=>
 bif c then
   some false
 else
   (
     iter (B1p b) FUEL 0).bind λa=>match a with
   | .inl _u=>
     some true
   | .inr p=>
     some p
def A7D (a:ByteArray):Option (Bool):=
 bif decide (a=(⟨#[]⟩:ByteArray)) then
   some true
 else
   (A7H a).bind λb=>
   some b
def B4d (i:E9) (a:Int):Option (Int⊕(Unit⊕Int)):=
 (G9 i.O9 a).bind λb=>
 (A7H b).bind λh=>
 bif !h then
  some (inr (inr 22))
 else
  bif decide (0<a) then
   (J8 (a - 1)).bind λg=>
   (G9 i.O9 g).bind λe=>
   bif !sLt e b then
    some (inr (inr 22))
   else
    (J8 (a+1)).bind λd=>
    some (inl d)
  else
   (J8 (a+1)).bind λc=>
   some (inl c)
def A4q (b:E9):Int→Option (Int⊕(Unit⊕Int)):=λa=>
 bif decide (a<(b.O9.length:Int)) then
  B4d b a
 else
  some (inr (inl ()))
def B4q (a:E9):Option (Int):=
 (
  bif decide (a.A0j<0) then
   some true
  else
   some (decide (9999<a.A0j))).bind λd=>
 bif d then
  some 21
 else
  (
   bif decide (a.A0x<0) then
    some true
   else
    some (decide (2<a.A0x))).bind λb=>
  bif b then
   some 20
  else
   bif decide (4<(a.O9.length:Int)) then
    some 22
   else
    (
     iter (A4q a) FUEL 0).bind λc=>match c with
    | .inl _u=>
     some 0
    | .inr p=>
     some p
def B0Q (a:E9):Option (Int):=
 (
   (A7H a.F8).bind λc=>
   bif !c then
     some true
   else
     (A7D a.A1X).bind λd=>
     bif !d then
       some true
     else
       (A7D a.X4).bind λb=>
       bif !b then
         some true
       else
         (A7D a.A0y).bind λe=>
         some (!e)).bind λg=>
 bif g then
   some 4
 else
   B4q a
def A9j (a:E9):Option (E9):=
 (A4v a.O9).bind λb=>
 some (E9.mk a.F8 a.A1X a.X4 a.A0j a.A0x a.A0y a.X9 a.Y8 b)
def bytealg_CompareString (a:ByteArray) (b:ByteArray):Option (Int):=
 some (B9A a b)
def strings_Compare (b:ByteArray) (c:ByteArray):Option (Int):=
 (bytealg_CompareString b c).bind λa=>
 some a
def A1g (d:I1) (c:I1):Option (Int):=
 (strings_Compare d.fA c.fA).bind λa=>
 bif !decide (a=0) then
   some a
 else
   (strings_Compare d.fB c.fB).bind λb=>
   some b
def A7J (b:ByteArray) (a:ByteArray) (c:Int):Option (I1):=
 some (I1.mk (minS b a) (maxS b a) c)
def B4V  : Option (L6):=
 some (L6.mk (U2.mk ([]:List E9) ([]:List I1)) ([]:List (ByteArray×Int)))
def A4Q (a:L6):Option (Bool):=
 some false
def A0Z (m:List I1) (a:I1) (e:I1→I1→Option Int):(Int×Int)→Option ((Int×Int)⊕Int):=λ(c,b)=>
 bif decide (b<c) then
  (J8 (b+c)).bind λj=>
  (A0U .u64 j).bind λg=>
  (A3Y .u64 g 1).bind λh=>
  (A0U .i64 h).bind λd=>
  (G9 m d).bind λk=>
  (e k a).bind λl=>
  bif decide (l<0) then
   (J8 (d+1)).bind λi=>
   some (inl (c,i))
  else
   some (inl (d,b))
 else
  some (inr b)
def B1H (d:List I1) (a:I1) (c:I1→I1→Option Int):Option (Int×Bool):=
 (
   iter (A0Z d a c) FUEL ((d.length:Int),0)).bind λb=>
 bif decide (b<(d.length:Int)) then
   (G9 d b).bind λe=>
   (c e a).bind λg=>
   some (b,decide (g=0))
 else
   some (b,false)
def B8l (a:List I1) (c:Int) (b:List I1):Option (List I1):=
 (bdV c (a.length:Int) (a.length:Int)).bind λg=>
 bif decide ((b.length:Int)=0) then
   some a
 else
   bif decide (c=(a.length:Int)) then
     (apL a b).bind λd=>
     some d
   else
     (J8 ((a.length:Int)+(b.length:Int))).bind λe=>
     none
def A2B (g:L6) (b:ByteArray) (a:ByteArray):Option (Int×Bool):=
 (A7J b a 0).bind λd=>
 (B1H g.K7.A0L d A1g).bind λ(c,e)=>
 some (c,e)
def B9a (a:L6) (c:E9):Option (Int×L6):=
 (lkM a.fat c.F8 0).bind λ(h,b)=>
 bif b then
  some (5,(L6.mk (U2.mk a.K7.V6 a.K7.A0L) a.fat))
 else
  bif decide ((a.K7.V6.length:Int)=64) then
   some (7,(L6.mk (U2.mk a.K7.V6 a.K7.A0L) a.fat))
  else
   (some (A2y a.fat c.F8 (a.K7.V6.length:Int))).bind λe=>
   (A9j c).bind λd=>
   (apL a.K7.V6 [d]).bind λg=>
   some (0,(L6.mk (U2.mk g a.K7.A0L) e))
def C0f (a:L6) (d:E9):Option (Int×L6):=
 (A4Q (L6.mk (U2.mk a.K7.V6 a.K7.A0L) a.fat)).bind λc=>
 bif c then
   some (1,(L6.mk (U2.mk a.K7.V6 a.K7.A0L) a.fat))
 else
   (B0Q d).bind λb=>
   bif !decide (b=0) then
     some (b,(L6.mk (U2.mk a.K7.V6 a.K7.A0L) a.fat))
   else
     B9a a d
def A6m (b:L6) (c:ByteArray) (a:ByteArray) (d:Int):Option (Int×L6):=
 (A2B (L6.mk (U2.mk b.K7.V6 b.K7.A0L) b.fat) c a).bind λ(i,h)=>
 bif h then
  some (5,(L6.mk (U2.mk b.K7.V6 b.K7.A0L) b.fat))
 else
  bif decide ((b.K7.A0L.length:Int)=256) then
   some (7,(L6.mk (U2.mk b.K7.V6 b.K7.A0L) b.fat))
  else
   (A7J c a d).bind λg=>
   (B8l b.K7.A0L i [g]).bind λe=>
   some (0,(L6.mk (U2.mk b.K7.V6 e) b.fat))
def A8Q (e:L6) (b:ByteArray) (a:ByteArray):Int→Option (Int⊕(Unit⊕(Int×L6))):=λc=>
 bif decide (c<([b,a].length:Int)) then
  (G9 [b,a] c).bind λh=>
  (lkM e.fat h 0).bind λ(i,d)=>
  bif !d then
   some (inr (inr (6,(L6.mk (U2.mk e.K7.V6 e.K7.A0L) e.fat))))
  else
   (J8 (c+1)).bind λg=>
   some (inl g)
 else
  some (inr (inl ()))
def B7k (d:L6) (c:ByteArray) (a:ByteArray) (b:Int):Option (Int×L6):=
 (A4Q (L6.mk (U2.mk d.K7.V6 d.K7.A0L) d.fat)).bind λh=>
 bif h then
   some (1,(L6.mk (U2.mk d.K7.V6 d.K7.A0L) d.fat))
 else
   (
     bif !decide (b=1) then
       bif !decide (b=2) then
         some true
       else
         some (decide (c=a))
     else
       some (decide (c=a))).bind λe=>
   bif e then
     some (23,(L6.mk (U2.mk d.K7.V6 d.K7.A0L) d.fat))
   else
     (
       iter (A8Q d c a) FUEL 0).bind λg=>match g with
     | .inl _u=>
       A6m d c a b
     | .inr p=>
       some p
def B5D (n:R4) (a:List E9) (b:List I1) (e:List (ByteArray×Int)) (c:Int) (g:I1) (m:Bool):Option (((List E9)×(List I1)×(List (ByteArray×Int))×Int)⊕(((List E9)×(List I1)×(List (ByteArray×Int)))⊕((Option L6)×Int×Int))):=
 bif m then
  (B7k (L6.mk (U2.mk a b) e) g.fA g.fB g.F9).bind λ(h,d)=>
  bif !decide (h=0) then
   (J8 ((n.A8.length:Int)+c)).bind λj=>
   some (inr (inr ((none),j,h)))
  else
   (J8 (c+1)).bind λl=>
   some (inl (d.K7.V6,d.K7.A0L,d.fat,l))
 else
  bif !decide (23=0) then
   (J8 ((n.A8.length:Int)+c)).bind λk=>
   some (inr (inr ((none),k,23)))
  else
   (J8 (c+1)).bind λi=>
   some (inl (a,b,e,i))
def A2w (k:R4):((List E9)×(List I1)×(List (ByteArray×Int))×Int)→Option (((List E9)×(List I1)×(List (ByteArray×Int))×Int)⊕(((List E9)×(List I1)×(List (ByteArray×Int)))⊕((Option L6)×Int×Int))):=λ(a,b,e,c)=>
 bif decide (c<(k.O0.length:Int)) then
  (G9 k.O0 c).bind λd=>
  (
   bif sLt d.fA d.fB then
    bif decide (c=0) then
     some true
    else
     (J8 (c - 1)).bind λh=>
     (G9 k.O0 h).bind λj=>
     (A1g j d).bind λi=>
     some (decide (i≤0))
   else
    some false).bind λg=>
  B5D k a b e c d g
 else
  some (inr (inl (a,b,e)))
def A2C (j:R4):((List E9)×(List I1)×(List (ByteArray×Int))×Int)→Option (((List E9)×(List I1)×(List (ByteArray×Int))×Int)⊕(((List E9)×(List I1)×(List (ByteArray×Int)))⊕((Option L6)×Int×Int))):=λ(a,b,d,c)=>
 bif decide (c<(j.A8.length:Int)) then
  (G9 j.A8 c).bind λi=>
  (C0f (L6.mk (U2.mk a b) d) i).bind λ(h,e)=>
  bif !decide (h=0) then
   some (inr (inr ((none),c,h)))
  else
   (J8 (c+1)).bind λg=>
   some (inl (e.K7.V6,e.K7.A0L,e.fat,g))
 else
  some (inr (inl (a,b,d)))
def A7E (d:R4):Option ((Option L6)×Int×Int):=
 B4V.bind λa=>
 (
   iter (A2C d) FUEL (a.K7.V6,a.K7.A0L,a.fat,0)).bind λc=>match c with
 | .inl (guests49,ties54,at59)=>
   (
     iter (A2w d) FUEL (guests49,ties54,at59,0)).bind λb=>match b with
   | .inl (guests124,ties129,at134)=>
     some ((some (L6.mk (U2.mk guests124 ties129) at134)),0,0)
   | .inr p=>
     some p
 | .inr p=>
   some p
def A5T (c:R4):Option (Int×Int):=
 (A7E c).bind λ(d,a,b)=>
 some (a,b)
end Go.Dm
open Go Go.Sl Sum
namespace Go.Dm
def B1r (a:E9):Option (E9):=
 (A4v a.O9).bind λb=>
 some (E9.mk a.F8 a.A1X a.X4 a.A0j a.A0x a.A0y a.X9 a.Y8 b)
def B1X (e:L6) (b:ByteArray):Option (E9×Bool):=
 (A4Q e).bind λh=>
 bif h then
   some ((E9.mk (⟨#[]⟩:ByteArray) (⟨#[]⟩:ByteArray) (⟨#[]⟩:ByteArray) 0 0 (⟨#[]⟩:ByteArray) false false ([]:List ByteArray)),false)
 else
   (lkM e.fat b 0).bind λ(g,c)=>
   bif !c then
     some ((E9.mk (⟨#[]⟩:ByteArray) (⟨#[]⟩:ByteArray) (⟨#[]⟩:ByteArray) 0 0 (⟨#[]⟩:ByteArray) false false ([]:List ByteArray)),false)
   else
     (G9 e.K7.V6 g).bind λd=>
     (B1r d).bind λa=>
     some ((E9.mk a.F8 a.A1X a.X4 a.A0j a.A0x a.A0y a.X9 a.Y8 a.O9),true)
def A4G (a:ByteArray) (c:E9):Option (Bool):=
 (A6R c.O9 a).bind λb=>
 some (!b)
def B0W (g:L6) (c:ByteArray) (b:ByteArray):Option (List ByteArray):=
 (B1X g c).bind λ(h,j)=>
 (B1X g b).bind λ(a,d)=>
 bif !j then
   some ([]:List ByteArray)
 else
   bif !d then
     some ([]:List ByteArray)
   else
     (A3b h.O9 (λi=>A4G i (E9.mk a.F8 a.A1X a.X4 a.A0j a.A0x a.A0y a.X9 a.Y8 a.O9))).bind λe=>
     some e
def B4D (g:L6) (b:ByteArray) (a:ByteArray):Option (Int×Bool):=
 (A4Q g).bind λh=>
 bif h then
   some (0,false)
 else
   (A2B g b a).bind λ(c,d)=>
   bif !d then
     some (0,false)
   else
     (G9 g.K7.A0L c).bind λe=>
     some (e.F9,true)
end Go.Dm
open Go Go.Sl Sum
namespace Go.Dm
def B7p (e:ByteArray):Int→Option (Int⊕(Unit⊕Bool)):=λa=>
 bif decide (a<(e.size:Int)) then
  (B9n e a).bind λc=>
  bif decide (c<97) then
   some (inr (inr false))
  else
   (B9n e a).bind λb=>
   bif decide (122<b) then
    some (inr (inr false))
   else
    (J8 (a+1)).bind λd=>
    some (inl d)
 else
  some (inr (inl ()))
def A9H (b:ByteArray):Option (Bool):=
 (
   bif decide ((b.size:Int)=0) then
     some true
   else
     some (decide (12<(b.size:Int)))).bind λc=>
 bif c then
   some false
 else
   (
     iter (B7p b) FUEL 0).bind λa=>match a with
   | .inl _u=>
     some true
   | .inr p=>
     some p
def B2O (a:E9) (b:ByteArray):Option (Bool):=
 some (decide (a.F8=b))
def A0T (d:C9) (a:ByteArray):Option (Int):=
 (A3X d.A8 (λc=>B2O c a)).bind λb=>
 some b
def A7Q (c:Int) (k:Int) (i:Int→Option Bool):((List Int)×Int)→Option (((List Int)×Int)⊕(List Int)):=λ(a,b)=>
 (J8 (c+k)).bind λe=>
 bif decide (b<e) then
  (i b).bind λh=>
  bif h then
   (apL a [b]).bind λj=>
   (J8 (b+1)).bind λg=>
   some (inl (j,g))
  else
   (J8 (b+1)).bind λd=>
   some (inl (a,d))
 else
  some (inr a)
def B0d (a:Int) (d:Int) (c:Int→Option Bool):Option (List Int):=
 (
   iter (A7Q a d c) FUEL (([]:List Int),a)).bind λb=>
 some b
def A2M (i:List E9):((List E9)×Int)→Option (((List E9)×Int)⊕(List E9)):=λ(a,c)=>
 bif decide (c<(i.length:Int)) then
  (G9 a c).bind λg=>
  (A4v g.O9).bind λh=>
  (G9 a c).bind λb=>
  (some (List.set a c.toNat (E9.mk b.F8 b.A1X b.X4 b.A0j b.A0x b.A0y b.X9 b.Y8 h))).bind λd=>
  (J8 (c+1)).bind λe=>
  some (inl (d,e))
 else
  some (inr a)
def A2J (d:List D5):((List D5)×Int)→Option (((List D5)×Int)⊕(List D5)):=λ(a,c)=>
 bif decide (c<(d.length:Int)) then
  (G9 a c).bind λg=>
  (A0D g.A2Q).bind λe=>
  (G9 a c).bind λb=>
  (some (List.set a c.toNat (D5.mk b.F8 b.Q6 b.fA b.fB e b.fX b.fY))).bind λh=>
  (J8 (c+1)).bind λi=>
  some (inl (h,i))
 else
  some (inr a)
def A8R (g:C9):Option (C9):=
 (A8e g.C8).bind λh=>
 (
   iter (A2J h) FUEL (h,0)).bind λa=>
 (A8t g.A8).bind λi=>
 (
   iter (A2M i) FUEL (i,0)).bind λb=>
 (B0F g.O0).bind λd=>
 (A0D g.S9).bind λe=>
 (A9w g.K5).bind λc=>
 some (C9.mk a b d e c)
def A6k (c:F5) (g:F4):Option (Int×Int×Bool):=
 (A0T c.F7.P9 g.fA).bind λa=>
 (A0T c.F7.P9 g.fB).bind λb=>
 (G9 c.Q9 a).bind λe=>
 bif decide (0≤e) then
   (G9 c.Q9 b).bind λd=>
   some (a,b,decide (0≤d))
 else
   some (a,b,false)
def B3J (d:F5) (i:Int) (h:Int):Option (Int×Bool):=
 (G9 d.Q9 i).bind λg=>
 (G9 d.F7.A3q g).bind λb=>
 (G9 d.Q9 h).bind λc=>
 (lkM b c 0).bind λ(e,a)=>
 some (e,a)
def A5r (g:F5) (h:Int) (b:List Int):Int→Option (Int⊕(Unit⊕Bool)):=λa=>
 bif decide (a<(b.length:Int)) then
  (G9 b a).bind λe=>
  (G9 g.Q9 h).bind λd=>
  bif decide (e=d) then
   some (inr (inr true))
  else
   (J8 (a+1)).bind λc=>
   some (inl c)
 else
  some (inr (inl ()))
def A1L (d:F5) (h:List (List Int)) (e:Int) (g:Int):Option (Bool):=
 (G9 d.Q9 e).bind λa=>
 (G9 h a).bind λc=>
 (
   iter (A5r d g c) FUEL 0).bind λb=>match b with
 | .inl _u=>
   some false
 | .inr p=>
   some p
def A6q (a:F5) (d:Int) (e:Int):Option (Bool):=
 (A1L a a.F7.Y2 d e).bind λb=>
 bif b then
   some true
 else
   (A1L a a.F7.A0w d e).bind λc=>
   some c
def A4e (c:F5) (d:F4) (e:Int):Option (Bool):=
 bif decide (d.I7=(⟨#[]⟩:ByteArray)) then
   some true
 else
   (G9 c.F7.A0k e).bind λa=>
   (G9 c.F7.P9.C8 a).bind λb=>
   some (decide (d.I7=b.F8))
def B2J {σ:Type} (a:F5) (h:F4) (q:σ→Int→(List Int)→Option σ) (c:σ):Option (σ):=
 (A6k a h).bind λ(d,e,o)=>
 (
   bif !o then
     some true
   else
     (G9 a.Q9 d).bind λp=>
     (G9 a.F7.A0k p).bind λg=>
     (G9 a.Q9 e).bind λi=>
     (G9 a.F7.A0k i).bind λj=>
     some (!decide (g=j))).bind λl=>
 bif l then
   some c
 else
   (B3J a d e).bind λ(m,n)=>
   bif decide (h.fN=0) then
     (q c 1 [d,e]).bind λk=>
     some k
   else
     bif n then
       bif decide (m<h.fN) then
         (q c 1 [d,e]).bind λb=>
         some b
       else
         some c
     else
       some c
def A5L {σ:Type} (d:F5) (i:F4) (j:σ→Int→(List Int)→Option σ) (a:σ):Option (σ):=
 (A6k d i).bind λ(g,h,c)=>
 bif c then
   (A1L d d.F7.Y2 g h).bind λe=>
   bif !e then
     (j a 1 [g,h]).bind λb=>
     some b
   else
     some a
 else
   some a
def A5N {σ:Type} (d:F5) (i:F4) (j:σ→Int→(List Int)→Option σ) (a:σ):Option (σ):=
 (A6k d i).bind λ(g,h,c)=>
 bif c then
   (A1L d d.F7.A0w g h).bind λe=>
   bif !e then
     (j a 1 [g,h]).bind λb=>
     some b
   else
     some a
 else
   some a
def B0K {σ:Type} (l:F5) (j:F4) (k:σ→Int→(List Int)→Option σ) (a:σ):Option (σ):=
 (A6k l j).bind λ(h,i,g)=>
 bif g then
   (B3J l h i).bind λ(b,d)=>
   bif !d then
     (k a 1 [h,i]).bind λc=>
     some c
   else
     bif decide (j.fN<b) then
       (k a 1 [h,i]).bind λe=>
       some e
     else
       some a
 else
   some a
def A8c {σ:Type} (a:F5) (l:F4) (m:σ→Int→(List Int)→Option σ) (b:σ):Option (σ):=
 (A6k a l).bind λ(j,k,c)=>
 bif c then
   (G9 a.Q9 j).bind λg=>
   (G9 a.F7.A0k g).bind λh=>
   (G9 a.Q9 k).bind λi=>
   (G9 a.F7.A0k i).bind λd=>
   bif !decide (h=d) then
     (m b 1 [j,k]).bind λe=>
     some e
   else
     some b
 else
   some b
def B9P {σ:Type} (c:F5) (i:F4) (j:σ→Int→(List Int)→Option σ) (d:σ):Option (σ):=
 (A0T c.F7.P9 i.fA).bind λa=>
 (G9 c.Q9 a).bind λb=>
 bif decide (0≤b) then
   (G9 c.F7.A0k b).bind λe=>
   (G9 c.F7.P9.C8 e).bind λh=>
   bif !decide (h.F8=i.I7) then
     (j d 1 [a]).bind λg=>
     some g
   else
     some d
 else
   some d
def A9x (h:F5) (e:Int):Int→Option (Int⊕Int):=λa=>
 bif decide (0<a) then
  (J8 (a - 1)).bind λc=>
  (G9 h.F7.A0k c).bind λg=>
  (G9 h.F7.A0k e).bind λb=>
  bif decide (g=b) then
   (J8 (a - 1)).bind λd=>
   some (inl d)
  else
   some (inr a)
 else
  some (inr a)
def B4L {σ:Type} (e:F5) (j:F4) (m:σ→Int→(List Int)→Option σ) (i:σ):Option (σ):=
 (A0T e.F7.P9 j.fA).bind λc=>
 (G9 e.Q9 c).bind λa=>
 bif decide (a<0) then
   some i
 else
   (
     iter (A9x e a) FUEL a).bind λb=>
   (G9 e.F7.A0k a).bind λk=>
   (G9 e.F7.P9.C8 k).bind λl=>
   bif !decide (l.F8=j.I7) then
     (m i 1 [c]).bind λd=>
     some d
   else
     (J8 (a - b)).bind λh=>
     bif !decide (h=j.fN) then
       (m i 1 [c]).bind λg=>
       some g
     else
       some i
def B5I {σ:Type} (n:F5) (l:F4) (m:σ→Int→(List Int)→Option σ) (b:σ) (a:Int):Option ((σ×Int)⊕σ):=
 (G9 n.F7.P9.A8 a).bind λj=>
 bif decide (l.fA=j.F8) then
  (m b 1 [a]).bind λk=>
  (J8 (a+1)).bind λc=>
  some (inl (k,c))
 else
  bif decide (l.fA=(⟨#[]⟩:ByteArray)) then
   (G9 n.F7.P9.A8 a).bind λe=>
   bif e.Y8 then
    (m b 1 [a]).bind λd=>
    (J8 (a+1)).bind λi=>
    some (inl (d,i))
   else
    (J8 (a+1)).bind λg=>
    some (inl (b,g))
  else
   (J8 (a+1)).bind λh=>
   some (inl (b,h))
def A5m {σ:Type} (g:F5) (i:F4) (j:σ→Int→(List Int)→Option σ):(σ×Int)→Option ((σ×Int)⊕σ):=λ(b,a)=>
 bif decide (a<(g.Q9.length:Int)) then
  (G9 g.Q9 a).bind λc=>
  bif decide (0≤c) then
   (G9 g.F7.C5P c).bind λh=>
   bif !h then
    B5I g i j b a
   else
    (J8 (a+1)).bind λd=>
    some (inl (b,d))
  else
   (J8 (a+1)).bind λe=>
   some (inl (b,e))
 else
  some (inr b)
def B2l {σ:Type} (b:F5) (d:F4) (e:σ→Int→(List Int)→Option σ) (c:σ):Option (σ):=
 (
   iter (A5m b d e) FUEL (c,0)).bind λa=>
 some a
def B5N (n:F5) (m:Int) (k:List Int) (b:Int) (c:Bool) (a:Bool):Option ((Int×Bool×Bool)⊕(Bool×Bool)):=
 (G9 k b).bind λj=>
 (G9 n.B3N j).bind λd=>
 bif decide (0≤d) then
  bif a then
   (G9 n.F7.B2q m).bind λi=>
   (G9 i d).bind λh=>
   (J8 (b+1)).bind λl=>
   some (inl (l,true,!h))
  else
   (J8 (b+1)).bind λg=>
   some (inl (g,true,false))
 else
  (J8 (b+1)).bind λe=>
  some (inl (e,c,a))
def A2D (g:F5) (e:Int) (d:List Int):(Int×Bool×Bool)→Option ((Int×Bool×Bool)⊕(Bool×Bool)):=λ(c,b,a)=>
 bif decide (c<(d.length:Int)) then
  B5N g e d c b a
 else
  some (inr (b,a))
def A1D (l:F5) (k:Int) (g:List Int) (i:List Int):(Int×Bool×Bool)→Option ((Int×Bool×Bool)⊕(Bool×Bool)):=λ(e,b,a)=>
 bif decide (e<([g,i].length:Int)) then
  (G9 [g,i] e).bind λj=>
  (
   iter (A2D l k j) FUEL (0,b,a)).bind λ(d,c)=>
  (J8 (e+1)).bind λh=>
  some (inl (h,d,c))
 else
  some (inr (b,a))
def B5G {σ:Type} (l:F5) (n:σ→Int→(List Int)→Option σ) (d:σ) (b:Int) (e:Int):Option ((σ×Int)⊕σ):=
 (G9 l.F7.Y2 e).bind λk=>
 (G9 l.F7.A0w e).bind λm=>
 (
  iter (A1D l b k m) FUEL (0,false,true)).bind λ(c,a)=>
 bif c then
  bif a then
   (n d 1 [b]).bind λg=>
   (J8 (b+1)).bind λi=>
   some (inl (g,i))
  else
   (J8 (b+1)).bind λj=>
   some (inl (d,j))
 else
  (J8 (b+1)).bind λh=>
  some (inl (d,h))
def A5F {σ:Type} (d:F5) (i:F4) (j:σ→Int→(List Int)→Option σ):(σ×Int)→Option ((σ×Int)⊕σ):=λ(b,a)=>
 bif decide (a<(d.Q9.length:Int)) then
  (G9 d.Q9 a).bind λc=>
  (
   bif decide (c<0) then
    some true
   else
    (A4e d i c).bind λe=>
    some (!e)).bind λh=>
  bif h then
   (J8 (a+1)).bind λg=>
   some (inl (b,g))
  else
   B5G d j b a c
 else
  some (inr b)
def B2L {σ:Type} (b:F5) (d:F4) (e:σ→Int→(List Int)→Option σ) (c:σ):Option (σ):=
 (
   iter (A5F b d e) FUEL (c,0)).bind λa=>
 some a
def B3n {σ:Type} (p:F5) (t:F4) (s:σ→Int→(List Int)→Option σ) (c:Int) (q:Int) (b:σ) (a:Int) (r:Int):Option ((σ×Int)⊕σ):=
 (A4e p t q).bind λl=>
 bif l then
  (A6q p c a).bind λe=>
  bif !e then
   (s b 1 [c,a]).bind λd=>
   (J8 (a+1)).bind λk=>
   some (inl (d,k))
  else
   (J8 (a+1)).bind λm=>
   some (inl (b,m))
 else
  (A4e p t r).bind λj=>
  bif j then
   (A6q p c a).bind λh=>
   bif !h then
    (s b 1 [c,a]).bind λn=>
    (J8 (a+1)).bind λo=>
    some (inl (n,o))
   else
    (J8 (a+1)).bind λi=>
    some (inl (b,i))
  else
   (J8 (a+1)).bind λg=>
   some (inl (b,g))
def B3h {σ:Type} (j:F5) (m:F4) (n:σ→Int→(List Int)→Option σ) (d:Int) (e:Int) (b:σ) (a:Int):Option ((σ×Int)⊕σ):=
 (G9 j.Q9 a).bind λh=>
 bif decide (0≤e) then
  bif decide (0≤h) then
   (G9 j.F7.A0L d).bind λk=>
   (G9 k a).bind λl=>
   bif decide (l=1) then
    B3n j m n d e b a h
   else
    (J8 (a+1)).bind λc=>
    some (inl (b,c))
  else
   (J8 (a+1)).bind λg=>
   some (inl (b,g))
 else
  (J8 (a+1)).bind λi=>
  some (inl (b,i))
def A3y {σ:Type} (e:F5) (g:F4) (h:σ→Int→(List Int)→Option σ) (c:Int) (d:Int):(σ×Int)→Option ((σ×Int)⊕σ):=λ(b,a)=>
 bif decide (a<(e.Q9.length:Int)) then
  B3h e g h c d b a
 else
  some (inr b)
def A3F {σ:Type} (g:F5) (i:F4) (j:σ→Int→(List Int)→Option σ):(σ×Int)→Option ((σ×Int)⊕σ):=λ(c,a)=>
 bif decide (a<(g.Q9.length:Int)) then
  (G9 g.Q9 a).bind λd=>
  (J8 (a+1)).bind λe=>
  (
   iter (A3y g i j a d) FUEL (c,e)).bind λh=>
  (J8 (a+1)).bind λb=>
  some (inl (h,b))
 else
  some (inr c)
def A9i {σ:Type} (b:F5) (d:F4) (e:σ→Int→(List Int)→Option σ) (c:σ):Option (σ):=
 (
   iter (A3F b d e) FUEL (c,0)).bind λa=>
 some a
def B3g {σ:Type} (j:F5) (m:F4) (n:σ→Int→(List Int)→Option σ) (b:σ) (a:Int):Option ((σ×Int)⊕σ):=
 (G9 j.Q9 a).bind λe=>
 bif decide (0≤e) then
  (G9 j.F7.P9.A8 a).bind λl=>
  bif decide (l.A0y=m.fA) then
   (A4e j m e).bind λk=>
   bif !k then
    (n b 1 [a]).bind λi=>
    (J8 (a+1)).bind λg=>
    some (inl (i,g))
   else
    (J8 (a+1)).bind λd=>
    some (inl (b,d))
  else
   (J8 (a+1)).bind λh=>
   some (inl (b,h))
 else
  (J8 (a+1)).bind λc=>
  some (inl (b,c))
def A3B {σ:Type} (c:F5) (d:F4) (e:σ→Int→(List Int)→Option σ):(σ×Int)→Option ((σ×Int)⊕σ):=λ(b,a)=>
 bif decide (a<(c.Q9.length:Int)) then
  B3g c d e b a
 else
  some (inr b)
def A9k {σ:Type} (b:F5) (d:F4) (e:σ→Int→(List Int)→Option σ) (c:σ):Option (σ):=
 (
   iter (A3B b d e) FUEL (c,0)).bind λa=>
 some a
def B5H {σ:Type} (o:F5) (n:Int→Int→Option Bool) (p:σ→Int→(List Int)→Option σ) (i:Int) (m:Int) (b:σ) (a:Int) (l:Int):Option ((σ×Int)⊕σ):=
 (G9 o.F7.A0k l).bind λg=>
 (G9 o.F7.A0k m).bind λe=>
 bif decide (g=e) then
  (n i a).bind λk=>
  bif k then
   (p b 1 [i,a]).bind λj=>
   (J8 (a+1)).bind λd=>
   some (inl (j,d))
  else
   (J8 (a+1)).bind λh=>
   some (inl (b,h))
 else
  (J8 (a+1)).bind λc=>
  some (inl (b,c))
def A5o {σ:Type} (e:F5) (g:Int→Int→Option Bool) (j:σ→Int→(List Int)→Option σ) (i:Int) (h:Int):(σ×Int)→Option ((σ×Int)⊕σ):=λ(b,a)=>
 bif decide (a<(e.Q9.length:Int)) then
  (G9 e.Q9 a).bind λd=>
  bif decide (0≤d) then
   B5H e g j i h b a d
  else
   (J8 (a+1)).bind λc=>
   some (inl (b,c))
 else
  some (inr b)
def B5O {σ:Type} (h:F5) (m:F4) (i:Int→Int→Option Bool) (n:σ→Int→(List Int)→Option σ) (d:σ) (a:Int):Option ((σ×Int)⊕σ):=
 (G9 h.Q9 a).bind λb=>
 (
  bif decide (b<0) then
   some true
  else
   (A4e h m b).bind λe=>
   some (!e)).bind λl=>
 bif l then
  (J8 (a+1)).bind λk=>
  some (inl (d,k))
 else
  (J8 (a+1)).bind λj=>
  (
   iter (A5o h i n a b) FUEL (d,j)).bind λg=>
  (J8 (a+1)).bind λc=>
  some (inl (g,c))
def A5y {σ:Type} (d:F5) (e:F4) (c:Int→Int→Option Bool) (g:σ→Int→(List Int)→Option σ):(σ×Int)→Option ((σ×Int)⊕σ):=λ(b,a)=>
 bif decide (a<(d.Q9.length:Int)) then
  B5O d e c g b a
 else
  some (inr b)
def A5V {σ:Type} (c:F5) (e:F4) (a:Int→Int→Option Bool) (g:σ→Int→(List Int)→Option σ) (d:σ):Option (σ):=
 (
   iter (A5y c e a g) FUEL (d,0)).bind λb=>
 some b
def A3r (j:F5) (k:Int):(Int×(List Int))→Option ((Int×(List Int))⊕(List Int)):=λ(b,a)=>
 bif decide (b<(j.Q9.length:Int)) then
  (G9 j.Q9 b).bind λc=>
  bif decide (0≤c) then
   (G9 j.F7.A0k c).bind λe=>
   bif decide (e=k) then
    (apL a [b]).bind λi=>
    (J8 (b+1)).bind λd=>
    some (inl (d,i))
   else
    (J8 (b+1)).bind λh=>
    some (inl (h,a))
  else
   (J8 (b+1)).bind λg=>
   some (inl (g,a))
 else
  some (inr a)
def B7D {σ:Type} (l:F5) (k:F4) (g:σ→(List Int)→Option σ) (e:σ) (a:Int):Option ((σ×Int)⊕σ):=
 (G9 l.F7.P9.C8 a).bind λh=>
 (
  bif !decide (k.I7=(⟨#[]⟩:ByteArray)) then
   some (!decide (k.I7=h.F8))
  else
   some false).bind λi=>
 bif i then
  (J8 (a+1)).bind λj=>
  some (inl (e,j))
 else
  (
   iter (A3r l a) FUEL (0,([]:List Int))).bind λc=>
  (g e c).bind λd=>
  (J8 (a+1)).bind λb=>
  some (inl (d,b))
def A4U {σ:Type} (d:F5) (e:F4) (c:σ→(List Int)→Option σ):(σ×Int)→Option ((σ×Int)⊕σ):=λ(b,a)=>
 bif decide (a<(d.F7.P9.C8.length:Int)) then
  B7D d e c b a
 else
  some (inr b)
def A9F {σ:Type} (c:F5) (e:F4) (a:σ→(List Int)→Option σ) (d:σ):Option (σ):=
 (
   iter (A4U c e a) FUEL (d,0)).bind λb=>
 some b
def A4P (g:Int) (h:Int) (a:F5):Option (Bool):=
 (G9 a.F7.P9.A8 g).bind λe=>
 bif decide (0<e.A0x) then
   (G9 a.F7.P9.A8 g).bind λd=>
   (G9 a.F7.P9.A8 h).bind λb=>
   bif decide (d.A0x=b.A0x) then
     (A1L a a.F7.Y2 g h).bind λc=>
     some c
   else
     some false
 else
   some false
def A6T {σ:Type} (b:F5) (d:F4) (e:σ→Int→(List Int)→Option σ) (c:σ):Option (σ):=
 (A5V b d (λg h=>A4P g h b) e c).bind λa=>
 some a
def B2H (g:Int) (h:Int) (a:F5):Option (Bool):=
 (G9 a.F7.P9.A8 g).bind λe=>
 bif !decide (e.X4=(⟨#[]⟩:ByteArray)) then
   (G9 a.F7.P9.A8 g).bind λd=>
   (G9 a.F7.P9.A8 h).bind λb=>
   bif decide (d.X4=b.X4) then
     (A1L a a.F7.Y2 g h).bind λc=>
     some c
   else
     some false
 else
   some false
def B6X {σ:Type} (b:F5) (d:F4) (e:σ→Int→(List Int)→Option σ) (c:σ):Option (σ):=
 (A5V b d (λg h=>B2H g h b) e c).bind λa=>
 some a
def A9m (d:Int) (e:Int) (g:F5):Option (Bool):=
 (G9 g.F7.A0L d).bind λb=>
 (G9 b e).bind λa=>
 bif decide (a=2) then
   (A6q g d e).bind λc=>
   some c
 else
   some false
def B2P {σ:Type} (b:F5) (d:F4) (e:σ→Int→(List Int)→Option σ) (c:σ):Option (σ):=
 (A5V b d (λg h=>A9m g h b) e c).bind λa=>
 some a
def A8f (m:Int) (e:Int) (a:F5):Option (Bool):=
 (G9 a.F7.P9.S9 m).bind λl=>
 (G9 a.F7.P9.S9 e).bind λg=>
 (
   bif decide (g<l) then
     some (e,m)
   else
     some (m,e)).bind λ(b,c)=>
 (G9 a.F7.P9.S9 b).bind λj=>
 (G9 a.F7.P9.S9 c).bind λn=>
 bif decide (j<n) then
   (G9 a.Q9 b).bind λd=>
   (G9 a.F7.B8v d).bind λh=>
   (G9 a.Q9 c).bind λi=>
   (G9 a.F7.B8v i).bind λk=>
   some (decide (k<h))
 else
   some false
def B0U {σ:Type} (a:F5) (d:F4) (e:σ→Int→(List Int)→Option σ) (c:σ):Option (σ):=
 bif decide ((a.F7.P9.S9.length:Int)=0) then
   some c
 else
   (A5V a d (λg h=>A8f g h a) e c).bind λb=>
   some b
def A4s {σ:Type} (e:List Int) (g:F5) (h:σ):Int→Option (Int⊕(Unit⊕σ)):=λb=>
 bif decide (b<(e.length:Int)) then
  (G9 e b).bind λc=>
  (G9 g.F7.P9.A8 c).bind λd=>
  bif d.X9 then
   some (inr (inr h))
  else
   (J8 (b+1)).bind λa=>
   some (inl a)
 else
  some (inr (inl ()))
def B0M {σ:Type} (b:List Int) (d:F5) (e:σ→Int→(List Int)→Option σ) (a:σ):Option (σ):=
 (
   iter (A4s b d a) FUEL 0).bind λg=>match g with
 | .inl _u=>
   bif decide (0<(b.length:Int)) then
     (e a 1 b).bind λc=>
     some c
   else
     some a
 | .inr p=>
   some p
def B4Q {σ:Type} (b:F5) (d:F4) (e:σ→Int→(List Int)→Option σ) (c:σ):Option (σ):=
 (A9F b d (λs_ g=>B0M g b e s_) c).bind λa=>
 some a
def B1l {σ:Type} (a:List Int) (b:F4) (e:σ→Int→(List Int)→Option σ) (c:σ):Option (σ):=
 bif decide ((a.length:Int)<b.fN) then
   (J8 (b.fN - (a.length:Int))).bind λd=>
   (e c d a).bind λg=>
   some g
 else
   some c
def B4M {σ:Type} (c:F5) (b:F4) (e:σ→Int→(List Int)→Option σ) (d:σ):Option (σ):=
 (A9F c b (λs_ g=>B1l g b e s_) d).bind λa=>
 some a
def A9h {σ:Type} (a:List Int) (b:F4) (e:σ→Int→(List Int)→Option σ) (c:σ):Option (σ):=
 bif decide (b.fN<(a.length:Int)) then
   (J8 ((a.length:Int) - b.fN)).bind λd=>
   (e c d a).bind λg=>
   some g
 else
   some c
def B2I {σ:Type} (c:F5) (b:F4) (e:σ→Int→(List Int)→Option σ) (d:σ):Option (σ):=
 (A9F c b (λs_ g=>A9h g b e s_) d).bind λa=>
 some a
end Go.Dm
open Go Go.Sl Sum
namespace Go.Dm
def B4E {σ:Type} (n:Nat) (v:F5) (r:F4) (f:σ→Int→(List Int)→Option σ) (s:σ):Option σ:=
 if n=87 then B2J v r f s else
 if n=88 then A5L v r f s else
 if n=89 then A5N v r f s else
 if n=90 then B0K v r f s else
 if n=91 then A8c v r f s else
 if n=92 then B9P v r f s else
 if n=93 then B4L v r f s else
 if n=94 then A6T v r f s else
 if n=95 then B4Q v r f s else
 if n=96 then B2l v r f s else
 if n=97 then B2L v r f s else
 if n=98 then B2P v r f s else
 if n=99 then A9i v r f s else
 if n=100 then B0U v r f s else
 if n=101 then B4M v r f s else
 if n=102 then B2I v r f s else
 if n=103 then A9k v r f s else
 if n=104 then B6X v r f s else
 none
def A0W (a:Int) (d:List Int) (c:Int):Option (Int):=
 (J8 (c+a)).bind λb=>
 some b
def A4l (a:F5) (h:Int):Option (Int):=
 (G9 a.F7.P9.K5 h).bind λd=>
 (lkM a.F7.C1v d.F9 (H7.mk (⟨#[]⟩:ByteArray) 0 false 0 false 0 false (0:Nat))).bind λ(c,g)=>
 (G9 a.F7.P9.K5 h).bind λb=>
 (B4E c.C5T a b (λs_ i j=>A0W i j s_) 0).bind λe=>
 some e
def B5K (l:F5) (c:Int) (b:Int) (a:Int):Option ((Int×Int×Int)⊕(Int×Int)):=
 (G9 l.Q9 c).bind λg=>
 bif decide (g<0) then
  (J8 (b+1)).bind λd=>
  (G9 l.F7.P9.A8 c).bind λj=>
  bif j.X9 then
   (J8 (a+1)).bind λi=>
   (J8 (c+1)).bind λe=>
   some (inl (e,d,i))
  else
   (J8 (c+1)).bind λh=>
   some (inl (h,d,a))
 else
  (J8 (c+1)).bind λk=>
  some (inl (k,b,a))
def B5F (h:F5) (i:Int) (g:Int) (a:Int) (b:Int):Option (Int):=
 (G9 h.F7.P9.K5 i).bind λc=>
 bif decide (c.F9=9) then
  (J8 (g - b)).bind λd=>
  some (max d 0)
 else
  bif decide (c.F9=15) then
   (J8 (g - a)).bind λe=>
   some (max e 0)
  else
   bif decide (c.F9=11) then
    bif decide (0<a) then
     some (max 0 0)
    else
     some (max g 0)
   else
    some (max g 0)
def A2v (d:F5):(Int×Int×Int)→Option ((Int×Int×Int)⊕(Int×Int)):=λ(c,b,a)=>
 bif decide (c<(d.Q9.length:Int)) then
  B5K d c b a
 else
  some (inr (b,a))
def B0z (c:F5) (d:Int):Option (Int):=
 (A4l c d).bind λe=>
 (
   iter (A2v c) FUEL (0,0,0)).bind λ(b,a)=>
 B5F c d e b a
def B0v  : Option (List (Int×H7)):=
 (some (A2y ([]:List (Int×H7)) 1 (H7.mk (⟨#[97,112,97,114,116]⟩:ByteArray) 103 true 0 true 0 false (87:Nat)))).bind λs=>
 (some (A2y s 2 (H7.mk (⟨#[98,101,115,105,100,101]⟩:ByteArray) 103 true 0 false 0 false (88:Nat)))).bind λr=>
 (some (A2y r 3 (H7.mk (⟨#[97,99,114,111,115,115]⟩:ByteArray) 103 true 0 false 0 false (89:Nat)))).bind λi=>
 (some (A2y i 4 (H7.mk (⟨#[110,101,97,114]⟩:ByteArray) 103 true 0 true 1 false (90:Nat)))).bind λn=>
 (some (A2y n 5 (H7.mk (⟨#[116,111,103,101,116,104,101,114]⟩:ByteArray) 103 true 0 false 0 false (91:Nat)))).bind λo=>
 (some (A2y o 6 (H7.mk (⟨#[97,116]⟩:ByteArray) 103 false 116 false 0 false (92:Nat)))).bind λb=>
 (some (A2y b 7 (H7.mk (⟨#[115,101,97,116]⟩:ByteArray) 103 false 116 true 0 true (93:Nat)))).bind λh=>
 (some (A2y h 8 (H7.mk (⟨#[97,108,116,101,114,110,97,116,101]⟩:ByteArray) 0 false 101 false 0 false (94:Nat)))).bind λd=>
 (some (A2y d 9 (H7.mk (⟨#[104,111,115,116]⟩:ByteArray) 0 false 101 false 0 false (95:Nat)))).bind λp=>
 (some (A2y p 10 (H7.mk (⟨#[114,101,97,99,104]⟩:ByteArray) 101 false 0 false 0 false (96:Nat)))).bind λj=>
 (some (A2y j 11 (H7.mk (⟨#[115,112,101,97,107]⟩:ByteArray) 0 false 101 false 0 false (97:Nat)))).bind λa=>
 (some (A2y a 12 (H7.mk (⟨#[112,101,97,99,101]⟩:ByteArray) 0 false 101 false 0 false (98:Nat)))).bind λk=>
 (some (A2y k 13 (H7.mk (⟨#[99,111,109,112,97,110,121]⟩:ByteArray) 0 false 101 false 0 false (99:Nat)))).bind λc=>
 (some (A2y c 14 (H7.mk (⟨#[104,111,110,111,117,114]⟩:ByteArray) 0 false 101 false 0 false (100:Nat)))).bind λm=>
 (some (A2y m 15 (H7.mk (⟨#[102,105,108,108]⟩:ByteArray) 0 false 101 true 0 false (101:Nat)))).bind λq=>
 (some (A2y q 16 (H7.mk (⟨#[108,105,109,105,116]⟩:ByteArray) 0 false 101 true 0 false (102:Nat)))).bind λl=>
 (some (A2y l 17 (H7.mk (⟨#[107,105,116,99,104,101,110]⟩:ByteArray) 100 false 116 false 0 false (103:Nat)))).bind λe=>
 (some (A2y e 18 (H7.mk (⟨#[109,105,120]⟩:ByteArray) 0 false 101 false 0 false (104:Nat)))).bind λg=>
 some g
def A0t (a:H7) (b:F4):Option (Bool):=
 bif a.fb then
  bif !decide (a.ft=0) then
   bif a.fn then
    some true
   else
    some (decide (b.fN=0))
  else
   bif decide (b.I7=(⟨#[]⟩:ByteArray)) then
    bif a.fn then
     some true
    else
     some (decide (b.fN=0))
   else
    some false
 else
  bif decide (b.fB=(⟨#[]⟩:ByteArray)) then
   bif !decide (a.ft=0) then
    bif a.fn then
     some true
    else
     some (decide (b.fN=0))
   else
    bif decide (b.I7=(⟨#[]⟩:ByteArray)) then
     bif a.fn then
      some true
     else
      some (decide (b.fN=0))
    else
     some false
  else
   some false
def A0r (a:H7) (b:F4):Option (Bool):=
 bif a.fb then
  bif !decide (a.ft=0) then
   bif a.fn then
    some true
   else
    some (decide (b.fN=0))
  else
   bif decide (b.I7=(⟨#[]⟩:ByteArray)) then
    bif a.fn then
     some true
    else
     some (decide (b.fN=0))
   else
    some false
 else
  bif decide (b.fB=(⟨#[]⟩:ByteArray)) then
   bif !decide (a.ft=0) then
    bif a.fn then
     some true
    else
     some (decide (b.fN=0))
   else
    bif decide (b.I7=(⟨#[]⟩:ByteArray)) then
     bif a.fn then
      some true
     else
      some (decide (b.fN=0))
    else
     some false
  else
   some false
def A0A (a:H7) (b:F4):Option (Bool):=
 bif !decide (a.fa=0) then
   A0t a b
 else
   bif decide (b.fA=(⟨#[]⟩:ByteArray)) then
     A0r a b
   else
     some false
def A3O (d:H7) (c:C9) (a:F4):Option (Bool):=
 bif decide (d.fa=101) then
  bif !decide (a.fA=(⟨#[]⟩:ByteArray)) then
   (A0T c a.fA).bind λb=>
   bif decide (b<0) then
    some (decide (b<0))
   else
    bif d.fb then
     (A0T c a.fB).bind λg=>
     some (decide (g<0))
    else
     some false
  else
   bif d.fb then
    (A0T c a.fB).bind λe=>
    some (decide (e<0))
   else
    some false
 else
  bif d.fb then
   (A0T c a.fB).bind λh=>
   some (decide (h<0))
  else
   some false
def A3P (j:H7) (k:C9) (g:F4) (b:Int) (h:Bool):Option (Int):=
 bif h then
  some 6
 else
  (
   bif j.A6l then
    (J8 (b+1)).bind λd=>
    (sbL k.C8 b d).bind λi=>
    (A2s i).bind λc=>
    (J8 (c - 1)).bind λe=>
    some e
   else
    some 24).bind λa=>
  bif j.fn then
   bif decide (g.fN<j.flo) then
    some 42
   else
    bif decide (a<g.fN) then
     some 42
    else
     some 0
  else
   some 0
def A7T (e:H7) (g:C9) (b:F4):Option (Int):=
 (B4w g.C8 b.I7).bind λ(d,a)=>
 (
  bif decide (e.ft=116) then
   bif !a then
    some true
   else
    bif decide (e.ft=101) then
     bif !decide (b.I7=(⟨#[]⟩:ByteArray)) then
      some (!a)
     else
      some false
    else
     some false
  else
   bif decide (e.ft=101) then
    bif !decide (b.I7=(⟨#[]⟩:ByteArray)) then
     some (!a)
    else
     some false
   else
    some false).bind λc=>
 A3P e g b d c
def A7W (g:H7) (i:C9) (a:F4) (e:Bool):Option (Int):=
 (
  bif e then
   some e
  else
   A3O g i a).bind λh=>
 bif h then
  some 6
 else
  (
   bif decide (g.fa=100) then
    (A9H a.fA).bind λb=>
    some (!b)
   else
    some false).bind λd=>
  bif d then
   some 4
  else
   (
    bif g.fb then
     some (decide (a.fA=a.fB))
    else
     some false).bind λc=>
   bif c then
    some 5
   else
    A7T g i a
def A1P (b:H7) (h:C9) (a:F4):Option (Int):=
 bif decide (b.A7s=(⟨#[]⟩:ByteArray)) then
   some 40
 else
   (
     bif decide (a.K8<0) then
       some true
     else
       some (decide (1000<a.K8))).bind λe=>
   bif e then
     some 41
   else
     (A0A b a).bind λg=>
     bif !g then
       some 43
     else
       (
         bif decide (b.fa=103) then
           (A0T h a.fA).bind λd=>
           some (decide (d<0))
         else
           some false).bind λc=>
       A7W b h a c
def A5l (d:C9):Int→Option (Int⊕(Unit⊕(Int×Int))):=λa=>
 bif decide (a<(d.S9.length:Int)) then
  (G9 d.S9 a).bind λb=>
  bif decide (b<0) then
   some (inr (inr (0,44)))
  else
   bif decide (64≤b) then
    some (inr (inr (0,44)))
   else
    (J8 (a+1)).bind λc=>
    some (inl c)
 else
  some (inr (inl ()))
def B5B (a:C9):Option (Int×Int):=
 (
  bif decide (0<(a.S9.length:Int)) then
   some (!decide ((a.S9.length:Int)=(a.A8.length:Int)))
  else
   some false).bind λd=>
 bif d then
  some (0,44)
 else
  (
   iter (A5l a) FUEL 0).bind λb=>match b with
  | .inl _u=>
   (A2s a.C8).bind λc=>
   bif decide (c<(a.A8.length:Int)) then
    some (0,45)
   else
    some (0,0)
  | .inr p=>
   some p
def B2D (c:C9):Option (Int×Int):=
 (A5e c.C8).bind λ(e,a)=>
 bif !decide (a=0) then
   some (e,a)
 else
   (A5T (R4.mk c.A8 c.O0)).bind λ(d,b)=>
   bif !decide (b=0) then
     some (d,b)
   else
     B5B c
def A5h (d:C9) (e:List (Int×H7)):Int→Option (Int⊕(Unit⊕(Int×Int))):=λa=>
 bif decide (a<(d.K5.length:Int)) then
  (G9 d.K5 a).bind λb=>
  (lkM e b.F9 (H7.mk (⟨#[]⟩:ByteArray) 0 false 0 false 0 false (0:Nat))).bind λ(g,i)=>
  (A1P g d b).bind λc=>
  bif !decide (c=0) then
   some (inr (inr (a,c)))
  else
   bif decide (a=64) then
    some (inr (inr (a,7)))
   else
    (J8 (a+1)).bind λh=>
    some (inl h)
 else
  some (inr (inl ()))
def A3x (e:C9):Option (Int×Int):=
 (B2D e).bind λ(d,a)=>
 bif !decide (a=0) then
   some (d,a)
 else
   B0v.bind λc=>
   (
     iter (A5h e c) FUEL 0).bind λb=>match b with
   | .inl _u=>
     some (0,0)
   | .inr p=>
     some p
def A9U (d:Int) (c:C9) (b:Int):Option (Bool):=
 (B0T c.C8 b d).bind λa=>
 some a
def B0k (d:Int) (c:C9) (b:Int):Option (Bool):=
 (B1m c.C8 b d).bind λa=>
 some a
def B5z (k:List Int) (c:Int) (a:List (Int×Int)) (b:List Int):Option ((Int×(List (Int×Int))×(List Int))⊕((List (Int×Int))×(List Int))):=
 (G9 k c).bind λd=>
 (lkM a d 0).bind λ(p,e)=>
 bif !e then
  (G9 b 0).bind λn=>
  (lkM a n 0).bind λ(m,o)=>
  (J8 (m+1)).bind λl=>
  (some (A2y a d l)).bind λh=>
  (apL b [d]).bind λj=>
  (J8 (c+1)).bind λi=>
  some (inl (i,h,j))
 else
  (J8 (c+1)).bind λg=>
  some (inl (g,a,b))
def A8y (d:List Int):(Int×(List (Int×Int))×(List Int))→Option ((Int×(List (Int×Int))×(List Int))⊕((List (Int×Int))×(List Int))):=λ(c,b,a)=>
 bif decide (c<(d.length:Int)) then
  B5z d c b a
 else
  some (inr (b,a))
def A8w (j:List Int) (i:List Int):(Int×(List (Int×Int))×(List Int))→Option ((Int×(List (Int×Int))×(List Int))⊕((List (Int×Int))×(List Int))):=λ(d,b,a)=>
 bif decide (d<([j,i].length:Int)) then
  (G9 [j,i] d).bind λh=>
  (
   iter (A8y h) FUEL (0,b,a)).bind λ(e,c)=>
  (J8 (d+1)).bind λg=>
  some (inl (g,e,c))
 else
  some (inr (b,a))
def A8s (k:Q5):((List (Int×Int))×(List Int))→Option (((List (Int×Int))×(List Int))⊕(List (Int×Int))):=λ(c,a)=>
 bif decide (0<(a.length:Int)) then
  (G9 a 0).bind λh=>
  (G9 k.Y2 h).bind λg=>
  (G9 a 0).bind λj=>
  (G9 k.A0w j).bind λi=>
  (
   iter (A8w g i) FUEL (0,c,a)).bind λ(d,b)=>
  (sbL b 1 (b.length:Int)).bind λe=>
  some (inl (d,e))
 else
  some (inr c)
def B2o (c:Q5) (a:Int):Option (List (Int×Int)):=
 (some (A2y ([]:List (Int×Int)) a 0)).bind λd=>
 (
   iter (A8s c) FUEL (d,[a])).bind λb=>
 some b
def A6f (a:Q5):Option (Bool):=
 some false
def B9g (u:C9) (n:Int) (h:Int) (i:Int) (d:List Int) (e:List Int) (g:List Bool) (c:List (List Int)) (b:List (List Int)) (a:Int):Option (((List Int)×(List Int)×(List Bool)×(List (List Int))×(List (List Int))×Int)⊕((List Int)×(List Int)×(List Bool)×(List (List Int))×(List (List Int)))):=
 (apL d [n]).bind λk=>
 (B2B u.C8 a).bind λr=>
 (apL e [r]).bind λp=>
 (B4P u.C8 a).bind λs=>
 (apL g [s]).bind λo=>
 (B0d h i (λv=>A9U v u a)).bind λm=>
 (apL c [m]).bind λj=>
 (B0d h i (λv=>B0k v u a)).bind λt=>
 (apL b [t]).bind λq=>
 (J8 (a+1)).bind λl=>
 some (inl (k,p,o,j,q,l))
def B0S (l:C9) (k:Int) (g:Int) (h:Int):((List Int)×(List Int)×(List Bool)×(List (List Int))×(List (List Int))×Int)→Option (((List Int)×(List Int)×(List Bool)×(List (List Int))×(List (List Int))×Int)⊕((List Int)×(List Int)×(List Bool)×(List (List Int))×(List (List Int)))):=λ(c,d,e,b,a,i)=>
 (J8 (g+h)).bind λj=>
 bif decide (i<j) then
  B9g l k g h c d e b a i
 else
  some (inr (c,d,e,b,a))
def B0H (o:C9) (c:E9):((Option L6)×Int×(List Bool)×(List Int))→Option (((Option L6)×Int×(List Bool)×(List Int))⊕((Option L6)×(List Bool)×(List Int))):=λ(g,b,d,e)=>
 bif decide (b<(o.A8.length:Int)) then
  (G9 o.A8 b).bind λh=>
  g.bind λa=>
  (B0W a c.F8 h.F8).bind λi=>
  (apL d [decide (0<(i.length:Int))]).bind λm=>
  (B4D a c.F8 h.F8).bind λ(k,n)=>
  (apL e [k]).bind λj=>
  (J8 (b+1)).bind λl=>
  some (inl ((some a),l,m,j))
 else
  some (inr (g,d,e))
def B0N (m:C9):((List (List Bool))×(List (List Int))×(Option L6)×Int)→Option (((List (List Bool))×(List (List Int))×(Option L6)×Int)⊕((List (List Bool))×(List (List Int)))):=λ(a,b,k,c)=>
 bif decide (c<(m.A8.length:Int)) then
  (G9 m.A8 c).bind λd=>
  (
   iter (B0H m d) FUEL (k,0,([]:List Bool),([]:List Int))).bind λ(i,g,h)=>
  (apL a [g]).bind λl=>
  (apL b [h]).bind λe=>
  (J8 (c+1)).bind λj=>
  some (inl (l,e,i,j))
 else
  some (inr (a,b))
def B1k (l:C9) (m:List (Int×H7)) (b:List Int) (g:List Int) (h:List Bool) (c:List (List Int)) (d:List (List Int)):((List (List (Int×Int)))×Int)→Option (((List (List (Int×Int)))×Int)⊕(List (List (Int×Int)))):=λ(a,e)=>
 bif decide (e<(b.length:Int)) then
  (B2o (Q5.mk l m b g h c d a ([]:List (List Bool)) ([]:List (List Int))) e).bind λj=>
  (apL a [j]).bind λi=>
  (J8 (e+1)).bind λk=>
  some (inl (i,k))
 else
  some (inr a)
def B8V (m:C9) (j:C9) (l:List (Int×H7)) (c:List Int) (d:List Int) (e:List Bool) (a:List (List Int)) (b:List (List Int)):Option ((Option Q5)×Int×Int):=
 (
  iter (B1k j l c d e a b) FUEL (([]:List (List (Int×Int))),0)).bind λh=>
 (A7E (R4.mk m.A8 m.O0)).bind λ(k,n,o)=>
 (
  iter (B0N m) FUEL (([]:List (List Bool)),([]:List (List Int)),k,0)).bind λ(g,i)=>
 some ((some (Q5.mk j l c d e a b h g i)),0,0)
def B0Z (r:C9):((List Int)×(List Int)×(List Bool)×(List (List Int))×(List (List Int))×Int)→Option (((List Int)×(List Int)×(List Bool)×(List (List Int))×(List (List Int))×Int)⊕((List Int)×(List Int)×(List Bool)×(List (List Int))×(List (List Int)))):=λ(d,e,g,a,b,c)=>
 bif decide (c<(r.C8.length:Int)) then
  (A2A r.C8 c).bind λm=>
  (J8 (c+1)).bind λq=>
  (sbL r.C8 c q).bind λp=>
  (A2s p).bind λo=>
  (
   iter (B0S r c m o) FUEL (d,e,g,a,b,m)).bind λ(k,j,l,h,i)=>
  (J8 (c+1)).bind λn=>
  some (inl (k,j,l,h,i,n))
 else
  some (inr (d,e,g,a,b))
def B1S (h:C9):Option ((Option Q5)×Int×Int):=
 (A3x h).bind λ(k,g)=>
 bif !decide (g=0) then
   some ((none),k,g)
 else
   (A8R h).bind λj=>
   B0v.bind λi=>
   (
     iter (B0Z h) FUEL (([]:List Int),([]:List Int),([]:List Bool),([]:List (List Int)),([]:List (List Int)),0)).bind λ(c,d,e,b,a)=>
   B8V h j i c d e b a
def A8v (b:Q5):Option (C9):=
 (A6f b).bind λc=>
 bif c then
   some (C9.mk ([]:List D5) ([]:List E9) ([]:List I1) ([]:List Int) ([]:List F4))
 else
   (A8R b.P9).bind λa=>
   some a
def B5X (l:Q5) (d:List Int) (a:List Int) (c:Int):Option (((List Int)×Int)⊕((List Int)⊕(Option F5))):=
 (G9 d c).bind λb=>
 (
  bif decide (b<(-1)) then
   some true
  else
   bif decide ((l.A0k.length:Int)≤b) then
    some true
   else
    bif decide (0≤b) then
     (G9 a b).bind λi=>
     some (decide (0≤i))
    else
     some false).bind λj=>
 bif j then
  some (inr (inr (none)))
 else
  bif decide (0≤b) then
   (G9 a b).bind λk=>
   (some (List.set a b.toNat c)).bind λg=>
   (J8 (c+1)).bind λh=>
   some (inl (g,h))
  else
   (J8 (c+1)).bind λe=>
   some (inl (a,e))
def A8B (d:Q5) (b:List Int):((List Int)×Int)→Option (((List Int)×Int)⊕((List Int)⊕(Option F5))):=λ(a,c)=>
 bif decide (c<(b.length:Int)) then
  B5X d b a c
 else
  some (inr (inl a))
def A5U (c:Q5) (a:List Int):Option (Option F5):=
 (
   (A6f c).bind λh=>
   bif h then
     some true
   else
     some (!decide ((a.length:Int)=(c.P9.A8.length:Int)))).bind λg=>
 bif g then
   some (none)
 else
   (A6t [(-1)] (c.A0k.length:Int)).bind λe=>
   (
     iter (A8B c a) FUEL (e,0)).bind λd=>match d with
   | .inl b=>
     some (some (F5.mk c a b))
   | .inr p=>
     some p
def B9b (g:Q5) (a:List Int) (d:Int):Option (Int):=
 (A5U g a).bind λe=>
 bif e.isNone then
   none
 else
   bif decide (d<0) then
     none
   else
     e.bind λb=>
     bif decide ((b.F7.P9.K5.length:Int)≤d) then
       none
     else
       (B0z b d).bind λc=>
       some c
def B7E (b:F5→Int→Option Int) (c:F5):(Int×Int)→Option ((Int×Int)⊕Int):=λ(a,d)=>
 bif decide (a<(c.F7.P9.K5.length:Int)) then
  (G9 c.F7.P9.K5 a).bind λe=>
  bif decide (0<e.K8) then
   (b c a).bind λg=>
   (J8 (e.K8*g)).bind λi=>
   (J8 (d+i)).bind λj=>
   (J8 (a+1)).bind λk=>
   some (inl (k,j))
  else
   (J8 (a+1)).bind λh=>
   some (inl (h,d))
 else
  some (inr d)
def C2M (g:Q5) (b:List Int) (a:F5→Int→Option Int):Option (Int):=
 (A5U g b).bind λe=>
 bif e.isNone then
   some 0
 else
   e.bind λd=>
   (
     iter (B7E a d) FUEL (0,0)).bind λc=>
   some c
def A5E (b:F5):Int→Option (Int⊕(Unit⊕(Int×Bool))):=λa=>
 bif decide (a<(b.F7.P9.K5.length:Int)) then
  (G9 b.F7.P9.K5 a).bind λg=>
  bif decide (g.K8=0) then
   (B0z b a).bind λc=>
   bif decide (0<c) then
    some (inr (inr (a,true)))
   else
    (J8 (a+1)).bind λe=>
    some (inl e)
  else
   (J8 (a+1)).bind λd=>
   some (inl d)
 else
  some (inr (inl ()))
def B2U (e:Q5) (a:List Int):Option (Int×Bool):=
 (A5U e a).bind λd=>
 bif d.isNone then
   some (0,false)
 else
   d.bind λb=>
   (
     iter (A5E b) FUEL 0).bind λc=>match c with
   | .inl _u=>
     some (0,false)
   | .inr p=>
     some p
def B6i (c:Q5) (a:List Int):Option (Int):=
 (C2M c a A4l).bind λb=>
 some b
def A5s (i:Int) (h:Int) (d:List Int) (e:Int):Option (Int):=
 (J8 (i - e)).bind λj=>
 (G9 d j).bind λg=>
 (J8 (h - e)).bind λb=>
 (G9 d b).bind λc=>
 (J8 (g - c)).bind λa=>
 some a
def A6w (g:Int) (h:List Int):(Int×(List Int))→Option ((Int×(List Int))⊕(List Int)):=λ(b,a)=>
 bif decide (b<(h.length:Int)) then
  (J8 (g+b)).bind λd=>
  (G9 a b).bind λi=>
  (some (List.set a b.toNat d)).bind λe=>
  (J8 (b+1)).bind λc=>
  some (inl (c,e))
 else
  some (inr a)
def A8E (h:List D5) (g:Int):Option (List Int):=
 (
   bif decide (g<0) then
     some true
   else
     bif decide ((h.length:Int)≤g) then
       some true
     else
       (A3w h).bind λk=>
       some (!k)).bind λj=>
 bif j then
   some ([]:List Int)
 else
   (G9 h g).bind λi=>
   (A4y i).bind λc=>
   (A2A h g).bind λd=>
   (mkL (c.length:Int) 0).bind λe=>
   (
     iter (A6w d e) FUEL (0,e)).bind λa=>
   (A4L a (λl m=>A5s l m c d)).bind λb=>
   some b
def B3G (p:C9) (b:Int) (c:Int) (a:List Int) (k:F4):Option ((Int×(List Int))⊕(List Int)):=
 bif decide (k.I7=(⟨#[]⟩:ByteArray)) then
  (A8E p.C8 b).bind λd=>
  (G9 d 0).bind λe=>
  (apL a [e]).bind λo=>
  (J8 (c+1)).bind λg=>
  some (inl (g,o))
 else
  (G9 p.C8 b).bind λj=>
  bif decide (k.I7=j.F8) then
   (A8E p.C8 b).bind λn=>
   (G9 n 0).bind λm=>
   (apL a [m]).bind λh=>
   (J8 (c+1)).bind λi=>
   some (inl (i,h))
  else
   (J8 (c+1)).bind λl=>
   some (inl (l,a))
def B3F (h:C9) (d:Int) (c:Int) (a:List Int):Option ((Int×(List Int))⊕(List Int)):=
 (G9 h.K5 c).bind λb=>
 (
  bif decide (b.F9=7) then
   (G9 h.C8 d).bind λi=>
   some (decide (b.I7=i.F8))
  else
   some false).bind λm=>
 bif m then
  (A2A h.C8 d).bind λj=>
  (J8 (j+b.fN)).bind λl=>
  (apL a [l]).bind λk=>
  (J8 (c+1)).bind λe=>
  some (inl (e,k))
 else
  bif decide (b.F9=14) then
   B3G h d c a b
  else
   (J8 (c+1)).bind λg=>
   some (inl (g,a))
def A6B (d:C9) (c:Int):(Int×(List Int))→Option ((Int×(List Int))⊕(List Int)):=λ(b,a)=>
 bif decide (b<(d.K5.length:Int)) then
  B3F d c b a
 else
  some (inr a)
def B0I (e:C9) (a:Int):Option (List Int):=
 (A3x e).bind λ(i,g)=>
 (
   bif !decide (g=0) then
     some true
   else
     bif decide (a<0) then
       some true
     else
       some (decide ((e.C8.length:Int)≤a))).bind λh=>
 bif h then
   some ([]:List Int)
 else
   (
     iter (A6B e a) FUEL (0,([]:List Int))).bind λb=>
   (B2k b).bind λd=>
   (A7N d).bind λc=>
   some c
end Go.Dm
open Go Go.Sl Sum
namespace Go.Dm
def A8D (a:Int) (b:D5):Option (Bool):=
 bif decide (a<0) then
   some true
 else
   (A2Z b).bind λc=>
   some (decide (c≤a))
def A8H (a:Int) (c:List Int):Option (Bool):=
 (G9 c a).bind λb=>
 some (!decide (b=a))
def B5m (c:D5) (d:List Int) (b:Int) (a:Int):Option (Int⊕(Unit⊕Bool)):=
 (G9 d b).bind λn=>
 (G9 d a).bind λk=>
 (A4A c b a).bind λh=>
 (A4A c n k).bind λj=>
 bif !(h == j) then
  some (inr (inr false))
 else
  (G9 d b).bind λm=>
  (G9 d a).bind λi=>
  (A4t c b a).bind λl=>
  (A4t c m i).bind λe=>
  bif !(l == e) then
   some (inr (inr false))
  else
   (J8 (a+1)).bind λg=>
   some (inl g)
def A5z (c:D5) (d:List Int) (b:Int):Int→Option (Int⊕(Unit⊕Bool)):=λa=>
 bif decide (a<b) then
  B5m c d b a
 else
  some (inr (inl ()))
def A7V (h:D5) (d:List Int):Int→Option (Int⊕(Unit⊕Bool)):=λa=>
 bif decide (a<(d.length:Int)) then
  (G9 d a).bind λg=>
  (A1f h.A2Q a).bind λc=>
  (A1f h.A2Q g).bind λe=>
  bif !(c == e) then
   some (inr (inr false))
  else
   (
    iter (A5z h d a) FUEL 0).bind λi=>match i with
   | .inl _u=>
    (J8 (a+1)).bind λb=>
    some (inl b)
   | .inr p=>
    some (inr (inr p))
 else
  some (inr (inl ()))
def A1T (a:D5) (c:List Int):Option (Bool):=
 (
   iter (A7V a c) FUEL 0).bind λb=>match b with
 | .inl _u=>
   some true
 | .inr p=>
   some p
def A1e (h:Int→Option Int) (g:List Int):(Int×(List Int))→Option ((Int×(List Int))⊕(List Int)):=λ(a,b)=>
 bif decide (a<(g.length:Int)) then
  (h a).bind λd=>
  (G9 b a).bind λi=>
  (some (List.set b a.toNat d)).bind λe=>
  (J8 (a+1)).bind λc=>
  some (inl (c,e))
 else
  some (inr b)
def A0F {σ:Type} (a:σ→(List Int)→Option (σ×Bool)) (j:Int) (e:List (Int→Option Int)):(σ×Int)→Option ((σ×Int)⊕(σ⊕σ)):=λ(g,c)=>
 bif decide (c<(e.length:Int)) then
  (G9 e c).bind λk=>
  (mkL j 0).bind λh=>
  (
   iter (A1e k h) FUEL (0,h)).bind λl=>
  (a g l).bind λ(b,d)=>
  bif !d then
   some (inr (inr b))
  else
   (J8 (c+1)).bind λi=>
   some (inl (b,i))
 else
  some (inr (inl g))
def A3W {σ:Type} (a:σ→(List Int)→Option (σ×Bool)) (h:σ) (b:D5):Option (σ):=
 (Y4 b.Q6).bind λ(i,j)=>
 (A2Z b).bind λg=>
 (i.C3G b.fA b.fB).bind λc=>
 (
   iter (A0F a g c) FUEL (h,0)).bind λd=>match d with
 | .inl e=>
   some e
 | .inr p=>
   some p
def A9b (a:D5):Option (D5):=
 some a
def A9p (i:D5) (a:List Int):((List (List Int))⊕Unit)→(List Int)→Option (((List (List Int))⊕Unit)×Bool):=λo_ c=>
 match o_ with
 | .inl b=>
  (A1T i c).bind λg=>
  bif g then
   (A0B a (λh=>A8H h c)).bind λe=>
   bif !e then
    (apL b [c]).bind λd=>
    some (inl d,true)
   else
    some (inl b,true)
  else
   some (inl b,true)
 | .inr _=>none
def B4S (d:D5) (a:List Int):Option (List (List Int)):=
 (
   (A5W d).bind λg=>
   bif !decide (g=0) then
     some true
   else
     (A0B a (λl=>A8D l d)).bind λj=>
     some j).bind λi=>
 bif i then
   some ([]:List (List Int))
 else
   (A9b d).bind λh=>
   (A3W (A9p d a) (inl ([]:List (List Int))) h).bind λk=>match k with
   | .inl e=>
     (A5P e A3M).bind λc=>
     (A3n c A3c).bind λb=>
     some b
   | .inr _=>none
end Go.Dm
open Go Go.Sl Sum
namespace Go.Dm
def A8u (k:C9) (g:Int) (c:List Int):(Int×(List Int))→Option ((Int×(List Int))⊕(List Int)):=λ(b,a)=>
 bif decide (b<(c.length:Int)) then
  (G9 c b).bind λi=>
  (A2A k.C8 g).bind λj=>
  (J8 (i - j)).bind λe=>
  (apL a [e]).bind λd=>
  (J8 (b+1)).bind λh=>
  some (inl (h,d))
 else
  some (inr a)
def B6F (g:C9) (b:Int):Option (List (List Int)):=
 (B0I g b).bind λc=>
 (
   iter (A8u g b c) FUEL (0,([]:List Int))).bind λa=>
 (G9 g.C8 b).bind λe=>
 (B4S e a).bind λd=>
 some d
def B2X (d:C9) (a:Int):Option (List (List Int)):=
 (A3x d).bind λ(e,c)=>
 bif !decide (c=0) then
   some ([]:List (List Int))
 else
   bif decide (a<0) then
     some ([]:List (List Int))
   else
     bif decide ((d.C8.length:Int)≤a) then
       some ([]:List (List Int))
     else
       (B6F d a).bind λb=>
       some b
def B5L (c:Int) (a:List Bool) (b:Int):Option ((Int×(List Bool))⊕(Unit⊕(Int×Int))):=
 bif decide (0≤b) then
  (G9 a b).bind λj=>
  bif j then
   some (inr (inr (c,51)))
  else
   bif decide (0≤b) then
    (G9 a b).bind λl=>
    (some (List.set a b.toNat true)).bind λk=>
    (J8 (c+1)).bind λh=>
    some (inl (h,k))
   else
    (J8 (c+1)).bind λi=>
    some (inl (i,a))
 else
  bif decide (0≤b) then
   (G9 a b).bind λm=>
   (some (List.set a b.toNat true)).bind λg=>
   (J8 (c+1)).bind λe=>
   some (inl (e,g))
  else
   (J8 (c+1)).bind λd=>
   some (inl (d,a))
def A8k (a:List Int) (d:Bool) (i:Int):(Int×(List Bool))→Option ((Int×(List Bool))⊕(Unit⊕(Int×Int))):=λ(c,b)=>
 bif decide (c<(a.length:Int)) then
  (G9 a c).bind λe=>
  (
   bif decide (e=(-1)) then
    some d
   else
    some false).bind λg=>
  bif g then
   some (inr (inr (c,52)))
  else
   (
    bif decide (e<(-1)) then
     some true
    else
     some (decide (i≤e))).bind λh=>
   bif h then
    some (inr (inr (c,50)))
   else
    B5L c b e
 else
  some (inr (inl ()))
def B2M (g:C9) (a:List Int) (b:Bool):Option (Int×Int):=
 bif !decide ((a.length:Int)=(g.A8.length:Int)) then
   some (0,53)
 else
   (A2s g.C8).bind λc=>
   (mkL c false).bind λd=>
   (
     iter (A8k a b c) FUEL (0,d)).bind λe=>match e with
   | .inl _u=>
     some (0,0)
   | .inr p=>
     some p
def B2W (g:C9) (b:List Int) (a:Bool):Option (Int×Int):=
 (A3x g).bind λ(h,c)=>
 bif !decide (c=0) then
   some (0,c)
 else
   (B2M g b a).bind λ(d,e)=>
   some (d,e)
def A6M (d:C9) (a:List Int):Option (Int×Int):=
 (B2W d a false).bind λ(c,b)=>
 some (c,b)
end Go.Dm
open Go Go.Sl Sum
namespace Go.Dm
def A6X (o:C9):((List Int)×(List Int)×(List (List (List Int)))×Int)→Option (((List Int)×(List Int)×(List (List (List Int)))×Int)⊕((List Int)×(List Int)×(List (List (List Int))))):=λ(a,c,b,e)=>
 bif decide (e<(o.C8.length:Int)) then
  (apL c [(a.length:Int)]).bind λi=>
  (
   (G9 o.C8 e).bind λh=>
   (B2p h).bind λn=>
   (A6t [e] n).bind λg=>
   (apL a g).bind λm=>
   some m).bind λd=>
  (B2X o e).bind λk=>
  (apL b [k]).bind λj=>
  (J8 (e+1)).bind λl=>
  some (inl (d,i,j,l))
 else
  some (inr (a,c,b))
def A3f (j:C9):Option ((Option M7)×Int×Int):=
 (B1S j).bind λ(i,g,d)=>
 bif !decide (d=0) then
   some ((none),g,d)
 else
   i.bind λe=>
   (A8v e).bind λh=>
   (
     iter (A6X j) FUEL (([]:List Int),([]:List Int),([]:List (List (List Int))),0)).bind λ(b,c,a)=>
   some ((some (M7.mk e h b c a)),0,0)
def A6P (b:Int) (a:Int):(Int×Int)→Option ((Int×Int)⊕(Int⊕Int)):=λ(h,d)=>
 bif decide (d<a) then
  (J8 (b - d)).bind λg=>
  (J8 (h*g)).bind λc=>
  bif decide (20000<c) then
   some (inr (inr c))
  else
   (J8 (d+1)).bind λe=>
   some (inl (c,e))
 else
  some (inr (inl h))
def A4i (b:Int) (a:Int):Option (Int):=
 (
   iter (A6P b a) FUEL (1,0)).bind λd=>match d with
 | .inl c=>
   some c
 | .inr p=>
   some p
def A1b (e:C9):Option ((Option M7)×Int):=
 (A3f e).bind λ(c,g,a)=>
 bif !decide (a=0) then
   some ((none),a)
 else
   c.bind λb=>
   (A4i (b.A0k.length:Int) (e.A8.length:Int)).bind λd=>
   bif decide (20000<d) then
     some ((none),8)
   else
     some ((some b),0)
def A2k (b:M7):Option (List Int):=
 (A6t [(-1)] (b.fp.A8.length:Int)).bind λa=>
 some a
def B5x (a:List Int) (g:Int):Int→Option (Int⊕Unit):=λb=>
 bif decide (b<(a.length:Int)) then
  (G9 a b).bind λc=>
  bif !decide (b=g) then
   bif decide (0≤c) then
    none
   else
    (J8 (b+1)).bind λe=>
    some (inl e)
  else
   (J8 (b+1)).bind λd=>
   some (inl d)
 else
  some (inr ())
def C2s (g:M7) (a:List Int) (d:Int) (o:Int) (b:Int):Option (Bool):=
 (G9 g.B2C b).bind λi=>
 bif decide ((i.length:Int)≤o) then
  none
 else
  (G9 g.B2C b).bind λj=>
  (G9 j o).bind λk=>
  (G9 g.B8D b).bind λc=>
  (
   iter (B5x a d) FUEL 0).bind λ_u=>
  (G9 a d).bind λh=>
  (J8 (h - c)).bind λn=>
  (G9 k n).bind λe=>
  (G9 a d).bind λm=>
  (J8 (m - c)).bind λl=>
  some (decide (e<l))
def C0e (e:M7) (a:List Int) (d:Int) (g:Int):Option (Bool):=
 (G9 a d).bind λc=>
 (G9 e.A0k c).bind λb=>
 bif decide (g<0) then
   none
 else
   C2s e a d g b
def B7n (i:M7) (c:List Int) (d:Int) (n:List Int) (b:Int):Option (Int⊕(Unit⊕Bool)):=
 (G9 c b).bind λa=>
 (G9 i.A0k a).bind λg=>
 bif !decide (g=d) then
  (J8 (b+1)).bind λj=>
  some (inl j)
 else
  (G9 i.B8D d).bind λo=>
  (G9 i.B8D d).bind λm=>
  (J8 (a - m)).bind λl=>
  (G9 n l).bind λk=>
  (J8 (o+k)).bind λe=>
  bif decide (e<a) then
   some (inr (inr false))
  else
   bif decide (a<e) then
    some (inr (inl ()))
   else
    (J8 (b+1)).bind λh=>
    some (inl h)
def B1a (e:M7) (a:List Int) (c:Int) (d:List Int):Int→Option (Int⊕(Unit⊕Bool)):=λb=>
 bif decide (b<(a.length:Int)) then
  B7n e a c d b
 else
  some (inr (inl ()))
def B1e (i:M7) (b:List Int) (d:Int) (c:List (List Int)):Int→Option (Int⊕(Unit⊕Bool)):=λa=>
 bif decide (a<(c.length:Int)) then
  (G9 c a).bind λg=>
  (
   iter (B1a i b d g) FUEL 0).bind λe=>match e with
  | .inl _u=>
   (J8 (a+1)).bind λh=>
   some (inl h)
  | .inr p=>
   some (inr (inr p))
 else
  some (inr (inl ()))
def B1f (c:M7) (b:List Int):Int→Option (Int⊕(Unit⊕Bool)):=λa=>
 bif decide (a<(c.B2C.length:Int)) then
  (G9 c.B2C a).bind λe=>
  (
   iter (B1e c b a e) FUEL 0).bind λd=>match d with
  | .inl _u=>
   (J8 (a+1)).bind λg=>
   some (inl g)
  | .inr p=>
   some (inr (inr p))
 else
  some (inr (inl ()))
def A6G (c:M7) (a:List Int):Option (Bool):=
 (
   iter (B1f c a) FUEL 0).bind λb=>match b with
 | .inl _u=>
   some true
 | .inr p=>
   some p
def B3R (g:Int):(Int×(Option M7)×Int)→Option ((Int×(Option M7)×Int)⊕Int):=λ(b,d,a)=>
 bif decide (b<g) then
  d.bind λc=>
  (A4i (c.A0k.length:Int) b).bind λi=>
  (J8 (a+i)).bind λe=>
  (J8 (b+1)).bind λh=>
  some (inl (h,(some c),e))
 else
  some (inr a)
def B8N (e:C9):Option (Int×Int):=
 (A1b e).bind λ(c,b)=>
 bif !decide (b=0) then
   none
 else
   (J8 ((e.A8.length:Int)+1)).bind λd=>
   (
     iter (B3R d) FUEL (0,c,0)).bind λa=>
   some (a,0)
end Go.Dm
open Go Go.Sl Sum
namespace Go.Dm
def A6j (a:List Int) (b:Int):Option (List Int):=
 (G9 a b).bind λd=>
 (some (List.set a b.toNat (-1))).bind λc=>
 some c
def A4W {σ:Type} (g:σ) (a:List Int) (c:Int):Int→Option (Int⊕(Unit⊕(σ×(List Int)))):=λb=>
 bif decide (b<(a.length:Int)) then
  (G9 a b).bind λe=>
  bif decide (e=c) then
   some (inr (inr (g,a)))
  else
   (J8 (b+1)).bind λd=>
   some (inl d)
 else
  some (inr (inl ()))
def B6Z {σ:Type} (self:M7→(List Int)→(σ→(List Int)→Option (σ×Bool))→σ→Option (Bool×(List Int)×σ)) (o:M7) (c:σ→(List Int)→Option (σ×Bool)) (d:Int) (i:σ) (a:List Int) (g:Int):Option ((σ×(List Int))⊕(Bool×(List Int)×σ)):=
 (
  iter (A4W i a g) FUEL 0).bind λh=>match h with
 | .inl _u=>
  (G9 a d).bind λn=>
  (some (List.set a d.toNat g)).bind λj=>
  (self o j c i).bind λ(k,b,e)=>
  bif !k then
   some (inr (false,b,e))
  else
   (G9 b d).bind λm=>
   (some (List.set b d.toNat (-1))).bind λl=>
   some (inl (e,l))
 | .inr p=>
  some (inl p)
def A6Z {σ:Type} (self:M7→(List Int)→(σ→(List Int)→Option (σ×Bool))→σ→Option (Bool×(List Int)×σ)) (i:M7) (c:σ→(List Int)→Option (σ×Bool)) (h:Int):(σ×(List Int)×Int)→Option ((σ×(List Int)×Int)⊕((σ×(List Int))⊕(Bool×(List Int)×σ))):=λ(d,a,b)=>
 bif decide (b<(i.A0k.length:Int)) then
  (
   B6Z self i c h d a b).bind λg=>match g with
  | .inl (s115,part118)=>
   (J8 (b+1)).bind λe=>
   some (inl (s115,part118,e))
  | .inr p=>
   some (inr (inr p))
 else
  some (inr (inl (d,a)))
def B6V {σ:Type} (self:M7→(List Int)→(σ→(List Int)→Option (σ×Bool))→σ→Option (Bool×(List Int)×σ)) (i:M7) (a:List Int) (b:σ→(List Int)→Option (σ×Bool)) (h:σ):Option (Bool×(List Int)×σ):=
 (A4g a (-1)).bind λc=>
 bif decide (c<0) then
  (b h a).bind λ(e,g)=>
  some (g,a,e)
 else
  (
   iter (A6Z self i b c) FUEL (h,a,0)).bind λd=>match d with
  | .inl (s95,part98)=>
   (match (true,part98,s95) with | (r_0_,q_1_,q_s_)=>(A6j q_1_ c).bind λq_1_=>some (r_0_,q_1_,q_s_))
  | .inr p=>
   (match p with | (r_0_,q_1_,q_s_)=>(A6j q_1_ c).bind λq_1_=>some (r_0_,q_1_,q_s_))
def A6s {σ:Type}:Nat→M7→(List Int)→(σ→(List Int)→Option (σ×Bool))→σ→Option (Bool×(List Int)×σ)
 | 0,_,_,_,_=>none
 | n+1,h1,part2,yield4,s0=>
  (B2U h1.F7 part2).bind λ(b,a)=>
  bif a then
   some (true,part2,s0)
  else
   B6V (A6s n) h1 part2 yield4 s0
def A1y {σ:Type} (a:σ→(List Int)→Option (σ×Bool)) (e:σ) (d:M7) (h:List Int):Option (σ):=
 (A0D h).bind λc=>
 (A6s A2Y d c a e).bind λ(i,g,b)=>
 some b
def A3p (b:M7) (a:List Int):Option (M7×(List Int)):=
 some (b,a)
def B4s (a:R3) (b:Int):Option ((Int×(List Int))⊕A0c):=
 some (inr (A0c.mk a.fat b))
def C1g (self:R3→Int→Option ((Int×(List Int))⊕A0c)) (j:R3) (b:O3) (d:Int) (a:List Int) (c:Int):Option ((Int×(List Int)×Int)⊕((Int×(List Int))⊕A0c)):=
 (A1f a c).bind λl=>
 bif !l then
  (G9 a b.fN).bind λp=>
  (some (List.set a b.fN.toNat c)).bind λm=>
  (self (R3.mk j.A9V j.A7x j.A3q d m) b.fN).bind λn=>match n with
  | .inr k=>
   some (inr (inr k))
  | .inl e=>
  (G9 e.2 b.fN).bind λo=>
  (some (List.set e.2 b.fN.toNat (-1))).bind λi=>
  (J8 (c+1)).bind λh=>
  some (inl (e.1,i,h))
 else
  (J8 (c+1)).bind λg=>
  some (inl (d,a,g))
def B3B (self:R3→Int→Option ((Int×(List Int))⊕A0c)) (e:R3) (d:O3):(Int×(List Int)×Int)→Option ((Int×(List Int)×Int)⊕((Int×(List Int))⊕A0c)):=λ(b,a,c)=>
 bif decide (c<(e.A9V.A0k.length:Int)) then
  C1g self e d b a c
 else
  some (inr (inl (b,a)))
def C1E (self:R3→Int→Option ((Int×(List Int))⊕A0c)) (b:R3) (a:O3):Option ((Int×(List Int))⊕A0c):=
 bif decide (a.fN<0) then
  none
 else
  bif decide ((b.Q9.length:Int)≤a.fN) then
   none
  else
   (G9 b.Q9 a.fN).bind λd=>
   bif decide (0≤d) then
    none
   else
    (J8 (b.fat+1)).bind λc=>
    (
     iter (B3B self b a) FUEL (c,b.Q9,0)).bind λe=>match e with
    | .inl (at57,part58)=>
     some (inl (at57,part58))
    | .inr p=>
     some (inr p)
def C0q (b:R3) (a:Int) (g:O3):Option ((Int×(List Int))⊕A0c):=
 bif decide (g.F9=4) then
  bif decide (a<0) then
   none
  else
   (C0e b.A9V b.Q9 a g.fN).bind λe=>
   bif !e then
    (B4s (R3.mk b.A9V b.A7x b.A3q b.fat b.Q9) 65).bind λc=>match c with
    | .inr d=>
     some (inr d)
    | .inl i=>
    none
   else
    (J8 (b.fat+1)).bind λh=>
    some (inl (h,b.Q9))
 else
  none
def C0D (b:R3) (c:Int) (a:O3):Option ((Int×(List Int))⊕A0c):=
 bif decide (a.F9=2) then
  bif decide (a.fN<0) then
   none
  else
   bif decide ((b.A9V.fp.K5.length:Int)≤a.fN) then
    none
   else
    (G9 b.A9V.fp.K5 a.fN).bind λd=>
    bif decide (0<d.K8) then
     none
    else
     (B9b b.A9V.F7 b.Q9 a.fN).bind λg=>
     bif decide (g=0) then
      none
     else
      (J8 (b.fat+1)).bind λe=>
      some (inl (e,b.Q9))
 else
  bif decide (a.F9=3) then
   none
  else
   C0q b c a
def B0P:Nat→R3→Int→Option ((Int×(List Int))⊕A0c)
 | 0,_,_=>none
 | n+1,r1,last2=>
  bif decide (r1.fat=(r1.A3q.length:Int)) then
   (B4s (R3.mk r1.A9V r1.A7x r1.A3q r1.fat r1.Q9) 60).bind λc=>match c with
   | .inr b=>
    some (inr b)
   | .inl d=>
   none
  else
   (G9 r1.A3q r1.fat).bind λa=>
   bif decide (a.F9=1) then
    C1E (B0P n) r1 a
   else
    C0D r1 last2 a
end Go.Dm
open Go Go.Sl Sum
namespace Go.Dm
def B9t (a:Int) (b:Int) (x_:A0c):Option (Int×Int):=
 some (x_.fat,x_.fe)
def A8n (l:C9) (b:Int) (a:List O3):Option (Int×Int):=
 (A3f l).bind λ(e,k,i)=>
 bif !decide (i=0) then
   none
 else
   bif decide (200000<(a.length:Int)) then
     none
   else
     e.bind λc=>
     (A2k c).bind λg=>
     (B0P A2Y (R3.mk c b a 0 g) (-1)).bind λj=>match j with
     | .inr d=>
       some (d.fat,d.fe)
     | .inl h=>
     bif decide (h.1<(a.length:Int)) then
       none
     else
       some (0,0)
def B3q (c:M7):((Int×Int)⊕Unit)→(List Int)→Option (((Int×Int)⊕Unit)×Bool):=λo_ e=>
 match o_ with
 | .inl (c71,c72)=>
  (J8 (c71+1)).bind λb=>
  (A6G c e).bind λd=>
  bif d then
   (J8 (c72+1)).bind λa=>
   some (inl (b,a),true)
  else
   some (inl (b,c72),true)
 | .inr _=>none
def B2N (h:C9):Option (Int×Int×Int):=
 (A1b h).bind λ(d,b)=>
 bif !decide (b=0) then
   some (0,0,b)
 else
   d.bind λa=>
   (A2k a).bind λe=>
   (A3p a e).bind λc=>
   (A1y (B3q a) (inl (0,0)) c.1 c.2).bind λg=>match g with
   | .inl (c71,c72)=>
     some (c71,c72,0)
   | .inr _=>none
end Go.Dm
open Go Go.Sl Sum
namespace Go.Dm
def B3z (e:M7):(((List Int)×Int×Bool)⊕Unit)→(List Int)→Option ((((List Int)×Int×Bool)⊕Unit)×Bool):=λo_ b=>
 match o_ with
 | .inl (plan74,cost79,c80)=>
  (B6i e.F7 b).bind λa=>
  bif !c80 then
   (A0D b).bind λd=>
   some (inl (d,a,true),true)
  else
   bif decide (a<cost79) then
    (A0D b).bind λc=>
    some (inl (c,a,true),true)
   else
    some (inl (plan74,cost79,c80),true)
 | .inr _=>none
def B8R (h:C9):Option (A9B×Int):=
 (A1b h).bind λ(e,b)=>
 bif !decide (b=0) then
   some ((A9B.mk ([]:List Int) 0),b)
 else
   e.bind λa=>
   (A2k a).bind λg=>
   (A3p a g).bind λc=>
   (A1y (B3z a) (inl (([]:List Int),0,false)) c.1 c.2).bind λd=>match d with
   | .inl (plan74,cost79,c80)=>
     bif !c80 then
       some ((A9B.mk ([]:List Int) 0),9)
     else
       some ((A9B.mk plan74 cost79),0)
   | .inr _=>none
def B5j (a:Int) (g:M7):((Int×(List (List Int)))⊕(Int×(List (List Int))))→(List Int)→Option (((Int×(List (List Int)))⊕(Int×(List (List Int))))×Bool):=λo_ c=>
 match o_ with
 | .inl (c79,c80)=>
  (A6G g c).bind λd=>
  bif !d then
   some (inl (c79,c80),true)
  else
   bif decide (a≤(c80.length:Int)) then
    some (inr (7,c80),false)
   else
    (A0D c).bind λe=>
    (apL c80 [e]).bind λb=>
    some (inl (c79,b),true)
 | .inr _=>none
def B6l (i:C9) (a:Int):Option ((List (List Int))×Int):=
 (A1b i).bind λ(d,e)=>
 bif !decide (e=0) then
   none
 else
   d.bind λb=>
   (A2k b).bind λg=>
   (A3p b g).bind λc=>
   (A1y (B5j a b) (inl (0,([]:List (List Int)))) c.1 c.2).bind λh=>match h with
   | .inl (c79,c80)=>
     some (c80,0)
   | .inr (c79,c80)=>
     some (([]:List (List Int)),c79)
def A4M:((List Int)⊕(List Int))→(List Int)→Option (((List Int)⊕(List Int))×Bool):=λo_ b=>
 match o_ with
 | .inl c=>
  (A0D b).bind λa=>
  some (inr a,false)
 | .inr _=>none
def B2f (b:List Int) (i:Option M7) (a:Int):Option ((List Int)×Int):=
 i.bind λe=>
 (J8 ((e.A0k.length:Int) - a)).bind λk=>
 (J8 ((b.length:Int) - a)).bind λj=>
 (A4i k j).bind λh=>
 bif decide (20000<h) then
  some (([]:List Int),8)
 else
  (A3p e b).bind λd=>
  (A1y A4M (inl ([]:List Int)) d.1 d.2).bind λg=>match g with
  | .inl c=>
   some (([]:List Int),9)
  | .inr c=>
   some (c,0)
def A2K (b:List Int):(Int×Int)→Option ((Int×Int)⊕Int):=λ(a,c)=>
 bif decide (c<(b.length:Int)) then
  (G9 b c).bind λh=>
  bif decide (0≤h) then
   (J8 (a+1)).bind λd=>
   (J8 (c+1)).bind λe=>
   some (inl (d,e))
  else
   (J8 (c+1)).bind λg=>
   some (inl (a,g))
 else
  some (inr a)
def A1c (g:C9) (a:List Int):Option ((List Int)×Int):=
 (A3f g).bind λ(e,i,c)=>
 bif !decide (c=0) then
   some (([]:List Int),c)
 else
   (A6M g a).bind λ(h,d)=>
   bif !decide (d=0) then
     some (([]:List Int),d)
   else
     (
       iter (A2K a) FUEL (0,0)).bind λb=>
     B2f a e b
end Go.Dm
open Go Go.Sl Sum
namespace Go.Dm
def B0r (c:H8) (b:H8):Option (Int):=
 (J8 (c.A3e - b.A3e)).bind λa=>
 some a
def B3r:(List H8)→Int×H8→Option (List H8):=λa (d,b)=>
 (apL a [b]).bind λc=>
 some c
def B3b:(List H8)→Option ((List H8)×Int):=λa=>
 (B4u a B0r).bind λb=>
 some (b,0)
def B3k (g:M7):((List (Int×H8))⊕Unit)→(List Int)→Option (((List (Int×H8))⊕Unit)×Bool):=λo_ j=>
 match o_ with
 | .inl d=>
  (B6i g.F7 j).bind λa=>
  (lkM d a (H8.mk 0 0 0)).bind λ(b,l)=>
  (J8 (b.A2L+1)).bind λc=>
  (A6G g j).bind λh=>
  bif h then
   (J8 (b.Y9+1)).bind λk=>
   (some (A2y d a (H8.mk a k c))).bind λe=>
   some (inl e,true)
  else
   (some (A2y d a (H8.mk a b.Y9 c))).bind λi=>
   some (inl i,true)
 | .inr _=>none
def B7M (i:C9):Option ((List H8)×Int):=
 (A1b i).bind λ(d,c)=>
 bif !decide (c=0) then
   none
 else
   d.bind λa=>
   (A2k a).bind λe=>
   (A3p a e).bind λb=>
   (A1y (B3k a) (inl ([]:List (Int×H8))) b.1 b.2).bind λg=>match g with
   | .inl h=>
     C6J h (λl_=>Option.bind (A0h B3r ([]:List H8) l_) B3b)
   | .inr _=>none
end Go.Dm
open Go Go.Sl Sum
namespace Go.Dm
def A5Q:((List Int)⊕(List Int))→(List Int)→Option (((List Int)⊕(List Int))×Bool):=λo_ b=>
 match o_ with
 | .inl c=>
  (A0D b).bind λa=>
  some (inr a,false)
 | .inr _=>none
def A9n (i:C9):Option ((List Int)×Int):=
 (A1b i).bind λ(g,c)=>
 bif !decide (c=0) then
   some (([]:List Int),c)
 else
   g.bind λb=>
   (A2k b).bind λe=>
   (A3p b e).bind λd=>
   (A1y A5Q (inl ([]:List Int)) d.1 d.2).bind λh=>match h with
   | .inl a=>
     some (([]:List Int),9)
   | .inr a=>
     some (a,0)
end Go.Dm
open Go Go.Sl Sum
namespace Go.Dm
def A5M (e:List Int) (g:List Int):Int→Option (Int⊕(Unit⊕Bool)):=λa=>
 bif decide (a<(e.length:Int)) then
  (G9 e a).bind λc=>
  (G9 g a).bind λd=>
  bif !decide (c=d) then
   some (inr (inr false))
  else
   (J8 (a+1)).bind λb=>
   some (inl b)
 else
  some (inr (inl ()))
def A3j (b:List Int) (a:List Int):Option (Bool):=
 bif !decide ((b.length:Int)=(a.length:Int)) then
   some false
 else
   (
     iter (A5M b a) FUEL 0).bind λc=>match c with
   | .inl _u=>
     some true
   | .inr p=>
     some p
def B1T (g:List (List Int)) (h:List (List Int)):Int→Option (Int⊕Unit):=λa=>
 bif decide (a<(g.length:Int)) then
  (G9 g a).bind λd=>
  (G9 h a).bind λe=>
  (A3j d e).bind λc=>
  bif !c then
   none
  else
   (J8 (a+1)).bind λb=>
   some (inl b)
 else
  some (inr ())
def B5v (a:List (List Int)) (b:List (List Int)):Option (Bool):=
 bif !decide ((a.length:Int)=(b.length:Int)) then
   none
 else
   (
     iter (B1T a b) FUEL 0).bind λ_u=>
   some true
def C0c (d:List H8) (b:A9B) (h:List (List Int)) (c:List Int):Option (Bool):=
 (G9 d 1).bind λa=>
 bif (decide (a.A3e=5) && (decide (a.Y9=2) && (decide (a.A2L=16) && true))) then
  bif decide (b.A3e=0) then
   (A3j b.D0m [0,2,1]).bind λi=>
   bif i then
    (B5v h [[0,1,2],[0,1,3],[0,2,1]]).bind λg=>
    bif g then
     (A3j c [1,0,2]).bind λe=>
     some e
    else
     none
   else
    none
  else
   none
 else
  none
def C1y:Option (Bool):=
 (B1h [(F4.mk 3 5 (⟨#[97,110,110,97]⟩:ByteArray) (⟨#[98,111,114,105,115]⟩:ByteArray) (⟨#[]⟩:ByteArray) 0)]).bind λa=>
 (B7M a).bind λ(b,o)=>
 (B8R a).bind λ(k,e)=>
 (B6l a 3).bind λ(j,g)=>
 (B6l a 2).bind λ(p,i)=>
 (A1c a [(-1),0,(-1)]).bind λ(h,n)=>
 (J8 (o+e)).bind λl=>
 (J8 (l+g)).bind λd=>
 (J8 (d+n)).bind λm=>
 bif decide (m=0) then
  bif decide (i=7) then
   bif decide ((b.length:Int)=2) then
    (G9 b 0).bind λc=>
    bif (decide (c.A3e=0) && (decide (c.Y9=1) && (decide (c.A2L=8) && true))) then
     C0c b k j h
    else
     none
   else
    none
  else
   none
 else
  none
def C1w (h:Int) (g:Int) (e:Int):Option (Bool):=
 bif !decide (h=60) then
  none
 else
  bif !decide (g=5) then
   none
  else
   bif !decide (e=65) then
    none
   else
    (B1h ([]:List F4)).bind λc=>
    (B2N c).bind λ(b,a,d)=>
    bif !decide (b=24) then
     none
    else
     bif !decide (a=3) then
      none
     else
      bif !decide (d=0) then
       none
      else
       C1y
def C1b (h:C9):Option (Bool):=
 (bdV 0 7 ([(O3.mk 1 0),(O3.mk 1 1),(O3.mk 2 0),(O3.mk 2 0),(O3.mk 2 0),(O3.mk 4 2),(O3.mk 4 4),(O3.mk 4 1)].length:Int)).bind λi=>
 (A8n h (-1) (Go.Sl.sub [(O3.mk 1 0),(O3.mk 1 1),(O3.mk 2 0),(O3.mk 2 0),(O3.mk 2 0),(O3.mk 4 2),(O3.mk 4 4),(O3.mk 4 1)] (0:Int).toNat (7:Int).toNat)).bind λ(d,g)=>
 (G9 [(O3.mk 1 0),(O3.mk 1 1),(O3.mk 2 0),(O3.mk 2 0),(O3.mk 2 0),(O3.mk 4 2),(O3.mk 4 4),(O3.mk 4 1)] 5).bind λe=>
 (some (List.set [(O3.mk 1 0),(O3.mk 1 1),(O3.mk 2 0),(O3.mk 2 0),(O3.mk 2 0),(O3.mk 4 2),(O3.mk 4 4),(O3.mk 4 1)] (5:Int).toNat (O3.mk e.F9 0))).bind λc=>
 (A8n h (-1) c).bind λ(b,a)=>
 bif !decide (d=7) then
  none
 else
  C1w g b a
def A4d  : Option (Bool):=
 (B1h [(F4.mk 1 0 (⟨#[97,110,110,97]⟩:ByteArray) (⟨#[98,111,114,105,115]⟩:ByteArray) (⟨#[]⟩:ByteArray) 2)]).bind λa=>
 (B2N a).bind λ(d,b,i)=>
 (B8N a).bind λ(e,h)=>
 (A8n a (-1) [(O3.mk 1 0),(O3.mk 1 1),(O3.mk 2 0),(O3.mk 2 0),(O3.mk 2 0),(O3.mk 4 2),(O3.mk 4 4),(O3.mk 4 1)]).bind λ(g,c)=>
 (J8 (d+b)).bind λj=>
 bif !decide (j=0) then
   none
 else
   bif !decide (i=0) then
     none
   else
     bif !decide (e=41) then
       none
     else
       bif !decide (h=0) then
         none
       else
         bif !decide (g=0) then
           none
         else
           bif !decide (c=0) then
             none
           else
             C1b a
def B1J (d:Int) (b:Int):Option (Int):=
 (V9 d b).bind λa=>
 bif decide (a<0) then
   (J8 (a+b)).bind λc=>
   some c
 else
   some a
def A2I (h:C9):(Int×Int)→Option ((Int×Int)⊕Int):=λ(c,b)=>
 bif decide (b<(h.C8.length:Int)) then
  (G9 h.C8 b).bind λa=>
  (A1t (D5.mk a.F8 a.Q6 a.fA a.fB ([]:List Int) a.fX a.fY)).bind λe=>
  (J8 (c+e)).bind λg=>
  (J8 (b+1)).bind λd=>
  some (inl (g,d))
 else
  some (inr c)
def A5d (b:C9):Option (Int):=
 (
   iter (A2I b) FUEL (0,0)).bind λa=>
 some a
def A2R (a:List Bool) (c:Int):Int→Option (Int⊕(Unit⊕(Int×(List Bool)))):=λg=>
 bif decide (g<(a.length:Int)) then
  (J8 (c+g)).bind λd=>
  (V9 d (a.length:Int)).bind λb=>
  (G9 a b).bind λe=>
  bif !e then
   (G9 a b).bind λj=>
   (some (List.set a b.toNat true)).bind λh=>
   some (inr (inr (b,h)))
  else
   (J8 (g+1)).bind λi=>
   some (inl i)
 else
  some (inr (inl ()))
def A1z (a:List Bool) (b:Int):Option (Int×(List Bool)):=
 (
   iter (A2R a b) FUEL 0).bind λc=>match c with
 | .inl _u=>
   some ((-1),a)
 | .inr p=>
   some p
def B3o (a:List Int) (e:Int) (b:List Bool) (c:List Int) (d:Int):Option (((List Bool)×(List Int)×Int)⊕(List Int)):=
 (
  bif decide (d<(a.length:Int)) then
   (G9 a d).bind λo=>
   (J8 (e+1)).bind λp=>
   (B1J o p).bind λm=>
   some m
  else
   some e).bind λg=>
 bif decide (g=e) then
  (apL c [(-1)]).bind λn=>
  (J8 (d+1)).bind λj=>
  some (inl (b,n,j))
 else
  (A1z b g).bind λ(k,l)=>
  (apL c [k]).bind λi=>
  (J8 (d+1)).bind λh=>
  some (inl (l,i,h))
def A5K (g:C9) (a:List Int) (e:Int):((List Bool)×(List Int)×Int)→Option (((List Bool)×(List Int)×Int)⊕(List Int)):=λ(c,b,d)=>
 bif decide (d<(g.A8.length:Int)) then
  B3o a e c b d
 else
  some (inr b)
def A9t (e:C9) (a:List Int):Option (List Int):=
 (A5d e).bind λc=>
 (mkL c false).bind λd=>
 (
   iter (A5K e a c) FUEL (d,([]:List Int),0)).bind λb=>
 some b
def B5t (a:List Int) (p:Int) (c:List Int) (d:Int) (b:List Bool):Option (((List Int)×Int×(List Bool))⊕(List Int)):=
 bif decide (d<(a.length:Int)) then
  (G9 a d).bind λl=>
  (B1J l p).bind λk=>
  (A1z b k).bind λ(g,n)=>
  (apL c [g]).bind λj=>
  (J8 (d+1)).bind λo=>
  some (inl (j,o,n))
 else
  (A1z b 0).bind λ(h,i)=>
  (apL c [h]).bind λe=>
  (J8 (d+1)).bind λm=>
  some (inl (e,m,i))
def A7Y (c:List Int) (d:List Int) (j:Int):((List Int)×Int×(List Bool))→Option (((List Int)×Int×(List Bool))⊕(List Int)):=λ(b,e,a)=>
 bif decide (e<(c.length:Int)) then
  (G9 c e).bind λi=>
  bif decide (i<0) then
   B5t d j b e a
  else
   (apL b [i]).bind λg=>
   (J8 (e+1)).bind λh=>
   some (inl (g,h,a))
 else
  some (inr b)
def A7O (b:List Int):((List Bool)×Int)→Option (((List Bool)×Int)⊕(List Bool)):=λ(a,c)=>
 bif decide (c<(b.length:Int)) then
  (G9 b c).bind λh=>
  bif decide (0≤h) then
   (G9 b c).bind λd=>
   (G9 a d).bind λj=>
   (some (List.set a d.toNat true)).bind λg=>
   (J8 (c+1)).bind λe=>
   some (inl (g,e))
  else
   (J8 (c+1)).bind λi=>
   some (inl (a,i))
 else
  some (inr a)
def B2V (h:C9) (a:List Int) (b:List Int):Option (List Int):=
 (A5d h).bind λe=>
 (mkL e false).bind λg=>
 (
   iter (A7O a) FUEL (g,0)).bind λc=>
 (
   iter (A7Y a b e) FUEL (([]:List Int),0,c)).bind λd=>
 some d
def A4h (b:F5):Int→Option (Int⊕(Unit⊕Bool)):=λa=>
 bif decide (a<(b.F7.P9.K5.length:Int)) then
  (G9 b.F7.P9.K5 a).bind λg=>
  bif decide (g.K8=0) then
   (A4l b a).bind λe=>
   bif decide (0<e) then
    some (inr (inr false))
   else
    (J8 (a+1)).bind λd=>
    some (inl d)
  else
   (J8 (a+1)).bind λc=>
   some (inl c)
 else
  some (inr (inl ()))
def A4w (h:Q5) (a:List Int):Option (Bool):=
 (A5U h a).bind λg=>
 (
   bif g.isNone then
     some true
   else
     (A1f a (-1)).bind λb=>
     some b).bind λe=>
 bif e then
   some false
 else
   g.bind λc=>
   (
     iter (A4h c) FUEL 0).bind λd=>match d with
   | .inl _u=>
     some true
   | .inr p=>
     some p
def A5R (e:C9):((List Int)×Int)→Option (((List Int)×Int)⊕(List Int)):=λ(a,b)=>
 bif decide (b<(e.A8.length:Int)) then
  (apL a [(-1)]).bind λc=>
  (J8 (b+1)).bind λd=>
  some (inl (c,d))
 else
  some (inr a)
def A6I (b:C9):Option (List Int):=
 (
   iter (A5R b) FUEL (([]:List Int),0)).bind λa=>
 some a
def A5J (j:List Int) (g:List Int):Int→Option (Int⊕(Unit⊕Bool)):=λa=>
 (
  bif decide (a<(j.length:Int)) then
   some (decide (a<(g.length:Int)))
  else
   some false).bind λb=>
 bif b then
  (G9 j a).bind λh=>
  (G9 g a).bind λi=>
  bif !decide (h=i) then
   (G9 j a).bind λc=>
   (G9 g a).bind λd=>
   some (inr (inr (decide (c<d))))
  else
   (J8 (a+1)).bind λe=>
   some (inl e)
 else
  some (inr (inl ()))
def A9z (c:List Int) (a:List Int):Option (Bool):=
 (
   iter (A5J c a) FUEL 0).bind λb=>match b with
 | .inl _u=>
   some false
 | .inr p=>
   some p
def A7f (a:C9) (o:List Int) (q:List Int) (i:Option Q5):Option (Bool):=
 (A9n a).bind λ(j,b)=>
 (A6I a).bind λp=>
 (A1c a p).bind λ(h,e)=>
 (J8 (b+e)).bind λn=>
 bif decide (n=0) then
  (A3j j h).bind λd=>
  bif d then
   i.bind λk=>
   (A4w k o).bind λl=>
   bif l then
    (A9z o q).bind λc=>
    bif !c then
     A4d.bind λm=>
     some m
    else
     some false
   else
    A4d.bind λg=>
    some g
  else
   some false
 else
  some false
def A0I (b:List Int) (i:List Int):Int→Option (Int⊕(Unit⊕Bool)):=λa=>
 bif decide (a<(b.length:Int)) then
  (G9 b a).bind λd=>
  bif decide (0≤d) then
   (G9 i a).bind λc=>
   (G9 b a).bind λh=>
   bif !decide (c=h) then
    some (inr (inr false))
   else
    (J8 (a+1)).bind λe=>
    some (inl e)
  else
   (J8 (a+1)).bind λg=>
   some (inl g)
 else
  some (inr (inl ()))
def A3k (j:C9) (g:Option Q5) (c:List Int) (k:List Int) (b:List Int) (l:Int):Option (Bool):=
 (
  bif !decide (l=0) then
   some (g,true)
  else
   g.bind λa=>
   (A4w a b).bind λe=>
   bif !e then
    some ((some a),true)
   else
    some ((some a),!decide ((b.length:Int)=(c.length:Int)))).bind λ(d,i)=>
 bif i then
  some false
 else
  (
   iter (A0I c b) FUEL 0).bind λh=>match h with
  | .inl _u=>
   A7f j k b d
  | .inr p=>
   some p
def A6U (a:List Int) (c:List Int) (b:C9) (j:Option Q5):Option (Bool):=
 (A9t b a).bind λd=>
 (B2V b d c).bind λi=>
 (A1c b d).bind λ(l,k)=>
 bif decide (k=9) then
  (
   bif decide ((l.length:Int)=0) then
    j.bind λh=>
    (A4w h i).bind λg=>
    bif !g then
     A4d.bind λm=>
     some m
    else
     some false
   else
    some false).bind λe=>
  some e
 else
  A3k b j d i l k
def A4X (h:T9) (a:List Int) (b:List Int):Option (Bool):=
 (B0O h).bind λc=>
 (B1S c).bind λ(d,i,e)=>
 (
   bif d.isNone then
     some true
   else
     some (!decide (e=0))).bind λg=>
 bif g then
   some false
 else
   A6U a b c d
end Go.Dm
