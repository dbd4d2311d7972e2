import Derived.Test.YthchjfilgaondaaGreatL9
import Derived.Test.YthchjfilgaondaaGreatL13
/- Functions. -/
set_option maxRecDepth 1000000
set_option maxHeartbeats 40000000
set_option linter.unusedVariables false
set_option linter.unusedSimpArgs false
set_option linter.unusedSectionVars false
set_option linter.unnecessarySimpa false
open Go Go.Sl Sum
namespace Go.Dm
theorem inj2 {α β:Type} {a c:α} {b d:β} (h:some (a,b)=some (c,d)):a=c∧b=d:=by cases h; exact ⟨rfl,rfl⟩
abbrev A4P:Nat:=100000
structure D7 where
 F8:ByteArray
 P8:Int
 fA:Int
 fB:Int
 A2Y:List Int
 fX:Int
 fY:Int
deriving DecidableEq
structure E9 where
 F8:ByteArray
 A2b:ByteArray
 V6:ByteArray
 A0o:Int
 A0y:Int
 A0z:ByteArray
 X7:Bool
 Y4:Bool
 O6:List ByteArray
deriving DecidableEq
structure H9 where
 fA:ByteArray
 fB:ByteArray
 F9:Int
deriving DecidableEq
structure F7 where
 F9:Int
 K6:Int
 fA:ByteArray
 fB:ByteArray
 I5:ByteArray
 fN:Int
deriving DecidableEq
structure H8 where
 A3v:Int
 Y6:Int
 A3h:Int
deriving DecidableEq
structure Q5 where
 A7:List E9
 N7:List H9
deriving DecidableEq
structure C9 where
 C8:List D7
 A7:List E9
 N7:List H9
 R7:List Int
 J9:List F7
deriving DecidableEq
structure R6 where
 C8:List Int
 A7:List Int
 N7:List Int
 J9:List Int
deriving DecidableEq
structure A1s where
 A7f:ByteArray
 C6Q:Int→Int→Option Int
 W9:Int→Int→Int→Int→Option Bool
 A0s:Int→Int→Int→Int→Option Bool
 B9M:Int→Int→Option Int
 C4j:Int→Int→Option (List (Int→Option Int))
structure R9 where
 U6:List E9
 A0F:List H9
deriving DecidableEq
structure K8 where
 K4:R9
 fat:List (ByteArray×Int)
deriving DecidableEq
structure H5 where
 A7f:ByteArray
 fa:Int
 fb:Bool
 ft:Int
 fn:Bool
 flo:Int
 A5X:Bool
 C5p:Nat
deriving DecidableEq
structure O0 where
 O9:C9
 C0W:List (Int×H5)
 Z8:List Int
 B7Z:List Int
 C5r:List Bool
 W9:List (List Int)
 A0s:List (List Int)
 A3o:List (List (Int×Int))
 B1Z:List (List Bool)
 A0F:List (List Int)
deriving DecidableEq
structure F5 where
 F4:O0
 Q4:List Int
 B3L:List Int
deriving DecidableEq
structure M3 where
 F4:O0
 fp:C9
 Z8:List Int
 B7Y:List Int
 B2D:List (List (List Int))
deriving DecidableEq
structure N9 where
 F9:Int
 fN:Int
deriving DecidableEq
structure Q6 where
 A9J:M3
 A7C:Int
 A3o:List N9
 fat:Int
 Q4:List Int
deriving DecidableEq
structure Y9 where
 fat:Int
 fe:Int
deriving DecidableEq
structure A9v where
 C9B:List Int
 A3v:Int
deriving DecidableEq
end Go.Dm
open Go Go.Sl Sum
namespace Go.Dm
def A2T (d:List Int) (e:Int):Int→Option (Int⊕(Unit⊕Int)):=λa=>
 bif decide (a<(d.length:Int)) then
  (G7 d a).bind λc=>
  bif decide (e=c) then
   some (inr (inr a))
  else
   (J5 (a+1)).bind λb=>
   some (inl b)
 else
  some (inr (inl ()))
def A4o (a:List Int) (c:Int):Option (Int):=
 (
   iter (A2T a c) FUEL 0).bind λb=>match b with
 | .inl _u=>
   some (-1)
 | .inr p=>
   some p
def A1g (c:List Int) (a:Int):Option (Bool):=
 (A4o c a).bind λb=>
 some (decide (0≤b))
def A1K (e:List Int) (g:Int→Option Bool):Int→Option (Int⊕(Unit⊕Int)):=λa=>
 bif decide (a<(e.length:Int)) then
  (G7 e a).bind λd=>
  (g d).bind λc=>
  bif c then
   some (inr (inr a))
  else
   (J5 (a+1)).bind λb=>
   some (inl b)
 else
  some (inr (inl ()))
def A8W (a:List Int) (c:Int→Option Bool):Option (Int):=
 (
   iter (A1K a c) FUEL 0).bind λb=>match b with
 | .inl _u=>
   some (-1)
 | .inr p=>
   some p
def A0u (c:List Int) (a:Int→Option Bool):Option (Bool):=
 (A8W c a).bind λb=>
 some (decide (0≤b))
def A2g (e:List D7) (g:D7→Option Bool):Int→Option (Int⊕(Unit⊕Int)):=λa=>
 bif decide (a<(e.length:Int)) then
  (G7 e a).bind λd=>
  (g d).bind λb=>
  bif b then
   some (inr (inr a))
  else
   (J5 (a+1)).bind λc=>
   some (inl c)
 else
  some (inr (inl ()))
def A2k (a:List D7) (c:D7→Option Bool):Option (Int):=
 (
   iter (A2g a c) FUEL 0).bind λb=>match b with
 | .inl _u=>
   some (-1)
 | .inr p=>
   some p
def A4a (c:List D7) (a:D7→Option Bool):Option (Bool):=
 (A2k c a).bind λb=>
 some (decide (0≤b))
def A2h (e:List E9) (g:E9→Option Bool):Int→Option (Int⊕(Unit⊕Int)):=λa=>
 bif decide (a<(e.length:Int)) then
  (G7 e a).bind λd=>
  (g d).bind λb=>
  bif b then
   some (inr (inr a))
  else
   (J5 (a+1)).bind λc=>
   some (inl c)
 else
  some (inr (inl ()))
def A3R (a:List E9) (c:E9→Option Bool):Option (Int):=
 (
   iter (A2h a c) FUEL 0).bind λb=>match b with
 | .inl _u=>
   some (-1)
 | .inr p=>
   some p
def A6B (d:List ByteArray) (e:ByteArray):Int→Option (Int⊕(Unit⊕Int)):=λa=>
 bif decide (a<(d.length:Int)) then
  (G7 d a).bind λc=>
  bif decide (e=c) then
   some (inr (inr a))
  else
   (J5 (a+1)).bind λb=>
   some (inl b)
 else
  some (inr (inl ()))
def B0B (a:List ByteArray) (c:ByteArray):Option (Int):=
 (
   iter (A6B a c) FUEL 0).bind λb=>match b with
 | .inl _u=>
   some (-1)
 | .inr p=>
   some p
def A6u (c:List ByteArray) (a:ByteArray):Option (Bool):=
 (B0B c a).bind λb=>
 some (decide (0≤b))
def A1w (a:Int):Option (Bool):=
 some (!decide (a=a))
def A6X (b:Int) (c:Int):Option (Int):=
 (A1w b).bind λd=>
 (A1w c).bind λa=>
 bif d then
   bif a then
     some 0
   else
     some (-1)
 else
   bif a then
     some 1
   else
     bif decide (b<c) then
       some (-1)
     else
       bif decide (c<b) then
         some 1
       else
         some 0
def B0w (b:Int) (c:Int):Option (Bool):=
 (A1w b).bind λd=>
 bif d then
   (A1w c).bind λa=>
   bif !a then
     some true
   else
     some (decide (b<c))
 else
   some (decide (b<c))
def A2V (b:List Int) (a:List Int):Int→Option (Int⊕(Unit⊕Int)):=λc=>
 bif decide (c<(b.length:Int)) then
  (G7 b c).bind λh=>
  bif decide ((a.length:Int)≤c) then
   some (inr (inr 1))
  else
   (G7 a c).bind λe=>
   (A6X h e).bind λd=>
   bif !decide (d=0) then
    some (inr (inr d))
   else
    (J5 (c+1)).bind λg=>
    some (inl g)
 else
  some (inr (inl ()))
def A3M (b:List Int) (a:List Int):Option (Int):=
 (
   iter (A2V b a) FUEL 0).bind λc=>match c with
 | .inl _u=>
   bif decide ((b.length:Int)<(a.length:Int)) then
     some (-1)
   else
     some 0
 | .inr p=>
   some p
def A6s (a:List Int) (d:List Int):Int→Option (Int⊕(Unit⊕Bool)):=λb=>
 bif decide (b<(a.length:Int)) then
  (G7 a b).bind λg=>
  (G7 d b).bind λc=>
  bif !decide (g=c) then
   some (inr (inr false))
  else
   (J5 (b+1)).bind λe=>
   some (inl e)
 else
  some (inr (inl ()))
def A3b (b:List Int) (a:List Int):Option (Bool):=
 bif !decide ((b.length:Int)=(a.length:Int)) then
   some false
 else
   (
     iter (A6s b a) FUEL 0).bind λc=>match c with
   | .inl _u=>
     some true
   | .inr p=>
     some p
def A0L (b:List Int):Option (List Int):=
 (apL ([]:List Int) b).bind λa=>
 some a
def A7P (b:List D7):Option (List D7):=
 (apL ([]:List D7) b).bind λa=>
 some a
def A7H (b:List E9):Option (List E9):=
 (apL ([]:List E9) b).bind λa=>
 some a
def A3X (b:List ByteArray):Option (List ByteArray):=
 (apL ([]:List ByteArray) b).bind λa=>
 some a
def B0I (b:List H9):Option (List H9):=
 (apL ([]:List H9) b).bind λa=>
 some a
def A9j (b:List F7):Option (List F7):=
 (apL ([]:List F7) b).bind λa=>
 some a
end Go.Dm
open Go Go.Sl Sum
namespace Go.Dm
def C2j (e:Int) (b:Int):Option (Int):=
 (A3S .u64 e 8).bind λi=>
 (J5 (b+8)).bind λc=>
 (A0Q .u8 i).bind λd=>
 (B9s (⟨#[0,1,2,2,3,3,3,3,4,4,4,4,4,4,4,4,5,5,5,5,5,5,5,5,5,5,5,5,5,5,5,5,6,6,6,6,6,6,6,6,6,6,6,6,6,6,6,6,6,6,6,6,6,6,6,6,6,6,6,6,6,6,6,6,7,7,7,7,7,7,7,7,7,7,7,7,7,7,7,7,7,7,7,7,7,7,7,7,7,7,7,7,7,7,7,7,7,7,7,7,7,7,7,7,7,7,7,7,7,7,7,7,7,7,7,7,7,7,7,7,7,7,7,7,7,7,7,7,8,8,8,8,8,8,8,8,8,8,8,8,8,8,8,8,8,8,8,8,8,8,8,8,8,8,8,8,8,8,8,8,8,8,8,8,8,8,8,8,8,8,8,8,8,8,8,8,8,8,8,8,8,8,8,8,8,8,8,8,8,8,8,8,8,8,8,8,8,8,8,8,8,8,8,8,8,8,8,8,8,8,8,8,8,8,8,8,8,8,8,8,8,8,8,8,8,8,8,8,8,8,8,8,8,8,8,8,8,8,8,8,8,8,8,8,8,8,8,8,8,8,8,8,8,8,8,8]⟩:ByteArray) d).bind λa=>
 (A0Q .i64 a).bind λh=>
 (J5 (c+h)).bind λg=>
 some g
def C2w (e:Int) (d:Int):Option (Int):=
 (A0Q .u8 e).bind λc=>
 (B9s (⟨#[0,1,2,2,3,3,3,3,4,4,4,4,4,4,4,4,5,5,5,5,5,5,5,5,5,5,5,5,5,5,5,5,6,6,6,6,6,6,6,6,6,6,6,6,6,6,6,6,6,6,6,6,6,6,6,6,6,6,6,6,6,6,6,6,7,7,7,7,7,7,7,7,7,7,7,7,7,7,7,7,7,7,7,7,7,7,7,7,7,7,7,7,7,7,7,7,7,7,7,7,7,7,7,7,7,7,7,7,7,7,7,7,7,7,7,7,7,7,7,7,7,7,7,7,7,7,7,7,8,8,8,8,8,8,8,8,8,8,8,8,8,8,8,8,8,8,8,8,8,8,8,8,8,8,8,8,8,8,8,8,8,8,8,8,8,8,8,8,8,8,8,8,8,8,8,8,8,8,8,8,8,8,8,8,8,8,8,8,8,8,8,8,8,8,8,8,8,8,8,8,8,8,8,8,8,8,8,8,8,8,8,8,8,8,8,8,8,8,8,8,8,8,8,8,8,8,8,8,8,8,8,8,8,8,8,8,8,8,8,8,8,8,8,8,8,8,8,8,8,8,8,8,8,8,8,8]⟩:ByteArray) c).bind λa=>
 (A0Q .i64 a).bind λb=>
 (J5 (d+b)).bind λg=>
 some g
def bits_Len64 (c:Int):Option (Int):=
 (
   bif decide (4294967296≤c) then
     (A3S .u64 c 32).bind λi=>
     some (i,32)
   else
     some (c,0)).bind λ(d,h)=>
 (
   bif decide (65536≤d) then
     (A3S .u64 d 16).bind λe=>
     (J5 (h+16)).bind λg=>
     some (e,g)
   else
     some (d,h)).bind λ(a,b)=>
 bif decide (256≤a) then
   C2j a b
 else
   C2w a b
def bits_Len (b:Int):Option (Int):=
 (bits_Len64 b).bind λa=>
 some a
def B2o (a:List Int) (b:Int) (h:Bool):Option (((List Int)×Int)⊕(List Int)):=
 bif h then
  (J5 (b - 1)).bind λc=>
  (J5 (b - 1)).bind λe=>
  (G7 a e).bind λg=>
  (G7 a b).bind λj=>
  (G7 a b).bind λm=>
  (some (List.set a b.toNat g)).bind λd=>
  (G7 d c).bind λl=>
  (some (List.set d c.toNat j)).bind λk=>
  (J5 (b - 1)).bind λi=>
  some (inl (k,i))
 else
  some (inr a)
def A4w (i:Int):((List Int)×Int)→Option (((List Int)×Int)⊕(List Int)):=λ(a,b)=>
 (
  bif decide (i<b) then
   (G7 a b).bind λe=>
   (J5 (b - 1)).bind λh=>
   (G7 a h).bind λc=>
   (B0w e c).bind λd=>
   some d
  else
   some false).bind λg=>
 B2o a b g
def A4A (g:Int) (e:Int):((List Int)×Int)→Option (((List Int)×Int)⊕(List Int)):=λ(a,c)=>
 bif decide (c<e) then
  (
   iter (A4w g) FUEL (a,c)).bind λb=>
  (J5 (c+1)).bind λd=>
  some (inl (b,d))
 else
  some (inr a)
def B4q (b:List Int) (c:Int) (d:Int):Option (List Int):=
 (J5 (c+1)).bind λe=>
 (
   iter (A4A c d) FUEL (b,e)).bind λa=>
 some a
def A9a (b:List Int) (g:Int) (e:Int) (a:Int):Unit→Option (Unit⊕(List Int)):=λ_u=>
 (J5 (e - g)).bind λc=>
 bif decide (c≤12) then
  (B4q b g e).bind λd=>
  some (inr d)
 else
  bif decide (a=0) then
   none
  else
   none
def B8e:Nat→(List Int)→Int→Int→Int→Option (List Int)
 | 0,_,_,_,_=>none
 | n+1,data1,a3,b4,limit5=>
  (
   iter (A9a data1 a3 b4 limit5) FUEL ()).bind λp=>some p
def B2c (b:List Int):Option (List Int):=
 (A0Q .u64 (b.length:Int)).bind λc=>
 (bits_Len c).bind λd=>
 (B8e A4P b 0 (b.length:Int) d).bind λa=>
 some a
def A8S (a:List Int) (b:Int) (h:Bool):Option (((List Int)×Int)⊕(List Int)):=
 bif h then
  (J5 (b - 1)).bind λc=>
  (J5 (b - 1)).bind λg=>
  (G7 a g).bind λj=>
  (G7 a b).bind λe=>
  (G7 a b).bind λl=>
  (some (List.set a b.toNat j)).bind λd=>
  (G7 d c).bind λm=>
  (some (List.set d c.toNat e)).bind λk=>
  (J5 (b - 1)).bind λi=>
  some (inl (k,i))
 else
  some (inr a)
def A1Y (j:Int) (c:Int→Int→Option Int):((List Int)×Int)→Option (((List Int)×Int)⊕(List Int)):=λ(a,b)=>
 (
  bif decide (j<b) then
   (G7 a b).bind λi=>
   (J5 (b - 1)).bind λe=>
   (G7 a e).bind λh=>
   (c i h).bind λd=>
   some (decide (d<0))
  else
   some false).bind λg=>
 A8S a b g
def A1X (h:Int) (g:Int) (e:Int→Int→Option Int):((List Int)×Int)→Option (((List Int)×Int)⊕(List Int)):=λ(a,c)=>
 bif decide (c<g) then
  (
   iter (A1Y h e) FUEL (a,c)).bind λb=>
  (J5 (c+1)).bind λd=>
  some (inl (b,d))
 else
  some (inr a)
def A6T (b:List Int) (d:Int) (e:Int) (c:Int→Int→Option Int):Option (List Int):=
 (J5 (d+1)).bind λg=>
 (
   iter (A1X d e c) FUEL (b,g)).bind λa=>
 some a
def B2V (c:Int) (a:Int) (b:Int):Unit→Option (Unit⊕Unit):=λ_u=>
 bif decide (b≤c) then
  (J5 (0+a)).bind λd=>
  none
 else
  some (inr ())
def A8Q (d:Int):Int→Option (Int⊕Unit):=λa=>
 bif decide (a<d) then
  (J5 (2*a)).bind λb=>
  (
   iter (B2V d a b) FUEL ()).bind λ_u=>
  (J5 (0+a)).bind λe=>
  bif decide (e<d) then
   none
  else
   (J5 (a*2)).bind λc=>
   some (inl c)
 else
  some (inr ())
def A8U (h:Int) (c:Int→Int→Option Int):((List Int)×Int×Int)→Option (((List Int)×Int×Int)⊕((List Int)×Int)):=λ(a,d,b)=>
 bif decide (b≤h) then
  (A6T a d b c).bind λg=>
  (J5 (b+20)).bind λe=>
  some (inl (g,b,e))
 else
  some (inr (a,d))
def B2g (c:List Int) (e:Int) (b:Int→Int→Option Int):Option (List Int):=
 (
   iter (A8U e b) FUEL (c,0,20)).bind λ(a,g)=>
 (A6T a g e b).bind λd=>
 (
   iter (A8Q e) FUEL 20).bind λ_u=>
 some d
def A4B (b:List Int) (a:Int→Int→Option Int):Option (List Int):=
 (B2g b (b.length:Int) a).bind λc=>
 some c
def A7r (a:List (List Int)) (b:Int) (j:Bool):Option (((List (List Int))×Int)⊕(List (List Int))):=
 bif j then
  (J5 (b - 1)).bind λd=>
  (J5 (b - 1)).bind λh=>
  (G7 a h).bind λi=>
  (G7 a b).bind λk=>
  (G7 a b).bind λm=>
  (some (List.set a b.toNat i)).bind λc=>
  (G7 c d).bind λl=>
  (some (List.set c d.toNat k)).bind λg=>
  (J5 (b - 1)).bind λe=>
  some (inl (g,e))
 else
  some (inr a)
def A1H (j:Int) (c:(List Int)→(List Int)→Option Int):((List (List Int))×Int)→Option (((List (List Int))×Int)⊕(List (List Int))):=λ(a,b)=>
 (
  bif decide (j<b) then
   (G7 a b).bind λh=>
   (J5 (b - 1)).bind λg=>
   (G7 a g).bind λd=>
   (c h d).bind λi=>
   some (decide (i<0))
  else
   some false).bind λe=>
 A7r a b e
def A1G (h:Int) (g:Int) (d:(List Int)→(List Int)→Option Int):((List (List Int))×Int)→Option (((List (List Int))×Int)⊕(List (List Int))):=λ(a,c)=>
 bif decide (c<g) then
  (
   iter (A1H h d) FUEL (a,c)).bind λb=>
  (J5 (c+1)).bind λe=>
  some (inl (b,e))
 else
  some (inr a)
def A8t (b:List (List Int)) (d:Int) (e:Int) (c:(List Int)→(List Int)→Option Int):Option (List (List Int)):=
 (J5 (d+1)).bind λg=>
 (
   iter (A1G d e c) FUEL (b,g)).bind λa=>
 some a
def A4M (b:List (List Int)) (h:Int) (g:Int) (a:Int) (c:(List Int)→(List Int)→Option Int):Unit→Option (Unit⊕(List (List Int))):=λ_u=>
 (J5 (g - h)).bind λe=>
 bif decide (e≤12) then
  (A8t b h g c).bind λd=>
  some (inr d)
 else
  bif decide (a=0) then
   none
  else
   none
def B1j:Nat→(List (List Int))→Int→Int→Int→((List Int)→(List Int)→Option Int)→Option (List (List Int))
 | 0,_,_,_,_,_=>none
 | n+1,data1,a3,b4,limit5,cmp6=>
  (
   iter (A4M data1 a3 b4 limit5 cmp6) FUEL ()).bind λp=>some p
def A5F (c:List (List Int)) (a:(List Int)→(List Int)→Option Int):Option (List (List Int)):=
 (A0Q .u64 (c.length:Int)).bind λd=>
 (bits_Len d).bind λe=>
 (B1j A4P c 0 (c.length:Int) e a).bind λb=>
 some b
def B9H (a:List H8) (b:Int) (h:Bool):Option (((List H8)×Int)⊕(List H8)):=
 bif h then
  (J5 (b - 1)).bind λc=>
  (J5 (b - 1)).bind λg=>
  (G7 a g).bind λj=>
  (G7 a b).bind λe=>
  (G7 a b).bind λl=>
  (some (List.set a b.toNat j)).bind λd=>
  (G7 d c).bind λm=>
  (some (List.set d c.toNat e)).bind λk=>
  (J5 (b - 1)).bind λi=>
  some (inl (k,i))
 else
  some (inr a)
def B2O (j:Int) (c:H8→H8→Option Int):((List H8)×Int)→Option (((List H8)×Int)⊕(List H8)):=λ(a,b)=>
 (
  bif decide (j<b) then
   (G7 a b).bind λi=>
   (J5 (b - 1)).bind λe=>
   (G7 a e).bind λh=>
   (c i h).bind λd=>
   some (decide (d<0))
  else
   some false).bind λg=>
 B9H a b g
def B3c (h:Int) (g:Int) (e:H8→H8→Option Int):((List H8)×Int)→Option (((List H8)×Int)⊕(List H8)):=λ(a,c)=>
 bif decide (c<g) then
  (
   iter (B2O h e) FUEL (a,c)).bind λb=>
  (J5 (c+1)).bind λd=>
  some (inl (b,d))
 else
  some (inr a)
def B6Q (b:List H8) (d:Int) (e:Int) (c:H8→H8→Option Int):Option (List H8):=
 (J5 (d+1)).bind λg=>
 (
   iter (B3c d e c) FUEL (b,g)).bind λa=>
 some a
def B2U (a:List H8) (g:Int) (e:Int) (b:H8→H8→Option Int):Unit→Option (Unit⊕(List H8)):=λ_u=>
 (J5 (e - g)).bind λd=>
 bif decide (d≤12) then
  (B6Q a g e b).bind λc=>
  some (inr c)
 else
  none
def B6O:Nat→(List H8)→Int→Int→Int→(H8→H8→Option Int)→Option (List H8)
 | 0,_,_,_,_,_=>none
 | n+1,data1,a3,b4,limit5,cmp6=>
  (
   iter (B2U data1 a3 b4 cmp6) FUEL ()).bind λp=>some p
def B3A (c:List H8) (a:H8→H8→Option Int):Option (List H8):=
 (A0Q .u64 (c.length:Int)).bind λd=>
 (bits_Len d).bind λe=>
 (B6O A4P c 0 (c.length:Int) e a).bind λb=>
 some b
end Go.Dm
open Go Go.Sl Sum
namespace Go.Dm
def bits_Mul64 (m:Int) (d:Int):Option (Int×Int):=
 (C3H .u64 m 4294967295).bind λo=>
 (A3S .u64 m 32).bind λp=>
 (C3H .u64 d 4294967295).bind λq=>
 (A3S .u64 d 32).bind λn=>
 (A0Q .u64 (o*q)).bind λr=>
 (A0Q .u64 (p*q)).bind λt=>
 (A3S .u64 r 32).bind λs=>
 (A0Q .u64 (t+s)).bind λa=>
 (C3H .u64 a 4294967295).bind λb=>
 (A3S .u64 a 32).bind λg=>
 (A0Q .u64 (o*n)).bind λi=>
 (A0Q .u64 (b+i)).bind λh=>
 (A0Q .u64 (p*n)).bind λc=>
 (A0Q .u64 (c+g)).bind λl=>
 (A3S .u64 h 32).bind λe=>
 (A0Q .u64 (l+e)).bind λj=>
 (A0Q .u64 (m*d)).bind λk=>
 some (j,k)
def bits_Mul (c:Int) (a:Int):Option (Int×Int):=
 (bits_Mul64 c a).bind λ(b,d)=>
 some (b,d)
def B7t (a:List Int) (b:Int):Option (((List Int)×Int)⊕(List Int)):=
 (bdV b (a.length:Int) (a.length:Int)).bind λi=>
 (bdV 0 b (a.length:Int)).bind λj=>
 (bdV b (a.length:Int) (a.length:Int)).bind λh=>
 (bdV 0 b (a.length:Int)).bind λg=>
 (cpL a b.toNat ((a.length:Int).toNat - b.toNat) (List.take (b.toNat - (0:Int).toNat) (List.drop (0:Int).toNat a))).bind λ(c,e)=>
 (J5 (b+e)).bind λd=>
 some (inl (c,d))
def A9d:((List Int)×Int)→Option (((List Int)×Int)⊕(List Int)):=λ(a,b)=>
 bif decide (b<(a.length:Int)) then
  B7t a b
 else
  some (inr a)
def B7u (m:List Int) (b:Int):Option (List Int):=
 (A0Q .u64 (m.length:Int)).bind λl=>
 (A0Q .u64 b).bind λh=>
 (bits_Mul l h).bind λ(e,c)=>
 (
  bif decide (0<e) then
   some true
  else
   some (decide (9223372036854775807<c))).bind λg=>
 (
  bif g then
   none
  else
   some ()).bind λ_u=>
 (A0Q .i64 c).bind λk=>
 (mkL k 0).bind λd=>
 (cpL d 0 d.length m).bind λ(i,j)=>
 (
  iter A9d FUEL (i,j)).bind λa=>
 some a
def A6n (b:List Int) (a:Int):Option (List Int):=
 (
   bif decide (a<0) then
     none
   else
     some ()).bind λ_u=>
 B7u b a
def B1U (k:List Int) (n:Int) (b:List Int) (c:Int) (a:Int):Option (((List Int)×Int×Int)⊕((List Int)×Int)):=
 (B9A b n (k.length:Int) a).bind λi=>
 (J5 (a - 1)).bind λg=>
 (B9A b n (k.length:Int) g).bind λh=>
 bif !decide (i=h) then
  (B9A b n (k.length:Int) a).bind λl=>
  (G7 b c).bind λo=>
  (some (List.set b c.toNat l)).bind λe=>
  (J5 (c+1)).bind λm=>
  (J5 (a+1)).bind λj=>
  some (inl (e,m,j))
 else
  (J5 (a+1)).bind λd=>
  some (inl (b,c,d))
def A4K (d:List Int) (e:Int):((List Int)×Int×Int)→Option (((List Int)×Int×Int)⊕((List Int)×Int)):=λ(c,b,a)=>
 bif decide (a<((((d.length:Int).toNat - e.toNat:Nat)):Int)) then
  B1U d e c b a
 else
  some (inr (c,b))
def B1v (c:List Int) (d:Int):Option (Int⊕(Unit⊕(List Int))):=
 (G7 c d).bind λi=>
 (J5 (d - 1)).bind λk=>
 (G7 c k).bind λg=>
 bif decide (i=g) then
  (bdV d (c.length:Int) (c.length:Int)).bind λm=>
  (
   iter (A4K c d) FUEL (c,d,1)).bind λ(a,b)=>
  (bdV b (a.length:Int) (a.length:Int)).bind λn=>
  (bdV b (a.length:Int) (a.length:Int)).bind λl=>
  (some (A3u a b.toNat (List.replicate ((a.length:Int).toNat - b.toNat) 0))).bind λh=>
  (sbL h 0 b).bind λj=>
  some (inr (inr j))
 else
  (J5 (d+1)).bind λe=>
  some (inl e)
def A4y (a:List Int):Int→Option (Int⊕(Unit⊕(List Int))):=λb=>
 bif decide (b<(a.length:Int)) then
  B1v a b
 else
  some (inr (inl ()))
def A7Y (a:List Int):Option (List Int):=
 bif decide ((a.length:Int)<2) then
   some a
 else
   (
     iter (A4y a) FUEL 1).bind λb=>match b with
   | .inl _u=>
     some a
   | .inr p=>
     some p
def A7j (m:List (List Int)) (k:(List Int)→(List Int)→Option Bool) (l:Int) (b:List (List Int)) (c:Int) (a:Int):Option (((List (List Int))×Int×Int)⊕((List (List Int))×Int)):=
 (B9A b l (m.length:Int) a).bind λj=>
 (J5 (a - 1)).bind λi=>
 (B9A b l (m.length:Int) i).bind λn=>
 (k j n).bind λp=>
 bif !p then
  (B9A b l (m.length:Int) a).bind λo=>
  (G7 b c).bind λq=>
  (some (List.set b c.toNat o)).bind λg=>
  (J5 (c+1)).bind λh=>
  (J5 (a+1)).bind λd=>
  some (inl (g,h,d))
 else
  (J5 (a+1)).bind λe=>
  some (inl (b,c,e))
def A1S (g:List (List Int)) (d:(List Int)→(List Int)→Option Bool) (e:Int):((List (List Int))×Int×Int)→Option (((List (List Int))×Int×Int)⊕((List (List Int))×Int)):=λ(b,c,a)=>
 bif decide (a<((((g.length:Int).toNat - e.toNat:Nat)):Int)) then
  A7j g d e b c a
 else
  some (inr (b,c))
def A7l (e:List (List Int)) (g:(List Int)→(List Int)→Option Bool) (h:Int):Option (Int⊕(Unit⊕(List (List Int)))):=
 (bdV h (e.length:Int) (e.length:Int)).bind λk=>
 (
  iter (A1S e g h) FUEL (e,h,1)).bind λ(a,b)=>
 (bdV b (a.length:Int) (a.length:Int)).bind λj=>
 (bdV b (a.length:Int) (a.length:Int)).bind λi=>
 (some (A3u a b.toNat (List.replicate ((a.length:Int).toNat - b.toNat) ([]:List Int)))).bind λd=>
 (sbL d 0 b).bind λc=>
 some (inr (inr c))
def A1T (d:List (List Int)) (a:(List Int)→(List Int)→Option Bool):Int→Option (Int⊕(Unit⊕(List (List Int)))):=λc=>
 bif decide (c<(d.length:Int)) then
  (G7 d c).bind λg=>
  (J5 (c - 1)).bind λi=>
  (G7 d i).bind λh=>
  (a g h).bind λe=>
  bif e then
   A7l d a c
  else
   (J5 (c+1)).bind λb=>
   some (inl b)
 else
  some (inr (inl ()))
def A3j (a:List (List Int)) (b:(List Int)→(List Int)→Option Bool):Option (List (List Int)):=
 bif decide ((a.length:Int)<2) then
   some a
 else
   (
     iter (A1T a b) FUEL 1).bind λc=>match c with
   | .inl _u=>
     some a
   | .inr p=>
     some p
def A2G (c:List ByteArray) (g:ByteArray→Option Bool):Int→Option (Int⊕(Unit⊕(Int×(List ByteArray)))):=λa=>
 bif decide (a<(c.length:Int)) then
  (G7 c a).bind λd=>
  (g d).bind λb=>
  bif b then
   some (inr (inr (a,c)))
  else
   (J5 (a+1)).bind λe=>
   some (inl e)
 else
  some (inr (inl ()))
def A4x (a:List ByteArray) (b:ByteArray→Option Bool):Option (Int×(List ByteArray)):=
 (
   iter (A2G a b) FUEL 0).bind λc=>match c with
 | .inl _u=>
   some ((-1),a)
 | .inr p=>
   some p
def A2F (d:ByteArray→Option Bool):((List ByteArray)×Int×Int)→Option (((List ByteArray)×Int×Int)⊕((List ByteArray)×Int)):=λ(a,b,c)=>
 bif decide (c<(a.length:Int)) then
  (G7 a c).bind λe=>
  (d e).bind λg=>
  bif !g then
   (G7 a b).bind λl=>
   (some (List.set a b.toNat e)).bind λk=>
   (J5 (b+1)).bind λh=>
   (J5 (c+1)).bind λj=>
   some (inl (k,h,j))
  else
   (J5 (c+1)).bind λi=>
   some (inl (a,b,i))
 else
  some (inr (a,b))
def A2J (j:List ByteArray) (c:ByteArray→Option Bool):Option (List ByteArray):=
 (A4x j c).bind λ(e,i)=>
 bif decide (e=(-1)) then
   some i
 else
   (J5 (e+1)).bind λh=>
   (
     iter (A2F c) FUEL (i,e,h)).bind λ(a,b)=>
   (bdV b (a.length:Int) (a.length:Int)).bind λk=>
   (bdV b (a.length:Int) (a.length:Int)).bind λl=>
   (some (A3u a b.toNat (List.replicate ((a.length:Int).toNat - b.toNat) (⟨#[]⟩:ByteArray)))).bind λg=>
   (sbL g 0 b).bind λd=>
   some d
end Go.Dm
open Go Go.Sl Sum
namespace Go.Dm
def Y0 (a:Int):Option (ByteArray):=
 (A5K a 26).bind λi=>
 (U9 i 26).bind λb=>
 (J5 (97+b)).bind λg=>
 (A0Q .u8 g).bind λc=>
 (U9 a 26).bind λh=>
 (J5 (97+h)).bind λd=>
 (A0Q .u8 d).bind λe=>
 some (B8q [c,e])
def A6Q (e:Q5) (g:Int):Int→Option (Int⊕(Unit⊕Bool)):=λa=>
 bif decide (a<(e.A7.length:Int)) then
  (G7 e.A7 a).bind λc=>
  (Y0 g).bind λb=>
  bif decide (c.F8=b) then
   some (inr (inr true))
  else
   (J5 (a+1)).bind λd=>
   some (inl d)
 else
  some (inr (inl ()))
def A2c (b:Q5) (c:Int):Option (Bool):=
 (
   iter (A6Q b c) FUEL 0).bind λa=>match a with
 | .inl _u=>
   some false
 | .inr p=>
   some p
def A5e (l:Int):((List ByteArray)×Int)→Option (((List ByteArray)×Int)⊕(List ByteArray)):=λ(a,b)=>
 bif decide (b<4) then
  (J5 (2*b)).bind λe=>
  (J5 (6+e)).bind λi=>
  (A3S .i64 l i).bind λc=>
  (U9 c 4).bind λj=>
  bif decide (j=1) then
   (Y0 b).bind λd=>
   (apL a [d]).bind λk=>
   (J5 (b+1)).bind λg=>
   some (inl (k,g))
  else
   (J5 (b+1)).bind λh=>
   some (inl (a,h))
 else
  some (inr a)
def B5J (b:List E9) (q:Int) (g:Int) (l:ByteArray) (p:Int) (n:Int) (m:Int) (r:Int) (e:ByteArray) (c:ByteArray):Option (((List E9)×Int)⊕(List E9)):=
 (U9 g 3).bind λo=>
 (
  bif decide (o=2) then
   (U9 g 5).bind λj=>
   (Y0 j).bind λi=>
   some i
  else
   some (⟨#[]⟩:ByteArray)).bind λd=>
 (
  iter (A5e g) FUEL (([]:List ByteArray),0)).bind λa=>
 (apL b [(E9.mk l e c p n d (decide (m=0)) (decide (r=0)) a)]).bind λh=>
 (J5 (q+1)).bind λk=>
 some (inl (h,k))
def B1r (d:List Int) (b:List E9) (e:Int):Option (((List E9)×Int)⊕(List E9)):=
 (G7 d e).bind λj=>
 (A0Q .i64 j).bind λa=>
 (J5 (25*e)).bind λi=>
 (U9 i 312).bind λx=>
 (A5K e 12).bind λq=>
 (J5 (x+q)).bind λs=>
 (Y0 s).bind λl=>
 (U9 a 4).bind λk=>
 (J5 (k*500)).bind λt=>
 (U9 a 3).bind λo=>
 (U9 a 5).bind λm=>
 (U9 a 7).bind λw=>
 (U9 a 2).bind λp=>
 (
  bif decide (p=1) then
   (U9 a 3).bind λn=>
   (Y0 n).bind λu=>
   some u
  else
   some (⟨#[]⟩:ByteArray)).bind λg=>
 (U9 a 8).bind λv=>
 (
  bif decide (4<v) then
   (U9 a 8).bind λr=>
   (Y0 r).bind λh=>
   some h
  else
   some (⟨#[]⟩:ByteArray)).bind λc=>
 B5J b e a l t o m w g c
def B1m (d:List Int) (k:Int) (a:List H9) (c:Int) (b:Int) (o:Bool):Option (((List H9)×Int×Int)⊕(Int×(List H9))):=
 bif o then
  (G7 d c).bind λq=>
  (U9 q 4).bind λi=>
  (A0Q .u8 (1+i)).bind λn=>
  (Y0 k).bind λe=>
  (Y0 b).bind λm=>
  (apL a [(H9.mk e m n)]).bind λh=>
  (J5 (c+1)).bind λl=>
  (J5 (b+1)).bind λp=>
  some (inl (h,l,p))
 else
  (J5 (c+1)).bind λg=>
  (J5 (b+1)).bind λj=>
  some (inl (a,g,j))
def A8e (d:List Int) (b:List E9) (g:Int) (a:List H9) (c:Int) (e:Int):Option (((List H9)×Int×Int)⊕(Int×(List H9))):=
 (A2c (Q5.mk b ([]:List H9)) g).bind λm=>
 bif !m then
  some (inr (c,a))
 else
  (A2c (Q5.mk b ([]:List H9)) e).bind λl=>
  bif !l then
   (J5 (e+1)).bind λk=>
   some (inl (a,c,k))
  else
   (
    bif decide (c<(d.length:Int)) then
     (G7 d c).bind λh=>
     (U9 h 4).bind λj=>
     some (decide (j<2))
    else
     some false).bind λi=>
   B1m d g a c e i
def A8k (e:List Int) (b:List E9) (g:Int):((List H9)×Int×Int)→Option (((List H9)×Int×Int)⊕(Int×(List H9))):=λ(a,d,c)=>
 bif decide (c<312) then
  A8e e b g a d c
 else
  some (inr (d,a))
def A7I (e:List Int) (c:List E9):((List H9)×Int×Int)→Option (((List H9)×Int×Int)⊕(List H9)):=λ(a,j,b)=>
 bif decide (b<312) then
  (J5 (b+1)).bind λh=>
  (
   iter (A8k e c b) FUEL (a,j,h)).bind λ(g,d)=>
  (J5 (b+1)).bind λi=>
  some (inl (d,g,i))
 else
  some (inr a)
def A8u (b:List Int):((List E9)×Int)→Option (((List E9)×Int)⊕(List E9)):=λ(a,c)=>
 (
  bif decide (c<(b.length:Int)) then
   some (decide (c<12))
  else
   some false).bind λd=>
 bif d then
  B1r b a c
 else
  some (inr a)
def B2F (c:List Int) (d:List Int):Option (Q5):=
 (
   iter (A8u c) FUEL (([]:List E9),0)).bind λa=>
 (
   iter (A7I d a) FUEL (([]:List H9),0,0)).bind λb=>
 some (Q5.mk a b)
def B9T (c:Int):Option (ByteArray):=
 (U9 c 26).bind λa=>
 (J5 (97+a)).bind λb=>
 (A0Q .u8 b).bind λd=>
 some (B8q [116,d])
def A1n (a:D7):Option (Int):=
 bif decide (a.P8=2) then
   (J5 (2*a.fA)).bind λe=>
   (J5 (e+a.fB)).bind λd=>
   some d
 else
   bif decide (a.P8=3) then
     (J5 (2*a.fB)).bind λc=>
     (J5 (a.fA+c)).bind λb=>
     some b
   else
     some a.fA
def C0c (k:Int) (a:List Int) (b:Int):Option (((List Int)×Int)⊕(List Int)):=
 (A3S .i64 k b).bind λc=>
 (U9 c 2).bind λj=>
 bif decide (j=1) then
  (U9 k 3).bind λe=>
  bif decide (0<e) then
   (apL a [b]).bind λg=>
   (J5 (b+1)).bind λi=>
   some (inl (g,i))
  else
   (J5 (b+1)).bind λh=>
   some (inl (a,h))
 else
  (J5 (b+1)).bind λd=>
  some (inl (a,d))
def B3F (h:Int) (i:ByteArray) (c:Int) (g:Int) (e:Int):((List Int)×Int)→Option (((List Int)×Int)⊕(List Int)):=λ(a,b)=>
 (A1n (D7.mk i c e 0 ([]:List Int) h g)).bind λd=>
 bif decide (b<d) then
  C0c h a b
 else
  some (inr a)
def C1o (k:Int) (a:List Int) (b:Int):Option (((List Int)×Int)⊕(List Int)):=
 (A3S .i64 k b).bind λg=>
 (U9 g 2).bind λe=>
 bif decide (e=1) then
  (U9 k 3).bind λi=>
  bif decide (0<i) then
   (apL a [b]).bind λh=>
   (J5 (b+1)).bind λj=>
   some (inl (h,j))
  else
   (J5 (b+1)).bind λd=>
   some (inl (a,d))
 else
  (J5 (b+1)).bind λc=>
  some (inl (a,c))
def B4b (i:Int) (j:ByteArray) (d:Int) (h:Int) (g:Int) (e:Int):((List Int)×Int)→Option (((List Int)×Int)⊕(List Int)):=λ(a,b)=>
 (A1n (D7.mk j d g e ([]:List Int) i h)).bind λc=>
 bif decide (b<c) then
  C1o i a b
 else
  some (inr a)
def C0C (k:Int) (a:List Int) (b:Int):Option (((List Int)×Int)⊕(List Int)):=
 (A3S .i64 k b).bind λh=>
 (U9 h 2).bind λj=>
 bif decide (j=1) then
  (U9 k 3).bind λg=>
  bif decide (0<g) then
   (apL a [b]).bind λd=>
   (J5 (b+1)).bind λi=>
   some (inl (d,i))
  else
   (J5 (b+1)).bind λe=>
   some (inl (a,e))
 else
  (J5 (b+1)).bind λc=>
  some (inl (a,c))
def B3C (i:Int) (j:ByteArray) (g:Int) (h:Int) (c:Int) (d:Int):((List Int)×Int)→Option (((List Int)×Int)⊕(List Int)):=λ(a,b)=>
 (A1n (D7.mk j g c d ([]:List Int) i h)).bind λe=>
 bif decide (b<e) then
  C0C i a b
 else
  some (inr a)
def C1t (k:Int) (a:List Int) (b:Int):Option (((List Int)×Int)⊕(List Int)):=
 (A3S .i64 k b).bind λc=>
 (U9 c 2).bind λi=>
 bif decide (i=1) then
  (U9 k 3).bind λh=>
  bif decide (0<h) then
   (apL a [b]).bind λd=>
   (J5 (b+1)).bind λj=>
   some (inl (d,j))
  else
   (J5 (b+1)).bind λe=>
   some (inl (a,e))
 else
  (J5 (b+1)).bind λg=>
  some (inl (a,g))
def B3r (i:Int) (j:ByteArray) (g:Int) (h:Int) (b:Int) (d:Int):((List Int)×Int)→Option (((List Int)×Int)⊕(List Int)):=λ(a,c)=>
 (A1n (D7.mk j g b (min b d) ([]:List Int) i h)).bind λe=>
 bif decide (c<e) then
  C1t i a c
 else
  some (inr a)
def C1k (k:Int) (a:List Int) (b:Int):Option (((List Int)×Int)⊕(List Int)):=
 (A3S .i64 k b).bind λe=>
 (U9 e 2).bind λc=>
 bif decide (c=1) then
  (U9 k 3).bind λh=>
  bif decide (0<h) then
   (apL a [b]).bind λi=>
   (J5 (b+1)).bind λg=>
   some (inl (i,g))
  else
   (J5 (b+1)).bind λd=>
   some (inl (a,d))
 else
  (J5 (b+1)).bind λj=>
  some (inl (a,j))
def B3s (g:Int) (h:ByteArray) (d:Int) (e:Int):((List Int)×Int)→Option (((List Int)×Int)⊕(List Int)):=λ(a,b)=>
 (A1n (D7.mk h d 0 0 ([]:List Int) g e)).bind λc=>
 bif decide (b<c) then
  C1k g a b
 else
  some (inr a)
def C1a (l:Int) (k:ByteArray) (c:Int) (e:Int) (h:Int):Option (D7):=
 bif decide (c=4) then
  (U9 h 5).bind λi=>
  (J5 (1+i)).bind λa=>
  (A5K h 5).bind λj=>
  (U9 j 4).bind λg=>
  (
   iter (B3r l k c e a g) FUEL (([]:List Int),0)).bind λd=>
  some (D7.mk k c a (min a g) d l e)
 else
  (
   iter (B3s l k c e) FUEL (([]:List Int),0)).bind λb=>
  some (D7.mk k c 0 0 b l e)
def C1f (o:Int) (n:ByteArray) (a:Int) (c:Int) (d:Int):Option (D7):=
 bif decide (a=2) then
  (U9 d 3).bind λq=>
  (J5 (1+q)).bind λk=>
  (A5K d 3).bind λp=>
  (U9 p 3).bind λi=>
  (
   iter (B4b o n a c k i) FUEL (([]:List Int),0)).bind λe=>
  some (D7.mk n a k i e o c)
 else
  bif decide (a=3) then
   (U9 d 2).bind λj=>
   (J5 (1+j)).bind λg=>
   (A5K d 2).bind λl=>
   (U9 l 2).bind λm=>
   (J5 (1+m)).bind λh=>
   (
    iter (B3C o n a c g h) FUEL (([]:List Int),0)).bind λb=>
   some (D7.mk n a g h b o c)
  else
   C1a o n a c d
def A3a (l:Int) (d:Int):Option (D7):=
 (B9T l).bind λj=>
 (U9 d 4).bind λh=>
 (J5 (1+h)).bind λi=>
 (A0Q .u8 i).bind λa=>
 (J5 (255 - d)).bind λc=>
 (A5K d 4).bind λg=>
 bif decide (a=1) then
   (U9 g 6).bind λk=>
   (J5 (1+k)).bind λe=>
   (
     iter (B3F d j a c e) FUEL (([]:List Int),0)).bind λb=>
   some (D7.mk j a e 0 b d c)
 else
   C1f d j a c g
def A2Q (m:C9) (b:Int) (a:Int) (e:Int) (c:Int) (j:Int):Option (F7×Bool):=
 (G7 m.A7 e).bind λk=>
 (G7 m.A7 c).bind λg=>
 (
  bif decide (b=1) then
   some true
  else
   some (decide (b=4))).bind λl=>
 (
  bif l then
   some j
  else
   some 0).bind λd=>
 (
  bif decide (b=4) then
   (J5 (d+1)).bind λi=>
   some i
  else
   some d).bind λh=>
 some ((F7.mk b a k.F8 g.F8 (⟨#[]⟩:ByteArray) h),!decide (e=c))
def A9V (n:C9) (e:Int) (b:Int) (l:Int) (m:Int) (h:Int):Option (F7×Bool):=
 (G7 n.A7 m).bind λd=>
 (G7 n.C8 h).bind λi=>
 (
  bif decide (e=7) then
   (A5K l 13).bind λg=>
   (G7 n.C8 h).bind λa=>
   (A1n (D7.mk a.F8 a.P8 a.fA a.fB ([]:List Int) a.fX a.fY)).bind λj=>
   (U9 g j).bind λc=>
   some c
  else
   some 0).bind λk=>
 some ((F7.mk e b d.F8 (⟨#[]⟩:ByteArray) i.F8 k),true)
def B3U (l:C9) (b:Int) (a:Int) (d:Int) (g:Int) (j:Int) (k:Bool):Option (F7×Bool):=
 bif k then
  (U9 d 3).bind λc=>
  bif decide (0<c) then
   (G7 l.C8 g).bind λh=>
   some ((F7.mk b a (⟨#[]⟩:ByteArray) (⟨#[]⟩:ByteArray) h.F8 j),true)
  else
   some ((F7.mk b a (⟨#[]⟩:ByteArray) (⟨#[]⟩:ByteArray) (⟨#[]⟩:ByteArray) j),true)
 else
  (U9 d 3).bind λi=>
  bif decide (0<i) then
   (G7 l.C8 g).bind λe=>
   some ((F7.mk b a (⟨#[]⟩:ByteArray) (⟨#[]⟩:ByteArray) e.F8 0),true)
  else
   some ((F7.mk b a (⟨#[]⟩:ByteArray) (⟨#[]⟩:ByteArray) (⟨#[]⟩:ByteArray) 0),true)
def B4e (m:C9) (b:Int) (a:Int) (d:Int) (j:Int) (g:Int) (n:Int):Option (F7×Bool):=
 bif decide (b=10) then
  (U9 d 3).bind λh=>
  (
   bif decide (h=0) then
    (G7 m.A7 j).bind λl=>
    some l.F8
   else
    some (⟨#[]⟩:ByteArray)).bind λk=>
  some ((F7.mk b a k (⟨#[]⟩:ByteArray) (⟨#[]⟩:ByteArray) 0),true)
 else
  bif decide (b=17) then
   (G7 m.A7 j).bind λc=>
   (G7 m.C8 g).bind λe=>
   some ((F7.mk b a c.A0z (⟨#[]⟩:ByteArray) e.F8 0),!decide (c.A0z=(⟨#[]⟩:ByteArray)))
  else
   (
    bif decide (b=15) then
     some (decide (b=15))
    else
     some (decide (b=16))).bind λi=>
   B3U m b a d g n i
def B3n (e:C9) (a:Int) (b:Int) (c:Int):Option (F7×Bool):=
 (U9 c (e.A7.length:Int)).bind λd=>
 (A5K c (e.A7.length:Int)).bind λl=>
 (U9 l (e.A7.length:Int)).bind λk=>
 (A5K c 7).bind λm=>
 (U9 m (e.C8.length:Int)).bind λh=>
 (A5K c 11).bind λn=>
 (U9 n 4).bind λi=>
 (
  bif decide (a=1) then
   some (decide (a=1))
  else
   bif decide (a=2) then
    some (decide (a=2))
   else
    bif decide (a=3) then
     some (decide (a=3))
    else
     bif decide (a=4) then
      some (decide (a=4))
     else
      some (decide (a=5))).bind λj=>
 bif j then
  A2Q e a b d k i
 else
  (
   bif decide (a=6) then
    some (decide (a=6))
   else
    some (decide (a=7))).bind λg=>
  bif g then
   A9V e a b c d h
  else
   B4e e a b c d h i
def B0A (j:C9) (c:Int):Option (F7×Bool):=
 (U9 c 18).bind λm=>
 (J5 (1+m)).bind λe=>
 (A0Q .u8 e).bind λd=>
 (A5K c 18).bind λb=>
 (U9 b 5).bind λh=>
 (
   bif decide (1<h) then
     (U9 b 7).bind λl=>
     (J5 (1+l)).bind λg=>
     some g
   else
     some 0).bind λa=>
 (A5K b 5).bind λi=>
 (
   bif decide ((j.A7.length:Int)=0) then
     some true
   else
     some (decide ((j.C8.length:Int)=0))).bind λk=>
 bif k then
   some ((F7.mk d a (⟨#[]⟩:ByteArray) (⟨#[]⟩:ByteArray) (⟨#[]⟩:ByteArray) 0),false)
 else
   B3n j d a i
def A5i (k:R6) (j:Q5):((List Int)×Int)→Option (((List Int)×Int)⊕(List Int)):=λ(a,b)=>
 bif decide (b<(j.A7.length:Int)) then
  (G7 k.A7 b).bind λh=>
  (A0Q .i64 h).bind λd=>
  (A5K d 3).bind λe=>
  (U9 e 4).bind λi=>
  (apL a [i]).bind λg=>
  (J5 (b+1)).bind λc=>
  some (inl (g,c))
 else
  some (inr a)
def B1q (o:R6) (k:Q5) (a:List D7) (b:List Int) (c:List F7) (d:Int) (m:Bool):Option (((List D7)×(List Int)×(List F7)×Int)⊕((List D7)×(List Int)×(List F7))):=
 bif m then
  (G7 o.J9 d).bind λj=>
  (A0Q .i64 j).bind λg=>
  (B0A (C9.mk a k.A7 k.N7 b ([]:List F7)) g).bind λ(l,e)=>
  bif e then
   (apL c [l]).bind λh=>
   (J5 (d+1)).bind λn=>
   some (inl (a,b,h,n))
  else
   (J5 (d+1)).bind λi=>
   some (inl (a,b,c,i))
 else
  some (inr (a,b,c))
def A4Y (h:R6) (g:Q5):((List D7)×(List Int)×(List F7)×Int)→Option (((List D7)×(List Int)×(List F7)×Int)⊕((List D7)×(List Int)×(List F7))):=λ(a,b,c,d)=>
 (
  bif decide (d<(h.J9.length:Int)) then
   some (decide (d<12))
  else
   some false).bind λe=>
 B1q h g a b c d e
def B5u (j:R6) (h:Int) (d:List D7):Option (C9):=
 (
  (sbL j.A7 0 (min (j.A7.length:Int) h)).bind λl=>
  (B2F l j.N7).bind λm=>
  some m).bind λi=>
 (U9 (j.N7.length:Int) 4).bind λk=>
 (
  bif decide (0<k) then
   (
    iter (A5i j i) FUEL (([]:List Int),0)).bind λe=>
   some e
  else
   some ([]:List Int)).bind λb=>
 (
  iter (A4Y j i) FUEL (d,b,([]:List F7),0)).bind λ(a,c,g)=>
 some (C9.mk a i.A7 i.N7 c g)
def A1D (m:R6):((List D7)×Int×Int)→Option (((List D7)×Int×Int)⊕(Int×(List D7))):=λ(a,b,d)=>
 (
  bif decide (d<(m.C8.length:Int)) then
   some (decide (d<3))
  else
   some false).bind λi=>
 bif i then
  (G7 m.C8 d).bind λk=>
  (A0Q .i64 k).bind λh=>
  (A3a d h).bind λc=>
  (apL a [c]).bind λe=>
  (A1n (D7.mk c.F8 c.P8 c.fA c.fB ([]:List Int) c.fX c.fY)).bind λg=>
  (J5 (b+g)).bind λl=>
  (J5 (d+1)).bind λj=>
  some (inl (e,l,j))
 else
  some (inr (b,a))
def A9U (c:R6):Option (C9):=
 (
   iter (A1D c) FUEL (([]:List D7),0,0)).bind λ(b,a)=>
 B5u c b a
def B1K (o:C9) (c:Int) (b:Int):Option ((Int×Int)⊕Int):=
 (G7 o.C8 b).bind λa=>
 bif decide (a.P8=2) then
  (J5 (2*a.fA)).bind λe=>
  (J5 (e+a.fB)).bind λn=>
  (J5 (c+n)).bind λd=>
  (J5 (b+1)).bind λh=>
  some (inl (d,h))
 else
  bif decide (a.P8=3) then
   (J5 (2*a.fB)).bind λi=>
   (J5 (a.fA+i)).bind λj=>
   (J5 (c+j)).bind λk=>
   (J5 (b+1)).bind λm=>
   some (inl (k,m))
  else
   (J5 (c+a.fA)).bind λl=>
   (J5 (b+1)).bind λg=>
   some (inl (l,g))
def A2U (c:C9):(Int×Int)→Option ((Int×Int)⊕Int):=λ(b,a)=>
 bif decide (a<(c.C8.length:Int)) then
  B1K c b a
 else
  some (inr b)
def A8c (b:C9):Option (Int):=
 (
   iter (A2U b) FUEL (0,0)).bind λa=>
 some a
def A6K (j:R6) (c:Int):(Int×Int)→Option ((Int×Int)⊕Int):=λ(b,a)=>
 bif decide (a<(j.A7.length:Int)) then
  bif decide (a<c) then
   (J5 (c - a)).bind λe=>
   (J5 (b*e)).bind λg=>
   bif decide (g≤800) then
    (J5 (c - a)).bind λh=>
    (J5 (b*h)).bind λd=>
    (J5 (a+1)).bind λi=>
    some (inl (d,i))
   else
    some (inr a)
  else
   some (inr a)
 else
  some (inr a)
def B0W (b:R6):Option (C9):=
 (sbL b.C8 0 (min (b.C8.length:Int) 2)).bind λc=>
 (A9U (R6.mk c ([]:List Int) ([]:List Int) ([]:List Int))).bind λh=>
 (A8c h).bind λd=>
 (
   iter (A6K b d) FUEL (1,0)).bind λa=>
 (sbL b.A7 0 a).bind λe=>
 (A9U (R6.mk c e b.N7 b.J9)).bind λg=>
 some g
def B0T (a:List F7):Option (C9):=
 some (C9.mk [(D7.mk (⟨#[114]⟩:ByteArray) 1 4 0 ([]:List Int) 0 0)] [(E9.mk (⟨#[97,110,110,97]⟩:ByteArray) (⟨#[]⟩:ByteArray) (⟨#[]⟩:ByteArray) 0 0 (⟨#[]⟩:ByteArray) false false ([]:List ByteArray)),(E9.mk (⟨#[98,111,114,105,115]⟩:ByteArray) (⟨#[]⟩:ByteArray) (⟨#[]⟩:ByteArray) 0 0 (⟨#[]⟩:ByteArray) false false ([]:List ByteArray)),(E9.mk (⟨#[99,97,114,108]⟩:ByteArray) (⟨#[]⟩:ByteArray) (⟨#[]⟩:ByteArray) 0 0 (⟨#[]⟩:ByteArray) false false ([]:List ByteArray))] ([]:List H9) ([]:List Int) a)
end Go.Dm
open Go Go.Sl Sum
namespace Go.Dm
def A4E (e:ByteArray):Int→Option (Int⊕(Unit⊕Bool)):=λc=>
 bif decide (c<(e.size:Int)) then
  (B9s e c).bind λa=>
  bif decide (a<97) then
   some (inr (inr false))
  else
   (B9s e c).bind λb=>
   bif decide (122<b) then
    some (inr (inr false))
   else
    (J5 (c+1)).bind λd=>
    some (inl d)
 else
  some (inr (inl ()))
def B4G (a:ByteArray):Option (Bool):=
 (
   iter (A4E a) FUEL 0).bind λb=>match b with
 | .inl _u=>
   bif decide (1≤(a.size:Int)) then
     some (decide ((a.size:Int)≤12))
   else
     some false
 | .inr p=>
   some p
def B1t (c:Int) (b:Int):Option (Int):=
 (J5 (c+(min b 1))).bind λa=>
 some a
def A3t (a:Int) (b:Int):Option (Int):=
 bif decide (a<1) then
   some 0
 else
   bif decide (24<a) then
     some 0
   else
     bif !decide (b=0) then
       some 0
     else
       some a
def A4m (b:Int) (a:Int):Option (Int):=
 bif decide (b<1) then
   some 0
 else
   bif decide (11<b) then
     some 0
   else
     bif decide (a<0) then
       some 0
     else
       bif decide (2<a) then
         some 0
       else
         (J5 (2*b)).bind λc=>
         (J5 (c+a)).bind λd=>
         some d
def A3U (b:Int) (a:Int):Option (Int):=
 bif decide (b<1) then
   some 0
 else
   bif decide (8<b) then
     some 0
   else
     bif decide (a<1) then
       some 0
     else
       bif decide (8<a) then
         some 0
       else
         (J5 (2*a)).bind λc=>
         (J5 (b+c)).bind λd=>
         some d
def A5s (a:Int) (b:Int):Option (Int):=
 bif decide (a<1) then
   some 0
 else
   bif decide (24<a) then
     some 0
   else
     bif decide (b<0) then
       some 0
     else
       bif decide (a<b) then
         some 0
       else
         some a
def A2O (g:Int) (h:Int) (b:Int) (a:Int):Option (Bool):=
 (J5 (a - b)).bind λd=>
 bif decide (d=1) then
   some true
 else
   (J5 (a - b)).bind λe=>
   (J5 (g - 1)).bind λc=>
   some (decide (e=c))
def A2S (a:Int) (h:Int) (g:Int) (b:Int):Option (Bool):=
 (U9 a 2).bind λd=>
 bif decide (d=0) then
   (J5 (b - g)).bind λe=>
   (A5K a 2).bind λc=>
   some (decide (e=c))
 else
   some false
def A9G (j:Int) (k:Int) (a:Int) (b:Int) (l:Int) (g:Bool):Option (Bool):=
 bif g then
  (
   bif decide (a=0) then
    some true
   else
    (J5 (b - 1)).bind λi=>
    some (decide (a=i))).bind λc=>
  some c
 else
  (
   bif decide (0<k) then
    bif decide (a=j) then
     some true
    else
     some (decide (b=j))
   else
    some false).bind λd=>
  bif d then
   (J5 (b - a)).bind λe=>
   some (decide (e=1))
  else
   (J5 (b - a)).bind λh=>
   bif decide (h=1) then
    bif decide (b<j) then
     some true
    else
     some (decide (l≤a))
   else
    some false
def A3z (d:Int) (c:Int) (i:Int) (g:Int):Option (Bool):=
 (B1t d c).bind λh=>
 (
   bif decide (c=2) then
     (J5 (2*d)).bind λb=>
     (J5 (b+1)).bind λe=>
     some (decide (g=e))
   else
     some false).bind λa=>
 A9G d c i g h a
def A3w (a:Int) (k:Int) (i:Int) (j:Int):Option (Bool):=
 (
   bif decide (k=2) then
     (J5 (2*a)).bind λe=>
     (J5 (e+1)).bind λc=>
     some (decide (j=c))
   else
     some false).bind λl=>
 bif l then
   some (decide (i=a))
 else
   bif decide (i<a) then
     (J5 (i+j)).bind λg=>
     (B1t a k).bind λh=>
     (J5 (h+a)).bind λd=>
     (J5 (d - 1)).bind λb=>
     some (decide (g=b))
   else
     some false
def A3x (a:Int) (b:Int):Option (Int):=
 bif decide (0<b) then
   some a
 else
   (A5K a 2).bind λc=>
   some c
def A3A (e:Int) (d:Int) (c:Int) (a:Int):Option (Bool):=
 (J5 (a - c)).bind λb=>
 some (decide (b=1))
def A3D (h:Int) (a:Int) (b:Int) (c:Int):Option (Bool):=
 bif decide (b<a) then
   (J5 (b+c)).bind λi=>
   (J5 (2*a)).bind λg=>
   (J5 (h+g)).bind λe=>
   (J5 (e - 1)).bind λd=>
   some (decide (i=d))
 else
   some false
def A3W (g:Int) (b:Int) (e:Int) (a:Int):Option (Bool):=
 (J5 (a - e)).bind λd=>
 bif decide (d=1) then
   bif decide (b=0) then
     some true
   else
     (U9 a b).bind λc=>
     some (!decide (c=0))
 else
   some false
def A6b (a:Int):Option (Int):=
 some a
def B7X (b:Int) (a:Int):Option (Int):=
 some 0
def B4F (c:Int) (b:Int):Option (Int):=
 (A5K c 2).bind λa=>
 (J5 (b+a)).bind λd=>
 some d
def B8k (d:Int) (b:Int) (a:Int) (c:Int):Option (Bool):=
 some false
def B4A (b:Int) (c:Int):Option (Int):=
 (A5K b 2).bind λa=>
 some a
def A7w (a:Int) (c:Int) (e:Int):Option (Int):=
 (J5 (a+c)).bind λb=>
 (U9 b e).bind λd=>
 some d
def A7s (b:Int) (d:Int) (a:Int):Option (Int):=
 (J5 (d - b)).bind λc=>
 (J5 (c+a)).bind λe=>
 (U9 e a).bind λg=>
 some g
def A9E (c:Int):((List (Int→Option Int))×Int)→Option (((List (Int→Option Int))×Int)⊕(List (Int→Option Int))):=λ(a,b)=>
 bif decide (b<c) then
  (apL a [(λe=>A7w e b c),(λe=>A7s e b c)]).bind λd=>
  (J5 (b+1)).bind λg=>
  some (inl (d,g))
 else
  some (inr a)
def A8R (b:Int) (c:Int):Option (List (Int→Option Int)):=
 (
   iter (A9E b) FUEL (([]:List (Int→Option Int)),0)).bind λa=>
 some a
def R4 (a:Int) (b:Int) (d:Int):Option (Bool):=
 bif decide (0<b) then
   bif decide (a=d) then
     some true
   else
     bif decide (b=2) then
       (J5 (2*d)).bind λh=>
       (J5 (h+1)).bind λg=>
       some (decide (a=g))
     else
       some false
 else
   bif decide (b=2) then
     (J5 (2*d)).bind λe=>
     (J5 (e+1)).bind λc=>
     some (decide (a=c))
   else
     some false
def A1u (a:Int) (e:Int→Option Bool) (g:Int) (i:Int):Option (Int):=
 (e a).bind λh=>
 bif h then
   some a
 else
   (J5 (g+i)).bind λd=>
   (J5 (d - 1)).bind λc=>
   (J5 (c - a)).bind λb=>
   some b
def A1Z (a:Int) (m:Int→Option Bool) (b:Int) (o:Int):Option (Int):=
 (m a).bind λn=>
 bif n then
   (J5 (3*b)).bind λk=>
   (J5 (k+1)).bind λe=>
   (J5 (e - a)).bind λd=>
   some d
 else
   bif decide (a<b) then
     (J5 (b - 1)).bind λi=>
     (J5 (i - a)).bind λj=>
     some j
   else
     (J5 (2*o)).bind λc=>
     (J5 (c+b)).bind λl=>
     (J5 (l - 1)).bind λg=>
     (J5 (g - a)).bind λh=>
     some h
def A8O (b:Int) (d:Int→Option Int) (e:Int→Option Int):Option (Int):=
 (e b).bind λc=>
 (d c).bind λa=>
 some a
def A9M (c:Int) (d:Int):Option (List (Int→Option Int)):=
 (B1t c d).bind λb=>
 bif !decide (d=1) then
   (apL [A6b,(λa=>A1u a (λa=>R4 a d c) b c)] [(λa=>A1Z a (λa=>R4 a d c) c b),(λa=>A8O a (λa=>A1u a (λa=>R4 a d c) b c) (λa=>A1Z a (λa=>R4 a d c) c b))]).bind λe=>
   some e
 else
   some [A6b,(λa=>A1u a (λa=>R4 a d c) b c)]
def A8N (a:Int) (c:Int) (e:Int):Option (Int):=
 (J5 (2*e)).bind λb=>
 (J5 (c+b)).bind λd=>
 (J5 (d - 1)).bind λh=>
 (J5 (h - a)).bind λg=>
 some g
def A9H (b:Int) (a:Int):Option (List (Int→Option Int)):=
 some [A6b,(λc=>A8N c b a)]
def A9Q (a:Int) (c:Int):Option (Int):=
 (J5 (c - 1)).bind λb=>
 (J5 (b - a)).bind λd=>
 some d
def B1l (a:Int) (c:Int):Option (List (Int→Option Int)):=
 some [A6b,(λb=>A9Q b a)]
def B1z (a:Int):Option (A1s×Bool):=
 bif decide (a=3) then
  some ((A1s.mk (⟨#[104,111,114,115,101,115,104,111,101]⟩:ByteArray) A3U A3A A3D B4F A9H),true)
 else
  bif decide (a=4) then
   some ((A1s.mk (⟨#[114,111,119]⟩:ByteArray) A5s A3W B8k B4A B1l),true)
  else
   some ((A1s.mk (⟨#[]⟩:ByteArray) (λ_ _=>none) (λ_ _ _ _=>none) (λ_ _ _ _=>none) (λ_ _=>none) (λ_ _=>none)),false)
def X5 (a:Int):Option (A1s×Bool):=
 bif decide (a=1) then
   some ((A1s.mk (⟨#[114,111,117,110,100]⟩:ByteArray) A3t A2O A2S B7X A8R),true)
 else
   bif decide (a=2) then
     some ((A1s.mk (⟨#[108,111,110,103]⟩:ByteArray) A4m A3z A3w A3x A9M),true)
   else
     B1z a
def A2N (a:D7):Option (Int):=
 (X5 a.P8).bind λ(d,c)=>
 bif !c then
   some 0
 else
   (d.C6Q a.fA a.fB).bind λb=>
   some b
def A4e (a:D7) (b:Int) (d:Int):Option (Bool):=
 (X5 a.P8).bind λ(e,g)=>
 bif !decide (b=d) then
   (e.W9 a.fA a.fB (min b d) (max b d)).bind λc=>
   some c
 else
   some false
def A4p (a:D7) (b:Int) (d:Int):Option (Bool):=
 (X5 a.P8).bind λ(e,g)=>
 bif !decide (b=d) then
   (e.A0s a.fA a.fB (min b d) (max b d)).bind λc=>
   some c
 else
   some false
def B4M (c:D7) (d:Int) (e:Int):Option (Bool):=
 (A4e c d e).bind λa=>
 bif a then
   some true
 else
   (A4p c d e).bind λb=>
   some b
def B5g (p:D7) (j:Int) (c:List Int) (a:Int) (b:List Int):Option (((List Int)×Int×(List Int))⊕((List Int)×(List Int))):=
 (G7 c a).bind λk=>
 (
  bif decide (k<0) then
   (B4M p j a).bind λe=>
   some e
  else
   some false).bind λn=>
 bif n then
  (G7 c j).bind λl=>
  (J5 (l+1)).bind λh=>
  (G7 c a).bind λo=>
  (some (List.set c a.toNat h)).bind λi=>
  (apL b [a]).bind λg=>
  (J5 (a+1)).bind λm=>
  some (inl (i,m,g))
 else
  (J5 (a+1)).bind λd=>
  some (inl (c,d,b))
def A7M (g:D7) (d:List Int) (e:Int):((List Int)×Int×(List Int))→Option (((List Int)×Int×(List Int))⊕((List Int)×(List Int))):=λ(b,c,a)=>
 bif decide (c<(d.length:Int)) then
  B5g g e b c a
 else
  some (inr (b,a))
def A8q (h:D7):((List Int)×(List Int))→Option (((List Int)×(List Int))⊕(List Int)):=λ(b,a)=>
 bif decide (0<(a.length:Int)) then
  (G7 a 0).bind λg=>
  (sbL a 1 (a.length:Int)).bind λe=>
  (
   iter (A7M h b g) FUEL (b,0,e)).bind λ(d,c)=>
  some (inl (d,c))
 else
  some (inr b)
def A3H (d:List Int):(Int×(List Int))→Option ((Int×(List Int))⊕(List Int)):=λ(b,a)=>
 bif decide (b<(d.length:Int)) then
  (G7 a b).bind λg=>
  (some (List.set a b.toNat (-1))).bind λe=>
  (J5 (b+1)).bind λc=>
  some (inl (c,e))
 else
  some (inr a)
def B2t (g:D7) (a:Int):Option (List Int):=
 (A2N g).bind λi=>
 (mkL i 0).bind λd=>
 (
   iter (A3H d) FUEL (0,d)).bind λb=>
 (G7 b a).bind λh=>
 (some (List.set b a.toNat 0)).bind λe=>
 (
   iter (A8q g) FUEL (e,[a])).bind λc=>
 some c
def A6J (e:List Int):((List Int)×Int)→Option (((List Int)×Int)⊕(List Int)):=λ(a,b)=>
 bif decide (b<(e.length:Int)) then
  (G7 a b).bind λc=>
  bif decide (c<0) then
   (G7 a b).bind λi=>
   (some (List.set a b.toNat (a.length:Int))).bind λd=>
   (J5 (b+1)).bind λh=>
   some (inl (d,h))
  else
   (J5 (b+1)).bind λg=>
   some (inl (a,g))
 else
  some (inr a)
def A3V (b:D7):Option (List Int):=
 (X5 b.P8).bind λ(e,g)=>
 (e.B9M b.fA b.fB).bind λc=>
 (B2t b c).bind λa=>
 (
   iter (A6J a) FUEL (a,0)).bind λd=>
 some d
def A1z (e:D7) (g:Int):(Int×Int)→Option ((Int×Int)⊕(Unit⊕Int)):=λ(b,a)=>
 bif decide (b<(e.A2Y.length:Int)) then
  (G7 e.A2Y b).bind λc=>
  bif decide (c≤a) then
   some (inr (inr 11))
  else
   bif decide (g≤c) then
    some (inr (inr 11))
   else
    (J5 (b+1)).bind λd=>
    some (inl (d,c))
 else
  some (inr (inl ()))
def B5f (a:D7) (c:Int):Option (Int):=
 bif decide (c=0) then
  some 10
 else
  (
   iter (A1z a c) FUEL (0,(-1))).bind λb=>match b with
  | .inl _u=>
   bif decide (a.fX<0) then
    some 2
   else
    bif decide (1000<a.fX) then
     some 2
    else
     bif decide (a.fY<0) then
      some 2
     else
      bif decide (1000<a.fY) then
       some 2
      else
       some 0
  | .inr p=>
   some p
def A5T (a:D7):Option (Int):=
 (A2N a).bind λc=>
 (B4G a.F8).bind λb=>
 bif !b then
   some 4
 else
   B5f a c
def A6D (a:D7) (b:D7):Option (Bool):=
 some (decide (a.F8=b.F8))
def A4J (h:List D7):Int→Option (Int⊕(Unit⊕(Int×Int))):=λa=>
 bif decide (a<(h.length:Int)) then
  (G7 h a).bind λc=>
  (A5T c).bind λb=>
  bif !decide (b=0) then
   some (inr (inr (a,b)))
  else
   (sbL h 0 a).bind λg=>
   (A4a g (λi=>A6D i c)).bind λd=>
   bif d then
    some (inr (inr (a,5)))
   else
    (J5 (a+1)).bind λe=>
    some (inl e)
 else
  some (inr (inl ()))
def A5w (a:List D7):Option (Int×Int):=
 bif decide (16<(a.length:Int)) then
   some (0,7)
 else
   (
     iter (A4J a) FUEL 0).bind λb=>match b with
   | .inl _u=>
     some (0,0)
   | .inr p=>
     some p
def B2K (a:D7) (b:ByteArray):Option (Bool):=
 some (decide (a.F8=b))
def A3q (a:List D7):Option (Bool):=
 (A5w a).bind λ(c,b)=>
 some (decide (b=0))
def A3I (c:List D7):(Int×Int)→Option ((Int×Int)⊕Int):=λ(a,b)=>
 bif decide (a<(c.length:Int)) then
  (G7 c a).bind λh=>
  (A2N h).bind λg=>
  (J5 (b+g)).bind λe=>
  (J5 (a+1)).bind λd=>
  some (inl (d,e))
 else
  some (inr b)
def A2n (d:List D7) (b:Int):Option (Int):=
 (
   bif decide (b<0) then
     some true
   else
     bif decide ((d.length:Int)≤b) then
       some true
     else
       (A3q d).bind λe=>
       some (!e)).bind λg=>
 bif g then
   some 0
 else
   (sbL d 0 b).bind λc=>
   (
     iter (A3I c) FUEL (0,0)).bind λa=>
   some a
def A7U (a:List D7):Option (Int):=
 bif decide ((a.length:Int)=0) then
   some 0
 else
   (J5 ((a.length:Int) - 1)).bind λb=>
   (G7 a b).bind λd=>
   (A2N d).bind λc=>
   some c
def A2u (a:List D7):Option (Int):=
 (A3q a).bind λg=>
 bif !g then
   some 0
 else
   (J5 ((a.length:Int) - 1)).bind λe=>
   (A2n a e).bind λb=>
   (A7U a).bind λd=>
   (J5 (b+d)).bind λc=>
   some c
def A3L (h:List D7):(Int×Int)→Option ((Int×Int)⊕(Unit⊕(Int×Int×Bool))):=λ(a,b)=>
 bif decide (b<(h.length:Int)) then
  (G7 h b).bind λd=>
  (A2N d).bind λc=>
  bif decide (a<c) then
   some (inr (inr (b,a,true)))
  else
   (J5 (a - c)).bind λg=>
   (J5 (b+1)).bind λe=>
   some (inl (g,e))
 else
  some (inr (inl ()))
def A1P (c:List D7) (a:Int):Option (Int×Int×Bool):=
 (
   bif decide (a<0) then
     some true
   else
     (A3q c).bind λd=>
     some (!d)).bind λe=>
 bif e then
   some (0,0,false)
 else
   (
     iter (A3L c) FUEL (a,0)).bind λb=>match b with
   | .inl _u=>
     some (0,0,false)
   | .inr p=>
     some p
def B4L (d:List D7) (a:ByteArray):Option (Int×Bool):=
 (A2k d (λe=>B2K e a)).bind λb=>
 bif decide (b<0) then
   some (0,false)
 else
   (A3q d).bind λc=>
   bif !c then
     some (0,false)
   else
     some (b,true)
def B2J (b:D7):Option (Int):=
 (A5T b).bind λc=>
 bif !decide (c=0) then
   some 0
 else
   (A2N b).bind λa=>
   some a
def B4Q (c:List D7) (g:Int):Option (Bool):=
 (A1P c g).bind λ(d,h,e)=>
 bif e then
   (G7 c d).bind λa=>
   (A1g a.A2Y h).bind λb=>
   some b
 else
   some false
def B2A (d:List D7) (h:Int):Option (Int):=
 (A1P d h).bind λ(e,i,g)=>
 bif !g then
   some 0
 else
   (G7 d e).bind λb=>
   (A3V b).bind λc=>
   (G7 c i).bind λa=>
   some a
def A9w (g:List D7) (j:Int) (i:Int):Option (D7×Int×Int×Bool):=
 (A1P g j).bind λ(h,l,k)=>
 (A1P g i).bind λ(b,d,c)=>
 (
   bif !k then
     some true
   else
     bif !c then
       some true
     else
       some (!decide (h=b))).bind λe=>
 bif e then
   some ((D7.mk (⟨#[]⟩:ByteArray) 0 0 0 ([]:List Int) 0 0),0,0,false)
 else
   (G7 g h).bind λa=>
   some (a,l,d,true)
def B0M (i:List D7) (c:Int) (e:Int):Option (Bool):=
 (A9w i c e).bind λ(g,b,h,d)=>
 bif d then
   (A4e g b h).bind λa=>
   some a
 else
   some false
def B0X (i:List D7) (c:Int) (e:Int):Option (Bool):=
 (A9w i c e).bind λ(g,b,h,d)=>
 bif d then
   (A4p g b h).bind λa=>
   some a
 else
   some false
end Go.Dm
open Go Go.Sl Sum
namespace Go.Dm
def B1e (e:ByteArray):Int→Option (Int⊕(Unit⊕Bool)):=λa=>
 bif decide (a<(e.size:Int)) then
  (B9s e a).bind λb=>
  bif decide (b<97) then
   some (inr (inr false))
  else
   (B9s e a).bind λc=>
   bif decide (122<c) then
    some (inr (inr false))
   else
    (J5 (a+1)).bind λd=>
    some (inl d)
 else
  some (inr (inl ()))
def A7D (b:ByteArray):Option (Bool):=
 (
   bif decide ((b.size:Int)=0) then
     some true
   else
     some (decide (12<(b.size:Int)))).bind λc=>
 bif c then
   some false
 else
   (
     iter (B1e b) FUEL 0).bind λa=>match a with
   | .inl _u=>
     some true
   | .inr p=>
     some p
def A7q (a:ByteArray):Option (Bool):=
 bif decide (a=(⟨#[]⟩:ByteArray)) then
   some true
 else
   (A7D a).bind λb=>
   some b
def B4f (i:E9) (a:Int):Option (Int⊕(Unit⊕Int)):=
 (G7 i.O6 a).bind λb=>
 (A7D b).bind λg=>
 bif !g then
  some (inr (inr 22))
 else
  bif decide (0<a) then
   (J5 (a - 1)).bind λe=>
   (G7 i.O6 e).bind λh=>
   bif !sLt h b then
    some (inr (inr 22))
   else
    (J5 (a+1)).bind λd=>
    some (inl d)
  else
   (J5 (a+1)).bind λc=>
   some (inl c)
def A4i (b:E9):Int→Option (Int⊕(Unit⊕Int)):=λa=>
 bif decide (a<(b.O6.length:Int)) then
  B4f b a
 else
  some (inr (inl ()))
def B3O (a:E9):Option (Int):=
 (
  bif decide (a.A0o<0) then
   some true
  else
   some (decide (9999<a.A0o))).bind λd=>
 bif d then
  some 21
 else
  (
   bif decide (a.A0y<0) then
    some true
   else
    some (decide (2<a.A0y))).bind λc=>
  bif c then
   some 20
  else
   bif decide (4<(a.O6.length:Int)) then
    some 22
   else
    (
     iter (A4i a) FUEL 0).bind λb=>match b with
    | .inl _u=>
     some 0
    | .inr p=>
     some p
def B0F (a:E9):Option (Int):=
 (
   (A7D a.F8).bind λb=>
   bif !b then
     some true
   else
     (A7q a.A2b).bind λe=>
     bif !e then
       some true
     else
       (A7q a.V6).bind λc=>
       bif !c then
         some true
       else
         (A7q a.A0z).bind λd=>
         some (!d)).bind λg=>
 bif g then
   some 4
 else
   B3O a
def A9o (a:E9):Option (E9):=
 (A3X a.O6).bind λb=>
 some (E9.mk a.F8 a.A2b a.V6 a.A0o a.A0y a.A0z a.X7 a.Y4 b)
def bytealg_CompareString (b:ByteArray) (a:ByteArray):Option (Int):=
 some (B9t b a)
def strings_Compare (c:ByteArray) (b:ByteArray):Option (Int):=
 (bytealg_CompareString c b).bind λa=>
 some a
def A1a (d:H9) (c:H9):Option (Int):=
 (strings_Compare d.fA c.fA).bind λa=>
 bif !decide (a=0) then
   some a
 else
   (strings_Compare d.fB c.fB).bind λb=>
   some b
def A7z (b:ByteArray) (a:ByteArray) (c:Int):Option (H9):=
 some (H9.mk (minS b a) (maxS b a) c)
def B4K  : Option (K8):=
 some (K8.mk (R9.mk ([]:List E9) ([]:List H9)) ([]:List (ByteArray×Int)))
def A4t (a:K8):Option (Bool):=
 some false
def A0V (m:List H9) (a:H9) (e:H9→H9→Option Int):(Int×Int)→Option ((Int×Int)⊕Int):=λ(c,b)=>
 bif decide (b<c) then
  (J5 (b+c)).bind λk=>
  (A0Q .u64 k).bind λi=>
  (A3S .u64 i 1).bind λl=>
  (A0Q .i64 l).bind λd=>
  (G7 m d).bind λh=>
  (e h a).bind λj=>
  bif decide (j<0) then
   (J5 (d+1)).bind λg=>
   some (inl (c,g))
  else
   some (inl (d,b))
 else
  some (inr b)
def B1E (d:List H9) (a:H9) (c:H9→H9→Option Int):Option (Int×Bool):=
 (
   iter (A0V d a c) FUEL ((d.length:Int),0)).bind λb=>
 bif decide (b<(d.length:Int)) then
   (G7 d b).bind λe=>
   (c e a).bind λg=>
   some (b,decide (g=0))
 else
   some (b,false)
def B8C (a:List H9) (c:Int) (b:List H9):Option (List H9):=
 (bdV c (a.length:Int) (a.length:Int)).bind λg=>
 bif decide ((b.length:Int)=0) then
   some a
 else
   bif decide (c=(a.length:Int)) then
     (apL a b).bind λd=>
     some d
   else
     (J5 ((a.length:Int)+(b.length:Int))).bind λe=>
     none
def A2A (g:K8) (b:ByteArray) (a:ByteArray):Option (Int×Bool):=
 (A7z b a 0).bind λc=>
 (B1E g.K4.A0F c A1a).bind λ(d,e)=>
 some (d,e)
def B8U (a:K8) (g:E9):Option (Int×K8):=
 (lkM a.fat g.F8 0).bind λ(h,b)=>
 bif b then
  some (5,(K8.mk (R9.mk a.K4.U6 a.K4.A0F) a.fat))
 else
  bif decide ((a.K4.U6.length:Int)=64) then
   some (7,(K8.mk (R9.mk a.K4.U6 a.K4.A0F) a.fat))
  else
   (some (A2z a.fat g.F8 (a.K4.U6.length:Int))).bind λe=>
   (A9o g).bind λc=>
   (apL a.K4.U6 [c]).bind λd=>
   some (0,(K8.mk (R9.mk d a.K4.A0F) e))
def C0w (a:K8) (d:E9):Option (Int×K8):=
 (A4t (K8.mk (R9.mk a.K4.U6 a.K4.A0F) a.fat)).bind λc=>
 bif c then
   some (1,(K8.mk (R9.mk a.K4.U6 a.K4.A0F) a.fat))
 else
   (B0F d).bind λb=>
   bif !decide (b=0) then
     some (b,(K8.mk (R9.mk a.K4.U6 a.K4.A0F) a.fat))
   else
     B8U a d
def A6i (b:K8) (c:ByteArray) (a:ByteArray) (d:Int):Option (Int×K8):=
 (A2A (K8.mk (R9.mk b.K4.U6 b.K4.A0F) b.fat) c a).bind λ(i,h)=>
 bif h then
  some (5,(K8.mk (R9.mk b.K4.U6 b.K4.A0F) b.fat))
 else
  bif decide ((b.K4.A0F.length:Int)=256) then
   some (7,(K8.mk (R9.mk b.K4.U6 b.K4.A0F) b.fat))
  else
   (A7z c a d).bind λg=>
   (B8C b.K4.A0F i [g]).bind λe=>
   some (0,(K8.mk (R9.mk b.K4.U6 e) b.fat))
def A8M (e:K8) (b:ByteArray) (a:ByteArray):Int→Option (Int⊕(Unit⊕(Int×K8))):=λc=>
 bif decide (c<([b,a].length:Int)) then
  (G7 [b,a] c).bind λg=>
  (lkM e.fat g 0).bind λ(i,d)=>
  bif !d then
   some (inr (inr (6,(K8.mk (R9.mk e.K4.U6 e.K4.A0F) e.fat))))
  else
   (J5 (c+1)).bind λh=>
   some (inl h)
 else
  some (inr (inl ()))
def B7F (d:K8) (c:ByteArray) (a:ByteArray) (b:Int):Option (Int×K8):=
 (A4t (K8.mk (R9.mk d.K4.U6 d.K4.A0F) d.fat)).bind λe=>
 bif e then
   some (1,(K8.mk (R9.mk d.K4.U6 d.K4.A0F) d.fat))
 else
   (
     bif !decide (b=1) then
       bif !decide (b=2) then
         some true
       else
         some (decide (c=a))
     else
       some (decide (c=a))).bind λg=>
   bif g then
     some (23,(K8.mk (R9.mk d.K4.U6 d.K4.A0F) d.fat))
   else
     (
       iter (A8M d c a) FUEL 0).bind λh=>match h with
     | .inl _u=>
       A6i d c a b
     | .inr p=>
       some p
def B5P (n:Q5) (a:List E9) (b:List H9) (d:List (ByteArray×Int)) (c:Int) (e:H9) (l:Bool):Option (((List E9)×(List H9)×(List (ByteArray×Int))×Int)⊕(((List E9)×(List H9)×(List (ByteArray×Int)))⊕((Option K8)×Int×Int))):=
 bif l then
  (B7F (K8.mk (R9.mk a b) d) e.fA e.fB e.F9).bind λ(h,g)=>
  bif !decide (h=0) then
   (J5 ((n.A7.length:Int)+c)).bind λi=>
   some (inr (inr ((none),i,h)))
  else
   (J5 (c+1)).bind λm=>
   some (inl (g.K4.U6,g.K4.A0F,g.fat,m))
 else
  bif !decide (23=0) then
   (J5 ((n.A7.length:Int)+c)).bind λj=>
   some (inr (inr ((none),j,23)))
  else
   (J5 (c+1)).bind λk=>
   some (inl (a,b,d,k))
def A2B (k:Q5):((List E9)×(List H9)×(List (ByteArray×Int))×Int)→Option (((List E9)×(List H9)×(List (ByteArray×Int))×Int)⊕(((List E9)×(List H9)×(List (ByteArray×Int)))⊕((Option K8)×Int×Int))):=λ(a,c,e,b)=>
 bif decide (b<(k.N7.length:Int)) then
  (G7 k.N7 b).bind λd=>
  (
   bif sLt d.fA d.fB then
    bif decide (b=0) then
     some true
    else
     (J5 (b - 1)).bind λi=>
     (G7 k.N7 i).bind λj=>
     (A1a j d).bind λg=>
     some (decide (g≤0))
   else
    some false).bind λh=>
  B5P k a c e b d h
 else
  some (inr (inl (a,c,e)))
def A2o (j:Q5):((List E9)×(List H9)×(List (ByteArray×Int))×Int)→Option (((List E9)×(List H9)×(List (ByteArray×Int))×Int)⊕(((List E9)×(List H9)×(List (ByteArray×Int)))⊕((Option K8)×Int×Int))):=λ(a,b,d,c)=>
 bif decide (c<(j.A7.length:Int)) then
  (G7 j.A7 c).bind λi=>
  (C0w (K8.mk (R9.mk a b) d) i).bind λ(g,e)=>
  bif !decide (g=0) then
   some (inr (inr ((none),c,g)))
  else
   (J5 (c+1)).bind λh=>
   some (inl (e.K4.U6,e.K4.A0F,e.fat,h))
 else
  some (inr (inl (a,b,d)))
def A7E (d:Q5):Option ((Option K8)×Int×Int):=
 B4K.bind λa=>
 (
   iter (A2o d) FUEL (a.K4.U6,a.K4.A0F,a.fat,0)).bind λc=>match c with
 | .inl (guests49,ties54,at59)=>
   (
     iter (A2B d) FUEL (guests49,ties54,at59,0)).bind λb=>match b with
   | .inl (guests124,ties129,at134)=>
     some ((some (K8.mk (R9.mk guests124 ties129) at134)),0,0)
   | .inr p=>
     some p
 | .inr p=>
   some p
def A5D (d:Q5):Option (Int×Int):=
 (A7E d).bind λ(c,b,a)=>
 some (b,a)
end Go.Dm
open Go Go.Sl Sum
namespace Go.Dm
def B1g (a:E9):Option (E9):=
 (A3X a.O6).bind λb=>
 some (E9.mk a.F8 a.A2b a.V6 a.A0o a.A0y a.A0z a.X7 a.Y4 b)
def B1u (e:K8) (b:ByteArray):Option (E9×Bool):=
 (A4t e).bind λh=>
 bif h then
   some ((E9.mk (⟨#[]⟩:ByteArray) (⟨#[]⟩:ByteArray) (⟨#[]⟩:ByteArray) 0 0 (⟨#[]⟩:ByteArray) false false ([]:List ByteArray)),false)
 else
   (lkM e.fat b 0).bind λ(g,c)=>
   bif !c then
     some ((E9.mk (⟨#[]⟩:ByteArray) (⟨#[]⟩:ByteArray) (⟨#[]⟩:ByteArray) 0 0 (⟨#[]⟩:ByteArray) false false ([]:List ByteArray)),false)
   else
     (G7 e.K4.U6 g).bind λd=>
     (B1g d).bind λa=>
     some ((E9.mk a.F8 a.A2b a.V6 a.A0o a.A0y a.A0z a.X7 a.Y4 a.O6),true)
def A4I (a:ByteArray) (c:E9):Option (Bool):=
 (A6u c.O6 a).bind λb=>
 some (!b)
def B0K (g:K8) (c:ByteArray) (b:ByteArray):Option (List ByteArray):=
 (B1u g c).bind λ(i,j)=>
 (B1u g b).bind λ(a,d)=>
 bif !j then
   some ([]:List ByteArray)
 else
   bif !d then
     some ([]:List ByteArray)
   else
     (A2J i.O6 (λh=>A4I h (E9.mk a.F8 a.A2b a.V6 a.A0o a.A0y a.A0z a.X7 a.Y4 a.O6))).bind λe=>
     some e
def B4D (g:K8) (b:ByteArray) (a:ByteArray):Option (Int×Bool):=
 (A4t g).bind λh=>
 bif h then
   some (0,false)
 else
   (A2A g b a).bind λ(d,c)=>
   bif !c then
     some (0,false)
   else
     (G7 g.K4.A0F d).bind λe=>
     some (e.F9,true)
end Go.Dm
open Go Go.Sl Sum
namespace Go.Dm
def B6R (e:ByteArray):Int→Option (Int⊕(Unit⊕Bool)):=λa=>
 bif decide (a<(e.size:Int)) then
  (B9s e a).bind λb=>
  bif decide (b<97) then
   some (inr (inr false))
  else
   (B9s e a).bind λc=>
   bif decide (122<c) then
    some (inr (inr false))
   else
    (J5 (a+1)).bind λd=>
    some (inl d)
 else
  some (inr (inl ()))
def A9s (b:ByteArray):Option (Bool):=
 (
   bif decide ((b.size:Int)=0) then
     some true
   else
     some (decide (12<(b.size:Int)))).bind λc=>
 bif c then
   some false
 else
   (
     iter (B6R b) FUEL 0).bind λa=>match a with
   | .inl _u=>
     some true
   | .inr p=>
     some p
def B2p (a:E9) (b:ByteArray):Option (Bool):=
 some (decide (a.F8=b))
def A0P (c:C9) (a:ByteArray):Option (Int):=
 (A3R c.A7 (λd=>B2p d a)).bind λb=>
 some b
def A8g (c:Int) (k:Int) (e:Int→Option Bool):((List Int)×Int)→Option (((List Int)×Int)⊕(List Int)):=λ(a,b)=>
 (J5 (c+k)).bind λd=>
 bif decide (b<d) then
  (e b).bind λj=>
  bif j then
   (apL a [b]).bind λi=>
   (J5 (b+1)).bind λh=>
   some (inl (i,h))
  else
   (J5 (b+1)).bind λg=>
   some (inl (a,g))
 else
  some (inr a)
def A9K (a:Int) (d:Int) (c:Int→Option Bool):Option (List Int):=
 (
   iter (A8g a d c) FUEL (([]:List Int),a)).bind λb=>
 some b
def A2P (i:List E9):((List E9)×Int)→Option (((List E9)×Int)⊕(List E9)):=λ(a,c)=>
 bif decide (c<(i.length:Int)) then
  (G7 a c).bind λh=>
  (A3X h.O6).bind λg=>
  (G7 a c).bind λb=>
  (some (List.set a c.toNat (E9.mk b.F8 b.A2b b.V6 b.A0o b.A0y b.A0z b.X7 b.Y4 g))).bind λe=>
  (J5 (c+1)).bind λd=>
  some (inl (e,d))
 else
  some (inr a)
def A2L (d:List D7):((List D7)×Int)→Option (((List D7)×Int)⊕(List D7)):=λ(a,c)=>
 bif decide (c<(d.length:Int)) then
  (G7 a c).bind λi=>
  (A0L i.A2Y).bind λe=>
  (G7 a c).bind λb=>
  (some (List.set a c.toNat (D7.mk b.F8 b.P8 b.fA b.fB e b.fX b.fY))).bind λg=>
  (J5 (c+1)).bind λh=>
  some (inl (g,h))
 else
  some (inr a)
def A8D (h:C9):Option (C9):=
 (A7P h.C8).bind λc=>
 (
   iter (A2L c) FUEL (c,0)).bind λb=>
 (A7H h.A7).bind λg=>
 (
   iter (A2P g) FUEL (g,0)).bind λa=>
 (B0I h.N7).bind λd=>
 (A0L h.R7).bind λi=>
 (A9j h.J9).bind λe=>
 some (C9.mk b a d i e)
def A6k (c:F5) (g:F7):Option (Int×Int×Bool):=
 (A0P c.F4.O9 g.fA).bind λb=>
 (A0P c.F4.O9 g.fB).bind λa=>
 (G7 c.Q4 b).bind λe=>
 bif decide (0≤e) then
   (G7 c.Q4 a).bind λd=>
   some (b,a,decide (0≤d))
 else
   some (b,a,false)
def B3w (b:F5) (h:Int) (i:Int):Option (Int×Bool):=
 (G7 b.Q4 h).bind λg=>
 (G7 b.F4.A3o g).bind λd=>
 (G7 b.Q4 i).bind λc=>
 (lkM d c 0).bind λ(e,a)=>
 some (e,a)
def A5v (h:F5) (g:Int) (b:List Int):Int→Option (Int⊕(Unit⊕Bool)):=λa=>
 bif decide (a<(b.length:Int)) then
  (G7 b a).bind λe=>
  (G7 h.Q4 g).bind λd=>
  bif decide (e=d) then
   some (inr (inr true))
  else
   (J5 (a+1)).bind λc=>
   some (inl c)
 else
  some (inr (inl ()))
def A1Q (d:F5) (e:List (List Int)) (g:Int) (h:Int):Option (Bool):=
 (G7 d.Q4 g).bind λb=>
 (G7 e b).bind λc=>
 (
   iter (A5v d h c) FUEL 0).bind λa=>match a with
 | .inl _u=>
   some false
 | .inr p=>
   some p
def A5Z (a:F5) (e:Int) (d:Int):Option (Bool):=
 (A1Q a a.F4.W9 e d).bind λc=>
 bif c then
   some true
 else
   (A1Q a a.F4.A0s e d).bind λb=>
   some b
def A4j (c:F5) (d:F7) (e:Int):Option (Bool):=
 bif decide (d.I5=(⟨#[]⟩:ByteArray)) then
   some true
 else
   (G7 c.F4.Z8 e).bind λb=>
   (G7 c.F4.O9.C8 b).bind λa=>
   some (decide (d.I5=a.F8))
def B2E {σ:Type} (a:F5) (o:F7) (q:σ→Int→(List Int)→Option σ) (c:σ):Option (σ):=
 (A6k a o).bind λ(e,d,n)=>
 (
   bif !n then
     some true
   else
     (G7 a.Q4 e).bind λh=>
     (G7 a.F4.Z8 h).bind λl=>
     (G7 a.Q4 d).bind λj=>
     (G7 a.F4.Z8 j).bind λp=>
     some (!decide (l=p))).bind λm=>
 bif m then
   some c
 else
   (B3w a e d).bind λ(i,g)=>
   bif decide (o.fN=0) then
     (q c 1 [e,d]).bind λk=>
     some k
   else
     bif g then
       bif decide (i<o.fN) then
         (q c 1 [e,d]).bind λb=>
         some b
       else
         some c
     else
       some c
def A5C {σ:Type} (d:F5) (j:F7) (i:σ→Int→(List Int)→Option σ) (e:σ):Option (σ):=
 (A6k d j).bind λ(h,g,c)=>
 bif c then
   (A1Q d d.F4.W9 h g).bind λb=>
   bif !b then
     (i e 1 [h,g]).bind λa=>
     some a
   else
     some e
 else
   some e
def A5G {σ:Type} (d:F5) (j:F7) (i:σ→Int→(List Int)→Option σ) (e:σ):Option (σ):=
 (A6k d j).bind λ(h,g,c)=>
 bif c then
   (A1Q d d.F4.A0s h g).bind λb=>
   bif !b then
     (i e 1 [h,g]).bind λa=>
     some a
   else
     some e
 else
   some e
def B0V {σ:Type} (j:F5) (l:F7) (k:σ→Int→(List Int)→Option σ) (a:σ):Option (σ):=
 (A6k j l).bind λ(c,b,d)=>
 bif d then
   (B3w j c b).bind λ(i,h)=>
   bif !h then
     (k a 1 [c,b]).bind λg=>
     some g
   else
     bif decide (l.fN<i) then
       (k a 1 [c,b]).bind λe=>
       some e
     else
       some a
 else
   some a
def A8d {σ:Type} (a:F5) (m:F7) (l:σ→Int→(List Int)→Option σ) (i:σ):Option (σ):=
 (A6k a m).bind λ(k,j,d)=>
 bif d then
   (G7 a.Q4 k).bind λb=>
   (G7 a.F4.Z8 b).bind λg=>
   (G7 a.Q4 j).bind λh=>
   (G7 a.F4.Z8 h).bind λc=>
   bif !decide (g=c) then
     (l i 1 [k,j]).bind λe=>
     some e
   else
     some i
 else
   some i
def B9S {σ:Type} (c:F5) (i:F7) (j:σ→Int→(List Int)→Option σ) (g:σ):Option (σ):=
 (A0P c.F4.O9 i.fA).bind λb=>
 (G7 c.Q4 b).bind λa=>
 bif decide (0≤a) then
   (G7 c.F4.Z8 a).bind λe=>
   (G7 c.F4.O9.C8 e).bind λd=>
   bif !decide (d.F8=i.I5) then
     (j g 1 [b]).bind λh=>
     some h
   else
     some g
 else
   some g
def A9l (h:F5) (b:Int):Int→Option (Int⊕Int):=λa=>
 bif decide (0<a) then
  (J5 (a - 1)).bind λg=>
  (G7 h.F4.Z8 g).bind λc=>
  (G7 h.F4.Z8 b).bind λd=>
  bif decide (c=d) then
   (J5 (a - 1)).bind λe=>
   some (inl e)
  else
   some (inr a)
 else
  some (inr a)
def B4r {σ:Type} (e:F5) (l:F7) (m:σ→Int→(List Int)→Option σ) (i:σ):Option (σ):=
 (A0P e.F4.O9 l.fA).bind λc=>
 (G7 e.Q4 c).bind λb=>
 bif decide (b<0) then
   some i
 else
   (
     iter (A9l e b) FUEL b).bind λa=>
   (G7 e.F4.Z8 b).bind λj=>
   (G7 e.F4.O9.C8 j).bind λk=>
   bif !decide (k.F8=l.I5) then
     (m i 1 [c]).bind λg=>
     some g
   else
     (J5 (b - a)).bind λd=>
     bif !decide (d=l.fN) then
       (m i 1 [c]).bind λh=>
       some h
     else
       some i
def B5D {σ:Type} (l:F5) (n:F7) (m:σ→Int→(List Int)→Option σ) (b:σ) (a:Int):Option ((σ×Int)⊕σ):=
 (G7 l.F4.O9.A7 a).bind λj=>
 bif decide (n.fA=j.F8) then
  (m b 1 [a]).bind λk=>
  (J5 (a+1)).bind λc=>
  some (inl (k,c))
 else
  bif decide (n.fA=(⟨#[]⟩:ByteArray)) then
   (G7 l.F4.O9.A7 a).bind λg=>
   bif g.Y4 then
    (m b 1 [a]).bind λe=>
    (J5 (a+1)).bind λi=>
    some (inl (e,i))
   else
    (J5 (a+1)).bind λd=>
    some (inl (b,d))
  else
   (J5 (a+1)).bind λh=>
   some (inl (b,h))
def A5o {σ:Type} (g:F5) (j:F7) (i:σ→Int→(List Int)→Option σ):(σ×Int)→Option ((σ×Int)⊕σ):=λ(b,a)=>
 bif decide (a<(g.Q4.length:Int)) then
  (G7 g.Q4 a).bind λe=>
  bif decide (0≤e) then
   (G7 g.F4.C5r e).bind λh=>
   bif !h then
    B5D g j i b a
   else
    (J5 (a+1)).bind λd=>
    some (inl (b,d))
  else
   (J5 (a+1)).bind λc=>
   some (inl (b,c))
 else
  some (inr b)
def B2n {σ:Type} (d:F5) (e:F7) (b:σ→Int→(List Int)→Option σ) (c:σ):Option (σ):=
 (
   iter (A5o d e b) FUEL (c,0)).bind λa=>
 some a
def B5q (n:F5) (m:Int) (g:List Int) (b:Int) (c:Bool) (a:Bool):Option ((Int×Bool×Bool)⊕(Bool×Bool)):=
 (G7 g b).bind λl=>
 (G7 n.B3L l).bind λd=>
 bif decide (0≤d) then
  bif a then
   (G7 n.F4.B1Z m).bind λh=>
   (G7 h d).bind λk=>
   (J5 (b+1)).bind λj=>
   some (inl (j,true,!k))
  else
   (J5 (b+1)).bind λi=>
   some (inl (i,true,false))
 else
  (J5 (b+1)).bind λe=>
  some (inl (e,c,a))
def A2C (g:F5) (e:Int) (c:List Int):(Int×Bool×Bool)→Option ((Int×Bool×Bool)⊕(Bool×Bool)):=λ(d,b,a)=>
 bif decide (d<(c.length:Int)) then
  B5q g e c d b a
 else
  some (inr (b,a))
def A1A (l:F5) (k:Int) (h:List Int) (j:List Int):(Int×Bool×Bool)→Option ((Int×Bool×Bool)⊕(Bool×Bool)):=λ(e,b,a)=>
 bif decide (e<([h,j].length:Int)) then
  (G7 [h,j] e).bind λi=>
  (
   iter (A2C l k i) FUEL (0,b,a)).bind λ(d,c)=>
  (J5 (e+1)).bind λg=>
  some (inl (g,d,c))
 else
  some (inr (b,a))
def B5l {σ:Type} (l:F5) (n:σ→Int→(List Int)→Option σ) (d:σ) (b:Int) (g:Int):Option ((σ×Int)⊕σ):=
 (G7 l.F4.W9 g).bind λk=>
 (G7 l.F4.A0s g).bind λm=>
 (
  iter (A1A l b k m) FUEL (0,false,true)).bind λ(c,a)=>
 bif c then
  bif a then
   (n d 1 [b]).bind λi=>
   (J5 (b+1)).bind λj=>
   some (inl (i,j))
  else
   (J5 (b+1)).bind λe=>
   some (inl (d,e))
 else
  (J5 (b+1)).bind λh=>
  some (inl (d,h))
def A5a {σ:Type} (d:F5) (j:F7) (i:σ→Int→(List Int)→Option σ):(σ×Int)→Option ((σ×Int)⊕σ):=λ(c,a)=>
 bif decide (a<(d.Q4.length:Int)) then
  (G7 d.Q4 a).bind λb=>
  (
   bif decide (b<0) then
    some true
   else
    (A4j d j b).bind λg=>
    some (!g)).bind λh=>
  bif h then
   (J5 (a+1)).bind λe=>
   some (inl (c,e))
  else
   B5l d i c a b
 else
  some (inr c)
def B2C {σ:Type} (d:F5) (e:F7) (b:σ→Int→(List Int)→Option σ) (c:σ):Option (σ):=
 (
   iter (A5a d e b) FUEL (c,0)).bind λa=>
 some a
def B2R {σ:Type} (p:F5) (t:F7) (s:σ→Int→(List Int)→Option σ) (c:Int) (q:Int) (b:σ) (a:Int) (r:Int):Option ((σ×Int)⊕σ):=
 (A4j p t q).bind λe=>
 bif e then
  (A5Z p c a).bind λg=>
  bif !g then
   (s b 1 [c,a]).bind λj=>
   (J5 (a+1)).bind λo=>
   some (inl (j,o))
  else
   (J5 (a+1)).bind λl=>
   some (inl (b,l))
 else
  (A4j p t r).bind λi=>
  bif i then
   (A5Z p c a).bind λd=>
   bif !d then
    (s b 1 [c,a]).bind λm=>
    (J5 (a+1)).bind λn=>
    some (inl (m,n))
   else
    (J5 (a+1)).bind λk=>
    some (inl (b,k))
  else
   (J5 (a+1)).bind λh=>
   some (inl (b,h))
def B2S {σ:Type} (k:F5) (n:F7) (m:σ→Int→(List Int)→Option σ) (c:Int) (e:Int) (b:σ) (a:Int):Option ((σ×Int)⊕σ):=
 (G7 k.Q4 a).bind λg=>
 bif decide (0≤e) then
  bif decide (0≤g) then
   (G7 k.F4.A0F c).bind λl=>
   (G7 l a).bind λj=>
   bif decide (j=1) then
    B2R k n m c e b a g
   else
    (J5 (a+1)).bind λd=>
    some (inl (b,d))
  else
   (J5 (a+1)).bind λh=>
   some (inl (b,h))
 else
  (J5 (a+1)).bind λi=>
  some (inl (b,i))
def A3s {σ:Type} (e:F5) (h:F7) (g:σ→Int→(List Int)→Option σ) (c:Int) (d:Int):(σ×Int)→Option ((σ×Int)⊕σ):=λ(b,a)=>
 bif decide (a<(e.Q4.length:Int)) then
  B2S e h g c d b a
 else
  some (inr b)
def A3y {σ:Type} (g:F5) (j:F7) (i:σ→Int→(List Int)→Option σ):(σ×Int)→Option ((σ×Int)⊕σ):=λ(c,a)=>
 bif decide (a<(g.Q4.length:Int)) then
  (G7 g.Q4 a).bind λd=>
  (J5 (a+1)).bind λe=>
  (
   iter (A3s g j i a d) FUEL (c,e)).bind λh=>
  (J5 (a+1)).bind λb=>
  some (inl (h,b))
 else
  some (inr c)
def A9m {σ:Type} (d:F5) (e:F7) (b:σ→Int→(List Int)→Option σ) (c:σ):Option (σ):=
 (
   iter (A3y d e b) FUEL (c,0)).bind λa=>
 some a
def B3b {σ:Type} (i:F5) (m:F7) (n:σ→Int→(List Int)→Option σ) (b:σ) (a:Int):Option ((σ×Int)⊕σ):=
 (G7 i.Q4 a).bind λc=>
 bif decide (0≤c) then
  (G7 i.F4.O9.A7 a).bind λk=>
  bif decide (k.A0z=m.fA) then
   (A4j i m c).bind λl=>
   bif !l then
    (n b 1 [a]).bind λj=>
    (J5 (a+1)).bind λd=>
    some (inl (j,d))
   else
    (J5 (a+1)).bind λh=>
    some (inl (b,h))
  else
   (J5 (a+1)).bind λg=>
   some (inl (b,g))
 else
  (J5 (a+1)).bind λe=>
  some (inl (b,e))
def A3r {σ:Type} (c:F5) (e:F7) (d:σ→Int→(List Int)→Option σ):(σ×Int)→Option ((σ×Int)⊕σ):=λ(b,a)=>
 bif decide (a<(c.Q4.length:Int)) then
  B3b c e d b a
 else
  some (inr b)
def A9i {σ:Type} (d:F5) (e:F7) (b:σ→Int→(List Int)→Option σ) (c:σ):Option (σ):=
 (
   iter (A3r d e b) FUEL (c,0)).bind λa=>
 some a
def B5n {σ:Type} (o:F5) (l:Int→Int→Option Bool) (p:σ→Int→(List Int)→Option σ) (d:Int) (m:Int) (b:σ) (a:Int) (n:Int):Option ((σ×Int)⊕σ):=
 (G7 o.F4.Z8 n).bind λe=>
 (G7 o.F4.Z8 m).bind λh=>
 bif decide (e=h) then
  (l d a).bind λg=>
  bif g then
   (p b 1 [d,a]).bind λk=>
   (J5 (a+1)).bind λj=>
   some (inl (k,j))
  else
   (J5 (a+1)).bind λc=>
   some (inl (b,c))
 else
  (J5 (a+1)).bind λi=>
  some (inl (b,i))
def A5k {σ:Type} (i:F5) (e:Int→Int→Option Bool) (j:σ→Int→(List Int)→Option σ) (h:Int) (g:Int):(σ×Int)→Option ((σ×Int)⊕σ):=λ(b,a)=>
 bif decide (a<(i.Q4.length:Int)) then
  (G7 i.Q4 a).bind λc=>
  bif decide (0≤c) then
   B5n i e j h g b a c
  else
   (J5 (a+1)).bind λd=>
   some (inl (b,d))
 else
  some (inr b)
def B5j {σ:Type} (j:F5) (n:F7) (e:Int→Int→Option Bool) (m:σ→Int→(List Int)→Option σ) (d:σ) (a:Int):Option ((σ×Int)⊕σ):=
 (G7 j.Q4 a).bind λb=>
 (
  bif decide (b<0) then
   some true
  else
   (A4j j n b).bind λh=>
   some (!h)).bind λk=>
 bif k then
  (J5 (a+1)).bind λl=>
  some (inl (d,l))
 else
  (J5 (a+1)).bind λi=>
  (
   iter (A5k j e m a b) FUEL (d,i)).bind λg=>
  (J5 (a+1)).bind λc=>
  some (inl (g,c))
def A4X {σ:Type} (d:F5) (g:F7) (c:Int→Int→Option Bool) (e:σ→Int→(List Int)→Option σ):(σ×Int)→Option ((σ×Int)⊕σ):=λ(a,b)=>
 bif decide (b<(d.Q4.length:Int)) then
  B5j d g c e a b
 else
  some (inr a)
def A5J {σ:Type} (e:F5) (g:F7) (a:Int→Int→Option Bool) (c:σ→Int→(List Int)→Option σ) (d:σ):Option (σ):=
 (
   iter (A4X e g a c) FUEL (d,0)).bind λb=>
 some b
def A3k (k:F5) (j:Int):(Int×(List Int))→Option ((Int×(List Int))⊕(List Int)):=λ(b,a)=>
 bif decide (b<(k.Q4.length:Int)) then
  (G7 k.Q4 b).bind λc=>
  bif decide (0≤c) then
   (G7 k.F4.Z8 c).bind λe=>
   bif decide (e=j) then
    (apL a [b]).bind λg=>
    (J5 (b+1)).bind λh=>
    some (inl (h,g))
   else
    (J5 (b+1)).bind λi=>
    some (inl (i,a))
  else
   (J5 (b+1)).bind λd=>
   some (inl (d,a))
 else
  some (inr a)
def B6V {σ:Type} (k:F5) (l:F7) (j:σ→(List Int)→Option σ) (e:σ) (a:Int):Option ((σ×Int)⊕σ):=
 (G7 k.F4.O9.C8 a).bind λh=>
 (
  bif !decide (l.I5=(⟨#[]⟩:ByteArray)) then
   some (!decide (l.I5=h.F8))
  else
   some false).bind λg=>
 bif g then
  (J5 (a+1)).bind λi=>
  some (inl (e,i))
 else
  (
   iter (A3k k a) FUEL (0,([]:List Int))).bind λd=>
  (j e d).bind λc=>
  (J5 (a+1)).bind λb=>
  some (inl (c,b))
def A4z {σ:Type} (d:F5) (e:F7) (c:σ→(List Int)→Option σ):(σ×Int)→Option ((σ×Int)⊕σ):=λ(b,a)=>
 bif decide (a<(d.F4.O9.C8.length:Int)) then
  B6V d e c b a
 else
  some (inr b)
def A9u {σ:Type} (d:F5) (e:F7) (b:σ→(List Int)→Option σ) (c:σ):Option (σ):=
 (
   iter (A4z d e b) FUEL (c,0)).bind λa=>
 some a
def A4u (e:Int) (h:Int) (a:F5):Option (Bool):=
 (G7 a.F4.O9.A7 e).bind λg=>
 bif decide (0<g.A0y) then
   (G7 a.F4.O9.A7 e).bind λb=>
   (G7 a.F4.O9.A7 h).bind λd=>
   bif decide (b.A0y=d.A0y) then
     (A1Q a a.F4.W9 e h).bind λc=>
     some c
   else
     some false
 else
   some false
def A6V {σ:Type} (b:F5) (h:F7) (c:σ→Int→(List Int)→Option σ) (e:σ):Option (σ):=
 (A5J b h (λg d=>A4u g d b) c e).bind λa=>
 some a
def B2i (e:Int) (h:Int) (a:F5):Option (Bool):=
 (G7 a.F4.O9.A7 e).bind λg=>
 bif !decide (g.V6=(⟨#[]⟩:ByteArray)) then
   (G7 a.F4.O9.A7 e).bind λb=>
   (G7 a.F4.O9.A7 h).bind λd=>
   bif decide (b.V6=d.V6) then
     (A1Q a a.F4.W9 e h).bind λc=>
     some c
   else
     some false
 else
   some false
def B7B {σ:Type} (b:F5) (h:F7) (c:σ→Int→(List Int)→Option σ) (e:σ):Option (σ):=
 (A5J b h (λg d=>B2i g d b) c e).bind λa=>
 some a
def A9e (g:Int) (d:Int) (e:F5):Option (Bool):=
 (G7 e.F4.A0F g).bind λc=>
 (G7 c d).bind λb=>
 bif decide (b=2) then
   (A5Z e g d).bind λa=>
   some a
 else
   some false
def B2B {σ:Type} (b:F5) (h:F7) (c:σ→Int→(List Int)→Option σ) (e:σ):Option (σ):=
 (A5J b h (λg d=>A9e g d b) c e).bind λa=>
 some a
def A7V (k:Int) (g:Int) (a:F5):Option (Bool):=
 (G7 a.F4.O9.R7 k).bind λm=>
 (G7 a.F4.O9.R7 g).bind λh=>
 (
   bif decide (h<m) then
     some (g,k)
   else
     some (k,g)).bind λ(c,b)=>
 (G7 a.F4.O9.R7 c).bind λd=>
 (G7 a.F4.O9.R7 b).bind λj=>
 bif decide (d<j) then
   (G7 a.Q4 c).bind λi=>
   (G7 a.F4.B7Z i).bind λn=>
   (G7 a.Q4 b).bind λe=>
   (G7 a.F4.B7Z e).bind λl=>
   some (decide (l<n))
 else
   some false
def B0E {σ:Type} (b:F5) (h:F7) (d:σ→Int→(List Int)→Option σ) (c:σ):Option (σ):=
 bif decide ((b.F4.O9.R7.length:Int)=0) then
   some c
 else
   (A5J b h (λg e=>A7V g e b) d c).bind λa=>
   some a
def A4k {σ:Type} (e:List Int) (g:F5) (h:σ):Int→Option (Int⊕(Unit⊕σ)):=λd=>
 bif decide (d<(e.length:Int)) then
  (G7 e d).bind λb=>
  (G7 g.F4.O9.A7 b).bind λc=>
  bif c.X7 then
   some (inr (inr h))
  else
   (J5 (d+1)).bind λa=>
   some (inl a)
 else
  some (inr (inl ()))
def B0J {σ:Type} (c:List Int) (e:F5) (g:σ→Int→(List Int)→Option σ) (a:σ):Option (σ):=
 (
   iter (A4k c e a) FUEL 0).bind λd=>match d with
 | .inl _u=>
   bif decide (0<(c.length:Int)) then
     (g a 1 c).bind λb=>
     some b
   else
     some a
 | .inr p=>
   some p
def B4u {σ:Type} (b:F5) (g:F7) (c:σ→Int→(List Int)→Option σ) (d:σ):Option (σ):=
 (A9u b g (λs_ e=>B0J e b c s_) d).bind λa=>
 some a
def B0N {σ:Type} (a:List Int) (b:F7) (g:σ→Int→(List Int)→Option σ) (c:σ):Option (σ):=
 bif decide ((a.length:Int)<b.fN) then
   (J5 (b.fN - (a.length:Int))).bind λe=>
   (g c e a).bind λd=>
   some d
 else
   some c
def B4H {σ:Type} (g:F5) (b:F7) (c:σ→Int→(List Int)→Option σ) (d:σ):Option (σ):=
 (A9u g b (λs_ e=>B0N e b c s_) d).bind λa=>
 some a
def A8Z {σ:Type} (a:List Int) (b:F7) (g:σ→Int→(List Int)→Option σ) (c:σ):Option (σ):=
 bif decide (b.fN<(a.length:Int)) then
   (J5 ((a.length:Int) - b.fN)).bind λe=>
   (g c e a).bind λd=>
   some d
 else
   some c
def B2d {σ:Type} (g:F5) (b:F7) (c:σ→Int→(List Int)→Option σ) (d:σ):Option (σ):=
 (A9u g b (λs_ e=>A8Z e b c s_) d).bind λa=>
 some a
end Go.Dm
open Go Go.Sl Sum
namespace Go.Dm
def B4s {σ:Type} (n:Nat) (v:F5) (r:F7) (f:σ→Int→(List Int)→Option σ) (s:σ):Option σ:=
 if n=87 then B2E v r f s else
 if n=88 then A5C v r f s else
 if n=89 then A5G v r f s else
 if n=90 then B0V v r f s else
 if n=91 then A8d v r f s else
 if n=92 then B9S v r f s else
 if n=93 then B4r v r f s else
 if n=94 then A6V v r f s else
 if n=95 then B4u v r f s else
 if n=96 then B2n v r f s else
 if n=97 then B2C v r f s else
 if n=98 then B2B v r f s else
 if n=99 then A9m v r f s else
 if n=100 then B0E v r f s else
 if n=101 then B4H v r f s else
 if n=102 then B2d v r f s else
 if n=103 then A9i v r f s else
 if n=104 then B7B v r f s else
 none
def A0X (a:Int) (d:List Int) (b:Int):Option (Int):=
 (J5 (b+a)).bind λc=>
 some c
def A4q (a:F5) (g:Int):Option (Int):=
 (G7 a.F4.O9.J9 g).bind λe=>
 (lkM a.F4.C0W e.F9 (H5.mk (⟨#[]⟩:ByteArray) 0 false 0 false 0 false (0:Nat))).bind λ(b,h)=>
 (G7 a.F4.O9.J9 g).bind λc=>
 (B4s b.C5p a c (λs_ i j=>A0X i j s_) 0).bind λd=>
 some d
def B5i (l:F5) (c:Int) (b:Int) (a:Int):Option ((Int×Int×Int)⊕(Int×Int)):=
 (G7 l.Q4 c).bind λh=>
 bif decide (h<0) then
  (J5 (b+1)).bind λd=>
  (G7 l.F4.O9.A7 c).bind λj=>
  bif j.X7 then
   (J5 (a+1)).bind λi=>
   (J5 (c+1)).bind λg=>
   some (inl (g,d,i))
  else
   (J5 (c+1)).bind λe=>
   some (inl (e,d,a))
 else
  (J5 (c+1)).bind λk=>
  some (inl (k,b,a))
def B5s (i:F5) (h:Int) (g:Int) (a:Int) (b:Int):Option (Int):=
 (G7 i.F4.O9.J9 h).bind λc=>
 bif decide (c.F9=9) then
  (J5 (g - b)).bind λe=>
  some (max e 0)
 else
  bif decide (c.F9=15) then
   (J5 (g - a)).bind λd=>
   some (max d 0)
  else
   bif decide (c.F9=11) then
    bif decide (0<a) then
     some (max 0 0)
    else
     some (max g 0)
   else
    some (max g 0)
def A2x (d:F5):(Int×Int×Int)→Option ((Int×Int×Int)⊕(Int×Int)):=λ(c,b,a)=>
 bif decide (c<(d.Q4.length:Int)) then
  B5i d c b a
 else
  some (inr (b,a))
def A9S (c:F5) (d:Int):Option (Int):=
 (A4q c d).bind λe=>
 (
   iter (A2x c) FUEL (0,0,0)).bind λ(b,a)=>
 B5s c d e b a
def A9z  : Option (List (Int×H5)):=
 (some (A2z ([]:List (Int×H5)) 1 (H5.mk (⟨#[97,112,97,114,116]⟩:ByteArray) 103 true 0 true 0 false (87:Nat)))).bind λs=>
 (some (A2z s 2 (H5.mk (⟨#[98,101,115,105,100,101]⟩:ByteArray) 103 true 0 false 0 false (88:Nat)))).bind λr=>
 (some (A2z r 3 (H5.mk (⟨#[97,99,114,111,115,115]⟩:ByteArray) 103 true 0 false 0 false (89:Nat)))).bind λa=>
 (some (A2z a 4 (H5.mk (⟨#[110,101,97,114]⟩:ByteArray) 103 true 0 true 1 false (90:Nat)))).bind λb=>
 (some (A2z b 5 (H5.mk (⟨#[116,111,103,101,116,104,101,114]⟩:ByteArray) 103 true 0 false 0 false (91:Nat)))).bind λk=>
 (some (A2z k 6 (H5.mk (⟨#[97,116]⟩:ByteArray) 103 false 116 false 0 false (92:Nat)))).bind λj=>
 (some (A2z j 7 (H5.mk (⟨#[115,101,97,116]⟩:ByteArray) 103 false 116 true 0 true (93:Nat)))).bind λl=>
 (some (A2z l 8 (H5.mk (⟨#[97,108,116,101,114,110,97,116,101]⟩:ByteArray) 0 false 101 false 0 false (94:Nat)))).bind λn=>
 (some (A2z n 9 (H5.mk (⟨#[104,111,115,116]⟩:ByteArray) 0 false 101 false 0 false (95:Nat)))).bind λm=>
 (some (A2z m 10 (H5.mk (⟨#[114,101,97,99,104]⟩:ByteArray) 101 false 0 false 0 false (96:Nat)))).bind λh=>
 (some (A2z h 11 (H5.mk (⟨#[115,112,101,97,107]⟩:ByteArray) 0 false 101 false 0 false (97:Nat)))).bind λd=>
 (some (A2z d 12 (H5.mk (⟨#[112,101,97,99,101]⟩:ByteArray) 0 false 101 false 0 false (98:Nat)))).bind λc=>
 (some (A2z c 13 (H5.mk (⟨#[99,111,109,112,97,110,121]⟩:ByteArray) 0 false 101 false 0 false (99:Nat)))).bind λe=>
 (some (A2z e 14 (H5.mk (⟨#[104,111,110,111,117,114]⟩:ByteArray) 0 false 101 false 0 false (100:Nat)))).bind λp=>
 (some (A2z p 15 (H5.mk (⟨#[102,105,108,108]⟩:ByteArray) 0 false 101 true 0 false (101:Nat)))).bind λq=>
 (some (A2z q 16 (H5.mk (⟨#[108,105,109,105,116]⟩:ByteArray) 0 false 101 true 0 false (102:Nat)))).bind λi=>
 (some (A2z i 17 (H5.mk (⟨#[107,105,116,99,104,101,110]⟩:ByteArray) 100 false 116 false 0 false (103:Nat)))).bind λo=>
 (some (A2z o 18 (H5.mk (⟨#[109,105,120]⟩:ByteArray) 0 false 101 false 0 false (104:Nat)))).bind λg=>
 some g
def A0l (a:H5) (b:F7):Option (Bool):=
 bif a.fb then
  bif !decide (a.ft=0) then
   bif a.fn then
    some true
   else
    some (decide (b.fN=0))
  else
   bif decide (b.I5=(⟨#[]⟩:ByteArray)) then
    bif a.fn then
     some true
    else
     some (decide (b.fN=0))
   else
    some false
 else
  bif decide (b.fB=(⟨#[]⟩:ByteArray)) then
   bif !decide (a.ft=0) then
    bif a.fn then
     some true
    else
     some (decide (b.fN=0))
   else
    bif decide (b.I5=(⟨#[]⟩:ByteArray)) then
     bif a.fn then
      some true
     else
      some (decide (b.fN=0))
    else
     some false
  else
   some false
def A0n (a:H5) (b:F7):Option (Bool):=
 bif a.fb then
  bif !decide (a.ft=0) then
   bif a.fn then
    some true
   else
    some (decide (b.fN=0))
  else
   bif decide (b.I5=(⟨#[]⟩:ByteArray)) then
    bif a.fn then
     some true
    else
     some (decide (b.fN=0))
   else
    some false
 else
  bif decide (b.fB=(⟨#[]⟩:ByteArray)) then
   bif !decide (a.ft=0) then
    bif a.fn then
     some true
    else
     some (decide (b.fN=0))
   else
    bif decide (b.I5=(⟨#[]⟩:ByteArray)) then
     bif a.fn then
      some true
     else
      some (decide (b.fN=0))
    else
     some false
  else
   some false
def A0v (a:H5) (b:F7):Option (Bool):=
 bif !decide (a.fa=0) then
   A0l a b
 else
   bif decide (b.fA=(⟨#[]⟩:ByteArray)) then
     A0n a b
   else
     some false
def A3F (c:H5) (d:C9) (a:F7):Option (Bool):=
 bif decide (c.fa=101) then
  bif !decide (a.fA=(⟨#[]⟩:ByteArray)) then
   (A0P d a.fA).bind λb=>
   bif decide (b<0) then
    some (decide (b<0))
   else
    bif c.fb then
     (A0P d a.fB).bind λh=>
     some (decide (h<0))
    else
     some false
  else
   bif c.fb then
    (A0P d a.fB).bind λe=>
    some (decide (e<0))
   else
    some false
 else
  bif c.fb then
   (A0P d a.fB).bind λg=>
   some (decide (g<0))
  else
   some false
def A3J (j:H5) (k:C9) (h:F7) (b:Int) (i:Bool):Option (Int):=
 bif i then
  some 6
 else
  (
   bif j.A5X then
    (J5 (b+1)).bind λd=>
    (sbL k.C8 b d).bind λc=>
    (A2u c).bind λg=>
    (J5 (g - 1)).bind λe=>
    some e
   else
    some 24).bind λa=>
  bif j.fn then
   bif decide (h.fN<j.flo) then
    some 42
   else
    bif decide (a<h.fN) then
     some 42
    else
     some 0
  else
   some 0
def A7J (e:H5) (g:C9) (b:F7):Option (Int):=
 (B4L g.C8 b.I5).bind λ(c,a)=>
 (
  bif decide (e.ft=116) then
   bif !a then
    some true
   else
    bif decide (e.ft=101) then
     bif !decide (b.I5=(⟨#[]⟩:ByteArray)) then
      some (!a)
     else
      some false
    else
     some false
  else
   bif decide (e.ft=101) then
    bif !decide (b.I5=(⟨#[]⟩:ByteArray)) then
     some (!a)
    else
     some false
   else
    some false).bind λd=>
 A3J e g b c d
def A7Q (g:H5) (i:C9) (a:F7) (e:Bool):Option (Int):=
 (
  bif e then
   some e
  else
   A3F g i a).bind λh=>
 bif h then
  some 6
 else
  (
   bif decide (g.fa=100) then
    (A9s a.fA).bind λb=>
    some (!b)
   else
    some false).bind λc=>
  bif c then
   some 4
  else
   (
    bif g.fb then
     some (decide (a.fA=a.fB))
    else
     some false).bind λd=>
   bif d then
    some 5
   else
    A7J g i a
def A1M (b:H5) (h:C9) (a:F7):Option (Int):=
 bif decide (b.A7f=(⟨#[]⟩:ByteArray)) then
   some 40
 else
   (
     bif decide (a.K6<0) then
       some true
     else
       some (decide (1000<a.K6))).bind λd=>
   bif d then
     some 41
   else
     (A0v b a).bind λe=>
     bif !e then
       some 43
     else
       (
         bif decide (b.fa=103) then
           (A0P h a.fA).bind λg=>
           some (decide (g<0))
         else
           some false).bind λc=>
       A7Q b h a c
def A4Z (d:C9):Int→Option (Int⊕(Unit⊕(Int×Int))):=λa=>
 bif decide (a<(d.R7.length:Int)) then
  (G7 d.R7 a).bind λb=>
  bif decide (b<0) then
   some (inr (inr (0,44)))
  else
   bif decide (64≤b) then
    some (inr (inr (0,44)))
   else
    (J5 (a+1)).bind λc=>
    some (inl c)
 else
  some (inr (inl ()))
def B5r (a:C9):Option (Int×Int):=
 (
  bif decide (0<(a.R7.length:Int)) then
   some (!decide ((a.R7.length:Int)=(a.A7.length:Int)))
  else
   some false).bind λc=>
 bif c then
  some (0,44)
 else
  (
   iter (A4Z a) FUEL 0).bind λd=>match d with
  | .inl _u=>
   (A2u a.C8).bind λb=>
   bif decide (b<(a.A7.length:Int)) then
    some (0,45)
   else
    some (0,0)
  | .inr p=>
   some p
def B2s (c:C9):Option (Int×Int):=
 (A5w c.C8).bind λ(d,b)=>
 bif !decide (b=0) then
   some (d,b)
 else
   (A5D (Q5.mk c.A7 c.N7)).bind λ(e,a)=>
   bif !decide (a=0) then
     some (e,a)
   else
     B5r c
def A5t (e:C9) (d:List (Int×H5)):Int→Option (Int⊕(Unit⊕(Int×Int))):=λa=>
 bif decide (a<(e.J9.length:Int)) then
  (G7 e.J9 a).bind λc=>
  (lkM d c.F9 (H5.mk (⟨#[]⟩:ByteArray) 0 false 0 false 0 false (0:Nat))).bind λ(h,i)=>
  (A1M h e c).bind λb=>
  bif !decide (b=0) then
   some (inr (inr (a,b)))
  else
   bif decide (a=64) then
    some (inr (inr (a,7)))
   else
    (J5 (a+1)).bind λg=>
    some (inl g)
 else
  some (inr (inl ()))
def A3n (e:C9):Option (Int×Int):=
 (B2s e).bind λ(b,a)=>
 bif !decide (a=0) then
   some (b,a)
 else
   A9z.bind λd=>
   (
     iter (A5t e d) FUEL 0).bind λc=>match c with
   | .inl _u=>
     some (0,0)
   | .inr p=>
     some p
def B0k (d:Int) (c:C9) (b:Int):Option (Bool):=
 (B0M c.C8 b d).bind λa=>
 some a
def A9R (d:Int) (c:C9) (b:Int):Option (Bool):=
 (B0X c.C8 b d).bind λa=>
 some a
def B5L (k:List Int) (d:Int) (a:List (Int×Int)) (b:List Int):Option ((Int×(List (Int×Int))×(List Int))⊕((List (Int×Int))×(List Int))):=
 (G7 k d).bind λc=>
 (lkM a c 0).bind λ(p,e)=>
 bif !e then
  (G7 b 0).bind λh=>
  (lkM a h 0).bind λ(j,o)=>
  (J5 (j+1)).bind λg=>
  (some (A2z a c g)).bind λm=>
  (apL b [c]).bind λn=>
  (J5 (d+1)).bind λi=>
  some (inl (i,m,n))
 else
  (J5 (d+1)).bind λl=>
  some (inl (l,a,b))
def A7K (d:List Int):(Int×(List (Int×Int))×(List Int))→Option ((Int×(List (Int×Int))×(List Int))⊕((List (Int×Int))×(List Int))):=λ(c,b,a)=>
 bif decide (c<(d.length:Int)) then
  B5L d c b a
 else
  some (inr (b,a))
def A8b (j:List Int) (i:List Int):(Int×(List (Int×Int))×(List Int))→Option ((Int×(List (Int×Int))×(List Int))⊕((List (Int×Int))×(List Int))):=λ(c,b,a)=>
 bif decide (c<([j,i].length:Int)) then
  (G7 [j,i] c).bind λh=>
  (
   iter (A7K h) FUEL (0,b,a)).bind λ(e,d)=>
  (J5 (c+1)).bind λg=>
  some (inl (g,e,d))
 else
  some (inr (b,a))
def A8o (k:O0):((List (Int×Int))×(List Int))→Option (((List (Int×Int))×(List Int))⊕(List (Int×Int))):=λ(c,a)=>
 bif decide (0<(a.length:Int)) then
  (G7 a 0).bind λj=>
  (G7 k.W9 j).bind λh=>
  (G7 a 0).bind λi=>
  (G7 k.A0s i).bind λg=>
  (
   iter (A8b h g) FUEL (0,c,a)).bind λ(d,b)=>
  (sbL b 1 (b.length:Int)).bind λe=>
  some (inl (d,e))
 else
  some (inr c)
def B2h (c:O0) (a:Int):Option (List (Int×Int)):=
 (some (A2z ([]:List (Int×Int)) a 0)).bind λd=>
 (
   iter (A8o c) FUEL (d,[a])).bind λb=>
 some b
def A5N (a:O0):Option (Bool):=
 some false
def B8Y (u:C9) (o:Int) (i:Int) (h:Int) (d:List Int) (e:List Int) (g:List Bool) (b:List (List Int)) (c:List (List Int)) (a:Int):Option (((List Int)×(List Int)×(List Bool)×(List (List Int))×(List (List Int))×Int)⊕((List Int)×(List Int)×(List Bool)×(List (List Int))×(List (List Int)))):=
 (apL d [o]).bind λk=>
 (B2A u.C8 a).bind λr=>
 (apL e [r]).bind λl=>
 (B4Q u.C8 a).bind λj=>
 (apL g [j]).bind λn=>
 (A9K i h (λv=>B0k v u a)).bind λp=>
 (apL b [p]).bind λt=>
 (A9K i h (λv=>A9R v u a)).bind λq=>
 (apL c [q]).bind λs=>
 (J5 (a+1)).bind λm=>
 some (inl (k,l,n,t,s,m))
def B0H (l:C9) (k:Int) (h:Int) (g:Int):((List Int)×(List Int)×(List Bool)×(List (List Int))×(List (List Int))×Int)→Option (((List Int)×(List Int)×(List Bool)×(List (List Int))×(List (List Int))×Int)⊕((List Int)×(List Int)×(List Bool)×(List (List Int))×(List (List Int)))):=λ(c,d,e,a,b,i)=>
 (J5 (h+g)).bind λj=>
 bif decide (i<j) then
  B8Y l k h g c d e a b i
 else
  some (inr (c,d,e,a,b))
def B0G (o:C9) (d:E9):((Option K8)×Int×(List Bool)×(List Int))→Option (((Option K8)×Int×(List Bool)×(List Int))⊕((Option K8)×(List Bool)×(List Int))):=λ(h,b,c,e)=>
 bif decide (b<(o.A7.length:Int)) then
  (G7 o.A7 b).bind λg=>
  h.bind λa=>
  (B0K a d.F8 g.F8).bind λm=>
  (apL c [decide (0<(m.length:Int))]).bind λj=>
  (B4D a d.F8 g.F8).bind λ(k,n)=>
  (apL e [k]).bind λl=>
  (J5 (b+1)).bind λi=>
  some (inl ((some a),i,j,l))
 else
  some (inr (h,c,e))
def B0v (m:C9):((List (List Bool))×(List (List Int))×(Option K8)×Int)→Option (((List (List Bool))×(List (List Int))×(Option K8)×Int)⊕((List (List Bool))×(List (List Int)))):=λ(a,b,j,c)=>
 bif decide (c<(m.A7.length:Int)) then
  (G7 m.A7 c).bind λl=>
  (
   iter (B0G m l) FUEL (j,0,([]:List Bool),([]:List Int))).bind λ(k,d,g)=>
  (apL a [d]).bind λe=>
  (apL b [g]).bind λh=>
  (J5 (c+1)).bind λi=>
  some (inl (e,h,k,i))
 else
  some (inr (a,b))
def B0Y (l:C9) (m:List (Int×H5)) (b:List Int) (g:List Int) (h:List Bool) (d:List (List Int)) (c:List (List Int)):((List (List (Int×Int)))×Int)→Option (((List (List (Int×Int)))×Int)⊕(List (List (Int×Int)))):=λ(a,e)=>
 bif decide (e<(b.length:Int)) then
  (B2h (O0.mk l m b g h d c a ([]:List (List Bool)) ([]:List (List Int))) e).bind λj=>
  (apL a [j]).bind λi=>
  (J5 (e+1)).bind λk=>
  some (inl (i,k))
 else
  some (inr a)
def B9b (m:C9) (j:C9) (l:List (Int×H5)) (e:List Int) (c:List Int) (d:List Bool) (b:List (List Int)) (a:List (List Int)):Option ((Option O0)×Int×Int):=
 (
  iter (B0Y j l e c d b a) FUEL (([]:List (List (Int×Int))),0)).bind λh=>
 (A7E (Q5.mk m.A7 m.N7)).bind λ(k,o,n)=>
 (
  iter (B0v m) FUEL (([]:List (List Bool)),([]:List (List Int)),k,0)).bind λ(g,i)=>
 some ((some (O0.mk j l e c d b a h g i)),0,0)
def B0t (r:C9):((List Int)×(List Int)×(List Bool)×(List (List Int))×(List (List Int))×Int)→Option (((List Int)×(List Int)×(List Bool)×(List (List Int))×(List (List Int))×Int)⊕((List Int)×(List Int)×(List Bool)×(List (List Int))×(List (List Int)))):=λ(g,e,d,a,b,c)=>
 bif decide (c<(r.C8.length:Int)) then
  (A2n r.C8 c).bind λm=>
  (J5 (c+1)).bind λo=>
  (sbL r.C8 c o).bind λn=>
  (A2u n).bind λq=>
  (
   iter (B0H r c m q) FUEL (g,e,d,a,b,m)).bind λ(k,j,l,h,i)=>
  (J5 (c+1)).bind λp=>
  some (inl (k,j,l,h,i,p))
 else
  some (inr (g,e,d,a,b))
def B1Q (h:C9):Option ((Option O0)×Int×Int):=
 (A3n h).bind λ(i,g)=>
 bif !decide (g=0) then
   some ((none),i,g)
 else
   (A8D h).bind λk=>
   A9z.bind λj=>
   (
     iter (B0t h) FUEL (([]:List Int),([]:List Int),([]:List Bool),([]:List (List Int)),([]:List (List Int)),0)).bind λ(e,d,c,a,b)=>
   B9b h k j e d c a b
def A8v (b:O0):Option (C9):=
 (A5N b).bind λc=>
 bif c then
   some (C9.mk ([]:List D7) ([]:List E9) ([]:List H9) ([]:List Int) ([]:List F7))
 else
   (A8D b.O9).bind λa=>
   some a
def B5M (l:O0) (d:List Int) (a:List Int) (c:Int):Option (((List Int)×Int)⊕((List Int)⊕(Option F5))):=
 (G7 d c).bind λb=>
 (
  bif decide (b<(-1)) then
   some true
  else
   bif decide ((l.Z8.length:Int)≤b) then
    some true
   else
    bif decide (0≤b) then
     (G7 a b).bind λg=>
     some (decide (0≤g))
    else
     some false).bind λh=>
 bif h then
  some (inr (inr (none)))
 else
  bif decide (0≤b) then
   (G7 a b).bind λk=>
   (some (List.set a b.toNat c)).bind λj=>
   (J5 (c+1)).bind λe=>
   some (inl (j,e))
  else
   (J5 (c+1)).bind λi=>
   some (inl (a,i))
def A7G (d:O0) (b:List Int):((List Int)×Int)→Option (((List Int)×Int)⊕((List Int)⊕(Option F5))):=λ(a,c)=>
 bif decide (c<(b.length:Int)) then
  B5M d b a c
 else
  some (inr (inl a))
def A5S (c:O0) (a:List Int):Option (Option F5):=
 (
   (A5N c).bind λg=>
   bif g then
     some true
   else
     some (!decide ((a.length:Int)=(c.O9.A7.length:Int)))).bind λh=>
 bif h then
   some (none)
 else
   (A6n [(-1)] (c.Z8.length:Int)).bind λe=>
   (
     iter (A7G c a) FUEL (e,0)).bind λd=>match d with
   | .inl b=>
     some (some (F5.mk c a b))
   | .inr p=>
     some p
def B8V (g:O0) (a:List Int) (d:Int):Option (Int):=
 (A5S g a).bind λe=>
 bif e.isNone then
   none
 else
   bif decide (d<0) then
     none
   else
     e.bind λb=>
     bif decide ((b.F4.O9.J9.length:Int)≤d) then
       none
     else
       (A9S b d).bind λc=>
       some c
def B7i (b:F5→Int→Option Int) (c:F5):(Int×Int)→Option ((Int×Int)⊕Int):=λ(a,d)=>
 bif decide (a<(c.F4.O9.J9.length:Int)) then
  (G7 c.F4.O9.J9 a).bind λe=>
  bif decide (0<e.K6) then
   (b c a).bind λg=>
   (J5 (e.K6*g)).bind λh=>
   (J5 (d+h)).bind λi=>
   (J5 (a+1)).bind λj=>
   some (inl (j,i))
  else
   (J5 (a+1)).bind λk=>
   some (inl (k,d))
 else
  some (inr d)
def C3g (g:O0) (b:List Int) (a:F5→Int→Option Int):Option (Int):=
 (A5S g b).bind λe=>
 bif e.isNone then
   some 0
 else
   e.bind λc=>
   (
     iter (B7i a c) FUEL (0,0)).bind λd=>
   some d
def A5g (b:F5):Int→Option (Int⊕(Unit⊕(Int×Bool))):=λa=>
 bif decide (a<(b.F4.O9.J9.length:Int)) then
  (G7 b.F4.O9.J9 a).bind λd=>
  bif decide (d.K6=0) then
   (A9S b a).bind λg=>
   bif decide (0<g) then
    some (inr (inr (a,true)))
   else
    (J5 (a+1)).bind λc=>
    some (inl c)
  else
   (J5 (a+1)).bind λe=>
   some (inl e)
 else
  some (inr (inl ()))
def B2I (e:O0) (a:List Int):Option (Int×Bool):=
 (A5S e a).bind λd=>
 bif d.isNone then
   some (0,false)
 else
   d.bind λb=>
   (
     iter (A5g b) FUEL 0).bind λc=>match c with
   | .inl _u=>
     some (0,false)
   | .inr p=>
     some p
def B6E (c:O0) (a:List Int):Option (Int):=
 (C3g c a A4q).bind λb=>
 some b
def A5m (j:Int) (h:Int) (d:List Int) (e:Int):Option (Int):=
 (J5 (j - e)).bind λi=>
 (G7 d i).bind λg=>
 (J5 (h - e)).bind λb=>
 (G7 d b).bind λa=>
 (J5 (g - a)).bind λc=>
 some c
def A6r (e:Int) (d:List Int):(Int×(List Int))→Option ((Int×(List Int))⊕(List Int)):=λ(b,a)=>
 bif decide (b<(d.length:Int)) then
  (J5 (e+b)).bind λh=>
  (G7 a b).bind λi=>
  (some (List.set a b.toNat h)).bind λg=>
  (J5 (b+1)).bind λc=>
  some (inl (c,g))
 else
  some (inr a)
def A8w (h:List D7) (g:Int):Option (List Int):=
 (
   bif decide (g<0) then
     some true
   else
     bif decide ((h.length:Int)≤g) then
       some true
     else
       (A3q h).bind λj=>
       some (!j)).bind λm=>
 bif m then
   some ([]:List Int)
 else
   (G7 h g).bind λi=>
   (A3V i).bind λe=>
   (A2n h g).bind λc=>
   (mkL (e.length:Int) 0).bind λd=>
   (
     iter (A6r c d) FUEL (0,d)).bind λa=>
   (A4B a (λl k=>A5m l k e c)).bind λb=>
   some b
def B4d (p:C9) (b:Int) (c:Int) (a:List Int) (i:F7):Option ((Int×(List Int))⊕(List Int)):=
 bif decide (i.I5=(⟨#[]⟩:ByteArray)) then
  (A8w p.C8 b).bind λm=>
  (G7 m 0).bind λk=>
  (apL a [k]).bind λo=>
  (J5 (c+1)).bind λn=>
  some (inl (n,o))
 else
  (G7 p.C8 b).bind λh=>
  bif decide (i.I5=h.F8) then
   (A8w p.C8 b).bind λe=>
   (G7 e 0).bind λl=>
   (apL a [l]).bind λd=>
   (J5 (c+1)).bind λg=>
   some (inl (g,d))
  else
   (J5 (c+1)).bind λj=>
   some (inl (j,a))
def B4k (h:C9) (d:Int) (c:Int) (a:List Int):Option ((Int×(List Int))⊕(List Int)):=
 (G7 h.J9 c).bind λb=>
 (
  bif decide (b.F9=7) then
   (G7 h.C8 d).bind λi=>
   some (decide (b.I5=i.F8))
  else
   some false).bind λl=>
 bif l then
  (A2n h.C8 d).bind λj=>
  (J5 (j+b.fN)).bind λk=>
  (apL a [k]).bind λm=>
  (J5 (c+1)).bind λe=>
  some (inl (e,m))
 else
  bif decide (b.F9=14) then
   B4d h d c a b
  else
   (J5 (c+1)).bind λg=>
   some (inl (g,a))
def A6v (d:C9) (c:Int):(Int×(List Int))→Option ((Int×(List Int))⊕(List Int)):=λ(b,a)=>
 bif decide (b<(d.J9.length:Int)) then
  B4k d c b a
 else
  some (inr a)
def B0U (e:C9) (a:Int):Option (List Int):=
 (A3n e).bind λ(i,g)=>
 (
   bif !decide (g=0) then
     some true
   else
     bif decide (a<0) then
       some true
     else
       some (decide ((e.C8.length:Int)≤a))).bind λh=>
 bif h then
   some ([]:List Int)
 else
   (
     iter (A6v e a) FUEL (0,([]:List Int))).bind λb=>
   (B2c b).bind λd=>
   (A7Y d).bind λc=>
   some c
end Go.Dm
open Go Go.Sl Sum
namespace Go.Dm
def A8x (a:Int) (c:D7):Option (Bool):=
 bif decide (a<0) then
   some true
 else
   (A2N c).bind λb=>
   some (decide (b≤a))
def A8C (a:Int) (c:List Int):Option (Bool):=
 (G7 c a).bind λb=>
 some (!decide (b=a))
def B5O (d:D7) (c:List Int) (b:Int) (a:Int):Option (Int⊕(Unit⊕Bool)):=
 (G7 c b).bind λh=>
 (G7 c a).bind λl=>
 (A4e d b a).bind λn=>
 (A4e d h l).bind λk=>
 bif !(n == k) then
  some (inr (inr false))
 else
  (G7 c b).bind λm=>
  (G7 c a).bind λg=>
  (A4p d b a).bind λe=>
  (A4p d m g).bind λi=>
  bif !(e == i) then
   some (inr (inr false))
  else
   (J5 (a+1)).bind λj=>
   some (inl j)
def A5y (c:D7) (d:List Int) (b:Int):Int→Option (Int⊕(Unit⊕Bool)):=λa=>
 bif decide (a<b) then
  B5O c d b a
 else
  some (inr (inl ()))
def A8p (h:D7) (g:List Int):Int→Option (Int⊕(Unit⊕Bool)):=λa=>
 bif decide (a<(g.length:Int)) then
  (G7 g a).bind λc=>
  (A1g h.A2Y a).bind λi=>
  (A1g h.A2Y c).bind λe=>
  bif !(i == e) then
   some (inr (inr false))
  else
   (
    iter (A5y h g a) FUEL 0).bind λd=>match d with
   | .inl _u=>
    (J5 (a+1)).bind λb=>
    some (inl b)
   | .inr p=>
    some (inr (inr p))
 else
  some (inr (inl ()))
def A1N (b:D7) (a:List Int):Option (Bool):=
 (
   iter (A8p b a) FUEL 0).bind λc=>match c with
 | .inl _u=>
   some true
 | .inr p=>
   some p
def A1e (h:Int→Option Int) (g:List Int):(Int×(List Int))→Option ((Int×(List Int))⊕(List Int)):=λ(a,b)=>
 bif decide (a<(g.length:Int)) then
  (h a).bind λd=>
  (G7 b a).bind λi=>
  (some (List.set b a.toNat d)).bind λc=>
  (J5 (a+1)).bind λe=>
  some (inl (e,c))
 else
  some (inr b)
def A0A {σ:Type} (a:σ→(List Int)→Option (σ×Bool)) (l:Int) (e:List (Int→Option Int)):(σ×Int)→Option ((σ×Int)⊕(σ⊕σ)):=λ(g,c)=>
 bif decide (c<(e.length:Int)) then
  (G7 e c).bind λk=>
  (mkL l 0).bind λi=>
  (
   iter (A1e k i) FUEL (0,i)).bind λj=>
  (a g j).bind λ(b,h)=>
  bif !h then
   some (inr (inr b))
  else
   (J5 (c+1)).bind λd=>
   some (inl (b,d))
 else
  some (inr (inl g))
def A3P {σ:Type} (a:σ→(List Int)→Option (σ×Bool)) (i:σ) (b:D7):Option (σ):=
 (X5 b.P8).bind λ(h,j)=>
 (A2N b).bind λe=>
 (h.C4j b.fA b.fB).bind λc=>
 (
   iter (A0A a e c) FUEL (i,0)).bind λg=>match g with
 | .inl d=>
   some d
 | .inr p=>
   some p
def A8V (a:D7):Option (D7):=
 some a
def A9c (i:D7) (a:List Int):((List (List Int))⊕Unit)→(List Int)→Option (((List (List Int))⊕Unit)×Bool):=λo_ c=>
 match o_ with
 | .inl b=>
  (A1N i c).bind λg=>
  bif g then
   (A0u a (λh=>A8C h c)).bind λd=>
   bif !d then
    (apL b [c]).bind λe=>
    some (inl e,true)
   else
    some (inl b,true)
  else
   some (inl b,true)
 | .inr _=>none
def B4N (d:D7) (a:List Int):Option (List (List Int)):=
 (
   (A5T d).bind λi=>
   bif !decide (i=0) then
     some true
   else
     (A0u a (λl=>A8x l d)).bind λk=>
     some k).bind λj=>
 bif j then
   some ([]:List (List Int))
 else
   (A8V d).bind λh=>
   (A3P (A9c d a) (inl ([]:List (List Int))) h).bind λe=>match e with
   | .inl g=>
     (A5F g A3M).bind λb=>
     (A3j b A3b).bind λc=>
     some c
   | .inr _=>none
end Go.Dm
open Go Go.Sl Sum
namespace Go.Dm
def A7Z (k:C9) (g:Int) (c:List Int):(Int×(List Int))→Option ((Int×(List Int))⊕(List Int)):=λ(b,a)=>
 bif decide (b<(c.length:Int)) then
  (G7 c b).bind λh=>
  (A2n k.C8 g).bind λe=>
  (J5 (h - e)).bind λj=>
  (apL a [j]).bind λi=>
  (J5 (b+1)).bind λd=>
  some (inl (d,i))
 else
  some (inr a)
def B5W (e:C9) (b:Int):Option (List (List Int)):=
 (B0U e b).bind λg=>
 (
   iter (A7Z e b g) FUEL (0,([]:List Int))).bind λa=>
 (G7 e.C8 b).bind λc=>
 (B4N c a).bind λd=>
 some d
def B2v (d:C9) (a:Int):Option (List (List Int)):=
 (A3n d).bind λ(e,b)=>
 bif !decide (b=0) then
   some ([]:List (List Int))
 else
   bif decide (a<0) then
     some ([]:List (List Int))
   else
     bif decide ((d.C8.length:Int)≤a) then
       some ([]:List (List Int))
     else
       (B5W d a).bind λc=>
       some c
def C1M (c:Int) (a:List Bool) (b:Int):Option ((Int×(List Bool))⊕(Unit⊕(Int×Int))):=
 bif decide (0≤b) then
  (G7 a b).bind λk=>
  bif k then
   some (inr (inr (c,51)))
  else
   bif decide (0≤b) then
    (G7 a b).bind λm=>
    (some (List.set a b.toNat true)).bind λj=>
    (J5 (c+1)).bind λe=>
    some (inl (e,j))
   else
    (J5 (c+1)).bind λd=>
    some (inl (d,a))
 else
  bif decide (0≤b) then
   (G7 a b).bind λl=>
   (some (List.set a b.toNat true)).bind λh=>
   (J5 (c+1)).bind λg=>
   some (inl (g,h))
  else
   (J5 (c+1)).bind λi=>
   some (inl (i,a))
def B5e (a:List Int) (d:Bool) (h:Int):(Int×(List Bool))→Option ((Int×(List Bool))⊕(Unit⊕(Int×Int))):=λ(c,b)=>
 bif decide (c<(a.length:Int)) then
  (G7 a c).bind λe=>
  (
   bif decide (e=(-1)) then
    some d
   else
    some false).bind λg=>
  bif g then
   some (inr (inr (c,52)))
  else
   (
    bif decide (e<(-1)) then
     some true
    else
     some (decide (h≤e))).bind λi=>
   bif i then
    some (inr (inr (c,50)))
   else
    C1M c b e
 else
  some (inr (inl ()))
def B9X (g:C9) (a:List Int) (b:Bool):Option (Int×Int):=
 bif !decide ((a.length:Int)=(g.A7.length:Int)) then
   some (0,53)
 else
   (A2u g.C8).bind λc=>
   (mkL c false).bind λd=>
   (
     iter (B5e a b c) FUEL (0,d)).bind λe=>match e with
   | .inl _u=>
     some (0,0)
   | .inr p=>
     some p
def B7G (g:C9) (b:List Int) (a:Bool):Option (Int×Int):=
 (A3n g).bind λ(h,c)=>
 bif !decide (c=0) then
   some (0,c)
 else
   (B9X g b a).bind λ(e,d)=>
   some (e,d)
def B3Q (d:C9) (a:List Int):Option (Int×Int):=
 (B7G d a false).bind λ(c,b)=>
 some (c,b)
end Go.Dm
open Go Go.Sl Sum
namespace Go.Dm
def A6S (o:C9):((List Int)×(List Int)×(List (List (List Int)))×Int)→Option (((List Int)×(List Int)×(List (List (List Int)))×Int)⊕((List Int)×(List Int)×(List (List (List Int))))):=λ(a,c,b,e)=>
 bif decide (e<(o.C8.length:Int)) then
  (apL c [(a.length:Int)]).bind λg=>
  (
   (G7 o.C8 e).bind λn=>
   (B2J n).bind λm=>
   (A6n [e] m).bind λj=>
   (apL a j).bind λh=>
   some h).bind λd=>
  (B2v o e).bind λk=>
  (apL b [k]).bind λi=>
  (J5 (e+1)).bind λl=>
  some (inl (d,g,i,l))
 else
  some (inr (a,c,b))
def A4l (j:C9):Option ((Option M3)×Int×Int):=
 (B1Q j).bind λ(i,h,e)=>
 bif !decide (e=0) then
   some ((none),h,e)
 else
   i.bind λd=>
   (A8v d).bind λg=>
   (
     iter (A6S j) FUEL (([]:List Int),([]:List Int),([]:List (List (List Int))),0)).bind λ(c,b,a)=>
   some ((some (M3.mk d g c b a)),0,0)
def A6N (b:Int) (a:Int):(Int×Int)→Option ((Int×Int)⊕(Int⊕Int)):=λ(h,d)=>
 bif decide (d<a) then
  (J5 (b - d)).bind λg=>
  (J5 (h*g)).bind λc=>
  bif decide (20000<c) then
   some (inr (inr c))
  else
   (J5 (d+1)).bind λe=>
   some (inl (c,e))
 else
  some (inr (inl h))
def A6l (b:Int) (a:Int):Option (Int):=
 (
   iter (A6N b a) FUEL (1,0)).bind λc=>match c with
 | .inl d=>
   some d
 | .inr p=>
   some p
def A0r (e:C9):Option ((Option M3)×Int):=
 (A4l e).bind λ(c,g,b)=>
 bif !decide (b=0) then
   some ((none),b)
 else
   c.bind λa=>
   (A6l (a.Z8.length:Int) (e.A7.length:Int)).bind λd=>
   bif decide (20000<d) then
     some ((none),8)
   else
     some ((some a),0)
def A1y (b:M3):Option (List Int):=
 (A6n [(-1)] (b.fp.A7.length:Int)).bind λa=>
 some a
def B5I (b:List Int) (g:Int):Int→Option (Int⊕Unit):=λa=>
 bif decide (a<(b.length:Int)) then
  (G7 b a).bind λc=>
  bif !decide (a=g) then
   bif decide (0≤c) then
    none
   else
    (J5 (a+1)).bind λe=>
    some (inl e)
  else
   (J5 (a+1)).bind λd=>
   some (inl d)
 else
  some (inr ())
def C1H (g:M3) (a:List Int) (m:Int) (o:Int) (b:Int):Option (Bool):=
 (G7 g.B2D b).bind λk=>
 bif decide ((k.length:Int)≤o) then
  none
 else
  (G7 g.B2D b).bind λj=>
  (G7 j o).bind λh=>
  (G7 g.B7Y b).bind λc=>
  (
   iter (B5I a m) FUEL 0).bind λ_u=>
  (G7 a m).bind λn=>
  (J5 (n - c)).bind λd=>
  (G7 h d).bind λe=>
  (G7 a m).bind λl=>
  (J5 (l - c)).bind λi=>
  some (decide (e<i))
def C1l (d:M3) (a:List Int) (g:Int) (e:Int):Option (Bool):=
 (G7 a g).bind λc=>
 (G7 d.Z8 c).bind λb=>
 bif decide (e<0) then
   none
 else
   C1H d a g e b
def B6Y (h:M3) (c:List Int) (b:Int) (k:List Int) (d:Int):Option (Int⊕(Unit⊕Bool)):=
 (G7 c d).bind λa=>
 (G7 h.Z8 a).bind λm=>
 bif !decide (m=b) then
  (J5 (d+1)).bind λo=>
  some (inl o)
 else
  (G7 h.B7Y b).bind λn=>
  (G7 h.B7Y b).bind λl=>
  (J5 (a - l)).bind λg=>
  (G7 k g).bind λi=>
  (J5 (n+i)).bind λe=>
  bif decide (e<a) then
   some (inr (inr false))
  else
   bif decide (a<e) then
    some (inr (inl ()))
   else
    (J5 (d+1)).bind λj=>
    some (inl j)
def B0S (e:M3) (a:List Int) (c:Int) (d:List Int):Int→Option (Int⊕(Unit⊕Bool)):=λb=>
 bif decide (b<(a.length:Int)) then
  B6Y e a c d b
 else
  some (inr (inl ()))
def B0x (i:M3) (b:List Int) (e:Int) (c:List (List Int)):Int→Option (Int⊕(Unit⊕Bool)):=λa=>
 bif decide (a<(c.length:Int)) then
  (G7 c a).bind λg=>
  (
   iter (B0S i b e g) FUEL 0).bind λh=>match h with
  | .inl _u=>
   (J5 (a+1)).bind λd=>
   some (inl d)
  | .inr p=>
   some (inr (inr p))
 else
  some (inr (inl ()))
def B0R (d:M3) (b:List Int):Int→Option (Int⊕(Unit⊕Bool)):=λa=>
 bif decide (a<(d.B2D.length:Int)) then
  (G7 d.B2D a).bind λg=>
  (
   iter (B0x d b a g) FUEL 0).bind λc=>match c with
  | .inl _u=>
   (J5 (a+1)).bind λe=>
   some (inl e)
  | .inr p=>
   some (inr (inr p))
 else
  some (inr (inl ()))
def A6E (c:M3) (a:List Int):Option (Bool):=
 (
   iter (B0R c a) FUEL 0).bind λb=>match b with
 | .inl _u=>
   some true
 | .inr p=>
   some p
def B4l (g:Int):(Int×(Option M3)×Int)→Option ((Int×(Option M3)×Int)⊕Int):=λ(b,i,a)=>
 bif decide (b<g) then
  i.bind λc=>
  (A6l (c.Z8.length:Int) b).bind λh=>
  (J5 (a+h)).bind λe=>
  (J5 (b+1)).bind λd=>
  some (inl (d,(some c),e))
 else
  some (inr a)
def B8Z (e:C9):Option (Int×Int):=
 (A0r e).bind λ(b,d)=>
 bif !decide (d=0) then
   none
 else
   (J5 ((e.A7.length:Int)+1)).bind λc=>
   (
     iter (B4l c) FUEL (0,b,0)).bind λa=>
   some (a,0)
end Go.Dm
open Go Go.Sl Sum
namespace Go.Dm
def A6c (b:List Int) (a:Int):Option (List Int):=
 (G7 b a).bind λd=>
 (some (List.set b a.toNat (-1))).bind λc=>
 some c
def A4s {σ:Type} (g:σ) (a:List Int) (c:Int):Int→Option (Int⊕(Unit⊕(σ×(List Int)))):=λb=>
 bif decide (b<(a.length:Int)) then
  (G7 a b).bind λd=>
  bif decide (d=c) then
   some (inr (inr (g,a)))
  else
   (J5 (b+1)).bind λe=>
   some (inl e)
 else
  some (inr (inl ()))
def B7N {σ:Type} (self:M3→(List Int)→(σ→(List Int)→Option (σ×Bool))→σ→Option (Bool×(List Int)×σ)) (o:M3) (c:σ→(List Int)→Option (σ×Bool)) (d:Int) (k:σ) (a:List Int) (e:Int):Option ((σ×(List Int))⊕(Bool×(List Int)×σ)):=
 (
  iter (A4s k a e) FUEL 0).bind λi=>match i with
 | .inl _u=>
  (G7 a d).bind λm=>
  (some (List.set a d.toNat e)).bind λl=>
  (self o l c k).bind λ(j,b,g)=>
  bif !j then
   some (inr (false,b,g))
  else
   (G7 b d).bind λn=>
   (some (List.set b d.toNat (-1))).bind λh=>
   some (inl (g,h))
 | .inr p=>
  some (inl p)
def A6M {σ:Type} (self:M3→(List Int)→(σ→(List Int)→Option (σ×Bool))→σ→Option (Bool×(List Int)×σ)) (i:M3) (c:σ→(List Int)→Option (σ×Bool)) (h:Int):(σ×(List Int)×Int)→Option ((σ×(List Int)×Int)⊕((σ×(List Int))⊕(Bool×(List Int)×σ))):=λ(g,a,b)=>
 bif decide (b<(i.Z8.length:Int)) then
  (
   B7N self i c h g a b).bind λe=>match e with
  | .inl (s115,part118)=>
   (J5 (b+1)).bind λd=>
   some (inl (s115,part118,d))
  | .inr p=>
   some (inr (inr p))
 else
  some (inr (inl (g,a)))
def B7j {σ:Type} (self:M3→(List Int)→(σ→(List Int)→Option (σ×Bool))→σ→Option (Bool×(List Int)×σ)) (i:M3) (a:List Int) (b:σ→(List Int)→Option (σ×Bool)) (h:σ):Option (Bool×(List Int)×σ):=
 (A4o a (-1)).bind λc=>
 bif decide (c<0) then
  (b h a).bind λ(g,d)=>
  some (d,a,g)
 else
  (
   iter (A6M self i b c) FUEL (h,a,0)).bind λe=>match e with
  | .inl (s95,part98)=>
   (match (true,part98,s95) with | (r_0_,q_1_,q_s_)=>(A6c q_1_ c).bind λq_1_=>some (r_0_,q_1_,q_s_))
  | .inr p=>
   (match p with | (r_0_,q_1_,q_s_)=>(A6c q_1_ c).bind λq_1_=>some (r_0_,q_1_,q_s_))
def A6m {σ:Type}:Nat→M3→(List Int)→(σ→(List Int)→Option (σ×Bool))→σ→Option (Bool×(List Int)×σ)
 | 0,_,_,_,_=>none
 | n+1,h1,part2,yield4,s0=>
  (B2I h1.F4 part2).bind λ(b,a)=>
  bif a then
   some (true,part2,s0)
  else
   B7j (A6m n) h1 part2 yield4 s0
def A0U {σ:Type} (a:σ→(List Int)→Option (σ×Bool)) (h:σ) (e:M3) (g:List Int):Option (σ):=
 (A0L g).bind λc=>
 (A6m A4P e c a h).bind λ(d,i,b)=>
 some b
def A2r (b:M3) (a:List Int):Option (M3×(List Int)):=
 some (b,a)
def B4c (a:Q6) (b:Int):Option ((Int×(List Int))⊕Y9):=
 some (inr (Y9.mk a.fat b))
def C0X (self:Q6→Int→Option ((Int×(List Int))⊕Y9)) (l:Q6) (b:N9) (d:Int) (a:List Int) (c:Int):Option ((Int×(List Int)×Int)⊕((Int×(List Int))⊕Y9)):=
 (A1g a c).bind λn=>
 bif !n then
  (G7 a b.fN).bind λp=>
  (some (List.set a b.fN.toNat c)).bind λk=>
  (self (Q6.mk l.A9J l.A7C l.A3o d k) b.fN).bind λm=>match m with
  | .inr j=>
   some (inr (inr j))
  | .inl e=>
  (G7 e.2 b.fN).bind λo=>
  (some (List.set e.2 b.fN.toNat (-1))).bind λg=>
  (J5 (c+1)).bind λi=>
  some (inl (e.1,g,i))
 else
  (J5 (c+1)).bind λh=>
  some (inl (d,a,h))
def B3G (self:Q6→Int→Option ((Int×(List Int))⊕Y9)) (e:Q6) (d:N9):(Int×(List Int)×Int)→Option ((Int×(List Int)×Int)⊕((Int×(List Int))⊕Y9)):=λ(b,a,c)=>
 bif decide (c<(e.A9J.Z8.length:Int)) then
  C0X self e d b a c
 else
  some (inr (inl (b,a)))
def B9U (self:Q6→Int→Option ((Int×(List Int))⊕Y9)) (b:Q6) (a:N9):Option ((Int×(List Int))⊕Y9):=
 bif decide (a.fN<0) then
  none
 else
  bif decide ((b.Q4.length:Int)≤a.fN) then
   none
  else
   (G7 b.Q4 a.fN).bind λd=>
   bif decide (0≤d) then
    none
   else
    (J5 (b.fat+1)).bind λe=>
    (
     iter (B3G self b a) FUEL (e,b.Q4,0)).bind λc=>match c with
    | .inl (at57,part58)=>
     some (inl (at57,part58))
    | .inr p=>
     some (inr p)
def C0x (b:Q6) (a:Int) (e:N9):Option ((Int×(List Int))⊕Y9):=
 bif decide (e.F9=4) then
  bif decide (a<0) then
   none
  else
   (C1l b.A9J b.Q4 a e.fN).bind λd=>
   bif !d then
    (B4c (Q6.mk b.A9J b.A7C b.A3o b.fat b.Q4) 65).bind λc=>match c with
    | .inr g=>
     some (inr g)
    | .inl i=>
    none
   else
    (J5 (b.fat+1)).bind λh=>
    some (inl (h,b.Q4))
 else
  none
def C1A (b:Q6) (c:Int) (a:N9):Option ((Int×(List Int))⊕Y9):=
 bif decide (a.F9=2) then
  bif decide (a.fN<0) then
   none
  else
   bif decide ((b.A9J.fp.J9.length:Int)≤a.fN) then
    none
   else
    (G7 b.A9J.fp.J9 a.fN).bind λg=>
    bif decide (0<g.K6) then
     none
    else
     (B8V b.A9J.F4 b.Q4 a.fN).bind λe=>
     bif decide (e=0) then
      none
     else
      (J5 (b.fat+1)).bind λd=>
      some (inl (d,b.Q4))
 else
  bif decide (a.F9=3) then
   none
  else
   C0x b c a
def B0y:Nat→Q6→Int→Option ((Int×(List Int))⊕Y9)
 | 0,_,_=>none
 | n+1,r1,last2=>
  bif decide (r1.fat=(r1.A3o.length:Int)) then
   (B4c (Q6.mk r1.A9J r1.A7C r1.A3o r1.fat r1.Q4) 60).bind λc=>match c with
   | .inr b=>
    some (inr b)
   | .inl d=>
   none
  else
   (G7 r1.A3o r1.fat).bind λa=>
   bif decide (a.F9=1) then
    B9U (B0y n) r1 a
   else
    C1A r1 last2 a
end Go.Dm
open Go Go.Sl Sum
namespace Go.Dm
def B9v (a:Int) (b:Int) (x_:Y9):Option (Int×Int):=
 some (x_.fat,x_.fe)
def A7X (l:C9) (b:Int) (a:List N9):Option (Int×Int):=
 (A4l l).bind λ(j,k,e)=>
 bif !decide (e=0) then
   none
 else
   bif decide (200000<(a.length:Int)) then
     none
   else
     j.bind λd=>
     (A1y d).bind λi=>
     (B0y A4P (Q6.mk d b a 0 i) (-1)).bind λh=>match h with
     | .inr c=>
       some (c.fat,c.fe)
     | .inl g=>
     bif decide (g.1<(a.length:Int)) then
       none
     else
       some (0,0)
def B2W (e:M3):((Int×Int)⊕Unit)→(List Int)→Option (((Int×Int)⊕Unit)×Bool):=λo_ c=>
 match o_ with
 | .inl (c71,c72)=>
  (J5 (c71+1)).bind λb=>
  (A6E e c).bind λd=>
  bif d then
   (J5 (c72+1)).bind λa=>
   some (inl (b,a),true)
  else
   some (inl (b,c72),true)
 | .inr _=>none
def B2q (h:C9):Option (Int×Int×Int):=
 (A0r h).bind λ(g,c)=>
 bif !decide (c=0) then
   some (0,0,c)
 else
   g.bind λa=>
   (A1y a).bind λd=>
   (A2r a d).bind λb=>
   (A0U (B2W a) (inl (0,0)) b.1 b.2).bind λe=>match e with
   | .inl (c71,c72)=>
     some (c71,c72,0)
   | .inr _=>none
end Go.Dm
open Go Go.Sl Sum
namespace Go.Dm
def B3T (e:M3):(((List Int)×Int×Bool)⊕Unit)→(List Int)→Option ((((List Int)×Int×Bool)⊕Unit)×Bool):=λo_ b=>
 match o_ with
 | .inl (plan74,cost79,c80)=>
  (B6E e.F4 b).bind λa=>
  bif !c80 then
   (A0L b).bind λd=>
   some (inl (d,a,true),true)
  else
   bif decide (a<cost79) then
    (A0L b).bind λc=>
    some (inl (c,a,true),true)
   else
    some (inl (plan74,cost79,c80),true)
 | .inr _=>none
def B9c (h:C9):Option (A9v×Int):=
 (A0r h).bind λ(g,c)=>
 bif !decide (c=0) then
   some ((A9v.mk ([]:List Int) 0),c)
 else
   g.bind λa=>
   (A1y a).bind λd=>
   (A2r a d).bind λb=>
   (A0U (B3T a) (inl (([]:List Int),0,false)) b.1 b.2).bind λe=>match e with
   | .inl (plan74,cost79,c80)=>
     bif !c80 then
       some ((A9v.mk ([]:List Int) 0),9)
     else
       some ((A9v.mk plan74 cost79),0)
   | .inr _=>none
def B5C (a:Int) (g:M3):((Int×(List (List Int)))⊕(Int×(List (List Int))))→(List Int)→Option (((Int×(List (List Int)))⊕(Int×(List (List Int))))×Bool):=λo_ e=>
 match o_ with
 | .inl (c79,c80)=>
  (A6E g e).bind λc=>
  bif !c then
   some (inl (c79,c80),true)
  else
   bif decide (a≤(c80.length:Int)) then
    some (inr (7,c80),false)
   else
    (A0L e).bind λd=>
    (apL c80 [d]).bind λb=>
    some (inl (c79,b),true)
 | .inr _=>none
def B6C (i:C9) (a:Int):Option ((List (List Int))×Int):=
 (A0r i).bind λ(g,h)=>
 bif !decide (h=0) then
   none
 else
   g.bind λb=>
   (A1y b).bind λd=>
   (A2r b d).bind λc=>
   (A0U (B5C a b) (inl (0,([]:List (List Int)))) c.1 c.2).bind λe=>match e with
   | .inl (c79,c80)=>
     some (c80,0)
   | .inr (c79,c80)=>
     some (([]:List (List Int)),c79)
def B1G:((List Int)⊕(List Int))→(List Int)→Option (((List Int)⊕(List Int))×Bool):=λo_ a=>
 match o_ with
 | .inl c=>
  (A0L a).bind λb=>
  some (inr b,false)
 | .inr _=>none
def B8x (b:List Int) (k:Option M3) (a:Int):Option ((List Int)×Int):=
 k.bind λg=>
 (J5 ((g.Z8.length:Int) - a)).bind λh=>
 (J5 ((b.length:Int) - a)).bind λj=>
 (A6l h j).bind λi=>
 bif decide (20000<i) then
  some (([]:List Int),8)
 else
  (A2r g b).bind λe=>
  (A0U B1G (inl ([]:List Int)) e.1 e.2).bind λd=>match d with
  | .inl c=>
   some (([]:List Int),9)
  | .inr c=>
   some (c,0)
def B1B (b:List Int):(Int×Int)→Option ((Int×Int)⊕Int):=λ(a,c)=>
 bif decide (c<(b.length:Int)) then
  (G7 b c).bind λd=>
  bif decide (0≤d) then
   (J5 (a+1)).bind λh=>
   (J5 (c+1)).bind λg=>
   some (inl (h,g))
  else
   (J5 (c+1)).bind λe=>
   some (inl (a,e))
 else
  some (inr a)
def B5o (g:C9) (a:List Int):Option ((List Int)×Int):=
 (A4l g).bind λ(e,i,c)=>
 bif !decide (c=0) then
   some (([]:List Int),c)
 else
   (B3Q g a).bind λ(h,d)=>
   bif !decide (d=0) then
     some (([]:List Int),d)
   else
     (
       iter (B1B a) FUEL (0,0)).bind λb=>
     B8x a e b
end Go.Dm
open Go Go.Sl Sum
namespace Go.Dm
def B0e (c:H8) (b:H8):Option (Int):=
 (J5 (c.A3v - b.A3v)).bind λa=>
 some a
def B3f:(List H8)→Int×H8→Option (List H8):=λa (d,c)=>
 (apL a [c]).bind λb=>
 some b
def B3e:(List H8)→Option ((List H8)×Int):=λa=>
 (B3A a B0e).bind λb=>
 some (b,0)
def B2Q (i:M3):((List (Int×H8))⊕Unit)→(List Int)→Option (((List (Int×H8))⊕Unit)×Bool):=λo_ h=>
 match o_ with
 | .inl d=>
  (B6E i.F4 h).bind λa=>
  (lkM d a (H8.mk 0 0 0)).bind λ(b,l)=>
  (J5 (b.A3h+1)).bind λc=>
  (A6E i h).bind λj=>
  bif j then
   (J5 (b.Y6+1)).bind λk=>
   (some (A2z d a (H8.mk a k c))).bind λe=>
   some (inl e,true)
  else
   (some (A2z d a (H8.mk a b.Y6 c))).bind λg=>
   some (inl g,true)
 | .inr _=>none
def B6P (i:C9):Option ((List H8)×Int):=
 (A0r i).bind λ(h,e)=>
 bif !decide (e=0) then
   none
 else
   h.bind λa=>
   (A1y a).bind λc=>
   (A2r a c).bind λb=>
   (A0U (B2Q a) (inl ([]:List (Int×H8))) b.1 b.2).bind λg=>match g with
   | .inl d=>
     C6G d (λl_=>Option.bind (Z9 B3f ([]:List H8) l_) B3e)
   | .inr _=>none
end Go.Dm
open Go Go.Sl Sum
namespace Go.Dm
end Go.Dm
open Go Go.Sl Sum
namespace Go.Dm
def B3a (e:List Int) (g:List Int):Int→Option (Int⊕(Unit⊕Bool)):=λa=>
 bif decide (a<(e.length:Int)) then
  (G7 e a).bind λd=>
  (G7 g a).bind λb=>
  bif !decide (d=b) then
   some (inr (inr false))
  else
   (J5 (a+1)).bind λc=>
   some (inl c)
 else
  some (inr (inl ()))
def A9k (b:List Int) (a:List Int):Option (Bool):=
 bif !decide ((b.length:Int)=(a.length:Int)) then
   some false
 else
   (
     iter (B3a b a) FUEL 0).bind λc=>match c with
   | .inl _u=>
     some true
   | .inr p=>
     some p
def B1O (g:List (List Int)) (h:List (List Int)):Int→Option (Int⊕Unit):=λa=>
 bif decide (a<(g.length:Int)) then
  (G7 g a).bind λe=>
  (G7 h a).bind λc=>
  (A9k e c).bind λd=>
  bif !d then
   none
  else
   (J5 (a+1)).bind λb=>
   some (inl b)
 else
  some (inr ())
def B5T (b:List (List Int)) (a:List (List Int)):Option (Bool):=
 bif !decide ((b.length:Int)=(a.length:Int)) then
   none
 else
   (
     iter (B1O b a) FUEL 0).bind λ_u=>
   some true
def C1u (d:List H8) (b:A9v) (h:List (List Int)) (c:List Int):Option (Bool):=
 (G7 d 1).bind λa=>
 bif (decide (a.A3v=5) && (decide (a.Y6=2) && (decide (a.A3h=16) && true))) then
  bif decide (b.A3v=0) then
   (A9k b.C9B [0,2,1]).bind λg=>
   bif g then
    (B5T h [[0,1,2],[0,1,3],[0,2,1]]).bind λe=>
    bif e then
     (A9k c [1,0,2]).bind λi=>
     some i
    else
     none
   else
    none
  else
   none
 else
  none
def C0i:Option (Bool):=
 (B0T [(F7.mk 3 5 (⟨#[97,110,110,97]⟩:ByteArray) (⟨#[98,111,114,105,115]⟩:ByteArray) (⟨#[]⟩:ByteArray) 0)]).bind λa=>
 (B6P a).bind λ(b,k)=>
 (B9c a).bind λ(o,g)=>
 (B6C a 3).bind λ(n,h)=>
 (B6C a 2).bind λ(p,i)=>
 (B5o a [(-1),0,(-1)]).bind λ(d,l)=>
 (J5 (k+g)).bind λe=>
 (J5 (e+h)).bind λm=>
 (J5 (m+l)).bind λj=>
 bif decide (j=0) then
  bif decide (i=7) then
   bif decide ((b.length:Int)=2) then
    (G7 b 0).bind λc=>
    bif (decide (c.A3v=0) && (decide (c.Y6=1) && (decide (c.A3h=8) && true))) then
     C1u b o n d
    else
     none
   else
    none
  else
   none
 else
  none
def C0a (h:Int) (g:Int) (e:Int):Option (Bool):=
 bif !decide (h=60) then
  none
 else
  bif !decide (g=5) then
   none
  else
   bif !decide (e=65) then
    none
   else
    (B0T ([]:List F7)).bind λa=>
    (B2q a).bind λ(c,b,d)=>
    bif !decide (c=24) then
     none
    else
     bif !decide (b=3) then
      none
     else
      bif !decide (d=0) then
       none
      else
       C0i
def C0q (h:C9):Option (Bool):=
 (bdV 0 7 ([(N9.mk 1 0),(N9.mk 1 1),(N9.mk 2 0),(N9.mk 2 0),(N9.mk 2 0),(N9.mk 4 2),(N9.mk 4 4),(N9.mk 4 1)].length:Int)).bind λi=>
 (A7X h (-1) (Go.Sl.sub [(N9.mk 1 0),(N9.mk 1 1),(N9.mk 2 0),(N9.mk 2 0),(N9.mk 2 0),(N9.mk 4 2),(N9.mk 4 4),(N9.mk 4 1)] (0:Int).toNat (7:Int).toNat)).bind λ(e,g)=>
 (G7 [(N9.mk 1 0),(N9.mk 1 1),(N9.mk 2 0),(N9.mk 2 0),(N9.mk 2 0),(N9.mk 4 2),(N9.mk 4 4),(N9.mk 4 1)] 5).bind λc=>
 (some (List.set [(N9.mk 1 0),(N9.mk 1 1),(N9.mk 2 0),(N9.mk 2 0),(N9.mk 2 0),(N9.mk 4 2),(N9.mk 4 4),(N9.mk 4 1)] (5:Int).toNat (N9.mk c.F9 0))).bind λb=>
 (A7X h (-1) b).bind λ(a,d)=>
 bif !decide (e=7) then
  none
 else
  C0a g a d
def A6g  : Option (Bool):=
 (B0T [(F7.mk 1 0 (⟨#[97,110,110,97]⟩:ByteArray) (⟨#[98,111,114,105,115]⟩:ByteArray) (⟨#[]⟩:ByteArray) 2)]).bind λa=>
 (B2q a).bind λ(e,b,i)=>
 (B8Z a).bind λ(c,j)=>
 (A7X a (-1) [(N9.mk 1 0),(N9.mk 1 1),(N9.mk 2 0),(N9.mk 2 0),(N9.mk 2 0),(N9.mk 4 2),(N9.mk 4 4),(N9.mk 4 1)]).bind λ(d,h)=>
 (J5 (e+b)).bind λg=>
 bif !decide (g=0) then
   none
 else
   bif !decide (i=0) then
     none
   else
     bif !decide (c=41) then
       none
     else
       bif !decide (j=0) then
         none
       else
         bif !decide (d=0) then
           none
         else
           bif !decide (h=0) then
             none
           else
             C0q a
def B6L (c:Int) (b:Int):Option (Int):=
 (U9 c b).bind λa=>
 bif decide (a<0) then
   (J5 (a+b)).bind λd=>
   some d
 else
   some a
def A2W (h:C9):(Int×Int)→Option ((Int×Int)⊕Int):=λ(c,b)=>
 bif decide (b<(h.C8.length:Int)) then
  (G7 h.C8 b).bind λa=>
  (A1n (D7.mk a.F8 a.P8 a.fA a.fB ([]:List Int) a.fX a.fY)).bind λd=>
  (J5 (c+d)).bind λe=>
  (J5 (b+1)).bind λg=>
  some (inl (e,g))
 else
  some (inr c)
def A8m (b:C9):Option (Int):=
 (
   iter (A2W b) FUEL (0,0)).bind λa=>
 some a
def A7a (a:List Bool) (c:Int):Int→Option (Int⊕(Unit⊕(Int×(List Bool)))):=λg=>
 bif decide (g<(a.length:Int)) then
  (J5 (c+g)).bind λh=>
  (U9 h (a.length:Int)).bind λb=>
  (G7 a b).bind λd=>
  bif !d then
   (G7 a b).bind λj=>
   (some (List.set a b.toNat true)).bind λe=>
   some (inr (inr (b,e)))
  else
   (J5 (g+1)).bind λi=>
   some (inl i)
 else
  some (inr (inl ()))
def A6f (a:List Bool) (b:Int):Option (Int×(List Bool)):=
 (
   iter (A7a a b) FUEL 0).bind λc=>match c with
 | .inl _u=>
   some ((-1),a)
 | .inr p=>
   some p
def B5h (b:List Int) (p:Int) (c:List Int) (d:Int) (a:List Bool):Option (((List Int)×Int×(List Bool))⊕(List Int)):=
 bif decide (d<(b.length:Int)) then
  (G7 b d).bind λi=>
  (B6L i p).bind λg=>
  (A6f a g).bind λ(l,h)=>
  (apL c [l]).bind λm=>
  (J5 (d+1)).bind λe=>
  some (inl (m,e,h))
 else
  (A6f a 0).bind λ(k,n)=>
  (apL c [k]).bind λo=>
  (J5 (d+1)).bind λj=>
  some (inl (o,j,n))
def A7T (c:List Int) (d:List Int) (j:Int):((List Int)×Int×(List Bool))→Option (((List Int)×Int×(List Bool))⊕(List Int)):=λ(b,e,a)=>
 bif decide (e<(c.length:Int)) then
  (G7 c e).bind λi=>
  bif decide (i<0) then
   B5h d j b e a
  else
   (apL b [i]).bind λh=>
   (J5 (e+1)).bind λg=>
   some (inl (h,g,a))
 else
  some (inr b)
def A8i (b:List Int):((List Bool)×Int)→Option (((List Bool)×Int)⊕(List Bool)):=λ(a,c)=>
 bif decide (c<(b.length:Int)) then
  (G7 b c).bind λh=>
  bif decide (0≤h) then
   (G7 b c).bind λd=>
   (G7 a d).bind λj=>
   (some (List.set a d.toNat true)).bind λg=>
   (J5 (c+1)).bind λi=>
   some (inl (g,i))
  else
   (J5 (c+1)).bind λe=>
   some (inl (a,e))
 else
  some (inr a)
def B2L (h:C9) (a:List Int) (c:List Int):Option (List Int):=
 (A8m h).bind λe=>
 (mkL e false).bind λg=>
 (
   iter (A8i a) FUEL (g,0)).bind λb=>
 (
   iter (A7T a c e) FUEL (([]:List Int),0,b)).bind λd=>
 some d
def A4h (b:F5):Int→Option (Int⊕(Unit⊕Bool)):=λa=>
 bif decide (a<(b.F4.O9.J9.length:Int)) then
  (G7 b.F4.O9.J9 a).bind λg=>
  bif decide (g.K6=0) then
   (A4q b a).bind λe=>
   bif decide (0<e) then
    some (inr (inr false))
   else
    (J5 (a+1)).bind λc=>
    some (inl c)
  else
   (J5 (a+1)).bind λd=>
   some (inl d)
 else
  some (inr (inl ()))
def A6o (h:O0) (a:List Int):Option (Bool):=
 (A5S h a).bind λg=>
 (
   bif g.isNone then
     some true
   else
     (A1g a (-1)).bind λd=>
     some d).bind λc=>
 bif c then
   some false
 else
   g.bind λb=>
   (
     iter (A4h b) FUEL 0).bind λe=>match e with
   | .inl _u=>
     some true
   | .inr p=>
     some p
def A5E (e:C9):((List Int)×Int)→Option (((List Int)×Int)⊕(List Int)):=λ(a,b)=>
 bif decide (b<(e.A7.length:Int)) then
  (apL a [(-1)]).bind λc=>
  (J5 (b+1)).bind λd=>
  some (inl (c,d))
 else
  some (inr a)
def A9f (b:C9):Option (List Int):=
 (
   iter (A5E b) FUEL (([]:List Int),0)).bind λa=>
 some a
def B1X (d:C9) (a:List Int):Option (List Int):=
 (A9f d).bind λc=>
 (B2L d c a).bind λb=>
 some b
def A2K (i:List Int):((List Int)×Int)→Option (((List Int)×Int)⊕(List Int)):=λ(b,a)=>
 bif decide (a<(i.length:Int)) then
  (G7 i a).bind λg=>
  (G7 b a).bind λe=>
  bif !decide (e=g) then
   (G7 b a).bind λj=>
   (some (List.set b a.toNat (-1))).bind λh=>
   (J5 (a+1)).bind λc=>
   some (inl (h,c))
  else
   (J5 (a+1)).bind λd=>
   some (inl (b,d))
 else
  some (inr b)
def A4H:(((List Int)×Bool)⊕Unit)→(List Int)→Option ((((List Int)×Bool)⊕Unit)×Bool):=λo_ d=>
 match o_ with
 | .inl (c70,c75)=>
  (
   bif !c75 then
    (A0L d).bind λa=>
    some (a,true)
   else
    some (c70,c75)).bind λ(e,b)=>
  (
   iter (A2K d) FUEL (e,0)).bind λc=>
  some (inl (c,b),true)
 | .inr _=>none
def A3K (h:C9):Option ((List Int)×Int):=
 (A0r h).bind λ(e,b)=>
 bif !decide (b=0) then
   some (([]:List Int),b)
 else
   e.bind λa=>
   (A1y a).bind λg=>
   (A2r a g).bind λc=>
   (A0U A4H (inl (([]:List Int),false)) c.1 c.2).bind λd=>match d with
   | .inl (c70,c75)=>
     bif !c75 then
       some (([]:List Int),9)
     else
       some (c70,0)
   | .inr _=>none
def A4C (c:Int):((List Int)⊕(List Int))→(List Int)→Option (((List Int)⊕(List Int))×Bool):=λo_ d=>
 match o_ with
 | .inl a=>
  (apL a [c]).bind λb=>
  some (inr b,false)
 | .inr _=>none
def A4v (l:Int) (d:M3):((List Int)×Int)→Option (((List Int)×Int)⊕(List Int)):=λ(j,b)=>
 bif decide (b<(d.Z8.length:Int)) then
  (A1y d).bind λh=>
  (G7 h l).bind λm=>
  (some (List.set h l.toNat b)).bind λe=>
  (A2r d e).bind λc=>
  (A0U (A4C b) (inl j) c.1 c.2).bind λg=>match g with
  | .inl a=>
   (J5 (b+1)).bind λi=>
   some (inl (a,i))
  | .inr a=>
   (J5 (b+1)).bind λk=>
   some (inl (a,k))
 else
  some (inr j)
def A8f (h:C9) (a:Int):Option ((List Int)×Int):=
 (A0r h).bind λ(d,b)=>
 bif !decide (b=0) then
   some (([]:List Int),b)
 else
   (
     bif decide (a<0) then
       some true
     else
       some (decide ((h.A7.length:Int)≤a))).bind λe=>
   bif e then
     some (([]:List Int),2)
   else
     d.bind λg=>
     (
       iter (A4v a g) FUEL (([]:List Int),0)).bind λc=>
     some (c,0)
def A1U (c:List Int) (b:Int) (a:List Int):Option (Bool):=
 bif decide ((a.length:Int)=1) then
  (G7 c b).bind λg=>
  (G7 a 0).bind λh=>
  bif !decide (g=h) then
   some true
  else
   bif decide (1<(a.length:Int)) then
    (G7 c b).bind λe=>
    some (!decide (e=(-1)))
   else
    some false
 else
  bif decide (1<(a.length:Int)) then
   (G7 c b).bind λd=>
   some (!decide (d=(-1)))
  else
   some false
def A7m (l:C9) (b:List Int) (a:Int) (c:Bool):Option ((Bool×Int)⊕(Bool⊕Bool)):=
 (G7 b a).bind λe=>
 (A1P l.C8 e).bind λ(n,m,d)=>
 bif !d then
  some (inr (inr false))
 else
  bif decide (0<a) then
   (G7 b a).bind λh=>
   (J5 (a - 1)).bind λk=>
   (G7 b k).bind λi=>
   bif decide (h≤i) then
    some (inr (inr false))
   else
    (J5 (a+1)).bind λg=>
    some (inl (c,g))
  else
   (J5 (a+1)).bind λj=>
   some (inl (c,j))
def A0O (j:C9) (i:Int) (g:List Int) (c:List Int):(Bool×Int)→Option ((Bool×Int)⊕(Bool⊕Bool)):=λ(a,b)=>
 bif decide (b<(c.length:Int)) then
  (
   bif a then
    some true
   else
    (G7 c b).bind λh=>
    (G7 g i).bind λe=>
    some (decide (h=e))).bind λd=>
  A7m j c b d
 else
  some (inr (inl a))
def A7o (k:C9) (d:Int) (l:Option O0) (a:List Int) (i:List Int):Option ((Int×(Option O0)×(List Int))⊕(((Option O0)×(List Int))⊕Bool)):=
 (
  iter (A0O k d a i) FUEL (false,0)).bind λj=>match j with
 | .inl c=>
  l.bind λb=>
  (A6o b a).bind λg=>
  bif g then
   bif !c then
    some (inr (inr false))
   else
    (J5 (d+1)).bind λh=>
    some (inl (h,(some b),a))
  else
   (J5 (d+1)).bind λe=>
   some (inl (e,(some b),a))
 | .inr p=>
  some (inr (inr p))
def A3N (d:C9) (j:List Int) (e:Int) (b:Int) (h:Option O0) (c:List Int):Option ((Int×(Option O0)×(List Int))⊕(((Option O0)×(List Int))⊕Bool)):=
 (A8f d b).bind λ(a,i)=>
 (
  bif !decide (i=0) then
   some true
  else
   some (!(decide (e=9) == decide ((a.length:Int)=0)))).bind λk=>
 bif k then
  some (inr (inr false))
 else
  bif !decide (e=0) then
   (J5 (b+1)).bind λg=>
   some (inl (g,h,c))
  else
   (
    bif !decide ((j.length:Int)=(d.A7.length:Int)) then
     some true
    else
     A1U j b a).bind λl=>
   bif l then
    some (inr (inr false))
   else
    A7o d b h c a
def A0k (c:C9) (g:List Int) (e:Int):(Int×(Option O0)×(List Int))→Option ((Int×(Option O0)×(List Int))⊕(((Option O0)×(List Int))⊕Bool)):=λ(b,d,a)=>
 bif decide (b<(c.A7.length:Int)) then
  A3N c g e b d a
 else
  some (inr (inl (d,a)))
def A7i (a:List Int) (c:C9) (j:Option O0):Option (Bool):=
 (B1X c a).bind λk=>
 (A3K c).bind λ(l,b)=>
 (
  iter (A0k c l b) FUEL (0,j,k)).bind λi=>match i with
 | .inl (j97,x100)=>
  bif decide (b=0) then
   A6g.bind λe=>
   some e
  else
   bif decide (b=9) then
    j97.bind λg=>
    (A6o g x100).bind λd=>
    bif !d then
     A6g.bind λh=>
     some h
    else
     some false
   else
    some false
 | .inr p=>
  some p
def A5Q (h:R6) (a:List Int):Option (Bool):=
 (B0W h).bind λb=>
 (B1Q b).bind λ(c,g,d)=>
 (
   bif c.isNone then
     some true
   else
     some (!decide (d=0))).bind λe=>
 bif e then
   some false
 else
   A7i a b c
end Go.Dm
