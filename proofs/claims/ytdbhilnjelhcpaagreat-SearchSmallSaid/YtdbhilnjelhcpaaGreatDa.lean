import Derived.Test.YtdbhilnjelhcpaaGreatL9
import Derived.Test.YtdbhilnjelhcpaaGreatL10
/- What the functions compute, as plain Lean functions. -/
set_option maxRecDepth 1000000
set_option maxHeartbeats 40000000
set_option linter.unusedVariables false
set_option linter.unusedSimpArgs false
set_option linter.unnecessarySimpa false
open Go Go.Sl
namespace Go.Dm
theorem inj2 {α β : Type} {a c : α} {b d : β} (h : some (a,b) = some (c,d)) : a = c∧b = d:=by cases h; exact ⟨rfl,rfl⟩
theorem inj3 {α β γ : Type} {a c : α} {b d : β} {x y : γ} (h : some (a,b,x) = some (c,d,y)) : a = c∧b = d∧x = y:=by cases h; exact ⟨rfl,rfl,rfl⟩
theorem inj4 {α β γ δ : Type} {a c : α} {b d : β} {x y : γ} {u v : δ} (h : some (a,b,x,u) = some (c,d,y,v)) : a = c∧b = d∧x = y∧u = v:=by cases h; exact ⟨rfl,rfl,rfl,rfl⟩
abbrev RFUEL : Nat:=100000
structure apiTable where
  fName : ByteArray
  fShape : Int
  fA : Int
  fB : Int
  fOpen : List Int
  fX : Int
  fY : Int
deriving DecidableEq
structure apiGuest where
  fName : ByteArray
  fRank : ByteArray
  fCourt : ByteArray
  fSince : Int
  fSide : Int
  fDiet : ByteArray
  fHost : Bool
  fAccess : Bool
  fTongues : List ByteArray
deriving DecidableEq
structure apiTie where
  fA : ByteArray
  fB : ByteArray
  fKind : Int
deriving DecidableEq
structure apiRule where
  fKind : Int
  fWeight : Int
  fA : ByteArray
  fB : ByteArray
  fTable : ByteArray
  fN : Int
deriving DecidableEq
structure searchBar where
  fCost : Int
  fClasses : Int
  fPlans : Int
deriving DecidableEq
structure halllayout where
  fword : ByteArray
  fseats : Int→Int→Option Int
  fbeside : Int→Int→Int→Int→Option Bool
  facross : Int→Int→Int→Int→Option Bool
  fhonour : Int→Int→Option Int
  fmoves : Int→Int→Option (List (Int→Option Int))
structure guestcontent where
  fguests : List apiGuest
  fties : List apiTie
deriving DecidableEq
structure guestBook where
  fcontent : guestcontent
  fat : List (ByteArray×Int)
deriving DecidableEq
structure apiRoll where
  fGuests : List apiGuest
  fTies : List apiTie
deriving DecidableEq
structure apiProblem where
  fTables : List apiTable
  fGuests : List apiGuest
  fTies : List apiTie
  fClass : List Int
  fRules : List apiRule
deriving DecidableEq
structure rulekind where
  fword : ByteArray
  fa : Int
  fb : Bool
  ft : Int
  fn : Bool
  flo : Int
  fseat : Bool
  ffind : Nat
deriving DecidableEq
structure ruleJudge where
  fgiven : apiProblem
  fkinds : List (Int×rulekind)
  ftable : List Int
  flevel : List Int
  fopen : List Bool
  fbeside : List (List Int)
  facross : List (List Int)
  fsteps : List (List (Int×Int))
  fcommon : List (List Bool)
  fties : List (List Int)
deriving DecidableEq
structure ruleview where
  fJudge : ruleJudge
  fpart : List Int
  fguest : List Int
deriving DecidableEq
structure searchhunt where
  fJudge : ruleJudge
  fp : apiProblem
  ftable : List Int
  ffirst : List Int
  fgroups : List (List (List Int))
deriving DecidableEq
structure apiStep where
  fKind : Int
  fN : Int
deriving DecidableEq
structure searchreader where
  fhunt : searchhunt
  fbound : Int
  fsteps : List apiStep
  fat : Int
  fpart : List Int
deriving DecidableEq
structure searchwrong where
  fat : Int
  fe : Int
deriving DecidableEq
structure apiRanked where
  fPlan : List Int
  fCost : Int
deriving DecidableEq
structure searchprover where
  fhunt : searchhunt
  fbound : Int
  fsteps : List apiStep
  fpart : List Int
deriving DecidableEq
end Go.Dm
open Go Go.Sl
namespace Go.Dm
def sl_IndexInt_l0 (s1 : List Int) (v2 : Int) : Int→Option (Int⊕(Unit⊕Int)):=fun t6=>
  bif decide (t6 < (s1.length : Int)) then
    Option.bind (getI s1 t6) fun e15=>
    bif decide (v2 = e15) then
      some (Sum.inr (Sum.inr t6))
    else
      Option.bind (rng (t6 + (1 : Int))) fun t20=>
      some (Sum.inl t20)
  else
    some (Sum.inr (Sum.inl ()))
def sl_IndexInt (s1 : List Int) (v2 : Int) : Option (Int):=
 Option.bind (
   iter (sl_IndexInt_l0 s1 v2) FUEL (0 : Int)) fun o3=>match o3 with
 | .inl _u=>
   some (-1 : Int)
 | .inr p=>
   some p
def sl_ContainsInt (s1 : List Int) (v2 : Int) : Option (Bool):=
 Option.bind (sl_IndexInt s1 v2) fun t3=>
 some (decide ((0 : Int)≤t3))
def sl_IndexFuncInt_l0 (s1 : List Int) : Unit→Option (Unit⊕Unit):=fun _u=>
  bif decide ((0 : Int) < (s1.length : Int)) then
    none
  else
    some (Sum.inr ())
def sl_IndexFuncInt (s1 : List Int) (f2 : Int→Option Bool) : Option (Int):=
 Option.bind (
   iter (sl_IndexFuncInt_l0 s1) FUEL ()) fun _u=>
 some (-1 : Int)
def sl_ContainsFuncInt (s1 : List Int) (f2 : Int→Option Bool) : Option (Bool):=
 Option.bind (sl_IndexFuncInt s1 f2) fun t3=>
 some (decide ((0 : Int)≤t3))
def sl_IndexFuncTable_l0 (s1 : List apiTable) (f2 : apiTable→Option Bool) : Int→Option (Int⊕Unit):=fun t6=>
  bif decide (t6 < (s1.length : Int)) then
    Option.bind (getI s1 t6) fun e15=>
    Option.bind (f2 e15) fun t21=>
    bif t21 then
      none
    else
      Option.bind (rng (t6 + (1 : Int))) fun t36=>
      some (Sum.inl t36)
  else
    some (Sum.inr ())
def sl_IndexFuncTable (s1 : List apiTable) (f2 : apiTable→Option Bool) : Option (Int):=
 Option.bind (
   iter (sl_IndexFuncTable_l0 s1 f2) FUEL (0 : Int)) fun _u=>
 some (-1 : Int)
def sl_ContainsFuncTable (s1 : List apiTable) (f2 : apiTable→Option Bool) : Option (Bool):=
 Option.bind (sl_IndexFuncTable s1 f2) fun t3=>
 some (decide ((0 : Int)≤t3))
def sl_IndexFuncGuest_l0 (s1 : List apiGuest) (f2 : apiGuest→Option Bool) : Int→Option (Int⊕Int):=fun t6=>
  bif decide (t6 < (s1.length : Int)) then
    Option.bind (getI s1 t6) fun e15=>
    Option.bind (f2 e15) fun t21=>
    bif t21 then
      some (Sum.inr t6)
    else
      Option.bind (rng (t6 + (1 : Int))) fun t37=>
      some (Sum.inl t37)
  else
    none
def sl_IndexFuncGuest (s1 : List apiGuest) (f2 : apiGuest→Option Bool) : Option (Int):=
 Option.bind (
   iter (sl_IndexFuncGuest_l0 s1 f2) FUEL (0 : Int)) fun p=>some p
def sl_IndexStr (s1 : List ByteArray) (v2 : ByteArray) : Option (Int):=
  none
def sl_ContainsStr (s1 : List ByteArray) (v2 : ByteArray) : Option (Bool):=
  none
def sl_IndexFuncStr (s1 : List ByteArray) (f2 : ByteArray→Option Bool) : Option (Int):=
  none
def cmp_isNaNInt (x1 : Int) : Option (Bool):=
 some (!decide (x1 = x1))
def cmp_CompareInt (x1 : Int) (y2 : Int) : Option (Int):=
 Option.bind (cmp_isNaNInt x1) fun t3=>
 Option.bind (cmp_isNaNInt y2) fun t11=>
 bif t3 then
   none
 else
   bif t11 then
     none
   else
     bif decide (x1 < y2) then
       some (-1 : Int)
     else
       bif decide (y2 < x1) then
         some (1 : Int)
       else
         some (0 : Int)
def cmp_LessInt (x1 : Int) (y2 : Int) : Option (Bool):=
  none
def sl_CompareInt_l0 (s11 : List Int) (s22 : List Int) : Int→Option (Int⊕(Unit⊕Int)):=fun t6=>
  bif decide (t6 < (s11.length : Int)) then
    Option.bind (getI s11 t6) fun e15=>
    bif decide ((s22.length : Int)≤t6) then
      none
    else
      Option.bind (getI s22 t6) fun e21=>
      Option.bind (cmp_CompareInt e15 e21) fun t24=>
      bif !decide (t24 = (0 : Int)) then
        some (Sum.inr (Sum.inr t24))
      else
        Option.bind (rng (t6 + (1 : Int))) fun t34=>
        some (Sum.inl t34)
  else
    some (Sum.inr (Sum.inl ()))
def sl_CompareInt (s11 : List Int) (s22 : List Int) : Option (Int):=
 Option.bind (
   iter (sl_CompareInt_l0 s11 s22) FUEL (0 : Int)) fun o3=>match o3 with
 | .inl _u=>
   bif decide ((s11.length : Int) < (s22.length : Int)) then
     none
   else
     some (0 : Int)
 | .inr p=>
   some p
def sl_EqualInt_l0 (s11 : List Int) (s22 : List Int) : Int→Option (Int⊕(Unit⊕Bool)):=fun t7=>
  bif decide (t7 < (s11.length : Int)) then
    Option.bind (getI s11 t7) fun e16=>
    Option.bind (getI s22 t7) fun e20=>
    bif !decide (e16 = e20) then
      some (Sum.inr (Sum.inr false))
    else
      Option.bind (rng (t7 + (1 : Int))) fun t25=>
      some (Sum.inl t25)
  else
    some (Sum.inr (Sum.inl ()))
def sl_EqualInt (s11 : List Int) (s22 : List Int) : Option (Bool):=
 bif !decide ((s11.length : Int) = (s22.length : Int)) then
   none
 else
   Option.bind (
     iter (sl_EqualInt_l0 s11 s22) FUEL (0 : Int)) fun o4=>match o4 with
   | .inl _u=>
     some true
   | .inr p=>
     some p
def sl_CloneInt (s1 : List Int) : Option (List Int):=
 Option.bind (apL ([] : List Int) s1) fun t8=>
 some t8
def sl_CloneTable (s1 : List apiTable) : Option (List apiTable):=
 Option.bind (apL ([] : List apiTable) s1) fun t8=>
 some t8
def sl_CloneGuest (s1 : List apiGuest) : Option (List apiGuest):=
 Option.bind (apL ([] : List apiGuest) s1) fun t8=>
 some t8
def sl_CloneStr (s1 : List ByteArray) : Option (List ByteArray):=
 Option.bind (apL ([] : List ByteArray) s1) fun t8=>
 some t8
def sl_CloneTie (s1 : List apiTie) : Option (List apiTie):=
 Option.bind (apL ([] : List apiTie) s1) fun t8=>
 some t8
def sl_CloneRule (s1 : List apiRule) : Option (List apiRule):=
 Option.bind (apL ([] : List apiRule) s1) fun t8=>
 some t8
end Go.Dm
open Go Go.Sl
namespace Go.Dm
def bits_Len32 (x1 : Int) : Option (Int):=
  none
def bits_Len64_p0 (x1 : Int) : Option (Int):=
  Option.bind (rngK .u8 x1) fun t5=>
  Option.bind (getS (⟨#[0,1,2,2,3,3,3,3,4,4,4,4,4,4,4,4,5,5,5,5,5,5,5,5,5,5,5,5,5,5,5,5,6,6,6,6,6,6,6,6,6,6,6,6,6,6,6,6,6,6,6,6,6,6,6,6,6,6,6,6,6,6,6,6,7,7,7,7,7,7,7,7,7,7,7,7,7,7,7,7,7,7,7,7,7,7,7,7,7,7,7,7,7,7,7,7,7,7,7,7,7,7,7,7,7,7,7,7,7,7,7,7,7,7,7,7,7,7,7,7,7,7,7,7,7,7,7,7,8,8,8,8,8,8,8,8,8,8,8,8,8,8,8,8,8,8,8,8,8,8,8,8,8,8,8,8,8,8,8,8,8,8,8,8,8,8,8,8,8,8,8,8,8,8,8,8,8,8,8,8,8,8,8,8,8,8,8,8,8,8,8,8,8,8,8,8,8,8,8,8,8,8,8,8,8,8,8,8,8,8,8,8,8,8,8,8,8,8,8,8,8,8,8,8,8,8,8,8,8,8,8,8,8,8,8,8,8,8,8,8,8,8,8,8,8,8,8,8,8,8,8,8,8,8,8,8]⟩ : ByteArray) t5) fun ch6=>
  Option.bind (rngK .i64 ch6) fun t7=>
  Option.bind (rng ((0 : Int) + t7)) fun t8=>
  some t8
def bits_Len64 (x1 : Int) : Option (Int):=
 bif decide ((4294967296 : Int)≤x1) then
   none
 else
   bif decide ((65536 : Int)≤x1) then
     none
   else
     bif decide ((256 : Int)≤x1) then
       none
     else
       bits_Len64_p0 x1
def bits_Len (x1 : Int) : Option (Int):=
 Option.bind (bits_Len64 x1) fun t2=>
 some t2
def sl_insOrd_l0 (b4 : Int) (t5 : Int) : Unit→Option (Unit⊕Unit):=fun _u=>
  bif decide (t5 < b4) then
    none
  else
    some (Sum.inr ())
def sl_insOrd (data1 : List Int) (a3 : Int) (b4 : Int) : Option (List Int):=
 Option.bind (rng (a3 + (1 : Int))) fun t5=>
 Option.bind (
   iter (sl_insOrd_l0 b4 t5) FUEL ()) fun _u=>
 some data1
def sl_pdqOrd_l0 (data1 : List Int) (a3 : Int) (b4 : Int) : Unit→Option (Unit⊕(List Int)):=fun _u=>
  Option.bind (rng (b4 - a3)) fun t16=>
  bif decide (t16≤(12 : Int)) then
    Option.bind (sl_insOrd data1 a3 b4) fun l19=>
    some (Sum.inr l19)
  else
    none
def sl_pdqOrd : Nat→(List Int)→Int→Int→Int→Option (List Int)
  | 0,_,_,_,_=>none
  | n + 1,data1,a3,b4,limit5=>
    Option.bind (
      iter (sl_pdqOrd_l0 data1 a3 b4) FUEL ()) fun p=>some p
def sl_SortInt (x1 : List Int) : Option (List Int):=
 Option.bind (rngK .u64 (x1.length : Int)) fun t3=>
 Option.bind (bits_Len t3) fun t4=>
 Option.bind (sl_pdqOrd RFUEL x1 (0 : Int) (x1.length : Int) t4) fun l13=>
 some l13
def sl_insCmpInt (data1 : List Int) (a3 : Int) (b4 : Int) (cmp5 : Int→Int→Option Int) : Option (List Int):=
  none
def sl_stableInt (data1 : List Int) (n3 : Int) (cmp4 : Int→Int→Option Int) : Option (List Int):=
  none
def sl_SortStableInt (x1 : List Int) (cmp3 : Int→Int→Option Int) : Option (List Int):=
  none
def sl_insCmpInts_p0 (cmp5 : (List Int)→(List Int)→Option Int) (data37 : List (List Int)) (j42 : Int) : Option (((List (List Int))×Int)⊕(List (List Int))):=
  Option.bind (getI data37 j42) fun e51=>
  Option.bind (rng (j42 - (1 : Int))) fun t56=>
  Option.bind (getI data37 t56) fun e57=>
  Option.bind (cmp5 e51 e57) fun t62=>
  bif decide (t62 < (0 : Int)) then
    Option.bind (rng (j42 - (1 : Int))) fun t78=>
    Option.bind (rng (j42 - (1 : Int))) fun t79=>
    Option.bind (getI data37 t79) fun e80=>
    Option.bind (getI data37 j42) fun e86=>
    Option.bind (getI data37 j42) fun e91=>
    Option.bind (some (List.set data37 j42.toNat e80)) fun l96=>
    Option.bind (getI l96 t78) fun e99=>
    Option.bind (some (List.set l96 t78.toNat e86)) fun l104=>
    Option.bind (rng (j42 - (1 : Int))) fun t107=>
    some (Sum.inl (l104,t107))
  else
    some (Sum.inr data37)
def sl_insCmpInts_l1 (a3 : Int) (cmp5 : (List Int)→(List Int)→Option Int) : ((List (List Int))×Int)→Option (((List (List Int))×Int)⊕(List (List Int))):=fun (data37,j42)=>
  bif decide (a3 < j42) then
    sl_insCmpInts_p0 cmp5 data37 j42
  else
    none
def sl_insCmpInts_l0 (a3 : Int) (b4 : Int) (cmp5 : (List Int)→(List Int)→Option Int) : ((List (List Int))×Int)→Option (((List (List Int))×Int)⊕(List (List Int))):=fun (data15,i20)=>
  bif decide (i20 < b4) then
    Option.bind (
      iter (sl_insCmpInts_l1 a3 cmp5) FUEL (data15,i20)) fun data32=>
    Option.bind (rng (i20 + (1 : Int))) fun t114=>
    some (Sum.inl (data32,t114))
  else
    some (Sum.inr data15)
def sl_insCmpInts (data1 : List (List Int)) (a3 : Int) (b4 : Int) (cmp5 : (List Int)→(List Int)→Option Int) : Option (List (List Int)):=
 Option.bind (rng (a3 + (1 : Int))) fun t6=>
 Option.bind (
   iter (sl_insCmpInts_l0 a3 b4 cmp5) FUEL (data1,t6)) fun data10=>
 some data10
def sl_pdqCmpInts_l0 (data1 : List (List Int)) (a3 : Int) (b4 : Int) (cmp6 : (List Int)→(List Int)→Option Int) : Unit→Option (Unit⊕(List (List Int))):=fun _u=>
  Option.bind (rng (b4 - a3)) fun t17=>
  bif decide (t17≤(12 : Int)) then
    Option.bind (sl_insCmpInts data1 a3 b4 cmp6) fun l21=>
    some (Sum.inr l21)
  else
    none
def sl_pdqCmpInts : Nat→(List (List Int))→Int→Int→Int→((List Int)→(List Int)→Option Int)→Option (List (List Int))
  | 0,_,_,_,_,_=>none
  | n + 1,data1,a3,b4,limit5,cmp6=>
    Option.bind (
      iter (sl_pdqCmpInts_l0 data1 a3 b4 cmp6) FUEL ()) fun p=>some p
def sl_SortFuncInts (x1 : List (List Int)) (cmp3 : (List Int)→(List Int)→Option Int) : Option (List (List Int)):=
 Option.bind (rngK .u64 (x1.length : Int)) fun t4=>
 Option.bind (bits_Len t4) fun t5=>
 Option.bind (sl_pdqCmpInts RFUEL x1 (0 : Int) (x1.length : Int) t5 cmp3) fun l15=>
 some l15
def sl_insCmpBar_p0 (data37 : List searchBar) (j42 : Int) (t53 : Bool) : Option (((List searchBar)×Int)⊕(List searchBar)):=
  bif t53 then
    Option.bind (rng (j42 - (1 : Int))) fun t81=>
    Option.bind (rng (j42 - (1 : Int))) fun t82=>
    Option.bind (getI data37 t82) fun e83=>
    Option.bind (getI data37 j42) fun e87=>
    Option.bind (getI data37 j42) fun e90=>
    Option.bind (some (List.set data37 j42.toNat e83)) fun l93=>
    Option.bind (getI l93 t81) fun e96=>
    Option.bind (some (List.set l93 t81.toNat e87)) fun l99=>
    Option.bind (rng (j42 - (1 : Int))) fun t102=>
    some (Sum.inl (l99,t102))
  else
    some (Sum.inr data37)
def sl_insCmpBar_l1 (a3 : Int) (cmp5 : searchBar→searchBar→Option Int) : ((List searchBar)×Int)→Option (((List searchBar)×Int)⊕(List searchBar)):=fun (data37,j42)=>
  Option.bind (
    bif decide (a3 < j42) then
      Option.bind (getI data37 j42) fun e55=>
      Option.bind (rng (j42 - (1 : Int))) fun t58=>
      Option.bind (getI data37 t58) fun e59=>
      Option.bind (cmp5 e55 e59) fun t62=>
      some (decide (t62 < (0 : Int)))
    else
      some false) fun t53=>
  sl_insCmpBar_p0 data37 j42 t53
def sl_insCmpBar_l0 (a3 : Int) (b4 : Int) (cmp5 : searchBar→searchBar→Option Int) : ((List searchBar)×Int)→Option (((List searchBar)×Int)⊕(List searchBar)):=fun (data15,i20)=>
  bif decide (i20 < b4) then
    Option.bind (
      iter (sl_insCmpBar_l1 a3 cmp5) FUEL (data15,i20)) fun data32=>
    Option.bind (rng (i20 + (1 : Int))) fun t109=>
    some (Sum.inl (data32,t109))
  else
    some (Sum.inr data15)
def sl_insCmpBar (data1 : List searchBar) (a3 : Int) (b4 : Int) (cmp5 : searchBar→searchBar→Option Int) : Option (List searchBar):=
 Option.bind (rng (a3 + (1 : Int))) fun t6=>
 Option.bind (
   iter (sl_insCmpBar_l0 a3 b4 cmp5) FUEL (data1,t6)) fun data10=>
 some data10
def sl_pdqCmpBar_l0 (data1 : List searchBar) (a3 : Int) (b4 : Int) (cmp6 : searchBar→searchBar→Option Int) : Unit→Option (Unit⊕(List searchBar)):=fun _u=>
  Option.bind (rng (b4 - a3)) fun t17=>
  bif decide (t17≤(12 : Int)) then
    Option.bind (sl_insCmpBar data1 a3 b4 cmp6) fun l21=>
    some (Sum.inr l21)
  else
    none
def sl_pdqCmpBar : Nat→(List searchBar)→Int→Int→Int→(searchBar→searchBar→Option Int)→Option (List searchBar)
  | 0,_,_,_,_,_=>none
  | n + 1,data1,a3,b4,limit5,cmp6=>
    Option.bind (
      iter (sl_pdqCmpBar_l0 data1 a3 b4 cmp6) FUEL ()) fun p=>some p
def sl_SortFuncBar (x1 : List searchBar) (cmp3 : searchBar→searchBar→Option Int) : Option (List searchBar):=
 Option.bind (rngK .u64 (x1.length : Int)) fun t4=>
 Option.bind (bits_Len t4) fun t5=>
 Option.bind (sl_pdqCmpBar RFUEL x1 (0 : Int) (x1.length : Int) t5 cmp3) fun l15=>
 some l15
end Go.Dm
open Go Go.Sl
namespace Go.Dm
def bits_Mul32 (x1 : Int) (y2 : Int) : Option (Int×Int):=
  none
def bits_Mul64 (x1 : Int) (y2 : Int) : Option (Int×Int):=
 Option.bind (andK .u64 x1 (4294967295 : Int)) fun t3=>
 Option.bind (shrK .u64 x1 (32 : Int)) fun t4=>
 Option.bind (andK .u64 y2 (4294967295 : Int)) fun t5=>
 Option.bind (shrK .u64 y2 (32 : Int)) fun t6=>
 Option.bind (rngK .u64 (t3 * t5)) fun t7=>
 Option.bind (rngK .u64 (t4 * t5)) fun t8=>
 Option.bind (shrK .u64 t7 (32 : Int)) fun t9=>
 Option.bind (rngK .u64 (t8 + t9)) fun t10=>
 Option.bind (andK .u64 t10 (4294967295 : Int)) fun t11=>
 Option.bind (shrK .u64 t10 (32 : Int)) fun t12=>
 Option.bind (rngK .u64 (t3 * t6)) fun t13=>
 Option.bind (rngK .u64 (t11 + t13)) fun t14=>
 Option.bind (rngK .u64 (t4 * t6)) fun t15=>
 Option.bind (rngK .u64 (t15 + t12)) fun t16=>
 Option.bind (shrK .u64 t14 (32 : Int)) fun t17=>
 Option.bind (rngK .u64 (t16 + t17)) fun t18=>
 Option.bind (rngK .u64 (x1 * y2)) fun t19=>
 some (t18,t19)
def bits_Mul (x1 : Int) (y2 : Int) : Option (Int×Int):=
 Option.bind (bits_Mul64 x1 y2) fun (t3,t4)=>
 some (t3,t4)
def sl_Repeat_p0 (newslice42 : List Int) (n47 : Int) : Option (((List Int)×Int)⊕(List Int)):=
  Option.bind (bdV n47 (newslice42.length : Int) (newslice42.length : Int)) fun u56=>
  Option.bind (bdV (0 : Int) n47 (newslice42.length : Int)) fun u57=>
  Option.bind (bdV n47 (newslice42.length : Int) (newslice42.length : Int)) fun u58=>
  Option.bind (bdV (0 : Int) n47 (newslice42.length : Int)) fun u59=>
  Option.bind (cpL newslice42 n47.toNat ((newslice42.length : Int).toNat - n47.toNat) (List.take (n47.toNat - (0 : Int).toNat) (List.drop (0 : Int).toNat newslice42))) fun (l61,n62)=>
  Option.bind (rng (n47 + n62)) fun t67=>
  some (Sum.inl (l61,t67))
def sl_Repeat_l0 : ((List Int)×Int)→Option (((List Int)×Int)⊕(List Int)):=fun (newslice42,n47)=>
  bif decide (n47 < (newslice42.length : Int)) then
    sl_Repeat_p0 newslice42 n47
  else
    some (Sum.inr newslice42)
def sl_Repeat (x1 : List Int) (count2 : Int) : Option (List Int):=
 bif decide (count2 < (0 : Int)) then
   none
 else
   Option.bind (rngK .u64 (x1.length : Int)) fun t4=>
   Option.bind (rngK .u64 count2) fun t5=>
   Option.bind (bits_Mul t4 t5) fun (t6,t7)=>
   bif decide ((0 : Int) < t6) then
     none
   else
     bif decide ((9223372036854775807 : Int) < t7) then
       none
     else
       Option.bind (rngK .i64 t7) fun t17=>
       Option.bind (mkL t17 (0 : Int)) fun t23=>
       Option.bind (cpL t23 0 t23.length x1) fun (l28,n29)=>
       Option.bind (
         iter sl_Repeat_l0 FUEL (l28,n29)) fun newslice37=>
       some newslice37
def sl_CompactInt (s1 : List Int) : Option (List Int):=
 bif decide ((s1.length : Int) < (2 : Int)) then
   some s1
 else
   none
def sl_CompactFuncInts_l1 (s1 : List (List Int)) (k8 : Int) : Unit→Option (Unit⊕Unit):=fun _u=>
  bif decide ((1 : Int) < ((((s1.length : Int).toNat - k8.toNat : Nat)) : Int)) then
    none
  else
    some (Sum.inr ())
def sl_CompactFuncInts_p0 (s1 : List (List Int)) (eq3 : (List Int)→(List Int)→Option Bool) (k8 : Int) : Option (Int⊕(Unit⊕(List (List Int)))):=
  Option.bind (getI s1 k8) fun e18=>
  Option.bind (rng (k8 - (1 : Int))) fun t23=>
  Option.bind (getI s1 t23) fun e24=>
  Option.bind (eq3 e18 e24) fun t29=>
  bif t29 then
    Option.bind (bdV k8 (s1.length : Int) (s1.length : Int)) fun u44=>
    Option.bind (
      iter (sl_CompactFuncInts_l1 s1 k8) FUEL ()) fun _u=>
    Option.bind (bdV k8 (s1.length : Int) (s1.length : Int)) fun u60=>
    Option.bind (bdV k8 (s1.length : Int) (s1.length : Int)) fun u62=>
    Option.bind (some (putL s1 k8.toNat (List.replicate ((s1.length : Int).toNat - k8.toNat) ([] : List Int)))) fun l64=>
    Option.bind (sbL l64 0 k8) fun t67=>
    some (Sum.inr (Sum.inr t67))
  else
    Option.bind (rng (k8 + (1 : Int))) fun t72=>
    some (Sum.inl t72)
def sl_CompactFuncInts_l0 (s1 : List (List Int)) (eq3 : (List Int)→(List Int)→Option Bool) : Int→Option (Int⊕(Unit⊕(List (List Int)))):=fun k8=>
  bif decide (k8 < (s1.length : Int)) then
    sl_CompactFuncInts_p0 s1 eq3 k8
  else
    some (Sum.inr (Sum.inl ()))
def sl_CompactFuncInts (s1 : List (List Int)) (eq3 : (List Int)→(List Int)→Option Bool) : Option (List (List Int)):=
 bif decide ((s1.length : Int) < (2 : Int)) then
   none
 else
   Option.bind (
     iter (sl_CompactFuncInts_l0 s1 eq3) FUEL (1 : Int)) fun o5=>match o5 with
   | .inl _u=>
     some s1
   | .inr p=>
     some p
def sl_IndexFuncStrL_l0 (s1 : List ByteArray) : Unit→Option (Unit⊕Unit):=fun _u=>
  bif decide ((0 : Int) < (s1.length : Int)) then
    none
  else
    some (Sum.inr ())
def sl_IndexFuncStrL (s1 : List ByteArray) (f3 : ByteArray→Option Bool) : Option (Int×(List ByteArray)):=
 Option.bind (
   iter (sl_IndexFuncStrL_l0 s1) FUEL ()) fun _u=>
 some ((-1 : Int),s1)
def sl_DeleteFuncStr (s1 : List ByteArray) (del3 : ByteArray→Option Bool) : Option (List ByteArray):=
 Option.bind (sl_IndexFuncStrL s1 del3) fun (t4,l5)=>
 bif decide (t4 = (-1 : Int)) then
   some l5
 else
   none
end Go.Dm
open Go Go.Sl
namespace Go.Dm
def hall_name_l0 (s1 : ByteArray) : Int→Option (Int⊕Unit):=fun i5=>
  bif decide (i5 < (s1.size : Int)) then
    Option.bind (getS s1 i5) fun ch14=>
    bif decide (ch14 < (97 : Int)) then
      none
    else
      Option.bind (getS s1 i5) fun ch16=>
      bif decide ((122 : Int) < ch16) then
        none
      else
        Option.bind (rng (i5 + (1 : Int))) fun t18=>
        some (Sum.inl t18)
  else
    some (Sum.inr ())
def hall_name (s1 : ByteArray) : Option (Bool):=
 Option.bind (
   iter (hall_name_l0 s1) FUEL (0 : Int)) fun _u=>
 bif decide ((1 : Int)≤(s1.size : Int)) then
   some (decide ((s1.size : Int)≤(12 : Int)))
 else
   none
def hall_two (a1 : Int) (b2 : Int) : Option (Int):=
  none
def hall_roundSeats (a1 : Int) (b2 : Int) : Option (Int):=
 bif decide (a1 < (1 : Int)) then
   none
 else
   bif decide ((24 : Int) < a1) then
     none
   else
     bif !decide (b2 = (0 : Int)) then
       none
     else
       some a1
def hall_longSeats (a1 : Int) (b2 : Int) : Option (Int):=
  none
def hall_shoeSeats (a1 : Int) (b2 : Int) : Option (Int):=
  none
def hall_rowSeats (a1 : Int) (b2 : Int) : Option (Int):=
 bif decide (a1 < (1 : Int)) then
   none
 else
   bif decide ((24 : Int) < a1) then
     none
   else
     bif decide (b2 < (0 : Int)) then
       none
     else
       bif decide (a1 < b2) then
         none
       else
         some a1
def hall_roundBeside (a1 : Int) (b2 : Int) (x3 : Int) (y4 : Int) : Option (Bool):=
 Option.bind (rng (y4 - x3)) fun t5=>
 bif decide (t5 = (1 : Int)) then
   some true
 else
   Option.bind (rng (y4 - x3)) fun t7=>
   Option.bind (rng (a1 - (1 : Int))) fun t8=>
   some (decide (t7 = t8))
def hall_roundAcross (a1 : Int) (b2 : Int) (x3 : Int) (y4 : Int) : Option (Bool):=
 Option.bind (remI a1 (2 : Int)) fun t5=>
 bif decide (t5 = (0 : Int)) then
   Option.bind (rng (y4 - x3)) fun t7=>
   Option.bind (quoI a1 (2 : Int)) fun t8=>
   some (decide (t7 = t8))
 else
   some false
def hall_longBeside (a1 : Int) (b2 : Int) (x3 : Int) (y4 : Int) : Option (Bool):=
  none
def hall_longAcross (a1 : Int) (b2 : Int) (x3 : Int) (y4 : Int) : Option (Bool):=
  none
def hall_longHonour (a1 : Int) (b2 : Int) : Option (Int):=
  none
def hall_shoeBeside (a1 : Int) (b2 : Int) (x3 : Int) (y4 : Int) : Option (Bool):=
  none
def hall_shoeAcross (a1 : Int) (b2 : Int) (x3 : Int) (y4 : Int) : Option (Bool):=
  none
def hall_rowBeside (a1 : Int) (b2 : Int) (x3 : Int) (y4 : Int) : Option (Bool):=
 Option.bind (rng (y4 - x3)) fun t5=>
 bif decide (t5 = (1 : Int)) then
   bif decide (b2 = (0 : Int)) then
     some true
   else
     none
 else
   some false
def hall_same (k1 : Int) : Option (Int):=
 some k1
def hall_lay1 (a1 : Int) (b2 : Int) : Option (Int):=
 some (0 : Int)
def hall_lay2 (a1 : Int) (b2 : Int) : Option (Int):=
  none
def hall_lay3 (a1 : Int) (b2 : Int) (x3 : Int) (y4 : Int) : Option (Bool):=
 some false
def hall_lay4 (a1 : Int) (b2 : Int) : Option (Int):=
 Option.bind (quoI a1 (2 : Int)) fun t3=>
 some t3
def hall_roundMoves1 (k1 : Int) (t2 : Int) (t3 : Int) : Option (Int):=
 Option.bind (rng (k1 + t2)) fun t4=>
 Option.bind (remI t4 t3) fun t5=>
 some t5
def hall_roundMoves2 (k1 : Int) (t2 : Int) (t3 : Int) : Option (Int):=
 Option.bind (rng (t2 - k1)) fun t4=>
 Option.bind (rng (t4 + t3)) fun t5=>
 Option.bind (remI t5 t3) fun t6=>
 some t6
def hall_roundMoves_l0 (a1 : Int) : ((List (Int→Option Int))×Int)→Option (((List (Int→Option Int))×Int)⊕(List (Int→Option Int))):=fun (out17,t22)=>
  bif decide (t22 < a1) then
    Option.bind (apL out17 [(fun y0=>hall_roundMoves1 y0 t22 a1),(fun y0=>hall_roundMoves2 y0 t22 a1)]) fun t53=>
    Option.bind (rng (t22 + (1 : Int))) fun t60=>
    some (Sum.inl (t53,t60))
  else
    some (Sum.inr out17)
def hall_roundMoves (a1 : Int) (b2 : Int) : Option (List (Int→Option Int)):=
 Option.bind (
   iter (hall_roundMoves_l0 a1) FUEL (([] : List (Int→Option Int)),(0 : Int))) fun out10=>
 some out10
def hall_longMoves1 (k1 : Int) (t2 : Int) (t3 : Int) : Option (Bool):=
  none
def hall_longMoves2 (k1 : Int) (t2 : Int→Option Bool) (t5 : Int) (t6 : Int) : Option (Int):=
  none
def hall_longMoves3 (k1 : Int) (t2 : Int→Option Bool) (t5 : Int) (t6 : Int) : Option (Int):=
  none
def hall_longMoves4 (k1 : Int) (t2 : Int→Option Int) (t5 : Int→Option Int) : Option (Int):=
  none
def hall_longMoves (a1 : Int) (b2 : Int) : Option (List (Int→Option Int)):=
  none
def hall_shoeMoves1 (k1 : Int) (t2 : Int) (t3 : Int) : Option (Int):=
  none
def hall_shoeMoves (a1 : Int) (b2 : Int) : Option (List (Int→Option Int)):=
  none
def hall_rowMoves1 (k1 : Int) (t2 : Int) : Option (Int):=
 Option.bind (rng (t2 - (1 : Int))) fun t3=>
 Option.bind (rng (t3 - k1)) fun t4=>
 some t4
def hall_rowMoves (a1 : Int) (b2 : Int) : Option (List (Int→Option Int)):=
 some [hall_same,(fun y0=>hall_rowMoves1 y0 a1)]
def hall_layoutOf (s1 : Int) : Option (halllayout×Bool):=
 bif decide (s1 = (1 : Int)) then
   some ((halllayout.mk (⟨#[114,111,117,110,100]⟩ : ByteArray) hall_roundSeats hall_roundBeside hall_roundAcross hall_lay1 hall_roundMoves),true)
 else
   bif decide (s1 = (2 : Int)) then
     none
   else
     bif decide (s1 = (3 : Int)) then
       none
     else
       bif decide (s1 = (4 : Int)) then
         some ((halllayout.mk (⟨#[114,111,119]⟩ : ByteArray) hall_rowSeats hall_rowBeside hall_lay3 hall_lay4 hall_rowMoves),true)
       else
         none
def hall_size (t1 : apiTable) : Option (Int):=
 Option.bind (hall_layoutOf t1.fShape) fun (t8,t9)=>
 bif !t9 then
   none
 else
   Option.bind (t8.fseats t1.fA t1.fB) fun t35=>
   some t35
def hall_beside (t1 : apiTable) (x4 : Int) (y5 : Int) : Option (Bool):=
 Option.bind (hall_layoutOf t1.fShape) fun (t10,t11)=>
 bif !decide (x4 = y5) then
   Option.bind (t10.fbeside t1.fA t1.fB (min x4 y5) (max x4 y5)) fun t37=>
   some t37
 else
   some false
def hall_across (t1 : apiTable) (x4 : Int) (y5 : Int) : Option (Bool):=
 Option.bind (hall_layoutOf t1.fShape) fun (t10,t11)=>
 bif !decide (x4 = y5) then
   Option.bind (t10.facross t1.fA t1.fB (min x4 y5) (max x4 y5)) fun t37=>
   some t37
 else
   some false
def hall_near (t1 : apiTable) (x4 : Int) (y5 : Int) : Option (Bool):=
 Option.bind (hall_beside t1 x4 y5) fun t11=>
 bif t11 then
   some true
 else
   Option.bind (hall_across t1 x4 y5) fun t23=>
   some t23
def hall_steps_l0 (t23 : List Int) : (Int×(List Int))→Option ((Int×(List Int))⊕(List Int)):=fun (t32,out33)=>
  bif decide (t32 < (t23.length : Int)) then
    Option.bind (getI out33 t32) fun e46=>
    Option.bind (some (List.set out33 t32.toNat (-1 : Int))) fun l49=>
    Option.bind (rng (t32 + (1 : Int))) fun t52=>
    some (Sum.inl (t52,l49))
  else
    some (Sum.inr out33)
def hall_steps_p0 (t1 : apiTable) (e91 : Int) (t111 : List Int) (t116 : Int) (queue117 : List Int) : Option (((List Int)×Int×(List Int))⊕((List Int)×(List Int))):=
  Option.bind (getI t111 t116) fun e130=>
  Option.bind (
    bif decide (e130 < (0 : Int)) then
      Option.bind (hall_near t1 e91 t116) fun t141=>
      some t141
    else
      some false) fun t136=>
  bif t136 then
    Option.bind (getI t111 e91) fun e153=>
    Option.bind (rng (e153 + (1 : Int))) fun t157=>
    Option.bind (getI t111 t116) fun e158=>
    Option.bind (some (List.set t111 t116.toNat t157)) fun l161=>
    Option.bind (apL queue117 [t116]) fun t167=>
    Option.bind (rng (t116 + (1 : Int))) fun t174=>
    some (Sum.inl (l161,t174,t167))
  else
    Option.bind (rng (t116 + (1 : Int))) fun t176=>
    some (Sum.inl (t111,t176,queue117))
def hall_steps_l2 (t1 : apiTable) (out73 : List Int) (e91 : Int) : ((List Int)×Int×(List Int))→Option (((List Int)×Int×(List Int))⊕((List Int)×(List Int))):=fun (t111,t116,queue117)=>
  bif decide (t116 < (out73.length : Int)) then
    hall_steps_p0 t1 e91 t111 t116 queue117
  else
    some (Sum.inr (t111,queue117))
def hall_steps_l1 (t1 : apiTable) : ((List Int)×(List Int))→Option (((List Int)×(List Int))⊕(List Int)):=fun (out73,queue78)=>
  bif decide ((0 : Int) < (queue78.length : Int)) then
    Option.bind (getI queue78 (0 : Int)) fun e91=>
    Option.bind (sbL queue78 (1 : Int) (queue78.length : Int)) fun t94=>
    Option.bind (
      iter (hall_steps_l2 t1 out73 e91) FUEL (out73,(0 : Int),t94)) fun (out101,queue106)=>
    some (Sum.inl (out101,queue106))
  else
    some (Sum.inr out73)
def hall_steps (t1 : apiTable) (from4 : Int) : Option (List Int):=
 Option.bind (hall_size t1) fun t10=>
 Option.bind (mkL t10 (0 : Int)) fun t23=>
 Option.bind (
   iter (hall_steps_l0 t23) FUEL ((0 : Int),t23)) fun out27=>
 Option.bind (getI out27 from4) fun e56=>
 Option.bind (some (List.set out27 from4.toNat (0 : Int))) fun l59=>
 Option.bind (
   iter (hall_steps_l1 t1) FUEL (l59,[from4])) fun out68=>
 some out68
def hall_levels_l0 (t50 : List Int) : Int→Option (Int⊕Unit):=fun t64=>
  bif decide (t64 < (t50.length : Int)) then
    Option.bind (getI t50 t64) fun e73=>
    bif decide (e73 < (0 : Int)) then
      none
    else
      Option.bind (rng (t64 + (1 : Int))) fun t78=>
      some (Sum.inl t78)
  else
    some (Sum.inr ())
def hall_levels (t1 : apiTable) : Option (List Int):=
 Option.bind (hall_layoutOf t1.fShape) fun (t8,t9)=>
 Option.bind (t8.fhonour t1.fA t1.fB) fun t34=>
 Option.bind (hall_steps t1 t34) fun t50=>
 Option.bind (
   iter (hall_levels_l0 t50) FUEL (0 : Int)) fun _u=>
 some t50
def hall_Check_l0 (t1 : apiTable) : Unit→Option (Unit⊕Unit):=fun _u=>
  bif decide ((0 : Int) < (t1.fOpen.length : Int)) then
    none
  else
    some (Sum.inr ())
def hall_Check (t1 : apiTable) : Option (Int):=
 Option.bind (hall_size t1) fun t9=>
 Option.bind (hall_name t1.fName) fun t18=>
 bif !t18 then
   none
 else
   bif decide (t9 = (0 : Int)) then
     none
   else
     Option.bind (
       iter (hall_Check_l0 t1) FUEL ()) fun _u=>
     bif decide (t1.fX < (0 : Int)) then
       none
     else
       bif decide ((1000 : Int) < t1.fX) then
         none
       else
         bif decide (t1.fY < (0 : Int)) then
           none
         else
           bif decide ((1000 : Int) < t1.fY) then
             none
           else
             some (0 : Int)
def hall_CheckAll1 (x1 : apiTable) (t4 : apiTable) : Option (Bool):=
  none
def hall_CheckAll_l0 (l1 : List apiTable) : Int→Option (Int⊕Unit):=fun t6=>
  bif decide (t6 < (l1.length : Int)) then
    Option.bind (getI l1 t6) fun e15=>
    Option.bind (hall_Check e15) fun t27=>
    bif !decide (t27 = (0 : Int)) then
      none
    else
      Option.bind (sbL l1 0 t6) fun t38=>
      Option.bind (sl_ContainsFuncTable t38 (fun y0=>hall_CheckAll1 y0 e15)) fun t53=>
      bif t53 then
        none
      else
        Option.bind (rng (t6 + (1 : Int))) fun t62=>
        some (Sum.inl t62)
  else
    some (Sum.inr ())
def hall_CheckAll (l1 : List apiTable) : Option (Int×Int):=
 bif decide ((16 : Int) < (l1.length : Int)) then
   none
 else
   Option.bind (
     iter (hall_CheckAll_l0 l1) FUEL (0 : Int)) fun _u=>
   some ((0 : Int),(0 : Int))
def hall_Find1 (x1 : apiTable) (t4 : ByteArray) : Option (Bool):=
 some (decide (x1.fName = t4))
def hall_valid (l1 : List apiTable) : Option (Bool):=
 Option.bind (hall_CheckAll l1) fun (t2,t3)=>
 some (decide (t3 = (0 : Int)))
def hall_First_l0 (t22 : List apiTable) : Unit→Option (Unit⊕Unit):=fun _u=>
  bif decide ((0 : Int) < (t22.length : Int)) then
    none
  else
    some (Sum.inr ())
def hall_First (l1 : List apiTable) (t2 : Int) : Option (Int):=
 Option.bind (
   bif decide (t2 < (0 : Int)) then
     some true
   else
     bif decide ((l1.length : Int)≤t2) then
       none
     else
       Option.bind (hall_valid l1) fun t9=>
       some (!t9)) fun t6=>
 bif t6 then
   some (0 : Int)
 else
   Option.bind (sbL l1 0 t2) fun t22=>
   Option.bind (
     iter (hall_First_l0 t22) FUEL ()) fun _u=>
   some (0 : Int)
def hall_lastSize (l1 : List apiTable) : Option (Int):=
 bif decide ((l1.length : Int) = (0 : Int)) then
   some (0 : Int)
 else
   Option.bind (rng ((l1.length : Int) - (1 : Int))) fun t3=>
   Option.bind (getI l1 t3) fun e4=>
   Option.bind (hall_size e4) fun t9=>
   some t9
def hall_Count (l1 : List apiTable) : Option (Int):=
 Option.bind (hall_valid l1) fun t2=>
 bif !t2 then
   none
 else
   Option.bind (rng ((l1.length : Int) - (1 : Int))) fun t12=>
   Option.bind (hall_First l1 t12) fun t13=>
   Option.bind (hall_lastSize l1) fun t22=>
   Option.bind (rng (t13 + t22)) fun t30=>
   some t30
def hall_Where_l0 (l1 : List apiTable) (seat2 : Int) : Unit→Option (Unit⊕(Int×Int×Bool)):=fun _u=>
  bif decide ((0 : Int) < (l1.length : Int)) then
    Option.bind (getI l1 (0 : Int)) fun e25=>
    Option.bind (hall_size e25) fun t37=>
    bif decide (seat2 < t37) then
      some (Sum.inr ((0 : Int),seat2,true))
    else
      none
  else
    none
def hall_Where (l1 : List apiTable) (seat2 : Int) : Option (Int×Int×Bool):=
 bif decide (seat2 < (0 : Int)) then
   none
 else
   Option.bind (hall_valid l1) fun t4=>
   bif !t4 then
     none
   else
     Option.bind (
       iter (hall_Where_l0 l1 seat2) FUEL ()) fun p=>some p
def hall_Find (l1 : List apiTable) (name2 : ByteArray) : Option (Int×Bool):=
 Option.bind (sl_IndexFuncTable l1 (fun y0=>hall_Find1 y0 name2)) fun t16=>
 bif decide (t16 < (0 : Int)) then
   some ((0 : Int),false)
 else
   none
def hall_Seats (t1 : apiTable) : Option (Int):=
 Option.bind (hall_Check t1) fun t9=>
 bif !decide (t9 = (0 : Int)) then
   none
 else
   Option.bind (hall_size t1) fun t20=>
   some t20
def hall_Open (l1 : List apiTable) (a2 : Int) : Option (Bool):=
 Option.bind (hall_Where l1 a2) fun (t3,t4,t5)=>
 bif t5 then
   Option.bind (getI l1 t3) fun e14=>
   Option.bind (sl_ContainsInt e14.fOpen t4) fun t20=>
   some t20
 else
   none
def hall_Level (l1 : List apiTable) (a2 : Int) : Option (Int):=
 Option.bind (hall_Where l1 a2) fun (t3,t4,t5)=>
 bif !t5 then
   none
 else
   Option.bind (getI l1 t3) fun e14=>
   Option.bind (hall_levels e14) fun t20=>
   Option.bind (getI t20 t4) fun e31=>
   some e31
def hall_pair (l1 : List apiTable) (a2 : Int) (b3 : Int) : Option (apiTable×Int×Int×Bool):=
 Option.bind (hall_Where l1 a2) fun (t5,t6,t7)=>
 Option.bind (hall_Where l1 b3) fun (t16,t17,t18)=>
 bif !t7 then
   none
 else
   bif !t18 then
     none
   else
     bif !decide (t5 = t16) then
       none
     else
       Option.bind (getI l1 t5) fun e29=>
       some (e29,t6,t17,true)
def hall_Beside (l1 : List apiTable) (a2 : Int) (b3 : Int) : Option (Bool):=
 Option.bind (hall_pair l1 a2 b3) fun (t4,t5,t6,t7)=>
 bif t7 then
   Option.bind (hall_beside t4 t5 t6) fun t24=>
   some t24
 else
   none
def hall_Across (l1 : List apiTable) (a2 : Int) (b3 : Int) : Option (Bool):=
 Option.bind (hall_pair l1 a2 b3) fun (t4,t5,t6,t7)=>
 bif t7 then
   Option.bind (hall_across t4 t5 t6) fun t24=>
   some t24
 else
   none
end Go.Dm
open Go Go.Sl
namespace Go.Dm
def guest_name_l0 (s1 : ByteArray) : Int→Option (Int⊕Unit):=fun t7=>
  bif decide (t7 < (s1.size : Int)) then
    Option.bind (getS s1 t7) fun ch16=>
    bif decide (ch16 < (97 : Int)) then
      none
    else
      Option.bind (getS s1 t7) fun ch18=>
      bif decide ((122 : Int) < ch18) then
        none
      else
        Option.bind (rng (t7 + (1 : Int))) fun t20=>
        some (Sum.inl t20)
  else
    some (Sum.inr ())
def guest_name (s1 : ByteArray) : Option (Bool):=
 bif decide ((s1.size : Int) = (0 : Int)) then
   none
 else
   bif decide ((12 : Int) < (s1.size : Int)) then
     none
   else
     Option.bind (
       iter (guest_name_l0 s1) FUEL (0 : Int)) fun _u=>
     some true
def guest_some (s1 : ByteArray) : Option (Bool):=
 bif decide (s1 = (⟨#[]⟩ : ByteArray)) then
   some true
 else
   none
def guest_Check_l0 (g1 : apiGuest) : Unit→Option (Unit⊕Unit):=fun _u=>
  bif decide ((0 : Int) < (g1.fTongues.length : Int)) then
    none
  else
    some (Sum.inr ())
def guest_Check_p0 (g1 : apiGuest) : Option (Int):=
  Option.bind (guest_some g1.fDiet) fun t38=>
  bif !t38 then
    none
  else
    bif decide (g1.fSince < (0 : Int)) then
      none
    else
      bif decide ((9999 : Int) < g1.fSince) then
        none
      else
        bif decide (g1.fSide < (0 : Int)) then
          none
        else
          bif decide ((2 : Int) < g1.fSide) then
            none
          else
            bif decide ((4 : Int) < (g1.fTongues.length : Int)) then
              none
            else
              Option.bind (
                iter (guest_Check_l0 g1) FUEL ()) fun _u=>
              some (0 : Int)
def guest_Check (g1 : apiGuest) : Option (Int):=
 Option.bind (guest_name g1.fName) fun t8=>
 bif !t8 then
   none
 else
   Option.bind (guest_some g1.fRank) fun t18=>
   bif !t18 then
     none
   else
     Option.bind (guest_some g1.fCourt) fun t28=>
     bif !t28 then
       none
     else
       guest_Check_p0 g1
def guest_copied (g1 : apiGuest) : Option (apiGuest):=
 Option.bind (sl_CloneStr g1.fTongues) fun t6=>
 some (apiGuest.mk g1.fName g1.fRank g1.fCourt g1.fSince g1.fSide g1.fDiet g1.fHost g1.fAccess t6)
def bytealg_CompareString (a1 : ByteArray) (b2 : ByteArray) : Option (Int):=
  none
def strings_Compare (a1 : ByteArray) (b2 : ByteArray) : Option (Int):=
  none
def guest_order (a1 : apiTie) (b2 : apiTie) : Option (Int):=
  none
def guest_pair (one1 : ByteArray) (other2 : ByteArray) (kind3 : Int) : Option (apiTie):=
 some (apiTie.mk (minS one1 other2) (maxS one1 other2) kind3)
def guest_New  : Option (guestBook):=
 some (guestBook.mk (guestcontent.mk ([] : List apiGuest) ([] : List apiTie)) ([] : List (ByteArray×Int)))
def Book_none (b1 : guestBook) : Option (Bool):=
 some false
def sl_BinTie_l0 (x1 : List apiTie) : Unit→Option (Unit⊕Unit):=fun _u=>
  bif decide ((0 : Int) < (x1.length : Int)) then
    none
  else
    some (Sum.inr ())
def sl_BinTie (x1 : List apiTie) (target2 : apiTie) (cmp3 : apiTie→apiTie→Option Int) : Option (Int×Bool):=
 Option.bind (
   iter (sl_BinTie_l0 x1) FUEL ()) fun _u=>
 bif decide ((0 : Int) < (x1.length : Int)) then
   none
 else
   some ((0 : Int),false)
def sl_InsTie (s1 : List apiTie) (i3 : Int) (v4 : List apiTie) : Option (List apiTie):=
  none
def Book_place (b1 : guestBook) (one2 : ByteArray) (other3 : ByteArray) : Option (Int×Bool):=
 Option.bind (guest_pair one2 other3 (0 : Int)) fun t13=>
 Option.bind (sl_BinTie b1.fcontent.fties t13 guest_order) fun (t33,t34)=>
 some (t33,t34)
def Book_Add_p0 (b1 : guestBook) (g2 : apiGuest) : Option (Int×guestBook):=
  Option.bind (guest_Check g2) fun t50=>
  bif !decide (t50 = (0 : Int)) then
    none
  else
    Option.bind (lkM b1.fat g2.fName (0 : Int)) fun (e60,ok61)=>
    bif ok61 then
      none
    else
      bif decide ((b1.fcontent.fguests.length : Int) = (64 : Int)) then
        none
      else
        Option.bind (some (mset b1.fat g2.fName (b1.fcontent.fguests.length : Int))) fun m70=>
        Option.bind (guest_copied g2) fun t74=>
        Option.bind (apL b1.fcontent.fguests [t74]) fun t87=>
        some ((0 : Int),(guestBook.mk (guestcontent.mk t87 b1.fcontent.fties) m70))
def Book_Add (b1 : guestBook) (g2 : apiGuest) : Option (Int×guestBook):=
 Option.bind (Book_none (guestBook.mk (guestcontent.mk b1.fcontent.fguests b1.fcontent.fties) b1.fat)) fun t24=>
 bif t24 then
   none
 else
   Book_Add_p0 b1 g2
def Book_Tie (b1 : guestBook) (one2 : ByteArray) (other3 : ByteArray) (kind4 : Int) : Option (Int×guestBook):=
  none
def guest_Load_l0 (r1 : apiRoll) : ((List apiGuest)×(List apiTie)×(List (ByteArray×Int))×Int)→Option (((List apiGuest)×(List apiTie)×(List (ByteArray×Int))×Int)⊕((List apiGuest)×(List apiTie)×(List (ByteArray×Int)))):=fun (guests52,ties57,at62,t67)=>
  bif decide (t67 < (r1.fGuests.length : Int)) then
    Option.bind (getI r1.fGuests t67) fun e76=>
    Option.bind (Book_Add (guestBook.mk (guestcontent.mk guests52 ties57) at62) e76) fun (t91,q92)=>
    bif !decide (t91 = (0 : Int)) then
      none
    else
      Option.bind (rng (t67 + (1 : Int))) fun t113=>
      some (Sum.inl (q92.fcontent.fguests,q92.fcontent.fties,q92.fat,t113))
  else
    some (Sum.inr (guests52,ties57,at62))
def guest_Load_l1 (r1 : apiRoll) : Unit→Option (Unit⊕Unit):=fun _u=>
  bif decide ((0 : Int) < (r1.fTies.length : Int)) then
    none
  else
    some (Sum.inr ())
def guest_Load (r1 : apiRoll) : Option (guestBook×Int×Int):=
 Option.bind (guest_New) fun t10=>
 Option.bind (
   iter (guest_Load_l0 r1) FUEL (t10.fcontent.fguests,t10.fcontent.fties,t10.fat,(0 : Int))) fun (guests37,ties42,at47)=>
 Option.bind (
   iter (guest_Load_l1 r1) FUEL ()) fun _u=>
 some ((guestBook.mk (guestcontent.mk guests37 ties42) at47),(0 : Int),(0 : Int))
def guest_CheckRoll (r1 : apiRoll) : Option (Int×Int):=
 Option.bind (guest_Load r1) fun (t12,t13,t14)=>
 some (t13,t14)
end Go.Dm
open Go Go.Sl
namespace Go.Dm
def guest_copiedR (g1 : apiGuest) : Option (apiGuest):=
 Option.bind (sl_CloneStr g1.fTongues) fun t6=>
 some (apiGuest.mk g1.fName g1.fRank g1.fCourt g1.fSince g1.fSide g1.fDiet g1.fHost g1.fAccess t6)
def Book_Find (b1 : guestBook) (name2 : ByteArray) : Option (apiGuest×Bool):=
 Option.bind (Book_none b1) fun t4=>
 bif t4 then
   none
 else
   Option.bind (lkM b1.fat name2 (0 : Int)) fun (e23,ok24)=>
   bif !ok24 then
     none
   else
     Option.bind (getI b1.fcontent.fguests e23) fun e28=>
     Option.bind (guest_copiedR e28) fun t33=>
     some ((apiGuest.mk t33.fName t33.fRank t33.fCourt t33.fSince t33.fSide t33.fDiet t33.fHost t33.fAccess t33.fTongues),true)
def Book_Common1 (t1 : ByteArray) (t2 : apiGuest) : Option (Bool):=
  none
def Book_Common (b1 : guestBook) (one2 : ByteArray) (other3 : ByteArray) : Option (List ByteArray):=
 Option.bind (Book_Find b1 one2) fun (t4,t5)=>
 Option.bind (Book_Find b1 other3) fun (t21,t22)=>
 bif !t5 then
   none
 else
   bif !t22 then
     none
   else
     Option.bind (sl_DeleteFuncStr t4.fTongues (fun y0=>Book_Common1 y0 (apiGuest.mk t21.fName t21.fRank t21.fCourt t21.fSince t21.fSide t21.fDiet t21.fHost t21.fAccess t21.fTongues))) fun t55=>
     some t55
def Book_Tied (b1 : guestBook) (one2 : ByteArray) (other3 : ByteArray) : Option (Int×Bool):=
 Option.bind (Book_none b1) fun t4=>
 bif t4 then
   none
 else
   Option.bind (Book_place b1 one2 other3) fun (t14,t15)=>
   bif !t15 then
     some ((0 : Int),false)
   else
     none
end Go.Dm
open Go Go.Sl
namespace Go.Dm
def rule_name (s1 : ByteArray) : Option (Bool):=
  none
def rule_who_1 (g1 : apiGuest) (t4 : ByteArray) : Option (Bool):=
 some (decide (g1.fName = t4))
def rule_who (p1 : apiProblem) (name12 : ByteArray) : Option (Int):=
 Option.bind (sl_IndexFuncGuest p1.fGuests (fun y0=>rule_who_1 y0 name12)) fun t32=>
 some t32
def rule_seats_l0 (first1 : Int) (n2 : Int) (so3 : Int→Option Bool) : ((List Int)×Int)→Option (((List Int)×Int)⊕(List Int)):=fun (out14,k19)=>
  Option.bind (rng (first1 + n2)) fun t27=>
  bif decide (k19 < t27) then
    Option.bind (so3 k19) fun t29=>
    bif t29 then
      Option.bind (apL out14 [k19]) fun t47=>
      Option.bind (rng (k19 + (1 : Int))) fun t54=>
      some (Sum.inl (t47,t54))
    else
      Option.bind (rng (k19 + (1 : Int))) fun t56=>
      some (Sum.inl (out14,t56))
  else
    some (Sum.inr out14)
def rule_seats (first1 : Int) (n2 : Int) (so3 : Int→Option Bool) : Option (List Int):=
 Option.bind (
   iter (rule_seats_l0 first1 n2 so3) FUEL (([] : List Int),first1)) fun out7=>
 some out7
def rule_copied_l0 (t14 : List apiTable) : ((List apiTable)×Int)→Option (((List apiTable)×Int)⊕(List apiTable)):=fun (tables35,t40)=>
  bif decide (t40 < (t14.length : Int)) then
    Option.bind (getI tables35 t40) fun e49=>
    Option.bind (sl_CloneInt e49.fOpen) fun t54=>
    Option.bind (getI tables35 t40) fun e65=>
    Option.bind (some (List.set tables35 t40.toNat (apiTable.mk e65.fName e65.fShape e65.fA e65.fB t54 e65.fX e65.fY))) fun l76=>
    Option.bind (rng (t40 + (1 : Int))) fun t80=>
    some (Sum.inl (l76,t80))
  else
    some (Sum.inr tables35)
def rule_copied_l1 (t87 : List apiGuest) : ((List apiGuest)×Int)→Option (((List apiGuest)×Int)⊕(List apiGuest)):=fun (guests108,t113)=>
  bif decide (t113 < (t87.length : Int)) then
    Option.bind (getI guests108 t113) fun e122=>
    Option.bind (sl_CloneStr e122.fTongues) fun t127=>
    Option.bind (getI guests108 t113) fun e138=>
    Option.bind (some (List.set guests108 t113.toNat (apiGuest.mk e138.fName e138.fRank e138.fCourt e138.fSince e138.fSide e138.fDiet e138.fHost e138.fAccess t127))) fun l149=>
    Option.bind (rng (t113 + (1 : Int))) fun t153=>
    some (Sum.inl (l149,t153))
  else
    some (Sum.inr guests108)
def rule_copied (p1 : apiProblem) : Option (apiProblem):=
 Option.bind (sl_CloneTable p1.fTables) fun t14=>
 Option.bind (
   iter (rule_copied_l0 t14) FUEL (t14,(0 : Int))) fun tables30=>
 Option.bind (sl_CloneGuest p1.fGuests) fun t87=>
 Option.bind (
   iter (rule_copied_l1 t87) FUEL (t87,(0 : Int))) fun guests103=>
 Option.bind (sl_CloneTie p1.fTies) fun t160=>
 Option.bind (sl_CloneInt p1.fClass) fun t173=>
 Option.bind (sl_CloneRule p1.fRules) fun t186=>
 some (apiProblem.mk tables30 guests103 t160 t173 t186)
def view_both (v1 : ruleview) (r2 : apiRule) : Option (Int×Int×Bool):=
 Option.bind (rule_who v1.fJudge.fgiven r2.fA) fun t48=>
 Option.bind (rule_who v1.fJudge.fgiven r2.fB) fun t61=>
 Option.bind (getI v1.fpart t48) fun e71=>
 bif decide ((0 : Int)≤e71) then
   Option.bind (getI v1.fpart t61) fun e76=>
   some (t48,t61,decide ((0 : Int)≤e76))
 else
   some (t48,t61,false)
def view_far (v1 : ruleview) (a2 : Int) (b3 : Int) : Option (Int×Bool):=
 Option.bind (getI v1.fpart a2) fun e44=>
 Option.bind (getI v1.fJudge.fsteps e44) fun e47=>
 Option.bind (getI v1.fpart b3) fun e52=>
 Option.bind (lkM e47 e52 (0 : Int)) fun (e55,ok56)=>
 some (e55,ok56)
def view_close_l0 (v1 : ruleview) (b4 : Int) (e17 : List Int) : Int→Option (Int⊕(Unit⊕Bool)):=fun t25=>
  bif decide (t25 < (e17.length : Int)) then
    Option.bind (getI e17 t25) fun e34=>
    Option.bind (getI v1.fpart b4) fun e39=>
    bif decide (e34 = e39) then
      some (Sum.inr (Sum.inr true))
    else
      Option.bind (rng (t25 + (1 : Int))) fun t44=>
      some (Sum.inl t44)
  else
    some (Sum.inr (Sum.inl ()))
def view_close (v1 : ruleview) (l2 : List (List Int)) (a3 : Int) (b4 : Int) : Option (Bool):=
 Option.bind (getI v1.fpart a3) fun e14=>
 Option.bind (getI l2 e14) fun e17=>
 Option.bind (
   iter (view_close_l0 v1 b4 e17) FUEL (0 : Int)) fun o22=>match o22 with
 | .inl _u=>
   some false
 | .inr p=>
   some p
def view_isNear (v1 : ruleview) (a2 : Int) (b3 : Int) : Option (Bool):=
  none
def view_asked (v1 : ruleview) (r2 : apiRule) (s3 : Int) : Option (Bool):=
  none
def view_apart {σ : Type} (v1 : ruleview) (r2 : apiRule) (f3 : σ→Int→(List Int)→Option σ) (s0 : σ) : Option (σ):=
 Option.bind (view_both v1 r2) fun (t9,t10,t11)=>
 Option.bind (
   bif !t11 then
     some true
   else
     Option.bind (getI v1.fpart t9) fun e65=>
     Option.bind (getI v1.fJudge.ftable e65) fun e68=>
     Option.bind (getI v1.fpart t10) fun e71=>
     Option.bind (getI v1.fJudge.ftable e71) fun e74=>
     some (!decide (e68 = e74))) fun t22=>
 bif t22 then
   some s0
 else
   Option.bind (view_far v1 t9 t10) fun (t85,t86)=>
   bif decide (r2.fN = (0 : Int)) then
     none
   else
     bif t86 then
       bif decide (t85 < r2.fN) then
         Option.bind (f3 s0 (1 : Int) [t9,t10]) fun s107=>
         some s107
       else
         none
     else
       none
def view_sideBySide {σ : Type} (v1 : ruleview) (r2 : apiRule) (f3 : σ→Int→(List Int)→Option σ) (s0 : σ) : Option (σ):=
  none
def view_faceToFace {σ : Type} (v1 : ruleview) (r2 : apiRule) (f3 : σ→Int→(List Int)→Option σ) (s0 : σ) : Option (σ):=
 Option.bind (view_both v1 r2) fun (t9,t10,t11)=>
 bif t11 then
   Option.bind (view_close v1 v1.fJudge.facross t9 t10) fun t61=>
   bif !t61 then
     Option.bind (f3 s0 (1 : Int) [t9,t10]) fun s78=>
     some s78
   else
     some s0
 else
   none
def view_within {σ : Type} (v1 : ruleview) (r2 : apiRule) (f3 : σ→Int→(List Int)→Option σ) (s0 : σ) : Option (σ):=
  none
def view_together {σ : Type} (v1 : ruleview) (r2 : apiRule) (f3 : σ→Int→(List Int)→Option σ) (s0 : σ) : Option (σ):=
  none
def view_at {σ : Type} (v1 : ruleview) (r2 : apiRule) (f3 : σ→Int→(List Int)→Option σ) (s0 : σ) : Option (σ):=
  none
def view_seat {σ : Type} (v1 : ruleview) (r2 : apiRule) (f3 : σ→Int→(List Int)→Option σ) (s0 : σ) : Option (σ):=
  none
def view_reach {σ : Type} (v1 : ruleview) (r2 : apiRule) (f3 : σ→Int→(List Int)→Option σ) (s0 : σ) : Option (σ):=
  none
def view_speak {σ : Type} (v1 : ruleview) (r2 : apiRule) (f3 : σ→Int→(List Int)→Option σ) (s0 : σ) : Option (σ):=
  none
def view_company {σ : Type} (v1 : ruleview) (r2 : apiRule) (f3 : σ→Int→(List Int)→Option σ) (s0 : σ) : Option (σ):=
  none
def view_kitchen {σ : Type} (v1 : ruleview) (r2 : apiRule) (f3 : σ→Int→(List Int)→Option σ) (s0 : σ) : Option (σ):=
  none
def view_pairs {σ : Type} (v1 : ruleview) (r2 : apiRule) (so3 : Int→Int→Option Bool) (f4 : σ→Int→(List Int)→Option σ) (s0 : σ) : Option (σ):=
  none
def view_each_l1 (v1 : ruleview) : Unit→Option (Unit⊕Unit):=fun _u=>
  bif decide ((0 : Int) < (v1.fpart.length : Int)) then
    none
  else
    some (Sum.inr ())
def view_each_l0 {σ : Type} (v1 : ruleview) (r2 : apiRule) (do3 : σ→(List Int)→Option σ) : (σ×Int)→Option ((σ×Int)⊕σ):=fun (s56,t59)=>
  bif decide (t59 < (v1.fJudge.fgiven.fTables.length : Int)) then
    Option.bind (getI v1.fJudge.fgiven.fTables t59) fun e68=>
    bif !decide (r2.fTable = (⟨#[]⟩ : ByteArray)) then
      none
    else
      Option.bind (
        iter (view_each_l1 v1) FUEL ()) fun _u=>
      Option.bind (do3 s56 ([] : List Int)) fun s98=>
      Option.bind (rng (t59 + (1 : Int))) fun t115=>
      some (Sum.inl (s98,t115))
  else
    some (Sum.inr s56)
def view_each {σ : Type} (v1 : ruleview) (r2 : apiRule) (do3 : σ→(List Int)→Option σ) (s0 : σ) : Option (σ):=
 Option.bind (
   iter (view_each_l0 v1 r2 do3) FUEL (s0,(0 : Int))) fun s52=>
 some s52
def view_alternate_1 (a1 : Int) (b2 : Int) (t3 : ruleview) : Option (Bool):=
  none
def view_alternate {σ : Type} (v1 : ruleview) (r2 : apiRule) (f3 : σ→Int→(List Int)→Option σ) (s0 : σ) : Option (σ):=
  none
def view_mix_1 (a1 : Int) (b2 : Int) (t3 : ruleview) : Option (Bool):=
  none
def view_mix {σ : Type} (v1 : ruleview) (r2 : apiRule) (f3 : σ→Int→(List Int)→Option σ) (s0 : σ) : Option (σ):=
  none
def view_peace_1 (a1 : Int) (b2 : Int) (t3 : ruleview) : Option (Bool):=
  none
def view_peace {σ : Type} (v1 : ruleview) (r2 : apiRule) (f3 : σ→Int→(List Int)→Option σ) (s0 : σ) : Option (σ):=
  none
def view_honour_1 (a1 : Int) (b2 : Int) (t3 : ruleview) : Option (Bool):=
  none
def view_honour {σ : Type} (v1 : ruleview) (r2 : apiRule) (f3 : σ→Int→(List Int)→Option σ) (s0 : σ) : Option (σ):=
  none
def view_host_1 {σ : Type} (l1 : List Int) (t2 : ruleview) (t5 : σ→Int→(List Int)→Option σ) (s0 : σ) : Option (σ):=
  none
def view_host {σ : Type} (v1 : ruleview) (r2 : apiRule) (f3 : σ→Int→(List Int)→Option σ) (s0 : σ) : Option (σ):=
  none
def view_fill_1 {σ : Type} (l1 : List Int) (t2 : apiRule) (t3 : σ→Int→(List Int)→Option σ) (s0 : σ) : Option (σ):=
 bif decide ((l1.length : Int) < t2.fN) then
   Option.bind (rng (t2.fN - (l1.length : Int))) fun t5=>
   Option.bind (t3 s0 t5 l1) fun s6=>
   some s6
 else
   none
def view_fill {σ : Type} (v1 : ruleview) (r2 : apiRule) (f3 : σ→Int→(List Int)→Option σ) (s0 : σ) : Option (σ):=
 Option.bind (view_each v1 r2 (fun s_ y0=>view_fill_1 y0 r2 f3 s_) s0) fun s28=>
 some s28
def view_limit_1 {σ : Type} (l1 : List Int) (t2 : apiRule) (t3 : σ→Int→(List Int)→Option σ) (s0 : σ) : Option (σ):=
  none
def view_limit {σ : Type} (v1 : ruleview) (r2 : apiRule) (f3 : σ→Int→(List Int)→Option σ) (s0 : σ) : Option (σ):=
  none
end Go.Dm
open Go Go.Sl
namespace Go.Dm
def rule_find {σ : Type} (n : Nat) (v : ruleview) (r : apiRule) (f : σ→Int→(List Int)→Option σ) (s : σ) : Option σ:=
  if n = 88 then view_apart v r f s else
  if n = 89 then view_sideBySide v r f s else
  if n = 90 then view_faceToFace v r f s else
  if n = 91 then view_within v r f s else
  if n = 92 then view_together v r f s else
  if n = 93 then view_at v r f s else
  if n = 94 then view_seat v r f s else
  if n = 95 then view_alternate v r f s else
  if n = 96 then view_host v r f s else
  if n = 97 then view_reach v r f s else
  if n = 98 then view_speak v r f s else
  if n = 99 then view_peace v r f s else
  if n = 100 then view_company v r f s else
  if n = 101 then view_honour v r f s else
  if n = 102 then view_fill v r f s else
  if n = 103 then view_limit v r f s else
  if n = 104 then view_kitchen v r f s else
  if n = 105 then view_mix v r f s else
  none
def view_faults_1 (k1 : Int) (u2 : List Int) (t3 : Int) : Option (Int):=
 Option.bind (rng (t3 + k1)) fun t4=>
 some t4
def view_faults (v1 : ruleview) (i2 : Int) : Option (Int):=
 Option.bind (getI v1.fJudge.fgiven.fRules i2) fun e44=>
 Option.bind (lkM v1.fJudge.fkinds e44.fKind (rulekind.mk (⟨#[]⟩ : ByteArray) (0 : Int) false (0 : Int) false (0 : Int) false (0 : Nat))) fun (e47,ok48)=>
 Option.bind (getI v1.fJudge.fgiven.fRules i2) fun e51=>
 Option.bind (rule_find e47.ffind v1 e51 (fun s_ y0 y1=>view_faults_1 y0 y1 s_) (0 : Int)) fun s65=>
 some s65
def view_least_l0 (v1 : ruleview) : (Int×Int)→Option ((Int×Int)⊕Int):=fun (t25,left26)=>
  bif decide (t25 < (v1.fpart.length : Int)) then
    Option.bind (getI v1.fpart t25) fun e35=>
    bif decide (e35 < (0 : Int)) then
      Option.bind (rng (left26 + (1 : Int))) fun t40=>
      Option.bind (getI v1.fJudge.fgiven.fGuests t25) fun e74=>
      bif e74.fHost then
        none
      else
        Option.bind (rng (t25 + (1 : Int))) fun t80=>
        some (Sum.inl (t80,t40))
    else
      Option.bind (rng (t25 + (1 : Int))) fun t81=>
      some (Sum.inl (t81,left26))
  else
    some (Sum.inr left26)
def view_least (v1 : ruleview) (i2 : Int) : Option (Int):=
 Option.bind (view_faults v1 i2) fun t3=>
 Option.bind (
   iter (view_least_l0 v1) FUEL ((0 : Int),(0 : Int))) fun left24=>
 Option.bind (getI v1.fJudge.fgiven.fRules i2) fun e118=>
 bif decide (e118.fKind = (9 : Int)) then
   none
 else
   bif decide (e118.fKind = (15 : Int)) then
     Option.bind (rng (t3 - left24)) fun t123=>
     some (max t123 (0 : Int))
   else
     bif decide (e118.fKind = (11 : Int)) then
       none
     else
       some (max t3 (0 : Int))
def rule_kinds  : Option (List (Int×rulekind)):=
 Option.bind (some (mset ([] : List (Int×rulekind)) (1 : Int) (rulekind.mk (⟨#[97,112,97,114,116]⟩ : ByteArray) (103 : Int) true (0 : Int) true (0 : Int) false (88 : Nat)))) fun m5=>
 Option.bind (some (mset m5 (2 : Int) (rulekind.mk (⟨#[98,101,115,105,100,101]⟩ : ByteArray) (103 : Int) true (0 : Int) false (0 : Int) false (89 : Nat)))) fun m9=>
 Option.bind (some (mset m9 (3 : Int) (rulekind.mk (⟨#[97,99,114,111,115,115]⟩ : ByteArray) (103 : Int) true (0 : Int) false (0 : Int) false (90 : Nat)))) fun m13=>
 Option.bind (some (mset m13 (4 : Int) (rulekind.mk (⟨#[110,101,97,114]⟩ : ByteArray) (103 : Int) true (0 : Int) true (1 : Int) false (91 : Nat)))) fun m17=>
 Option.bind (some (mset m17 (5 : Int) (rulekind.mk (⟨#[116,111,103,101,116,104,101,114]⟩ : ByteArray) (103 : Int) true (0 : Int) false (0 : Int) false (92 : Nat)))) fun m21=>
 Option.bind (some (mset m21 (6 : Int) (rulekind.mk (⟨#[97,116]⟩ : ByteArray) (103 : Int) false (116 : Int) false (0 : Int) false (93 : Nat)))) fun m25=>
 Option.bind (some (mset m25 (7 : Int) (rulekind.mk (⟨#[115,101,97,116]⟩ : ByteArray) (103 : Int) false (116 : Int) true (0 : Int) true (94 : Nat)))) fun m29=>
 Option.bind (some (mset m29 (8 : Int) (rulekind.mk (⟨#[97,108,116,101,114,110,97,116,101]⟩ : ByteArray) (0 : Int) false (101 : Int) false (0 : Int) false (95 : Nat)))) fun m33=>
 Option.bind (some (mset m33 (9 : Int) (rulekind.mk (⟨#[104,111,115,116]⟩ : ByteArray) (0 : Int) false (101 : Int) false (0 : Int) false (96 : Nat)))) fun m37=>
 Option.bind (some (mset m37 (10 : Int) (rulekind.mk (⟨#[114,101,97,99,104]⟩ : ByteArray) (101 : Int) false (0 : Int) false (0 : Int) false (97 : Nat)))) fun m41=>
 Option.bind (some (mset m41 (11 : Int) (rulekind.mk (⟨#[115,112,101,97,107]⟩ : ByteArray) (0 : Int) false (101 : Int) false (0 : Int) false (98 : Nat)))) fun m45=>
 Option.bind (some (mset m45 (12 : Int) (rulekind.mk (⟨#[112,101,97,99,101]⟩ : ByteArray) (0 : Int) false (101 : Int) false (0 : Int) false (99 : Nat)))) fun m49=>
 Option.bind (some (mset m49 (13 : Int) (rulekind.mk (⟨#[99,111,109,112,97,110,121]⟩ : ByteArray) (0 : Int) false (101 : Int) false (0 : Int) false (100 : Nat)))) fun m53=>
 Option.bind (some (mset m53 (14 : Int) (rulekind.mk (⟨#[104,111,110,111,117,114]⟩ : ByteArray) (0 : Int) false (101 : Int) false (0 : Int) false (101 : Nat)))) fun m57=>
 Option.bind (some (mset m57 (15 : Int) (rulekind.mk (⟨#[102,105,108,108]⟩ : ByteArray) (0 : Int) false (101 : Int) true (0 : Int) false (102 : Nat)))) fun m61=>
 Option.bind (some (mset m61 (16 : Int) (rulekind.mk (⟨#[108,105,109,105,116]⟩ : ByteArray) (0 : Int) false (101 : Int) true (0 : Int) false (103 : Nat)))) fun m65=>
 Option.bind (some (mset m65 (17 : Int) (rulekind.mk (⟨#[107,105,116,99,104,101,110]⟩ : ByteArray) (100 : Int) false (116 : Int) false (0 : Int) false (104 : Nat)))) fun m69=>
 Option.bind (some (mset m69 (18 : Int) (rulekind.mk (⟨#[109,105,120]⟩ : ByteArray) (0 : Int) false (101 : Int) false (0 : Int) false (105 : Nat)))) fun m73=>
 some m73
def kind_plain_p0 (k1 : rulekind) (r2 : apiRule) : Option (Bool):=
  bif k1.fb then
    bif !decide (k1.ft = (0 : Int)) then
      bif k1.fn then
        some true
      else
        some (decide (r2.fN = (0 : Int)))
    else
      bif decide (r2.fTable = (⟨#[]⟩ : ByteArray)) then
        bif k1.fn then
          some true
        else
          some (decide (r2.fN = (0 : Int)))
      else
        none
  else
    bif decide (r2.fB = (⟨#[]⟩ : ByteArray)) then
      bif !decide (k1.ft = (0 : Int)) then
        bif k1.fn then
          some true
        else
          some (decide (r2.fN = (0 : Int)))
      else
        bif decide (r2.fTable = (⟨#[]⟩ : ByteArray)) then
          bif k1.fn then
            some true
          else
            some (decide (r2.fN = (0 : Int)))
        else
          none
    else
      none
def kind_plain_p1 (k1 : rulekind) (r2 : apiRule) : Option (Bool):=
  bif k1.fb then
    bif !decide (k1.ft = (0 : Int)) then
      bif k1.fn then
        some true
      else
        some (decide (r2.fN = (0 : Int)))
    else
      bif decide (r2.fTable = (⟨#[]⟩ : ByteArray)) then
        bif k1.fn then
          some true
        else
          some (decide (r2.fN = (0 : Int)))
      else
        none
  else
    bif decide (r2.fB = (⟨#[]⟩ : ByteArray)) then
      bif !decide (k1.ft = (0 : Int)) then
        bif k1.fn then
          some true
        else
          some (decide (r2.fN = (0 : Int)))
      else
        bif decide (r2.fTable = (⟨#[]⟩ : ByteArray)) then
          bif k1.fn then
            some true
          else
            some (decide (r2.fN = (0 : Int)))
        else
          none
    else
      none
def kind_plain (k1 : rulekind) (r2 : apiRule) : Option (Bool):=
 bif !decide (k1.fa = (0 : Int)) then
   kind_plain_p0 k1 r2
 else
   bif decide (r2.fA = (⟨#[]⟩ : ByteArray)) then
     kind_plain_p1 k1 r2
   else
     none
def kind_check_p0 (k1 : rulekind) (p2 : apiProblem) (r13 : apiRule) : Option (Int):=
  Option.bind (hall_Find p2.fTables r13.fTable) fun (t115,t116)=>
  Option.bind (
    bif decide (k1.ft = (116 : Int)) then
      none
    else
      bif decide (k1.ft = (101 : Int)) then
        bif !decide (r13.fTable = (⟨#[]⟩ : ByteArray)) then
          none
        else
          some false
      else
        some false) fun t127=>
  bif t127 then
    none
  else
    bif k1.fseat then
      none
    else
      bif k1.fn then
        bif decide (r13.fN < k1.flo) then
          none
        else
          bif decide ((24 : Int) < r13.fN) then
            none
          else
            some (0 : Int)
      else
        some (0 : Int)
def kind_check_p1 (k1 : rulekind) (p2 : apiProblem) (r13 : apiRule) : Option (Int):=
  bif decide (k1.fa = (101 : Int)) then
    none
  else
    Option.bind (
      bif k1.fb then
        Option.bind (rule_who p2 r13.fB) fun t84=>
        some (decide (t84 < (0 : Int)))
      else
        some false) fun t73=>
    bif t73 then
      none
    else
      bif decide (k1.fa = (100 : Int)) then
        none
      else
        Option.bind (
          bif k1.fb then
            some (decide (r13.fA = r13.fB))
          else
            some false) fun t101=>
        bif t101 then
          none
        else
          kind_check_p0 k1 p2 r13
def kind_check (k1 : rulekind) (p2 : apiProblem) (r13 : apiRule) : Option (Int):=
 bif decide (k1.fword = (⟨#[]⟩ : ByteArray)) then
   none
 else
   bif decide (r13.fWeight < (0 : Int)) then
     none
   else
     bif decide ((1000 : Int) < r13.fWeight) then
       none
     else
       Option.bind (kind_plain k1 r13) fun t31=>
       bif !t31 then
         none
       else
         Option.bind (
           bif decide (k1.fa = (103 : Int)) then
             Option.bind (rule_who p2 r13.fA) fun t55=>
             some (decide (t55 < (0 : Int)))
           else
             some false) fun t43=>
         bif t43 then
           none
         else
           kind_check_p1 k1 p2 r13
def rule_basis_l0 (p1 : apiProblem) : Unit→Option (Unit⊕Unit):=fun _u=>
  bif decide ((0 : Int) < (p1.fClass.length : Int)) then
    none
  else
    some (Sum.inr ())
def rule_basis (p1 : apiProblem) : Option (Int×Int):=
 Option.bind (hall_CheckAll p1.fTables) fun (t17,t18)=>
 bif !decide (t18 = (0 : Int)) then
   none
 else
   Option.bind (guest_CheckRoll (apiRoll.mk p1.fGuests p1.fTies)) fun (t31,t32)=>
   bif !decide (t32 = (0 : Int)) then
     none
   else
     bif decide ((0 : Int) < (p1.fClass.length : Int)) then
       none
     else
       Option.bind (
         iter (rule_basis_l0 p1) FUEL ()) fun _u=>
       Option.bind (hall_Count p1.fTables) fun t64=>
       bif decide (t64 < (p1.fGuests.length : Int)) then
         none
       else
         some ((0 : Int),(0 : Int))
def rule_Check_l0 (p1 : apiProblem) (t31 : List (Int×rulekind)) : Int→Option (Int⊕Unit):=fun t46=>
  bif decide (t46 < (p1.fRules.length : Int)) then
    Option.bind (getI p1.fRules t46) fun e55=>
    Option.bind (lkM t31 e55.fKind (rulekind.mk (⟨#[]⟩ : ByteArray) (0 : Int) false (0 : Int) false (0 : Int) false (0 : Nat))) fun (e64,ok65)=>
    Option.bind (kind_check e64 p1 e55) fun t77=>
    bif !decide (t77 = (0 : Int)) then
      none
    else
      bif decide (t46 = (64 : Int)) then
        none
      else
        Option.bind (rng (t46 + (1 : Int))) fun t87=>
        some (Sum.inl t87)
  else
    some (Sum.inr ())
def rule_Check (p1 : apiProblem) : Option (Int×Int):=
 Option.bind (rule_basis p1) fun (t21,t22)=>
 bif !decide (t22 = (0 : Int)) then
   none
 else
   Option.bind (rule_kinds) fun t31=>
   Option.bind (
     iter (rule_Check_l0 p1 t31) FUEL (0 : Int)) fun _u=>
   some ((0 : Int),(0 : Int))
def rule_New_1 (k1 : Int) (t2 : apiProblem) (t13 : Int) : Option (Bool):=
 Option.bind (hall_Beside t2.fTables t13 k1) fun t14=>
 some t14
def rule_New_2 (k1 : Int) (t2 : apiProblem) (t13 : Int) : Option (Bool):=
 Option.bind (hall_Across t2.fTables t13 k1) fun t14=>
 some t14
def Judge_walk_p0 (e129 : List Int) (t148 : Int) (out149 : List (Int×Int)) (line154 : List Int) : Option ((Int×(List (Int×Int))×(List Int))⊕((List (Int×Int))×(List Int))):=
  Option.bind (getI e129 t148) fun e167=>
  Option.bind (lkM out149 e167 (0 : Int)) fun (e171,ok172)=>
  bif !ok172 then
    Option.bind (getI line154 (0 : Int)) fun e176=>
    Option.bind (lkM out149 e176 (0 : Int)) fun (e179,ok180)=>
    Option.bind (rng (e179 + (1 : Int))) fun t183=>
    Option.bind (some (mset out149 e167 t183)) fun m185=>
    Option.bind (apL line154 [e167]) fun t191=>
    Option.bind (rng (t148 + (1 : Int))) fun t197=>
    some (Sum.inl (t197,m185,t191))
  else
    Option.bind (rng (t148 + (1 : Int))) fun t198=>
    some (Sum.inl (t198,out149,line154))
def Judge_walk_l2 (e129 : List Int) : (Int×(List (Int×Int))×(List Int))→Option ((Int×(List (Int×Int))×(List Int))⊕((List (Int×Int))×(List Int))):=fun (t148,out149,line154)=>
  bif decide (t148 < (e129.length : Int)) then
    Judge_walk_p0 e129 t148 out149 line154
  else
    some (Sum.inr (out149,line154))
def Judge_walk_l1 (e74 : List Int) (e82 : List Int) : (Int×(List (Int×Int))×(List Int))→Option ((Int×(List (Int×Int))×(List Int))⊕((List (Int×Int))×(List Int))):=fun (t110,out111,line116)=>
  bif decide (t110 < ([e74,e82].length : Int)) then
    Option.bind (getI [e74,e82] t110) fun e129=>
    Option.bind (
      iter (Judge_walk_l2 e129) FUEL ((0 : Int),out111,line116)) fun (out138,line143)=>
    Option.bind (rng (t110 + (1 : Int))) fun t202=>
    some (Sum.inl (t202,out138,line143))
  else
    some (Sum.inr (out111,line116))
def Judge_walk_l0 (j1 : ruleJudge) : ((List (Int×Int))×(List Int))→Option (((List (Int×Int))×(List Int))⊕(List (Int×Int))):=fun (out21,line26)=>
  bif decide ((0 : Int) < (line26.length : Int)) then
    Option.bind (getI line26 (0 : Int)) fun e71=>
    Option.bind (getI j1.fbeside e71) fun e74=>
    Option.bind (getI line26 (0 : Int)) fun e79=>
    Option.bind (getI j1.facross e79) fun e82=>
    Option.bind (
      iter (Judge_walk_l1 e74 e82) FUEL ((0 : Int),out21,line26)) fun (out98,line103)=>
    Option.bind (sbL line103 (1 : Int) (line103.length : Int)) fun t207=>
    some (Sum.inl (out98,t207))
  else
    some (Sum.inr out21)
def Judge_walk (j1 : ruleJudge) (from2 : Int) : Option (List (Int×Int)):=
 Option.bind (some (mset ([] : List (Int×Int)) from2 (0 : Int))) fun m7=>
 Option.bind (
   iter (Judge_walk_l0 j1) FUEL (m7,[from2])) fun out16=>
 some out16
def Judge_none (j1 : ruleJudge) : Option (Bool):=
 some false
def rule_New_p0 (p1 : apiProblem) (t131 : Int) (t142 : Int) (t158 : Int) (table201 : List Int) (level206 : List Int) (open211 : List Bool) (beside216 : List (List Int)) (across221 : List (List Int)) (s226 : Int) : Option (((List Int)×(List Int)×(List Bool)×(List (List Int))×(List (List Int))×Int)⊕((List Int)×(List Int)×(List Bool)×(List (List Int))×(List (List Int)))):=
  Option.bind (apL table201 [t131]) fun t240=>
  Option.bind (hall_Level p1.fTables s226) fun t251=>
  Option.bind (apL level206 [t251]) fun t262=>
  Option.bind (hall_Open p1.fTables s226) fun t273=>
  Option.bind (apL open211 [t273]) fun t284=>
  Option.bind (rule_seats t142 t158 (fun y0=>rule_New_1 y0 p1 s226)) fun t311=>
  Option.bind (apL beside216 [t311]) fun t330=>
  Option.bind (rule_seats t142 t158 (fun y0=>rule_New_2 y0 p1 s226)) fun t354=>
  Option.bind (apL across221 [t354]) fun t373=>
  Option.bind (rng (s226 + (1 : Int))) fun t386=>
  some (Sum.inl (t240,t262,t284,t330,t373,t386))
def rule_New_l1 (p1 : apiProblem) (t131 : Int) (t142 : Int) (t158 : Int) : ((List Int)×(List Int)×(List Bool)×(List (List Int))×(List (List Int))×Int)→Option (((List Int)×(List Int)×(List Bool)×(List (List Int))×(List (List Int))×Int)⊕((List Int)×(List Int)×(List Bool)×(List (List Int))×(List (List Int)))):=fun (table201,level206,open211,beside216,across221,s226)=>
  Option.bind (rng (t142 + t158)) fun t235=>
  bif decide (s226 < t235) then
    rule_New_p0 p1 t131 t142 t158 table201 level206 open211 beside216 across221 s226
  else
    some (Sum.inr (table201,level206,open211,beside216,across221))
def rule_New_l0 (p1 : apiProblem) : ((List Int)×(List Int)×(List Bool)×(List (List Int))×(List (List Int))×Int)→Option (((List Int)×(List Int)×(List Bool)×(List (List Int))×(List (List Int))×Int)⊕((List Int)×(List Int)×(List Bool)×(List (List Int))×(List (List Int)))):=fun (table106,level111,open116,beside121,across126,t131)=>
  bif decide (t131 < (p1.fTables.length : Int)) then
    Option.bind (hall_First p1.fTables t131) fun t142=>
    Option.bind (rng (t131 + (1 : Int))) fun t151=>
    Option.bind (sbL p1.fTables t131 t151) fun t153=>
    Option.bind (hall_Count t153) fun t158=>
    Option.bind (
      iter (rule_New_l1 p1 t131 t142 t158) FUEL (table106,level111,open116,beside121,across126,t142)) fun (table170,level175,open180,beside185,across190)=>
    Option.bind (rng (t131 + (1 : Int))) fun t397=>
    some (Sum.inl (table170,level175,open180,beside185,across190,t397))
  else
    some (Sum.inr (table106,level111,open116,beside121,across126))
def rule_New_l2 (t37 : apiProblem) (t55 : List (Int×rulekind)) (table71 : List Int) (level76 : List Int) (open81 : List Bool) (beside86 : List (List Int)) (across91 : List (List Int)) : ((List (List (Int×Int)))×Int)→Option (((List (List (Int×Int)))×Int)⊕(List (List (Int×Int)))):=fun (steps412,t417)=>
  bif decide (t417 < (table71.length : Int)) then
    Option.bind (Judge_walk (ruleJudge.mk t37 t55 table71 level76 open81 beside86 across91 steps412 ([] : List (List Bool)) ([] : List (List Int))) t417) fun t447=>
    Option.bind (apL steps412 [t447]) fun t502=>
    Option.bind (rng (t417 + (1 : Int))) fun t512=>
    some (Sum.inl (t502,t512))
  else
    some (Sum.inr steps412)
def rule_New_l4 (p1 : apiProblem) (t522 : guestBook) (e572 : apiGuest) : (Int×(List Bool)×(List Int))→Option ((Int×(List Bool)×(List Int))⊕((List Bool)×(List Int))):=fun (t603,c604,k609)=>
  bif decide (t603 < (p1.fGuests.length : Int)) then
    Option.bind (getI p1.fGuests t603) fun e622=>
    Option.bind (Book_Common t522 e572.fName e622.fName) fun t637=>
    Option.bind (apL c604 [decide ((0 : Int) < (t637.length : Int))]) fun t651=>
    Option.bind (Book_Tied t522 e572.fName e622.fName) fun (t662,t663)=>
    Option.bind (apL k609 [t662]) fun t674=>
    Option.bind (rng (t603 + (1 : Int))) fun t682=>
    some (Sum.inl (t682,t651,t674))
  else
    some (Sum.inr (c604,k609))
def rule_New_l3 (p1 : apiProblem) (t522 : guestBook) : ((List (List Bool))×(List (List Int))×Int)→Option (((List (List Bool))×(List (List Int))×Int)⊕((List (List Bool))×(List (List Int)))):=fun (common553,ties558,t563)=>
  bif decide (t563 < (p1.fGuests.length : Int)) then
    Option.bind (getI p1.fGuests t563) fun e572=>
    Option.bind (
      iter (rule_New_l4 p1 t522 e572) FUEL ((0 : Int),([] : List Bool),([] : List Int))) fun (c589,k594)=>
    Option.bind (apL common553 [c589]) fun t703=>
    Option.bind (apL ties558 [k594]) fun t714=>
    Option.bind (rng (t563 + (1 : Int))) fun t725=>
    some (Sum.inl (t703,t714,t725))
  else
    some (Sum.inr (common553,ties558))
def rule_New_p1 (p1 : apiProblem) : Option (ruleJudge×Int×Int):=
  Option.bind (rule_copied p1) fun t37=>
  Option.bind (rule_kinds) fun t55=>
  Option.bind (
    iter (rule_New_l0 p1) FUEL (([] : List Int),([] : List Int),([] : List Bool),([] : List (List Int)),([] : List (List Int)),(0 : Int))) fun (table71,level76,open81,beside86,across91)=>
  Option.bind (
    iter (rule_New_l2 t37 t55 table71 level76 open81 beside86 across91) FUEL (([] : List (List (Int×Int))),(0 : Int))) fun steps405=>
  Option.bind (guest_Load (apiRoll.mk p1.fGuests p1.fTies)) fun (t522,t523,t524)=>
  Option.bind (
    iter (rule_New_l3 p1 t522) FUEL (([] : List (List Bool)),([] : List (List Int)),(0 : Int))) fun (common539,ties544)=>
  some ((ruleJudge.mk t37 t55 table71 level76 open81 beside86 across91 steps405 common539 ties544),(0 : Int),(0 : Int))
def rule_New (p1 : apiProblem) : Option (ruleJudge×Int×Int):=
 Option.bind (rule_Check p1) fun (t21,t22)=>
 bif !decide (t22 = (0 : Int)) then
   none
 else
   rule_New_p1 p1
def Judge_Problem (j1 : ruleJudge) : Option (apiProblem):=
 Option.bind (Judge_none j1) fun t3=>
 bif t3 then
   none
 else
   Option.bind (rule_copied j1.fgiven) fun t44=>
   some t44
def Judge_look_p0 (guest78 : List Int) (t83 : Int) (e92 : Int) : Option (((List Int)×Int)⊕(List Int)):=
  bif decide ((0 : Int)≤e92) then
    Option.bind (getI guest78 e92) fun e102=>
    bif decide ((0 : Int)≤e102) then
      none
    else
      bif decide ((0 : Int)≤e92) then
        Option.bind (getI guest78 e92) fun e107=>
        Option.bind (some (List.set guest78 e92.toNat t83)) fun l110=>
        Option.bind (rng (t83 + (1 : Int))) fun t113=>
        some (Sum.inl (l110,t113))
      else
        Option.bind (rng (t83 + (1 : Int))) fun t114=>
        some (Sum.inl (guest78,t114))
  else
    bif decide ((0 : Int)≤e92) then
      Option.bind (getI guest78 e92) fun e116=>
      Option.bind (some (List.set guest78 e92.toNat t83)) fun l119=>
      Option.bind (rng (t83 + (1 : Int))) fun t122=>
      some (Sum.inl (l119,t122))
    else
      Option.bind (rng (t83 + (1 : Int))) fun t123=>
      some (Sum.inl (guest78,t123))
def Judge_look_l0 (j1 : ruleJudge) (part2 : List Int) : ((List Int)×Int)→Option (((List Int)×Int)⊕(List Int)):=fun (guest78,t83)=>
  bif decide (t83 < (part2.length : Int)) then
    Option.bind (getI part2 t83) fun e92=>
    bif decide (e92 < (-1 : Int)) then
      none
    else
      bif decide ((j1.ftable.length : Int)≤e92) then
        none
      else
        Judge_look_p0 guest78 t83 e92
  else
    some (Sum.inr guest78)
def Judge_look (j1 : ruleJudge) (part2 : List Int) : Option (ruleview):=
 Option.bind (Judge_none j1) fun t3=>
 bif t3 then
   none
 else
   bif !decide ((part2.length : Int) = (j1.fgiven.fGuests.length : Int)) then
     none
   else
     Option.bind (sl_Repeat [(-1 : Int)] (j1.ftable.length : Int)) fun t54=>
     Option.bind (
       iter (Judge_look_l0 j1 part2) FUEL (t54,(0 : Int))) fun guest73=>
     some (ruleview.mk j1 part2 guest73)
def Judge_Least (j1 : ruleJudge) (part2 : List Int) (i3 : Int) : Option (Int):=
 Option.bind (Judge_look j1 part2) fun t4=>
 bif decide (i3 < (0 : Int)) then
   none
 else
   bif decide ((t4.fJudge.fgiven.fRules.length : Int)≤i3) then
     none
   else
     Option.bind (view_least t4 i3) fun t55=>
     some t55
def Judge_sum_l0 (count3 : ruleview→Int→Option Int) (t4 : ruleview) : (Int×Int)→Option ((Int×Int)⊕Int):=fun (t57,n58)=>
  bif decide (t57 < (t4.fJudge.fgiven.fRules.length : Int)) then
    Option.bind (getI t4.fJudge.fgiven.fRules t57) fun e67=>
    bif decide ((0 : Int) < e67.fWeight) then
      Option.bind (count3 t4 t57) fun t96=>
      Option.bind (rng (e67.fWeight * t96)) fun t111=>
      Option.bind (rng (n58 + t111)) fun t112=>
      Option.bind (rng (t57 + (1 : Int))) fun t113=>
      some (Sum.inl (t113,t112))
    else
      Option.bind (rng (t57 + (1 : Int))) fun t115=>
      some (Sum.inl (t115,n58))
  else
    some (Sum.inr n58)
def Judge_sum (j1 : ruleJudge) (part2 : List Int) (count3 : ruleview→Int→Option Int) : Option (Int):=
 Option.bind (Judge_look j1 part2) fun t4=>
 Option.bind (
   iter (Judge_sum_l0 count3 t4) FUEL ((0 : Int),(0 : Int))) fun n56=>
 some n56
def Judge_Floor (j1 : ruleJudge) (part2 : List Int) : Option (Int):=
 Option.bind (Judge_sum j1 part2 view_least) fun t12=>
 some t12
def Judge_Dead_l0 (t3 : ruleview) : Int→Option (Int⊕(Unit⊕(Int×Bool))):=fun t55=>
  bif decide (t55 < (t3.fJudge.fgiven.fRules.length : Int)) then
    Option.bind (getI t3.fJudge.fgiven.fRules t55) fun e64=>
    bif decide (e64.fWeight = (0 : Int)) then
      Option.bind (view_least t3 t55) fun t93=>
      bif decide ((0 : Int) < t93) then
        some (Sum.inr (Sum.inr (t55,true)))
      else
        Option.bind (rng (t55 + (1 : Int))) fun t103=>
        some (Sum.inl t103)
    else
      Option.bind (rng (t55 + (1 : Int))) fun t105=>
      some (Sum.inl t105)
  else
    some (Sum.inr (Sum.inl ()))
def Judge_Dead (j1 : ruleJudge) (part2 : List Int) : Option (Int×Bool):=
 Option.bind (Judge_look j1 part2) fun t3=>
 Option.bind (
   iter (Judge_Dead_l0 t3) FUEL (0 : Int)) fun o52=>match o52 with
 | .inl _u=>
   some ((0 : Int),false)
 | .inr p=>
   some p
def Judge_Cost (j1 : ruleJudge) (part2 : List Int) : Option (Int):=
 Option.bind (Judge_sum j1 part2 view_faults) fun t12=>
 some t12
def hall_Honour_1 (a1 : Int) (b2 : Int) (t3 : List Int) (t6 : Int) : Option (Int):=
  none
def hall_Honour (l1 : List apiTable) (t2 : Int) : Option (List Int):=
  none
def rule_Pinned_l0 (p1 : apiProblem) : Int→Option (Int⊕Unit):=fun t40=>
  bif decide (t40 < (p1.fRules.length : Int)) then
    Option.bind (getI p1.fRules t40) fun e49=>
    bif decide (e49.fKind = (7 : Int)) then
      none
    else
      bif decide (e49.fKind = (14 : Int)) then
        none
      else
        Option.bind (rng (t40 + (1 : Int))) fun t60=>
        some (Sum.inl t60)
  else
    some (Sum.inr ())
def rule_Pinned (p1 : apiProblem) (t12 : Int) : Option (List Int):=
 Option.bind (rule_Check p1) fun (t22,t23)=>
 bif !decide (t23 = (0 : Int)) then
   none
 else
   bif decide (t12 < (0 : Int)) then
     none
   else
     bif decide ((p1.fTables.length : Int)≤t12) then
       none
     else
       Option.bind (
         iter (rule_Pinned_l0 p1) FUEL (0 : Int)) fun _u=>
       Option.bind (sl_SortInt ([] : List Int)) fun l67=>
       Option.bind (sl_CompactInt ([] : List Int)) fun t80=>
       some t80
end Go.Dm
open Go Go.Sl
namespace Go.Dm
def hall_Stay_1 (k1 : Int) (t2 : apiTable) : Option (Bool):=
  none
def hall_Stay_2 (k1 : Int) (t2 : List Int) : Option (Bool):=
  none
def hall_keeps_p0 (t1 : apiTable) (p4 : List Int) (t13 : Int) (t50 : Int) : Option (Int⊕Unit):=
  Option.bind (getI p4 t13) fun e61=>
  Option.bind (getI p4 t50) fun e65=>
  Option.bind (hall_beside t1 t13 t50) fun t70=>
  Option.bind (hall_beside t1 e61 e65) fun t79=>
  bif !(t70 == t79) then
    none
  else
    Option.bind (getI p4 t13) fun e90=>
    Option.bind (getI p4 t50) fun e94=>
    Option.bind (hall_across t1 t13 t50) fun t98=>
    Option.bind (hall_across t1 e90 e94) fun t107=>
    bif !(t98 == t107) then
      none
    else
      Option.bind (rng (t50 + (1 : Int))) fun t116=>
      some (Sum.inl t116)
def hall_keeps_l1 (t1 : apiTable) (p4 : List Int) (t13 : Int) : Int→Option (Int⊕Unit):=fun t50=>
  bif decide (t50 < t13) then
    hall_keeps_p0 t1 p4 t13 t50
  else
    some (Sum.inr ())
def hall_keeps_l0 (t1 : apiTable) (p4 : List Int) : Int→Option (Int⊕Unit):=fun t13=>
  bif decide (t13 < (p4.length : Int)) then
    Option.bind (getI p4 t13) fun e23=>
    Option.bind (sl_ContainsInt t1.fOpen t13) fun t29=>
    Option.bind (sl_ContainsInt t1.fOpen e23) fun t38=>
    bif !(t29 == t38) then
      none
    else
      Option.bind (
        iter (hall_keeps_l1 t1 p4 t13) FUEL (0 : Int)) fun _u=>
      Option.bind (rng (t13 + (1 : Int))) fun t121=>
      some (Sum.inl t121)
  else
    some (Sum.inr ())
def hall_keeps (t1 : apiTable) (p4 : List Int) : Option (Bool):=
 Option.bind (
   iter (hall_keeps_l0 t1 p4) FUEL (0 : Int)) fun _u=>
 some true
def hall_candidates_1_l1 (e78 : Int→Option Int) (t89 : List Int) : (Int×(List Int))→Option ((Int×(List Int))⊕(List Int)):=fun (t98,p99)=>
  bif decide (t98 < (t89.length : Int)) then
    Option.bind (e78 t98) fun t112=>
    Option.bind (getI p99 t98) fun e126=>
    Option.bind (some (List.set p99 t98.toNat t112)) fun l130=>
    Option.bind (rng (t98 + (1 : Int))) fun t133=>
    some (Sum.inl (t133,l130))
  else
    some (Sum.inr p99)
def hall_candidates_1_l0 {σ : Type} (yield1 : σ→(List Int)→Option (σ×Bool)) (t32 : Int) (t42 : List (Int→Option Int)) : (σ×Int)→Option ((σ×Int)⊕σ):=fun (s66,t69)=>
  bif decide (t69 < (t42.length : Int)) then
    Option.bind (getI t42 t69) fun e78=>
    Option.bind (mkL t32 (0 : Int)) fun t89=>
    Option.bind (
      iter (hall_candidates_1_l1 e78 t89) FUEL ((0 : Int),t89)) fun p93=>
    Option.bind (yield1 s66 p93) fun (s143,t145)=>
    bif !t145 then
      none
    else
      Option.bind (rng (t69 + (1 : Int))) fun t162=>
      some (Sum.inl (s143,t162))
  else
    some (Sum.inr s66)
def hall_candidates_1 {σ : Type} (yield1 : σ→(List Int)→Option (σ×Bool)) (s0 : σ) (t2 : apiTable) : Option (σ):=
 Option.bind (hall_layoutOf t2.fShape) fun (t5,t6)=>
 Option.bind (hall_size t2) fun t32=>
 Option.bind (t5.fmoves t2.fA t2.fB) fun t42=>
 Option.bind (
   iter (hall_candidates_1_l0 yield1 t32 t42) FUEL (s0,(0 : Int))) fun s61=>
 some s61
def hall_candidates (t1 : apiTable) : Option (apiTable):=
 some t1
def hall_Stay_l0 (t1 : apiTable) (seats4 : List Int) : ((List (List Int))⊕Unit)→(List Int)→Option (((List (List Int))⊕Unit)×Bool):=fun o_ x84=>
  match o_ with
  | .inl c66=>
    Option.bind (hall_keeps t1 x84) fun t98=>
    bif t98 then
      Option.bind (sl_ContainsFuncInt seats4 (fun y0=>hall_Stay_2 y0 x84)) fun t118=>
      bif !t118 then
        Option.bind (apL c66 [x84]) fun t132=>
        some (Sum.inl t132,true)
      else
        none
    else
      none
  | .inr _=>none
def hall_Stay (t1 : apiTable) (seats4 : List Int) : Option (List (List Int)):=
 Option.bind (hall_Check t1) fun t17=>
 bif !decide (t17 = (0 : Int)) then
   none
 else
   Option.bind (sl_ContainsFuncInt seats4 (fun y0=>hall_Stay_1 y0 t1)) fun t37=>
   bif t37 then
     none
   else
     Option.bind (hall_candidates t1) fun t49=>
     Option.bind (hall_candidates_1 (hall_Stay_l0 t1 seats4) (Sum.inl ([] : List (List Int))) t49) fun o61=>match o61 with
     | .inl c66=>
       Option.bind (sl_SortFuncInts c66 sl_CompareInt) fun l157=>
       Option.bind (sl_CompactFuncInts l157 sl_EqualInt) fun t179=>
       some t179
     | .inr _=>none
end Go.Dm
open Go Go.Sl
namespace Go.Dm
def plan_group_l0 (t22 : List Int) : Unit→Option (Unit⊕Unit):=fun _u=>
  bif decide ((0 : Int) < (t22.length : Int)) then
    none
  else
    some (Sum.inr ())
def plan_group (p1 : apiProblem) (t12 : Int) : Option (List (List Int)):=
 Option.bind (rule_Pinned p1 t12) fun t22=>
 Option.bind (
   iter (plan_group_l0 t22) FUEL ()) fun _u=>
 Option.bind (getI p1.fTables t12) fun e49=>
 Option.bind (hall_Stay e49 ([] : List Int)) fun t55=>
 some t55
def plan_Group (p1 : apiProblem) (t12 : Int) : Option (List (List Int)):=
 Option.bind (rule_Check p1) fun (t22,t23)=>
 bif !decide (t23 = (0 : Int)) then
   none
 else
   bif decide (t12 < (0 : Int)) then
     none
   else
     bif decide ((p1.fTables.length : Int)≤t12) then
       none
     else
       Option.bind (plan_group p1 t12) fun t40=>
       some t40
def plan_check_p0 (t40 : Int) (taken41 : List Bool) (e54 : Int) : Option ((Int×(List Bool))⊕Unit):=
  bif decide ((0 : Int)≤e54) then
    Option.bind (getI taken41 e54) fun e70=>
    bif e70 then
      none
    else
      bif decide ((0 : Int)≤e54) then
        Option.bind (getI taken41 e54) fun e76=>
        Option.bind (some (List.set taken41 e54.toNat true)) fun l79=>
        Option.bind (rng (t40 + (1 : Int))) fun t82=>
        some (Sum.inl (t82,l79))
      else
        Option.bind (rng (t40 + (1 : Int))) fun t84=>
        some (Sum.inl (t84,taken41))
  else
    bif decide ((0 : Int)≤e54) then
      Option.bind (getI taken41 e54) fun e87=>
      Option.bind (some (List.set taken41 e54.toNat true)) fun l91=>
      Option.bind (rng (t40 + (1 : Int))) fun t94=>
      some (Sum.inl (t94,l91))
    else
      Option.bind (rng (t40 + (1 : Int))) fun t96=>
      some (Sum.inl (t96,taken41))
def plan_check_l0 (part12 : List Int) (whole13 : Bool) (t22 : Int) : (Int×(List Bool))→Option ((Int×(List Bool))⊕Unit):=fun (t40,taken41)=>
  bif decide (t40 < (part12.length : Int)) then
    Option.bind (getI part12 t40) fun e54=>
    Option.bind (
      bif decide (e54 = (-1 : Int)) then
        some whole13
      else
        some false) fun t61=>
    bif t61 then
      none
    else
      bif decide (e54 < (-1 : Int)) then
        none
      else
        bif decide (t22≤e54) then
          none
        else
          plan_check_p0 t40 taken41 e54
  else
    some (Sum.inr ())
def plan_check (p1 : apiProblem) (part12 : List Int) (whole13 : Bool) : Option (Int×Int):=
 bif !decide ((part12.length : Int) = (p1.fGuests.length : Int)) then
   none
 else
   Option.bind (hall_Count p1.fTables) fun t22=>
   Option.bind (mkL t22 false) fun t35=>
   Option.bind (
     iter (plan_check_l0 part12 whole13 t22) FUEL ((0 : Int),t35)) fun _u=>
   some ((0 : Int),(0 : Int))
def plan_checked (p1 : apiProblem) (part12 : List Int) (whole13 : Bool) : Option (Int×Int):=
 Option.bind (rule_Check p1) fun (t23,t24)=>
 bif !decide (t24 = (0 : Int)) then
   none
 else
   Option.bind (plan_check p1 part12 whole13) fun (t41,t42)=>
   some (t41,t42)
def plan_CheckPart (p1 : apiProblem) (part12 : List Int) : Option (Int×Int):=
 Option.bind (plan_checked p1 part12 false) fun (t23,t24)=>
 some (t23,t24)
end Go.Dm
open Go Go.Sl
namespace Go.Dm
def search_open_l0 (p1 : apiProblem) : ((List Int)×(List Int)×(List (List (List Int)))×Int)→Option (((List Int)×(List Int)×(List (List (List Int)))×Int)⊕((List Int)×(List Int)×(List (List (List Int))))):=fun (table81,first86,groups91,t96)=>
  bif decide (t96 < (p1.fTables.length : Int)) then
    Option.bind (apL first86 [(table81.length : Int)]) fun t108=>
    Option.bind (
      Option.bind (getI p1.fTables t96) fun e125=>
      Option.bind (hall_Seats e125) fun t134=>
      Option.bind (sl_Repeat [t96] t134) fun t148=>
      Option.bind (apL table81 t148) fun t160=>
      some t160) fun table119=>
    Option.bind (plan_Group p1 t96) fun t221=>
    Option.bind (apL groups91 [t221]) fun t240=>
    Option.bind (rng (t96 + (1 : Int))) fun t250=>
    some (Sum.inl (table119,t108,t240,t250))
  else
    some (Sum.inr (table81,first86,groups91))
def search_open (p1 : apiProblem) : Option (searchhunt×Int×Int):=
 Option.bind (rule_New p1) fun (t21,t22,t23)=>
 bif !decide (t23 = (0 : Int)) then
   none
 else
   Option.bind (Judge_Problem t21) fun t34=>
   Option.bind (
     iter (search_open_l0 p1) FUEL (([] : List Int),([] : List Int),([] : List (List (List Int))),(0 : Int))) fun (table60,first65,groups70)=>
   some ((searchhunt.mk t21 t34 table60 first65 groups70),(0 : Int),(0 : Int))
def search_work_l0 (free1 : Int) (guests2 : Int) : (Int×Int)→Option ((Int×Int)⊕(Int⊕Int)):=fun (n7,t8)=>
  bif decide (t8 < guests2) then
    Option.bind (rng (free1 - t8)) fun t17=>
    Option.bind (rng (n7 * t17)) fun t18=>
    bif decide ((20000 : Int) < t18) then
      some (Sum.inr (Sum.inr t18))
    else
      Option.bind (rng (t8 + (1 : Int))) fun t20=>
      some (Sum.inl (t18,t20))
  else
    some (Sum.inr (Sum.inl n7))
def search_work (free1 : Int) (guests2 : Int) : Option (Int):=
 Option.bind (
   iter (search_work_l0 free1 guests2) FUEL ((1 : Int),(0 : Int))) fun o3=>match o3 with
 | .inl n6=>
   some n6
 | .inr p=>
   some p
def search_begin (p1 : apiProblem) : Option ((Option searchhunt)×Int):=
 Option.bind (search_open p1) fun (t21,t22,t23)=>
 bif !decide (t23 = (0 : Int)) then
   none
 else
   Option.bind (search_work (t21.ftable.length : Int) (p1.fGuests.length : Int)) fun t57=>
   bif decide ((20000 : Int) < t57) then
     some ((none),(8 : Int))
   else
     some ((some t21),(0 : Int))
def hunt_nobody (h1 : searchhunt) : Option (List Int):=
 Option.bind (sl_Repeat [(-1 : Int)] (h1.fp.fGuests.length : Int)) fun t31=>
 some t31
def hunt_turns_l0 (part2 : List Int) (g3 : Int) : Int→Option (Int⊕Unit):=fun t55=>
  bif decide (t55 < (part2.length : Int)) then
    Option.bind (getI part2 t55) fun e64=>
    bif !decide (t55 = g3) then
      bif decide ((0 : Int)≤e64) then
        none
      else
        Option.bind (rng (t55 + (1 : Int))) fun t70=>
        some (Sum.inl t70)
    else
      Option.bind (rng (t55 + (1 : Int))) fun t71=>
      some (Sum.inl t71)
  else
    some (Sum.inr ())
def hunt_turns_p0 (h1 : searchhunt) (part2 : List Int) (g3 : Int) (k4 : Int) (e29 : Int) : Option (Bool):=
  Option.bind (getI h1.fgroups e29) fun e33=>
  bif decide ((e33.length : Int)≤k4) then
    none
  else
    Option.bind (getI h1.fgroups e29) fun e39=>
    Option.bind (getI e39 k4) fun e44=>
    Option.bind (getI h1.ffirst e29) fun e49=>
    Option.bind (
      iter (hunt_turns_l0 part2 g3) FUEL (0 : Int)) fun _u=>
    Option.bind (getI part2 g3) fun e75=>
    Option.bind (rng (e75 - e49)) fun t79=>
    Option.bind (getI e44 t79) fun e80=>
    Option.bind (getI part2 g3) fun e84=>
    Option.bind (rng (e84 - e49)) fun t87=>
    some (decide (e80 < t87))
def hunt_turns (h1 : searchhunt) (part2 : List Int) (g3 : Int) (k4 : Int) : Option (Bool):=
 Option.bind (getI part2 g3) fun e26=>
 Option.bind (getI h1.ftable e26) fun e29=>
 bif decide (k4 < (0 : Int)) then
   none
 else
   hunt_turns_p0 h1 part2 g3 k4 e29
def hunt_canonical_p0 (h1 : searchhunt) (plan2 : List Int) (t27 : Int) (e54 : List Int) (t65 : Int) : Option (Int⊕(Unit⊕Bool)):=
  Option.bind (getI plan2 t65) fun e74=>
  Option.bind (getI h1.ftable e74) fun e80=>
  bif !decide (e80 = t27) then
    none
  else
    Option.bind (getI h1.ffirst t27) fun e85=>
    Option.bind (getI h1.ffirst t27) fun e89=>
    Option.bind (rng (e74 - e89)) fun t92=>
    Option.bind (getI e54 t92) fun e93=>
    Option.bind (rng (e85 + e93)) fun t97=>
    bif decide (t97 < e74) then
      some (Sum.inr (Sum.inr false))
    else
      bif decide (e74 < t97) then
        some (Sum.inr (Sum.inl ()))
      else
        Option.bind (rng (t65 + (1 : Int))) fun t100=>
        some (Sum.inl t100)
def hunt_canonical_l2 (h1 : searchhunt) (plan2 : List Int) (t27 : Int) (e54 : List Int) : Int→Option (Int⊕(Unit⊕Bool)):=fun t65=>
  bif decide (t65 < (plan2.length : Int)) then
    hunt_canonical_p0 h1 plan2 t27 e54 t65
  else
    some (Sum.inr (Sum.inl ()))
def hunt_canonical_l1 (h1 : searchhunt) (plan2 : List Int) (t27 : Int) (e36 : List (List Int)) : Int→Option (Int⊕(Unit⊕Bool)):=fun t45=>
  bif decide (t45 < (e36.length : Int)) then
    Option.bind (getI e36 t45) fun e54=>
    Option.bind (
      iter (hunt_canonical_l2 h1 plan2 t27 e54) FUEL (0 : Int)) fun o62=>match o62 with
    | .inl _u=>
      Option.bind (rng (t45 + (1 : Int))) fun t104=>
      some (Sum.inl t104)
    | .inr p=>
      some (Sum.inr (Sum.inr p))
  else
    some (Sum.inr (Sum.inl ()))
def hunt_canonical_l0 (h1 : searchhunt) (plan2 : List Int) : Int→Option (Int⊕(Unit⊕Bool)):=fun t27=>
  bif decide (t27 < (h1.fgroups.length : Int)) then
    Option.bind (getI h1.fgroups t27) fun e36=>
    Option.bind (
      iter (hunt_canonical_l1 h1 plan2 t27 e36) FUEL (0 : Int)) fun o42=>match o42 with
    | .inl _u=>
      Option.bind (rng (t27 + (1 : Int))) fun t109=>
      some (Sum.inl t109)
    | .inr p=>
      some (Sum.inr (Sum.inr p))
  else
    some (Sum.inr (Sum.inl ()))
def hunt_canonical (h1 : searchhunt) (plan2 : List Int) : Option (Bool):=
 Option.bind (
   iter (hunt_canonical_l0 h1 plan2) FUEL (0 : Int)) fun o24=>match o24 with
 | .inl _u=>
   some true
 | .inr p=>
   some p
def search_Tree_l0 (t36 : Int) : (Int×(Option searchhunt)×Int)→Option ((Int×(Option searchhunt)×Int)⊕Int):=fun (t41,h42,sum45)=>
  bif decide (t41 < t36) then
    Option.bind (h42) fun p54=>
    Option.bind (search_work (p54.ftable.length : Int) t41) fun t77=>
    Option.bind (rng (sum45 + t77)) fun t85=>
    Option.bind (rng (t41 + (1 : Int))) fun t86=>
    some (Sum.inl (t86,(some p54),t85))
  else
    some (Sum.inr sum45)
def search_Tree (p1 : apiProblem) : Option (Int×Int):=
 Option.bind (search_begin p1) fun (t21,t22)=>
 bif !decide (t22 = (0 : Int)) then
   some ((0 : Int),t22)
 else
   Option.bind (rng ((p1.fGuests.length : Int) + (1 : Int))) fun t36=>
   Option.bind (
     iter (search_Tree_l0 t36) FUEL ((0 : Int),t21,(0 : Int))) fun sum40=>
   some (sum40,(0 : Int))
end Go.Dm
open Go Go.Sl
namespace Go.Dm
def hunt_walk_1 (t1 : List Int) (t3 : Int) : Option (List Int):=
 Option.bind (getI t1 t3) fun e4=>
 Option.bind (some (List.set t1 t3.toNat (-1 : Int))) fun l7=>
 some l7
def hunt_walk_l1 {σ : Type} (s112 : σ) (part115 : List Int) (t120 : Int) : Int→Option (Int⊕(Unit⊕(σ×(List Int)))):=fun t145=>
  bif decide (t145 < (part115.length : Int)) then
    Option.bind (getI part115 t145) fun e154=>
    bif decide (e154 = t120) then
      some (Sum.inr (Sum.inr (s112,part115)))
    else
      Option.bind (rng (t145 + (1 : Int))) fun t160=>
      some (Sum.inl t160)
  else
    some (Sum.inr (Sum.inl ()))
def hunt_walk_p0 {σ : Type} (self : searchhunt→(List Int)→(σ→(List Int)→Option (σ×Bool))→σ→Option (Bool×(List Int)×σ)) (h1 : searchhunt) (yield4 : σ→(List Int)→Option (σ×Bool)) (t57 : Int) (s112 : σ) (part115 : List Int) (t120 : Int) : Option ((σ×(List Int))⊕(Bool×(List Int)×σ)):=
  Option.bind (
    iter (hunt_walk_l1 s112 part115 t120) FUEL (0 : Int)) fun o142=>match o142 with
  | .inl _u=>
    Option.bind (getI part115 t57) fun e167=>
    Option.bind (some (List.set part115 t57.toNat t120)) fun l171=>
    Option.bind (self h1 l171 yield4 s112) fun (t188,l189,s190)=>
    bif !t188 then
      some (Sum.inr (false,l189,s190))
    else
      Option.bind (getI l189 t57) fun e221=>
      Option.bind (some (List.set l189 t57.toNat (-1 : Int))) fun l224=>
      some (Sum.inl (s190,l224))
  | .inr p=>
    some (Sum.inl p)
def hunt_walk_l0 {σ : Type} (self : searchhunt→(List Int)→(σ→(List Int)→Option (σ×Bool))→σ→Option (Bool×(List Int)×σ)) (h1 : searchhunt) (yield4 : σ→(List Int)→Option (σ×Bool)) (t57 : Int) : (σ×(List Int)×Int)→Option ((σ×(List Int)×Int)⊕((σ×(List Int))⊕(Bool×(List Int)×σ))):=fun (s112,part115,t120)=>
  bif decide (t120 < (h1.ftable.length : Int)) then
    Option.bind (
      hunt_walk_p0 self h1 yield4 t57 s112 part115 t120) fun o129=>match o129 with
    | .inl (s132,part135)=>
      Option.bind (rng (t120 + (1 : Int))) fun t231=>
      some (Sum.inl (s132,part135,t231))
    | .inr p=>
      some (Sum.inr (Sum.inr p))
  else
    some (Sum.inr (Sum.inl (s112,part115)))
def hunt_walk_p1 {σ : Type} (self : searchhunt→(List Int)→(σ→(List Int)→Option (σ×Bool))→σ→Option (Bool×(List Int)×σ)) (h1 : searchhunt) (part2 : List Int) (yield4 : σ→(List Int)→Option (σ×Bool)) (s0 : σ) : Option (Bool×(List Int)×σ):=
  Option.bind (sl_IndexInt part2 (-1 : Int)) fun t57=>
  bif decide (t57 < (0 : Int)) then
    Option.bind (yield4 s0 part2) fun (s78,t80)=>
    some (t80,part2,s78)
  else
    Option.bind (
      iter (hunt_walk_l0 self h1 yield4 t57) FUEL (s0,part2,(0 : Int))) fun o98=>match o98 with
    | .inl (s101,part104)=>
      (match (true,part104,s101) with | (r_0_,q_1_,q_s_)=>Option.bind (hunt_walk_1 q_1_ t57) fun q_1_=>some (r_0_,q_1_,q_s_))
    | .inr p=>
      (match p with | (r_0_,q_1_,q_s_)=>Option.bind (hunt_walk_1 q_1_ t57) fun q_1_=>some (r_0_,q_1_,q_s_))
def hunt_walk {σ : Type} : Nat→searchhunt→(List Int)→(σ→(List Int)→Option (σ×Bool))→σ→Option (Bool×(List Int)×σ)
  | 0,_,_,_,_=>none
  | n + 1,h1,part2,yield4,s0=>
    Option.bind (Judge_Dead h1.fJudge part2) fun (t36,t37)=>
    bif t37 then
      some (true,part2,s0)
    else
      hunt_walk_p1 (hunt_walk n) h1 part2 yield4 s0
def hunt_plans_1 {σ : Type} (yield1 : σ→(List Int)→Option (σ×Bool)) (s0 : σ) (t2 : searchhunt) (t5 : List Int) : Option (σ):=
 Option.bind (sl_CloneInt t5) fun t8=>
 Option.bind (hunt_walk RFUEL t2 t8 yield1 s0) fun (t22,l23,s24)=>
 some s24
def hunt_plans (h1 : searchhunt) (part2 : List Int) : Option (searchhunt×(List Int)):=
 some (h1,part2)
def reader_fail (r1 : searchreader) (e2 : Int) : Option ((Int×(List Int))⊕searchwrong):=
 some (Sum.inr (searchwrong.mk r1.fat e2))
def reader_node_p0 (self : searchreader→Int→Option ((Int×(List Int))⊕searchwrong)) (r1 : searchreader) (e11 : apiStep) (at59 : Int) (part60 : List Int) (t65 : Int) : Option ((Int×(List Int)×Int)⊕((Int×(List Int))⊕searchwrong)):=
  Option.bind (sl_ContainsInt part60 t65) fun t77=>
  bif !t77 then
    Option.bind (getI part60 e11.fN) fun e90=>
    Option.bind (some (List.set part60 e11.fN.toNat t65)) fun l94=>
    Option.bind (self (searchreader.mk r1.fhunt r1.fbound r1.fsteps at59 l94) e11.fN) fun o111=>match o111 with
    | .inr w112=>
      some (Sum.inr (Sum.inr w112))
    | .inl q109=>
    Option.bind (getI q109.2 e11.fN) fun e127=>
    Option.bind (some (List.set q109.2 e11.fN.toNat (-1 : Int))) fun l130=>
    Option.bind (rng (t65 + (1 : Int))) fun t133=>
    some (Sum.inl (q109.1,l130,t133))
  else
    Option.bind (rng (t65 + (1 : Int))) fun t135=>
    some (Sum.inl (at59,part60,t135))
def reader_node_l0 (self : searchreader→Int→Option ((Int×(List Int))⊕searchwrong)) (r1 : searchreader) (e11 : apiStep) : (Int×(List Int)×Int)→Option ((Int×(List Int)×Int)⊕((Int×(List Int))⊕searchwrong)):=fun (at59,part60,t65)=>
  bif decide (t65 < (r1.fhunt.ftable.length : Int)) then
    reader_node_p0 self r1 e11 at59 part60 t65
  else
    some (Sum.inr (Sum.inl (at59,part60)))
def reader_node_p1 (self : searchreader→Int→Option ((Int×(List Int))⊕searchwrong)) (r1 : searchreader) (e11 : apiStep) : Option ((Int×(List Int))⊕searchwrong):=
  bif decide (e11.fN < (0 : Int)) then
    none
  else
    bif decide ((r1.fpart.length : Int)≤e11.fN) then
      none
    else
      Option.bind (getI r1.fpart e11.fN) fun e23=>
      bif decide ((0 : Int)≤e23) then
        none
      else
        Option.bind (rng (r1.fat + (1 : Int))) fun t27=>
        Option.bind (
          iter (reader_node_l0 self r1 e11) FUEL (t27,r1.fpart,(0 : Int))) fun o50=>match o50 with
        | .inl (at53,part54)=>
          some (Sum.inl (at53,part54))
        | .inr p=>
          some (Sum.inr p)
def reader_node_p2 (r1 : searchreader) (last2 : Int) (e11 : apiStep) : Option ((Int×(List Int))⊕searchwrong):=
  bif decide (e11.fKind = (4 : Int)) then
    bif decide (last2 < (0 : Int)) then
      none
    else
      Option.bind (hunt_turns r1.fhunt r1.fpart last2 e11.fN) fun t238=>
      bif !t238 then
        Option.bind (reader_fail (searchreader.mk r1.fhunt r1.fbound r1.fsteps r1.fat r1.fpart) (65 : Int)) fun o257=>match o257 with
        | .inr w258=>
          some (Sum.inr w258)
        | .inl q255=>
        none
      else
        Option.bind (rng (r1.fat + (1 : Int))) fun t262=>
        some (Sum.inl (t262,r1.fpart))
  else
    Option.bind (reader_fail (searchreader.mk r1.fhunt r1.fbound r1.fsteps r1.fat r1.fpart) (2 : Int)) fun o270=>match o270 with
    | .inr w271=>
      some (Sum.inr w271)
    | .inl q268=>
    none
def reader_node_p3 (r1 : searchreader) (last2 : Int) (e11 : apiStep) : Option ((Int×(List Int))⊕searchwrong):=
  bif decide (e11.fKind = (2 : Int)) then
    bif decide (e11.fN < (0 : Int)) then
      none
    else
      bif decide ((r1.fhunt.fp.fRules.length : Int)≤e11.fN) then
        none
      else
        Option.bind (getI r1.fhunt.fp.fRules e11.fN) fun e167=>
        bif decide ((0 : Int) < e167.fWeight) then
          none
        else
          Option.bind (Judge_Least r1.fhunt.fJudge r1.fpart e11.fN) fun t174=>
          bif decide (t174 = (0 : Int)) then
            none
          else
            Option.bind (rng (r1.fat + (1 : Int))) fun t187=>
            some (Sum.inl (t187,r1.fpart))
  else
    bif decide (e11.fKind = (3 : Int)) then
      bif decide (r1.fbound < (0 : Int)) then
        none
      else
        Option.bind (Judge_Floor r1.fhunt.fJudge r1.fpart) fun t217=>
        bif decide (t217 < r1.fbound) then
          none
        else
          Option.bind (rng (r1.fat + (1 : Int))) fun t230=>
          some (Sum.inl (t230,r1.fpart))
    else
      reader_node_p2 r1 last2 e11
def reader_node : Nat→searchreader→Int→Option ((Int×(List Int))⊕searchwrong)
  | 0,_,_=>none
  | n + 1,r1,last2=>
    bif decide (r1.fat = (r1.fsteps.length : Int)) then
      Option.bind (reader_fail (searchreader.mk r1.fhunt r1.fbound r1.fsteps r1.fat r1.fpart) (60 : Int)) fun o7=>match o7 with
      | .inr w8=>
        some (Sum.inr w8)
      | .inl q5=>
      none
    else
      Option.bind (getI r1.fsteps r1.fat) fun e11=>
      bif decide (e11.fKind = (1 : Int)) then
        reader_node_p1 (reader_node n) r1 e11
      else
        reader_node_p3 r1 last2 e11
end Go.Dm
open Go Go.Sl
namespace Go.Dm
def search_Verify_1 (t1 : Int) (t2 : Int) (x_ : searchwrong) : Option (Int×Int):=
 some (x_.fat,x_.fe)
def search_Verify_p0 (bound12 : Int) (steps13 : List apiStep) (t25 : searchhunt) : Option (Int×Int):=
  bif decide ((200000 : Int) < (steps13.length : Int)) then
    some ((0 : Int),(7 : Int))
  else
    Option.bind (hunt_nobody t25) fun t41=>
    Option.bind (reader_node RFUEL (searchreader.mk t25 bound12 steps13 (0 : Int) t41) (-1 : Int)) fun o59=>match o59 with
    | .inr w60=>
      some (w60.fat,w60.fe)
    | .inl q57=>
    bif decide (q57.1 < (steps13.length : Int)) then
      Option.bind (reader_fail (searchreader.mk t25 bound12 steps13 q57.1 q57.2) (61 : Int)) fun o84=>match o84 with
      | .inr w85=>
        some (w85.fat,w85.fe)
      | .inl q82=>
      none
    else
      some ((0 : Int),(0 : Int))
def search_Verify (p1 : apiProblem) (bound12 : Int) (steps13 : List apiStep) : Option (Int×Int):=
 Option.bind (search_open p1) fun (t25,t26,t27)=>
 bif !decide (t27 = (0 : Int)) then
   none
 else
   search_Verify_p0 bound12 steps13 t25
def search_Count_l0 (p40 : searchhunt) : ((Int×Int)⊕Unit)→(List Int)→Option (((Int×Int)⊕Unit)×Bool):=fun o_ x95=>
  match o_ with
  | .inl (c80,c81)=>
    Option.bind (rng (c80 + (1 : Int))) fun t102=>
    Option.bind (hunt_canonical p40 x95) fun t108=>
    bif t108 then
      Option.bind (rng (c81 + (1 : Int))) fun t121=>
      some (Sum.inl (t102,t121),true)
    else
      some (Sum.inl (t102,c81),true)
  | .inr _=>none
def search_Count (p1 : apiProblem) : Option (Int×Int×Int):=
 Option.bind (search_begin p1) fun (t23,t24)=>
 bif !decide (t24 = (0 : Int)) then
   none
 else
   Option.bind (t23) fun p40=>
   Option.bind (hunt_nobody p40) fun t43=>
   Option.bind (hunt_plans p40 t43) fun t61=>
   Option.bind (hunt_plans_1 (search_Count_l0 p40) (Sum.inl ((0 : Int),(0 : Int))) t61.1 t61.2) fun o77=>match o77 with
   | .inl (c80,c81)=>
     some (c80,c81,(0 : Int))
   | .inr _=>none
end Go.Dm
open Go Go.Sl
namespace Go.Dm
def search_Best_l0 (p41 : searchhunt) : (((List Int)×Int×Bool)⊕Unit)→(List Int)→Option ((((List Int)×Int×Bool)⊕Unit)×Bool):=fun o_ x103=>
  match o_ with
  | .inl (plan83,cost88,c89)=>
    Option.bind (Judge_Cost p41.fJudge x103) fun t138=>
    bif !c89 then
      Option.bind (sl_CloneInt x103) fun t153=>
      some (Sum.inl (t153,t138,true),true)
    else
      bif decide (t138 < cost88) then
        Option.bind (sl_CloneInt x103) fun t177=>
        some (Sum.inl (t177,t138,true),true)
      else
        some (Sum.inl (plan83,cost88,c89),true)
  | .inr _=>none
def search_Best (p1 : apiProblem) : Option (apiRanked×Int):=
 Option.bind (search_begin p1) fun (t22,t23)=>
 bif !decide (t23 = (0 : Int)) then
   none
 else
   Option.bind (t22) fun p41=>
   Option.bind (hunt_nobody p41) fun t44=>
   Option.bind (hunt_plans p41 t44) fun t62=>
   Option.bind (hunt_plans_1 (search_Best_l0 p41) (Sum.inl (([] : List Int),(0 : Int),false)) t62.1 t62.2) fun o78=>match o78 with
   | .inl (plan83,cost88,c89)=>
     bif !c89 then
       none
     else
       some ((apiRanked.mk plan83 cost88),(0 : Int))
   | .inr _=>none
def search_All_l0 (limit12 : Int) (p48 : searchhunt) : ((Int×(List (List Int)))⊕(Int×(List (List Int))))→(List Int)→Option (((Int×(List (List Int)))⊕(Int×(List (List Int))))×Bool):=fun o_ x109=>
  match o_ with
  | .inl (c90,c91)=>
    Option.bind (hunt_canonical p48 x109) fun t121=>
    bif !t121 then
      some (Sum.inl (c90,c91),true)
    else
      bif decide (limit12≤(c91.length : Int)) then
        some (Sum.inr ((7 : Int),c91),false)
      else
        Option.bind (sl_CloneInt x109) fun t144=>
        Option.bind (apL c91 [t144]) fun t166=>
        some (Sum.inl (c90,t166),true)
  | .inr _=>none
def search_All (p1 : apiProblem) (limit12 : Int) : Option ((List (List Int))×Int):=
 Option.bind (search_begin p1) fun (t30,t31)=>
 bif !decide (t31 = (0 : Int)) then
   none
 else
   Option.bind (t30) fun p48=>
   Option.bind (hunt_nobody p48) fun t51=>
   Option.bind (hunt_plans p48 t51) fun t69=>
   Option.bind (hunt_plans_1 (search_All_l0 limit12 p48) (Sum.inl ((0 : Int),([] : List (List Int)))) t69.1 t69.2) fun o85=>match o85 with
   | .inl (c90,c91)=>
     some (c91,(0 : Int))
   | .inr (c90,c91)=>
     some (([] : List (List Int)),c90)
def search_Extend_l0 (part12 : List Int) : (Int×Int)→Option ((Int×Int)⊕Int):=fun (seated60,t61)=>
  bif decide (t61 < (part12.length : Int)) then
    Option.bind (getI part12 t61) fun e70=>
    bif decide ((0 : Int)≤e70) then
      Option.bind (rng (seated60 + (1 : Int))) fun t75=>
      Option.bind (rng (t61 + (1 : Int))) fun t76=>
      some (Sum.inl (t75,t76))
    else
      Option.bind (rng (t61 + (1 : Int))) fun t77=>
      some (Sum.inl (seated60,t77))
  else
    some (Sum.inr seated60)
def search_Extend_l1 : ((List Int)⊕(List Int))→(List Int)→Option (((List Int)⊕(List Int))×Bool):=fun o_ x166=>
  match o_ with
  | .inl c148=>
    Option.bind (sl_CloneInt x166) fun t176=>
    some (Sum.inr t176,false)
  | .inr _=>none
def search_Extend_p0 (part12 : List Int) (t24 : searchhunt) : Option ((List Int)×Int):=
  Option.bind (
    iter (search_Extend_l0 part12) FUEL ((0 : Int),(0 : Int))) fun seated59=>
  Option.bind (rng ((t24.ftable.length : Int) - seated59)) fun t104=>
  Option.bind (rng ((part12.length : Int) - seated59)) fun t106=>
  Option.bind (search_work t104 t106) fun t107=>
  bif decide ((20000 : Int) < t107) then
    none
  else
    Option.bind (hunt_plans t24 part12) fun t127=>
    Option.bind (hunt_plans_1 search_Extend_l1 (Sum.inl ([] : List Int)) t127.1 t127.2) fun o143=>match o143 with
    | .inl c148=>
      some (([] : List Int),(9 : Int))
    | .inr c148=>
      some (c148,(0 : Int))
def search_Extend (p1 : apiProblem) (part12 : List Int) : Option ((List Int)×Int):=
 Option.bind (search_open p1) fun (t24,t25,t26)=>
 bif !decide (t26 = (0 : Int)) then
   none
 else
   Option.bind (plan_CheckPart p1 part12) fun (t45,t46)=>
   bif !decide (t46 = (0 : Int)) then
     none
   else
     search_Extend_p0 part12 t24
end Go.Dm
open Go Go.Sl
namespace Go.Dm
def search_Costs_1 (a1 : searchBar) (b2 : searchBar) : Option (Int):=
 Option.bind (rng (a1.fCost - b2.fCost)) fun t12=>
 some t12
def search_Costs_l1 : (List searchBar)→Int×searchBar→Option (List searchBar):=fun out203 (k242,x243)=>
  Option.bind (apL out203 [x243]) fun t260=>
  some t260
def search_Costs_r1 : (List searchBar)→Option ((List searchBar)×Int):=fun out203=>
  Option.bind (sl_SortFuncBar out203 search_Costs_1) fun l230=>
  some (l230,(0 : Int))
def search_Costs_l0 (p42 : searchhunt) : ((List (Int×searchBar))⊕Unit)→(List Int)→Option (((List (Int×searchBar))⊕Unit)×Bool):=fun o_ x102=>
  match o_ with
  | .inl c84=>
    Option.bind (Judge_Cost p42.fJudge x102) fun t137=>
    Option.bind (lkM c84 t137 (searchBar.mk (0 : Int) (0 : Int) (0 : Int))) fun (e148,ok149)=>
    Option.bind (rng (e148.fPlans + (1 : Int))) fun t154=>
    Option.bind (hunt_canonical p42 x102) fun t159=>
    bif t159 then
      Option.bind (rng (e148.fClasses + (1 : Int))) fun t181=>
      Option.bind (some (mset c84 t137 (searchBar.mk t137 t181 t154))) fun m183=>
      some (Sum.inl m183,true)
    else
      Option.bind (some (mset c84 t137 (searchBar.mk t137 e148.fClasses t154))) fun m190=>
      some (Sum.inl m190,true)
  | .inr _=>none
def search_Costs (p1 : apiProblem) : Option ((List searchBar)×Int):=
 Option.bind (search_begin p1) fun (t21,t22)=>
 bif !decide (t22 = (0 : Int)) then
   none
 else
   Option.bind (t21) fun p42=>
   Option.bind (hunt_nobody p42) fun t45=>
   Option.bind (hunt_plans p42 t45) fun t63=>
   Option.bind (hunt_plans_1 (search_Costs_l0 p42) (Sum.inl ([] : List (Int×searchBar))) t63.1 t63.2) fun o79=>match o79 with
   | .inl c84=>
     mapAll c84 (fun l_=>Option.bind (foldO search_Costs_l1 ([] : List searchBar) l_) search_Costs_r1)
   | .inr _=>none
end Go.Dm
open Go Go.Sl
namespace Go.Dm
def search_First_l0 : ((List Int)⊕(List Int))→(List Int)→Option (((List Int)⊕(List Int))×Bool):=fun o_ x94=>
  match o_ with
  | .inl c76=>
    Option.bind (sl_CloneInt x94) fun t104=>
    some (Sum.inr t104,false)
  | .inr _=>none
def search_First (p1 : apiProblem) : Option ((List Int)×Int):=
 Option.bind (search_begin p1) fun (t23,t24)=>
 bif !decide (t24 = (0 : Int)) then
   none
 else
   Option.bind (t23) fun p35=>
   Option.bind (hunt_nobody p35) fun t37=>
   Option.bind (hunt_plans p35 t37) fun t55=>
   Option.bind (hunt_plans_1 search_First_l0 (Sum.inl ([] : List Int)) t55.1 t55.2) fun o71=>match o71 with
   | .inl c76=>
     some (([] : List Int),(9 : Int))
   | .inr c76=>
     some (c76,(0 : Int))
def hunt_turned (h1 : searchhunt) (part2 : List Int) (g3 : Int) : Option (Int):=
  none
def prover_say (p1 : searchprover) (kind2 : Int) (n3 : Int) : Option (Bool×((List apiStep)×(List Int))):=
 Option.bind (apL p1.fsteps [(apiStep.mk kind2 n3)]) fun t9=>
 some (true,(t9,p1.fpart))
def prover_node : Nat→searchprover→Option (Bool×((List apiStep)×(List Int)))
  | 0,_=>none
  | n + 1,p1=>
    Option.bind (Judge_Dead p1.fhunt.fJudge p1.fpart) fun (t28,t29)=>
    bif t29 then
      Option.bind (prover_say (searchprover.mk p1.fhunt p1.fbound p1.fsteps p1.fpart) (2 : Int) t28) fun (t53,q54)=>
      some (t53,(q54.1,q54.2))
    else
      none
def search_Prove (p1 : apiProblem) (bound12 : Int) : Option ((List apiStep)×Int):=
 Option.bind (search_begin p1) fun (t22,t23)=>
 bif !decide (t23 = (0 : Int)) then
   none
 else
   Option.bind (t22) fun p34=>
   Option.bind (hunt_nobody p34) fun t36=>
   Option.bind (prover_node RFUEL (searchprover.mk p34 bound12 ([] : List apiStep) t36)) fun (t53,q54)=>
   bif !t53 then
     none
   else
     some (q54.1,(0 : Int))
end Go.Dm
open Go Go.Sl
namespace Go.Dm
def kit_SameInts_l0 (a1 : List Int) (b2 : List Int) : Int→Option (Int⊕Unit):=fun i7=>
  bif decide (i7 < (a1.length : Int)) then
    Option.bind (getI a1 i7) fun e17=>
    Option.bind (getI b2 i7) fun e20=>
    bif !decide (e17 = e20) then
      none
    else
      Option.bind (rng (i7 + (1 : Int))) fun t25=>
      some (Sum.inl t25)
  else
    some (Sum.inr ())
def kit_SameInts (a1 : List Int) (b2 : List Int) : Option (Bool):=
 bif !decide ((a1.length : Int) = (b2.length : Int)) then
   none
 else
   Option.bind (
     iter (kit_SameInts_l0 a1 b2) FUEL (0 : Int)) fun _u=>
   some true
def kit_SameLists_l0 (a1 : List (List Int)) (b2 : List (List Int)) : Int→Option (Int⊕Unit):=fun i7=>
  bif decide (i7 < (a1.length : Int)) then
    Option.bind (getI a1 i7) fun e17=>
    Option.bind (getI b2 i7) fun e22=>
    Option.bind (kit_SameInts e17 e22) fun t28=>
    bif !t28 then
      none
    else
      Option.bind (rng (i7 + (1 : Int))) fun t37=>
      some (Sum.inl t37)
  else
    some (Sum.inr ())
def kit_SameLists (a1 : List (List Int)) (b2 : List (List Int)) : Option (Bool):=
 bif !decide ((a1.length : Int) = (b2.length : Int)) then
   none
 else
   Option.bind (
     iter (kit_SameLists_l0 a1 b2) FUEL (0 : Int)) fun _u=>
   some true
def ref06_Work_l0 (free1 : Int) (guests2 : Int) : (Int×Int)→Option ((Int×Int)⊕Int):=fun (n7,k8)=>
  bif decide (k8 < guests2) then
    Option.bind (rng (free1 - k8)) fun t17=>
    Option.bind (rng (n7 * t17)) fun t18=>
    Option.bind (rng (k8 + (1 : Int))) fun t19=>
    some (Sum.inl ((min t18 (20001 : Int)),t19))
  else
    some (Sum.inr n7)
def ref06_Work (free1 : Int) (guests2 : Int) : Option (Int):=
 Option.bind (
   iter (ref06_Work_l0 free1 guests2) FUEL ((1 : Int),(0 : Int))) fun n6=>
 some n6
def ref06_Tree_l0 (seats1 : Int) (guests2 : Int) : (Int×Int)→Option ((Int×Int)⊕Int):=fun (n7,k8)=>
  bif decide (k8≤guests2) then
    Option.bind (ref06_Work seats1 k8) fun t17=>
    Option.bind (rng (n7 + t17)) fun t25=>
    Option.bind (rng (k8 + (1 : Int))) fun t26=>
    some (Sum.inl (t25,t26))
  else
    some (Sum.inr n7)
def ref06_Tree (seats1 : Int) (guests2 : Int) : Option (Int):=
 Option.bind (
   iter (ref06_Tree_l0 seats1 guests2) FUEL ((0 : Int),(0 : Int))) fun n6=>
 some n6
def law06_three (rules1 : List apiRule) : Option (apiProblem):=
 some (apiProblem.mk [(apiTable.mk (⟨#[114]⟩ : ByteArray) (1 : Int) (4 : Int) (0 : Int) ([] : List Int) (0 : Int) (0 : Int))] [(apiGuest.mk (⟨#[97,110,110,97]⟩ : ByteArray) (⟨#[]⟩ : ByteArray) (⟨#[]⟩ : ByteArray) (0 : Int) (0 : Int) (⟨#[]⟩ : ByteArray) false false ([] : List ByteArray)),(apiGuest.mk (⟨#[98,111,114,105,115]⟩ : ByteArray) (⟨#[]⟩ : ByteArray) (⟨#[]⟩ : ByteArray) (0 : Int) (0 : Int) (⟨#[]⟩ : ByteArray) false false ([] : List ByteArray)),(apiGuest.mk (⟨#[99,97,114,108]⟩ : ByteArray) (⟨#[]⟩ : ByteArray) (⟨#[]⟩ : ByteArray) (0 : Int) (0 : Int) (⟨#[]⟩ : ByteArray) false false ([] : List ByteArray))] ([] : List apiTie) ([] : List Int) rules1)
def law06_awake_p0 (t216 : List searchBar) (t235 : apiRanked) (t258 : List (List Int)) (t301 : List Int) : Option (Bool):=
  Option.bind (getI t216 (1 : Int)) fun e324=>
  bif (decide (e324.fCost = (5 : Int)) && (decide (e324.fClasses = (2 : Int)) && (decide (e324.fPlans = (16 : Int)) && true))) then
    bif decide (t235.fCost = (0 : Int)) then
      Option.bind (kit_SameInts t235.fPlan [(0 : Int),(2 : Int),(1 : Int)]) fun t341=>
      bif t341 then
        Option.bind (kit_SameLists t258 [[(0 : Int),(1 : Int),(2 : Int)],[(0 : Int),(1 : Int),(3 : Int)],[(0 : Int),(2 : Int),(1 : Int)]]) fun t389=>
        bif t389 then
          Option.bind (kit_SameInts t301 [(1 : Int),(0 : Int),(2 : Int)]) fun t408=>
          some t408
        else
          none
      else
        none
    else
      none
  else
    none
def law06_awake_p1 : Option (Bool):=
  Option.bind (law06_three [(apiRule.mk (3 : Int) (5 : Int) (⟨#[97,110,110,97]⟩ : ByteArray) (⟨#[98,111,114,105,115]⟩ : ByteArray) (⟨#[]⟩ : ByteArray) (0 : Int))]) fun t188=>
  Option.bind (search_Costs t188) fun (t216,t217)=>
  Option.bind (search_Best t188) fun (t235,t236)=>
  Option.bind (search_All t188 (3 : Int)) fun (t258,t259)=>
  Option.bind (search_All t188 (2 : Int)) fun (t275,t276)=>
  Option.bind (search_Extend t188 [(-1 : Int),(0 : Int),(-1 : Int)]) fun (t301,t302)=>
  Option.bind (rng (t217 + t236)) fun t312=>
  Option.bind (rng (t312 + t259)) fun t313=>
  Option.bind (rng (t313 + t302)) fun t314=>
  bif decide (t314 = (0 : Int)) then
    bif decide (t276 = (7 : Int)) then
      bif decide ((t216.length : Int) = (2 : Int)) then
        Option.bind (getI t216 (0 : Int)) fun e320=>
        bif (decide (e320.fCost = (0 : Int)) && (decide (e320.fClasses = (1 : Int)) && (decide (e320.fPlans = (8 : Int)) && true))) then
          law06_awake_p0 t216 t235 t258 t301
        else
          none
      else
        none
    else
      none
  else
    none
def law06_awake_p2 (t100 : Int) (t128 : Int) (t129 : Int) : Option (Bool):=
  bif !decide (t100 = (60 : Int)) then
    none
  else
    bif !decide (t128 = (5 : Int)) then
      none
    else
      bif !decide (t129 = (65 : Int)) then
        none
      else
        Option.bind (law06_three ([] : List apiRule)) fun t149=>
        Option.bind (search_Count t149) fun (t167,t168,t169)=>
        bif !decide (t167 = (24 : Int)) then
          none
        else
          bif !decide (t168 = (3 : Int)) then
            none
          else
            bif !decide (t169 = (0 : Int)) then
              none
            else
              law06_awake_p1
def law06_awake_p3 (t9 : apiProblem) : Option (Bool):=
  Option.bind (bdV (0 : Int) (7 : Int) ([(apiStep.mk (1 : Int) (0 : Int)),(apiStep.mk (1 : Int) (1 : Int)),(apiStep.mk (2 : Int) (0 : Int)),(apiStep.mk (2 : Int) (0 : Int)),(apiStep.mk (2 : Int) (0 : Int)),(apiStep.mk (4 : Int) (2 : Int)),(apiStep.mk (4 : Int) (4 : Int)),(apiStep.mk (4 : Int) (1 : Int))].length : Int)) fun u94=>
  Option.bind (search_Verify t9 (-1 : Int) (Go.Sl.sub [(apiStep.mk (1 : Int) (0 : Int)),(apiStep.mk (1 : Int) (1 : Int)),(apiStep.mk (2 : Int) (0 : Int)),(apiStep.mk (2 : Int) (0 : Int)),(apiStep.mk (2 : Int) (0 : Int)),(apiStep.mk (4 : Int) (2 : Int)),(apiStep.mk (4 : Int) (4 : Int)),(apiStep.mk (4 : Int) (1 : Int))] (0 : Int).toNat (7 : Int).toNat)) fun (t99,t100)=>
  Option.bind (getI [(apiStep.mk (1 : Int) (0 : Int)),(apiStep.mk (1 : Int) (1 : Int)),(apiStep.mk (2 : Int) (0 : Int)),(apiStep.mk (2 : Int) (0 : Int)),(apiStep.mk (2 : Int) (0 : Int)),(apiStep.mk (4 : Int) (2 : Int)),(apiStep.mk (4 : Int) (4 : Int)),(apiStep.mk (4 : Int) (1 : Int))] (5 : Int)) fun e117=>
  Option.bind (some (List.set [(apiStep.mk (1 : Int) (0 : Int)),(apiStep.mk (1 : Int) (1 : Int)),(apiStep.mk (2 : Int) (0 : Int)),(apiStep.mk (2 : Int) (0 : Int)),(apiStep.mk (2 : Int) (0 : Int)),(apiStep.mk (4 : Int) (2 : Int)),(apiStep.mk (4 : Int) (4 : Int)),(apiStep.mk (4 : Int) (1 : Int))] (5 : Int).toNat (apiStep.mk e117.fKind (0 : Int)))) fun l121=>
  Option.bind (search_Verify t9 (-1 : Int) l121) fun (t128,t129)=>
  bif !decide (t99 = (7 : Int)) then
    none
  else
    law06_awake_p2 t100 t128 t129
def law06_awake  : Option (Bool):=
 Option.bind (law06_three [(apiRule.mk (1 : Int) (0 : Int) (⟨#[97,110,110,97]⟩ : ByteArray) (⟨#[98,111,114,105,115]⟩ : ByteArray) (⟨#[]⟩ : ByteArray) (2 : Int))]) fun t9=>
 Option.bind (search_Count t9) fun (t37,t38,t39)=>
 Option.bind (search_Tree t9) fun (t53,t54)=>
 Option.bind (search_Verify t9 (-1 : Int) [(apiStep.mk (1 : Int) (0 : Int)),(apiStep.mk (1 : Int) (1 : Int)),(apiStep.mk (2 : Int) (0 : Int)),(apiStep.mk (2 : Int) (0 : Int)),(apiStep.mk (2 : Int) (0 : Int)),(apiStep.mk (4 : Int) (2 : Int)),(apiStep.mk (4 : Int) (4 : Int)),(apiStep.mk (4 : Int) (1 : Int))]) fun (t69,t70)=>
 Option.bind (rng (t37 + t38)) fun t86=>
 bif !decide (t86 = (0 : Int)) then
   none
 else
   bif !decide (t39 = (0 : Int)) then
     none
   else
     bif !decide (t53 = (41 : Int)) then
       none
     else
       bif !decide (t54 = (0 : Int)) then
         none
       else
         bif !decide (t69 = (0 : Int)) then
           none
         else
           bif !decide (t70 = (0 : Int)) then
             none
           else
             law06_awake_p3 t9
def law06_SearchSmall_p0 (seats7 : Int) (guests29 : List apiGuest) (guests34 : Int) : Option (((List apiGuest)×Int)⊕Unit):=
  Option.bind (search_Tree (apiProblem.mk [(apiTable.mk (⟨#[114]⟩ : ByteArray) (4 : Int) seats7 (0 : Int) ([] : List Int) (0 : Int) (0 : Int))] guests29 ([] : List apiTie) ([] : List Int) ([] : List apiRule))) fun (t57,t58)=>
  Option.bind (ref06_Work seats7 guests34) fun t73=>
  Option.bind (
    bif decide ((20000 : Int) < t73) then
      bif !decide (t57 = (0 : Int)) then
        none
      else
        bif !decide (t58 = (8 : Int)) then
          none
        else
          some ()
    else
      Option.bind (ref06_Tree seats7 guests34) fun t87=>
      bif !decide (t57 = t87) then
        none
      else
        bif !decide (t58 = (0 : Int)) then
          none
        else
          some ()) fun _u=>
  Option.bind (getI [(⟨#[97]⟩ : ByteArray),(⟨#[98]⟩ : ByteArray),(⟨#[99]⟩ : ByteArray),(⟨#[100]⟩ : ByteArray),(⟨#[101]⟩ : ByteArray),(⟨#[102]⟩ : ByteArray),(⟨#[103]⟩ : ByteArray)] guests34) fun e100=>
  Option.bind (apL guests29 [(apiGuest.mk e100 (⟨#[]⟩ : ByteArray) (⟨#[]⟩ : ByteArray) (0 : Int) (0 : Int) (⟨#[]⟩ : ByteArray) false false ([] : List ByteArray))]) fun t108=>
  Option.bind (rng (guests34 + (1 : Int))) fun t118=>
  some (Sum.inl (t108,t118))
def law06_SearchSmall_l1 (seats7 : Int) : ((List apiGuest)×Int)→Option (((List apiGuest)×Int)⊕Unit):=fun (guests29,guests34)=>
  Option.bind (
    bif decide (guests34≤(6 : Int)) then
      some (decide (guests34≤seats7))
    else
      some false) fun t45=>
  bif t45 then
    law06_SearchSmall_p0 seats7 guests29 guests34
  else
    some (Sum.inr ())
def law06_SearchSmall_l0 : Int→Option (Int⊕Unit):=fun seats7=>
  bif decide (seats7≤(24 : Int)) then
    Option.bind (
      iter (law06_SearchSmall_l1 seats7) FUEL (([] : List apiGuest),(0 : Int))) fun _u=>
    Option.bind (rng (seats7 + (1 : Int))) fun t124=>
    some (Sum.inl t124)
  else
    some (Sum.inr ())
def law06_SearchSmall_p1 : Option (Bool):=
  Option.bind (search_Verify (apiProblem.mk [(apiTable.mk (⟨#[114]⟩ : ByteArray) (1 : Int) (3 : Int) (0 : Int) ([] : List Int) (0 : Int) (0 : Int))] ([] : List apiGuest) ([] : List apiTie) ([] : List Int) [(apiRule.mk (15 : Int) (0 : Int) (⟨#[]⟩ : ByteArray) (⟨#[]⟩ : ByteArray) (⟨#[]⟩ : ByteArray) (1 : Int))]) (0 : Int) [(apiStep.mk (3 : Int) (7 : Int)),(apiStep.mk (3 : Int) (0 : Int))]) fun (t339,t340)=>
  bif decide (t339 = (1 : Int)) then
    bif decide (t340 = (61 : Int)) then
      Option.bind (law06_awake) fun t350=>
      some t350
    else
      none
  else
    none
def law06_SearchSmall_p2 : Option (Bool):=
  Option.bind (mkL (200000 : Int) (apiStep.mk (0 : Int) (0 : Int))) fun t306=>
  Option.bind (search_Verify (apiProblem.mk [(apiTable.mk (⟨#[114]⟩ : ByteArray) (1 : Int) (3 : Int) (0 : Int) ([] : List Int) (0 : Int) (0 : Int))] ([] : List apiGuest) ([] : List apiTie) ([] : List Int) [(apiRule.mk (15 : Int) (0 : Int) (⟨#[]⟩ : ByteArray) (⟨#[]⟩ : ByteArray) (⟨#[]⟩ : ByteArray) (1 : Int))]) (-1 : Int) t306) fun (t315,t316)=>
  bif !decide (t315 = (0 : Int)) then
    none
  else
    bif !decide (t316 = (2 : Int)) then
      none
    else
      law06_SearchSmall_p1
def law06_SearchSmall_p3 : Option (Bool):=
  Option.bind (mkL (200001 : Int) (apiStep.mk (0 : Int) (0 : Int))) fun t279=>
  Option.bind (search_Verify (apiProblem.mk [(apiTable.mk (⟨#[114]⟩ : ByteArray) (1 : Int) (3 : Int) (0 : Int) ([] : List Int) (0 : Int) (0 : Int))] ([] : List apiGuest) ([] : List apiTie) ([] : List Int) [(apiRule.mk (15 : Int) (0 : Int) (⟨#[]⟩ : ByteArray) (⟨#[]⟩ : ByteArray) (⟨#[]⟩ : ByteArray) (1 : Int))]) (-1 : Int) t279) fun (t288,t289)=>
  bif !decide (t288 = (0 : Int)) then
    none
  else
    bif !decide (t289 = (7 : Int)) then
      none
    else
      law06_SearchSmall_p2
def law06_SearchSmall_p4 : Option (Bool):=
  Option.bind (search_Count (apiProblem.mk [(apiTable.mk (⟨#[114]⟩ : ByteArray) (1 : Int) (3 : Int) (0 : Int) ([] : List Int) (0 : Int) (0 : Int))] ([] : List apiGuest) ([] : List apiTie) ([] : List Int) [(apiRule.mk (15 : Int) (0 : Int) (⟨#[]⟩ : ByteArray) (⟨#[]⟩ : ByteArray) (⟨#[]⟩ : ByteArray) (1 : Int))])) fun (t202,t203,t204)=>
  Option.bind (search_First (apiProblem.mk [(apiTable.mk (⟨#[114]⟩ : ByteArray) (1 : Int) (3 : Int) (0 : Int) ([] : List Int) (0 : Int) (0 : Int))] ([] : List apiGuest) ([] : List apiTie) ([] : List Int) [(apiRule.mk (15 : Int) (0 : Int) (⟨#[]⟩ : ByteArray) (⟨#[]⟩ : ByteArray) (⟨#[]⟩ : ByteArray) (1 : Int))])) fun (t215,t216)=>
  Option.bind (search_Prove (apiProblem.mk [(apiTable.mk (⟨#[114]⟩ : ByteArray) (1 : Int) (3 : Int) (0 : Int) ([] : List Int) (0 : Int) (0 : Int))] ([] : List apiGuest) ([] : List apiTie) ([] : List Int) [(apiRule.mk (15 : Int) (0 : Int) (⟨#[]⟩ : ByteArray) (⟨#[]⟩ : ByteArray) (⟨#[]⟩ : ByteArray) (1 : Int))]) (-1 : Int)) fun (t229,t230)=>
  Option.bind (search_Verify (apiProblem.mk [(apiTable.mk (⟨#[114]⟩ : ByteArray) (1 : Int) (3 : Int) (0 : Int) ([] : List Int) (0 : Int) (0 : Int))] ([] : List apiGuest) ([] : List apiTie) ([] : List Int) [(apiRule.mk (15 : Int) (0 : Int) (⟨#[]⟩ : ByteArray) (⟨#[]⟩ : ByteArray) (⟨#[]⟩ : ByteArray) (1 : Int))]) (-1 : Int) [(apiStep.mk (2 : Int) (0 : Int))]) fun (t254,t255)=>
  Option.bind (rng (t202 + t203)) fun t263=>
  bif !decide (t263 = (0 : Int)) then
    none
  else
    bif !decide (t204 = (0 : Int)) then
      none
    else
      bif !decide (t216 = (9 : Int)) then
        none
      else
        bif !decide (t230 = (0 : Int)) then
          none
        else
          bif !decide ((t229.length : Int) = (1 : Int)) then
            none
          else
            bif !decide (t254 = (0 : Int)) then
              none
            else
              bif !decide (t255 = (0 : Int)) then
                none
              else
                law06_SearchSmall_p3
def law06_SearchSmall_p5 : Option (Bool):=
  Option.bind (search_Count (apiProblem.mk ([] : List apiTable) ([] : List apiGuest) ([] : List apiTie) ([] : List Int) [(apiRule.mk (15 : Int) (0 : Int) (⟨#[]⟩ : ByteArray) (⟨#[]⟩ : ByteArray) (⟨#[]⟩ : ByteArray) (1 : Int))])) fun (t145,t146,t147)=>
  Option.bind (search_First (apiProblem.mk ([] : List apiTable) ([] : List apiGuest) ([] : List apiTie) ([] : List Int) [(apiRule.mk (15 : Int) (0 : Int) (⟨#[]⟩ : ByteArray) (⟨#[]⟩ : ByteArray) (⟨#[]⟩ : ByteArray) (1 : Int))])) fun (t157,t158)=>
  bif !decide (t145 = (1 : Int)) then
    none
  else
    bif !decide (t146 = (1 : Int)) then
      none
    else
      bif !decide (t147 = (0 : Int)) then
        none
      else
        bif !decide ((t157.length : Int) = (0 : Int)) then
          none
        else
          bif !decide (t158 = (0 : Int)) then
            none
          else
            law06_SearchSmall_p4
def law06_SearchSmall  : Option (Bool):=
 Option.bind (
   iter law06_SearchSmall_l0 FUEL (1 : Int)) fun _u=>
 law06_SearchSmall_p5
end Go.Dm
