import Derived.Test.YteaklbinndmohaaGreatDoorL9
import Derived.Test.YteaklbinndmohaaGreatDoorL10
/- What the functions compute, as plain Lean functions. -/
set_option maxRecDepth 1000000
set_option maxHeartbeats 40000000
set_option linter.unusedVariables false
set_option linter.unusedSimpArgs false
set_option linter.unnecessarySimpa false
open Go Go.Sl
namespace Go.Dm
theorem inj2 {α β : Type} {a c : α} {b d : β} (h : some (a,b) = some (c,d)) : a = c∧b = d:=by cases h; exact ⟨rfl,rfl⟩
theorem inj3 {α β γ : Type} {a c : α} {b d : β} {x y : γ} (h : some (a,b,x) = some (c,d,y)) : a = c∧b = d∧x = y:=by cases h; exact ⟨rfl,rfl,rfl⟩
theorem inj4 {α β γ δ : Type} {a c : α} {b d : β} {x y : γ} {u v : δ} (h : some (a,b,x,u) = some (c,d,y,v)) : a = c∧b = d∧x = y∧u = v:=by cases h; exact ⟨rfl,rfl,rfl,rfl⟩
abbrev RFUEL : Nat:=100000
structure apiTable where
  fName : ByteArray
  fShape : Int
  fA : Int
  fB : Int
  fOpen : List Int
  fX : Int
  fY : Int
deriving DecidableEq
structure apiGuest where
  fName : ByteArray
  fRank : ByteArray
  fCourt : ByteArray
  fSince : Int
  fSide : Int
  fDiet : ByteArray
  fHost : Bool
  fAccess : Bool
  fTongues : List ByteArray
deriving DecidableEq
structure apiTie where
  fA : ByteArray
  fB : ByteArray
  fKind : Int
deriving DecidableEq
structure apiRule where
  fKind : Int
  fWeight : Int
  fA : ByteArray
  fB : ByteArray
  fTable : ByteArray
  fN : Int
deriving DecidableEq
structure halllayout where
  fword : ByteArray
  fseats : Int→Int→Option Int
  fbeside : Int→Int→Int→Int→Option Bool
  facross : Int→Int→Int→Int→Option Bool
  fhonour : Int→Int→Option Int
  fmoves : Int→Int→Option (List (Int→Option Int))
structure guestcontent where
  fguests : List apiGuest
  fties : List apiTie
deriving DecidableEq
structure guestBook where
  fcontent : guestcontent
  fat : List (ByteArray×Int)
deriving DecidableEq
structure apiRoll where
  fGuests : List apiGuest
  fTies : List apiTie
deriving DecidableEq
structure apiProblem where
  fTables : List apiTable
  fGuests : List apiGuest
  fTies : List apiTie
  fClass : List Int
  fRules : List apiRule
deriving DecidableEq
structure rulekind where
  fword : ByteArray
  fa : Int
  fb : Bool
  ft : Int
  fn : Bool
  flo : Int
  fseat : Bool
  ffind : Nat
deriving DecidableEq
structure ruleJudge where
  fgiven : apiProblem
  fkinds : List (Int×rulekind)
  ftable : List Int
  flevel : List Int
  fopen : List Bool
  fbeside : List (List Int)
  facross : List (List Int)
  fsteps : List (List (Int×Int))
  fcommon : List (List Bool)
  fties : List (List Int)
deriving DecidableEq
structure ruleview where
  fJudge : ruleJudge
  fpart : List Int
  fguest : List Int
deriving DecidableEq
structure searchhunt where
  fJudge : ruleJudge
  fp : apiProblem
  ftable : List Int
  ffirst : List Int
  fgroups : List (List (List Int))
deriving DecidableEq
structure apiStep where
  fKind : Int
  fN : Int
deriving DecidableEq
structure searchreader where
  fhunt : searchhunt
  fbound : Int
  fsteps : List apiStep
  fat : Int
  fpart : List Int
deriving DecidableEq
structure searchwrong where
  fat : Int
  fe : Int
deriving DecidableEq
structure searchprover where
  fhunt : searchhunt
  fbound : Int
  fsteps : List apiStep
  fpart : List Int
deriving DecidableEq
structure repairscene where
  fJudge : ruleJudge
  fp : apiProblem
  fpart : List Int
  fseats : Int
deriving DecidableEq
structure apiChange where
  fKind : Int
  fGuest : apiGuest
  fA : ByteArray
  fB : ByteArray
  fTable : ByteArray
  fN : Int
  fRule : apiRule
deriving DecidableEq
structure repairway where
  fword : ByteArray
  fcheck : Nat
  fapply : Nat
  fread : Nat
  fwrite : Nat
deriving DecidableEq
structure apiRanked where
  fPlan : List Int
  fCost : Int
deriving DecidableEq
structure apiRepair where
  fProblem : apiProblem
  fPlan : List Int
  fMoved : Int
  fCost : Int
deriving DecidableEq
end Go.Dm
open Go Go.Sl
namespace Go.Dm
def sl_IndexInt_l0 (s1 : List Int) (v2 : Int) : Int→Option (Int⊕(Unit⊕Int)):=fun t6=>
  bif decide (t6 < (s1.length : Int)) then
    Option.bind (getI s1 t6) fun e15=>
    bif decide (v2 = e15) then
      some (Sum.inr (Sum.inr t6))
    else
      Option.bind (rng (t6 + (1 : Int))) fun t20=>
      some (Sum.inl t20)
  else
    some (Sum.inr (Sum.inl ()))
def sl_IndexInt (s1 : List Int) (v2 : Int) : Option (Int):=
 Option.bind (
   iter (sl_IndexInt_l0 s1 v2) FUEL (0 : Int)) fun o3=>match o3 with
 | .inl _u=>
   some (-1 : Int)
 | .inr p=>
   some p
def sl_ContainsInt (s1 : List Int) (v2 : Int) : Option (Bool):=
 Option.bind (sl_IndexInt s1 v2) fun t3=>
 some (decide ((0 : Int)≤t3))
def sl_IndexFuncInt_l0 (s1 : List Int) (f2 : Int→Option Bool) : Int→Option (Int⊕(Unit⊕Int)):=fun t6=>
  bif decide (t6 < (s1.length : Int)) then
    Option.bind (getI s1 t6) fun e15=>
    Option.bind (f2 e15) fun t19=>
    bif t19 then
      some (Sum.inr (Sum.inr t6))
    else
      Option.bind (rng (t6 + (1 : Int))) fun t35=>
      some (Sum.inl t35)
  else
    some (Sum.inr (Sum.inl ()))
def sl_IndexFuncInt (s1 : List Int) (f2 : Int→Option Bool) : Option (Int):=
 Option.bind (
   iter (sl_IndexFuncInt_l0 s1 f2) FUEL (0 : Int)) fun o3=>match o3 with
 | .inl _u=>
   some (-1 : Int)
 | .inr p=>
   some p
def sl_ContainsFuncInt (s1 : List Int) (f2 : Int→Option Bool) : Option (Bool):=
 Option.bind (sl_IndexFuncInt s1 f2) fun t3=>
 some (decide ((0 : Int)≤t3))
def sl_IndexFuncTable_l0 (s1 : List apiTable) (f2 : apiTable→Option Bool) : Int→Option (Int⊕(Unit⊕Int)):=fun t6=>
  bif decide (t6 < (s1.length : Int)) then
    Option.bind (getI s1 t6) fun e15=>
    Option.bind (f2 e15) fun t21=>
    bif t21 then
      some (Sum.inr (Sum.inr t6))
    else
      Option.bind (rng (t6 + (1 : Int))) fun t37=>
      some (Sum.inl t37)
  else
    some (Sum.inr (Sum.inl ()))
def sl_IndexFuncTable (s1 : List apiTable) (f2 : apiTable→Option Bool) : Option (Int):=
 Option.bind (
   iter (sl_IndexFuncTable_l0 s1 f2) FUEL (0 : Int)) fun o3=>match o3 with
 | .inl _u=>
   some (-1 : Int)
 | .inr p=>
   some p
def sl_ContainsFuncTable (s1 : List apiTable) (f2 : apiTable→Option Bool) : Option (Bool):=
 Option.bind (sl_IndexFuncTable s1 f2) fun t3=>
 some (decide ((0 : Int)≤t3))
def sl_IndexFuncGuest_l0 (s1 : List apiGuest) (f2 : apiGuest→Option Bool) : Int→Option (Int⊕(Unit⊕Int)):=fun t6=>
  bif decide (t6 < (s1.length : Int)) then
    Option.bind (getI s1 t6) fun e15=>
    Option.bind (f2 e15) fun t21=>
    bif t21 then
      some (Sum.inr (Sum.inr t6))
    else
      Option.bind (rng (t6 + (1 : Int))) fun t37=>
      some (Sum.inl t37)
  else
    some (Sum.inr (Sum.inl ()))
def sl_IndexFuncGuest (s1 : List apiGuest) (f2 : apiGuest→Option Bool) : Option (Int):=
 Option.bind (
   iter (sl_IndexFuncGuest_l0 s1 f2) FUEL (0 : Int)) fun o3=>match o3 with
 | .inl _u=>
   some (-1 : Int)
 | .inr p=>
   some p
def cmp_isNaNInt (x1 : Int) : Option (Bool):=
 some (!decide (x1 = x1))
def cmp_CompareInt (x1 : Int) (y2 : Int) : Option (Int):=
 Option.bind (cmp_isNaNInt x1) fun t3=>
 Option.bind (cmp_isNaNInt y2) fun t11=>
 bif t3 then
   none
 else
   bif t11 then
     none
   else
     bif decide (x1 < y2) then
       none
     else
       bif decide (y2 < x1) then
         none
       else
         some (0 : Int)
def cmp_LessInt (x1 : Int) (y2 : Int) : Option (Bool):=
 Option.bind (cmp_isNaNInt x1) fun t3=>
 bif t3 then
   none
 else
   some (decide (x1 < y2))
def sl_CompareInt_l0 (s11 : List Int) (s22 : List Int) : Int→Option (Int⊕Unit):=fun t6=>
  bif decide (t6 < (s11.length : Int)) then
    Option.bind (getI s11 t6) fun e15=>
    bif decide ((s22.length : Int)≤t6) then
      none
    else
      Option.bind (getI s22 t6) fun e21=>
      Option.bind (cmp_CompareInt e15 e21) fun t24=>
      bif !decide (t24 = (0 : Int)) then
        none
      else
        Option.bind (rng (t6 + (1 : Int))) fun t33=>
        some (Sum.inl t33)
  else
    some (Sum.inr ())
def sl_CompareInt (s11 : List Int) (s22 : List Int) : Option (Int):=
 Option.bind (
   iter (sl_CompareInt_l0 s11 s22) FUEL (0 : Int)) fun _u=>
 bif decide ((s11.length : Int) < (s22.length : Int)) then
   none
 else
   some (0 : Int)
def sl_EqualInt_l0 (s11 : List Int) (s22 : List Int) : Int→Option (Int⊕Unit):=fun t7=>
  bif decide (t7 < (s11.length : Int)) then
    Option.bind (getI s11 t7) fun e16=>
    Option.bind (getI s22 t7) fun e20=>
    bif !decide (e16 = e20) then
      none
    else
      Option.bind (rng (t7 + (1 : Int))) fun t25=>
      some (Sum.inl t25)
  else
    some (Sum.inr ())
def sl_EqualInt (s11 : List Int) (s22 : List Int) : Option (Bool):=
 bif !decide ((s11.length : Int) = (s22.length : Int)) then
   none
 else
   Option.bind (
     iter (sl_EqualInt_l0 s11 s22) FUEL (0 : Int)) fun _u=>
   some true
def sl_CloneInt (s1 : List Int) : Option (List Int):=
 Option.bind (apL ([] : List Int) s1) fun t8=>
 some t8
def sl_CloneTable (s1 : List apiTable) : Option (List apiTable):=
 Option.bind (apL ([] : List apiTable) s1) fun t8=>
 some t8
def sl_CloneGuest (s1 : List apiGuest) : Option (List apiGuest):=
 Option.bind (apL ([] : List apiGuest) s1) fun t8=>
 some t8
def sl_CloneStr (s1 : List ByteArray) : Option (List ByteArray):=
 Option.bind (apL ([] : List ByteArray) s1) fun t8=>
 some t8
def sl_CloneTie (s1 : List apiTie) : Option (List apiTie):=
 Option.bind (apL ([] : List apiTie) s1) fun t8=>
 some t8
def sl_CloneRule (s1 : List apiRule) : Option (List apiRule):=
 Option.bind (apL ([] : List apiRule) s1) fun t8=>
 some t8
end Go.Dm
open Go Go.Sl
namespace Go.Dm
def bits_Len64_p0 (x1 : Int) : Option (Int):=
  Option.bind (rngK .u8 x1) fun t5=>
  Option.bind (getS (⟨#[0,1,2,2,3,3,3,3,4,4,4,4,4,4,4,4,5,5,5,5,5,5,5,5,5,5,5,5,5,5,5,5,6,6,6,6,6,6,6,6,6,6,6,6,6,6,6,6,6,6,6,6,6,6,6,6,6,6,6,6,6,6,6,6,7,7,7,7,7,7,7,7,7,7,7,7,7,7,7,7,7,7,7,7,7,7,7,7,7,7,7,7,7,7,7,7,7,7,7,7,7,7,7,7,7,7,7,7,7,7,7,7,7,7,7,7,7,7,7,7,7,7,7,7,7,7,7,7,8,8,8,8,8,8,8,8,8,8,8,8,8,8,8,8,8,8,8,8,8,8,8,8,8,8,8,8,8,8,8,8,8,8,8,8,8,8,8,8,8,8,8,8,8,8,8,8,8,8,8,8,8,8,8,8,8,8,8,8,8,8,8,8,8,8,8,8,8,8,8,8,8,8,8,8,8,8,8,8,8,8,8,8,8,8,8,8,8,8,8,8,8,8,8,8,8,8,8,8,8,8,8,8,8,8,8,8,8,8,8,8,8,8,8,8,8,8,8,8,8,8,8,8,8,8,8,8]⟩ : ByteArray) t5) fun ch6=>
  Option.bind (rngK .i64 ch6) fun t7=>
  Option.bind (rng ((0 : Int) + t7)) fun t8=>
  some t8
def bits_Len64 (x1 : Int) : Option (Int):=
 bif decide ((4294967296 : Int)≤x1) then
   none
 else
   bif decide ((65536 : Int)≤x1) then
     none
   else
     bif decide ((256 : Int)≤x1) then
       none
     else
       bits_Len64_p0 x1
def bits_Len (x1 : Int) : Option (Int):=
 Option.bind (bits_Len64 x1) fun t2=>
 some t2
def sl_insOrd_l1 (data1 : List Int) (a3 : Int) (i9 : Int) : Unit→Option (Unit⊕Unit):=fun _u=>
  bif decide (a3 < i9) then
    Option.bind (getI data1 i9) fun e29=>
    Option.bind (rng (i9 - (1 : Int))) fun t34=>
    Option.bind (getI data1 t34) fun e35=>
    Option.bind (cmp_LessInt e29 e35) fun t38=>
    bif t38 then
      none
    else
      some (Sum.inr ())
  else
    none
def sl_insOrd_l0 (data1 : List Int) (a3 : Int) (b4 : Int) : Int→Option (Int⊕Unit):=fun i9=>
  bif decide (i9 < b4) then
    Option.bind (
      iter (sl_insOrd_l1 data1 a3 i9) FUEL ()) fun _u=>
    Option.bind (rng (i9 + (1 : Int))) fun t51=>
    some (Sum.inl t51)
  else
    some (Sum.inr ())
def sl_insOrd (data1 : List Int) (a3 : Int) (b4 : Int) : Option (List Int):=
 Option.bind (rng (a3 + (1 : Int))) fun t5=>
 Option.bind (
   iter (sl_insOrd_l0 data1 a3 b4) FUEL t5) fun _u=>
 some data1
def sl_pdqOrd_l0 (data1 : List Int) (a3 : Int) (b4 : Int) : Unit→Option (Unit⊕(List Int)):=fun _u=>
  Option.bind (rng (b4 - a3)) fun t16=>
  bif decide (t16≤(12 : Int)) then
    Option.bind (sl_insOrd data1 a3 b4) fun l19=>
    some (Sum.inr l19)
  else
    none
def sl_pdqOrd : Nat→(List Int)→Int→Int→Int→Option (List Int)
  | 0,_,_,_,_=>none
  | n + 1,data1,a3,b4,limit5=>
    Option.bind (
      iter (sl_pdqOrd_l0 data1 a3 b4) FUEL ()) fun p=>some p
def sl_SortInt (x1 : List Int) : Option (List Int):=
 Option.bind (rngK .u64 (x1.length : Int)) fun t3=>
 Option.bind (bits_Len t3) fun t4=>
 Option.bind (sl_pdqOrd RFUEL x1 (0 : Int) (x1.length : Int) t4) fun l13=>
 some l13
def sl_insCmpInts_l1 (data1 : List (List Int)) (a3 : Int) (cmp5 : (List Int)→(List Int)→Option Int) (i10 : Int) : Unit→Option (Unit⊕Unit):=fun _u=>
  bif decide (a3 < i10) then
    Option.bind (getI data1 i10) fun e30=>
    Option.bind (rng (i10 - (1 : Int))) fun t37=>
    Option.bind (getI data1 t37) fun e38=>
    Option.bind (cmp5 e30 e38) fun t43=>
    bif decide (t43 < (0 : Int)) then
      none
    else
      some (Sum.inr ())
  else
    none
def sl_insCmpInts_l0 (data1 : List (List Int)) (a3 : Int) (b4 : Int) (cmp5 : (List Int)→(List Int)→Option Int) : Int→Option (Int⊕Unit):=fun i10=>
  bif decide (i10 < b4) then
    Option.bind (
      iter (sl_insCmpInts_l1 data1 a3 cmp5 i10) FUEL ()) fun _u=>
    Option.bind (rng (i10 + (1 : Int))) fun t62=>
    some (Sum.inl t62)
  else
    some (Sum.inr ())
def sl_insCmpInts (data1 : List (List Int)) (a3 : Int) (b4 : Int) (cmp5 : (List Int)→(List Int)→Option Int) : Option (List (List Int)):=
 Option.bind (rng (a3 + (1 : Int))) fun t6=>
 Option.bind (
   iter (sl_insCmpInts_l0 data1 a3 b4 cmp5) FUEL t6) fun _u=>
 some data1
def sl_pdqCmpInts_l0 (data1 : List (List Int)) (a3 : Int) (b4 : Int) (cmp6 : (List Int)→(List Int)→Option Int) : Unit→Option (Unit⊕(List (List Int))):=fun _u=>
  Option.bind (rng (b4 - a3)) fun t17=>
  bif decide (t17≤(12 : Int)) then
    Option.bind (sl_insCmpInts data1 a3 b4 cmp6) fun l21=>
    some (Sum.inr l21)
  else
    none
def sl_pdqCmpInts : Nat→(List (List Int))→Int→Int→Int→((List Int)→(List Int)→Option Int)→Option (List (List Int))
  | 0,_,_,_,_,_=>none
  | n + 1,data1,a3,b4,limit5,cmp6=>
    Option.bind (
      iter (sl_pdqCmpInts_l0 data1 a3 b4 cmp6) FUEL ()) fun p=>some p
def sl_SortFuncInts (x1 : List (List Int)) (cmp3 : (List Int)→(List Int)→Option Int) : Option (List (List Int)):=
 Option.bind (rngK .u64 (x1.length : Int)) fun t4=>
 Option.bind (bits_Len t4) fun t5=>
 Option.bind (sl_pdqCmpInts RFUEL x1 (0 : Int) (x1.length : Int) t5 cmp3) fun l15=>
 some l15
end Go.Dm
open Go Go.Sl
namespace Go.Dm
def bits_Mul64 (x1 : Int) (y2 : Int) : Option (Int×Int):=
 Option.bind (andK .u64 x1 (4294967295 : Int)) fun t3=>
 Option.bind (shrK .u64 x1 (32 : Int)) fun t4=>
 Option.bind (andK .u64 y2 (4294967295 : Int)) fun t5=>
 Option.bind (shrK .u64 y2 (32 : Int)) fun t6=>
 Option.bind (rngK .u64 (t3 * t5)) fun t7=>
 Option.bind (rngK .u64 (t4 * t5)) fun t8=>
 Option.bind (shrK .u64 t7 (32 : Int)) fun t9=>
 Option.bind (rngK .u64 (t8 + t9)) fun t10=>
 Option.bind (andK .u64 t10 (4294967295 : Int)) fun t11=>
 Option.bind (shrK .u64 t10 (32 : Int)) fun t12=>
 Option.bind (rngK .u64 (t3 * t6)) fun t13=>
 Option.bind (rngK .u64 (t11 + t13)) fun t14=>
 Option.bind (rngK .u64 (t4 * t6)) fun t15=>
 Option.bind (rngK .u64 (t15 + t12)) fun t16=>
 Option.bind (shrK .u64 t14 (32 : Int)) fun t17=>
 Option.bind (rngK .u64 (t16 + t17)) fun t18=>
 Option.bind (rngK .u64 (x1 * y2)) fun t19=>
 some (t18,t19)
def bits_Mul (x1 : Int) (y2 : Int) : Option (Int×Int):=
 Option.bind (bits_Mul64 x1 y2) fun (t3,t4)=>
 some (t3,t4)
def sl_Repeat_p0 (newslice42 : List Int) (n47 : Int) : Option (((List Int)×Int)⊕(List Int)):=
  Option.bind (bdV n47 (newslice42.length : Int) (newslice42.length : Int)) fun u56=>
  Option.bind (bdV (0 : Int) n47 (newslice42.length : Int)) fun u57=>
  Option.bind (bdV n47 (newslice42.length : Int) (newslice42.length : Int)) fun u58=>
  Option.bind (bdV (0 : Int) n47 (newslice42.length : Int)) fun u59=>
  Option.bind (cpL newslice42 n47.toNat ((newslice42.length : Int).toNat - n47.toNat) (List.take (n47.toNat - (0 : Int).toNat) (List.drop (0 : Int).toNat newslice42))) fun (l61,n62)=>
  Option.bind (rng (n47 + n62)) fun t67=>
  some (Sum.inl (l61,t67))
def sl_Repeat_l0 : ((List Int)×Int)→Option (((List Int)×Int)⊕(List Int)):=fun (newslice42,n47)=>
  bif decide (n47 < (newslice42.length : Int)) then
    sl_Repeat_p0 newslice42 n47
  else
    some (Sum.inr newslice42)
def sl_Repeat (x1 : List Int) (count2 : Int) : Option (List Int):=
 bif decide (count2 < (0 : Int)) then
   none
 else
   Option.bind (rngK .u64 (x1.length : Int)) fun t4=>
   Option.bind (rngK .u64 count2) fun t5=>
   Option.bind (bits_Mul t4 t5) fun (t6,t7)=>
   bif decide ((0 : Int) < t6) then
     none
   else
     bif decide ((9223372036854775807 : Int) < t7) then
       none
     else
       Option.bind (rngK .i64 t7) fun t17=>
       Option.bind (mkL t17 (0 : Int)) fun t23=>
       Option.bind (cpL t23 0 t23.length x1) fun (l28,n29)=>
       Option.bind (
         iter sl_Repeat_l0 FUEL (l28,n29)) fun newslice37=>
       some newslice37
def sl_CompactInt_l0 (s1 : List Int) : Int→Option (Int⊕Unit):=fun k7=>
  bif decide (k7 < (s1.length : Int)) then
    Option.bind (getI s1 k7) fun e17=>
    Option.bind (rng (k7 - (1 : Int))) fun t20=>
    Option.bind (getI s1 t20) fun e21=>
    bif decide (e17 = e21) then
      none
    else
      Option.bind (rng (k7 + (1 : Int))) fun t25=>
      some (Sum.inl t25)
  else
    some (Sum.inr ())
def sl_CompactInt (s1 : List Int) : Option (List Int):=
 bif decide ((s1.length : Int) < (2 : Int)) then
   some s1
 else
   Option.bind (
     iter (sl_CompactInt_l0 s1) FUEL (1 : Int)) fun _u=>
   some s1
def sl_CompactFuncInts_l1 (s1 : List (List Int)) : Unit→Option (Unit⊕Unit):=fun _u=>
  bif decide ((1 : Int) < ((((s1.length : Int).toNat - (1 : Int).toNat : Nat)) : Int)) then
    none
  else
    some (Sum.inr ())
def sl_CompactFuncInts_p0 (s1 : List (List Int)) (eq3 : (List Int)→(List Int)→Option Bool) : Option (Unit⊕(List (List Int))):=
  Option.bind (getI s1 (1 : Int)) fun e17=>
  Option.bind (rng ((1 : Int) - (1 : Int))) fun t22=>
  Option.bind (getI s1 t22) fun e23=>
  Option.bind (eq3 e17 e23) fun t28=>
  bif t28 then
    Option.bind (bdV (1 : Int) (s1.length : Int) (s1.length : Int)) fun u43=>
    Option.bind (
      iter (sl_CompactFuncInts_l1 s1) FUEL ()) fun _u=>
    Option.bind (bdV (1 : Int) (s1.length : Int) (s1.length : Int)) fun u59=>
    Option.bind (bdV (1 : Int) (s1.length : Int) (s1.length : Int)) fun u61=>
    Option.bind (some (putL s1 (1 : Int).toNat (List.replicate ((s1.length : Int).toNat - (1 : Int).toNat) ([] : List Int)))) fun l63=>
    Option.bind (sbL l63 0 (1 : Int)) fun t66=>
    some (Sum.inr t66)
  else
    none
def sl_CompactFuncInts_l0 (s1 : List (List Int)) (eq3 : (List Int)→(List Int)→Option Bool) : Unit→Option (Unit⊕(List (List Int))):=fun _u=>
  bif decide ((1 : Int) < (s1.length : Int)) then
    sl_CompactFuncInts_p0 s1 eq3
  else
    none
def sl_CompactFuncInts (s1 : List (List Int)) (eq3 : (List Int)→(List Int)→Option Bool) : Option (List (List Int)):=
 bif decide ((s1.length : Int) < (2 : Int)) then
   some s1
 else
   Option.bind (
     iter (sl_CompactFuncInts_l0 s1 eq3) FUEL ()) fun p=>some p
def sl_IndexFuncStrL_l0 (s1 : List ByteArray) : Unit→Option (Unit⊕Unit):=fun _u=>
  bif decide ((0 : Int) < (s1.length : Int)) then
    none
  else
    some (Sum.inr ())
def sl_IndexFuncStrL (s1 : List ByteArray) (f3 : ByteArray→Option Bool) : Option (Int×(List ByteArray)):=
 Option.bind (
   iter (sl_IndexFuncStrL_l0 s1) FUEL ()) fun _u=>
 some ((-1 : Int),s1)
def sl_DeleteFuncStr (s1 : List ByteArray) (del3 : ByteArray→Option Bool) : Option (List ByteArray):=
 Option.bind (sl_IndexFuncStrL s1 del3) fun (t4,l5)=>
 bif decide (t4 = (-1 : Int)) then
   some l5
 else
   none
end Go.Dm
open Go Go.Sl
namespace Go.Dm
def hall_name_l0 (s1 : ByteArray) : Int→Option (Int⊕Unit):=fun i5=>
  bif decide (i5 < (s1.size : Int)) then
    Option.bind (getS s1 i5) fun ch14=>
    bif decide (ch14 < (97 : Int)) then
      none
    else
      Option.bind (getS s1 i5) fun ch16=>
      bif decide ((122 : Int) < ch16) then
        none
      else
        Option.bind (rng (i5 + (1 : Int))) fun t18=>
        some (Sum.inl t18)
  else
    some (Sum.inr ())
def hall_name (s1 : ByteArray) : Option (Bool):=
 Option.bind (
   iter (hall_name_l0 s1) FUEL (0 : Int)) fun _u=>
 bif decide ((1 : Int)≤(s1.size : Int)) then
   some (decide ((s1.size : Int)≤(12 : Int)))
 else
   none
def hall_roundSeats (a1 : Int) (b2 : Int) : Option (Int):=
 bif decide (a1 < (1 : Int)) then
   none
 else
   bif decide ((24 : Int) < a1) then
     none
   else
     bif !decide (b2 = (0 : Int)) then
       none
     else
       some a1
def hall_rowSeats (a1 : Int) (b2 : Int) : Option (Int):=
 bif decide (a1 < (1 : Int)) then
   none
 else
   bif decide ((24 : Int) < a1) then
     none
   else
     bif decide (b2 < (0 : Int)) then
       none
     else
       bif decide (a1 < b2) then
         none
       else
         some a1
def hall_roundBeside (a1 : Int) (b2 : Int) (x3 : Int) (y4 : Int) : Option (Bool):=
 Option.bind (rng (y4 - x3)) fun t5=>
 bif decide (t5 = (1 : Int)) then
   some true
 else
   Option.bind (rng (y4 - x3)) fun t7=>
   Option.bind (rng (a1 - (1 : Int))) fun t8=>
   some (decide (t7 = t8))
def hall_roundAcross (a1 : Int) (b2 : Int) (x3 : Int) (y4 : Int) : Option (Bool):=
 Option.bind (remI a1 (2 : Int)) fun t5=>
 bif decide (t5 = (0 : Int)) then
   Option.bind (rng (y4 - x3)) fun t7=>
   Option.bind (quoI a1 (2 : Int)) fun t8=>
   some (decide (t7 = t8))
 else
   none
def hall_rowBeside (a1 : Int) (b2 : Int) (x3 : Int) (y4 : Int) : Option (Bool):=
 Option.bind (rng (y4 - x3)) fun t5=>
 bif decide (t5 = (1 : Int)) then
   bif decide (b2 = (0 : Int)) then
     some true
   else
     none
 else
   some false
def hall_same (k1 : Int) : Option (Int):=
 some k1
def hall_lay1 (a1 : Int) (b2 : Int) : Option (Int):=
 some (0 : Int)
def hall_lay3 (a1 : Int) (b2 : Int) (x3 : Int) (y4 : Int) : Option (Bool):=
 some false
def hall_lay4 (a1 : Int) (b2 : Int) : Option (Int):=
 Option.bind (quoI a1 (2 : Int)) fun t3=>
 some t3
def hall_roundMoves1 (k1 : Int) (t2 : Int) (t3 : Int) : Option (Int):=
 Option.bind (rng (k1 + t2)) fun t4=>
 Option.bind (remI t4 t3) fun t5=>
 some t5
def hall_roundMoves2 (k1 : Int) (t2 : Int) (t3 : Int) : Option (Int):=
 Option.bind (rng (t2 - k1)) fun t4=>
 Option.bind (rng (t4 + t3)) fun t5=>
 Option.bind (remI t5 t3) fun t6=>
 some t6
def hall_roundMoves_l0 (a1 : Int) : ((List (Int→Option Int))×Int)→Option (((List (Int→Option Int))×Int)⊕(List (Int→Option Int))):=fun (out17,t22)=>
  bif decide (t22 < a1) then
    Option.bind (apL out17 [(fun y0=>hall_roundMoves1 y0 t22 a1),(fun y0=>hall_roundMoves2 y0 t22 a1)]) fun t53=>
    Option.bind (rng (t22 + (1 : Int))) fun t60=>
    some (Sum.inl (t53,t60))
  else
    some (Sum.inr out17)
def hall_roundMoves (a1 : Int) (b2 : Int) : Option (List (Int→Option Int)):=
 Option.bind (
   iter (hall_roundMoves_l0 a1) FUEL (([] : List (Int→Option Int)),(0 : Int))) fun out10=>
 some out10
def hall_rowMoves1 (k1 : Int) (t2 : Int) : Option (Int):=
 Option.bind (rng (t2 - (1 : Int))) fun t3=>
 Option.bind (rng (t3 - k1)) fun t4=>
 some t4
def hall_rowMoves (a1 : Int) (b2 : Int) : Option (List (Int→Option Int)):=
 some [hall_same,(fun y0=>hall_rowMoves1 y0 a1)]
def hall_layoutOf (s1 : Int) : Option (halllayout×Bool):=
 bif decide (s1 = (1 : Int)) then
   some ((halllayout.mk (⟨#[114,111,117,110,100]⟩ : ByteArray) hall_roundSeats hall_roundBeside hall_roundAcross hall_lay1 hall_roundMoves),true)
 else
   bif decide (s1 = (2 : Int)) then
     none
   else
     bif decide (s1 = (3 : Int)) then
       none
     else
       bif decide (s1 = (4 : Int)) then
         some ((halllayout.mk (⟨#[114,111,119]⟩ : ByteArray) hall_rowSeats hall_rowBeside hall_lay3 hall_lay4 hall_rowMoves),true)
       else
         none
def hall_size (t1 : apiTable) : Option (Int):=
 Option.bind (hall_layoutOf t1.fShape) fun (t8,t9)=>
 bif !t9 then
   none
 else
   Option.bind (t8.fseats t1.fA t1.fB) fun t35=>
   some t35
def hall_beside (t1 : apiTable) (x4 : Int) (y5 : Int) : Option (Bool):=
 Option.bind (hall_layoutOf t1.fShape) fun (t10,t11)=>
 bif !decide (x4 = y5) then
   Option.bind (t10.fbeside t1.fA t1.fB (min x4 y5) (max x4 y5)) fun t37=>
   some t37
 else
   some false
def hall_across (t1 : apiTable) (x4 : Int) (y5 : Int) : Option (Bool):=
 Option.bind (hall_layoutOf t1.fShape) fun (t10,t11)=>
 bif !decide (x4 = y5) then
   Option.bind (t10.facross t1.fA t1.fB (min x4 y5) (max x4 y5)) fun t37=>
   some t37
 else
   some false
def hall_near (t1 : apiTable) (x4 : Int) (y5 : Int) : Option (Bool):=
 Option.bind (hall_beside t1 x4 y5) fun t11=>
 bif t11 then
   some true
 else
   Option.bind (hall_across t1 x4 y5) fun t23=>
   some t23
def hall_steps_l0 (t23 : List Int) : (Int×(List Int))→Option ((Int×(List Int))⊕(List Int)):=fun (t32,out33)=>
  bif decide (t32 < (t23.length : Int)) then
    Option.bind (getI out33 t32) fun e46=>
    Option.bind (some (List.set out33 t32.toNat (-1 : Int))) fun l49=>
    Option.bind (rng (t32 + (1 : Int))) fun t52=>
    some (Sum.inl (t52,l49))
  else
    some (Sum.inr out33)
def hall_steps_p0 (t1 : apiTable) (e91 : Int) (t111 : List Int) (t116 : Int) (queue117 : List Int) : Option (((List Int)×Int×(List Int))⊕((List Int)×(List Int))):=
  Option.bind (getI t111 t116) fun e130=>
  Option.bind (
    bif decide (e130 < (0 : Int)) then
      Option.bind (hall_near t1 e91 t116) fun t141=>
      some t141
    else
      some false) fun t136=>
  bif t136 then
    Option.bind (getI t111 e91) fun e153=>
    Option.bind (rng (e153 + (1 : Int))) fun t157=>
    Option.bind (getI t111 t116) fun e158=>
    Option.bind (some (List.set t111 t116.toNat t157)) fun l161=>
    Option.bind (apL queue117 [t116]) fun t167=>
    Option.bind (rng (t116 + (1 : Int))) fun t174=>
    some (Sum.inl (l161,t174,t167))
  else
    Option.bind (rng (t116 + (1 : Int))) fun t176=>
    some (Sum.inl (t111,t176,queue117))
def hall_steps_l2 (t1 : apiTable) (out73 : List Int) (e91 : Int) : ((List Int)×Int×(List Int))→Option (((List Int)×Int×(List Int))⊕((List Int)×(List Int))):=fun (t111,t116,queue117)=>
  bif decide (t116 < (out73.length : Int)) then
    hall_steps_p0 t1 e91 t111 t116 queue117
  else
    some (Sum.inr (t111,queue117))
def hall_steps_l1 (t1 : apiTable) : ((List Int)×(List Int))→Option (((List Int)×(List Int))⊕(List Int)):=fun (out73,queue78)=>
  bif decide ((0 : Int) < (queue78.length : Int)) then
    Option.bind (getI queue78 (0 : Int)) fun e91=>
    Option.bind (sbL queue78 (1 : Int) (queue78.length : Int)) fun t94=>
    Option.bind (
      iter (hall_steps_l2 t1 out73 e91) FUEL (out73,(0 : Int),t94)) fun (out101,queue106)=>
    some (Sum.inl (out101,queue106))
  else
    some (Sum.inr out73)
def hall_steps (t1 : apiTable) (from4 : Int) : Option (List Int):=
 Option.bind (hall_size t1) fun t10=>
 Option.bind (mkL t10 (0 : Int)) fun t23=>
 Option.bind (
   iter (hall_steps_l0 t23) FUEL ((0 : Int),t23)) fun out27=>
 Option.bind (getI out27 from4) fun e56=>
 Option.bind (some (List.set out27 from4.toNat (0 : Int))) fun l59=>
 Option.bind (
   iter (hall_steps_l1 t1) FUEL (l59,[from4])) fun out68=>
 some out68
def hall_levels_l0 (t50 : List Int) : Int→Option (Int⊕Unit):=fun t64=>
  bif decide (t64 < (t50.length : Int)) then
    Option.bind (getI t50 t64) fun e73=>
    bif decide (e73 < (0 : Int)) then
      none
    else
      Option.bind (rng (t64 + (1 : Int))) fun t78=>
      some (Sum.inl t78)
  else
    some (Sum.inr ())
def hall_levels (t1 : apiTable) : Option (List Int):=
 Option.bind (hall_layoutOf t1.fShape) fun (t8,t9)=>
 Option.bind (t8.fhonour t1.fA t1.fB) fun t34=>
 Option.bind (hall_steps t1 t34) fun t50=>
 Option.bind (
   iter (hall_levels_l0 t50) FUEL (0 : Int)) fun _u=>
 some t50
def hall_Check_l0 (t1 : apiTable) : Unit→Option (Unit⊕Unit):=fun _u=>
  bif decide ((0 : Int) < (t1.fOpen.length : Int)) then
    none
  else
    some (Sum.inr ())
def hall_Check (t1 : apiTable) : Option (Int):=
 Option.bind (hall_size t1) fun t9=>
 Option.bind (hall_name t1.fName) fun t18=>
 bif !t18 then
   none
 else
   bif decide (t9 = (0 : Int)) then
     none
   else
     Option.bind (
       iter (hall_Check_l0 t1) FUEL ()) fun _u=>
     bif decide (t1.fX < (0 : Int)) then
       none
     else
       bif decide ((1000 : Int) < t1.fX) then
         none
       else
         bif decide (t1.fY < (0 : Int)) then
           none
         else
           bif decide ((1000 : Int) < t1.fY) then
             none
           else
             some (0 : Int)
def hall_CheckAll1 (x1 : apiTable) (t4 : apiTable) : Option (Bool):=
 some (decide (x1.fName = t4.fName))
def hall_CheckAll_l0 (l1 : List apiTable) : Int→Option (Int⊕Unit):=fun t6=>
  bif decide (t6 < (l1.length : Int)) then
    Option.bind (getI l1 t6) fun e15=>
    Option.bind (hall_Check e15) fun t27=>
    bif !decide (t27 = (0 : Int)) then
      none
    else
      Option.bind (sbL l1 0 t6) fun t38=>
      Option.bind (sl_ContainsFuncTable t38 (fun y0=>hall_CheckAll1 y0 e15)) fun t53=>
      bif t53 then
        none
      else
        Option.bind (rng (t6 + (1 : Int))) fun t62=>
        some (Sum.inl t62)
  else
    some (Sum.inr ())
def hall_CheckAll (l1 : List apiTable) : Option (Int×Int):=
 bif decide ((16 : Int) < (l1.length : Int)) then
   none
 else
   Option.bind (
     iter (hall_CheckAll_l0 l1) FUEL (0 : Int)) fun _u=>
   some ((0 : Int),(0 : Int))
def hall_Find1 (x1 : apiTable) (t4 : ByteArray) : Option (Bool):=
 some (decide (x1.fName = t4))
def hall_valid (l1 : List apiTable) : Option (Bool):=
 Option.bind (hall_CheckAll l1) fun (t2,t3)=>
 some (decide (t3 = (0 : Int)))
def hall_First_l0 (t15 : List apiTable) : (Int×Int)→Option ((Int×Int)⊕Int):=fun (t24,n25)=>
  bif decide (t24 < (t15.length : Int)) then
    Option.bind (getI t15 t24) fun e34=>
    Option.bind (hall_size e34) fun t46=>
    Option.bind (rng (n25 + t46)) fun t54=>
    Option.bind (rng (t24 + (1 : Int))) fun t55=>
    some (Sum.inl (t55,t54))
  else
    some (Sum.inr n25)
def hall_First (l1 : List apiTable) (t2 : Int) : Option (Int):=
 bif decide (t2 < (0 : Int)) then
   none
 else
   bif decide ((l1.length : Int)≤t2) then
     none
   else
     Option.bind (hall_valid l1) fun t5=>
     bif !t5 then
       none
     else
       Option.bind (sbL l1 0 t2) fun t15=>
       Option.bind (
         iter (hall_First_l0 t15) FUEL ((0 : Int),(0 : Int))) fun n23=>
       some n23
def hall_lastSize (l1 : List apiTable) : Option (Int):=
 bif decide ((l1.length : Int) = (0 : Int)) then
   none
 else
   Option.bind (rng ((l1.length : Int) - (1 : Int))) fun t3=>
   Option.bind (getI l1 t3) fun e4=>
   Option.bind (hall_size e4) fun t9=>
   some t9
def hall_Count (l1 : List apiTable) : Option (Int):=
 Option.bind (hall_valid l1) fun t2=>
 bif !t2 then
   none
 else
   Option.bind (rng ((l1.length : Int) - (1 : Int))) fun t12=>
   Option.bind (hall_First l1 t12) fun t13=>
   Option.bind (hall_lastSize l1) fun t22=>
   Option.bind (rng (t13 + t22)) fun t30=>
   some t30
def hall_Where_l0 (l1 : List apiTable) : (Int×Int)→Option ((Int×Int)⊕(Int×Int×Bool)):=fun (seat17,t18)=>
  bif decide (t18 < (l1.length : Int)) then
    Option.bind (getI l1 t18) fun e27=>
    Option.bind (hall_size e27) fun t39=>
    bif decide (seat17 < t39) then
      some (Sum.inr (t18,seat17,true))
    else
      Option.bind (rng (seat17 - t39)) fun t49=>
      Option.bind (rng (t18 + (1 : Int))) fun t50=>
      some (Sum.inl (t49,t50))
  else
    none
def hall_Where (l1 : List apiTable) (seat2 : Int) : Option (Int×Int×Bool):=
 bif decide (seat2 < (0 : Int)) then
   none
 else
   Option.bind (hall_valid l1) fun t4=>
   bif !t4 then
     none
   else
     Option.bind (
       iter (hall_Where_l0 l1) FUEL (seat2,(0 : Int))) fun p=>some p
def hall_Find (l1 : List apiTable) (name2 : ByteArray) : Option (Int×Bool):=
 Option.bind (sl_IndexFuncTable l1 (fun y0=>hall_Find1 y0 name2)) fun t16=>
 bif decide (t16 < (0 : Int)) then
   some ((0 : Int),false)
 else
   Option.bind (hall_valid l1) fun t27=>
   bif !t27 then
     some ((0 : Int),false)
   else
     some (t16,true)
def hall_Seats (t1 : apiTable) : Option (Int):=
 Option.bind (hall_Check t1) fun t9=>
 bif !decide (t9 = (0 : Int)) then
   none
 else
   Option.bind (hall_size t1) fun t20=>
   some t20
def hall_Open (l1 : List apiTable) (a2 : Int) : Option (Bool):=
 Option.bind (hall_Where l1 a2) fun (t3,t4,t5)=>
 bif t5 then
   Option.bind (getI l1 t3) fun e14=>
   Option.bind (sl_ContainsInt e14.fOpen t4) fun t20=>
   some t20
 else
   none
def hall_Level (l1 : List apiTable) (a2 : Int) : Option (Int):=
 Option.bind (hall_Where l1 a2) fun (t3,t4,t5)=>
 bif !t5 then
   none
 else
   Option.bind (getI l1 t3) fun e14=>
   Option.bind (hall_levels e14) fun t20=>
   Option.bind (getI t20 t4) fun e31=>
   some e31
def hall_pair (l1 : List apiTable) (a2 : Int) (b3 : Int) : Option (apiTable×Int×Int×Bool):=
 Option.bind (hall_Where l1 a2) fun (t5,t6,t7)=>
 Option.bind (hall_Where l1 b3) fun (t16,t17,t18)=>
 bif !t7 then
   none
 else
   bif !t18 then
     none
   else
     bif !decide (t5 = t16) then
       none
     else
       Option.bind (getI l1 t5) fun e29=>
       some (e29,t6,t17,true)
def hall_Beside (l1 : List apiTable) (a2 : Int) (b3 : Int) : Option (Bool):=
 Option.bind (hall_pair l1 a2 b3) fun (t4,t5,t6,t7)=>
 bif t7 then
   Option.bind (hall_beside t4 t5 t6) fun t24=>
   some t24
 else
   none
def hall_Across (l1 : List apiTable) (a2 : Int) (b3 : Int) : Option (Bool):=
 Option.bind (hall_pair l1 a2 b3) fun (t4,t5,t6,t7)=>
 bif t7 then
   Option.bind (hall_across t4 t5 t6) fun t24=>
   some t24
 else
   none
end Go.Dm
open Go Go.Sl
namespace Go.Dm
def guest_name_l0 (s1 : ByteArray) : Int→Option (Int⊕Unit):=fun t7=>
  bif decide (t7 < (s1.size : Int)) then
    Option.bind (getS s1 t7) fun ch16=>
    bif decide (ch16 < (97 : Int)) then
      none
    else
      Option.bind (getS s1 t7) fun ch18=>
      bif decide ((122 : Int) < ch18) then
        none
      else
        Option.bind (rng (t7 + (1 : Int))) fun t20=>
        some (Sum.inl t20)
  else
    some (Sum.inr ())
def guest_name (s1 : ByteArray) : Option (Bool):=
 bif decide ((s1.size : Int) = (0 : Int)) then
   none
 else
   bif decide ((12 : Int) < (s1.size : Int)) then
     none
   else
     Option.bind (
       iter (guest_name_l0 s1) FUEL (0 : Int)) fun _u=>
     some true
def guest_some (s1 : ByteArray) : Option (Bool):=
 bif decide (s1 = (⟨#[]⟩ : ByteArray)) then
   some true
 else
   none
def guest_Check_l0 (g1 : apiGuest) : Unit→Option (Unit⊕Unit):=fun _u=>
  bif decide ((0 : Int) < (g1.fTongues.length : Int)) then
    none
  else
    some (Sum.inr ())
def guest_Check_p0 (g1 : apiGuest) : Option (Int):=
  Option.bind (guest_some g1.fDiet) fun t38=>
  bif !t38 then
    none
  else
    bif decide (g1.fSince < (0 : Int)) then
      none
    else
      bif decide ((9999 : Int) < g1.fSince) then
        none
      else
        bif decide (g1.fSide < (0 : Int)) then
          none
        else
          bif decide ((2 : Int) < g1.fSide) then
            none
          else
            bif decide ((4 : Int) < (g1.fTongues.length : Int)) then
              none
            else
              Option.bind (
                iter (guest_Check_l0 g1) FUEL ()) fun _u=>
              some (0 : Int)
def guest_Check (g1 : apiGuest) : Option (Int):=
 Option.bind (guest_name g1.fName) fun t8=>
 bif !t8 then
   none
 else
   Option.bind (guest_some g1.fRank) fun t18=>
   bif !t18 then
     none
   else
     Option.bind (guest_some g1.fCourt) fun t28=>
     bif !t28 then
       none
     else
       guest_Check_p0 g1
def guest_copied (g1 : apiGuest) : Option (apiGuest):=
 Option.bind (sl_CloneStr g1.fTongues) fun t6=>
 some (apiGuest.mk g1.fName g1.fRank g1.fCourt g1.fSince g1.fSide g1.fDiet g1.fHost g1.fAccess t6)
def bytealg_CompareString (a1 : ByteArray) (b2 : ByteArray) : Option (Int):=
 some (cmpB a1 b2)
def strings_Compare (a1 : ByteArray) (b2 : ByteArray) : Option (Int):=
 Option.bind (bytealg_CompareString a1 b2) fun t3=>
 some t3
def guest_order (a1 : apiTie) (b2 : apiTie) : Option (Int):=
 Option.bind (strings_Compare a1.fA b2.fA) fun t12=>
 bif !decide (t12 = (0 : Int)) then
   some t12
 else
   Option.bind (strings_Compare a1.fB b2.fB) fun t24=>
   some t24
def guest_pair (one1 : ByteArray) (other2 : ByteArray) (kind3 : Int) : Option (apiTie):=
 some (apiTie.mk (minS one1 other2) (maxS one1 other2) kind3)
def guest_New  : Option (guestBook):=
 some (guestBook.mk (guestcontent.mk ([] : List apiGuest) ([] : List apiTie)) ([] : List (ByteArray×Int)))
def Book_none (b1 : guestBook) : Option (Bool):=
 some false
def sl_BinTie_l0 (x1 : List apiTie) (target2 : apiTie) (cmp3 : apiTie→apiTie→Option Int) : (Int×Int)→Option ((Int×Int)⊕Int):=fun (j13,i14)=>
  bif decide (i14 < j13) then
    Option.bind (rng (i14 + j13)) fun t23=>
    Option.bind (rngK .u64 t23) fun t24=>
    Option.bind (shrK .u64 t24 (1 : Int)) fun t25=>
    Option.bind (rngK .i64 t25) fun t26=>
    Option.bind (getI x1 t26) fun e27=>
    Option.bind (cmp3 e27 target2) fun t32=>
    bif decide (t32 < (0 : Int)) then
      Option.bind (rng (t26 + (1 : Int))) fun t48=>
      some (Sum.inl (j13,t48))
    else
      some (Sum.inl (t26,i14))
  else
    some (Sum.inr i14)
def sl_BinTie (x1 : List apiTie) (target2 : apiTie) (cmp3 : apiTie→apiTie→Option Int) : Option (Int×Bool):=
 Option.bind (
   iter (sl_BinTie_l0 x1 target2 cmp3) FUEL ((x1.length : Int),(0 : Int))) fun i12=>
 bif decide (i12 < (x1.length : Int)) then
   Option.bind (getI x1 i12) fun e55=>
   Option.bind (cmp3 e55 target2) fun t60=>
   some (i12,decide (t60 = (0 : Int)))
 else
   some (i12,false)
def sl_InsTie (s1 : List apiTie) (i3 : Int) (v4 : List apiTie) : Option (List apiTie):=
 Option.bind (bdV i3 (s1.length : Int) (s1.length : Int)) fun u5=>
 bif decide ((v4.length : Int) = (0 : Int)) then
   none
 else
   bif decide (i3 = (s1.length : Int)) then
     Option.bind (apL s1 v4) fun t8=>
     some t8
   else
     none
def Book_place (b1 : guestBook) (one2 : ByteArray) (other3 : ByteArray) : Option (Int×Bool):=
 Option.bind (guest_pair one2 other3 (0 : Int)) fun t13=>
 Option.bind (sl_BinTie b1.fcontent.fties t13 guest_order) fun (t33,t34)=>
 some (t33,t34)
def Book_Add_p0 (b1 : guestBook) (g2 : apiGuest) : Option (Int×guestBook):=
  Option.bind (guest_Check g2) fun t50=>
  bif !decide (t50 = (0 : Int)) then
    none
  else
    Option.bind (lkM b1.fat g2.fName (0 : Int)) fun (e60,ok61)=>
    bif ok61 then
      none
    else
      bif decide ((b1.fcontent.fguests.length : Int) = (64 : Int)) then
        none
      else
        Option.bind (some (mset b1.fat g2.fName (b1.fcontent.fguests.length : Int))) fun m70=>
        Option.bind (guest_copied g2) fun t74=>
        Option.bind (apL b1.fcontent.fguests [t74]) fun t87=>
        some ((0 : Int),(guestBook.mk (guestcontent.mk t87 b1.fcontent.fties) m70))
def Book_Add (b1 : guestBook) (g2 : apiGuest) : Option (Int×guestBook):=
 Option.bind (Book_none (guestBook.mk (guestcontent.mk b1.fcontent.fguests b1.fcontent.fties) b1.fat)) fun t24=>
 bif t24 then
   none
 else
   Book_Add_p0 b1 g2
def Book_Tie_l0 (b1 : guestBook) (one2 : ByteArray) (other3 : ByteArray) : Int→Option (Int⊕Unit):=fun t52=>
  bif decide (t52 < ([one2,other3].length : Int)) then
    Option.bind (getI [one2,other3] t52) fun e61=>
    Option.bind (lkM b1.fat e61 (0 : Int)) fun (e65,ok66)=>
    bif !ok66 then
      none
    else
      Option.bind (rng (t52 + (1 : Int))) fun t72=>
      some (Sum.inl t72)
  else
    some (Sum.inr ())
def Book_Tie_p0 (b1 : guestBook) (one2 : ByteArray) (other3 : ByteArray) (kind4 : Int) : Option (Int×guestBook):=
  Option.bind (
    iter (Book_Tie_l0 b1 one2 other3) FUEL (0 : Int)) fun _u=>
  Option.bind (Book_place (guestBook.mk (guestcontent.mk b1.fcontent.fguests b1.fcontent.fties) b1.fat) one2 other3) fun (t88,t89)=>
  bif t89 then
    none
  else
    bif decide ((b1.fcontent.fties.length : Int) = (256 : Int)) then
      none
    else
      Option.bind (guest_pair one2 other3 kind4) fun t115=>
      Option.bind (sl_InsTie b1.fcontent.fties t88 [t115]) fun t133=>
      some ((0 : Int),(guestBook.mk (guestcontent.mk b1.fcontent.fguests t133) b1.fat))
def Book_Tie (b1 : guestBook) (one2 : ByteArray) (other3 : ByteArray) (kind4 : Int) : Option (Int×guestBook):=
 Option.bind (Book_none (guestBook.mk (guestcontent.mk b1.fcontent.fguests b1.fcontent.fties) b1.fat)) fun t20=>
 bif t20 then
   none
 else
   bif !decide (kind4 = (1 : Int)) then
     bif !decide (kind4 = (2 : Int)) then
       none
     else
       bif decide (one2 = other3) then
         none
       else
         Book_Tie_p0 b1 one2 other3 kind4
   else
     none
def guest_Load_l0 (r1 : apiRoll) : ((List apiGuest)×(List apiTie)×(List (ByteArray×Int))×Int)→Option (((List apiGuest)×(List apiTie)×(List (ByteArray×Int))×Int)⊕((List apiGuest)×(List apiTie)×(List (ByteArray×Int)))):=fun (guests52,ties57,at62,t67)=>
  bif decide (t67 < (r1.fGuests.length : Int)) then
    Option.bind (getI r1.fGuests t67) fun e76=>
    Option.bind (Book_Add (guestBook.mk (guestcontent.mk guests52 ties57) at62) e76) fun (t91,q92)=>
    bif !decide (t91 = (0 : Int)) then
      none
    else
      Option.bind (rng (t67 + (1 : Int))) fun t113=>
      some (Sum.inl (q92.fcontent.fguests,q92.fcontent.fties,q92.fat,t113))
  else
    some (Sum.inr (guests52,ties57,at62))
def guest_Load_l1 (r1 : apiRoll) : ((List apiGuest)×(List apiTie)×(List (ByteArray×Int))×Int)→Option (((List apiGuest)×(List apiTie)×(List (ByteArray×Int))×Int)⊕((List apiGuest)×(List apiTie)×(List (ByteArray×Int)))):=fun (guests139,ties144,at149,t154)=>
  bif decide (t154 < (r1.fTies.length : Int)) then
    Option.bind (getI r1.fTies t154) fun e163=>
    bif sLt e163.fA e163.fB then
      bif decide (t154 = (0 : Int)) then
        Option.bind (Book_Tie (guestBook.mk (guestcontent.mk guests139 ties144) at149) e163.fA e163.fB e163.fKind) fun (t177,q178)=>
        bif !decide (t177 = (0 : Int)) then
          none
        else
          Option.bind (rng (t154 + (1 : Int))) fun t199=>
          some (Sum.inl (q178.fcontent.fguests,q178.fcontent.fties,q178.fat,t199))
      else
        none
    else
      none
  else
    some (Sum.inr (guests139,ties144,at149))
def guest_Load (r1 : apiRoll) : Option (guestBook×Int×Int):=
 Option.bind (guest_New) fun t10=>
 Option.bind (
   iter (guest_Load_l0 r1) FUEL (t10.fcontent.fguests,t10.fcontent.fties,t10.fat,(0 : Int))) fun (guests37,ties42,at47)=>
 Option.bind (
   iter (guest_Load_l1 r1) FUEL (guests37,ties42,at47,(0 : Int))) fun (guests124,ties129,at134)=>
 some ((guestBook.mk (guestcontent.mk guests124 ties129) at134),(0 : Int),(0 : Int))
def guest_CheckRoll (r1 : apiRoll) : Option (Int×Int):=
 Option.bind (guest_Load r1) fun (t12,t13,t14)=>
 some (t13,t14)
end Go.Dm
open Go Go.Sl
namespace Go.Dm
def guest_copiedR (g1 : apiGuest) : Option (apiGuest):=
 Option.bind (sl_CloneStr g1.fTongues) fun t6=>
 some (apiGuest.mk g1.fName g1.fRank g1.fCourt g1.fSince g1.fSide g1.fDiet g1.fHost g1.fAccess t6)
def Book_Find (b1 : guestBook) (name2 : ByteArray) : Option (apiGuest×Bool):=
 Option.bind (Book_none b1) fun t4=>
 bif t4 then
   none
 else
   Option.bind (lkM b1.fat name2 (0 : Int)) fun (e23,ok24)=>
   bif !ok24 then
     none
   else
     Option.bind (getI b1.fcontent.fguests e23) fun e28=>
     Option.bind (guest_copiedR e28) fun t33=>
     some ((apiGuest.mk t33.fName t33.fRank t33.fCourt t33.fSince t33.fSide t33.fDiet t33.fHost t33.fAccess t33.fTongues),true)
def Book_Common1 (t1 : ByteArray) (t2 : apiGuest) : Option (Bool):=
  none
def Book_Common (b1 : guestBook) (one2 : ByteArray) (other3 : ByteArray) : Option (List ByteArray):=
 Option.bind (Book_Find b1 one2) fun (t4,t5)=>
 Option.bind (Book_Find b1 other3) fun (t21,t22)=>
 bif !t5 then
   none
 else
   bif !t22 then
     none
   else
     Option.bind (sl_DeleteFuncStr t4.fTongues (fun y0=>Book_Common1 y0 (apiGuest.mk t21.fName t21.fRank t21.fCourt t21.fSince t21.fSide t21.fDiet t21.fHost t21.fAccess t21.fTongues))) fun t55=>
     some t55
def Book_Tied (b1 : guestBook) (one2 : ByteArray) (other3 : ByteArray) : Option (Int×Bool):=
 Option.bind (Book_none b1) fun t4=>
 bif t4 then
   none
 else
   Option.bind (Book_place b1 one2 other3) fun (t14,t15)=>
   bif !t15 then
     some ((0 : Int),false)
   else
     Option.bind (getI b1.fcontent.fties t14) fun e35=>
     some (e35.fKind,true)
end Go.Dm
open Go Go.Sl
namespace Go.Dm
def rule_who_1 (g1 : apiGuest) (t4 : ByteArray) : Option (Bool):=
 some (decide (g1.fName = t4))
def rule_who (p1 : apiProblem) (name12 : ByteArray) : Option (Int):=
 Option.bind (sl_IndexFuncGuest p1.fGuests (fun y0=>rule_who_1 y0 name12)) fun t32=>
 some t32
def rule_seats_l0 (first1 : Int) (n2 : Int) (so3 : Int→Option Bool) : ((List Int)×Int)→Option (((List Int)×Int)⊕(List Int)):=fun (out14,k19)=>
  Option.bind (rng (first1 + n2)) fun t27=>
  bif decide (k19 < t27) then
    Option.bind (so3 k19) fun t29=>
    bif t29 then
      Option.bind (apL out14 [k19]) fun t47=>
      Option.bind (rng (k19 + (1 : Int))) fun t54=>
      some (Sum.inl (t47,t54))
    else
      Option.bind (rng (k19 + (1 : Int))) fun t56=>
      some (Sum.inl (out14,t56))
  else
    some (Sum.inr out14)
def rule_seats (first1 : Int) (n2 : Int) (so3 : Int→Option Bool) : Option (List Int):=
 Option.bind (
   iter (rule_seats_l0 first1 n2 so3) FUEL (([] : List Int),first1)) fun out7=>
 some out7
def rule_copied_l0 (t14 : List apiTable) : ((List apiTable)×Int)→Option (((List apiTable)×Int)⊕(List apiTable)):=fun (tables35,t40)=>
  bif decide (t40 < (t14.length : Int)) then
    Option.bind (getI tables35 t40) fun e49=>
    Option.bind (sl_CloneInt e49.fOpen) fun t54=>
    Option.bind (getI tables35 t40) fun e65=>
    Option.bind (some (List.set tables35 t40.toNat (apiTable.mk e65.fName e65.fShape e65.fA e65.fB t54 e65.fX e65.fY))) fun l76=>
    Option.bind (rng (t40 + (1 : Int))) fun t80=>
    some (Sum.inl (l76,t80))
  else
    some (Sum.inr tables35)
def rule_copied_l1 (t87 : List apiGuest) : ((List apiGuest)×Int)→Option (((List apiGuest)×Int)⊕(List apiGuest)):=fun (guests108,t113)=>
  bif decide (t113 < (t87.length : Int)) then
    Option.bind (getI guests108 t113) fun e122=>
    Option.bind (sl_CloneStr e122.fTongues) fun t127=>
    Option.bind (getI guests108 t113) fun e138=>
    Option.bind (some (List.set guests108 t113.toNat (apiGuest.mk e138.fName e138.fRank e138.fCourt e138.fSince e138.fSide e138.fDiet e138.fHost e138.fAccess t127))) fun l149=>
    Option.bind (rng (t113 + (1 : Int))) fun t153=>
    some (Sum.inl (l149,t153))
  else
    some (Sum.inr guests108)
def rule_copied (p1 : apiProblem) : Option (apiProblem):=
 Option.bind (sl_CloneTable p1.fTables) fun t14=>
 Option.bind (
   iter (rule_copied_l0 t14) FUEL (t14,(0 : Int))) fun tables30=>
 Option.bind (sl_CloneGuest p1.fGuests) fun t87=>
 Option.bind (
   iter (rule_copied_l1 t87) FUEL (t87,(0 : Int))) fun guests103=>
 Option.bind (sl_CloneTie p1.fTies) fun t160=>
 Option.bind (sl_CloneInt p1.fClass) fun t173=>
 Option.bind (sl_CloneRule p1.fRules) fun t186=>
 some (apiProblem.mk tables30 guests103 t160 t173 t186)
def view_both (v1 : ruleview) (r2 : apiRule) : Option (Int×Int×Bool):=
 Option.bind (rule_who v1.fJudge.fgiven r2.fA) fun t48=>
 Option.bind (rule_who v1.fJudge.fgiven r2.fB) fun t61=>
 Option.bind (getI v1.fpart t48) fun e71=>
 bif decide ((0 : Int)≤e71) then
   Option.bind (getI v1.fpart t61) fun e76=>
   some (t48,t61,decide ((0 : Int)≤e76))
 else
   some (t48,t61,false)
def view_far (v1 : ruleview) (a2 : Int) (b3 : Int) : Option (Int×Bool):=
 Option.bind (getI v1.fpart a2) fun e44=>
 Option.bind (getI v1.fJudge.fsteps e44) fun e47=>
 Option.bind (getI v1.fpart b3) fun e52=>
 Option.bind (lkM e47 e52 (0 : Int)) fun (e55,ok56)=>
 some (e55,ok56)
def view_apart {σ : Type} (v1 : ruleview) (r2 : apiRule) (f3 : σ→Int→(List Int)→Option σ) (s0 : σ) : Option (σ):=
 Option.bind (view_both v1 r2) fun (t9,t10,t11)=>
 Option.bind (
   bif !t11 then
     some true
   else
     Option.bind (getI v1.fpart t9) fun e65=>
     Option.bind (getI v1.fJudge.ftable e65) fun e68=>
     Option.bind (getI v1.fpart t10) fun e71=>
     Option.bind (getI v1.fJudge.ftable e71) fun e74=>
     some (!decide (e68 = e74))) fun t22=>
 bif t22 then
   some s0
 else
   Option.bind (view_far v1 t9 t10) fun (t85,t86)=>
   bif decide (r2.fN = (0 : Int)) then
     none
   else
     bif t86 then
       bif decide (t85 < r2.fN) then
         Option.bind (f3 s0 (1 : Int) [t9,t10]) fun s107=>
         some s107
       else
         none
     else
       none
def view_sideBySide {σ : Type} (v1 : ruleview) (r2 : apiRule) (f3 : σ→Int→(List Int)→Option σ) (s0 : σ) : Option (σ):=
  none
def view_faceToFace {σ : Type} (v1 : ruleview) (r2 : apiRule) (f3 : σ→Int→(List Int)→Option σ) (s0 : σ) : Option (σ):=
  none
def view_within {σ : Type} (v1 : ruleview) (r2 : apiRule) (f3 : σ→Int→(List Int)→Option σ) (s0 : σ) : Option (σ):=
  none
def view_together {σ : Type} (v1 : ruleview) (r2 : apiRule) (f3 : σ→Int→(List Int)→Option σ) (s0 : σ) : Option (σ):=
  none
def view_at {σ : Type} (v1 : ruleview) (r2 : apiRule) (f3 : σ→Int→(List Int)→Option σ) (s0 : σ) : Option (σ):=
  none
def view_seat_l0 (v1 : ruleview) (e58 : Int) : Int→Option (Int⊕Int):=fun first69=>
  bif decide ((0 : Int) < first69) then
    Option.bind (rng (first69 - (1 : Int))) fun t81=>
    Option.bind (getI v1.fJudge.ftable t81) fun e82=>
    Option.bind (getI v1.fJudge.ftable e58) fun e86=>
    bif decide (e82 = e86) then
      Option.bind (rng (first69 - (1 : Int))) fun t90=>
      some (Sum.inl t90)
    else
      some (Sum.inr first69)
  else
    some (Sum.inr first69)
def view_seat {σ : Type} (v1 : ruleview) (r2 : apiRule) (f3 : σ→Int→(List Int)→Option σ) (s0 : σ) : Option (σ):=
 Option.bind (rule_who v1.fJudge.fgiven r2.fA) fun t49=>
 Option.bind (getI v1.fpart t49) fun e58=>
 bif decide (e58 < (0 : Int)) then
   some s0
 else
   Option.bind (
     iter (view_seat_l0 v1 e58) FUEL e58) fun first68=>
   Option.bind (getI v1.fJudge.ftable e58) fun e97=>
   Option.bind (getI v1.fJudge.fgiven.fTables e97) fun e101=>
   bif !decide (e101.fName = r2.fTable) then
     Option.bind (f3 s0 (1 : Int) [t49]) fun s117=>
     some s117
   else
     Option.bind (rng (e58 - first68)) fun t134=>
     bif !decide (t134 = r2.fN) then
       Option.bind (f3 s0 (1 : Int) [t49]) fun s144=>
       some s144
     else
       some s0
def view_reach {σ : Type} (v1 : ruleview) (r2 : apiRule) (f3 : σ→Int→(List Int)→Option σ) (s0 : σ) : Option (σ):=
  none
def view_speak {σ : Type} (v1 : ruleview) (r2 : apiRule) (f3 : σ→Int→(List Int)→Option σ) (s0 : σ) : Option (σ):=
  none
def view_company {σ : Type} (v1 : ruleview) (r2 : apiRule) (f3 : σ→Int→(List Int)→Option σ) (s0 : σ) : Option (σ):=
  none
def view_kitchen {σ : Type} (v1 : ruleview) (r2 : apiRule) (f3 : σ→Int→(List Int)→Option σ) (s0 : σ) : Option (σ):=
  none
def view_alternate {σ : Type} (v1 : ruleview) (r2 : apiRule) (f3 : σ→Int→(List Int)→Option σ) (s0 : σ) : Option (σ):=
  none
def view_mix {σ : Type} (v1 : ruleview) (r2 : apiRule) (f3 : σ→Int→(List Int)→Option σ) (s0 : σ) : Option (σ):=
  none
def view_peace {σ : Type} (v1 : ruleview) (r2 : apiRule) (f3 : σ→Int→(List Int)→Option σ) (s0 : σ) : Option (σ):=
  none
def view_honour {σ : Type} (v1 : ruleview) (r2 : apiRule) (f3 : σ→Int→(List Int)→Option σ) (s0 : σ) : Option (σ):=
  none
def view_host {σ : Type} (v1 : ruleview) (r2 : apiRule) (f3 : σ→Int→(List Int)→Option σ) (s0 : σ) : Option (σ):=
  none
def view_fill {σ : Type} (v1 : ruleview) (r2 : apiRule) (f3 : σ→Int→(List Int)→Option σ) (s0 : σ) : Option (σ):=
  none
def view_limit {σ : Type} (v1 : ruleview) (r2 : apiRule) (f3 : σ→Int→(List Int)→Option σ) (s0 : σ) : Option (σ):=
  none
end Go.Dm
open Go Go.Sl
namespace Go.Dm
def rule_find {σ : Type} (n : Nat) (v : ruleview) (r : apiRule) (f : σ→Int→(List Int)→Option σ) (s : σ) : Option σ:=
  if n = 139 then view_apart v r f s else
  if n = 140 then view_sideBySide v r f s else
  if n = 141 then view_faceToFace v r f s else
  if n = 142 then view_within v r f s else
  if n = 143 then view_together v r f s else
  if n = 144 then view_at v r f s else
  if n = 145 then view_seat v r f s else
  if n = 146 then view_alternate v r f s else
  if n = 147 then view_host v r f s else
  if n = 148 then view_reach v r f s else
  if n = 149 then view_speak v r f s else
  if n = 150 then view_peace v r f s else
  if n = 151 then view_company v r f s else
  if n = 152 then view_honour v r f s else
  if n = 153 then view_fill v r f s else
  if n = 154 then view_limit v r f s else
  if n = 155 then view_kitchen v r f s else
  if n = 156 then view_mix v r f s else
  none
def view_faults_1 (k1 : Int) (u2 : List Int) (t3 : Int) : Option (Int):=
 Option.bind (rng (t3 + k1)) fun t4=>
 some t4
def view_faults (v1 : ruleview) (i2 : Int) : Option (Int):=
 Option.bind (getI v1.fJudge.fgiven.fRules i2) fun e44=>
 Option.bind (lkM v1.fJudge.fkinds e44.fKind (rulekind.mk (⟨#[]⟩ : ByteArray) (0 : Int) false (0 : Int) false (0 : Int) false (0 : Nat))) fun (e47,ok48)=>
 Option.bind (getI v1.fJudge.fgiven.fRules i2) fun e51=>
 Option.bind (rule_find e47.ffind v1 e51 (fun s_ y0 y1=>view_faults_1 y0 y1 s_) (0 : Int)) fun s65=>
 some s65
def view_least_l0 (v1 : ruleview) : (Int×Int)→Option ((Int×Int)⊕Unit):=fun (t24,left25)=>
  bif decide (t24 < (v1.fpart.length : Int)) then
    Option.bind (getI v1.fpart t24) fun e34=>
    bif decide (e34 < (0 : Int)) then
      Option.bind (rng (left25 + (1 : Int))) fun t39=>
      Option.bind (getI v1.fJudge.fgiven.fGuests t24) fun e73=>
      bif e73.fHost then
        none
      else
        Option.bind (rng (t24 + (1 : Int))) fun t79=>
        some (Sum.inl (t79,t39))
    else
      Option.bind (rng (t24 + (1 : Int))) fun t80=>
      some (Sum.inl (t80,left25))
  else
    some (Sum.inr ())
def view_least (v1 : ruleview) (i2 : Int) : Option (Int):=
 Option.bind (view_faults v1 i2) fun t3=>
 Option.bind (
   iter (view_least_l0 v1) FUEL ((0 : Int),(0 : Int))) fun _u=>
 Option.bind (getI v1.fJudge.fgiven.fRules i2) fun e117=>
 bif decide (e117.fKind = (9 : Int)) then
   none
 else
   bif decide (e117.fKind = (15 : Int)) then
     none
   else
     bif decide (e117.fKind = (11 : Int)) then
       none
     else
       some (max t3 (0 : Int))
def rule_kinds  : Option (List (Int×rulekind)):=
 Option.bind (some (mset ([] : List (Int×rulekind)) (1 : Int) (rulekind.mk (⟨#[97,112,97,114,116]⟩ : ByteArray) (103 : Int) true (0 : Int) true (0 : Int) false (139 : Nat)))) fun m5=>
 Option.bind (some (mset m5 (2 : Int) (rulekind.mk (⟨#[98,101,115,105,100,101]⟩ : ByteArray) (103 : Int) true (0 : Int) false (0 : Int) false (140 : Nat)))) fun m9=>
 Option.bind (some (mset m9 (3 : Int) (rulekind.mk (⟨#[97,99,114,111,115,115]⟩ : ByteArray) (103 : Int) true (0 : Int) false (0 : Int) false (141 : Nat)))) fun m13=>
 Option.bind (some (mset m13 (4 : Int) (rulekind.mk (⟨#[110,101,97,114]⟩ : ByteArray) (103 : Int) true (0 : Int) true (1 : Int) false (142 : Nat)))) fun m17=>
 Option.bind (some (mset m17 (5 : Int) (rulekind.mk (⟨#[116,111,103,101,116,104,101,114]⟩ : ByteArray) (103 : Int) true (0 : Int) false (0 : Int) false (143 : Nat)))) fun m21=>
 Option.bind (some (mset m21 (6 : Int) (rulekind.mk (⟨#[97,116]⟩ : ByteArray) (103 : Int) false (116 : Int) false (0 : Int) false (144 : Nat)))) fun m25=>
 Option.bind (some (mset m25 (7 : Int) (rulekind.mk (⟨#[115,101,97,116]⟩ : ByteArray) (103 : Int) false (116 : Int) true (0 : Int) true (145 : Nat)))) fun m29=>
 Option.bind (some (mset m29 (8 : Int) (rulekind.mk (⟨#[97,108,116,101,114,110,97,116,101]⟩ : ByteArray) (0 : Int) false (101 : Int) false (0 : Int) false (146 : Nat)))) fun m33=>
 Option.bind (some (mset m33 (9 : Int) (rulekind.mk (⟨#[104,111,115,116]⟩ : ByteArray) (0 : Int) false (101 : Int) false (0 : Int) false (147 : Nat)))) fun m37=>
 Option.bind (some (mset m37 (10 : Int) (rulekind.mk (⟨#[114,101,97,99,104]⟩ : ByteArray) (101 : Int) false (0 : Int) false (0 : Int) false (148 : Nat)))) fun m41=>
 Option.bind (some (mset m41 (11 : Int) (rulekind.mk (⟨#[115,112,101,97,107]⟩ : ByteArray) (0 : Int) false (101 : Int) false (0 : Int) false (149 : Nat)))) fun m45=>
 Option.bind (some (mset m45 (12 : Int) (rulekind.mk (⟨#[112,101,97,99,101]⟩ : ByteArray) (0 : Int) false (101 : Int) false (0 : Int) false (150 : Nat)))) fun m49=>
 Option.bind (some (mset m49 (13 : Int) (rulekind.mk (⟨#[99,111,109,112,97,110,121]⟩ : ByteArray) (0 : Int) false (101 : Int) false (0 : Int) false (151 : Nat)))) fun m53=>
 Option.bind (some (mset m53 (14 : Int) (rulekind.mk (⟨#[104,111,110,111,117,114]⟩ : ByteArray) (0 : Int) false (101 : Int) false (0 : Int) false (152 : Nat)))) fun m57=>
 Option.bind (some (mset m57 (15 : Int) (rulekind.mk (⟨#[102,105,108,108]⟩ : ByteArray) (0 : Int) false (101 : Int) true (0 : Int) false (153 : Nat)))) fun m61=>
 Option.bind (some (mset m61 (16 : Int) (rulekind.mk (⟨#[108,105,109,105,116]⟩ : ByteArray) (0 : Int) false (101 : Int) true (0 : Int) false (154 : Nat)))) fun m65=>
 Option.bind (some (mset m65 (17 : Int) (rulekind.mk (⟨#[107,105,116,99,104,101,110]⟩ : ByteArray) (100 : Int) false (116 : Int) false (0 : Int) false (155 : Nat)))) fun m69=>
 Option.bind (some (mset m69 (18 : Int) (rulekind.mk (⟨#[109,105,120]⟩ : ByteArray) (0 : Int) false (101 : Int) false (0 : Int) false (156 : Nat)))) fun m73=>
 some m73
def kind_plain_p0 (k1 : rulekind) (r2 : apiRule) : Option (Bool):=
  bif k1.fb then
    bif !decide (k1.ft = (0 : Int)) then
      bif k1.fn then
        some true
      else
        some (decide (r2.fN = (0 : Int)))
    else
      bif decide (r2.fTable = (⟨#[]⟩ : ByteArray)) then
        bif k1.fn then
          some true
        else
          some (decide (r2.fN = (0 : Int)))
      else
        none
  else
    bif decide (r2.fB = (⟨#[]⟩ : ByteArray)) then
      bif !decide (k1.ft = (0 : Int)) then
        bif k1.fn then
          some true
        else
          some (decide (r2.fN = (0 : Int)))
      else
        bif decide (r2.fTable = (⟨#[]⟩ : ByteArray)) then
          bif k1.fn then
            some true
          else
            some (decide (r2.fN = (0 : Int)))
        else
          none
    else
      none
def kind_plain_p1 (k1 : rulekind) (r2 : apiRule) : Option (Bool):=
  bif k1.fb then
    bif !decide (k1.ft = (0 : Int)) then
      bif k1.fn then
        some true
      else
        some (decide (r2.fN = (0 : Int)))
    else
      bif decide (r2.fTable = (⟨#[]⟩ : ByteArray)) then
        bif k1.fn then
          some true
        else
          some (decide (r2.fN = (0 : Int)))
      else
        none
  else
    bif decide (r2.fB = (⟨#[]⟩ : ByteArray)) then
      bif !decide (k1.ft = (0 : Int)) then
        bif k1.fn then
          some true
        else
          some (decide (r2.fN = (0 : Int)))
      else
        bif decide (r2.fTable = (⟨#[]⟩ : ByteArray)) then
          bif k1.fn then
            some true
          else
            some (decide (r2.fN = (0 : Int)))
        else
          none
    else
      none
def kind_plain (k1 : rulekind) (r2 : apiRule) : Option (Bool):=
 bif !decide (k1.fa = (0 : Int)) then
   kind_plain_p0 k1 r2
 else
   bif decide (r2.fA = (⟨#[]⟩ : ByteArray)) then
     kind_plain_p1 k1 r2
   else
     none
def kind_check_p0 (k1 : rulekind) (p2 : apiProblem) (r13 : apiRule) (t115 : Int) (t127 : Bool) : Option (Int):=
  bif t127 then
    none
  else
    Option.bind (
      bif k1.fseat then
        Option.bind (rng (t115 + (1 : Int))) fun t151=>
        Option.bind (sbL p2.fTables t115 t151) fun t153=>
        Option.bind (hall_Count t153) fun t158=>
        Option.bind (rng (t158 - (1 : Int))) fun t166=>
        some t166
      else
        some (24 : Int)) fun most147=>
    bif k1.fn then
      bif decide (r13.fN < k1.flo) then
        none
      else
        bif decide (most147 < r13.fN) then
          none
        else
          some (0 : Int)
    else
      some (0 : Int)
def kind_check_p1 (k1 : rulekind) (p2 : apiProblem) (r13 : apiRule) : Option (Int):=
  Option.bind (hall_Find p2.fTables r13.fTable) fun (t115,t116)=>
  Option.bind (
    bif decide (k1.ft = (116 : Int)) then
      bif !t116 then
        none
      else
        bif decide (k1.ft = (101 : Int)) then
          bif !decide (r13.fTable = (⟨#[]⟩ : ByteArray)) then
            none
          else
            some false
        else
          some false
    else
      bif decide (k1.ft = (101 : Int)) then
        bif !decide (r13.fTable = (⟨#[]⟩ : ByteArray)) then
          none
        else
          some false
      else
        some false) fun t127=>
  kind_check_p0 k1 p2 r13 t115 t127
def kind_check_p2 (k1 : rulekind) (p2 : apiProblem) (r13 : apiRule) : Option (Int):=
  bif decide (k1.fa = (101 : Int)) then
    none
  else
    Option.bind (
      bif k1.fb then
        Option.bind (rule_who p2 r13.fB) fun t84=>
        some (decide (t84 < (0 : Int)))
      else
        some false) fun t73=>
    bif t73 then
      none
    else
      bif decide (k1.fa = (100 : Int)) then
        none
      else
        Option.bind (
          bif k1.fb then
            some (decide (r13.fA = r13.fB))
          else
            some false) fun t101=>
        bif t101 then
          none
        else
          kind_check_p1 k1 p2 r13
def kind_check (k1 : rulekind) (p2 : apiProblem) (r13 : apiRule) : Option (Int):=
 bif decide (k1.fword = (⟨#[]⟩ : ByteArray)) then
   none
 else
   bif decide (r13.fWeight < (0 : Int)) then
     none
   else
     bif decide ((1000 : Int) < r13.fWeight) then
       none
     else
       Option.bind (kind_plain k1 r13) fun t31=>
       bif !t31 then
         none
       else
         Option.bind (
           bif decide (k1.fa = (103 : Int)) then
             Option.bind (rule_who p2 r13.fA) fun t55=>
             some (decide (t55 < (0 : Int)))
           else
             some false) fun t43=>
         bif t43 then
           none
         else
           kind_check_p2 k1 p2 r13
def rule_basis_l0 (p1 : apiProblem) : Int→Option (Int⊕Unit):=fun t61=>
  bif decide (t61 < (p1.fClass.length : Int)) then
    Option.bind (getI p1.fClass t61) fun e70=>
    bif decide (e70 < (0 : Int)) then
      none
    else
      bif decide ((64 : Int)≤e70) then
        none
      else
        Option.bind (rng (t61 + (1 : Int))) fun t76=>
        some (Sum.inl t76)
  else
    some (Sum.inr ())
def rule_basis_p0 (p1 : apiProblem) : Option (Int×Int):=
  Option.bind (guest_CheckRoll (apiRoll.mk p1.fGuests p1.fTies)) fun (t31,t32)=>
  bif !decide (t32 = (0 : Int)) then
    none
  else
    Option.bind (
      bif decide ((0 : Int) < (p1.fClass.length : Int)) then
        some (!decide ((p1.fClass.length : Int) = (p1.fGuests.length : Int)))
      else
        some false) fun t44=>
    bif t44 then
      none
    else
      Option.bind (
        iter (rule_basis_l0 p1) FUEL (0 : Int)) fun _u=>
      Option.bind (hall_Count p1.fTables) fun t85=>
      bif decide (t85 < (p1.fGuests.length : Int)) then
        none
      else
        some ((0 : Int),(0 : Int))
def rule_basis (p1 : apiProblem) : Option (Int×Int):=
 Option.bind (hall_CheckAll p1.fTables) fun (t17,t18)=>
 bif !decide (t18 = (0 : Int)) then
   none
 else
   rule_basis_p0 p1
def rule_Check_l0 (p1 : apiProblem) (t31 : List (Int×rulekind)) : Int→Option (Int⊕Unit):=fun t46=>
  bif decide (t46 < (p1.fRules.length : Int)) then
    Option.bind (getI p1.fRules t46) fun e55=>
    Option.bind (lkM t31 e55.fKind (rulekind.mk (⟨#[]⟩ : ByteArray) (0 : Int) false (0 : Int) false (0 : Int) false (0 : Nat))) fun (e64,ok65)=>
    Option.bind (kind_check e64 p1 e55) fun t77=>
    bif !decide (t77 = (0 : Int)) then
      none
    else
      bif decide (t46 = (64 : Int)) then
        none
      else
        Option.bind (rng (t46 + (1 : Int))) fun t87=>
        some (Sum.inl t87)
  else
    some (Sum.inr ())
def rule_Check (p1 : apiProblem) : Option (Int×Int):=
 Option.bind (rule_basis p1) fun (t21,t22)=>
 bif !decide (t22 = (0 : Int)) then
   none
 else
   Option.bind (rule_kinds) fun t31=>
   Option.bind (
     iter (rule_Check_l0 p1 t31) FUEL (0 : Int)) fun _u=>
   some ((0 : Int),(0 : Int))
def rule_New_1 (k1 : Int) (t2 : apiProblem) (t13 : Int) : Option (Bool):=
 Option.bind (hall_Beside t2.fTables t13 k1) fun t14=>
 some t14
def rule_New_2 (k1 : Int) (t2 : apiProblem) (t13 : Int) : Option (Bool):=
 Option.bind (hall_Across t2.fTables t13 k1) fun t14=>
 some t14
def Judge_walk_p0 (e129 : List Int) (t148 : Int) (out149 : List (Int×Int)) (line154 : List Int) : Option ((Int×(List (Int×Int))×(List Int))⊕((List (Int×Int))×(List Int))):=
  Option.bind (getI e129 t148) fun e167=>
  Option.bind (lkM out149 e167 (0 : Int)) fun (e171,ok172)=>
  bif !ok172 then
    Option.bind (getI line154 (0 : Int)) fun e176=>
    Option.bind (lkM out149 e176 (0 : Int)) fun (e179,ok180)=>
    Option.bind (rng (e179 + (1 : Int))) fun t183=>
    Option.bind (some (mset out149 e167 t183)) fun m185=>
    Option.bind (apL line154 [e167]) fun t191=>
    Option.bind (rng (t148 + (1 : Int))) fun t197=>
    some (Sum.inl (t197,m185,t191))
  else
    Option.bind (rng (t148 + (1 : Int))) fun t198=>
    some (Sum.inl (t198,out149,line154))
def Judge_walk_l2 (e129 : List Int) : (Int×(List (Int×Int))×(List Int))→Option ((Int×(List (Int×Int))×(List Int))⊕((List (Int×Int))×(List Int))):=fun (t148,out149,line154)=>
  bif decide (t148 < (e129.length : Int)) then
    Judge_walk_p0 e129 t148 out149 line154
  else
    some (Sum.inr (out149,line154))
def Judge_walk_l1 (e74 : List Int) (e82 : List Int) : (Int×(List (Int×Int))×(List Int))→Option ((Int×(List (Int×Int))×(List Int))⊕((List (Int×Int))×(List Int))):=fun (t110,out111,line116)=>
  bif decide (t110 < ([e74,e82].length : Int)) then
    Option.bind (getI [e74,e82] t110) fun e129=>
    Option.bind (
      iter (Judge_walk_l2 e129) FUEL ((0 : Int),out111,line116)) fun (out138,line143)=>
    Option.bind (rng (t110 + (1 : Int))) fun t202=>
    some (Sum.inl (t202,out138,line143))
  else
    some (Sum.inr (out111,line116))
def Judge_walk_l0 (j1 : ruleJudge) : ((List (Int×Int))×(List Int))→Option (((List (Int×Int))×(List Int))⊕(List (Int×Int))):=fun (out21,line26)=>
  bif decide ((0 : Int) < (line26.length : Int)) then
    Option.bind (getI line26 (0 : Int)) fun e71=>
    Option.bind (getI j1.fbeside e71) fun e74=>
    Option.bind (getI line26 (0 : Int)) fun e79=>
    Option.bind (getI j1.facross e79) fun e82=>
    Option.bind (
      iter (Judge_walk_l1 e74 e82) FUEL ((0 : Int),out21,line26)) fun (out98,line103)=>
    Option.bind (sbL line103 (1 : Int) (line103.length : Int)) fun t207=>
    some (Sum.inl (out98,t207))
  else
    some (Sum.inr out21)
def Judge_walk (j1 : ruleJudge) (from2 : Int) : Option (List (Int×Int)):=
 Option.bind (some (mset ([] : List (Int×Int)) from2 (0 : Int))) fun m7=>
 Option.bind (
   iter (Judge_walk_l0 j1) FUEL (m7,[from2])) fun out16=>
 some out16
def Judge_none (j1 : ruleJudge) : Option (Bool):=
 some false
def rule_New_p0 (p1 : apiProblem) (t131 : Int) (t142 : Int) (t158 : Int) (table201 : List Int) (level206 : List Int) (open211 : List Bool) (beside216 : List (List Int)) (across221 : List (List Int)) (s226 : Int) : Option (((List Int)×(List Int)×(List Bool)×(List (List Int))×(List (List Int))×Int)⊕((List Int)×(List Int)×(List Bool)×(List (List Int))×(List (List Int)))):=
  Option.bind (apL table201 [t131]) fun t240=>
  Option.bind (hall_Level p1.fTables s226) fun t251=>
  Option.bind (apL level206 [t251]) fun t262=>
  Option.bind (hall_Open p1.fTables s226) fun t273=>
  Option.bind (apL open211 [t273]) fun t284=>
  Option.bind (rule_seats t142 t158 (fun y0=>rule_New_1 y0 p1 s226)) fun t311=>
  Option.bind (apL beside216 [t311]) fun t330=>
  Option.bind (rule_seats t142 t158 (fun y0=>rule_New_2 y0 p1 s226)) fun t354=>
  Option.bind (apL across221 [t354]) fun t373=>
  Option.bind (rng (s226 + (1 : Int))) fun t386=>
  some (Sum.inl (t240,t262,t284,t330,t373,t386))
def rule_New_l1 (p1 : apiProblem) (t131 : Int) (t142 : Int) (t158 : Int) : ((List Int)×(List Int)×(List Bool)×(List (List Int))×(List (List Int))×Int)→Option (((List Int)×(List Int)×(List Bool)×(List (List Int))×(List (List Int))×Int)⊕((List Int)×(List Int)×(List Bool)×(List (List Int))×(List (List Int)))):=fun (table201,level206,open211,beside216,across221,s226)=>
  Option.bind (rng (t142 + t158)) fun t235=>
  bif decide (s226 < t235) then
    rule_New_p0 p1 t131 t142 t158 table201 level206 open211 beside216 across221 s226
  else
    some (Sum.inr (table201,level206,open211,beside216,across221))
def rule_New_l0 (p1 : apiProblem) : ((List Int)×(List Int)×(List Bool)×(List (List Int))×(List (List Int))×Int)→Option (((List Int)×(List Int)×(List Bool)×(List (List Int))×(List (List Int))×Int)⊕((List Int)×(List Int)×(List Bool)×(List (List Int))×(List (List Int)))):=fun (table106,level111,open116,beside121,across126,t131)=>
  bif decide (t131 < (p1.fTables.length : Int)) then
    Option.bind (hall_First p1.fTables t131) fun t142=>
    Option.bind (rng (t131 + (1 : Int))) fun t151=>
    Option.bind (sbL p1.fTables t131 t151) fun t153=>
    Option.bind (hall_Count t153) fun t158=>
    Option.bind (
      iter (rule_New_l1 p1 t131 t142 t158) FUEL (table106,level111,open116,beside121,across126,t142)) fun (table170,level175,open180,beside185,across190)=>
    Option.bind (rng (t131 + (1 : Int))) fun t397=>
    some (Sum.inl (table170,level175,open180,beside185,across190,t397))
  else
    some (Sum.inr (table106,level111,open116,beside121,across126))
def rule_New_l2 (t37 : apiProblem) (t55 : List (Int×rulekind)) (table71 : List Int) (level76 : List Int) (open81 : List Bool) (beside86 : List (List Int)) (across91 : List (List Int)) : ((List (List (Int×Int)))×Int)→Option (((List (List (Int×Int)))×Int)⊕(List (List (Int×Int)))):=fun (steps412,t417)=>
  bif decide (t417 < (table71.length : Int)) then
    Option.bind (Judge_walk (ruleJudge.mk t37 t55 table71 level76 open81 beside86 across91 steps412 ([] : List (List Bool)) ([] : List (List Int))) t417) fun t447=>
    Option.bind (apL steps412 [t447]) fun t502=>
    Option.bind (rng (t417 + (1 : Int))) fun t512=>
    some (Sum.inl (t502,t512))
  else
    some (Sum.inr steps412)
def rule_New_l4 (p1 : apiProblem) (t522 : guestBook) (e572 : apiGuest) : (Int×(List Bool)×(List Int))→Option ((Int×(List Bool)×(List Int))⊕((List Bool)×(List Int))):=fun (t603,c604,k609)=>
  bif decide (t603 < (p1.fGuests.length : Int)) then
    Option.bind (getI p1.fGuests t603) fun e622=>
    Option.bind (Book_Common t522 e572.fName e622.fName) fun t637=>
    Option.bind (apL c604 [decide ((0 : Int) < (t637.length : Int))]) fun t651=>
    Option.bind (Book_Tied t522 e572.fName e622.fName) fun (t662,t663)=>
    Option.bind (apL k609 [t662]) fun t674=>
    Option.bind (rng (t603 + (1 : Int))) fun t682=>
    some (Sum.inl (t682,t651,t674))
  else
    some (Sum.inr (c604,k609))
def rule_New_l3 (p1 : apiProblem) (t522 : guestBook) : ((List (List Bool))×(List (List Int))×Int)→Option (((List (List Bool))×(List (List Int))×Int)⊕((List (List Bool))×(List (List Int)))):=fun (common553,ties558,t563)=>
  bif decide (t563 < (p1.fGuests.length : Int)) then
    Option.bind (getI p1.fGuests t563) fun e572=>
    Option.bind (
      iter (rule_New_l4 p1 t522 e572) FUEL ((0 : Int),([] : List Bool),([] : List Int))) fun (c589,k594)=>
    Option.bind (apL common553 [c589]) fun t703=>
    Option.bind (apL ties558 [k594]) fun t714=>
    Option.bind (rng (t563 + (1 : Int))) fun t725=>
    some (Sum.inl (t703,t714,t725))
  else
    some (Sum.inr (common553,ties558))
def rule_New_p1 (p1 : apiProblem) : Option (ruleJudge×Int×Int):=
  Option.bind (rule_copied p1) fun t37=>
  Option.bind (rule_kinds) fun t55=>
  Option.bind (
    iter (rule_New_l0 p1) FUEL (([] : List Int),([] : List Int),([] : List Bool),([] : List (List Int)),([] : List (List Int)),(0 : Int))) fun (table71,level76,open81,beside86,across91)=>
  Option.bind (
    iter (rule_New_l2 t37 t55 table71 level76 open81 beside86 across91) FUEL (([] : List (List (Int×Int))),(0 : Int))) fun steps405=>
  Option.bind (guest_Load (apiRoll.mk p1.fGuests p1.fTies)) fun (t522,t523,t524)=>
  Option.bind (
    iter (rule_New_l3 p1 t522) FUEL (([] : List (List Bool)),([] : List (List Int)),(0 : Int))) fun (common539,ties544)=>
  some ((ruleJudge.mk t37 t55 table71 level76 open81 beside86 across91 steps405 common539 ties544),(0 : Int),(0 : Int))
def rule_New (p1 : apiProblem) : Option (ruleJudge×Int×Int):=
 Option.bind (rule_Check p1) fun (t21,t22)=>
 bif !decide (t22 = (0 : Int)) then
   none
 else
   rule_New_p1 p1
def Judge_Problem (j1 : ruleJudge) : Option (apiProblem):=
 Option.bind (Judge_none j1) fun t3=>
 bif t3 then
   none
 else
   Option.bind (rule_copied j1.fgiven) fun t44=>
   some t44
def Judge_look_p0 (guest78 : List Int) (t83 : Int) (e92 : Int) : Option (((List Int)×Int)⊕(List Int)):=
  bif decide ((0 : Int)≤e92) then
    Option.bind (getI guest78 e92) fun e102=>
    bif decide ((0 : Int)≤e102) then
      none
    else
      bif decide ((0 : Int)≤e92) then
        Option.bind (getI guest78 e92) fun e107=>
        Option.bind (some (List.set guest78 e92.toNat t83)) fun l110=>
        Option.bind (rng (t83 + (1 : Int))) fun t113=>
        some (Sum.inl (l110,t113))
      else
        Option.bind (rng (t83 + (1 : Int))) fun t114=>
        some (Sum.inl (guest78,t114))
  else
    bif decide ((0 : Int)≤e92) then
      Option.bind (getI guest78 e92) fun e116=>
      Option.bind (some (List.set guest78 e92.toNat t83)) fun l119=>
      Option.bind (rng (t83 + (1 : Int))) fun t122=>
      some (Sum.inl (l119,t122))
    else
      Option.bind (rng (t83 + (1 : Int))) fun t123=>
      some (Sum.inl (guest78,t123))
def Judge_look_l0 (j1 : ruleJudge) (part2 : List Int) : ((List Int)×Int)→Option (((List Int)×Int)⊕(List Int)):=fun (guest78,t83)=>
  bif decide (t83 < (part2.length : Int)) then
    Option.bind (getI part2 t83) fun e92=>
    bif decide (e92 < (-1 : Int)) then
      none
    else
      bif decide ((j1.ftable.length : Int)≤e92) then
        none
      else
        Judge_look_p0 guest78 t83 e92
  else
    some (Sum.inr guest78)
def Judge_look (j1 : ruleJudge) (part2 : List Int) : Option (ruleview):=
 Option.bind (Judge_none j1) fun t3=>
 bif t3 then
   none
 else
   bif !decide ((part2.length : Int) = (j1.fgiven.fGuests.length : Int)) then
     none
   else
     Option.bind (sl_Repeat [(-1 : Int)] (j1.ftable.length : Int)) fun t54=>
     Option.bind (
       iter (Judge_look_l0 j1 part2) FUEL (t54,(0 : Int))) fun guest73=>
     some (ruleview.mk j1 part2 guest73)
def Judge_Least (j1 : ruleJudge) (part2 : List Int) (i3 : Int) : Option (Int):=
 Option.bind (Judge_look j1 part2) fun t4=>
 bif decide (i3 < (0 : Int)) then
   none
 else
   bif decide ((t4.fJudge.fgiven.fRules.length : Int)≤i3) then
     none
   else
     Option.bind (view_least t4 i3) fun t55=>
     some t55
def Judge_sum_l0 (count3 : ruleview→Int→Option Int) (t4 : ruleview) : (Int×Int)→Option ((Int×Int)⊕Int):=fun (t57,n58)=>
  bif decide (t57 < (t4.fJudge.fgiven.fRules.length : Int)) then
    Option.bind (getI t4.fJudge.fgiven.fRules t57) fun e67=>
    bif decide ((0 : Int) < e67.fWeight) then
      Option.bind (count3 t4 t57) fun t96=>
      Option.bind (rng (e67.fWeight * t96)) fun t111=>
      Option.bind (rng (n58 + t111)) fun t112=>
      Option.bind (rng (t57 + (1 : Int))) fun t113=>
      some (Sum.inl (t113,t112))
    else
      Option.bind (rng (t57 + (1 : Int))) fun t115=>
      some (Sum.inl (t115,n58))
  else
    some (Sum.inr n58)
def Judge_sum (j1 : ruleJudge) (part2 : List Int) (count3 : ruleview→Int→Option Int) : Option (Int):=
 Option.bind (Judge_look j1 part2) fun t4=>
 Option.bind (
   iter (Judge_sum_l0 count3 t4) FUEL ((0 : Int),(0 : Int))) fun n56=>
 some n56
def Judge_Floor (j1 : ruleJudge) (part2 : List Int) : Option (Int):=
 Option.bind (Judge_sum j1 part2 view_least) fun t12=>
 some t12
def Judge_Dead_l0 (t3 : ruleview) : Int→Option (Int⊕(Unit⊕(Int×Bool))):=fun t55=>
  bif decide (t55 < (t3.fJudge.fgiven.fRules.length : Int)) then
    Option.bind (getI t3.fJudge.fgiven.fRules t55) fun e64=>
    bif decide (e64.fWeight = (0 : Int)) then
      Option.bind (view_least t3 t55) fun t93=>
      bif decide ((0 : Int) < t93) then
        some (Sum.inr (Sum.inr (t55,true)))
      else
        Option.bind (rng (t55 + (1 : Int))) fun t103=>
        some (Sum.inl t103)
    else
      Option.bind (rng (t55 + (1 : Int))) fun t105=>
      some (Sum.inl t105)
  else
    some (Sum.inr (Sum.inl ()))
def Judge_Dead (j1 : ruleJudge) (part2 : List Int) : Option (Int×Bool):=
 Option.bind (Judge_look j1 part2) fun t3=>
 Option.bind (
   iter (Judge_Dead_l0 t3) FUEL (0 : Int)) fun o52=>match o52 with
 | .inl _u=>
   some ((0 : Int),false)
 | .inr p=>
   some p
def Judge_Cost (j1 : ruleJudge) (part2 : List Int) : Option (Int):=
 Option.bind (Judge_sum j1 part2 view_faults) fun t12=>
 some t12
def rule_Pinned_p0 (p1 : apiProblem) (t12 : Int) (t47 : Int) (out48 : List Int) : Option ((Int×(List Int))⊕(List Int)):=
  Option.bind (getI p1.fRules t47) fun e61=>
  Option.bind (
    bif decide (e61.fKind = (7 : Int)) then
      Option.bind (getI p1.fTables t12) fun e77=>
      some (decide (e61.fTable = e77.fName))
    else
      some false) fun t73=>
  bif t73 then
    Option.bind (hall_First p1.fTables t12) fun t91=>
    Option.bind (rng (t91 + e61.fN)) fun t99=>
    Option.bind (apL out48 [t99]) fun t103=>
    Option.bind (rng (t47 + (1 : Int))) fun t111=>
    some (Sum.inl (t111,t103))
  else
    bif decide (e61.fKind = (14 : Int)) then
      none
    else
      Option.bind (rng (t47 + (1 : Int))) fun t115=>
      some (Sum.inl (t115,out48))
def rule_Pinned_l0 (p1 : apiProblem) (t12 : Int) : (Int×(List Int))→Option ((Int×(List Int))⊕(List Int)):=fun (t47,out48)=>
  bif decide (t47 < (p1.fRules.length : Int)) then
    rule_Pinned_p0 p1 t12 t47 out48
  else
    some (Sum.inr out48)
def rule_Pinned (p1 : apiProblem) (t12 : Int) : Option (List Int):=
 Option.bind (rule_Check p1) fun (t22,t23)=>
 bif !decide (t23 = (0 : Int)) then
   none
 else
   bif decide (t12 < (0 : Int)) then
     none
   else
     bif decide ((p1.fTables.length : Int)≤t12) then
       none
     else
       Option.bind (
         iter (rule_Pinned_l0 p1 t12) FUEL ((0 : Int),([] : List Int))) fun out40=>
       Option.bind (sl_SortInt out40) fun l122=>
       Option.bind (sl_CompactInt l122) fun t133=>
       some t133
end Go.Dm
open Go Go.Sl
namespace Go.Dm
def hall_Stay_1 (k1 : Int) (t2 : apiTable) : Option (Bool):=
 bif decide (k1 < (0 : Int)) then
   none
 else
   Option.bind (hall_size t2) fun t6=>
   some (decide (t6≤k1))
def hall_Stay_2 (k1 : Int) (t2 : List Int) : Option (Bool):=
 Option.bind (getI t2 k1) fun e5=>
 some (!decide (e5 = k1))
def hall_keeps_p0 (t1 : apiTable) (p4 : List Int) (t13 : Int) (t50 : Int) : Option (Int⊕Unit):=
  Option.bind (getI p4 t13) fun e61=>
  Option.bind (getI p4 t50) fun e65=>
  Option.bind (hall_beside t1 t13 t50) fun t70=>
  Option.bind (hall_beside t1 e61 e65) fun t79=>
  bif !(t70 == t79) then
    none
  else
    Option.bind (getI p4 t13) fun e90=>
    Option.bind (getI p4 t50) fun e94=>
    Option.bind (hall_across t1 t13 t50) fun t98=>
    Option.bind (hall_across t1 e90 e94) fun t107=>
    bif !(t98 == t107) then
      none
    else
      Option.bind (rng (t50 + (1 : Int))) fun t116=>
      some (Sum.inl t116)
def hall_keeps_l1 (t1 : apiTable) (p4 : List Int) (t13 : Int) : Int→Option (Int⊕Unit):=fun t50=>
  bif decide (t50 < t13) then
    hall_keeps_p0 t1 p4 t13 t50
  else
    some (Sum.inr ())
def hall_keeps_l0 (t1 : apiTable) (p4 : List Int) : Int→Option (Int⊕Unit):=fun t13=>
  bif decide (t13 < (p4.length : Int)) then
    Option.bind (getI p4 t13) fun e23=>
    Option.bind (sl_ContainsInt t1.fOpen t13) fun t29=>
    Option.bind (sl_ContainsInt t1.fOpen e23) fun t38=>
    bif !(t29 == t38) then
      none
    else
      Option.bind (
        iter (hall_keeps_l1 t1 p4 t13) FUEL (0 : Int)) fun _u=>
      Option.bind (rng (t13 + (1 : Int))) fun t121=>
      some (Sum.inl t121)
  else
    some (Sum.inr ())
def hall_keeps (t1 : apiTable) (p4 : List Int) : Option (Bool):=
 Option.bind (
   iter (hall_keeps_l0 t1 p4) FUEL (0 : Int)) fun _u=>
 some true
def hall_candidates_1_l1 (e78 : Int→Option Int) (t89 : List Int) : (Int×(List Int))→Option ((Int×(List Int))⊕(List Int)):=fun (t98,p99)=>
  bif decide (t98 < (t89.length : Int)) then
    Option.bind (e78 t98) fun t112=>
    Option.bind (getI p99 t98) fun e126=>
    Option.bind (some (List.set p99 t98.toNat t112)) fun l130=>
    Option.bind (rng (t98 + (1 : Int))) fun t133=>
    some (Sum.inl (t133,l130))
  else
    some (Sum.inr p99)
def hall_candidates_1_l0 {σ : Type} (yield1 : σ→(List Int)→Option (σ×Bool)) (t32 : Int) (t42 : List (Int→Option Int)) : (σ×Int)→Option ((σ×Int)⊕σ):=fun (s66,t69)=>
  bif decide (t69 < (t42.length : Int)) then
    Option.bind (getI t42 t69) fun e78=>
    Option.bind (mkL t32 (0 : Int)) fun t89=>
    Option.bind (
      iter (hall_candidates_1_l1 e78 t89) FUEL ((0 : Int),t89)) fun p93=>
    Option.bind (yield1 s66 p93) fun (s143,t145)=>
    bif !t145 then
      none
    else
      Option.bind (rng (t69 + (1 : Int))) fun t162=>
      some (Sum.inl (s143,t162))
  else
    some (Sum.inr s66)
def hall_candidates_1 {σ : Type} (yield1 : σ→(List Int)→Option (σ×Bool)) (s0 : σ) (t2 : apiTable) : Option (σ):=
 Option.bind (hall_layoutOf t2.fShape) fun (t5,t6)=>
 Option.bind (hall_size t2) fun t32=>
 Option.bind (t5.fmoves t2.fA t2.fB) fun t42=>
 Option.bind (
   iter (hall_candidates_1_l0 yield1 t32 t42) FUEL (s0,(0 : Int))) fun s61=>
 some s61
def hall_candidates (t1 : apiTable) : Option (apiTable):=
 some t1
def hall_Stay_l0 (t1 : apiTable) (seats4 : List Int) : ((List (List Int))⊕Unit)→(List Int)→Option (((List (List Int))⊕Unit)×Bool):=fun o_ x84=>
  match o_ with
  | .inl c66=>
    Option.bind (hall_keeps t1 x84) fun t98=>
    bif t98 then
      Option.bind (sl_ContainsFuncInt seats4 (fun y0=>hall_Stay_2 y0 x84)) fun t118=>
      bif !t118 then
        Option.bind (apL c66 [x84]) fun t132=>
        some (Sum.inl t132,true)
      else
        some (Sum.inl c66,true)
    else
      none
  | .inr _=>none
def hall_Stay (t1 : apiTable) (seats4 : List Int) : Option (List (List Int)):=
 Option.bind (hall_Check t1) fun t17=>
 bif !decide (t17 = (0 : Int)) then
   none
 else
   Option.bind (sl_ContainsFuncInt seats4 (fun y0=>hall_Stay_1 y0 t1)) fun t37=>
   bif t37 then
     none
   else
     Option.bind (hall_candidates t1) fun t49=>
     Option.bind (hall_candidates_1 (hall_Stay_l0 t1 seats4) (Sum.inl ([] : List (List Int))) t49) fun o61=>match o61 with
     | .inl c66=>
       Option.bind (sl_SortFuncInts c66 sl_CompareInt) fun l159=>
       Option.bind (sl_CompactFuncInts l159 sl_EqualInt) fun t181=>
       some t181
     | .inr _=>none
end Go.Dm
open Go Go.Sl
namespace Go.Dm
def plan_group_l0 (p1 : apiProblem) (t12 : Int) (t22 : List Int) : (Int×(List Int))→Option ((Int×(List Int))⊕(List Int)):=fun (t43,pinned44)=>
  bif decide (t43 < (t22.length : Int)) then
    Option.bind (getI t22 t43) fun e57=>
    Option.bind (hall_First p1.fTables t12) fun t64=>
    Option.bind (rng (e57 - t64)) fun t72=>
    Option.bind (apL pinned44 [t72]) fun t76=>
    Option.bind (rng (t43 + (1 : Int))) fun t83=>
    some (Sum.inl (t83,t76))
  else
    some (Sum.inr pinned44)
def plan_group (p1 : apiProblem) (t12 : Int) : Option (List (List Int)):=
 Option.bind (rule_Pinned p1 t12) fun t22=>
 Option.bind (
   iter (plan_group_l0 p1 t12 t22) FUEL ((0 : Int),([] : List Int))) fun pinned36=>
 Option.bind (getI p1.fTables t12) fun e90=>
 Option.bind (hall_Stay e90 pinned36) fun t102=>
 some t102
def plan_Group (p1 : apiProblem) (t12 : Int) : Option (List (List Int)):=
 Option.bind (rule_Check p1) fun (t22,t23)=>
 bif !decide (t23 = (0 : Int)) then
   none
 else
   bif decide (t12 < (0 : Int)) then
     none
   else
     bif decide ((p1.fTables.length : Int)≤t12) then
       none
     else
       Option.bind (plan_group p1 t12) fun t40=>
       some t40
def plan_check_p0 (t40 : Int) (taken41 : List Bool) (e54 : Int) : Option ((Int×(List Bool))⊕Unit):=
  bif decide ((0 : Int)≤e54) then
    Option.bind (getI taken41 e54) fun e70=>
    bif e70 then
      none
    else
      bif decide ((0 : Int)≤e54) then
        Option.bind (getI taken41 e54) fun e76=>
        Option.bind (some (List.set taken41 e54.toNat true)) fun l79=>
        Option.bind (rng (t40 + (1 : Int))) fun t82=>
        some (Sum.inl (t82,l79))
      else
        Option.bind (rng (t40 + (1 : Int))) fun t84=>
        some (Sum.inl (t84,taken41))
  else
    bif decide ((0 : Int)≤e54) then
      Option.bind (getI taken41 e54) fun e87=>
      Option.bind (some (List.set taken41 e54.toNat true)) fun l91=>
      Option.bind (rng (t40 + (1 : Int))) fun t94=>
      some (Sum.inl (t94,l91))
    else
      Option.bind (rng (t40 + (1 : Int))) fun t96=>
      some (Sum.inl (t96,taken41))
def plan_check_l0 (part12 : List Int) (whole13 : Bool) (t22 : Int) : (Int×(List Bool))→Option ((Int×(List Bool))⊕Unit):=fun (t40,taken41)=>
  bif decide (t40 < (part12.length : Int)) then
    Option.bind (getI part12 t40) fun e54=>
    Option.bind (
      bif decide (e54 = (-1 : Int)) then
        some whole13
      else
        some false) fun t61=>
    bif t61 then
      none
    else
      bif decide (e54 < (-1 : Int)) then
        none
      else
        bif decide (t22≤e54) then
          none
        else
          plan_check_p0 t40 taken41 e54
  else
    some (Sum.inr ())
def plan_check (p1 : apiProblem) (part12 : List Int) (whole13 : Bool) : Option (Int×Int):=
 bif !decide ((part12.length : Int) = (p1.fGuests.length : Int)) then
   none
 else
   Option.bind (hall_Count p1.fTables) fun t22=>
   Option.bind (mkL t22 false) fun t35=>
   Option.bind (
     iter (plan_check_l0 part12 whole13 t22) FUEL ((0 : Int),t35)) fun _u=>
   some ((0 : Int),(0 : Int))
def plan_checked (p1 : apiProblem) (part12 : List Int) (whole13 : Bool) : Option (Int×Int):=
 Option.bind (rule_Check p1) fun (t23,t24)=>
 bif !decide (t24 = (0 : Int)) then
   none
 else
   Option.bind (plan_check p1 part12 whole13) fun (t41,t42)=>
   some (t41,t42)
def plan_CheckPart (p1 : apiProblem) (part12 : List Int) : Option (Int×Int):=
 Option.bind (plan_checked p1 part12 false) fun (t23,t24)=>
 some (t23,t24)
end Go.Dm
open Go Go.Sl
namespace Go.Dm
def search_open_l0 (p1 : apiProblem) : ((List Int)×(List Int)×(List (List (List Int)))×Int)→Option (((List Int)×(List Int)×(List (List (List Int)))×Int)⊕((List Int)×(List Int)×(List (List (List Int))))):=fun (table81,first86,groups91,t96)=>
  bif decide (t96 < (p1.fTables.length : Int)) then
    Option.bind (apL first86 [(table81.length : Int)]) fun t108=>
    Option.bind (
      Option.bind (getI p1.fTables t96) fun e125=>
      Option.bind (hall_Seats e125) fun t134=>
      Option.bind (sl_Repeat [t96] t134) fun t148=>
      Option.bind (apL table81 t148) fun t160=>
      some t160) fun table119=>
    Option.bind (plan_Group p1 t96) fun t221=>
    Option.bind (apL groups91 [t221]) fun t240=>
    Option.bind (rng (t96 + (1 : Int))) fun t250=>
    some (Sum.inl (table119,t108,t240,t250))
  else
    some (Sum.inr (table81,first86,groups91))
def search_open (p1 : apiProblem) : Option (searchhunt×Int×Int):=
 Option.bind (rule_New p1) fun (t21,t22,t23)=>
 bif !decide (t23 = (0 : Int)) then
   none
 else
   Option.bind (Judge_Problem t21) fun t34=>
   Option.bind (
     iter (search_open_l0 p1) FUEL (([] : List Int),([] : List Int),([] : List (List (List Int))),(0 : Int))) fun (table60,first65,groups70)=>
   some ((searchhunt.mk t21 t34 table60 first65 groups70),(0 : Int),(0 : Int))
def search_work_l0 (free1 : Int) (guests2 : Int) : (Int×Int)→Option ((Int×Int)⊕Int):=fun (n7,t8)=>
  bif decide (t8 < guests2) then
    Option.bind (rng (free1 - t8)) fun t17=>
    Option.bind (rng (n7 * t17)) fun t18=>
    bif decide ((20000 : Int) < t18) then
      none
    else
      Option.bind (rng (t8 + (1 : Int))) fun t20=>
      some (Sum.inl (t18,t20))
  else
    some (Sum.inr n7)
def search_work (free1 : Int) (guests2 : Int) : Option (Int):=
 Option.bind (
   iter (search_work_l0 free1 guests2) FUEL ((1 : Int),(0 : Int))) fun n6=>
 some n6
def search_begin (p1 : apiProblem) : Option (searchhunt×Int):=
 Option.bind (search_open p1) fun (t21,t22,t23)=>
 bif !decide (t23 = (0 : Int)) then
   none
 else
   Option.bind (search_work (t21.ftable.length : Int) (p1.fGuests.length : Int)) fun t57=>
   bif decide ((20000 : Int) < t57) then
     none
   else
     some (t21,(0 : Int))
def hunt_nobody (h1 : searchhunt) : Option (List Int):=
 Option.bind (sl_Repeat [(-1 : Int)] (h1.fp.fGuests.length : Int)) fun t31=>
 some t31
def hunt_turns_p0 (h1 : searchhunt) (e29 : Int) (e44 : List Int) (e49 : Int) (t55 : Int) (e64 : Int) : Option (Int⊕Unit):=
  bif decide ((0 : Int)≤e64) then
    Option.bind (getI h1.ftable e64) fun e71=>
    bif decide (e71 = e29) then
      Option.bind (rng (e64 - e49)) fun t76=>
      Option.bind (getI e44 t76) fun e77=>
      Option.bind (rng (e64 - e49)) fun t81=>
      bif !decide (e77 = t81) then
        none
      else
        Option.bind (rng (t55 + (1 : Int))) fun t83=>
        some (Sum.inl t83)
    else
      Option.bind (rng (t55 + (1 : Int))) fun t84=>
      some (Sum.inl t84)
  else
    Option.bind (rng (t55 + (1 : Int))) fun t85=>
    some (Sum.inl t85)
def hunt_turns_l0 (h1 : searchhunt) (part2 : List Int) (g3 : Int) (e29 : Int) (e44 : List Int) (e49 : Int) : Int→Option (Int⊕Unit):=fun t55=>
  bif decide (t55 < (part2.length : Int)) then
    Option.bind (getI part2 t55) fun e64=>
    bif !decide (t55 = g3) then
      hunt_turns_p0 h1 e29 e44 e49 t55 e64
    else
      Option.bind (rng (t55 + (1 : Int))) fun t86=>
      some (Sum.inl t86)
  else
    some (Sum.inr ())
def hunt_turns_p1 (h1 : searchhunt) (part2 : List Int) (g3 : Int) (k4 : Int) (e29 : Int) : Option (Bool):=
  Option.bind (getI h1.fgroups e29) fun e33=>
  bif decide ((e33.length : Int)≤k4) then
    none
  else
    Option.bind (getI h1.fgroups e29) fun e39=>
    Option.bind (getI e39 k4) fun e44=>
    Option.bind (getI h1.ffirst e29) fun e49=>
    Option.bind (
      iter (hunt_turns_l0 h1 part2 g3 e29 e44 e49) FUEL (0 : Int)) fun _u=>
    Option.bind (getI part2 g3) fun e90=>
    Option.bind (rng (e90 - e49)) fun t94=>
    Option.bind (getI e44 t94) fun e95=>
    Option.bind (getI part2 g3) fun e99=>
    Option.bind (rng (e99 - e49)) fun t102=>
    some (decide (e95 < t102))
def hunt_turns (h1 : searchhunt) (part2 : List Int) (g3 : Int) (k4 : Int) : Option (Bool):=
 Option.bind (getI part2 g3) fun e26=>
 Option.bind (getI h1.ftable e26) fun e29=>
 bif decide (k4 < (0 : Int)) then
   none
 else
   hunt_turns_p1 h1 part2 g3 k4 e29
end Go.Dm
open Go Go.Sl
namespace Go.Dm
def reader_node_p0 (self : searchreader→Int→Option ((Int×(List Int))⊕searchwrong)) (r1 : searchreader) (e5 : apiStep) (at53 : Int) (part54 : List Int) (t59 : Int) : Option ((Int×(List Int)×Int)⊕((Int×(List Int))⊕searchwrong)):=
  Option.bind (sl_ContainsInt part54 t59) fun t71=>
  bif !t71 then
    Option.bind (getI part54 e5.fN) fun e84=>
    Option.bind (some (List.set part54 e5.fN.toNat t59)) fun l88=>
    Option.bind (self (searchreader.mk r1.fhunt r1.fbound r1.fsteps at53 l88) e5.fN) fun o105=>match o105 with
    | .inr w106=>
      none
    | .inl q103=>
    Option.bind (getI q103.2 e5.fN) fun e120=>
    Option.bind (some (List.set q103.2 e5.fN.toNat (-1 : Int))) fun l123=>
    Option.bind (rng (t59 + (1 : Int))) fun t126=>
    some (Sum.inl (q103.1,l123,t126))
  else
    Option.bind (rng (t59 + (1 : Int))) fun t128=>
    some (Sum.inl (at53,part54,t128))
def reader_node_l0 (self : searchreader→Int→Option ((Int×(List Int))⊕searchwrong)) (r1 : searchreader) (e5 : apiStep) : (Int×(List Int)×Int)→Option ((Int×(List Int)×Int)⊕((Int×(List Int))⊕searchwrong)):=fun (at53,part54,t59)=>
  bif decide (t59 < (r1.fhunt.ftable.length : Int)) then
    reader_node_p0 self r1 e5 at53 part54 t59
  else
    some (Sum.inr (Sum.inl (at53,part54)))
def reader_node_p1 (self : searchreader→Int→Option ((Int×(List Int))⊕searchwrong)) (r1 : searchreader) (e5 : apiStep) : Option ((Int×(List Int))⊕searchwrong):=
  bif decide (e5.fN < (0 : Int)) then
    none
  else
    bif decide ((r1.fpart.length : Int)≤e5.fN) then
      none
    else
      Option.bind (getI r1.fpart e5.fN) fun e17=>
      bif decide ((0 : Int)≤e17) then
        none
      else
        Option.bind (rng (r1.fat + (1 : Int))) fun t21=>
        Option.bind (
          iter (reader_node_l0 self r1 e5) FUEL (t21,r1.fpart,(0 : Int))) fun o44=>match o44 with
        | .inl (at47,part48)=>
          some (Sum.inl (at47,part48))
        | .inr p=>
          some (Sum.inr p)
def reader_node_p2 (r1 : searchreader) (e5 : apiStep) : Option ((Int×(List Int))⊕searchwrong):=
  bif decide (e5.fKind = (2 : Int)) then
    bif decide (e5.fN < (0 : Int)) then
      none
    else
      bif decide ((r1.fhunt.fp.fRules.length : Int)≤e5.fN) then
        none
      else
        Option.bind (getI r1.fhunt.fp.fRules e5.fN) fun e160=>
        bif decide ((0 : Int) < e160.fWeight) then
          none
        else
          Option.bind (Judge_Least r1.fhunt.fJudge r1.fpart e5.fN) fun t167=>
          bif decide (t167 = (0 : Int)) then
            none
          else
            Option.bind (rng (r1.fat + (1 : Int))) fun t180=>
            some (Sum.inl (t180,r1.fpart))
  else
    bif decide (e5.fKind = (3 : Int)) then
      bif decide (r1.fbound < (0 : Int)) then
        none
      else
        Option.bind (Judge_Floor r1.fhunt.fJudge r1.fpart) fun t210=>
        bif decide (t210 < r1.fbound) then
          none
        else
          Option.bind (rng (r1.fat + (1 : Int))) fun t223=>
          some (Sum.inl (t223,r1.fpart))
    else
      none
def reader_node : Nat→searchreader→Int→Option ((Int×(List Int))⊕searchwrong)
  | 0,_,_=>none
  | n + 1,r1,last2=>
    bif decide (r1.fat = (r1.fsteps.length : Int)) then
      none
    else
      Option.bind (getI r1.fsteps r1.fat) fun e5=>
      bif decide (e5.fKind = (1 : Int)) then
        reader_node_p1 (reader_node n) r1 e5
      else
        reader_node_p2 r1 e5
end Go.Dm
open Go Go.Sl
namespace Go.Dm
def search_Verify (p1 : apiProblem) (bound12 : Int) (steps13 : List apiStep) : Option (Int×Int):=
 Option.bind (search_open p1) fun (t25,t26,t27)=>
 bif !decide (t27 = (0 : Int)) then
   none
 else
   bif decide ((200000 : Int) < (steps13.length : Int)) then
     none
   else
     Option.bind (hunt_nobody t25) fun t41=>
     Option.bind (reader_node RFUEL (searchreader.mk t25 bound12 steps13 (0 : Int) t41) (-1 : Int)) fun o59=>match o59 with
     | .inr w60=>
       none
     | .inl q57=>
     bif decide (q57.1 < (steps13.length : Int)) then
       none
     else
       some ((0 : Int),(0 : Int))
end Go.Dm
open Go Go.Sl
namespace Go.Dm
def hunt_turned_l0 (h1 : searchhunt) (part2 : List Int) (g3 : Int) (e31 : List (List Int)) : Int→Option (Int⊕Unit):=fun t39=>
  bif decide (t39 < (e31.length : Int)) then
    Option.bind (hunt_turns h1 part2 g3 t39) fun t59=>
    bif t59 then
      none
    else
      Option.bind (rng (t39 + (1 : Int))) fun t68=>
      some (Sum.inl t68)
  else
    some (Sum.inr ())
def hunt_turned (h1 : searchhunt) (part2 : List Int) (g3 : Int) : Option (Int):=
 Option.bind (getI part2 g3) fun e25=>
 Option.bind (getI h1.ftable e25) fun e28=>
 Option.bind (getI h1.fgroups e28) fun e31=>
 Option.bind (
   iter (hunt_turned_l0 h1 part2 g3 e31) FUEL (0 : Int)) fun _u=>
 some (-1 : Int)
def prover_say (p1 : searchprover) (kind2 : Int) (n3 : Int) : Option (Bool×((List apiStep)×(List Int))):=
 Option.bind (apL p1.fsteps [(apiStep.mk kind2 n3)]) fun t9=>
 some (true,(t9,p1.fpart))
def prover_node_p0 (self : searchprover→Option (Bool×((List apiStep)×(List Int)))) (p1 : searchprover) (t123 : Int) (steps184 : List apiStep) (part189 : List Int) (t194 : Int) : Option (((List apiStep)×(List Int)×Int)⊕(((List apiStep)×(List Int))⊕(Bool×((List apiStep)×(List Int))))):=
  Option.bind (getI part189 t123) fun e221=>
  Option.bind (some (List.set part189 t123.toNat t194)) fun l225=>
  Option.bind (hunt_turned p1.fhunt l225 t123) fun t231=>
  bif decide ((0 : Int)≤t231) then
    none
  else
    Option.bind (self (searchprover.mk p1.fhunt p1.fbound steps184 l225)) fun (t269,q270)=>
    Option.bind (getI q270.2 t123) fun e286=>
    Option.bind (some (List.set q270.2 t123.toNat (-1 : Int))) fun l289=>
    bif !t269 then
      some (Sum.inr (Sum.inr (false,(q270.1,l289))))
    else
      Option.bind (rng (t194 + (1 : Int))) fun t294=>
      some (Sum.inl (q270.1,l289,t294))
def prover_node_l0 (self : searchprover→Option (Bool×((List apiStep)×(List Int)))) (p1 : searchprover) (t123 : Int) : ((List apiStep)×(List Int)×Int)→Option (((List apiStep)×(List Int)×Int)⊕(((List apiStep)×(List Int))⊕(Bool×((List apiStep)×(List Int))))):=fun (steps184,part189,t194)=>
  bif decide (t194 < (p1.fhunt.ftable.length : Int)) then
    Option.bind (sl_ContainsInt part189 t194) fun t206=>
    bif t206 then
      Option.bind (rng (t194 + (1 : Int))) fun t217=>
      some (Sum.inl (steps184,part189,t217))
    else
      prover_node_p0 self p1 t123 steps184 part189 t194
  else
    some (Sum.inr (Sum.inl (steps184,part189)))
def prover_node_p1 (self : searchprover→Option (Bool×((List apiStep)×(List Int)))) (p1 : searchprover) : Option (Bool×((List apiStep)×(List Int))):=
  Option.bind (Judge_Floor p1.fhunt.fJudge p1.fpart) fun t76=>
  bif decide (p1.fbound≤t76) then
    Option.bind (prover_say (searchprover.mk p1.fhunt p1.fbound p1.fsteps p1.fpart) (3 : Int) (0 : Int)) fun (t102,q103)=>
    some (t102,(q103.1,q103.2))
  else
    Option.bind (sl_IndexInt p1.fpart (-1 : Int)) fun t123=>
    bif decide (t123 < (0 : Int)) then
      some (false,(p1.fsteps,p1.fpart))
    else
      Option.bind (prover_say (searchprover.mk p1.fhunt p1.fbound p1.fsteps p1.fpart) (1 : Int) t123) fun (t152,q153)=>
      Option.bind (
        iter (prover_node_l0 self p1 t123) FUEL (q153.1,q153.2,(0 : Int))) fun o171=>match o171 with
      | .inl (steps174,part179)=>
        some (true,(steps174,part179))
      | .inr p=>
        some p
def prover_node : Nat→searchprover→Option (Bool×((List apiStep)×(List Int)))
  | 0,_=>none
  | n + 1,p1=>
    Option.bind (Judge_Dead p1.fhunt.fJudge p1.fpart) fun (t28,t29)=>
    bif t29 then
      Option.bind (prover_say (searchprover.mk p1.fhunt p1.fbound p1.fsteps p1.fpart) (2 : Int) t28) fun (t53,q54)=>
      some (t53,(q54.1,q54.2))
    else
      bif decide ((0 : Int)≤p1.fbound) then
        prover_node_p1 (prover_node n) p1
      else
        none
def search_Prove (p1 : apiProblem) (bound12 : Int) : Option ((List apiStep)×Int):=
 Option.bind (search_begin p1) fun (t22,t23)=>
 bif !decide (t23 = (0 : Int)) then
   none
 else
   Option.bind (hunt_nobody t22) fun t34=>
   Option.bind (prover_node RFUEL (searchprover.mk t22 bound12 ([] : List apiStep) t34)) fun (t51,q52)=>
   bif !t51 then
     some (([] : List apiStep),(66 : Int))
   else
     some (q52.1,(0 : Int))
end Go.Dm
open Go Go.Sl
namespace Go.Dm
def kit_SameInts_l0 (a1 : List Int) (b2 : List Int) : Int→Option (Int⊕Unit):=fun i7=>
  bif decide (i7 < (a1.length : Int)) then
    Option.bind (getI a1 i7) fun e17=>
    Option.bind (getI b2 i7) fun e20=>
    bif !decide (e17 = e20) then
      none
    else
      Option.bind (rng (i7 + (1 : Int))) fun t25=>
      some (Sum.inl t25)
  else
    some (Sum.inr ())
def kit_SameInts (a1 : List Int) (b2 : List Int) : Option (Bool):=
 bif !decide ((a1.length : Int) = (b2.length : Int)) then
   none
 else
   Option.bind (
     iter (kit_SameInts_l0 a1 b2) FUEL (0 : Int)) fun _u=>
   some true
def kit_SameRules_l0 (a1 : List apiRule) (b2 : List apiRule) : Int→Option (Int⊕Unit):=fun i7=>
  bif decide (i7 < (a1.length : Int)) then
    Option.bind (getI a1 i7) fun e17=>
    Option.bind (getI b2 i7) fun e20=>
    bif !(decide (e17.fKind = e20.fKind) && (decide (e17.fWeight = e20.fWeight) && (decide (e17.fA = e20.fA) && (decide (e17.fB = e20.fB) && (decide (e17.fTable = e20.fTable) && (decide (e17.fN = e20.fN) && true)))))) then
      none
    else
      Option.bind (rng (i7 + (1 : Int))) fun t25=>
      some (Sum.inl t25)
  else
    some (Sum.inr ())
def kit_SameRules (a1 : List apiRule) (b2 : List apiRule) : Option (Bool):=
 bif !decide ((a1.length : Int) = (b2.length : Int)) then
   none
 else
   Option.bind (
     iter (kit_SameRules_l0 a1 b2) FUEL (0 : Int)) fun _u=>
   some true
def law10_trio_p0 (rules2 : List apiRule) : Option (apiProblem):=
  Option.bind (apL [(apiTable.mk (⟨#[114]⟩ : ByteArray) (1 : Int) (4 : Int) (0 : Int) ([] : List Int) (0 : Int) (0 : Int))] [(apiTable.mk (⟨#[119]⟩ : ByteArray) (4 : Int) (1 : Int) (0 : Int) ([] : List Int) (0 : Int) (0 : Int))]) fun t23=>
  some (apiProblem.mk t23 [(apiGuest.mk (⟨#[97,110,110,97]⟩ : ByteArray) (⟨#[]⟩ : ByteArray) (⟨#[]⟩ : ByteArray) (0 : Int) (0 : Int) (⟨#[]⟩ : ByteArray) false false ([] : List ByteArray)),(apiGuest.mk (⟨#[98,111,114,105,115]⟩ : ByteArray) (⟨#[]⟩ : ByteArray) (⟨#[]⟩ : ByteArray) (0 : Int) (0 : Int) (⟨#[]⟩ : ByteArray) false false ([] : List ByteArray)),(apiGuest.mk (⟨#[99,97,114,108]⟩ : ByteArray) (⟨#[]⟩ : ByteArray) (⟨#[]⟩ : ByteArray) (0 : Int) (0 : Int) (⟨#[]⟩ : ByteArray) false false ([] : List ByteArray))] ([] : List apiTie) ([] : List Int) rules2)
def law10_trio_p1 (rules2 : List apiRule) : Option (apiProblem):=
  some (apiProblem.mk [(apiTable.mk (⟨#[114]⟩ : ByteArray) (1 : Int) (4 : Int) (0 : Int) ([] : List Int) (0 : Int) (0 : Int))] [(apiGuest.mk (⟨#[97,110,110,97]⟩ : ByteArray) (⟨#[]⟩ : ByteArray) (⟨#[]⟩ : ByteArray) (0 : Int) (0 : Int) (⟨#[]⟩ : ByteArray) false false ([] : List ByteArray)),(apiGuest.mk (⟨#[98,111,114,105,115]⟩ : ByteArray) (⟨#[]⟩ : ByteArray) (⟨#[]⟩ : ByteArray) (0 : Int) (0 : Int) (⟨#[]⟩ : ByteArray) false false ([] : List ByteArray)),(apiGuest.mk (⟨#[99,97,114,108]⟩ : ByteArray) (⟨#[]⟩ : ByteArray) (⟨#[]⟩ : ByteArray) (0 : Int) (0 : Int) (⟨#[]⟩ : ByteArray) false false ([] : List ByteArray))] ([] : List apiTie) ([] : List Int) rules2)
def law10_trio (second1 : Bool) (rules2 : List apiRule) : Option (apiProblem):=
 bif second1 then
   law10_trio_p0 rules2
 else
   law10_trio_p1 rules2
def rule_copiedR_l0 (t14 : List apiTable) : ((List apiTable)×Int)→Option (((List apiTable)×Int)⊕(List apiTable)):=fun (tables35,t40)=>
  bif decide (t40 < (t14.length : Int)) then
    Option.bind (getI tables35 t40) fun e49=>
    Option.bind (sl_CloneInt e49.fOpen) fun t54=>
    Option.bind (getI tables35 t40) fun e65=>
    Option.bind (some (List.set tables35 t40.toNat (apiTable.mk e65.fName e65.fShape e65.fA e65.fB t54 e65.fX e65.fY))) fun l76=>
    Option.bind (rng (t40 + (1 : Int))) fun t80=>
    some (Sum.inl (l76,t80))
  else
    some (Sum.inr tables35)
def rule_copiedR_l1 (t87 : List apiGuest) : ((List apiGuest)×Int)→Option (((List apiGuest)×Int)⊕(List apiGuest)):=fun (guests108,t113)=>
  bif decide (t113 < (t87.length : Int)) then
    Option.bind (getI guests108 t113) fun e122=>
    Option.bind (sl_CloneStr e122.fTongues) fun t127=>
    Option.bind (getI guests108 t113) fun e138=>
    Option.bind (some (List.set guests108 t113.toNat (apiGuest.mk e138.fName e138.fRank e138.fCourt e138.fSince e138.fSide e138.fDiet e138.fHost e138.fAccess t127))) fun l149=>
    Option.bind (rng (t113 + (1 : Int))) fun t153=>
    some (Sum.inl (l149,t153))
  else
    some (Sum.inr guests108)
def rule_copiedR (p1 : apiProblem) : Option (apiProblem):=
 Option.bind (sl_CloneTable p1.fTables) fun t14=>
 Option.bind (
   iter (rule_copiedR_l0 t14) FUEL (t14,(0 : Int))) fun tables30=>
 Option.bind (sl_CloneGuest p1.fGuests) fun t87=>
 Option.bind (
   iter (rule_copiedR_l1 t87) FUEL (t87,(0 : Int))) fun guests103=>
 Option.bind (sl_CloneTie p1.fTies) fun t160=>
 Option.bind (sl_CloneInt p1.fClass) fun t173=>
 Option.bind (sl_CloneRule p1.fRules) fun t186=>
 some (apiProblem.mk tables30 guests103 t160 t173 t186)
def Judge_ProblemR (j1 : ruleJudge) : Option (apiProblem):=
 Option.bind (Judge_none j1) fun t3=>
 bif t3 then
   none
 else
   Option.bind (rule_copiedR j1.fgiven) fun t44=>
   some (apiProblem.mk t44.fTables t44.fGuests t44.fTies t44.fClass t44.fRules)
def repair_open (p1 : apiProblem) (part12 : List Int) : Option (repairscene×Int):=
 Option.bind (rule_New p1) fun (t22,t23,t24)=>
 bif !decide (t24 = (0 : Int)) then
   none
 else
   Option.bind (plan_CheckPart p1 part12) fun (t43,t44)=>
   bif !decide (t44 = (0 : Int)) then
     none
   else
     Option.bind (Judge_ProblemR t22) fun t55=>
     Option.bind (sl_CloneInt part12) fun t85=>
     Option.bind (hall_Count p1.fTables) fun t98=>
     some ((repairscene.mk t22 (apiProblem.mk t55.fTables t55.fGuests t55.fTies t55.fClass t55.fRules) t85 t98),(0 : Int))
def sl_IndexFuncTieL_l0 (s1 : List apiTie) : Unit→Option (Unit⊕Unit):=fun _u=>
  bif decide ((0 : Int) < (s1.length : Int)) then
    none
  else
    some (Sum.inr ())
def sl_IndexFuncTieL (s1 : List apiTie) (f3 : apiTie→Option Bool) : Option (Int×(List apiTie)):=
 Option.bind (
   iter (sl_IndexFuncTieL_l0 s1) FUEL ()) fun _u=>
 some ((-1 : Int),s1)
def sl_IndexFuncTie_l0 (s1 : List apiTie) : Unit→Option (Unit⊕Unit):=fun _u=>
  bif decide ((0 : Int) < (s1.length : Int)) then
    none
  else
    some (Sum.inr ())
def sl_IndexFuncTie (s1 : List apiTie) (f2 : apiTie→Option Bool) : Option (Int):=
 Option.bind (
   iter (sl_IndexFuncTie_l0 s1) FUEL ()) fun _u=>
 some (-1 : Int)
def sl_DeleteFuncTie (s1 : List apiTie) (del3 : apiTie→Option Bool) : Option (List apiTie):=
 Option.bind (sl_IndexFuncTieL s1 del3) fun (t4,l5)=>
 bif decide (t4 = (-1 : Int)) then
   some l5
 else
   none
def sl_IndexFuncRuleL_l0 (s1 : List apiRule) (f3 : apiRule→Option Bool) : Int→Option (Int⊕(Unit⊕(Int×(List apiRule)))):=fun t7=>
  bif decide (t7 < (s1.length : Int)) then
    Option.bind (getI s1 t7) fun e16=>
    Option.bind (f3 e16) fun t20=>
    bif t20 then
      some (Sum.inr (Sum.inr (t7,s1)))
    else
      Option.bind (rng (t7 + (1 : Int))) fun t37=>
      some (Sum.inl t37)
  else
    some (Sum.inr (Sum.inl ()))
def sl_IndexFuncRuleL (s1 : List apiRule) (f3 : apiRule→Option Bool) : Option (Int×(List apiRule)):=
 Option.bind (
   iter (sl_IndexFuncRuleL_l0 s1 f3) FUEL (0 : Int)) fun o4=>match o4 with
 | .inl _u=>
   some ((-1 : Int),s1)
 | .inr p=>
   some p
def sl_DeleteFuncRule_l0 (del3 : apiRule→Option Bool) : ((List apiRule)×Int×Int)→Option (((List apiRule)×Int×Int)⊕((List apiRule)×Int)):=fun (s27,i32,j33)=>
  bif decide (j33 < (s27.length : Int)) then
    Option.bind (getI s27 j33) fun e42=>
    Option.bind (del3 e42) fun t50=>
    bif !t50 then
      Option.bind (getI s27 i32) fun e67=>
      Option.bind (some (List.set s27 i32.toNat e42)) fun l72=>
      Option.bind (rng (i32 + (1 : Int))) fun t75=>
      Option.bind (rng (j33 + (1 : Int))) fun t76=>
      some (Sum.inl (l72,t75,t76))
    else
      Option.bind (rng (j33 + (1 : Int))) fun t78=>
      some (Sum.inl (s27,i32,t78))
  else
    some (Sum.inr (s27,i32))
def sl_DeleteFuncRule_p0 (del3 : apiRule→Option Bool) (t4 : Int) (l5 : List apiRule) : Option (List apiRule):=
  Option.bind (rng (t4 + (1 : Int))) fun t17=>
  Option.bind (
    iter (sl_DeleteFuncRule_l0 del3) FUEL (l5,t4,t17)) fun (s21,i26)=>
  Option.bind (bdV i26 (s21.length : Int) (s21.length : Int)) fun u85=>
  Option.bind (bdV i26 (s21.length : Int) (s21.length : Int)) fun u86=>
  Option.bind (some (putL s21 i26.toNat (List.replicate ((s21.length : Int).toNat - i26.toNat) (apiRule.mk (0 : Int) (0 : Int) (⟨#[]⟩ : ByteArray) (⟨#[]⟩ : ByteArray) (⟨#[]⟩ : ByteArray) (0 : Int))))) fun l88=>
  Option.bind (sbL l88 0 i26) fun t91=>
  some t91
def sl_DeleteFuncRule (s1 : List apiRule) (del3 : apiRule→Option Bool) : Option (List apiRule):=
 Option.bind (sl_IndexFuncRuleL s1 del3) fun (t4,l5)=>
 bif decide (t4 = (-1 : Int)) then
   some l5
 else
   sl_DeleteFuncRule_p0 del3 t4 l5
def scene_who_1 (g1 : apiGuest) (t4 : ByteArray) : Option (Bool):=
 some (decide (g1.fName = t4))
def scene_who (s1 : repairscene) (name2 : ByteArray) : Option (Int):=
 Option.bind (sl_IndexFuncGuest s1.fp.fGuests (fun y0=>scene_who_1 y0 name2)) fun t33=>
 some t33
def scene_full (s1 : repairscene) : Option (Bool):=
 some (decide ((s1.fp.fRules.length : Int) = (64 : Int)))
def scene_tie_1 (t1 : apiTie) (t2 : ByteArray) (t3 : ByteArray) : Option (Bool):=
  none
def scene_tie (s1 : repairscene) (a2 : ByteArray) (b3 : ByteArray) : Option (Int):=
 Option.bind (sl_IndexFuncTie s1.fp.fTies (fun y0=>scene_tie_1 y0 a2 b3)) fun t40=>
 some t40
def rule_CheckRule (p1 : apiProblem) (r12 : apiRule) : Option (Int):=
 Option.bind (rule_basis p1) fun (t28,t29)=>
 bif !decide (t29 = (0 : Int)) then
   none
 else
   Option.bind (rule_kinds) fun t40=>
   Option.bind (lkM t40 r12.fKind (rulekind.mk (⟨#[]⟩ : ByteArray) (0 : Int) false (0 : Int) false (0 : Int) false (0 : Nat))) fun (e49,ok50)=>
   Option.bind (kind_check e49 p1 r12) fun t59=>
   some t59
def scene_checkLate_p0 (s1 : repairscene) (c2 : apiChange) : Option (Int):=
  Option.bind (guest_Check c2.fGuest) fun t29=>
  bif !decide (t29 = (0 : Int)) then
    none
  else
    Option.bind (scene_who s1 c2.fGuest.fName) fun t47=>
    bif decide ((0 : Int)≤t47) then
      some (5 : Int)
    else
      bif decide ((s1.fp.fGuests.length : Int) = (64 : Int)) then
        some (7 : Int)
      else
        bif decide ((s1.fp.fGuests.length : Int) = s1.fseats) then
          some (45 : Int)
        else
          bif decide (c2.fN < (0 : Int)) then
            none
          else
            bif decide ((0 : Int) < c2.fN) then
              some (44 : Int)
            else
              some (0 : Int)
def scene_checkLate (s1 : repairscene) (c2 : apiChange) : Option (Int):=
 bif decide ((s1.fp.fClass.length : Int) = (0 : Int)) then
   scene_checkLate_p0 s1 c2
 else
   none
def scene_checkCancel (s1 : repairscene) (c2 : apiChange) : Option (Int):=
 Option.bind (scene_who s1 c2.fA) fun t10=>
 bif decide (t10 < (0 : Int)) then
   none
 else
   some (0 : Int)
def scene_checkQuarrel (s1 : repairscene) (c2 : apiChange) : Option (Int):=
 Option.bind (scene_who s1 c2.fA) fun t10=>
 bif decide (t10 < (0 : Int)) then
   none
 else
   Option.bind (scene_who s1 c2.fB) fun t21=>
   bif decide (t21 < (0 : Int)) then
     none
   else
     bif decide (c2.fA = c2.fB) then
       none
     else
       Option.bind (scene_full s1) fun t33=>
       bif t33 then
         some (7 : Int)
       else
         bif decide ((s1.fp.fTies.length : Int) = (256 : Int)) then
           none
         else
           some (0 : Int)
def scene_checkClose (s1 : repairscene) (c2 : apiChange) : Option (Int):=
 Option.bind (hall_Find s1.fp.fTables c2.fTable) fun (t27,t28)=>
 bif !t28 then
   none
 else
   bif decide (c2.fN < (0 : Int)) then
     none
   else
     bif decide ((24 : Int) < c2.fN) then
       none
     else
       Option.bind (scene_full s1) fun t48=>
       bif t48 then
         some (7 : Int)
       else
         none
def scene_checkDemand (s1 : repairscene) (c2 : apiChange) : Option (Int):=
 Option.bind (rule_CheckRule s1.fp c2.fRule) fun t27=>
 bif !decide (t27 = (0 : Int)) then
   none
 else
   Option.bind (scene_full s1) fun t44=>
   bif t44 then
     some (7 : Int)
   else
     none
def way_check (n : Nat) (s1 : repairscene) (c2 : apiChange) : Option (Int):=
  if n = 32 then scene_checkLate s1 c2 else
  if n = 36 then scene_checkCancel s1 c2 else
  if n = 40 then scene_checkQuarrel s1 c2 else
  if n = 44 then scene_checkClose s1 c2 else
  if n = 49 then scene_checkDemand s1 c2 else
  none
def scene_cancel_1 (t1 : apiTie) (t2 : apiChange) : Option (Bool):=
  none
def scene_cancel_2 (r1 : apiRule) (t2 : apiChange) : Option (Bool):=
  none
def scene_quarrel_1 (x1 : apiTie) (y2 : apiTie) : Option (Int):=
  none
def sl_DeleteGuest_p0 (s1 : List apiGuest) (i3 : Int) (j4 : Int) : Option (List apiGuest):=
  Option.bind (bdV (0 : Int) i3 (s1.length : Int)) fun u8=>
  Option.bind (bdV j4 (s1.length : Int) (s1.length : Int)) fun u9=>
  Option.bind (emV j4 (s1.length : Int)) fun u10=>
  Option.bind (bdV (((i3.toNat - (0 : Int).toNat : Nat)) : Int) (s1.length : Int) (s1.length : Int)) fun u11=>
  Option.bind (bdV (((i3.toNat - (0 : Int).toNat : Nat)) : Int) (s1.length : Int) (s1.length : Int)) fun u12=>
  Option.bind (some (putL s1 (((i3.toNat - (0 : Int).toNat : Nat)) : Int).toNat (List.replicate ((s1.length : Int).toNat - (((i3.toNat - (0 : Int).toNat : Nat)) : Int).toNat) (apiGuest.mk (⟨#[]⟩ : ByteArray) (⟨#[]⟩ : ByteArray) (⟨#[]⟩ : ByteArray) (0 : Int) (0 : Int) (⟨#[]⟩ : ByteArray) false false ([] : List ByteArray))))) fun l14=>
  some (List.take i3.toNat l14)
def sl_DeleteGuest (s1 : List apiGuest) (i3 : Int) (j4 : Int) : Option (List apiGuest):=
 Option.bind (bdV i3 j4 (s1.length : Int)) fun u5=>
 Option.bind (bdV j4 (s1.length : Int) (s1.length : Int)) fun u6=>
 bif decide (i3 = j4) then
   none
 else
   sl_DeleteGuest_p0 s1 i3 j4
def sl_DeleteInt_p0 (s1 : List Int) (i3 : Int) (j4 : Int) : Option (List Int):=
  Option.bind (bdV (0 : Int) i3 (s1.length : Int)) fun u8=>
  Option.bind (bdV j4 (s1.length : Int) (s1.length : Int)) fun u9=>
  Option.bind (emV j4 (s1.length : Int)) fun u10=>
  Option.bind (bdV (((i3.toNat - (0 : Int).toNat : Nat)) : Int) (s1.length : Int) (s1.length : Int)) fun u11=>
  Option.bind (bdV (((i3.toNat - (0 : Int).toNat : Nat)) : Int) (s1.length : Int) (s1.length : Int)) fun u12=>
  Option.bind (some (putL s1 (((i3.toNat - (0 : Int).toNat : Nat)) : Int).toNat (List.replicate ((s1.length : Int).toNat - (((i3.toNat - (0 : Int).toNat : Nat)) : Int).toNat) (0 : Int)))) fun l14=>
  some (List.take i3.toNat l14)
def sl_DeleteInt (s1 : List Int) (i3 : Int) (j4 : Int) : Option (List Int):=
 Option.bind (bdV i3 j4 (s1.length : Int)) fun u5=>
 Option.bind (bdV j4 (s1.length : Int) (s1.length : Int)) fun u6=>
 bif decide (i3 = j4) then
   none
 else
   sl_DeleteInt_p0 s1 i3 j4
def sl_insTie_l0 (b4 : Int) (t6 : Int) : Unit→Option (Unit⊕Unit):=fun _u=>
  bif decide (t6 < b4) then
    none
  else
    some (Sum.inr ())
def sl_insTie (data1 : List apiTie) (a3 : Int) (b4 : Int) (cmp5 : apiTie→apiTie→Option Int) : Option (List apiTie):=
 Option.bind (rng (a3 + (1 : Int))) fun t6=>
 Option.bind (
   iter (sl_insTie_l0 b4 t6) FUEL ()) fun _u=>
 some data1
def sl_pdqTie_l0 (data1 : List apiTie) (a3 : Int) (b4 : Int) (cmp6 : apiTie→apiTie→Option Int) : Unit→Option (Unit⊕(List apiTie)):=fun _u=>
  Option.bind (rng (b4 - a3)) fun t17=>
  bif decide (t17≤(12 : Int)) then
    Option.bind (sl_insTie data1 a3 b4 cmp6) fun l21=>
    some (Sum.inr l21)
  else
    none
def sl_pdqTie : Nat→(List apiTie)→Int→Int→Int→(apiTie→apiTie→Option Int)→Option (List apiTie)
  | 0,_,_,_,_,_=>none
  | n + 1,data1,a3,b4,limit5,cmp6=>
    Option.bind (
      iter (sl_pdqTie_l0 data1 a3 b4 cmp6) FUEL ()) fun p=>some p
def sl_SortFuncTie (x1 : List apiTie) (cmp3 : apiTie→apiTie→Option Int) : Option (List apiTie):=
 Option.bind (rngK .u64 (x1.length : Int)) fun t4=>
 Option.bind (bits_Len t4) fun t5=>
 Option.bind (sl_pdqTie RFUEL x1 (0 : Int) (x1.length : Int) t5 cmp3) fun l15=>
 some l15
def scene_late (s1 : repairscene) (c2 : apiChange) : Option (repairscene):=
 Option.bind (sl_CloneStr c2.fGuest.fTongues) fun t17=>
 bif decide ((0 : Int) < (s1.fp.fClass.length : Int)) then
   none
 else
   Option.bind (apL s1.fp.fGuests [(apiGuest.mk c2.fGuest.fName c2.fGuest.fRank c2.fGuest.fCourt c2.fGuest.fSince c2.fGuest.fSide c2.fGuest.fDiet c2.fGuest.fHost c2.fGuest.fAccess t17)]) fun t41=>
   Option.bind (apL s1.fpart [(-1 : Int)]) fun t54=>
   some (repairscene.mk s1.fJudge (apiProblem.mk s1.fp.fTables t41 s1.fp.fTies s1.fp.fClass s1.fp.fRules) t54 s1.fseats)
def scene_cancel (s1 : repairscene) (c2 : apiChange) : Option (repairscene):=
 Option.bind (scene_who (repairscene.mk s1.fJudge (apiProblem.mk s1.fp.fTables s1.fp.fGuests s1.fp.fTies s1.fp.fClass s1.fp.fRules) s1.fpart s1.fseats) c2.fA) fun t36=>
 Option.bind (rng (t36 + (1 : Int))) fun t74=>
 Option.bind (sl_DeleteGuest s1.fp.fGuests t36 t74) fun t77=>
 bif decide ((0 : Int) < (s1.fp.fClass.length : Int)) then
   Option.bind (rng (t36 + (1 : Int))) fun t93=>
   Option.bind (sl_DeleteInt s1.fp.fClass t36 t93) fun t94=>
   Option.bind (rng (t36 + (1 : Int))) fun t107=>
   Option.bind (sl_DeleteInt s1.fpart t36 t107) fun t110=>
   Option.bind (sl_DeleteFuncTie s1.fp.fTies (fun y0=>scene_cancel_1 y0 c2)) fun t136=>
   Option.bind (sl_DeleteFuncRule s1.fp.fRules (fun y0=>scene_cancel_2 y0 c2)) fun t161=>
   some (repairscene.mk s1.fJudge (apiProblem.mk s1.fp.fTables t77 t136 t94 t161) t110 s1.fseats)
 else
   none
def scene_quarrel_p0 (s1 : repairscene) (c2 : apiChange) : Option (repairscene):=
  Option.bind (apL s1.fp.fTies [(apiTie.mk (minS c2.fA c2.fB) (maxS c2.fA c2.fB) (0 : Int))]) fun t81=>
  Option.bind (getI t81 (s1.fp.fTies.length : Int)) fun e89=>
  Option.bind (some (List.set t81 (s1.fp.fTies.length : Int).toNat (apiTie.mk e89.fA e89.fB (2 : Int)))) fun l92=>
  Option.bind (sl_SortFuncTie l92 scene_quarrel_1) fun l106=>
  Option.bind (apL s1.fp.fRules [(apiRule.mk (1 : Int) (0 : Int) c2.fA c2.fB (⟨#[]⟩ : ByteArray) (2 : Int))]) fun t121=>
  some (repairscene.mk s1.fJudge (apiProblem.mk s1.fp.fTables s1.fp.fGuests l106 s1.fp.fClass t121) s1.fpart s1.fseats)
def scene_quarrel (s1 : repairscene) (c2 : apiChange) : Option (repairscene):=
 Option.bind (scene_tie (repairscene.mk s1.fJudge (apiProblem.mk s1.fp.fTables s1.fp.fGuests s1.fp.fTies s1.fp.fClass s1.fp.fRules) s1.fpart s1.fseats) c2.fA c2.fB) fun t36=>
 bif decide (t36 < (0 : Int)) then
   scene_quarrel_p0 s1 c2
 else
   none
def way_apply (n : Nat) (s1 : repairscene) (c2 : apiChange) : Option (repairscene):=
  if n = 33 then scene_late s1 c2 else
  if n = 37 then scene_cancel s1 c2 else
  if n = 41 then scene_quarrel s1 c2 else
  none
def repair_wayOf_p0 (k1 : Int) : Option (repairway×Bool):=
  bif decide (k1 = (1 : Int)) then
    some ((repairway.mk (⟨#[108,97,116,101]⟩ : ByteArray) (32 : Nat) (33 : Nat) (34 : Nat) (35 : Nat)),true)
  else
  bif decide (k1 = (2 : Int)) then
    some ((repairway.mk (⟨#[99,97,110,99,101,108]⟩ : ByteArray) (36 : Nat) (37 : Nat) (38 : Nat) (39 : Nat)),true)
  else
  bif decide (k1 = (3 : Int)) then
    some ((repairway.mk (⟨#[113,117,97,114,114,101,108]⟩ : ByteArray) (40 : Nat) (41 : Nat) (42 : Nat) (43 : Nat)),true)
  else
  bif decide (k1 = (4 : Int)) then
    some ((repairway.mk (⟨#[99,108,111,115,101]⟩ : ByteArray) (44 : Nat) (45 : Nat) (46 : Nat) (47 : Nat)),true)
  else
  bif decide (k1 = (5 : Int)) then
    some ((repairway.mk (⟨#[100,101,109,97,110,100]⟩ : ByteArray) (49 : Nat) (50 : Nat) (51 : Nat) (52 : Nat)),true)
  else
  none
def repair_wayOf (k1 : Int) : Option (repairway×Bool):=
 bif decide (k1 = (0 : Int)) then
   some ((repairway.mk (⟨#[]⟩ : ByteArray) (0 : Nat) (0 : Nat) (0 : Nat) (0 : Nat)),false)
 else
   Option.bind (rngK .i64 k1) fun t9=>
   bif decide ((6 : Int)≤t9) then
     some ((repairway.mk (⟨#[]⟩ : ByteArray) (0 : Nat) (0 : Nat) (0 : Nat) (0 : Nat)),false)
   else
     repair_wayOf_p0 k1
def scene_check (s1 : repairscene) (c2 : apiChange) : Option (Int):=
 Option.bind (repair_wayOf c2.fKind) fun (t9,t10)=>
 bif !t10 then
   some (100 : Int)
 else
   Option.bind (way_check t9.fcheck s1 c2) fun t30=>
   some t30
def repair_Check (p1 : apiProblem) (part12 : List Int) (c13 : apiChange) : Option (Int):=
 Option.bind (repair_open p1 part12) fun (t32,t33)=>
 bif !decide (t33 = (0 : Int)) then
   none
 else
   Option.bind (scene_check (repairscene.mk t32.fJudge (apiProblem.mk t32.fp.fTables t32.fp.fGuests t32.fp.fTies t32.fp.fClass t32.fp.fRules) t32.fpart t32.fseats) c13) fun t91=>
   some t91
def repair_Apply_p0 (c13 : apiChange) (t33 : repairscene) : Option (apiProblem×(List Int)×Int):=
  Option.bind (scene_check (repairscene.mk t33.fJudge (apiProblem.mk t33.fp.fTables t33.fp.fGuests t33.fp.fTies t33.fp.fClass t33.fp.fRules) t33.fpart t33.fseats) c13) fun t92=>
  bif !decide (t92 = (0 : Int)) then
    none
  else
    Option.bind (repair_wayOf c13.fKind) fun (t134,t135)=>
    Option.bind (way_apply t134.fapply (repairscene.mk t33.fJudge (apiProblem.mk t33.fp.fTables t33.fp.fGuests t33.fp.fTies t33.fp.fClass t33.fp.fRules) t33.fpart t33.fseats) c13) fun q160=>
    some ((apiProblem.mk q160.fp.fTables q160.fp.fGuests q160.fp.fTies q160.fp.fClass q160.fp.fRules),q160.fpart,(0 : Int))
def repair_Apply (p1 : apiProblem) (part12 : List Int) (c13 : apiChange) : Option (apiProblem×(List Int)×Int):=
 Option.bind (repair_open p1 part12) fun (t33,t34)=>
 bif !decide (t34 = (0 : Int)) then
   none
 else
   repair_Apply_p0 c13 t33
end Go.Dm
open Go Go.Sl
namespace Go.Dm
def repair_times_l0 (l1 : List Int) : (Int×Int)→Option ((Int×Int)⊕Int):=fun (n6,t7)=>
  bif decide (t7 < (l1.length : Int)) then
    Option.bind (getI l1 t7) fun e16=>
    Option.bind (rng (n6 * e16)) fun t20=>
    Option.bind (rng (t7 + (1 : Int))) fun t21=>
    some (Sum.inl ((min t20 (20001 : Int)),t21))
  else
    some (Sum.inr n6)
def repair_times (l1 : List Int) : Option (Int):=
 Option.bind (
   iter (repair_times_l0 l1) FUEL ((1 : Int),(0 : Int))) fun n5=>
 some n5
def repair_ways_l0 (free1 : Int) (guests2 : Int) : ((List Int)×Int)→Option (((List Int)×Int)⊕(List Int)):=fun (l13,t18)=>
  bif decide (t18 < guests2) then
    Option.bind (rng (free1 - t18)) fun t27=>
    Option.bind (apL l13 [t27]) fun t31=>
    Option.bind (rng (t18 + (1 : Int))) fun t37=>
    some (Sum.inl (t31,t37))
  else
    some (Sum.inr l13)
def repair_ways (free1 : Int) (guests2 : Int) : Option (Int):=
 Option.bind (
   iter (repair_ways_l0 free1 guests2) FUEL (([] : List Int),(0 : Int))) fun l6=>
 Option.bind (repair_times l6) fun t46=>
 some t46
def repair_sets_l0 (m1 : Int) (k2 : Int) : (Int×Int)→Option ((Int×Int)⊕(Int⊕Int)):=fun (n7,t8)=>
  bif decide (t8 < k2) then
    Option.bind (rng (m1 - t8)) fun t17=>
    Option.bind (rng (n7 * t17)) fun t18=>
    Option.bind (rng (t8 + (1 : Int))) fun t19=>
    Option.bind (quoI t18 t19) fun t20=>
    bif decide ((20000 : Int) < t20) then
      some (Sum.inr (Sum.inr (20001 : Int)))
    else
      Option.bind (rng (t8 + (1 : Int))) fun t22=>
      some (Sum.inl (t20,t22))
  else
    some (Sum.inr (Sum.inl n7))
def repair_sets (m1 : Int) (k2 : Int) : Option (Int):=
 Option.bind (
   iter (repair_sets_l0 m1 k2) FUEL ((1 : Int),(0 : Int))) fun o3=>match o3 with
 | .inl n6=>
   some n6
 | .inr p=>
   some p
def scene_tries_l0 (s1 : repairscene) : (Int×Int)→Option ((Int×Int)⊕Int):=fun (t24,m25)=>
  bif decide (t24 < (s1.fpart.length : Int)) then
    Option.bind (getI s1.fpart t24) fun e34=>
    bif decide ((0 : Int)≤e34) then
      Option.bind (rng (m25 + (1 : Int))) fun t39=>
      Option.bind (rng (t24 + (1 : Int))) fun t40=>
      some (Sum.inl (t40,t39))
    else
      Option.bind (rng (t24 + (1 : Int))) fun t41=>
      some (Sum.inl (t41,m25))
  else
    some (Sum.inr m25)
def scene_tries_p0 (s1 : repairscene) (m23 : Int) (sum49 : Int) (k50 : Int) (t61 : Bool) : Option ((Int×Int)⊕Int):=
  bif t61 then
    Option.bind (rng (m23 - k50)) fun t67=>
    Option.bind (rng (s1.fseats - m23)) fun t70=>
    Option.bind (rng (t70 + k50)) fun t71=>
    Option.bind (rng ((s1.fpart.length : Int) - m23)) fun t73=>
    Option.bind (rng (t73 + k50)) fun t74=>
    Option.bind (repair_sets m23 (min k50 t67)) fun t75=>
    Option.bind (repair_ways t71 t74) fun t83=>
    Option.bind (repair_times [t75,t83]) fun t99=>
    Option.bind (rng (sum49 + t99)) fun t108=>
    Option.bind (rng (k50 + (1 : Int))) fun t109=>
    some (Sum.inl (t108,t109))
  else
    some (Sum.inr sum49)
def scene_tries_l1 (s1 : repairscene) (most2 : Int) (m23 : Int) : (Int×Int)→Option ((Int×Int)⊕Int):=fun (sum49,k50)=>
  Option.bind (
    bif decide (k50≤(min (max most2 (0 : Int)) m23)) then
      some (decide (sum49≤(20000 : Int)))
    else
      some false) fun t61=>
  scene_tries_p0 s1 m23 sum49 k50 t61
def scene_tries (s1 : repairscene) (most2 : Int) : Option (Int):=
 Option.bind (
   iter (scene_tries_l0 s1) FUEL ((0 : Int),(0 : Int))) fun m23=>
 Option.bind (
   iter (scene_tries_l1 s1 most2 m23) FUEL ((0 : Int),(0 : Int))) fun sum48=>
 some (min sum48 (20001 : Int))
def repair_Tries (p1 : apiProblem) (part12 : List Int) (most13 : Int) : Option (Int):=
 Option.bind (repair_open p1 part12) fun (t24,t25)=>
 bif !decide (t25 = (0 : Int)) then
   none
 else
   Option.bind (scene_tries (repairscene.mk t24.fJudge (apiProblem.mk t24.fp.fTables t24.fp.fGuests t24.fp.fTies t24.fp.fClass t24.fp.fRules) t24.fpart t24.fseats) most13) fun t82=>
   some t82
def scene_best_1_l1 (c134 : List Int) (c139 : Bool) (plan140 : List Int) (cost145 : Int) (t146 : Int) : Int→Option (Int⊕(Unit⊕((List Int)×Bool×(List Int)×Int))):=fun t226=>
  bif decide (t226 < (c134.length : Int)) then
    Option.bind (getI c134 t226) fun e235=>
    bif decide (e235 = t146) then
      some (Sum.inr (Sum.inr (c134,c139,plan140,cost145)))
    else
      Option.bind (rng (t226 + (1 : Int))) fun t242=>
      some (Sum.inl t242)
  else
    some (Sum.inr (Sum.inl ()))
def scene_best_1_p0 (self : Int→Int→repairscene→(List Int)→Bool→apiRanked→Int→Option ((List Int)×Bool×apiRanked)) (g1 : Int) (left2 : Int) (t3 : repairscene) (t11 : Int) (c134 : List Int) (c139 : Bool) (plan140 : List Int) (cost145 : Int) (t146 : Int) (moved173 : Bool) : Option ((List Int)×Bool×(List Int)×Int):=
  Option.bind (getI c134 g1) fun e246=>
  Option.bind (some (List.set c134 g1.toNat t146)) fun l250=>
  bif moved173 then
    Option.bind (rng (g1 + (1 : Int))) fun t256=>
    Option.bind (rng (left2 - (1 : Int))) fun t257=>
    Option.bind (self t256 t257 t3 l250 c139 (apiRanked.mk plan140 cost145) t11) fun (q271,q272,q273)=>
    Option.bind (getI q271 g1) fun e289=>
    Option.bind (some (List.set q271 g1.toNat (-1 : Int))) fun l292=>
    some (l292,q272,q273.fPlan,q273.fCost)
  else
    Option.bind (rng (g1 + (1 : Int))) fun t298=>
    Option.bind (self t298 left2 t3 l250 c139 (apiRanked.mk plan140 cost145) t11) fun (q312,q313,q314)=>
    Option.bind (getI q312 g1) fun e330=>
    Option.bind (some (List.set q312 g1.toNat (-1 : Int))) fun l333=>
    some (l333,q313,q314.fPlan,q314.fCost)
def scene_best_1_p1 (self : Int→Int→repairscene→(List Int)→Bool→apiRanked→Int→Option ((List Int)×Bool×apiRanked)) (g1 : Int) (left2 : Int) (t3 : repairscene) (t11 : Int) (c134 : List Int) (c139 : Bool) (plan140 : List Int) (cost145 : Int) (t146 : Int) (moved173 : Bool) : Option ((List Int)×Bool×(List Int)×Int):=
  Option.bind (
    bif moved173 then
      bif decide (left2 = (0 : Int)) then
        some true
      else
        bif decide (g1 = t11) then
          Option.bind (getI t3.fpart g1) fun e200=>
          some (decide (e200 = t146))
        else
          some false
    else
      bif decide (g1 = t11) then
        Option.bind (getI t3.fpart g1) fun e210=>
        some (decide (e210 = t146))
      else
        some false) fun t191=>
  bif t191 then
    some (c134,c139,plan140,cost145)
  else
    Option.bind (
      iter (scene_best_1_l1 c134 c139 plan140 cost145 t146) FUEL (0 : Int)) fun o223=>match o223 with
    | .inl _u=>
      scene_best_1_p0 self g1 left2 t3 t11 c134 c139 plan140 cost145 t146 moved173
    | .inr p=>
      some p
def scene_best_1_l0 (self : Int→Int→repairscene→(List Int)→Bool→apiRanked→Int→Option ((List Int)×Bool×apiRanked)) (g1 : Int) (left2 : Int) (t3 : repairscene) (t11 : Int) : ((List Int)×Bool×(List Int)×Int×Int)→Option (((List Int)×Bool×(List Int)×Int×Int)⊕((List Int)×Bool×(List Int)×Int)):=fun (c134,c139,plan140,cost145,t146)=>
  bif decide (t146 < t3.fseats) then
    Option.bind (
      Option.bind (
        Option.bind (getI t3.fpart g1) fun e176=>
        bif decide ((0 : Int)≤e176) then
          Option.bind (getI t3.fpart g1) fun e182=>
          some (!decide (e182 = t146))
        else
          some false) fun moved173=>
      scene_best_1_p1 self g1 left2 t3 t11 c134 c139 plan140 cost145 t146 moved173) fun (c158,c163,plan164,cost169)=>
    Option.bind (rng (t146 + (1 : Int))) fun t340=>
    some (Sum.inl (c158,c163,plan164,cost169,t340))
  else
    some (Sum.inr (c134,c139,plan140,cost145))
def scene_best_1_p2 (self : Int→Int→repairscene→(List Int)→Bool→apiRanked→Int→Option ((List Int)×Bool×apiRanked)) (g1 : Int) (left2 : Int) (t3 : repairscene) (t6 : List Int) (t8 : Bool) (t9 : apiRanked) (t11 : Int) : Option ((List Int)×Bool×apiRanked):=
  bif decide (g1 = (t6.length : Int)) then
    Option.bind (Judge_Cost t3.fJudge t6) fun t55=>
    Option.bind (
      bif decide (left2 = (0 : Int)) then
        bif !t8 then
          some true
        else
          some (decide (t55 < t9.fCost))
      else
        none) fun t70=>
    Option.bind (
      bif t70 then
        Option.bind (sl_CloneInt t6) fun t90=>
        some (true,t90,t55)
      else
        some (t8,t9.fPlan,t9.fCost)) fun (c79,plan80,cost85)=>
    some (t6,c79,(apiRanked.mk plan80 cost85))
  else
    Option.bind (
      iter (scene_best_1_l0 self g1 left2 t3 t11) FUEL (t6,t8,t9.fPlan,t9.fCost,(0 : Int))) fun (c121,c126,plan127,cost132)=>
    some (c121,c126,(apiRanked.mk plan127 cost132))
def scene_best_1 : Nat→Int→Int→repairscene→(List Int)→Bool→apiRanked→Int→Option ((List Int)×Bool×apiRanked)
  | 0,_,_,_,_,_,_,_=>none
  | n + 1,g1,left2,t3,t6,t8,t9,t11=>
    Option.bind (Judge_Dead t3.fJudge t6) fun (t33,t34)=>
    bif t34 then
      some (t6,t8,(apiRanked.mk t9.fPlan t9.fCost))
    else
      scene_best_1_p2 (scene_best_1 n) g1 left2 t3 t6 t8 t9 t11
def scene_best (s1 : repairscene) (moves2 : Int) (oust3 : Int) : Option (apiRanked×Bool):=
 Option.bind (sl_Repeat [(-1 : Int)] (s1.fpart.length : Int)) fun t41=>
 Option.bind (scene_best_1 RFUEL (0 : Int) moves2 s1 t41 false (apiRanked.mk ([] : List Int) (0 : Int)) oust3) fun (q76,q77,q78)=>
 some ((apiRanked.mk q78.fPlan q78.fCost),q77)
def scene_first_l0 (s1 : repairscene) (most2 : Int) (oust3 : Int) : Int→Option (Int⊕(Unit⊕(apiRepair×Int))):=fun n17=>
  bif decide (n17≤(min most2 (s1.fpart.length : Int))) then
    Option.bind (scene_best s1 n17 oust3) fun (t45,t46)=>
    bif t46 then
      Option.bind (Judge_Problem s1.fJudge) fun t65=>
      some (Sum.inr (Sum.inr ((apiRepair.mk t65 t45.fPlan n17 t45.fCost),(0 : Int))))
    else
      Option.bind (rng (n17 + (1 : Int))) fun t86=>
      some (Sum.inl t86)
  else
    some (Sum.inr (Sum.inl ()))
def scene_first (s1 : repairscene) (most2 : Int) (oust3 : Int) : Option (apiRepair×Int):=
 Option.bind (scene_tries s1 most2) fun t5=>
 bif decide ((20000 : Int) < t5) then
   some ((apiRepair.mk (apiProblem.mk ([] : List apiTable) ([] : List apiGuest) ([] : List apiTie) ([] : List Int) ([] : List apiRule)) ([] : List Int) (0 : Int) (0 : Int)),(8 : Int))
 else
   Option.bind (
     iter (scene_first_l0 s1 most2 oust3) FUEL (0 : Int)) fun o14=>match o14 with
   | .inl _u=>
     some ((apiRepair.mk (apiProblem.mk ([] : List apiTable) ([] : List apiGuest) ([] : List apiTie) ([] : List Int) ([] : List apiRule)) ([] : List Int) (0 : Int) (0 : Int)),(9 : Int))
   | .inr p=>
     some p
def repair_Fix (p1 : apiProblem) (part12 : List Int) (most13 : Int) : Option (apiRepair×Int):=
 Option.bind (repair_open p1 part12) fun (t25,t26)=>
 bif !decide (t26 = (0 : Int)) then
   none
 else
   Option.bind (scene_first (repairscene.mk t25.fJudge (apiProblem.mk t25.fp.fTables t25.fp.fGuests t25.fp.fTies t25.fp.fClass t25.fp.fRules) t25.fpart t25.fseats) (max most13 (0 : Int)) (-1 : Int)) fun (t113,t114)=>
   some (t113,t114)
def repair_Oust (p1 : apiProblem) (part12 : List Int) (g13 : Int) (most14 : Int) : Option (apiRepair×Int):=
 Option.bind (repair_open p1 part12) fun (t26,t27)=>
 bif !decide (t27 = (0 : Int)) then
   none
 else
   bif decide (g13 < (0 : Int)) then
     none
   else
     bif decide ((part12.length : Int)≤g13) then
       none
     else
       Option.bind (getI part12 g13) fun e66=>
       bif decide (e66 < (0 : Int)) then
         none
       else
         Option.bind (scene_first (repairscene.mk t26.fJudge (apiProblem.mk t26.fp.fTables t26.fp.fGuests t26.fp.fTies t26.fp.fClass t26.fp.fRules) t26.fpart t26.fseats) (max most14 (0 : Int)) g13) fun (t121,t122)=>
         some (t121,t122)
def repair_Keep_1 (r1 : apiRule) : Option (Bool):=
 some (decide ((0 : Int) < r1.fWeight))
def repair_Keep_l0 (p1 : apiProblem) (part12 : List Int) : ((List apiRule)×Int)→Option (((List apiRule)×Int)⊕(List apiRule)):=fun (rules131,t136)=>
  bif decide (t136 < (part12.length : Int)) then
    Option.bind (getI part12 t136) fun e145=>
    bif decide ((0 : Int)≤e145) then
      Option.bind (hall_Where p1.fTables e145) fun (t153,t154,t155)=>
      Option.bind (getI p1.fGuests t136) fun e164=>
      Option.bind (getI p1.fTables t153) fun e171=>
      Option.bind (apL rules131 [(apiRule.mk (7 : Int) (1 : Int) e164.fName (⟨#[]⟩ : ByteArray) e171.fName t154)]) fun t180=>
      Option.bind (rng (t136 + (1 : Int))) fun t189=>
      some (Sum.inl (t180,t189))
    else
      none
  else
    some (Sum.inr rules131)
def repair_Keep (p1 : apiProblem) (part12 : List Int) : Option (apiProblem×Int):=
 Option.bind (repair_open p1 part12) fun (t24,t25)=>
 bif !decide (t25 = (0 : Int)) then
   none
 else
   Option.bind (Judge_ProblemR t24.fJudge) fun t61=>
   Option.bind (sl_DeleteFuncRule t61.fRules repair_Keep_1) fun t108=>
   Option.bind (
     iter (repair_Keep_l0 p1 part12) FUEL (t108,(0 : Int))) fun rules126=>
   bif decide ((64 : Int) < (rules126.length : Int)) then
     some ((apiProblem.mk ([] : List apiTable) ([] : List apiGuest) ([] : List apiTie) ([] : List Int) ([] : List apiRule)),(7 : Int))
   else
     some ((apiProblem.mk t61.fTables t61.fGuests t61.fTies t61.fClass rules126),(0 : Int))
def repair_Prove (p1 : apiProblem) (part12 : List Int) (moved13 : Int) : Option ((List apiStep)×Int):=
 Option.bind (repair_Keep p1 part12) fun (t24,t25)=>
 bif !decide (t25 = (0 : Int)) then
   none
 else
   Option.bind (search_Prove t24 moved13) fun (t54,t55)=>
   some (t54,t55)
def scene_upset_l0 (s1 : repairscene) : (Int×(List Int))→Option ((Int×(List Int))⊕(List Int)):=fun (t29,out30)=>
  bif decide (t29 < (s1.fp.fRules.length : Int)) then
    Option.bind (getI s1.fp.fRules t29) fun e43=>
    bif decide (e43.fWeight = (0 : Int)) then
      Option.bind (Judge_Least s1.fJudge s1.fpart t29) fun t57=>
      bif decide ((0 : Int) < t57) then
        Option.bind (apL out30 [t29]) fun t69=>
        Option.bind (rng (t29 + (1 : Int))) fun t77=>
        some (Sum.inl (t77,t69))
      else
        none
    else
      none
  else
    some (Sum.inr out30)
def scene_upset (s1 : repairscene) : Option (List Int):=
 Option.bind (
   iter (scene_upset_l0 s1) FUEL ((0 : Int),([] : List Int))) fun out22=>
 some out22
def repair_Upset (p1 : apiProblem) (part12 : List Int) : Option (List Int):=
 Option.bind (repair_open p1 part12) fun (t23,t24)=>
 bif !decide (t24 = (0 : Int)) then
   none
 else
   Option.bind (scene_upset (repairscene.mk t23.fJudge (apiProblem.mk t23.fp.fTables t23.fp.fGuests t23.fp.fTies t23.fp.fClass t23.fp.fRules) t23.fpart t23.fseats)) fun t81=>
   some t81
def Judge_Blame_1 (u1 : Int) (who2 : List Int) (t3 : List Int) : Option (List Int):=
 Option.bind (apL t3 who2) fun t5=>
 some t5
def Judge_Blame_p0 (i3 : Int) (t4 : ruleview) : Option (List Int):=
  bif decide ((t4.fJudge.fgiven.fRules.length : Int)≤i3) then
    none
  else
    Option.bind (getI t4.fJudge.fgiven.fRules i3) fun e56=>
    Option.bind (lkM t4.fJudge.fkinds e56.fKind (rulekind.mk (⟨#[]⟩ : ByteArray) (0 : Int) false (0 : Int) false (0 : Int) false (0 : Nat))) fun (e59,ok60)=>
    Option.bind (getI t4.fJudge.fgiven.fRules i3) fun e63=>
    Option.bind (rule_find e59.ffind t4 e63 (fun s_ y0 y1=>Judge_Blame_1 y0 y1 s_) ([] : List Int)) fun s79=>
    Option.bind (sl_SortInt s79) fun l98=>
    Option.bind (sl_CompactInt l98) fun t109=>
    some t109
def Judge_Blame (j1 : ruleJudge) (part2 : List Int) (i3 : Int) : Option (List Int):=
 Option.bind (Judge_look j1 part2) fun t4=>
 bif decide (i3 < (0 : Int)) then
   none
 else
   Judge_Blame_p0 i3 t4
def repair_AtLeast_1 (g1 : Int) (t2 : List Int) : Option (Bool):=
 Option.bind (sl_ContainsInt t2 g1) fun t5=>
 some t5
def repair_AtLeast_p0 (t23 : repairscene) (c129 : List Int) (t134 : Int) (n135 : Int) (e144 : Int) (e148 : apiRule) : Option (((List Int)×Int×Int)⊕Int):=
  bif decide (e148.fKind = (11 : Int)) then
    none
  else
    bif decide (e148.fKind = (15 : Int)) then
      none
    else
      Option.bind (Judge_Blame t23.fJudge t23.fpart e144) fun t159=>
      Option.bind (sl_ContainsFuncInt t159 (fun y0=>repair_AtLeast_1 y0 c129)) fun t183=>
      bif !t183 then
        Option.bind (apL c129 t159) fun t206=>
        Option.bind (rng (n135 + (1 : Int))) fun t218=>
        Option.bind (rng (t134 + (1 : Int))) fun t219=>
        some (Sum.inl (t206,t219,t218))
      else
        none
def repair_AtLeast_l0 (t23 : repairscene) (t82 : List Int) : ((List Int)×Int×Int)→Option (((List Int)×Int×Int)⊕Int):=fun (c129,t134,n135)=>
  bif decide (t134 < (t82.length : Int)) then
    Option.bind (getI t82 t134) fun e144=>
    Option.bind (getI t23.fp.fRules e144) fun e148=>
    bif decide (e148.fKind = (9 : Int)) then
      none
    else
      repair_AtLeast_p0 t23 c129 t134 n135 e144 e148
  else
    some (Sum.inr n135)
def repair_AtLeast (p1 : apiProblem) (part12 : List Int) : Option (Int):=
 Option.bind (repair_open p1 part12) fun (t23,t24)=>
 bif !decide (t24 = (0 : Int)) then
   none
 else
   Option.bind (scene_upset (repairscene.mk t23.fJudge (apiProblem.mk t23.fp.fTables t23.fp.fGuests t23.fp.fTies t23.fp.fClass t23.fp.fRules) t23.fpart t23.fseats)) fun t82=>
   Option.bind (
     iter (repair_AtLeast_l0 t23 t82) FUEL (([] : List Int),(0 : Int),(0 : Int))) fun n126=>
   some n126
def law10_awake_p0 : Option (Bool):=
  Option.bind (law10_trio false [(apiRule.mk (7 : Int) (0 : Int) (⟨#[99,97,114,108]⟩ : ByteArray) (⟨#[]⟩ : ByteArray) (⟨#[114]⟩ : ByteArray) (0 : Int))]) fun t471=>
  Option.bind (repair_Fix t471 [(0 : Int),(1 : Int),(2 : Int)] (1 : Int)) fun (t501,t502)=>
  Option.bind (repair_Fix t471 [(0 : Int),(1 : Int),(2 : Int)] (2 : Int)) fun (t529,t530)=>
  Option.bind (law10_trio false ([] : List apiRule)) fun t555=>
  Option.bind (repair_Oust t555 [(0 : Int),(1 : Int),(2 : Int)] (1 : Int) (1 : Int)) fun (t575,t576)=>
  bif decide (t502 = (9 : Int)) then
    Option.bind (rng (t530 + t576)) fun t602=>
    bif decide (t602 = (0 : Int)) then
      bif decide (t529.fMoved = (2 : Int)) then
        Option.bind (kit_SameInts t529.fPlan [(2 : Int),(1 : Int),(0 : Int)]) fun t617=>
        bif t617 then
          Option.bind (kit_SameInts t575.fPlan [(0 : Int),(3 : Int),(2 : Int)]) fun t638=>
          some t638
        else
          none
      else
        none
    else
      none
  else
    none
def law10_awake_p1 : Option (Bool):=
  Option.bind (law10_trio false ([] : List apiRule)) fun t319=>
  Option.bind (repair_Apply t319 [(0 : Int),(1 : Int),(2 : Int)] (apiChange.mk (1 : Int) (apiGuest.mk (⟨#[100,111,114,97]⟩ : ByteArray) (⟨#[]⟩ : ByteArray) (⟨#[]⟩ : ByteArray) (0 : Int) (0 : Int) (⟨#[]⟩ : ByteArray) false false ([] : List ByteArray)) (⟨#[]⟩ : ByteArray) (⟨#[]⟩ : ByteArray) (⟨#[]⟩ : ByteArray) (0 : Int) (apiRule.mk (0 : Int) (0 : Int) (⟨#[]⟩ : ByteArray) (⟨#[]⟩ : ByteArray) (⟨#[]⟩ : ByteArray) (0 : Int)))) fun (t339,t340,t341)=>
  Option.bind (repair_Fix t339 t340 (0 : Int)) fun (t379,t380)=>
  Option.bind (rng (t341 + t380)) fun t405=>
  bif !decide (t405 = (0 : Int)) then
    none
  else
    Option.bind (kit_SameInts t379.fPlan [(0 : Int),(1 : Int),(2 : Int),(3 : Int)]) fun t417=>
    bif !t417 then
      none
    else
      bif !decide (t379.fMoved = (0 : Int)) then
        none
      else
        Option.bind (repair_Tries t339 t340 (0 : Int)) fun t438=>
        bif !decide (t438 = (1 : Int)) then
          none
        else
          Option.bind (repair_Tries t339 t340 (1 : Int)) fun t454=>
          bif !decide (t454 = (7 : Int)) then
            none
          else
            law10_awake_p0
def law10_awake_p2 (t33 : apiProblem) (t34 : List Int) (t112 : apiRepair) (t220 : Int) : Option (Bool):=
  bif !decide (t220 = (66 : Int)) then
    none
  else
    bif !decide (t112.fMoved = (1 : Int)) then
      none
    else
      Option.bind (kit_SameInts t112.fPlan [(0 : Int),(4 : Int),(2 : Int)]) fun t251=>
      bif !t251 then
        none
      else
        Option.bind (repair_AtLeast t33 t34) fun t268=>
        bif !decide (t268 = (1 : Int)) then
          none
        else
          Option.bind (repair_Upset t33 t34) fun t284=>
          Option.bind (kit_SameInts t284 [(0 : Int)]) fun t310=>
          bif !t310 then
            none
          else
            law10_awake_p1
def law10_awake_p3 (t33 : apiProblem) (t34 : List Int) : Option (Bool):=
  Option.bind (repair_Fix t33 t34 (1 : Int)) fun (t112,t113)=>
  Option.bind (repair_Prove t33 t34 (1 : Int)) fun (t146,t147)=>
  Option.bind (repair_Keep t33 t34) fun (t166,t167)=>
  Option.bind (search_Verify t166 (1 : Int) t146) fun (t202,t203)=>
  Option.bind (repair_Prove t33 t34 (2 : Int)) fun (t219,t220)=>
  Option.bind (rng (t113 + t147)) fun t232=>
  Option.bind (rng (t232 + t167)) fun t233=>
  Option.bind (rng (t233 + t203)) fun t234=>
  bif !decide (t234 = (0 : Int)) then
    none
  else
    bif !decide (t202 = (0 : Int)) then
      none
    else
      law10_awake_p2 t33 t34 t112 t220
def law10_awake  : Option (Bool):=
 Option.bind (law10_trio true ([] : List apiRule)) fun t4=>
 Option.bind (repair_Apply t4 [(0 : Int),(1 : Int),(2 : Int)] (apiChange.mk (3 : Int) (apiGuest.mk (⟨#[]⟩ : ByteArray) (⟨#[]⟩ : ByteArray) (⟨#[]⟩ : ByteArray) (0 : Int) (0 : Int) (⟨#[]⟩ : ByteArray) false false ([] : List ByteArray)) (⟨#[97,110,110,97]⟩ : ByteArray) (⟨#[98,111,114,105,115]⟩ : ByteArray) (⟨#[]⟩ : ByteArray) (0 : Int) (apiRule.mk (0 : Int) (0 : Int) (⟨#[]⟩ : ByteArray) (⟨#[]⟩ : ByteArray) (⟨#[]⟩ : ByteArray) (0 : Int)))) fun (t33,t34,t35)=>
 bif !decide (t35 = (0 : Int)) then
   none
 else
   Option.bind (kit_SameInts t34 [(0 : Int),(1 : Int),(2 : Int)]) fun t71=>
   bif !t71 then
     none
   else
     Option.bind (kit_SameRules t33.fRules [(apiRule.mk (1 : Int) (0 : Int) (⟨#[97,110,110,97]⟩ : ByteArray) (⟨#[98,111,114,105,115]⟩ : ByteArray) (⟨#[]⟩ : ByteArray) (2 : Int))]) fun t92=>
     bif !t92 then
       none
     else
       bif !decide ((t33.fTies.length : Int) = (1 : Int)) then
         none
       else
         law10_awake_p3 t33 t34
def law10_RepairSmall_p0 (guests24 : List apiGuest) (part29 : List Int) (i34 : Int) : Option (((List apiGuest)×(List Int)×Int)⊕((List Int)×(List apiGuest))):=
  Option.bind (quoI i34 (26 : Int)) fun t43=>
  Option.bind (rng ((97 : Int) + t43)) fun t44=>
  Option.bind (rngK .u8 t44) fun t45=>
  Option.bind (remI i34 (26 : Int)) fun t46=>
  Option.bind (rng ((97 : Int) + t46)) fun t47=>
  Option.bind (rngK .u8 t47) fun t48=>
  Option.bind (apL guests24 [(apiGuest.mk (bytesS [t45,t48]) (⟨#[]⟩ : ByteArray) (⟨#[]⟩ : ByteArray) (0 : Int) (0 : Int) (⟨#[]⟩ : ByteArray) false false ([] : List ByteArray))]) fun t55=>
  Option.bind (apL part29 [i34]) fun t66=>
  Option.bind (rng (i34 + (1 : Int))) fun t72=>
  some (Sum.inl (t55,t66,t72))
def law10_RepairSmall_l0 : ((List apiGuest)×(List Int)×Int)→Option (((List apiGuest)×(List Int)×Int)⊕((List Int)×(List apiGuest))):=fun (guests24,part29,i34)=>
  bif decide (i34 < (63 : Int)) then
    law10_RepairSmall_p0 guests24 part29 i34
  else
    some (Sum.inr (part29,guests24))
def law10_RepairSmall_l1 : ((List apiRule)×Int)→Option (((List apiRule)×Int)⊕(List apiRule)):=fun (rules365,i370)=>
  bif decide (i370 < (64 : Int)) then
    Option.bind (remI i370 (2 : Int)) fun t379=>
    Option.bind (apL rules365 [(apiRule.mk (18 : Int) t379 (⟨#[]⟩ : ByteArray) (⟨#[]⟩ : ByteArray) (⟨#[]⟩ : ByteArray) (0 : Int))]) fun t383=>
    Option.bind (rng (i370 + (1 : Int))) fun t391=>
    some (Sum.inl (t383,t391))
  else
    some (Sum.inr rules365)
def law10_RepairSmall_p1 (part10 : List Int) (guests15 : List apiGuest) (rules358 : List apiRule) (t401 : Int) : Option (Int⊕Unit):=
  Option.bind (getI [(apiChange.mk (3 : Int) (apiGuest.mk (⟨#[]⟩ : ByteArray) (⟨#[]⟩ : ByteArray) (⟨#[]⟩ : ByteArray) (0 : Int) (0 : Int) (⟨#[]⟩ : ByteArray) false false ([] : List ByteArray)) (⟨#[97,97]⟩ : ByteArray) (⟨#[97,98]⟩ : ByteArray) (⟨#[]⟩ : ByteArray) (0 : Int) (apiRule.mk (0 : Int) (0 : Int) (⟨#[]⟩ : ByteArray) (⟨#[]⟩ : ByteArray) (⟨#[]⟩ : ByteArray) (0 : Int))),(apiChange.mk (4 : Int) (apiGuest.mk (⟨#[]⟩ : ByteArray) (⟨#[]⟩ : ByteArray) (⟨#[]⟩ : ByteArray) (0 : Int) (0 : Int) (⟨#[]⟩ : ByteArray) false false ([] : List ByteArray)) (⟨#[]⟩ : ByteArray) (⟨#[]⟩ : ByteArray) (⟨#[97]⟩ : ByteArray) (0 : Int) (apiRule.mk (0 : Int) (0 : Int) (⟨#[]⟩ : ByteArray) (⟨#[]⟩ : ByteArray) (⟨#[]⟩ : ByteArray) (0 : Int))),(apiChange.mk (5 : Int) (apiGuest.mk (⟨#[]⟩ : ByteArray) (⟨#[]⟩ : ByteArray) (⟨#[]⟩ : ByteArray) (0 : Int) (0 : Int) (⟨#[]⟩ : ByteArray) false false ([] : List ByteArray)) (⟨#[]⟩ : ByteArray) (⟨#[]⟩ : ByteArray) (⟨#[]⟩ : ByteArray) (0 : Int) (apiRule.mk (18 : Int) (0 : Int) (⟨#[]⟩ : ByteArray) (⟨#[]⟩ : ByteArray) (⟨#[]⟩ : ByteArray) (0 : Int)))] t401) fun e410=>
  Option.bind (repair_Check (apiProblem.mk [(apiTable.mk (⟨#[97]⟩ : ByteArray) (4 : Int) (24 : Int) (0 : Int) ([] : List Int) (0 : Int) (0 : Int)),(apiTable.mk (⟨#[98]⟩ : ByteArray) (4 : Int) (24 : Int) (0 : Int) ([] : List Int) (0 : Int) (0 : Int)),(apiTable.mk (⟨#[99]⟩ : ByteArray) (4 : Int) (16 : Int) (0 : Int) ([] : List Int) (0 : Int) (0 : Int))] guests15 ([] : List apiTie) ([] : List Int) rules358) part10 e410) fun t424=>
  bif !decide (t424 = (7 : Int)) then
    none
  else
    Option.bind (rng (t401 + (1 : Int))) fun t442=>
    some (Sum.inl t442)
def law10_RepairSmall_l2 (part10 : List Int) (guests15 : List apiGuest) (rules358 : List apiRule) : Int→Option (Int⊕Unit):=fun t401=>
  bif decide (t401 < ([(apiChange.mk (3 : Int) (apiGuest.mk (⟨#[]⟩ : ByteArray) (⟨#[]⟩ : ByteArray) (⟨#[]⟩ : ByteArray) (0 : Int) (0 : Int) (⟨#[]⟩ : ByteArray) false false ([] : List ByteArray)) (⟨#[97,97]⟩ : ByteArray) (⟨#[97,98]⟩ : ByteArray) (⟨#[]⟩ : ByteArray) (0 : Int) (apiRule.mk (0 : Int) (0 : Int) (⟨#[]⟩ : ByteArray) (⟨#[]⟩ : ByteArray) (⟨#[]⟩ : ByteArray) (0 : Int))),(apiChange.mk (4 : Int) (apiGuest.mk (⟨#[]⟩ : ByteArray) (⟨#[]⟩ : ByteArray) (⟨#[]⟩ : ByteArray) (0 : Int) (0 : Int) (⟨#[]⟩ : ByteArray) false false ([] : List ByteArray)) (⟨#[]⟩ : ByteArray) (⟨#[]⟩ : ByteArray) (⟨#[97]⟩ : ByteArray) (0 : Int) (apiRule.mk (0 : Int) (0 : Int) (⟨#[]⟩ : ByteArray) (⟨#[]⟩ : ByteArray) (⟨#[]⟩ : ByteArray) (0 : Int))),(apiChange.mk (5 : Int) (apiGuest.mk (⟨#[]⟩ : ByteArray) (⟨#[]⟩ : ByteArray) (⟨#[]⟩ : ByteArray) (0 : Int) (0 : Int) (⟨#[]⟩ : ByteArray) false false ([] : List ByteArray)) (⟨#[]⟩ : ByteArray) (⟨#[]⟩ : ByteArray) (⟨#[]⟩ : ByteArray) (0 : Int) (apiRule.mk (18 : Int) (0 : Int) (⟨#[]⟩ : ByteArray) (⟨#[]⟩ : ByteArray) (⟨#[]⟩ : ByteArray) (0 : Int)))].length : Int)) then
    law10_RepairSmall_p1 part10 guests15 rules358 t401
  else
    some (Sum.inr ())
def law10_RepairSmall_p2 (t525 : List apiTable) : Option (Bool):=
  Option.bind (repair_Check (apiProblem.mk t525 [(apiGuest.mk (⟨#[97]⟩ : ByteArray) (⟨#[]⟩ : ByteArray) (⟨#[]⟩ : ByteArray) (0 : Int) (0 : Int) (⟨#[]⟩ : ByteArray) false false ([] : List ByteArray))] ([] : List apiTie) [(7 : Int)] ([] : List apiRule)) [(3 : Int)] (apiChange.mk (6 : Int) (apiGuest.mk (⟨#[]⟩ : ByteArray) (⟨#[]⟩ : ByteArray) (⟨#[]⟩ : ByteArray) (0 : Int) (0 : Int) (⟨#[]⟩ : ByteArray) false false ([] : List ByteArray)) (⟨#[]⟩ : ByteArray) (⟨#[]⟩ : ByteArray) (⟨#[]⟩ : ByteArray) (0 : Int) (apiRule.mk (0 : Int) (0 : Int) (⟨#[]⟩ : ByteArray) (⟨#[]⟩ : ByteArray) (⟨#[]⟩ : ByteArray) (0 : Int)))) fun t643=>
  bif decide (t643 = (100 : Int)) then
    Option.bind (law10_awake) fun t652=>
    some t652
  else
    none
def law10_RepairSmall_p3 (t525 : List apiTable) : Option (Bool):=
  Option.bind (repair_Check (apiProblem.mk t525 [(apiGuest.mk (⟨#[97]⟩ : ByteArray) (⟨#[]⟩ : ByteArray) (⟨#[]⟩ : ByteArray) (0 : Int) (0 : Int) (⟨#[]⟩ : ByteArray) false false ([] : List ByteArray))] ([] : List apiTie) [(7 : Int)] ([] : List apiRule)) [(3 : Int)] (apiChange.mk (0 : Int) (apiGuest.mk (⟨#[]⟩ : ByteArray) (⟨#[]⟩ : ByteArray) (⟨#[]⟩ : ByteArray) (0 : Int) (0 : Int) (⟨#[]⟩ : ByteArray) false false ([] : List ByteArray)) (⟨#[]⟩ : ByteArray) (⟨#[]⟩ : ByteArray) (⟨#[]⟩ : ByteArray) (0 : Int) (apiRule.mk (0 : Int) (0 : Int) (⟨#[]⟩ : ByteArray) (⟨#[]⟩ : ByteArray) (⟨#[]⟩ : ByteArray) (0 : Int)))) fun t620=>
  bif decide (t620 = (100 : Int)) then
    law10_RepairSmall_p2 t525
  else
    none
def law10_RepairSmall_p4 : Option (Bool):=
  Option.bind (sbL [(apiTable.mk (⟨#[97]⟩ : ByteArray) (4 : Int) (24 : Int) (0 : Int) ([] : List Int) (0 : Int) (0 : Int)),(apiTable.mk (⟨#[98]⟩ : ByteArray) (4 : Int) (24 : Int) (0 : Int) ([] : List Int) (0 : Int) (0 : Int)),(apiTable.mk (⟨#[99]⟩ : ByteArray) (4 : Int) (16 : Int) (0 : Int) ([] : List Int) (0 : Int) (0 : Int))] 0 (1 : Int)) fun t525=>
  Option.bind (repair_Apply (apiProblem.mk t525 [(apiGuest.mk (⟨#[97]⟩ : ByteArray) (⟨#[]⟩ : ByteArray) (⟨#[]⟩ : ByteArray) (0 : Int) (0 : Int) (⟨#[]⟩ : ByteArray) false false ([] : List ByteArray))] ([] : List apiTie) [(7 : Int)] ([] : List apiRule)) [(3 : Int)] (apiChange.mk (2 : Int) (apiGuest.mk (⟨#[]⟩ : ByteArray) (⟨#[]⟩ : ByteArray) (⟨#[]⟩ : ByteArray) (0 : Int) (0 : Int) (⟨#[]⟩ : ByteArray) false false ([] : List ByteArray)) (⟨#[97]⟩ : ByteArray) (⟨#[]⟩ : ByteArray) (⟨#[]⟩ : ByteArray) (0 : Int) (apiRule.mk (0 : Int) (0 : Int) (⟨#[]⟩ : ByteArray) (⟨#[]⟩ : ByteArray) (⟨#[]⟩ : ByteArray) (0 : Int)))) fun (t570,t571,t572)=>
  bif decide (t572 = (0 : Int)) then
    Option.bind (rng ((t570.fGuests.length : Int) + (t570.fClass.length : Int))) fun t602=>
    Option.bind (rng (t602 + (t571.length : Int))) fun t604=>
    bif decide (t604 = (0 : Int)) then
      law10_RepairSmall_p3 t525
    else
      none
  else
    none
def law10_RepairSmall_p5 (part10 : List Int) (guests15 : List apiGuest) (rules358 : List apiRule) : Option (Bool):=
  Option.bind (repair_Keep (apiProblem.mk [(apiTable.mk (⟨#[97]⟩ : ByteArray) (4 : Int) (24 : Int) (0 : Int) ([] : List Int) (0 : Int) (0 : Int)),(apiTable.mk (⟨#[98]⟩ : ByteArray) (4 : Int) (24 : Int) (0 : Int) ([] : List Int) (0 : Int) (0 : Int)),(apiTable.mk (⟨#[99]⟩ : ByteArray) (4 : Int) (16 : Int) (0 : Int) ([] : List Int) (0 : Int) (0 : Int))] guests15 ([] : List apiTie) ([] : List Int) rules358) part10) fun (t457,t458)=>
  Option.bind (sbL rules358 0 (2 : Int)) fun t483=>
  Option.bind (repair_Keep (apiProblem.mk [(apiTable.mk (⟨#[97]⟩ : ByteArray) (4 : Int) (24 : Int) (0 : Int) ([] : List Int) (0 : Int) (0 : Int)),(apiTable.mk (⟨#[98]⟩ : ByteArray) (4 : Int) (24 : Int) (0 : Int) ([] : List Int) (0 : Int) (0 : Int)),(apiTable.mk (⟨#[99]⟩ : ByteArray) (4 : Int) (16 : Int) (0 : Int) ([] : List Int) (0 : Int) (0 : Int))] guests15 ([] : List apiTie) ([] : List Int) t483) part10) fun (t491,t492)=>
  bif !decide (t458 = (7 : Int)) then
    none
  else
    bif !decide ((t457.fRules.length : Int) = (0 : Int)) then
      none
    else
      bif !decide (t492 = (0 : Int)) then
        none
      else
        bif !decide ((t491.fRules.length : Int) = (64 : Int)) then
          none
        else
          law10_RepairSmall_p4
def law10_RepairSmall_p6 (part10 : List Int) (guests15 : List apiGuest) (t98 : apiProblem) (t99 : List Int) : Option (Bool):=
  Option.bind (repair_Tries t98 t99 (1 : Int)) fun t314=>
  bif !decide (t314 = (127 : Int)) then
    none
  else
    Option.bind (repair_Tries t98 t99 (2 : Int)) fun t330=>
    bif !decide (t330 = (11845 : Int)) then
      none
    else
      Option.bind (repair_Tries t98 t99 (3 : Int)) fun t346=>
      bif !decide (t346 = (20001 : Int)) then
        none
      else
        Option.bind (
          iter law10_RepairSmall_l1 FUEL (([] : List apiRule),(0 : Int))) fun rules358=>
        Option.bind (
          iter (law10_RepairSmall_l2 part10 guests15 rules358) FUEL (0 : Int)) fun _u=>
        law10_RepairSmall_p5 part10 guests15 rules358
def law10_RepairSmall_p7 (part10 : List Int) (guests15 : List apiGuest) (t98 : apiProblem) (t99 : List Int) : Option (Bool):=
  Option.bind (repair_Fix t98 t99 (0 : Int)) fun (t220,t221)=>
  Option.bind (repair_Fix t98 t99 (3 : Int)) fun (t254,t255)=>
  bif !decide (t221 = (0 : Int)) then
    none
  else
    bif !decide (t220.fMoved = (0 : Int)) then
      none
    else
      Option.bind (getI t220.fPlan (63 : Int)) fun e284=>
      bif !decide (e284 = (63 : Int)) then
        none
      else
        bif !decide (t255 = (8 : Int)) then
          none
        else
          Option.bind (repair_Tries t98 t99 (0 : Int)) fun t298=>
          bif !decide (t298 = (1 : Int)) then
            none
          else
            law10_RepairSmall_p6 part10 guests15 t98 t99
def law10_RepairSmall_p8 (part10 : List Int) (guests15 : List apiGuest) (t98 : apiProblem) (t99 : List Int) : Option (Bool):=
  Option.bind (repair_Check (apiProblem.mk [(apiTable.mk (⟨#[97]⟩ : ByteArray) (4 : Int) (24 : Int) (0 : Int) ([] : List Int) (0 : Int) (0 : Int)),(apiTable.mk (⟨#[98]⟩ : ByteArray) (4 : Int) (24 : Int) (0 : Int) ([] : List Int) (0 : Int) (0 : Int)),(apiTable.mk (⟨#[99]⟩ : ByteArray) (4 : Int) (16 : Int) (0 : Int) ([] : List Int) (0 : Int) (0 : Int))] guests15 ([] : List apiTie) ([] : List Int) ([] : List apiRule)) part10 (apiChange.mk (1 : Int) (apiGuest.mk (⟨#[122,122]⟩ : ByteArray) (⟨#[]⟩ : ByteArray) (⟨#[]⟩ : ByteArray) (0 : Int) (0 : Int) (⟨#[]⟩ : ByteArray) false false ([] : List ByteArray)) (⟨#[]⟩ : ByteArray) (⟨#[]⟩ : ByteArray) (⟨#[]⟩ : ByteArray) (1 : Int) (apiRule.mk (0 : Int) (0 : Int) (⟨#[]⟩ : ByteArray) (⟨#[]⟩ : ByteArray) (⟨#[]⟩ : ByteArray) (0 : Int)))) fun t203=>
  bif !decide (t203 = (44 : Int)) then
    none
  else
    law10_RepairSmall_p7 part10 guests15 t98 t99
def law10_RepairSmall_p9 (part10 : List Int) (guests15 : List apiGuest) (t98 : apiProblem) (t99 : List Int) : Option (Bool):=
  Option.bind (repair_Check (apiProblem.mk [(apiTable.mk (⟨#[97]⟩ : ByteArray) (4 : Int) (24 : Int) (0 : Int) ([] : List Int) (0 : Int) (0 : Int)),(apiTable.mk (⟨#[98]⟩ : ByteArray) (4 : Int) (24 : Int) (0 : Int) ([] : List Int) (0 : Int) (0 : Int)),(apiTable.mk (⟨#[99]⟩ : ByteArray) (4 : Int) (15 : Int) (0 : Int) ([] : List Int) (0 : Int) (0 : Int))] guests15 ([] : List apiTie) ([] : List Int) ([] : List apiRule)) part10 (apiChange.mk (1 : Int) (apiGuest.mk (⟨#[122,122]⟩ : ByteArray) (⟨#[]⟩ : ByteArray) (⟨#[]⟩ : ByteArray) (0 : Int) (0 : Int) (⟨#[]⟩ : ByteArray) false false ([] : List ByteArray)) (⟨#[]⟩ : ByteArray) (⟨#[]⟩ : ByteArray) (⟨#[]⟩ : ByteArray) (1 : Int) (apiRule.mk (0 : Int) (0 : Int) (⟨#[]⟩ : ByteArray) (⟨#[]⟩ : ByteArray) (⟨#[]⟩ : ByteArray) (0 : Int)))) fun t185=>
  bif !decide (t185 = (45 : Int)) then
    none
  else
    law10_RepairSmall_p8 part10 guests15 t98 t99
def law10_RepairSmall_p10 (part10 : List Int) (guests15 : List apiGuest) (t98 : apiProblem) (t99 : List Int) : Option (Bool):=
  Option.bind (repair_Check t98 t99 (apiChange.mk (1 : Int) (apiGuest.mk (⟨#[122,121]⟩ : ByteArray) (⟨#[]⟩ : ByteArray) (⟨#[]⟩ : ByteArray) (0 : Int) (0 : Int) (⟨#[]⟩ : ByteArray) false false ([] : List ByteArray)) (⟨#[]⟩ : ByteArray) (⟨#[]⟩ : ByteArray) (⟨#[]⟩ : ByteArray) (0 : Int) (apiRule.mk (0 : Int) (0 : Int) (⟨#[]⟩ : ByteArray) (⟨#[]⟩ : ByteArray) (⟨#[]⟩ : ByteArray) (0 : Int)))) fun t147=>
  bif !decide (t147 = (7 : Int)) then
    none
  else
    Option.bind (repair_Check t98 t99 (apiChange.mk (1 : Int) (apiGuest.mk (⟨#[122,122]⟩ : ByteArray) (⟨#[]⟩ : ByteArray) (⟨#[]⟩ : ByteArray) (0 : Int) (0 : Int) (⟨#[]⟩ : ByteArray) false false ([] : List ByteArray)) (⟨#[]⟩ : ByteArray) (⟨#[]⟩ : ByteArray) (⟨#[]⟩ : ByteArray) (0 : Int) (apiRule.mk (0 : Int) (0 : Int) (⟨#[]⟩ : ByteArray) (⟨#[]⟩ : ByteArray) (⟨#[]⟩ : ByteArray) (0 : Int)))) fun t164=>
    bif !decide (t164 = (5 : Int)) then
      none
    else
      law10_RepairSmall_p9 part10 guests15 t98 t99
def law10_RepairSmall_p11 (part10 : List Int) (guests15 : List apiGuest) : Option (Bool):=
  Option.bind (repair_Apply (apiProblem.mk [(apiTable.mk (⟨#[97]⟩ : ByteArray) (4 : Int) (24 : Int) (0 : Int) ([] : List Int) (0 : Int) (0 : Int)),(apiTable.mk (⟨#[98]⟩ : ByteArray) (4 : Int) (24 : Int) (0 : Int) ([] : List Int) (0 : Int) (0 : Int)),(apiTable.mk (⟨#[99]⟩ : ByteArray) (4 : Int) (16 : Int) (0 : Int) ([] : List Int) (0 : Int) (0 : Int))] guests15 ([] : List apiTie) ([] : List Int) ([] : List apiRule)) part10 (apiChange.mk (1 : Int) (apiGuest.mk (⟨#[122,122]⟩ : ByteArray) (⟨#[]⟩ : ByteArray) (⟨#[]⟩ : ByteArray) (0 : Int) (0 : Int) (⟨#[]⟩ : ByteArray) false false ([] : List ByteArray)) (⟨#[]⟩ : ByteArray) (⟨#[]⟩ : ByteArray) (⟨#[]⟩ : ByteArray) (0 : Int) (apiRule.mk (0 : Int) (0 : Int) (⟨#[]⟩ : ByteArray) (⟨#[]⟩ : ByteArray) (⟨#[]⟩ : ByteArray) (0 : Int)))) fun (t98,t99,t100)=>
  bif !decide (t100 = (0 : Int)) then
    none
  else
    bif !decide ((t98.fGuests.length : Int) = (64 : Int)) then
      none
    else
      Option.bind (getI t99 (63 : Int)) fun e130=>
      bif !decide (e130 = (-1 : Int)) then
        none
      else
        law10_RepairSmall_p10 part10 guests15 t98 t99
def law10_RepairSmall  : Option (Bool):=
 Option.bind (
   iter law10_RepairSmall_l0 FUEL (([] : List apiGuest),([] : List Int),(0 : Int))) fun (part10,guests15)=>
 law10_RepairSmall_p11 part10 guests15
end Go.Dm
