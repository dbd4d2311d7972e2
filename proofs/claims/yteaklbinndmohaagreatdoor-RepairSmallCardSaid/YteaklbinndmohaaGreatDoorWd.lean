import Derived.Test.YteaklbinndmohaaGreatDoorChecked
import Derived.KernelRfl
import Derived.Test.YteaklbinndmohaaGreatDoorV
import Derived.Test.YteaklbinndmohaaGreatDoorL9
import Derived.Test.YteaklbinndmohaaGreatDoorDa
import Derived.Test.YteaklbinndmohaaGreatDoorL10
import Derived.Test.YteaklbinndmohaaGreatDoorWc
/- The walks: each function computes what its Lean function says. -/
set_option maxRecDepth 1000000
set_option maxHeartbeats 40000000
set_option linter.unusedVariables false
set_option linter.unusedSimpArgs false
set_option linter.unnecessarySimpa false
open Go Go.Proofs Go.Sl Go.Dm
namespace Go.Proofs.X
theorem repair2mixed : Tryz.prog.follows .mixedOrders = true := by kernel_rfl
theorem blrepair2_28 : bldSh Tryz.prog 28 = some ([.slice none 0 0, .slice none 0 0, .slice none 0 0, .slice none 0 0, .slice none 0 0], [(0, 1), (1, 1), (2, 1), (3, 1), (4, 1)]) := by kernel_rfl
theorem blrepair2_31 : bldSh Tryz.prog 31 = some ([.string ⟨#[]⟩, .int .u8 (0), .int .i64 (0), .int .i64 (0), .slice none 0 0, .int .i64 (0), .int .i64 (0)], [(0, 1), (1, 1), (2, 1), (3, 1), (4, 1), (5, 1), (6, 1)]) := by kernel_rfl
theorem blrepair2_35 : bldSh Tryz.prog 35 = some ([.string ⟨#[]⟩, .string ⟨#[]⟩, .string ⟨#[]⟩, .int .i64 (0), .int .i64 (0), .string ⟨#[]⟩, .bool false, .bool false, .slice none 0 0], [(0, 1), (1, 1), (2, 1), (3, 1), (4, 1), (5, 1), (6, 1), (7, 1), (8, 1)]) := by kernel_rfl
theorem blrepair2_39 : bldSh Tryz.prog 39 = some ([.int .u8 (0), .int .i64 (0), .string ⟨#[]⟩, .string ⟨#[]⟩, .string ⟨#[]⟩, .int .i64 (0)], [(0, 1), (1, 1), (2, 1), (3, 1), (4, 1), (5, 1)]) := by kernel_rfl
theorem blrepair2_41 : bldSh Tryz.prog 41 = some ([.int .u8 (0), .string ⟨#[]⟩, .string ⟨#[]⟩, .string ⟨#[]⟩, .int .i64 (0), .int .i64 (0), .string ⟨#[]⟩, .bool false, .bool false, .slice none 0 0, .string ⟨#[]⟩, .string ⟨#[]⟩, .string ⟨#[]⟩, .int .i64 (0), .int .u8 (0), .int .i64 (0), .string ⟨#[]⟩, .string ⟨#[]⟩, .string ⟨#[]⟩, .int .i64 (0)], [(0, 1), (1, 9), (10, 1), (11, 1), (12, 1), (13, 1), (14, 6)]) := by kernel_rfl
theorem blrepair2_47 : bldSh Tryz.prog 47 = some ([.slice none 0 0, .slice none 0 0, .slice none 0 0, .slice none 0 0, .slice none 0 0, .slice none 0 0, .int .i64 (0), .int .i64 (0)], [(0, 5), (5, 1), (6, 1), (7, 1)]) := by kernel_rfl
theorem blrepair2_97 : bldSh Tryz.prog 97 = some ([.slice none 0 0, .int .i64 (0)], [(0, 1), (1, 1)]) := by kernel_rfl
theorem borepair2_28 : fieldsOK Tryz.prog 28 = true := by kernel_rfl
theorem borepair2_31 : fieldsOK Tryz.prog 31 = true := by kernel_rfl
theorem borepair2_35 : fieldsOK Tryz.prog 35 = true := by kernel_rfl
theorem borepair2_39 : fieldsOK Tryz.prog 39 = true := by kernel_rfl
theorem borepair2_41 : fieldsOK Tryz.prog 41 = true := by kernel_rfl
theorem borepair2_47 : fieldsOK Tryz.prog 47 = true := by kernel_rfl
theorem borepair2_97 : fieldsOK Tryz.prog 97 = true := by kernel_rfl
theorem elrepair2_22 : elSh Tryz.prog 22 = some (31, 7, 80) := by kernel_rfl
theorem elrepair2_23 : elSh Tryz.prog 23 = some (35, 9, 112) := by kernel_rfl
theorem elrepair2_24 : elSh Tryz.prog 24 = some (164, 3, 40) := by kernel_rfl
theorem elrepair2_25 : elSh Tryz.prog 25 = some (3, 1, 8) := by kernel_rfl
theorem elrepair2_26 : elSh Tryz.prog 26 = some (39, 6, 72) := by kernel_rfl
theorem elrepair2_32 : elSh Tryz.prog 32 = some (5, 1, 1) := by kernel_rfl
theorem elrepair2_51 : elSh Tryz.prog 51 = some (41, 20, 248) := by kernel_rfl
theorem fdrepair2_103_4 : fldOf Tryz.prog 103 4 = some 4 := by kernel_rfl
theorem fdrepair2_111_0 : fldOf Tryz.prog 111 0 = some 0 := by kernel_rfl
theorem fdrepair2_111_1 : fldOf Tryz.prog 111 1 = some 5 := by kernel_rfl
theorem fdrepair2_207_0 : fldOf Tryz.prog 207 0 = some 0 := by kernel_rfl
theorem fdrepair2_28_0 : fldOf Tryz.prog 28 0 = some 0 := by kernel_rfl
theorem fdrepair2_28_1 : fldOf Tryz.prog 28 1 = some 1 := by kernel_rfl
theorem fdrepair2_28_2 : fldOf Tryz.prog 28 2 = some 2 := by kernel_rfl
theorem fdrepair2_28_3 : fldOf Tryz.prog 28 3 = some 3 := by kernel_rfl
theorem fdrepair2_28_4 : fldOf Tryz.prog 28 4 = some 4 := by kernel_rfl
theorem fdrepair2_31_0 : fldOf Tryz.prog 31 0 = some 0 := by kernel_rfl
theorem fdrepair2_35_0 : fldOf Tryz.prog 35 0 = some 0 := by kernel_rfl
theorem fdrepair2_39_0 : fldOf Tryz.prog 39 0 = some 0 := by kernel_rfl
theorem fdrepair2_39_1 : fldOf Tryz.prog 39 1 = some 1 := by kernel_rfl
theorem fdrepair2_41_1 : fldOf Tryz.prog 41 1 = some 1 := by kernel_rfl
theorem fdrepair2_41_5 : fldOf Tryz.prog 41 5 = some 13 := by kernel_rfl
theorem fdrepair2_47_1 : fldOf Tryz.prog 47 1 = some 5 := by kernel_rfl
theorem fdrepair2_47_2 : fldOf Tryz.prog 47 2 = some 6 := by kernel_rfl
theorem fdrepair2_69_0 : fldOf Tryz.prog 69 0 = some 0 := by kernel_rfl
theorem fdrepair2_69_1 : fldOf Tryz.prog 69 1 = some 1 := by kernel_rfl
theorem fdrepair2_69_2 : fldOf Tryz.prog 69 2 = some 6 := by kernel_rfl
theorem fdrepair2_69_3 : fldOf Tryz.prog 69 3 = some 7 := by kernel_rfl
theorem fdrepair2_97_0 : fldOf Tryz.prog 97 0 = some 0 := by kernel_rfl
theorem fdrepair2_97_1 : fldOf Tryz.prog 97 1 = some 1 := by kernel_rfl
theorem shrepair2_104 : tySh Tryz.prog 104 = some (false, 1) := by kernel_rfl
theorem shrepair2_176 : tySh Tryz.prog 176 = some (false, 1) := by kernel_rfl
theorem shrepair2_208 : tySh Tryz.prog 208 = some (false, 1) := by kernel_rfl
theorem shrepair2_22 : tySh Tryz.prog 22 = some (false, 1) := by kernel_rfl
theorem shrepair2_23 : tySh Tryz.prog 23 = some (false, 1) := by kernel_rfl
theorem shrepair2_24 : tySh Tryz.prog 24 = some (false, 1) := by kernel_rfl
theorem shrepair2_25 : tySh Tryz.prog 25 = some (false, 1) := by kernel_rfl
theorem shrepair2_26 : tySh Tryz.prog 26 = some (false, 1) := by kernel_rfl
theorem shrepair2_28 : tySh Tryz.prog 28 = some (true, 5) := by kernel_rfl
theorem shrepair2_3 : tySh Tryz.prog 3 = some (false, 1) := by kernel_rfl
theorem shrepair2_37 : tySh Tryz.prog 37 = some (false, 1) := by kernel_rfl
theorem shrepair2_39 : tySh Tryz.prog 39 = some (true, 6) := by kernel_rfl
theorem shrepair2_4 : tySh Tryz.prog 4 = some (false, 1) := by kernel_rfl
theorem shrepair2_41 : tySh Tryz.prog 41 = some (true, 20) := by kernel_rfl
theorem shrepair2_47 : tySh Tryz.prog 47 = some (true, 8) := by kernel_rfl
theorem shrepair2_55 : tySh Tryz.prog 55 = some (false, 1) := by kernel_rfl
theorem shrepair2_67 : tySh Tryz.prog 67 = some (false, 1) := by kernel_rfl
theorem shrepair2_9 : tySh Tryz.prog 9 = some (false, 1) := by kernel_rfl
theorem shrepair2_97 : tySh Tryz.prog 97 = some (true, 2) := by kernel_rfl
theorem zerepair2_176 : zer Tryz.prog 176 = some (.nilFunc) := by kernel_rfl
theorem zerepair2_210 : zer Tryz.prog 210 = some (.agg #[.string ⟨#[]⟩, .int .u8 (0), .bool false, .int .u8 (0), .bool false, .int .i64 (0), .bool false, .nilFunc]) := by kernel_rfl
theorem zerepair2_25 : zer Tryz.prog 25 = some (.slice none 0 0) := by kernel_rfl
theorem zerepair2_28 : zer Tryz.prog 28 = some (.agg #[.slice none 0 0, .slice none 0 0, .slice none 0 0, .slice none 0 0, .slice none 0 0]) := by kernel_rfl
theorem zerepair2_3 : zer Tryz.prog 3 = some (.int .i64 (0)) := by kernel_rfl
theorem zerepair2_31 : zer Tryz.prog 31 = some (.agg #[.string ⟨#[]⟩, .int .u8 (0), .int .i64 (0), .int .i64 (0), .slice none 0 0, .int .i64 (0), .int .i64 (0)]) := by kernel_rfl
theorem zerepair2_35 : zer Tryz.prog 35 = some (.agg #[.string ⟨#[]⟩, .string ⟨#[]⟩, .string ⟨#[]⟩, .int .i64 (0), .int .i64 (0), .string ⟨#[]⟩, .bool false, .bool false, .slice none 0 0]) := by kernel_rfl
theorem zerepair2_39 : zer Tryz.prog 39 = some (.agg #[.int .u8 (0), .int .i64 (0), .string ⟨#[]⟩, .string ⟨#[]⟩, .string ⟨#[]⟩, .int .i64 (0)]) := by kernel_rfl
theorem zerepair2_4 : zer Tryz.prog 4 = some (.bool false) := by kernel_rfl
theorem zerepair2_41 : zer Tryz.prog 41 = some (.agg #[.int .u8 (0), .string ⟨#[]⟩, .string ⟨#[]⟩, .string ⟨#[]⟩, .int .i64 (0), .int .i64 (0), .string ⟨#[]⟩, .bool false, .bool false, .slice none 0 0, .string ⟨#[]⟩, .string ⟨#[]⟩, .string ⟨#[]⟩, .int .i64 (0), .int .u8 (0), .int .i64 (0), .string ⟨#[]⟩, .string ⟨#[]⟩, .string ⟨#[]⟩, .int .i64 (0)]) := by kernel_rfl
theorem zerepair2_47 : zer Tryz.prog 47 = some (.agg #[.slice none 0 0, .slice none 0 0, .slice none 0 0, .slice none 0 0, .slice none 0 0, .slice none 0 0, .int .i64 (0), .int .i64 (0)]) := by kernel_rfl
theorem zerepair2_5 : zer Tryz.prog 5 = some (.int .u8 (0)) := by kernel_rfl
theorem zerepair2_97 : zer Tryz.prog 97 = some (.agg #[.slice none 0 0, .int .i64 (0)]) := by kernel_rfl
theorem flrepair2_210_7 : fldV Tryz.prog 210 7 = some (7, 208) := by kernel_rfl
theorem repair_times_ok {h:PH} {pv0:Value} {l1:List Int} (pr0:Slc (VI .i64) 1 h pv0 l1) {r_0:Int} (H:repair_times l1 = some r_0):∀ L,FnS Tryz.prog 53 [pv0] h (L) (fun v h' L'=>v = .int .i64 r_0∧L' = L):=by
 intro L
 refine FnS.enter Tryz.func53 z Tryz.ntmps53 z<|Sr<|Ag z<|Nt<|Sr<|Ag z<|Nt<|Sq<|Sr<|Mv z<|Vv (V.lenS elrepair2_25 z pr0)<|Mv z<|Nt ?_
 obtain ⟨f,k,m⟩:=bndK H
 refine T.cutK (α:=Int) [] z (fun d=>[(3,.int .i64 d)]) (fun d=>L) (fun d hh=>f = d) ?_ ?_
 ·have H:=k
  refine Bl<|T.loopK (α:=Nat×Int×Int) [6,7] z (fun ⟨b,a,c⟩=>[(3,.int .i64 a),(8,.int .i64 c)]) (fun ⟨b,a,c⟩=>L) (fun ⟨b,a,c⟩ hh=>iter (repair_times_l0 l1) b (a,c) = some f) (fun ⟨b,a,c⟩=>b) (FUEL,(1:Int),(0:Int)) ⟨z,z,trivial⟩ z H ?_
  rintro ⟨b,a,c⟩ x e n
  obtain ⟨o,y,rfl,H,g⟩:=iter_go n
  refine T.norm [3,8,6,7] z<|Sl_ (L) z<|Sr<|Vv (V.lt z z)<|Nt<|Sq<|T.cH H z (fun H=>?_) (fun H=>?_)
  ·refine T.skip<|Th<|Sq<|Bl<|Sr ?_
   obtain ⟨A,i,H⟩:=bnd H
   have j:=Slc.mono VI.mono pr0 e
   obtain ⟨B,p,rfl⟩:=Slc.at j i
   refine Vv (V.ix elrepair2_25 z z j (getI_bd i))<|Vv (V.ld0 shrepair2_3 z p z)<|Ag z<|Nt<|Rg<|Mv z<|Mv z ?_
   obtain ⟨q,r,H⟩:=bnd H
   refine Vv (V.mulS z z r)<|Vv (V.min2 z z)<|Ag z<|Ni<|Bn<|Th<|Rg ?_
   obtain ⟨s,t,H⟩:=bnd H
   refine Vv (V.addS z z t)<|Mv z<|Nt<|T.again (o,(min q (20001:Int)),s) e (Nat.lt_succ_self _) (iterK_in H g) (AllIn.app ⟨z,z,trivial⟩ ⟨z,z,trivial⟩) z
  refine T.exit<|Te<|Te<|have H:=iterK_out H g; Be<|Th<|T.met a e H (AllIn.app ⟨z,trivial⟩ trivial) z
 rintro d C u w
 have H:=cutE w m
 refine T.norm [3] z<|Sl_ (L) z<|Sr<|Mv z<|Ag z<|Nt<|T.ret ?_
 obtain rfl:=Option.some.inj H
 exact T.retL Tryz.results53 (Rv z) u ⟨z,z⟩
theorem repair_ways_ok {h:PH} {free1:Int} {guests2:Int} {r_0:Int} (H:repair_ways free1 guests2 = some r_0):∀ L,FnS Tryz.prog 55 [.int .i64 free1,.int .i64 guests2] h (L) (fun v h' L'=>v = .int .i64 r_0∧L' = L):=by
 intro L
 refine FnS.enter Tryz.func55 z Tryz.ntmps55 z<|Sr<|Ag z<|Nt<|Sr<|Ag z<|Nt<|Sq<|Sr<|Mv z<|Mv z<|Nt ?_
 obtain ⟨p,x,y⟩:=bndK H
 refine T.cutK (α:=(List Int)×Value×(List (List Value))) [] z (fun ⟨k,d,f⟩=>[(5,d)]) (fun ⟨k,d,f⟩=>rowR 3 1 d f::L) (fun ⟨k,d,f⟩ hh=>p = k∧RowF (VI .i64) hh f k) ?_ ?_
 ·have H:=x
  refine Bl<|T.rowNil 3 1<|have A:RowF (VI .i64) h [] ([]:List Int):=RowF.nil; T.loopK (α:=Nat×(List Int)×Int×Value×(List (List Value))) [0,7] z (fun ⟨g,c,i,b,a⟩=>[(5,b),(8,.int .i64 i)]) (fun ⟨g,c,i,b,a⟩=>rowR 3 1 b a::L) (fun ⟨g,c,i,b,a⟩ hh=>iter (repair_ways_l0 free1 guests2) g (c,i) = some p∧RowF (VI .i64) hh a c) (fun ⟨g,c,i,b,a⟩=>g) (FUEL,([]:List Int),(0:Int),(.slice none 0 0),[]) ⟨z,z,trivial⟩ z ⟨H,A⟩ ?_
  rintro ⟨g,c,i,b,a⟩ q r ⟨B,n⟩
  obtain ⟨C,ab,rfl,H,s⟩:=iter_go B
  refine T.norm [5,8,0,7] z<|Sl_ (rowR 3 1 b a::L) z<|Sr<|Vv (V.lt z z)<|Nt<|Sq<|T.cH H z (fun H=>?_) (fun H=>?_)
  ·refine T.skip<|Th<|Sq<|Bl<|Sr<|Mv z<|Ag z<|Nt<|Rg<|Mv z<|Mv z<|Mv z ?_
   obtain ⟨m,D,H⟩:=bnd H
   refine Vv (V.subS z z D)<|To (O.bs elrepair2_25 zerepair2_3 z (e:=z) (hk:=z) (xs:=[.tmp 14]) (hv:=CO.eq (CO.cons z CO.nil)) (hw:=Wide.of z) (hd:=z) fun ac=>have o:RowF (VI .i64) q [[.int .i64 m]] ([m]:List Int):=(RowF.cons z RowF.nil); ?_)
   obtain ⟨t,u,H⟩:=bnd H
   refine To (O.apX elrepair2_25 elrepair2_25 zerepair2_3 z z z (j:=1) z (Src.row (j:=0) z) (Wide.of z) (RowF.ones VI.plain o) n o u z fun E ad ae=>have G:RowF (VI .i64) q (a ++ [[.int .i64 m]]) t:=RowF.ap n o u; Fr_ 1 z<|T.drop<|Ag z<|Ni<|Bn<|Th<|Rg ?_)
   obtain ⟨I,J,H⟩:=bnd H
   refine Vv (V.addS z z J)<|Mv z<|Nt<|T.again (C,t,I,E,(a ++ [[.int .i64 m]])) r (Nat.lt_succ_self _) ⟨(iterK_in H s),G⟩ (AllIn.app ⟨z,z,trivial⟩ ⟨z,z,trivial⟩) z
  refine T.exit<|Te<|Te<|have H:=iterK_out H s; Be<|Th<|T.met (c,b,a) r ⟨H,n⟩ (AllIn.app ⟨z,trivial⟩ trivial) z
 rintro ⟨k,d,f⟩ af K ⟨M,N⟩
 have H:=cutE M y
 refine T.norm [5] z<|Sl_ (rowR 3 1 d f::L) z<|Sr<|Mv z<|T.rowFix fun ag w P=>have S:=RowF.mono VI.mono N w; have U:=RowF.slc P S; ?_
 obtain ⟨ai,W,H⟩:=bnd H
 refine To (O.callS z (repair_times_ok U W _) z fun aj ak am X Y=>?_)
 obtain ⟨rfl,Z⟩:=Y
 refine Sl_ _ Z<|Ag z<|Nt<|T.ret ?_
 obtain rfl:=Option.some.inj H
 have aa:=((K.trans w).trans X)
 exact T.retL Tryz.results55 (Rv z) aa ⟨z,z⟩
theorem repair_sets_ok {h:PH} {m1:Int} {k2:Int} {r_0:Int} (H:repair_sets m1 k2 = some r_0):∀ L,FnS Tryz.prog 54 [.int .i64 m1,.int .i64 k2] h (L) (fun v h' L'=>v = .int .i64 r_0∧L' = L):=by
 intro L
 refine FnS.enter Tryz.func54 z Tryz.ntmps54 z<|Sr<|Ag z<|Nt<|Sr<|Ag z<|Nt<|Sq<|Sr<|Mv z<|Mv z<|Nt ?_
 obtain ⟨g,j,i⟩:=bndK H
 refine T.cutK (α:=Int) [] z (fun d=>[(5,.int .i64 d)]) (fun d=>L) (fun d hh=>g = (Sum.inl d)) ?_ ?_
 ·have H:=j
  refine Bl<|T.loopK (α:=Nat×Int×Int) [0,7] z (fun ⟨b,a,c⟩=>[(5,.int .i64 a),(8,.int .i64 c)]) (fun ⟨b,a,c⟩=>L) (fun ⟨b,a,c⟩ hh=>iter (repair_sets_l0 m1 k2) b (a,c) = some g) (fun ⟨b,a,c⟩=>b) (FUEL,(1:Int),(0:Int)) ⟨z,z,trivial⟩ z H ?_
  rintro ⟨b,a,c⟩ x e k
  obtain ⟨m,y,rfl,H,f⟩:=iter_go k
  refine T.norm [5,8,0,7] z<|Sl_ (L) z<|Sr<|Vv (V.lt z z)<|Nt<|Sq<|T.cH H z (fun H=>?_) (fun H=>?_)
  ·refine T.skip<|Th<|Sq<|Bl<|Sr<|Mv z<|Ag z<|Nt<|Sr<|Mv z<|Mv z<|Mv z ?_
   obtain ⟨A,n,H⟩:=bnd H
   refine Vv (V.subS z z n) ?_
   obtain ⟨B,o,H⟩:=bnd H
   refine Vv (V.mulS z z o)<|Mv z ?_
   obtain ⟨C,p,H⟩:=bnd H
   refine Vv (V.addS z z p) ?_
   obtain ⟨q,r,H⟩:=bnd H
   refine Vv (V.quoS z z r)<|Ag z<|Nt<|Sr<|Mv z<|Vv (V.gt z z)<|Nt<|T.cH H z (fun H=>?_) (fun H=>?_)
   ·refine Sr<|Ag z<|Nt<|T.ret<|Br<|Tr<|Tr<|have H:=iterK_out H f; Br<|Tr<|have H:=cutE H i; ?_
    obtain rfl:=Option.some.inj H
    exact T.retL Tryz.results54 (Rv z) e ⟨z,z⟩
   refine T.skip<|Bn<|Th<|Rg ?_
   obtain ⟨s,t,H⟩:=bnd H
   refine Vv (V.addS z z t)<|Mv z<|Nt<|T.again (m,q,s) e (Nat.lt_succ_self _) (iterK_in H f) (AllIn.app ⟨z,z,trivial⟩ ⟨z,z,trivial⟩) z
  refine T.exit<|Te<|Te<|have H:=iterK_out H f; Be<|Th<|T.met a e H (AllIn.app ⟨z,trivial⟩ trivial) z
 rintro d D u w
 have H:=cutE w i
 refine T.norm [5] z<|Sl_ (L) z<|Sr<|Mv z<|Ag z<|Nt<|T.ret ?_
 obtain rfl:=Option.some.inj H
 exact T.retL Tryz.results54 (Rv z) u ⟨z,z⟩
theorem scene_tries_ok {h:PH} {pv0:Value} {s1:repairscene} (pr0:Pt Vrepairscene h pv0 s1) {most2:Int} {r_0:Int} (H:scene_tries s1 most2 = some r_0):∀ L,FnS Tryz.prog 14 [pv0,.int .i64 most2] h (L) (fun v h' L'=>v = .int .i64 r_0∧L' = L):=by
 intro L
 refine FnS.enter Tryz.func14 z Tryz.ntmps14 z<|Sr<|Ag z<|Nt<|Sr<|Ag z<|Nt<|Sq<|Sr<|Mv z<|have S:=pr0; ?_
 obtain ⟨a4,_,rfl,w,⟨a5,a6,a7,a8,a9,ah,al,rfl,av,az,ba,bb,bc,bd,q⟩⟩:=S
 refine Vv (V.nck z)<|Vv (V.fa fdrepair2_69_2 z)<|Vv (V.ldf (k:=6) shrepair2_25 z w z)<|Vv (V.lenS elrepair2_25 z q)<|Mv z<|Nt ?_
 obtain ⟨x,U,W⟩:=bndK H
 refine T.cutK (α:=Int) [0,1] z (fun c=>[(5,.int .i64 c)]) (fun c=>L) (fun c hh=>x = c) ?_ ?_
 ·have H:=U
  refine Bl<|T.loopK (α:=Nat×Int×Int) [0,1,13,14] z (fun ⟨d,f,a⟩=>[(15,.int .i64 f),(5,.int .i64 a)]) (fun ⟨d,f,a⟩=>L) (fun ⟨d,f,a⟩ hh=>iter (scene_tries_l0 s1) d (f,a) = some x) (fun ⟨d,f,a⟩=>d) (FUEL,(0:Int),(0:Int)) ⟨z,z,trivial⟩ z H ?_
  rintro ⟨d,f,a⟩ be p X
  obtain ⟨y,bf,rfl,H,r⟩:=iter_go X
  refine T.norm [15,5,0,1,13,14] z<|Sl_ (L) z<|Sr<|Vv (V.lt z z)<|Nt<|Sq<|T.cH H z (fun H=>?_) (fun H=>?_)
  ·refine T.skip<|Th<|Sq<|Bl<|Sr ?_
   obtain ⟨bg,A,H⟩:=bnd H
   have B:=Slc.mono VI.mono q p
   obtain ⟨bi,Y,rfl⟩:=Slc.at B A
   refine Vv (V.ix elrepair2_25 z z B (getI_bd A))<|Vv (V.ld0 shrepair2_3 z Y z)<|Ag z<|Nt<|Sr<|Mv z<|Vv (V.ge z z)<|Nt<|T.cH H z (fun H=>?_) (fun H=>?_)
   ·refine Rg<|Mv z ?_
    obtain ⟨Z,aa,H⟩:=bnd H
    refine Vv (V.addS z z aa)<|Ag z<|Ni<|Bn<|Th<|Rg ?_
    obtain ⟨ab,ac,H⟩:=bnd H
    refine Vv (V.addS z z ac)<|Mv z<|Nt<|T.again (y,ab,Z) p (Nat.lt_succ_self _) (iterK_in H r) (AllIn.app ⟨z,z,trivial⟩ ⟨z,z,z,z,trivial⟩) z
   refine T.skip<|Bn<|Th<|Rg ?_
   obtain ⟨ad,ae,H⟩:=bnd H
   refine Vv (V.addS z z ae)<|Mv z<|Nt<|T.again (y,ad,a) p (Nat.lt_succ_self _) (iterK_in H r) (AllIn.app ⟨z,z,trivial⟩ ⟨z,z,z,z,trivial⟩) z
  refine T.exit<|Te<|Te<|have H:=iterK_out H r; Be<|Th<|T.met a p H (AllIn.app ⟨z,trivial⟩ ⟨z,z,trivial⟩) z
 rintro c bj C af
 have H:=cutE af W
 refine T.norm [5,0,1] z<|Sl_ (L) z<|Sr<|Ag z<|Nt<|Sq<|Sr<|Ag z<|Nt ?_
 obtain ⟨D,ag,ai⟩:=bndK H
 refine T.cutK (α:=Int) [] z (fun m=>[(8,.int .i64 m)]) (fun m=>L) (fun m hh=>D = m) ?_ ?_
 ·have H:=ag
  refine Bl<|T.loopK (α:=Nat×Int×Int) [0,1,5] z (fun ⟨i,b,j⟩=>[(8,.int .i64 b),(9,.int .i64 j)]) (fun ⟨i,b,j⟩=>L) (fun ⟨i,b,j⟩ hh=>iter (scene_tries_l1 s1 most2 c) i (b,j) = some D) (fun ⟨i,b,j⟩=>i) (FUEL,(0:Int),(0:Int)) ⟨z,z,trivial⟩ z H ?_
  rintro ⟨i,b,j⟩ bk s aj
  obtain ⟨ak,bm,rfl,H,E⟩:=iter_go aj
  refine T.norm [8,9,0,1,5] z<|Sl_ (L) z<|Sq<|Sq ?_
  obtain ⟨am,an,ao⟩:=bndK H
  refine T.cutK (α:=Bool) [0,1,5,8,9] z (fun n=>[(33,.bool n)]) (fun n=>L) (fun n hh=>am = n) ?_ ?_
  ·have H:=an
   refine Rg<|Mv z<|Mv z<|Vv (V.max2 z z)<|Mv z<|Vv (V.min2 z z)<|Vv (V.le z z)<|Mv z<|T.bH 30 H z (fun H=>?_) (fun H=>?_)
   ·refine Mv z<|Vv (V.le z z)<|Vv (V.pkT z z)<|Nt<|T.met (decide (b ≤ (20000:Int))) Lr (sinj H) (AllIn.app ⟨z,trivial⟩ ⟨z,z,z,z,z,trivial⟩) z
   refine Sk<|Sk<|Vv (V.pkF z z)<|Nt<|T.met false Lr (sinj H) (AllIn.app ⟨z,trivial⟩ ⟨z,z,z,z,z,trivial⟩) z
  rintro n bn u ap
  have H:=cutE ap ao
  refine T.norm [33,0,1,5,8,9] z<|Sl_ (L) z<|T.cH H z (fun H=>?_) (fun H=>?_)
  ·refine T.skip<|Th<|Sq<|Bl<|T.drawF (t:=(.v 0 (.v 1 (.v 2 (.v 3 (.v 4 (.v 5 (.v 6 (.v 8 (.v 9 (.v 10 (.v 11 (.v 12 (.v 13 (.v 14 (.v 15 (.v 16 (.v 17 (.v 18 (.v 19 (.v 20 (.v 21 (.v 22 (.v 23 (.v 24 (.alt 7 (.g (.alt 25 (.g (.alt 26 (.alt 27 (.g (.v 28 (.alt 29 .done .no))) .no) .no)) .no)) .no)))))))))))))))))))))))))) 31 0 0 rfl rfl repair2mixed (by kernel_rfl) ?_
   refine Tm z z<|Tm z z<|Tm z z<|Tm z z<|Tm z z ?_
   obtain ⟨bo,aq,H⟩:=bnd H
   refine Tv z (V.subS z z aq)<|Tv z (V.min2 z z)<|Tm z z<|Tv z (V.nck z)<|Tv z (V.fa fdrepair2_69_3 z)<|have G:=((C.trans s).trans u); have I:=w.mono G; Tv z (V.ldf (k:=7) shrepair2_3 z I z)<|Tm z z ?_
   obtain ⟨bp,ar,H⟩:=bnd H
   refine Tv z (V.subS z z ar)<|Tm z z ?_
   obtain ⟨bq,au,H⟩:=bnd H
   refine Tv z (V.addS z z au)<|Tm z z<|Tv z (V.nck z)<|Tv z (V.fa fdrepair2_69_2 z)<|Tv z (V.ldf (k:=6) shrepair2_25 z I z)<|have aw:=Slc.mono VI.mono q G; Tv z (V.lenS elrepair2_25 z aw)<|Tm z z ?_
   obtain ⟨br,ax,H⟩:=bnd H
   refine Tv z (V.subS z z ax)<|Tm z z ?_
   obtain ⟨bt,ay,H⟩:=bnd H
   refine Tv z (V.addS z z ay) ?_
   obtain ⟨J,aA,H⟩:=bnd H
   refine Tp z z (SX.two (XA.fr [] Lr z) (XA.fr [] Lr z)) (O.callS z (repair_sets_ok aA _) z fun bu bw bx K aB=>?_) T.tno
   obtain ⟨rfl,aC⟩:=aB
   refine Sl_ _ aC<|T.tgrow K ?_
   obtain ⟨M,aD,H⟩:=bnd H
   refine Tp z z (SX.two (XA.fr [] Lr z) (XA.fr [] Lr z)) (O.callS z (repair_ways_ok aD _) z fun bA aE bB N aG=>?_) T.tno
   obtain ⟨rfl,aI⟩:=aG
   refine Sl_ _ aI<|T.tgrow N<|Tp z z (SX.two (XA.fr [] Lr z) (XA.fr [] Lr z)) (O.bs elrepair2_25 zerepair2_3 z (e:=z) (hk:=z) (xs:=[.tmp 43,.tmp 61]) (hv:=CO.eq (CO.cons z (CO.cons z CO.nil))) (hw:=Wide.of z) (hd:=z) fun bC=>?_) T.tno
   have aJ:RowF (VI .i64) aE [[.int .i64 J],[.int .i64 M]] ([J,M]:List Int):=(RowF.cons z (RowF.cons z RowF.nil))
   refine T.rowFix fun bD o aK=>have aM:=RowF.mono VI.mono aJ o; have aN:=RowF.slc aK aM; ?_
   obtain ⟨bE,aO,H⟩:=bnd H
   refine Tp z z (SX.two (XA.fr [] o z) (XA.fr [] o z)) (O.callS z (repair_times_ok aN aO _) z fun bG bI bJ P aP=>?_) T.tno
   obtain ⟨rfl,aS⟩:=aP
   refine Sl_ _ aS<|have aU:=(o.trans P); T.tgrow aU ?_
   obtain ⟨aV,aW,H⟩:=bnd H
   refine Tv z (V.addS z z aW)<|Ts z z (SX.two (XA.fr [] Lr z) (XA.fr [] Lr z)) (V.asg z) z ?_ T.tno
   refine T.tnil (SX.two (XA.fr [] Lr z) (XA.fr [] Lr z))<|Bn<|Th<|Rg<|Mv z ?_
   obtain ⟨aX,aY,H⟩:=bnd H
   refine Vv (V.addS z z aY)<|Ag z<|Nt<|have aZ:=(((((s.trans u).trans K).trans N).trans o).trans P); T.again (ak,aV,aX) aZ (Nat.lt_succ_self _) (iterK_in H E) (AllIn.app ⟨z,z,trivial⟩ ⟨z,z,z,trivial⟩) z
  refine T.exit<|Te<|Te<|have H:=iterK_out H E; Be<|Th<|have a0:=(s.trans u); T.met b a0 H (AllIn.app ⟨z,trivial⟩ trivial) z
 rintro m bK a1 a2
 have H:=cutE a2 ai
 refine T.norm [8] z<|Sl_ (L) z<|Sr<|Mv z<|Vv (V.min2 z z)<|Ag z<|Nt<|T.ret ?_
 obtain rfl:=Option.some.inj H
 have a3:=(C.trans a1)
 exact T.retL Tryz.results14 (Rv z) a3 ⟨z,z⟩
theorem repair_Tries_ok {h:PH} {pc0:List Value} {p1:apiProblem} (pr0:VapiProblem h pc0 p1) {pv1:Value} {part12:List Int} (pr1:Slc (VI .i64) 1 h pv1 part12) {most13:Int} {r_0:Int} (H:repair_Tries p1 part12 most13 = some r_0):∀ L,FnS Tryz.prog 7 [.agg pc0.toArray,pv1,.int .i64 most13] h (L) (fun v h' L'=>v = .int .i64 r_0∧L' = L):=by
 intro L
 obtain ⟨j,k,m,n,o,rfl,G,I,J,K,M⟩:=pr0
 refine FnS.enter Tryz.func7 rfl Tryz.ntmps7 rfl<|Sr<|To (O.boxF rfl rfl rfl fun a9 N b P=>Ag z<|Nt<|Sr<|Vv (V.ldS rfl P (by exact shrepair2_28)) ?_)
 refine Mv z<|have S:=Slc.mono VapiTable.mono G b; have U:=Slc.mono VapiGuest.mono I b; have W:=Slc.mono VapiTie.mono J b; have X:=Slc.mono VI.mono K b; have Y:=Slc.mono VapiRule.mono M b; have Z:=Slc.mono VI.mono pr1 b; ?_
 obtain ⟨⟨a,ah⟩,aa,H⟩:=bnd H
 refine To (O.callS z (repair_open_ok (show VapiProblem N [j,k,m,n,o] p1 from ⟨j,k,m,n,o,z,S,U,W,X,Y⟩) Z aa _) z fun al av az ab ac=>?_)
 obtain ⟨ba,p,q,bb,r,bc,s,bd,t,be,u,bf,w,bg,rfl,ad,ae,af,ag,ai,aj,ak,am⟩:=ac
 refine Sl_ _ ad<|Mv z<|Vv (V.ext z z)<|Vv (V.ext z z)<|Ag z<|Ag z<|Nt<|Sq<|Sr<|Mv z<|Vv (V.ne z z)<|Nt<|T.cH H z (fun H=>?_) (fun H=>?_)
 ·exact dead H
 refine T.skip<|Th<|Sr<|Mv z<|Mv z ?_
 obtain ⟨c,an,H⟩:=bnd H
 refine To (O.callS z (FnS.lend (val:=.int .i64 c) Tryz.func14 z lendB fun bi ao ap=>FnS.lend (val:=.int .i64 c) Tryz.func14 z lendR fun bj x aq=>FnS.lend (val:=.int .i64 c) Tryz.func14 z lendR fun bk i ar=>FnS.lend (val:=.int .i64 c) Tryz.func14 z lendR fun bm g au=>FnS.lend (val:=.int .i64 c) Tryz.func14 z lendR fun bn f aw=>FnS.lend (val:=.int .i64 c) Tryz.func14 z lendR fun bo e ax=>FnS.lend (val:=.int .i64 c) Tryz.func14 z lendR fun ay d aA=>?_) z fun bp bq br aB aC=>?_)
 ·have y:=(ao.trans x)
  have aD:=RowF.mono VapiTable.mono af y
  have aE:=RowF.slc aq aD
  have A:=(y.trans i)
  have aG:=RowF.mono VapiGuest.mono ag A
  have aI:=RowF.slc ar aG
  have B:=(A.trans g)
  have aJ:=RowF.mono VapiTie.mono ai B
  have aK:=RowF.slc au aJ
  have C:=(B.trans f)
  have aM:=RowF.mono VI.mono aj C
  have aN:=RowF.slc aw aM
  have D:=(C.trans e)
  have aO:=RowF.mono VapiRule.mono ak D
  have aP:=RowF.slc ax aO
  have E:=(D.trans d)
  have aS:=RowF.mono VI.mono am E
  have aU:=RowF.slc aA aS
  have aV:=(((((x.trans i).trans g).trans f).trans e).trans d)
  have aW:=ap.mono aV
  have aX:=Pt.mono VruleJudge.mono ae E
  have aY:=((((i.trans g).trans f).trans e).trans d)
  have aZ:=Slc.mono VapiTable.mono aE aY
  have a0:=(((g.trans f).trans e).trans d)
  have a1:=Slc.mono VapiGuest.mono aI a0
  have a2:=((f.trans e).trans d)
  have a3:=Slc.mono VapiTie.mono aK a2
  have a4:=(e.trans d)
  have a5:=Slc.mono VI.mono aN a4
  have a6:=Slc.mono VapiRule.mono aP d
  exact scene_tries_ok (Pt.mk aW (show Vrepairscene ay [p,q,r,s,t,u,w,.int .i64 a.fseats] (repairscene.mk a.fJudge (apiProblem.mk a.fp.fTables a.fp.fGuests a.fp.fTies a.fp.fClass a.fp.fRules) a.fpart a.fseats) from ⟨p,q,r,s,t,u,w,z,aX,aZ,a1,a3,a5,a6,aU⟩)) an _
 obtain ⟨rfl,a7⟩:=aC
 refine Sl_ _ a7<|Ag z<|Nt<|T.ret<|T.drop<|T.drop<|T.drop<|T.drop<|T.drop<|T.drop<|T.drop ?_
 obtain rfl:=Option.some.inj H
 have a8:=((b.trans ab).trans aB)
 exact T.retL Tryz.results7 (Rv z) a8 ⟨z,z⟩
theorem scene_best_1_ok (n:Nat):∀ {h:PH} {g1:Int} {left2:Int} {pp2:Addr} {pc2:List Value} {t3:repairscene} (pa2:AtC h pp2 pc2) (pr2:(VPt Vrepairscene) h pc2 t3) {pb3:Nat} {t6:List Int} {v3_1:Value} {css3_2:List (List Value)} (hR3_3:RowF (VI .i64) h css3_2 t6) {pb4:Nat} {t8:Bool}  {pb5:Nat} {t9:apiRanked} {v5_1:Value} {css5_2:List (List Value)} (hR5_3:RowF (VI .i64) h css5_2 t9.fPlan) {pp6:Addr} {pc6:List Value} {t11:Int} (pa6:AtC h pp6 pc6) (pr6:(VI .i64) h pc6 t11) {pp7:Addr} (pa7:AtC h pp7 [.func (.func 114) #[] #[.pointer (some pp2),.pointer (some ⟨pb3,0,none⟩),.pointer (some ⟨pb4,0,none⟩),.pointer (some ⟨pb5,0,none⟩),.pointer (some pp6),.pointer (some pp7)]]) {q_3:List Int} {q_4:Bool} {q_5:apiRanked} (H:scene_best_1 n g1 left2 t3 t6 t8 t9 t11 = some (q_3,q_4,q_5)) (L:List HProp),FnS Tryz.prog 114 [.int .i64 g1,.int .i64 left2,.pointer (some pp2),.pointer (some ⟨pb3,0,none⟩),.pointer (some ⟨pb4,0,none⟩),.pointer (some ⟨pb5,0,none⟩),.pointer (some pp6),.pointer (some pp7)] h (blk pb3 (.cells [v3_1].toArray 25)::rowR 3 1 v3_1 css3_2::blk pb4 (.cells [.bool t8].toArray 4)::blk pb5 (.cells [v5_1,.int .i64 t9.fCost].toArray 97)::rowR 3 1 v5_1 css5_2::L) (fun v h' L'=>∃ vl0_1 cssl0_2 vl2_1 cssl2_2,v = .tuple #[]∧L' = blk pb3 (.cells [vl0_1].toArray 25)::rowR 3 1 vl0_1 cssl0_2::blk pb4 (.cells [.bool q_4].toArray 4)::blk pb5 (.cells [vl2_1,.int .i64 q_5.fCost].toArray 97)::rowR 3 1 vl2_1 cssl2_2::L∧RowF (VI .i64) h' cssl0_2 q_3∧RowF (VI .i64) h' cssl2_2 q_5.fPlan):=by
  induction n with
  | zero => intros; rename_i H _; cases H
  | succ n self =>
    intro h g1 left2 pp2 pc2 t3 pa2 pr2 pb3 t6 v3_1 css3_2 hR3_3 pb4 t8 pb5 t9 v5_1 css5_2 hR5_3 pp6 pc6 t11 pa6 pr6 pp7 pa7 q_3 q_4 q_5 H L
    obtain ⟨ex,rfl,bP⟩:=pr2
    obtain rfl:=pr6
    refine FnS.enter Tryz.func114 rfl Tryz.ntmps114 rfl<|T.scope<|Sq<|Sq<|T.drawF (t:=(.v 0 (.v 1 (.v 2 (.v 3 (.v 4 (.alt 5 (.g (.v 6 (.v 7 (.v 8 (.alt 9 (.alt 10 .done .no) .no))))) .no))))))) 12 2 2 rfl rfl repair2mixed (by kernel_rfl) ?_
    refine Tv z (V.ld0 shrepair2_55 z pa2 z)<|have bS:=bP; ?_
    obtain ⟨ar,_,rfl,aP,⟨au,aw,ax,ay,aA,aB,aC,rfl,aD,a2,a3,a4,a5,a6,ag⟩⟩:=bS
    refine Tv z (V.nck z)<|Tv z (V.fa fdrepair2_69_0 z)<|Tv z (V.ldf (k:=0) shrepair2_67 z aP z)<|Tv z (Val.XA fun _ _ _=>V.ldO0 shrepair2_25 z (j:=0) z z)<|Fr_ 1 z<|T.fl ?_
    obtain ⟨⟨bU,bV⟩,bW,H⟩:=bnd H
    refine Tp z z (SX.two (XA.fr [0,1] Lr z) (XA.fr [0,1] Lr z)) (O.callS z (FnS.lend (val:=.tuple #[.int .i64 bU,.bool bV]) Tryz.func115 z lendR fun ey a7 bX=>?_) z fun eA eB eC c bY=>?_) T.tno
    ·have bZ:=RowF.mono VI.mono hR3_3 a7
     have b0:=RowF.slc bX bZ
     have b1:=Pt.mono VruleJudge.mono aD a7
     exact Judge_Dead_ok b1 b0 bW _
    obtain ⟨rfl,b2⟩:=bY
    refine Sl_ _ b2<|T.tgrow c<|Tm z z<|Tv z (V.ext z z)<|Tv z (V.ext z z)<|Ts z z (SX.two (XA.fr [0,1] Lr z) (XA.fr [0,1] Lr z)) (V.asg z) z ?_ T.tno
    refine Ts z z (SX.two (XA.fr [0,1] Lr z) (XA.fr [0,1] Lr z)) (V.asg z) z ?_ T.tno
    refine T.tnil (SX.two (XA.fr [0,1] Lr z) (XA.fr [0,1] Lr z))<|Th<|Sr<|Mv z<|Nt<|T.cH H z (fun H=>?_) (fun H=>?_)
    ·refine T.ret<|Tr<|T.sgR<|Fr_ 4 z<|T.fl ?_
     refine Fr_ 4 z<|T.fl ?_
     refine Fr_ 4 z<|T.fl ?_
     refine Fr_ 3 z<|T.fl ?_
     refine Fr_ 4 z<|T.fl ?_
     have b3:=RowF.mono VI.mono hR3_3 c
     have b4:=RowF.mono VI.mono hR5_3 c
     obtain ⟨rfl,rfl,rfl⟩:=inj3 H
     exact T.ret0 Tryz.results114 c ⟨_,_,_,_,z,z,b3,b4⟩
    refine T.skip<|Th<|Sq<|Sr<|Mv z<|Vv (V.ldO0 shrepair2_25 z (j:=1) z z)<|have ai:=RowF.mono VI.mono hR3_3 c; Vv (V.lenX elrepair2_25 z (j:=0) z ai.len)<|Vv (V.eq z z)<|Nt<|T.cH H z (fun H=>?_) (fun H=>?_)
    ·refine Sq<|Sq<|T.drawF (t:=(.v 0 (.v 1 (.v 2 (.v 3 (.v 4 (.alt 5 (.alt 6 .done .no) .no))))))) 8 2 2 rfl rfl repair2mixed (by kernel_rfl) ?_
     have b5:=pa2.mono c
     refine Tv z (V.ld0 shrepair2_55 z b5 z)<|Tv z (V.nck z)<|Tv z (V.fa fdrepair2_69_0 z)<|have b6:=aP.mono c; Tv z (V.ldf (k:=0) shrepair2_67 z b6 z)<|Tv z (Val.XA fun _ _ _=>V.ldO0 shrepair2_25 z (j:=1) z z) ?_
     obtain ⟨aE,b7,H⟩:=bnd H
     refine Tp z z (SX.two (XA.fr [1,1] Lr z) (XA.fr [1,1] Lr z)) (O.callS z (FnS.lend (val:=.int .i64 aE) Tryz.func116 z lendR fun eD a8 b8=>?_) z fun eE eG eI w b9=>?_) T.tno
     ·have bh:=RowF.mono VI.mono ai a8
      have bl:=RowF.slc b8 bh
      have bv:=(c.trans a8)
      have bz:=Pt.mono VruleJudge.mono aD bv
      exact Judge_Cost_ok bz bl b7 _
     obtain ⟨rfl,ca⟩:=b9
     refine Sl_ _ ca<|Ts z z (SX.two (XA.fr [1,1] w z) (XA.fr [1,1] w z)) (V.asg z) z ?_ T.tno
     refine T.tnil (SX.two (XA.fr [1,1] w z) (XA.fr [1,1] w z))<|Th<|Sq ?_
     obtain ⟨cb,cc,cd⟩:=bndK H
     refine T.cutK (α:=Bool) [3,4,5,12] z (fun aj=>[(48,.bool aj)]) (fun aj=>rowR 3 1 v3_1 css3_2::blk pb3 (.cells [v3_1].toArray 25)::blk pb4 (.cells [.bool t8].toArray 4)::blk pb5 (.cells [v5_1,.int .i64 t9.fCost].toArray 97)::rowR 3 1 v5_1 css5_2::L) (fun aj hh=>cb = aj) ?_ ?_
     ·have H:=cc
      refine Rg<|Mv z<|Vv (V.eq z z)<|Mv z<|T.bH 39 H z (fun H=>?_) (fun H=>?_)
      ·refine Vv (V.ldO0 shrepair2_4 z (j:=2) z z)<|Vv (V.not z)<|Mv z<|T.bH 42 H z (fun H=>?_) (fun H=>?_)
       ·refine Sk<|Sk<|Sk<|Sk<|Vv (V.pkT z z)<|Vv (V.pkT z z)<|Nt<|T.met true Lr (sinj H) (AllIn.app ⟨z,trivial⟩ ⟨z,z,z,z,trivial⟩) z
       refine Mv z<|Vv (V.fa fdrepair2_97_1 z)<|Vv (V.ldO (k:=1) shrepair2_3 z (j:=3) z z)<|Vv (V.lt z z)<|Vv (V.pkF z z)<|Vv (V.pkT z z)<|Nt<|T.met (decide (aE < t9.fCost)) Lr (sinj H) (AllIn.app ⟨z,trivial⟩ ⟨z,z,z,z,trivial⟩) z
      exact dead H
     rintro aj eJ aG ce
     have H:=cutE ce cd
     refine T.norm [48,3,4,5,12] z<|Sl_ (rowR 3 1 v3_1 css3_2::blk pb3 (.cells [v3_1].toArray 25)::blk pb4 (.cells [.bool t8].toArray 4)::blk pb5 (.cells [v5_1,.int .i64 t9.fCost].toArray 97)::rowR 3 1 v5_1 css5_2::L) z ?_
     obtain ⟨cf,cg,ci⟩:=bndK H
     refine T.cutK (α:=Bool×(List Int)×Int×Value×(List (List Value))) [3,4,5] z (fun ⟨M,ak,N,B,P⟩=>[]) (fun ⟨M,ak,N,B,P⟩=>rowR 3 1 v3_1 css3_2::blk pb3 (.cells [v3_1].toArray 25)::blk pb4 (.cells [.bool M].toArray 4)::blk pb5 (.cells [B,.int .i64 N].toArray 97)::rowR 3 1 B P::L) (fun ⟨M,ak,N,B,P⟩ hh=>cf = (M,ak,N)∧RowF (VI .i64) hh P ak) ?_ ?_
     ·have H:=cg
      refine T.cH H z (fun H=>?_) (fun H=>?_)
      ·refine Rg<|Vv (V.ldO0 shrepair2_25 z (j:=1) z z) ?_
       obtain ⟨a9,cj,H⟩:=bnd H
       refine To (O.callS z (FnS.lendG (R:=fun v h' L'=>∃ (ah:List (List Value)),L' = rowR 3 1 v ah::blk pb3 (.cells [v3_1].toArray 25)::blk pb4 (.cells [.bool t8].toArray 4)::blk pb5 (.cells [v5_1,.int .i64 t9.fCost].toArray 97)::rowR 3 1 v5_1 css5_2::L∧RowF (VI .i64) h' ah a9) Tryz.func29 z (fun _ _ _ _ ⟨e_0,l_,f_0⟩=>⟨e_0,l_,(RowF.free VI.free f_0)⟩) lendR fun eK ck cm=>?_) z fun aS eM eN cn co=>?_)
       ·have cp:=((w.trans aG).trans ck)
        have cq:=RowF.mono VI.mono ai cp
        have cr:=RowF.slc cm cq
        exact sl_CloneInt_ok cr cj _
       obtain ⟨_,rfl,⟨al,rfl,ct⟩⟩:=co
       refine Sl_ (rowR 3 1 v3_1 css3_2::rowR 3 1 aS al::blk pb3 (.cells [v3_1].toArray 25)::blk pb4 (.cells [.bool t8].toArray 4)::blk pb5 (.cells [v5_1,.int .i64 t9.fCost].toArray 97)::rowR 3 1 v5_1 css5_2::L) rfl<|Mv z<|T.rowOne 1 rfl fun eO cu=>Vv (V.bld (xs:=[(0,.tmp 50),(1,.tmp 51)]) (cs:=[_,_]) blrepair2_97 borepair2_97 rfl (Fills.cons rfl cu rfl (Fills.cons rfl rfl rfl Fills.nil)))<|T.rowOne 1 rfl fun cw eP=>To (O.stF (vs:=[aS,.int .i64 aE]) shrepair2_97 rfl rfl (j:=4) rfl rfl (by (simp only [Sl.ones,cw,Bool.and_true,Bool.true_and]) <;> rfl) rfl ?_)
       refine T.fl ?_
       refine To (O.stF (vs:=[.bool true]) shrepair2_4 z z (j:=4) z z z z<|T.fl ?_)
       refine Nt<|Fr_ 5 z<|T.fl ?_
       refine T.drop<|Fr_ 3 z<|T.fl ?_
       refine Fr_ 2 z<|T.fl ?_
       refine Fr_ 2 z<|T.fl ?_
       refine Fr_ 4 z<|T.fl ?_
       refine Fr_ 4 z<|T.fl ?_
       exact T.met (true,a9,aE,aS,al) cn ⟨(sinj H),ct⟩ (AllIn.app trivial ⟨z,z,z,trivial⟩) z
      refine T.skip<|Th<|have cx:=((c.trans w).trans aG); have cy:=RowF.mono VI.mono hR5_3 cx; T.met (t8,t9.fPlan,t9.fCost,v5_1,css5_2) Lr ⟨(sinj H),cy⟩ (AllIn.app trivial ⟨z,z,z,trivial⟩) z
     rintro ⟨M,ak,N,B,P⟩ eS av ⟨cA,cB⟩
     have H:=cutE cA ci
     refine T.norm [3,4,5] z<|Sl_ (rowR 3 1 v3_1 css3_2::blk pb3 (.cells [v3_1].toArray 25)::blk pb4 (.cells [.bool M].toArray 4)::blk pb5 (.cells [B,.int .i64 N].toArray 97)::rowR 3 1 B P::L) z<|T.ret<|Tr<|T.sgR<|Fr_ 4 z<|T.fl ?_
     refine Fr_ 4 z<|T.fl ?_
     refine Fr_ 4 z<|T.fl ?_
     refine Fr_ 3 z<|T.fl ?_
     refine Fr_ 4 z<|T.fl ?_
     have cC:=((w.trans aG).trans av)
     have cD:=RowF.mono VI.mono ai cC
     obtain ⟨rfl,rfl,rfl⟩:=inj3 H
     have cE:=(((c.trans w).trans aG).trans av)
     exact T.ret0 Tryz.results114 cE ⟨_,_,_,_,z,z,cD,cB⟩
    refine T.skip<|Th<|Sq<|T.label<|Th<|Sr<|have S:=pa2.mono c; Vv (V.ld0 shrepair2_55 z S z)<|Vv (V.nck z)<|Vv (V.fa fdrepair2_69_3 z)<|have U:=aP.mono c; Vv (V.ldf (k:=7) shrepair2_3 z U z)<|Mv z<|Nt<|T.asThen ?_
    obtain ⟨az,cG,cI⟩:=bndK H
    refine T.cutK (α:=(List Int)×Bool×(List Int)×Int×Value×(List (List Value))×Value×(List (List Value))) [3,4,5] z (fun ⟨am,W,an,X,C,Y,D,Z⟩=>[]) (fun ⟨am,W,an,X,C,Y,D,Z⟩=>blk pb3 (.cells [C].toArray 25)::blk pb4 (.cells [.bool W].toArray 4)::blk pb5 (.cells [D,.int .i64 X].toArray 97)::rowR 3 1 C Y::rowR 3 1 D Z::L) (fun ⟨am,W,an,X,C,Y,D,Z⟩ hh=>az = (am,W,an,X)∧RowF (VI .i64) hh Y am∧RowF (VI .i64) hh Z an) ?_ ?_
    ·have H:=cG
     refine Bl<|have cJ:=RowF.mono VI.mono hR5_3 c; Fr_ 4 z<|T.fl ?_
     refine Fr_ 1 z<|T.fl ?_
     refine Fr_ 4 z<|T.fl ?_
     refine Fr_ 4 z<|T.fl ?_
     refine Fr_ 4 z<|T.fl ?_
     refine T.loopK (α:=Nat×(List Int)×Bool×(List Int)×Int×Int×Value×(List (List Value))×Value×(List (List Value))) [0,1,2,3,4,5,6,7,56] z (fun ⟨aa,p,d,q,e,m,a,f,b,i⟩=>[(57,.int .i64 m)]) (fun ⟨aa,p,d,q,e,m,a,f,b,i⟩=>blk pb3 (.cells [a].toArray 25)::blk pb4 (.cells [.bool d].toArray 4)::blk pb5 (.cells [b,.int .i64 e].toArray 97)::rowR 3 1 a f::rowR 3 1 b i::L) (fun ⟨aa,p,d,q,e,m,a,f,b,i⟩ hh=>iter (scene_best_1_l0 (scene_best_1 n) g1 left2 t3 t11) aa (p,d,q,e,m) = some az∧RowF (VI .i64) hh f p∧RowF (VI .i64) hh i q) (fun ⟨aa,p,d,q,e,m,a,f,b,i⟩=>aa) (FUEL,t6,t8,t9.fPlan,t9.fCost,(0:Int),v3_1,css3_2,v5_1,css5_2) ⟨z,trivial⟩ z ⟨H,ai,cJ⟩ ?_
     rintro ⟨aa,p,d,q,e,m,a,f,b,i⟩ eU o ⟨cK,aU,ao⟩
     obtain ⟨cM,eV,rfl,H,ba⟩:=iter_go cK
     refine T.norm [57,0,1,2,3,4,5,6,7,56] z<|Sl_ (blk pb3 (.cells [a].toArray 25)::blk pb4 (.cells [.bool d].toArray 4)::blk pb5 (.cells [b,.int .i64 e].toArray 97)::rowR 3 1 a f::rowR 3 1 b i::L) z<|Sr<|Vv (V.lt z z)<|Nt<|Sq<|T.cH H z (fun H=>?_) (fun H=>?_)
     ·refine T.skip<|Th<|Sq ?_
      obtain ⟨cN,cO,cP⟩:=bndK H
      refine T.cutK (α:=(List Int)×Bool×(List Int)×Int×Value×(List (List Value))×Value×(List (List Value))) [0,1,2,3,4,5,6,7,56,57] z (fun ⟨ab,E,ac,G,x,I,y,J⟩=>[]) (fun ⟨ab,E,ac,G,x,I,y,J⟩=>blk pb3 (.cells [x].toArray 25)::blk pb4 (.cells [.bool E].toArray 4)::blk pb5 (.cells [y,.int .i64 G].toArray 97)::rowR 3 1 x I::rowR 3 1 y J::L) (fun ⟨ab,E,ac,G,x,I,y,J⟩ hh=>cN = (ab,E,ac,G)∧RowF (VI .i64) hh I ab∧RowF (VI .i64) hh J ac) ?_ ?_
      ·have H:=cO
       refine Bl<|Sr<|Mv z<|Ag z<|Nt<|Sq ?_
       obtain ⟨cS,cU,cV⟩:=bndK H
       refine T.cutK (α:=Bool) [0,1,2,3,4,5,6,7,13,56,57] z (fun ap=>[(14,.bool ap)]) (fun ap=>blk pb3 (.cells [a].toArray 25)::blk pb4 (.cells [.bool d].toArray 4)::blk pb5 (.cells [b,.int .i64 e].toArray 97)::rowR 3 1 a f::rowR 3 1 b i::L) (fun ap hh=>cS = ap) ?_ ?_
       ·have H:=cU
        refine Rg<|have bb:=S.mono o; Vv (V.ld0 shrepair2_55 z bb z)<|Vv (V.nck z)<|Vv (V.fa fdrepair2_69_2 z)<|have bc:=U.mono o; Vv (V.ldf (k:=6) shrepair2_25 z bc z)<|Mv z ?_
        obtain ⟨eW,be,H⟩:=bnd H
        have cW:=(c.trans o)
        have aI:=Slc.mono VI.mono ag cW
        obtain ⟨eX,cX,rfl⟩:=Slc.at aI be
        refine Vv (V.ix elrepair2_25 z z aI (getI_bd be))<|Vv (V.ld0 shrepair2_3 z cX z)<|Vv (V.ge z z)<|Mv z<|T.bH 68 H z (fun H=>?_) (fun H=>?_)
        ·refine Vv (V.ld0 shrepair2_55 z bb z)<|Vv (V.nck z)<|Vv (V.fa fdrepair2_69_2 z)<|Vv (V.ldf (k:=6) shrepair2_25 z bc z)<|Mv z ?_
         obtain ⟨cY,bf,H⟩:=bnd H
         obtain ⟨eY,cZ,rfl⟩:=Slc.at aI bf
         refine Vv (V.ix elrepair2_25 z z aI (getI_bd bf))<|Vv (V.ld0 shrepair2_3 z cZ z)<|Mv z<|Vv (V.ne z z)<|Vv (V.pkT z z)<|Ag z<|Nt<|T.met (!decide (cY = m)) Lr (sinj H) (AllIn.app ⟨z,trivial⟩ ⟨z,z,z,z,z,z,z,z,z,z,z,trivial⟩) z
        refine Sk<|Sk<|Sk<|Sk<|Sk<|Sk<|Sk<|Sk<|Sk<|Vv (V.pkF z z)<|Ag z<|Nt<|T.met false Lr (sinj H) (AllIn.app ⟨z,trivial⟩ ⟨z,z,z,z,z,z,z,z,z,z,z,trivial⟩) z
       rintro ap eZ r c0
       have H:=cutE c0 cV
       refine T.norm [14,0,1,2,3,4,5,6,7,13,56,57] z<|Sl_ (blk pb3 (.cells [a].toArray 25)::blk pb4 (.cells [.bool d].toArray 4)::blk pb5 (.cells [b,.int .i64 e].toArray 97)::rowR 3 1 a f::rowR 3 1 b i::L) z<|Sq<|Sq ?_
       obtain ⟨c1,c2,c3⟩:=bndK H
       refine T.cutK (α:=Bool) [0,1,2,3,4,5,6,7,13,14,56,57] z (fun aq=>[(99,.bool aq)]) (fun aq=>blk pb3 (.cells [a].toArray 25)::blk pb4 (.cells [.bool d].toArray 4)::blk pb5 (.cells [b,.int .i64 e].toArray 97)::rowR 3 1 a f::rowR 3 1 b i::L) (fun aq hh=>c1 = aq) ?_ ?_
       ·have H:=c2
        refine Rg<|Mv z<|Mv z<|T.bH 80 H z (fun H=>?_) (fun H=>?_)
        ·refine Mv z<|Vv (V.eq z z)<|Vv (V.pkT z z)<|Mv z<|T.bH 84 H z (fun H=>?_) (fun H=>?_)
         ·refine Sk<|Sk<|Sk<|Sk<|Sk<|Sk<|Sk<|Sk<|Sk<|Sk<|Sk<|Sk<|Sk<|Sk<|Vv (V.pkT z z)<|Nt<|T.met true Lr (sinj H) (AllIn.app ⟨z,trivial⟩ ⟨z,z,z,z,z,z,z,z,z,z,z,z,trivial⟩) z
         refine Mv z<|have bg:=((c.trans o).trans r); have c4:=pa6.mono bg; Vv (V.ld0 shrepair2_3 z c4 z)<|Vv (V.eq z z)<|Mv z<|T.bH 88 H z (fun H=>?_) (fun H=>?_)
         ·have bi:=(o.trans r)
          have c5:=S.mono bi
          refine Vv (V.ld0 shrepair2_55 z c5 z)<|Vv (V.nck z)<|Vv (V.fa fdrepair2_69_2 z)<|have c6:=U.mono bi; Vv (V.ldf (k:=6) shrepair2_25 z c6 z)<|Mv z ?_
          obtain ⟨c7,bj,H⟩:=bnd H
          have bk:=Slc.mono VI.mono ag bg
          obtain ⟨e0,c8,rfl⟩:=Slc.at bk bj
          refine Vv (V.ix elrepair2_25 z z bk (getI_bd bj))<|Vv (V.ld0 shrepair2_3 z c8 z)<|Mv z<|Vv (V.eq z z)<|Vv (V.pkT z z)<|Vv (V.pkF z z)<|Nt<|T.met (decide (c7 = m)) Lr (sinj H) (AllIn.app ⟨z,trivial⟩ ⟨z,z,z,z,z,z,z,z,z,z,z,z,trivial⟩) z
         refine Sk<|Sk<|Sk<|Sk<|Sk<|Sk<|Sk<|Sk<|Sk<|Vv (V.pkF z z)<|Vv (V.pkF z z)<|Nt<|T.met false Lr (sinj H) (AllIn.app ⟨z,trivial⟩ ⟨z,z,z,z,z,z,z,z,z,z,z,z,trivial⟩) z
        refine Sk<|Sk<|Vv (V.pkF z z)<|Mv z<|Mv z<|have bm:=((c.trans o).trans r); have c9:=pa6.mono bm; Vv (V.ld0 shrepair2_3 z c9 z)<|Vv (V.eq z z)<|Mv z<|T.bH 88 H z (fun H=>?_) (fun H=>?_)
        ·have bn:=(o.trans r)
         have ch:=S.mono bn
         refine Vv (V.ld0 shrepair2_55 z ch z)<|Vv (V.nck z)<|Vv (V.fa fdrepair2_69_2 z)<|have cl:=U.mono bn; Vv (V.ldf (k:=6) shrepair2_25 z cl z)<|Mv z ?_
         obtain ⟨cv,bo,H⟩:=bnd H
         have bp:=Slc.mono VI.mono ag bm
         obtain ⟨e1,cz,rfl⟩:=Slc.at bp bo
         refine Vv (V.ix elrepair2_25 z z bp (getI_bd bo))<|Vv (V.ld0 shrepair2_3 z cz z)<|Mv z<|Vv (V.eq z z)<|Vv (V.pkT z z)<|Vv (V.pkF z z)<|Nt<|T.met (decide (cv = m)) Lr (sinj H) (AllIn.app ⟨z,trivial⟩ ⟨z,z,z,z,z,z,z,z,z,z,z,z,trivial⟩) z
        refine Sk<|Sk<|Sk<|Sk<|Sk<|Sk<|Sk<|Sk<|Sk<|Vv (V.pkF z z)<|Vv (V.pkF z z)<|Nt<|T.met false Lr (sinj H) (AllIn.app ⟨z,trivial⟩ ⟨z,z,z,z,z,z,z,z,z,z,z,z,trivial⟩) z
       rintro aq e2 ad da
       have H:=cutE da c3
       refine T.norm [99,0,1,2,3,4,5,6,7,13,14,56,57] z<|Sl_ (blk pb3 (.cells [a].toArray 25)::blk pb4 (.cells [.bool d].toArray 4)::blk pb5 (.cells [b,.int .i64 e].toArray 97)::rowR 3 1 a f::rowR 3 1 b i::L) z<|T.cH H z (fun H=>?_) (fun H=>?_)
       ·refine T.exit<|Te<|Be<|Th<|have aV:=(r.trans ad); have db:=RowF.mono VI.mono aU aV; have dc:=RowF.mono VI.mono ao aV; T.met (p,d,q,e,a,f,b,i) aV ⟨(sinj H),db,dc⟩ (AllIn.app trivial ⟨z,z,z,z,z,z,z,z,z,z,trivial⟩) z
       refine T.skip<|Th<|Sq<|Sr<|Vv (V.ldO0 shrepair2_25 z (j:=0) z z)<|have aJ:=(r.trans ad); have aW:=RowF.mono VI.mono aU aJ; Vv (V.lenX elrepair2_25 z (j:=3) z aW.len)<|Mv z<|Nt ?_
       obtain ⟨bq,dd,br⟩:=bndK H
       refine T.cutK (α:=Unit) [0,1,2,3,4,5,6,7,13,14,56,57] z (fun _u=>[]) (fun _u=>blk pb3 (.cells [a].toArray 25)::blk pb4 (.cells [.bool d].toArray 4)::blk pb5 (.cells [b,.int .i64 e].toArray 97)::rowR 3 1 a f::rowR 3 1 b i::L) (fun _u hh=>bq = (Sum.inl ())) ?_ ?_
       ·have H:=dd
        refine Bl<|T.loopK (α:=Nat×Int) [0,1,2,3,4,5,6,7,13,14,56,57,100,101] z (fun ⟨ae,af⟩=>[(102,.int .i64 af)]) (fun ⟨ae,af⟩=>blk pb3 (.cells [a].toArray 25)::blk pb4 (.cells [.bool d].toArray 4)::blk pb5 (.cells [b,.int .i64 e].toArray 97)::rowR 3 1 a f::rowR 3 1 b i::L) (fun ⟨ae,af⟩ hh=>iter (scene_best_1_l1 p d q e m) ae af = some bq) (fun ⟨ae,af⟩=>ae) (FUEL,(0:Int)) ⟨z,trivial⟩ z H ?_
        rintro ⟨ae,af⟩ e3 aK de
        obtain ⟨df,e4,rfl,H,aX⟩:=iter_go de
        refine T.norm [102,0,1,2,3,4,5,6,7,13,14,56,57,100,101] z<|Sl_ (blk pb3 (.cells [a].toArray 25)::blk pb4 (.cells [.bool d].toArray 4)::blk pb5 (.cells [b,.int .i64 e].toArray 97)::rowR 3 1 a f::rowR 3 1 b i::L) z<|Sr<|Vv (V.lt z z)<|Nt<|Sq<|T.cH H z (fun H=>?_) (fun H=>?_)
        ·refine T.skip<|Th<|Sq<|Bl<|Sr ?_
         obtain ⟨e5,bs,H⟩:=bnd H
         have aY:=RowF.mono VI.mono aW aK
         obtain ⟨e6,dg,rfl⟩:=RowF.get aY bs
         refine Vv (V.ixR elrepair2_25 z z (j:=3) z (RowF.bd aY bs))<|Vv (V.ldR shrepair2_3 z (j:=3) z dg z)<|Ag z<|Nt<|Sr<|Mv z<|Mv z<|Vv (V.eq z z)<|Nt<|T.cH H z (fun H=>?_) (fun H=>?_)
         ·refine T.exit<|T.blX z<|Te<|Te<|have H:=iterK_out H aX; T.blX z<|Te<|have H:=cutE H br; Be<|Th<|have bt:=(aJ.trans aK); have di:=RowF.mono VI.mono ao bt; T.met (p,d,q,e,a,f,b,i) bt ⟨(sinj H),aY,di⟩ (AllIn.app trivial ⟨z,z,z,z,z,z,z,z,z,z,trivial⟩) z
         refine T.skip<|Bn<|Th<|Rg ?_
         obtain ⟨dj,dk,H⟩:=bnd H
         refine Vv (V.addS z z dk)<|Mv z<|Nt<|T.again (df,dj) aK (Nat.lt_succ_self _) (iterK_in H aX) (AllIn.app ⟨z,trivial⟩ ⟨z,z,z,z,z,z,z,z,z,z,z,z,z,z,trivial⟩) z
        refine T.exit<|Te<|Te<|have H:=iterK_out H aX; Be<|Th<|T.met () aK H (AllIn.app trivial ⟨z,z,z,z,z,z,z,z,z,z,z,z,trivial⟩) z
       rintro _ A K dm
       have H:=cutE dm br
       refine T.norm [0,1,2,3,4,5,6,7,13,14,56,57] z<|Sl_ (blk pb3 (.cells [a].toArray 25)::blk pb4 (.cells [.bool d].toArray 4)::blk pb5 (.cells [b,.int .i64 e].toArray 97)::rowR 3 1 a f::rowR 3 1 b i::L) z<|Sr<|Vv (V.ldO0 shrepair2_25 z (j:=0) z z)<|Mv z<|Mv z ?_
       obtain ⟨e7,aZ,H⟩:=bnd H
       have aM:=RowF.mono VI.mono aW K
       obtain ⟨e8,e9,rfl⟩:=RowF.get aM aZ
       refine Vv (V.ixR elrepair2_25 z z (j:=3) z (RowF.bd aM aZ)) ?_
       obtain ⟨dn,dp,H⟩:=bnd H
       refine To (O.stR shrepair2_3 z z (j:=3) z (RowF.bdN aM aZ) z<|have bu:RowF (VI .i64) A (f.set g1.toNat [.int .i64 m]) dn:=RowF.set aM (show (VI .i64) A [.int .i64 m] m from z) dp; Nt<|Sq<|Sr<|Mv z<|Nt<|T.cH H z (fun H=>?_) (fun H=>?_))
       ·refine Rg<|have s:=((((c.trans o).trans r).trans ad).trans K); have bw:=pa7.mono s; Vv (V.ld0 shrepair2_176 z bw z)<|Mv z ?_
        obtain ⟨eh,dq,H⟩:=bnd H
        refine Vv (V.addS z z dq)<|Mv z ?_
        obtain ⟨el,dr,H⟩:=bnd H
        refine Vv (V.subS z z dr)<|have bx:=(((o.trans r).trans ad).trans K); have ds:=S.mono bx; have dt:=U.mono bx; have du:=Pt.mono VruleJudge.mono aD s; have dw:=Slc.mono VapiTable.mono a2 s; have dx:=Slc.mono VapiGuest.mono a3 s; have dy:=Slc.mono VapiTie.mono a4 s; have dA:=Slc.mono VI.mono a5 s; have dB:=Slc.mono VapiRule.mono a6 s; have dC:=Slc.mono VI.mono ag s; have bA:=(aJ.trans K); have dD:=RowF.mono VI.mono ao bA; have dE:=pa6.mono s; Fr_ 4 z<|T.fl ?_
        refine Fr_ 4 z<|T.fl ?_
        refine Fr_ 4 z<|T.fl ?_
        refine Fr_ 3 z<|T.fl ?_
        refine Fr_ 4 z<|T.fl ?_
        obtain ⟨⟨ev,dG,bB⟩,dI,H⟩:=bnd H
        refine To (O.callfS z z (self ds (show (VPt Vrepairscene) A [.pointer (some ar)] t3 from ⟨(.pointer (some ar)),z,(Pt.mk dt (show Vrepairscene A [au,aw,ax,ay,aA,aB,aC,.int .i64 t3.fseats] t3 from ⟨au,aw,ax,ay,aA,aB,aC,z,du,dw,dx,dy,dA,dB,dC⟩))⟩) bu dD dE (show (VI .i64) A [.int .i64 t11] t11 from z) bw dI _) z fun ez bC fb dJ dK=>?_)
        obtain ⟨dM,bD,dN,dO,rfl,dP,aN,dS⟩:=dK
        refine Sl_ _ dP<|Nt<|Rg<|Vv (V.ldO0 shrepair2_25 z (j:=0) z z)<|Mv z ?_
        obtain ⟨fc,a0,H⟩:=bnd H
        obtain ⟨fd,fe,rfl⟩:=RowF.get aN a0
        refine Vv (V.ixR elrepair2_25 z z (j:=1) z (RowF.bd aN a0)) ?_
        obtain ⟨bE,dU,H⟩:=bnd H
        refine To (O.stR shrepair2_3 z z (j:=1) z (RowF.bdN aN a0) z<|have dV:RowF (VI .i64) bC (bD.set g1.toNat [.int .i64 (-1:Int)]) bE:=RowF.set aN (show (VI .i64) bC [.int .i64 (-1:Int)] (-1:Int) from z) dU; Ni<|Bn<|Th<|Fr_ 4 z<|T.fl ?_)
        refine Fr_ 1 z<|T.fl ?_
        refine Fr_ 4 z<|T.fl ?_
        refine Fr_ 4 z<|T.fl ?_
        refine Fr_ 4 z<|T.fl ?_
        have dW:=(bA.trans dJ)
        exact T.met (bE,dG,bB.fPlan,bB.fCost,dM,(bD.set g1.toNat [.int .i64 (-1:Int)]),dN,dO) dW ⟨(sinj H),dV,dS⟩ (AllIn.app trivial ⟨z,z,z,z,z,z,z,z,z,z,trivial⟩) z
       refine Rg<|have u:=((((c.trans o).trans r).trans ad).trans K); have bG:=pa7.mono u; Vv (V.ld0 shrepair2_176 z bG z)<|Mv z ?_
       obtain ⟨ff,dX,H⟩:=bnd H
       refine Vv (V.addS z z dX)<|Mv z<|have bI:=(((o.trans r).trans ad).trans K); have dY:=S.mono bI; have dZ:=U.mono bI; have d0:=Pt.mono VruleJudge.mono aD u; have d1:=Slc.mono VapiTable.mono a2 u; have d2:=Slc.mono VapiGuest.mono a3 u; have d3:=Slc.mono VapiTie.mono a4 u; have d4:=Slc.mono VI.mono a5 u; have d5:=Slc.mono VapiRule.mono a6 u; have d6:=Slc.mono VI.mono ag u; have bJ:=(aJ.trans K); have d7:=RowF.mono VI.mono ao bJ; have d8:=pa6.mono u; Fr_ 4 z<|T.fl ?_
       refine Fr_ 4 z<|T.fl ?_
       refine Fr_ 4 z<|T.fl ?_
       refine Fr_ 3 z<|T.fl ?_
       refine Fr_ 4 z<|T.fl ?_
       obtain ⟨⟨fg,d9,bK⟩,dh,H⟩:=bnd H
       refine To (O.callfS z z (self dY (show (VPt Vrepairscene) A [.pointer (some ar)] t3 from ⟨(.pointer (some ar)),z,(Pt.mk dZ (show Vrepairscene A [au,aw,ax,ay,aA,aB,aC,.int .i64 t3.fseats] t3 from ⟨au,aw,ax,ay,aA,aB,aC,z,d0,d1,d2,d3,d4,d5,d6⟩))⟩) bu d7 d8 (show (VI .i64) A [.int .i64 t11] t11 from z) bG dh _) z fun fi bM fj dl dv=>?_)
       obtain ⟨dz,bN,ea,eb,rfl,ec,aO,ed⟩:=dv
       refine Sl_ _ ec<|Nt<|Rg<|Vv (V.ldO0 shrepair2_25 z (j:=0) z z)<|Mv z ?_
       obtain ⟨fk,a1,H⟩:=bnd H
       obtain ⟨fm,fn,rfl⟩:=RowF.get aO a1
       refine Vv (V.ixR elrepair2_25 z z (j:=1) z (RowF.bd aO a1)) ?_
       obtain ⟨bO,ee,H⟩:=bnd H
       refine To (O.stR shrepair2_3 z z (j:=1) z (RowF.bdN aO a1) z<|have ef:RowF (VI .i64) bM (bN.set g1.toNat [.int .i64 (-1:Int)]) bO:=RowF.set aO (show (VI .i64) bM [.int .i64 (-1:Int)] (-1:Int) from z) ee; Ni<|Bn<|Th<|Fr_ 4 z<|T.fl ?_)
       refine Fr_ 1 z<|T.fl ?_
       refine Fr_ 4 z<|T.fl ?_
       refine Fr_ 4 z<|T.fl ?_
       refine Fr_ 4 z<|T.fl ?_
       have eg:=(bJ.trans dl)
       exact T.met (bO,d9,bK.fPlan,bK.fCost,dz,(bN.set g1.toNat [.int .i64 (-1:Int)]),ea,eb) eg ⟨(sinj H),ef,ed⟩ (AllIn.app trivial ⟨z,z,z,z,z,z,z,z,z,z,trivial⟩) z
      rintro ⟨ab,E,ac,G,x,I,y,J⟩ fo ei ⟨ej,ek,em⟩
      have H:=cutE ej cP
      refine T.norm [0,1,2,3,4,5,6,7,56,57] z<|Sl_ (blk pb3 (.cells [x].toArray 25)::blk pb4 (.cells [.bool E].toArray 4)::blk pb5 (.cells [y,.int .i64 G].toArray 97)::rowR 3 1 x I::rowR 3 1 y J::L) z<|Rg ?_
      obtain ⟨en,eo,H⟩:=bnd H
      refine Vv (V.addS z z eo)<|Mv z<|Nt<|have ep:=(o.trans ei); T.again (cM,ab,E,ac,G,en,x,I,y,J) ep (Nat.lt_succ_self _) ⟨(iterK_in H ba),ek,em⟩ (AllIn.app ⟨z,trivial⟩ ⟨z,z,z,z,z,z,z,z,z,trivial⟩) z
     refine T.exit<|Te<|Te<|have H:=iterK_out H ba; Be<|Th<|T.met (p,d,q,e,a,f,b,i) o ⟨H,aU,ao⟩ (AllIn.app trivial ⟨z,z,z,trivial⟩) z
    rintro ⟨am,W,an,X,C,Y,D,Z⟩ fp er ⟨es,et,eu⟩
    have H:=cutE es cI
    refine T.norm [3,4,5] z<|Sl_ (blk pb3 (.cells [C].toArray 25)::blk pb4 (.cells [.bool W].toArray 4)::blk pb5 (.cells [D,.int .i64 X].toArray 97)::rowR 3 1 C Y::rowR 3 1 D Z::L) z<|T.sgN<|Fr_ 4 z<|T.fl ?_
    refine Fr_ 3 z<|T.fl ?_
    refine Fr_ 3 z<|T.fl ?_
    refine Fr_ 4 z<|T.fl ?_
    refine Fr_ 4 z<|T.fl ?_
    obtain ⟨rfl,rfl,rfl⟩:=inj3 H
    have ew:=(c.trans er)
    exact T.end0 Tryz.results114 ew ⟨_,_,_,_,z,z,et,eu⟩
theorem scene_best_ok {h:PH} {pv0:Value} {s1:repairscene} (pr0:Pt Vrepairscene h pv0 s1) {moves2:Int} {oust3:Int} {r_0:apiRanked} {r_1:Bool} (H:scene_best s1 moves2 oust3 = some (r_0,r_1)):∀ L,FnS Tryz.prog 52 [pv0,.int .i64 moves2,.int .i64 oust3] h (L) (fun v h' L'=>∃ v0_1,v = .tuple #[.agg #[v0_1,.int .i64 r_0.fCost],.bool r_1]∧L' = L∧Slc (VI .i64) 1 h' v0_1 r_0.fPlan):=by
 intro L
 refine FnS.enter Tryz.func52 z Tryz.ntmps52 z<|Sr<|To (O.boxF z (Pt.cells pr0) z fun E a1 G I=>To (O.boxF z z z fun J K g M=>To (O.alloc zerepair2_97 z z fun a2=>Ag z<|Nt<|Sr<|To (O.bs elrepair2_25 zerepair2_3 z (e:=z) (hk:=z) (xs:=[.const (.int .i64 (-1))]) (hv:=CO.eq (CO.cons z CO.nil)) (hw:=Wide.of z) (hd:=z) fun a3=>have N:RowF (VI .i64) K [[.int .i64 (-1:Int)]] ([(-1:Int)]:List Int):=(RowF.cons z RowF.nil); have i:=I.mono g; Vv (V.ld0 shrepair2_55 z i z)<|have m:=(G.trans g); have P:=Pt.mono Vrepairscene.mono pr0 m; have S:=P; ?_))))
 obtain ⟨n,_,rfl,o,⟨p,q,r,s,u,w,x,rfl,U,W,X,Y,Z,aa,y⟩⟩:=S
 refine Vv (V.nck z)<|Vv (V.fa fdrepair2_69_2 z)<|Vv (V.ldf (k:=6) shrepair2_25 z o z)<|Vv (V.lenS elrepair2_25 z y)<|T.rowFix fun a4 d ab=>have ac:=RowF.mono VI.mono N d; have ad:=RowF.slc ab ac; ?_
 obtain ⟨a5,ae,H⟩:=bnd H
 refine To (O.callS z (sl_Repeat_ok ad ae _) z fun af a6 a7 A ag=>?_)
 obtain ⟨a8,ai,aj⟩:=ag
 refine Sl_ _ ai<|To (O.alloc zerepair2_25 rfl rfl fun ak=>T.rowOne 1 rfl fun am an=>To (O.stF (vs:=[af]) shrepair2_25 rfl rfl (j:=0) rfl an (by (simp only [Sl.ones,am,Bool.and_true,Bool.true_and]) <;> rfl) rfl ?_))
 refine T.fl ?_
 refine Nt<|Sr<|To (O.alloc zerepair2_97 z z fun ao=>Nt<|Sr<|To (O.alloc zerepair2_4 z z fun ap=>To (O.stF (vs:=[.bool false]) shrepair2_4 z z (j:=0) z z z z<|T.fl ?_)))
 refine Nt<|Sr<|To (O.alloc zerepair2_176 z z fun aq=>Nt<|Sr<|Vv (V.mkf z z)<|To (O.stF (vs:=[.func (.func 114) #[] #[.pointer (some ⟨E,0,none⟩),.pointer (some ⟨ak,0,none⟩),.pointer (some ⟨ap,0,none⟩),.pointer (some ⟨ao,0,none⟩),.pointer (some ⟨J,0,none⟩),.pointer (some ⟨aq,0,none⟩)]]) shrepair2_176 z z (j:=0) z z z z<|T.fl ?_))
 refine T.freeze fun b f ar=>have B:=AtC.of ar; Nt<|Sr<|Vv (V.ld0 shrepair2_176 z B z)<|Mv z<|T.rowNil 3 1<|have au:RowF (VI .i64) b [] ([]:List Int):=RowF.nil; have a:=((d.trans A).trans f); have aw:=i.mono a; have ax:=o.mono a; have ay:=Pt.mono VruleJudge.mono U a; have aA:=Slc.mono VapiTable.mono W a; have aB:=Slc.mono VapiGuest.mono X a; have aC:=Slc.mono VapiTie.mono Y a; have aD:=Slc.mono VI.mono Z a; have aE:=Slc.mono VapiRule.mono aa a; have aG:=Slc.mono VI.mono y a; have aI:=RowF.mono VI.mono aj f; have aJ:=M.mono a; Fr_ 2 z<|T.fl ?_
 refine Fr_ 2 z<|T.fl ?_
 refine Fr_ 4 z<|T.fl ?_
 refine Fr_ 4 z<|T.fl ?_
 obtain ⟨⟨a9,ah,aK⟩,aM,H⟩:=bnd H
 refine To (O.callfS z z (scene_best_1_ok _ aw (show (VPt Vrepairscene) b [.pointer (some n)] s1 from ⟨(.pointer (some n)),z,(Pt.mk ax (show Vrepairscene b [p,q,r,s,u,w,x,.int .i64 s1.fseats] s1 from ⟨p,q,r,s,u,w,x,z,ay,aA,aB,aC,aD,aE,aG⟩))⟩) aI au aJ (show (VI .i64) b [.int .i64 oust3] oust3 from z) B aM _) z fun al av az aN aO=>?_)
 obtain ⟨ba,bb,aP,bc,rfl,aS,bd,aU⟩:=aO
 refine Sl_ _ aS<|Nt<|Sq<|Fr_ 4 z<|T.fl ?_
 refine T.rowFix fun be C aV=>have aW:=RowF.mono VI.mono aU C; have D:=RowF.slc aV aW; Fr_ 4 z<|T.fl ?_
 refine Fr_ 4 z<|T.fl ?_
 refine Fr_ 4 z<|T.fl ?_
 refine T.drawF (t:=(.v 0 (.v 1 (.alt 2 (.alt 3 .done .no) .no)))) 2 3 2 rfl rfl repair2mixed (by kernel_rfl) ?_
 refine Tv z (Val.XA fun _ _ _=>V.ldOS (j:=1) (by exact shrepair2_97) rfl rfl) ?_
 refine Tv z (Val.XA fun _ _ _=>V.ldO0 shrepair2_4 rfl (j:=0) rfl rfl)<|Tp z z (SX.two (XA.fr [1,1] Lr rfl) (XA.fr [2,2,2] Lr rfl)) (O.stF (vs:=[aP,.int .i64 aK.fCost]) shrepair2_97 rfl rfl (j:=2) rfl rfl (by (simp only [Sl.ones,Slc.one D,Bool.and_true,Bool.true_and]) <;> rfl) rfl ?_) T.tno
 refine T.fl ?_
 refine T.freeze fun bf c aX=>have aY:=AtC.of aX; Ts z z (SX.one (XA.fr [1,1] c z) z) (V.asg z) z ?_ T.tno
 refine T.tnil (SX.one (XA.fr [1,1] c z) z)<|Th<|T.ret<|T.drop<|T.drop<|T.drop<|T.drop<|have aZ:=Slc.mono VI.mono D c; ?_
 obtain ⟨rfl,rfl⟩:=inj2 H
 have a0:=((((((m.trans d).trans A).trans f).trans aN).trans C).trans c)
 exact T.retL Tryz.results52 (RVs.cons (RV.cellA z aY shrepair2_97) (Rv z)) a0 ⟨_,z,z,aZ⟩
theorem scene_first_ok {h:PH} {pv0:Value} {s1:repairscene} (pr0:Pt Vrepairscene h pv0 s1) {most2:Int} {oust3:Int} {r_0:apiRepair} {r_1:Int} (H:scene_first s1 most2 oust3 = some (r_0,r_1)):∀ L,FnS Tryz.prog 13 [pv0,.int .i64 most2,.int .i64 oust3] h (L) (fun v h' L'=>∃ v0_1 v0_3 v0_5 v0_7 v0_9 v0_11,v = .tuple #[.agg #[v0_1,v0_3,v0_5,v0_7,v0_9,v0_11,.int .i64 r_0.fMoved,.int .i64 r_0.fCost],.int .i64 r_1]∧L' = L∧Slc VapiTable 7 h' v0_1 r_0.fProblem.fTables∧Slc VapiGuest 9 h' v0_3 r_0.fProblem.fGuests∧Slc VapiTie 3 h' v0_5 r_0.fProblem.fTies∧Slc (VI .i64) 1 h' v0_7 r_0.fProblem.fClass∧Slc VapiRule 6 h' v0_9 r_0.fProblem.fRules∧Slc (VI .i64) 1 h' v0_11 r_0.fPlan):=by
 intro L
 refine FnS.enter Tryz.func13 z Tryz.ntmps13 z<|Sr<|To (O.alloc zerepair2_47 z z fun c=>Ag z<|Nt<|Sq<|Sr<|Mv z<|Mv z ?_)
 obtain ⟨aS,X,H⟩:=bnd H
 refine To (O.callS z (scene_tries_ok pr0 X _) z fun aU aV aW e Y=>?_)
 obtain ⟨rfl,Z⟩:=Y
 refine Sl_ _ Z<|Vv (V.gt z z)<|Nt<|T.cH H z (fun H=>?_) (fun H=>?_)
 ·refine Sr<|Vv (V.bld (xs:=[]) (cs:=[_,_,_,_,_,_,_,_]) blrepair2_47 borepair2_47 z Fills.nil)<|To (O.stF (vs:=[.slice none 0 0,.slice none 0 0,.slice none 0 0,.slice none 0 0,.slice none 0 0,.slice none 0 0,.int .i64 (0:Int),.int .i64 (0:Int)]) shrepair2_47 z z (j:=0) z z z z<|Ag z<|Nt<|T.ret<|Tr ?_)
  obtain ⟨rfl,rfl⟩:=inj2 H
  exact T.retD (L':=L) Tryz.results13 (RVs.cons (RV.cellS z (j:=0) z shrepair2_47) (Rv z)) e (fun _ iv=>iv.drop) ⟨_,_,_,_,_,_,z,z,Slc.nil,Slc.nil,Slc.nil,Slc.nil,Slc.nil,Slc.nil⟩
 refine T.skip<|Th<|Sq<|Sr<|Ag z<|Nt ?_
 obtain ⟨q,aa,r⟩:=bndK H
 refine T.cutK (α:=Unit) [6] z (fun _u=>[]) (fun _u=>blk c (.cells [.slice none 0 0,.slice none 0 0,.slice none 0 0,.slice none 0 0,.slice none 0 0,.slice none 0 0,.int .i64 (0:Int),.int .i64 (0:Int)].toArray 47)::L) (fun _u hh=>q = (Sum.inl ())) ?_ ?_
 ·have H:=aa
  refine Bl<|T.loopK (α:=Nat×Int) [0,1,2,6] z (fun ⟨b,a⟩=>[(8,.int .i64 a)]) (fun ⟨b,a⟩=>blk c (.cells [.slice none 0 0,.slice none 0 0,.slice none 0 0,.slice none 0 0,.slice none 0 0,.slice none 0 0,.int .i64 (0:Int),.int .i64 (0:Int)].toArray 47)::L) (fun ⟨b,a⟩ hh=>iter (scene_first_l0 s1 most2 oust3) b a = some q) (fun ⟨b,a⟩=>b) (FUEL,(0:Int)) ⟨z,trivial⟩ z H ?_
  rintro ⟨b,a⟩ ab f ac
  obtain ⟨ad,aX,rfl,H,i⟩:=iter_go ac
  refine T.norm [8,0,1,2,6] z<|Sl_ (blk c (.cells [.slice none 0 0,.slice none 0 0,.slice none 0 0,.slice none 0 0,.slice none 0 0,.slice none 0 0,.int .i64 (0:Int),.int .i64 (0:Int)].toArray 47)::L) z<|Sq<|Sr<|Mv z<|Mv z<|Mv z<|have s:=(e.trans f); have ae:=Pt.mono Vrepairscene.mono pr0 s; have af:=ae; ?_
  obtain ⟨aY,_,rfl,m,⟨u,w,x,y,A,B,C,rfl,D,ag,ai,aj,ak,am,E⟩⟩:=af
  refine Vv (V.nck z)<|Vv (V.fa fdrepair2_69_2 z)<|Vv (V.ldf (k:=6) shrepair2_25 z m z)<|Vv (V.lenS elrepair2_25 z E)<|Vv (V.min2 z z)<|Vv (V.le z z)<|Nt<|T.cH H z (fun H=>?_) (fun H=>?_)
  ·refine T.skip<|Th<|Sq<|Bl<|Sr<|Mv z<|Mv z<|Mv z ?_
   obtain ⟨⟨G,aZ⟩,an,H⟩:=bnd H
   refine To (O.callS z (scene_best_ok (Pt.mk m (show Vrepairscene ab [u,w,x,y,A,B,C,.int .i64 s1.fseats] s1 from ⟨u,w,x,y,A,B,C,z,D,ag,ai,aj,ak,am,E⟩)) an _) z fun a0 a1 a2 n ao=>?_)
   obtain ⟨I,rfl,ap,J⟩:=ao
   refine Sl_ _ ap<|Mv z<|Vv (V.ext rfl rfl)<|Vv (V.ext rfl rfl)<|To (O.alloc zerepair2_97 rfl rfl fun a3=>To (O.stF (vs:=[I,.int .i64 G.fCost]) shrepair2_97 rfl rfl (j:=0) rfl rfl (by (simp only [Sl.ones,Slc.one J,Bool.and_true,Bool.true_and]) <;> rfl) rfl ?_))
   refine T.freeze fun a4 d aq=>have K:=AtC.of aq; Ag z<|Nt<|Sr<|Mv z<|Nt<|T.cH H z (fun H=>?_) (fun H=>?_)
   ·refine Sq<|T.drawF (t:=(.v 0 (.v 1 (.v 2 (.v 3 (.v 5 (.v 6 (.v 7 (.v 8 (.v 9 (.alt 4 (.g (.v 10 (.alt 11 (.alt 12 .done .no) .no))) .no))))))))))) 11 1 0 rfl rfl repair2mixed (by kernel_rfl) ?_
    refine Tm z z<|Tv z (V.nck z)<|Tv z (V.fa fdrepair2_69_0 z)<|have M:=(n.trans d); have ar:=m.mono M; Tv z (V.ldf (k:=0) shrepair2_67 z ar z)<|Tv z (V.fa fdrepair2_97_0 z)<|Tv z (V.ldf (k:=0) shrepair2_25 z K z)<|Tm z z<|Tv z (V.fa fdrepair2_97_1 z)<|Tv z (V.ldf (k:=1) shrepair2_3 z K z)<|have au:=Pt.mono VruleJudge.mono D M; ?_
    obtain ⟨a5,aw,H⟩:=bnd H
    refine Tp z z (SX.two (XA.fr [] Lr z) (XA.fr [0] Lr z)) (O.callS z (Judge_Problem_ok au aw _) z fun a6 a7 a8 o ax=>?_) T.tno
    obtain ⟨ay,aA,aB,aC,aD,rfl,aE,N,P,S,U,W⟩:=ax
    refine Sl_ _ aE<|T.tgrow o<|have aG:=(d.trans o); have p:=Slc.mono VI.mono J aG; Tv z (V.bld (xs:=[(0,.tmp 39),(1,.tmp 41),(2,.tmp 42),(3,.tmp 44)]) (cs:=[_,_,_,_,_,_,_,_]) blrepair2_47 borepair2_47 rfl (Fills.cons rfl rfl rfl (Fills.cons rfl (Slc.cells p) rfl (Fills.cons rfl rfl rfl (Fills.cons rfl rfl rfl Fills.nil)))))<|Tp z z (SX.two (XA.fr [] Lr rfl) (XA.fr [0] Lr rfl)) (O.stF (vs:=[ay,aA,aB,aC,aD,I,.int .i64 a,.int .i64 G.fCost]) shrepair2_47 rfl rfl (j:=0) rfl rfl (by (simp only [Sl.ones,Slc.one N,Slc.one P,Slc.one S,Slc.one U,Slc.one W,Slc.one p,Bool.and_true,Bool.true_and]) <;> rfl) rfl ?_) T.tno
    refine Ts z z (SX.one (XA.fr [] Lr z) z) (V.asg z) z ?_ T.tno
    refine T.tnil (SX.one (XA.fr [] Lr z) z)<|Th<|T.ret<|Br<|Tr<|Tr<|have H:=iterK_out H i; Br<|Tr<|have H:=cutE H r; ?_
    obtain ⟨rfl,rfl⟩:=inj2 H
    have aI:=(((s.trans n).trans d).trans o)
    exact T.retD (L':=L) Tryz.results13 (RVs.cons (RV.cellS z (j:=0) z shrepair2_47) (Rv z)) aI (fun _ iv=>iv.drop) ⟨_,_,_,_,_,_,z,z,N,P,S,U,W,p⟩
   refine T.skip<|Bn<|Th<|Rg<|Mv z ?_
   obtain ⟨aJ,aK,H⟩:=bnd H
   refine Vv (V.addS z z aK)<|Ag z<|Nt<|have aM:=((f.trans n).trans d); T.again (ad,aJ) aM (Nat.lt_succ_self _) (iterK_in H i) (AllIn.app ⟨z,trivial⟩ ⟨z,z,z,z,trivial⟩) z
  refine T.exit<|Te<|Te<|have H:=iterK_out H i; Be<|Th<|T.met () f H (AllIn.app trivial ⟨z,trivial⟩) z
 rintro _ a9 aN aO
 have H:=cutE aO r
 refine T.norm [6] z<|Sl_ (blk c (.cells [.slice none 0 0,.slice none 0 0,.slice none 0 0,.slice none 0 0,.slice none 0 0,.slice none 0 0,.int .i64 (0:Int),.int .i64 (0:Int)].toArray 47)::L) z<|Sr<|Vv (V.bld (xs:=[]) (cs:=[_,_,_,_,_,_,_,_]) blrepair2_47 borepair2_47 z Fills.nil)<|To (O.stF (vs:=[.slice none 0 0,.slice none 0 0,.slice none 0 0,.slice none 0 0,.slice none 0 0,.slice none 0 0,.int .i64 (0:Int),.int .i64 (0:Int)]) shrepair2_47 z z (j:=0) z z z z<|Ag z<|Nt<|T.ret ?_)
 obtain ⟨rfl,rfl⟩:=inj2 H
 have aP:=(e.trans aN)
 exact T.retD (L':=L) Tryz.results13 (RVs.cons (RV.cellS z (j:=0) z shrepair2_47) (Rv z)) aP (fun _ iv=>iv.drop) ⟨_,_,_,_,_,_,z,z,Slc.nil,Slc.nil,Slc.nil,Slc.nil,Slc.nil,Slc.nil⟩
theorem repair_Fix_ok {h:PH} {pc0:List Value} {p1:apiProblem} (pr0:VapiProblem h pc0 p1) {pv1:Value} {part12:List Int} (pr1:Slc (VI .i64) 1 h pv1 part12) {most13:Int} {r_0:apiRepair} {r_1:Int} (H:repair_Fix p1 part12 most13 = some (r_0,r_1)):∀ L,FnS Tryz.prog 6 [.agg pc0.toArray,pv1,.int .i64 most13] h (L) (fun v h' L'=>∃ v0_1 v0_3 v0_5 v0_7 v0_9 v0_11,v = .tuple #[.agg #[v0_1,v0_3,v0_5,v0_7,v0_9,v0_11,.int .i64 r_0.fMoved,.int .i64 r_0.fCost],.int .i64 r_1]∧L' = L∧Slc VapiTable 7 h' v0_1 r_0.fProblem.fTables∧Slc VapiGuest 9 h' v0_3 r_0.fProblem.fGuests∧Slc VapiTie 3 h' v0_5 r_0.fProblem.fTies∧Slc (VI .i64) 1 h' v0_7 r_0.fProblem.fClass∧Slc VapiRule 6 h' v0_9 r_0.fProblem.fRules∧Slc (VI .i64) 1 h' v0_11 r_0.fPlan):=by
 intro L
 obtain ⟨m,n,o,p,q,rfl,S,U,W,X,Y⟩:=pr0
 refine FnS.enter Tryz.func6 rfl Tryz.ntmps6 rfl<|Sr<|To (O.boxF rfl rfl rfl fun bj Z c aa=>To (O.alloc zerepair2_47 rfl rfl fun bk=>Ag z<|Nt<|Sr<|Vv (V.ldS rfl aa (by exact shrepair2_28)) ?_))
 refine Mv z<|have ab:=Slc.mono VapiTable.mono S c; have ac:=Slc.mono VapiGuest.mono U c; have ad:=Slc.mono VapiTie.mono W c; have ae:=Slc.mono VI.mono X c; have af:=Slc.mono VapiRule.mono Y c; have ag:=Slc.mono VI.mono pr1 c; ?_
 obtain ⟨⟨a,bm⟩,ai,H⟩:=bnd H
 refine To (O.callS z (repair_open_ok (show VapiProblem Z [m,n,o,p,q] p1 from ⟨m,n,o,p,q,z,ab,ac,ad,ae,af⟩) ag ai _) z fun bn bo bp aj ak=>?_)
 obtain ⟨bq,r,s,br,t,bs,u,bt,w,bu,x,bw,y,bx,rfl,am,an,ao,ap,aq,ar,au,aw⟩:=ak
 refine Sl_ _ am<|Mv z<|Vv (V.ext z z)<|Vv (V.ext z z)<|Ag z<|Ag z<|Nt<|Sq<|Sr<|Mv z<|Vv (V.ne z z)<|Nt<|T.cH H z (fun H=>?_) (fun H=>?_)
 ·exact dead H
 refine T.skip<|Th<|Sr<|Mv z<|Mv z<|Vv (V.max2 z z)<|Fr_ 1 z<|T.fl ?_
 refine T.rowFix fun bA i ax=>have ay:=RowF.mono VapiTable.mono ao i; have aA:=RowF.slc ax ay; Fr_ 1 z<|T.fl ?_
 refine T.rowFix fun bB k aB=>have A:=(i.trans k); have aC:=RowF.mono VapiGuest.mono ap A; have aD:=RowF.slc aB aC; Fr_ 1 z<|T.fl ?_
 refine T.rowFix fun bC g aE=>have B:=(A.trans g); have aG:=RowF.mono VapiTie.mono aq B; have aI:=RowF.slc aE aG; Fr_ 1 z<|T.fl ?_
 refine T.rowFix fun bD f aJ=>have C:=(B.trans f); have aK:=RowF.mono VI.mono ar C; have aM:=RowF.slc aJ aK; Fr_ 1 z<|T.fl ?_
 refine T.rowFix fun bE e aN=>have D:=(C.trans e); have aO:=RowF.mono VapiRule.mono au D; have aP:=RowF.slc aN aO; Fr_ 1 z<|T.fl ?_
 refine T.rowFix fun bG d aS=>have E:=(D.trans d); have aU:=RowF.mono VI.mono aw E; have aV:=RowF.slc aS aU; T.blkFix fun aW b aX=>have aY:=(E.trans b); have aZ:=Pt.mono VruleJudge.mono an aY; have a0:=(((((k.trans g).trans f).trans e).trans d).trans b); have a1:=Slc.mono VapiTable.mono aA a0; have a2:=((((g.trans f).trans e).trans d).trans b); have a3:=Slc.mono VapiGuest.mono aD a2; have a4:=(((f.trans e).trans d).trans b); have a5:=Slc.mono VapiTie.mono aI a4; have a6:=((e.trans d).trans b); have a7:=Slc.mono VI.mono aM a6; have a8:=(d.trans b); have a9:=Slc.mono VapiRule.mono aP a8; have ah:=Slc.mono VI.mono aV b; ?_
 obtain ⟨⟨G,bI⟩,al,H⟩:=bnd H
 refine To (O.callS z (scene_first_ok (Pt.mk aX (show Vrepairscene aW [r,s,t,u,w,x,y,.int .i64 a.fseats] (repairscene.mk a.fJudge (apiProblem.mk a.fp.fTables a.fp.fGuests a.fp.fTies a.fp.fClass a.fp.fRules) a.fpart a.fseats) from ⟨r,s,t,u,w,x,y,z,aZ,a1,a3,a5,a7,a9,ah⟩)) al _) z fun bJ bK bM av az=>?_)
 obtain ⟨ba,bb,bc,bd,be,bf,rfl,bg,I,J,K,M,N,P⟩:=az
 refine Sl_ _ bg<|Vv (V.ext rfl rfl)<|Vv (V.ext rfl rfl)<|To (O.stF (vs:=[ba,bb,bc,bd,be,bf,.int .i64 G.fMoved,.int .i64 G.fCost]) shrepair2_47 rfl rfl (j:=0) rfl rfl (by (simp only [Sl.ones,Slc.one I,Slc.one J,Slc.one K,Slc.one M,Slc.one N,Slc.one P,Bool.and_true,Bool.true_and]) <;> rfl) rfl ?_)
 refine Ag z<|Nt<|T.ret ?_
 obtain ⟨rfl,rfl⟩:=inj2 H
 have bi:=(((((((((c.trans aj).trans i).trans k).trans g).trans f).trans e).trans d).trans b).trans av)
 exact T.retD (L':=L) Tryz.results6 (RVs.cons (RV.cellS z (j:=0) z shrepair2_47) (Rv z)) bi (fun _ iv=>iv.drop) ⟨_,_,_,_,_,_,z,z,I,J,K,M,N,P⟩
theorem repair_Oust_ok {h:PH} {pc0:List Value} {p1:apiProblem} (pr0:VapiProblem h pc0 p1) {pv1:Value} {part12:List Int} (pr1:Slc (VI .i64) 1 h pv1 part12) {g13:Int} {most14:Int} {r_0:apiRepair} {r_1:Int} (H:repair_Oust p1 part12 g13 most14 = some (r_0,r_1)):∀ L,FnS Tryz.prog 26 [.agg pc0.toArray,pv1,.int .i64 g13,.int .i64 most14] h (L) (fun v h' L'=>∃ v0_1 v0_3 v0_5 v0_7 v0_9 v0_11,v = .tuple #[.agg #[v0_1,v0_3,v0_5,v0_7,v0_9,v0_11,.int .i64 r_0.fMoved,.int .i64 r_0.fCost],.int .i64 r_1]∧L' = L∧Slc VapiTable 7 h' v0_1 r_0.fProblem.fTables∧Slc VapiGuest 9 h' v0_3 r_0.fProblem.fGuests∧Slc VapiTie 3 h' v0_5 r_0.fProblem.fTies∧Slc (VI .i64) 1 h' v0_7 r_0.fProblem.fClass∧Slc VapiRule 6 h' v0_9 r_0.fProblem.fRules∧Slc (VI .i64) 1 h' v0_11 r_0.fPlan):=by
 intro L
 obtain ⟨n,o,p,q,r,rfl,Y,Z,aa,ab,ac⟩:=pr0
 refine FnS.enter Tryz.func26 rfl Tryz.ntmps26 rfl<|Sr<|To (O.boxF rfl rfl rfl fun bn ad c ae=>To (O.alloc zerepair2_47 rfl rfl fun bo=>Ag z<|Nt<|Sr<|Vv (V.ldS rfl ae (by exact shrepair2_28)) ?_))
 refine Mv z<|have af:=Slc.mono VapiTable.mono Y c; have ag:=Slc.mono VapiGuest.mono Z c; have ai:=Slc.mono VapiTie.mono aa c; have aj:=Slc.mono VI.mono ab c; have ak:=Slc.mono VapiRule.mono ac c; have s:=Slc.mono VI.mono pr1 c; ?_
 obtain ⟨⟨a,bp⟩,am,H⟩:=bnd H
 refine To (O.callS z (repair_open_ok (show VapiProblem ad [n,o,p,q,r] p1 from ⟨n,o,p,q,r,z,af,ag,ai,aj,ak⟩) s am _) z fun bq br bs t an=>?_)
 obtain ⟨bt,u,w,bu,x,bw,y,bx,A,bA,B,bB,C,bC,rfl,ao,ap,aq,ar,au,aw,ax,ay⟩:=an
 refine Sl_ _ ao<|Mv z<|Vv (V.ext z z)<|Vv (V.ext z z)<|Ag z<|Ag z<|Nt<|Sq<|Sr<|Mv z<|Vv (V.ne z z)<|Nt<|T.cH H z (fun H=>?_) (fun H=>?_)
 ·exact dead H
 refine T.skip<|Th<|Sq<|Sr<|Mv z<|Vv (V.lt z z)<|Mv z<|T.bH 24 H z (fun H=>?_) (fun H=>?_)
 ·exact dead H
 refine Mv z<|Mv z<|have i:=Slc.mono VI.mono s t; Vv (V.lenS elrepair2_25 z i)<|Vv (V.ge z z)<|Vv (V.pkF z z)<|Mv z<|T.bH 30 H z (fun H=>?_) (fun H=>?_)
 ·exact dead H
 refine Mv z<|Mv z ?_
 obtain ⟨bD,D,H⟩:=bnd H
 obtain ⟨bE,aA,rfl⟩:=Slc.at i D
 refine Vv (V.ix elrepair2_25 z z i (getI_bd D))<|Vv (V.ld0 shrepair2_3 z aA z)<|Vv (V.lt z z)<|Vv (V.pkF z z)<|Nt<|T.cH H z (fun H=>?_) (fun H=>?_)
 ·exact dead H
 refine T.skip<|Th<|Sr<|Mv z<|Mv z<|Vv (V.max2 z z)<|Mv z<|Fr_ 1 z<|T.fl ?_
 refine T.rowFix fun bG k aB=>have aC:=RowF.mono VapiTable.mono aq k; have aD:=RowF.slc aB aC; Fr_ 1 z<|T.fl ?_
 refine T.rowFix fun bI m aE=>have E:=(k.trans m); have aG:=RowF.mono VapiGuest.mono ar E; have aI:=RowF.slc aE aG; Fr_ 1 z<|T.fl ?_
 refine T.rowFix fun bJ g aJ=>have G:=(E.trans g); have aK:=RowF.mono VapiTie.mono au G; have aM:=RowF.slc aJ aK; Fr_ 1 z<|T.fl ?_
 refine T.rowFix fun bK f aN=>have I:=(G.trans f); have aO:=RowF.mono VI.mono aw I; have aP:=RowF.slc aN aO; Fr_ 1 z<|T.fl ?_
 refine T.rowFix fun bM e aS=>have J:=(I.trans e); have aU:=RowF.mono VapiRule.mono ax J; have aV:=RowF.slc aS aU; Fr_ 1 z<|T.fl ?_
 refine T.rowFix fun bN d aW=>have K:=(J.trans d); have aX:=RowF.mono VI.mono ay K; have aY:=RowF.slc aW aX; T.blkFix fun aZ b a0=>have a1:=(K.trans b); have a2:=Pt.mono VruleJudge.mono ap a1; have a3:=(((((m.trans g).trans f).trans e).trans d).trans b); have a4:=Slc.mono VapiTable.mono aD a3; have a5:=((((g.trans f).trans e).trans d).trans b); have a6:=Slc.mono VapiGuest.mono aI a5; have a7:=(((f.trans e).trans d).trans b); have a8:=Slc.mono VapiTie.mono aM a7; have a9:=((e.trans d).trans b); have ah:=Slc.mono VI.mono aP a9; have al:=(d.trans b); have av:=Slc.mono VapiRule.mono aV al; have az:=Slc.mono VI.mono aY b; ?_
 obtain ⟨⟨M,bO⟩,ba,H⟩:=bnd H
 refine To (O.callS z (scene_first_ok (Pt.mk a0 (show Vrepairscene aZ [u,w,x,y,A,B,C,.int .i64 a.fseats] (repairscene.mk a.fJudge (apiProblem.mk a.fp.fTables a.fp.fGuests a.fp.fTies a.fp.fClass a.fp.fRules) a.fpart a.fseats) from ⟨u,w,x,y,A,B,C,z,a2,a4,a6,a8,ah,av,az⟩)) ba _) z fun bP bS bU bb bc=>?_)
 obtain ⟨bd,be,bf,bg,bi,bj,rfl,bk,N,P,S,U,W,X⟩:=bc
 refine Sl_ _ bk<|Vv (V.ext rfl rfl)<|Vv (V.ext rfl rfl)<|To (O.stF (vs:=[bd,be,bf,bg,bi,bj,.int .i64 M.fMoved,.int .i64 M.fCost]) shrepair2_47 rfl rfl (j:=0) rfl rfl (by (simp only [Sl.ones,Slc.one N,Slc.one P,Slc.one S,Slc.one U,Slc.one W,Slc.one X,Bool.and_true,Bool.true_and]) <;> rfl) rfl ?_)
 refine Ag z<|Nt<|T.ret ?_
 obtain ⟨rfl,rfl⟩:=inj2 H
 have bm:=(((((((((c.trans t).trans k).trans m).trans g).trans f).trans e).trans d).trans b).trans bb)
 exact T.retD (L':=L) Tryz.results26 (RVs.cons (RV.cellS z (j:=0) z shrepair2_47) (Rv z)) bm (fun _ iv=>iv.drop) ⟨_,_,_,_,_,_,z,z,N,P,S,U,W,X⟩
theorem repair_Keep_1_ok {h:PH} {pc0:List Value} {r1:apiRule} (pr0:VapiRule h pc0 r1) {r_0:Bool} (H:repair_Keep_1 r1 = some r_0):∀ L,FnS Tryz.prog 17 [.agg pc0.toArray] h (L) (fun v h' L'=>v = .bool r_0∧L' = L):=by
 intro L
 obtain rfl:=pr0
 refine FnS.enter Tryz.func17 z Tryz.ntmps17 z<|Sr<|To (O.boxF z z z fun c d a b=>Ag z<|Nt<|Sr<|Vv (V.fa fdrepair2_39_1 z)<|Vv (V.ldf (k:=1) shrepair2_3 z b z)<|Vv (V.gt z z)<|Ag z<|Nt<|T.ret ?_)
 obtain rfl:=Option.some.inj H
 exact T.retL Tryz.results17 (Rv z) a ⟨z,z⟩
theorem repair_Keep_ok {h:PH} {pc0:List Value} {p1:apiProblem} (pr0:VapiProblem h pc0 p1) {pv1:Value} {part12:List Int} (pr1:Slc (VI .i64) 1 h pv1 part12) {r_0:apiProblem} {r_1:Int} (H:repair_Keep p1 part12 = some (r_0,r_1)):∀ L,FnS Tryz.prog 8 [.agg pc0.toArray,pv1] h (L) (fun v h' L'=>∃ v0_1 v0_3 v0_5 v0_7 v0_9,v = .tuple #[.agg #[v0_1,v0_3,v0_5,v0_7,v0_9],.int .i64 r_1]∧L' = L∧Slc VapiTable 7 h' v0_1 r_0.fTables∧Slc VapiGuest 9 h' v0_3 r_0.fGuests∧Slc VapiTie 3 h' v0_5 r_0.fTies∧Slc (VI .i64) 1 h' v0_7 r_0.fClass∧Slc VapiRule 6 h' v0_9 r_0.fRules):=by
 intro L
 obtain ⟨ad,ae,af,ag,ai,rfl,aW,aX,aY,aZ,a0⟩:=pr0
 refine FnS.enter Tryz.func8 rfl Tryz.ntmps8 rfl<|Sr<|To (O.boxF rfl rfl rfl fun cu a1 n aj=>To (O.alloc zerepair2_28 rfl rfl fun u=>Ag z<|Nt<|Sr<|Vv (V.ldS rfl aj (by exact shrepair2_28)) ?_))
 refine Mv z<|have ak:=Slc.mono VapiTable.mono aW n; have am:=Slc.mono VapiGuest.mono aX n; have a2:=Slc.mono VapiTie.mono aY n; have a3:=Slc.mono VI.mono aZ n; have a4:=Slc.mono VapiRule.mono a0 n; have an:=Slc.mono VI.mono pr1 n; ?_
 obtain ⟨⟨cw,cx⟩,a5,H⟩:=bnd H
 refine To (O.callS z (repair_open_ok (show VapiProblem a1 [ad,ae,af,ag,ai] p1 from ⟨ad,ae,af,ag,ai,z,ak,am,a2,a3,a4⟩) an a5 _) z fun cy cA cB X a6=>?_)
 obtain ⟨cC,cD,cE,cG,cI,cJ,cK,cM,cN,cO,cP,cS,cU,cV,rfl,a7,a8,cW,cX,cY,cZ,c0,c1⟩:=a6
 refine Sl_ _ a7<|Mv z<|Vv (V.ext z z)<|Vv (V.ext z z)<|Ag z<|Ag z<|Nt<|Sq<|Sr<|Mv z<|Vv (V.ne z z)<|Nt<|T.cH H z (fun H=>?_) (fun H=>?_)
 ·exact dead H
 refine T.skip<|Th<|Sr<|Mv z<|Vv (V.nck z)<|Vv (V.fa fdrepair2_69_0 z)<|Vv (V.ldO (k:=0) shrepair2_67 z (j:=0) z z) ?_
 obtain ⟨c2,a9,H⟩:=bnd H
 refine To (O.callS z (Judge_ProblemR_ok a8 a9 _) z fun c3 ah c4 Y al=>?_)
 obtain ⟨a,w,b,y,c,A,d,B,av,c5,rfl,az,ba,bb,bc,bd,be⟩:=al
 refine Sl_ _ az<|To (O.alloc zerepair2_28 rfl rfl fun C=>T.rowOne 1 rfl fun bf c6=>T.rowOne 2 rfl fun bg c7=>T.rowOne 3 rfl fun bi c8=>T.rowOne 4 rfl fun bj c9=>T.rowOne 5 rfl fun bk ch=>To (O.stF (vs:=[a,b,c,d,av]) shrepair2_28 rfl rfl (j:=0) rfl rfl (by (simp only [Sl.ones,bf,bg,bi,bj,bk,Bool.and_true,Bool.true_and]) <;> rfl) rfl ?_))
 refine T.fl ?_
 refine Nt<|Sr<|Vv (V.fa fdrepair2_28_4 z)<|Vv (V.ldO (k:=4) shrepair2_26 z (j:=0) z z)<|Fr_ 5 z<|T.fl ?_
 obtain ⟨bm,bn,H⟩:=bnd H
 refine To (O.callS z (sl_DeleteFuncRule_ok be (show CF74 ah (.func (.func 17) #[] #[]) repair_Keep_1 from ⟨⟨z,z⟩,.inr ⟨17,[],[],z,fun cl cv cz da bo db bp bq=>repair_Keep_1_ok bo bp bq⟩⟩) bn _) z fun ao dc dd S br=>?_)
 obtain ⟨bt,bu,bw⟩:=br
 refine Sl_ _ bu<|Vv (V.fa fdrepair2_28_4 rfl)<|T.rowOne 0 rfl fun bx bA=>To (O.st (vs:=[ao]) (k:=4) shrepair2_26 rfl rfl (j:=1) rfl bA (by (simp only [Sl.ones,bx,Bool.and_true,Bool.true_and]) <;> rfl) ?_)
 refine T.fl ?_
 refine Nt<|Sq<|Sr<|Mv z<|have aq:=((X.trans Y).trans S); have ar:=Slc.mono VI.mono an aq; Vv (V.lenS elrepair2_25 z ar)<|Mv z<|Nt ?_
 obtain ⟨au,bB,bC⟩:=bndK H
 refine T.cutK (α:=(List apiRule)×Value×(List (List Value))) [4,8] z (fun ⟨K,o,D⟩=>[]) (fun ⟨K,o,D⟩=>blk C (.cells [a,b,c,d,o].toArray 28)::rowR 31 7 a w::rowR 35 9 b y::rowR 164 3 c A::rowR 3 1 d B::blk u (.cells [.slice none 0 0,.slice none 0 0,.slice none 0 0,.slice none 0 0,.slice none 0 0].toArray 28)::rowR 39 6 o D::L) (fun ⟨K,o,D⟩ hh=>au = K∧RowF VapiRule hh D K) ?_ ?_
 ·have H:=bB
  refine Bl<|Fr_ 6 z<|T.fl ?_
  refine T.drop<|Fr_ 6 z<|T.fl ?_
  refine T.drop<|Fr_ 6 z<|T.fl ?_
  refine T.drop<|Fr_ 6 z<|T.fl ?_
  refine T.drop<|Fr_ 6 z<|T.fl ?_
  refine T.drop<|Fr_ 6 z<|T.fl ?_
  refine T.drop<|Fr_ 6 z<|T.fl ?_
  refine T.drop<|Fr_ 1 z<|T.fl ?_
  refine Fr_ 6 z<|T.fl ?_
  refine Fr_ 6 z<|T.fl ?_
  refine Fr_ 6 z<|T.fl ?_
  refine Fr_ 6 z<|T.fl ?_
  refine Fr_ 6 z<|T.fl ?_
  refine Fr_ 6 z<|T.fl ?_
  refine T.loopK (α:=Nat×(List apiRule)×Int×Value×(List (List Value))) [2,4,8,33,34] z (fun ⟨E,p,G,m,f⟩=>[(35,.int .i64 G)]) (fun ⟨E,p,G,m,f⟩=>blk C (.cells [a,b,c,d,m].toArray 28)::rowR 31 7 a w::rowR 35 9 b y::rowR 164 3 c A::rowR 3 1 d B::blk u (.cells [.slice none 0 0,.slice none 0 0,.slice none 0 0,.slice none 0 0,.slice none 0 0].toArray 28)::rowR 39 6 m f::L) (fun ⟨E,p,G,m,f⟩ hh=>iter (repair_Keep_l0 p1 part12) E (p,G) = some au∧RowF VapiRule hh f p) (fun ⟨E,p,G,m,f⟩=>E) (FUEL,bm,(0:Int),ao,bt) ⟨z,trivial⟩ z ⟨H,bw⟩ ?_
  rintro ⟨E,p,G,m,f⟩ de U ⟨bD,aw⟩
  obtain ⟨bE,df,rfl,H,ax⟩:=iter_go bD
  refine T.norm [35,2,4,8,33,34] z<|Sl_ (blk C (.cells [a,b,c,d,m].toArray 28)::rowR 31 7 a w::rowR 35 9 b y::rowR 164 3 c A::rowR 3 1 d B::blk u (.cells [.slice none 0 0,.slice none 0 0,.slice none 0 0,.slice none 0 0,.slice none 0 0].toArray 28)::rowR 39 6 m f::L) z<|Sr<|Vv (V.lt z z)<|Nt<|Sq<|T.cH H z (fun H=>?_) (fun H=>?_)
  ·refine T.skip<|Th<|Sq<|Bl<|Sr<|Mv z ?_
   obtain ⟨dg,ay,H⟩:=bnd H
   have aA:=Slc.mono VI.mono ar U
   obtain ⟨di,bG,rfl⟩:=Slc.at aA ay
   refine Vv (V.ix elrepair2_25 z z aA (getI_bd ay))<|Vv (V.ld0 shrepair2_3 z bG z)<|Ag z<|Ag z<|Nt<|Sr<|Mv z<|Vv (V.ge z z)<|Nt<|T.cH H z (fun H=>?_) (fun H=>?_)
   ·refine Sr<|Vv (V.fa fdrepair2_28_0 z)<|have Z:=(aq.trans U); have aB:=aj.mono Z; Vv (V.ldf (k:=0) shrepair2_22 z aB z)<|Mv z<|have aC:=Slc.mono VapiTable.mono ak Z; ?_
    obtain ⟨⟨dj,q,dk⟩,bI,H⟩:=bnd H
    refine To (O.callS z (hall_Where_ok aC bI _) z fun dm aD dn M bJ=>?_)
    obtain ⟨rfl,bK⟩:=bJ
    refine Sl_ _ bK<|Mv z<|Vv (V.ext z z)<|Vv (V.ext z z)<|Vv (V.ext z z)<|Ag z<|Ag z<|Ag z<|Nt<|Fr_ 6 z<|T.fl ?_
    refine Fr_ 1 z<|T.fl ?_
    refine T.drawF (t:=(.v 0 (.x 1 (.v 2 (.v 3 (.v 4 (.v 5 (.v 6 (.v 7 (.v 8 (.v 9 (.v 10 (.v 11 (.v 12 (.v 13 (.v 14 (.v 15 (.alt 16 (.alt 17 (.g (.v 18 (.alt 19 .done .no))) .no) .no)))))))))))))))))) 17 2 0 rfl rfl repair2mixed (by kernel_rfl) ?_
    refine Tv z (V.fa fdrepair2_28_4 z)<|T.tx z z (Val.XA fun _ _ _=>V.ldO (k:=4) shrepair2_26 z (j:=0) z z) z Calm.i<|Tv z (V.fa fdrepair2_28_1 z)<|have aE:=aB.mono M; Tv z (V.ldf (k:=1) shrepair2_23 z aE z)<|Tm z z ?_
    obtain ⟨r,aG,H⟩:=bnd H
    have bM:=(Z.trans M)
    have aI:=Slc.mono VapiGuest.mono am bM
    obtain ⟨dp,bN,⟨dq,rfl,dr⟩⟩:=Slc.at aI aG
    refine Tv z (V.ix elrepair2_23 z z aI (getI_bd aG))<|Tv z (V.fa fdrepair2_35_0 z)<|Tv z (V.ldf (k:=0) shrepair2_9 z bN z)<|Tv z (V.fa fdrepair2_28_0 z)<|Tv z (V.ldf (k:=0) shrepair2_22 z aE z)<|Tm z z ?_
    obtain ⟨s,aJ,H⟩:=bnd H
    have aK:=Slc.mono VapiTable.mono aC M
    obtain ⟨ds,bO,⟨dt,rfl,du⟩⟩:=Slc.at aK aJ
    refine Tv z (V.ix elrepair2_22 z z aK (getI_bd aJ))<|Tv z (V.fa fdrepair2_31_0 z)<|Tv z (V.ldf (k:=0) shrepair2_9 z bO z)<|Tm z z<|Tv z (V.bld (xs:=[(0,.const (.int .u8 (7))),(1,.const (.int .i64 (1))),(2,.tmp 57),(4,.tmp 63),(5,.tmp 64)]) (cs:=[_,_,_,_,_,_]) blrepair2_39 borepair2_39 z (Fills.cons z z z (Fills.cons z z z (Fills.cons z z z (Fills.cons z z z (Fills.cons z z z Fills.nil))))))<|Tp z z (SX.two (XA.fr [] Lr z) (XA.fr [1,1] Lr z)) (O.bs elrepair2_26 zerepair2_39 z (e:=z) (hk:=z) (xs:=[.tmp 65]) (hv:=CO.eq (CO.cons z CO.nil)) (hw:=Wide.of z) (hd:=z) fun bP=>?_) T.tno
    have aa:RowF VapiRule aD [[.int .u8 (7:Int),.int .i64 (1:Int),.string r.fName,.string (⟨#[]⟩:ByteArray),.string s.fName,.int .i64 q]] ([(apiRule.mk (7:Int) (1:Int) r.fName (⟨#[]⟩:ByteArray) s.fName q)]:List apiRule):=(RowF.cons z RowF.nil)
    obtain ⟨aM,aN,H⟩:=bnd H
    have aO:=RowF.mono VapiRule.mono aw M
    refine Tp z z (SX.two (XA.fr [] Lr z) (XA.fr [2,2] Lr z)) (O.apX elrepair2_26 elrepair2_26 zerepair2_39 z z z (j:=2) z (Src.row (j:=0) z) (Wide.of z) (RowF.ones VapiRule.plain aa) aO aa aN z fun N dw dx=>?_) T.tno
    have bS:RowF VapiRule aD (f ++ [[.int .u8 (7:Int),.int .i64 (1:Int),.string r.fName,.string (⟨#[]⟩:ByteArray),.string s.fName,.int .i64 q]]) aM:=RowF.ap aO aa aN
    refine Sl_ (rowR 39 6 N (f ++ [[.int .u8 (7:Int),.int .i64 (1:Int),.string r.fName,.string (⟨#[]⟩:ByteArray),.string s.fName,.int .i64 q]])::rowR 39 6 (.slice (some ⟨bP,0,none⟩) 1 1) [[.int .u8 (7:Int),.int .i64 (1:Int),.string r.fName,.string (⟨#[]⟩:ByteArray),.string s.fName,.int .i64 q]]::blk C (.cells [a,b,c,d,m].toArray 28)::rowR 31 7 a w::rowR 35 9 b y::rowR 164 3 c A::rowR 3 1 d B::blk u (.cells [.slice none 0 0,.slice none 0 0,.slice none 0 0,.slice none 0 0,.slice none 0 0].toArray 28)::L) z<|Fr_ 1 z<|T.fl ?_
    refine T.drop<|T.tgrow Lr<|Tv z (V.fa fdrepair2_28_4 rfl)<|T.rowOne 0 rfl fun bU bV=>Tp z z (SX.one (XA.fr [] Lr rfl) rfl) (O.st (vs:=[N]) (k:=4) shrepair2_26 rfl rfl (j:=1) rfl bV (by (simp only [Sl.ones,bU,Bool.and_true,Bool.true_and]) <;> rfl) ?_) T.tno
    refine T.fl ?_
    refine T.tnil (SX.one (XA.fr [] Lr z) z)<|Bn<|Th<|T.norm [2,4,8,33,34,35] z<|Sl_ (blk C (.cells [a,b,c,d,N].toArray 28)::rowR 39 6 N (f ++ [[.int .u8 (7:Int),.int .i64 (1:Int),.string r.fName,.string (⟨#[]⟩:ByteArray),.string s.fName,.int .i64 q]])::rowR 31 7 a w::rowR 35 9 b y::rowR 164 3 c A::rowR 3 1 d B::blk u (.cells [.slice none 0 0,.slice none 0 0,.slice none 0 0,.slice none 0 0,.slice none 0 0].toArray 28)::L) z<|Rg ?_
    obtain ⟨bW,bX,H⟩:=bnd H
    refine Vv (V.addS z z bX)<|Mv z<|Nt<|Fr_ 1 z<|T.fl ?_
    refine Fr_ 6 z<|T.fl ?_
    refine Fr_ 6 z<|T.fl ?_
    refine Fr_ 6 z<|T.fl ?_
    refine Fr_ 6 z<|T.fl ?_
    refine Fr_ 6 z<|T.fl ?_
    refine Fr_ 6 z<|T.fl ?_
    have bY:=(U.trans M)
    exact T.again (bE,aM,bW,N,(f ++ [[.int .u8 (7:Int),.int .i64 (1:Int),.string r.fName,.string (⟨#[]⟩:ByteArray),.string s.fName,.int .i64 q]])) bY (Nat.lt_succ_self _) ⟨(iterK_in H ax),bS⟩ (AllIn.app ⟨z,trivial⟩ ⟨z,z,z,z,z,trivial⟩) z
   exact dead H
  refine T.exit<|Te<|Te<|have H:=iterK_out H ax; Be<|Th<|T.met (p,m,f) U ⟨H,aw⟩ (AllIn.app trivial ⟨z,z,trivial⟩) z
 rintro ⟨K,o,D⟩ dy ab ⟨bZ,aP⟩
 have H:=cutE bZ bC
 refine T.norm [4,8] z<|Sl_ (blk C (.cells [a,b,c,d,o].toArray 28)::rowR 31 7 a w::rowR 35 9 b y::rowR 164 3 c A::rowR 3 1 d B::blk u (.cells [.slice none 0 0,.slice none 0 0,.slice none 0 0,.slice none 0 0,.slice none 0 0].toArray 28)::rowR 39 6 o D::L) z<|Sq<|Sr<|Vv (V.fa fdrepair2_28_4 z)<|Vv (V.ldO (k:=4) shrepair2_26 z (j:=0) z z)<|Vv (V.lenX elrepair2_26 z (j:=6) z aP.len)<|Vv (V.gt z z)<|Nt<|T.cH H z (fun H=>?_) (fun H=>?_)
 ·refine Sr<|Vv (V.bld (xs:=[]) (cs:=[_,_,_,_,_]) blrepair2_28 borepair2_28 z Fills.nil)<|To (O.stF (vs:=[.slice none 0 0,.slice none 0 0,.slice none 0 0,.slice none 0 0,.slice none 0 0]) shrepair2_28 z z (j:=5) z z z z<|T.fl ?_)
  refine Ag z<|Nt<|T.ret<|Tr<|Fr_ 1 z<|T.fl ?_
  refine T.drop<|Fr_ 1 z<|T.fl ?_
  refine T.drop<|Fr_ 1 z<|T.fl ?_
  refine T.drop<|Fr_ 1 z<|T.fl ?_
  refine T.drop<|Fr_ 1 z<|T.fl ?_
  refine T.drop<|Fr_ 1 z<|T.drop ?_
  obtain ⟨rfl,rfl⟩:=inj2 H
  have b0:=((((n.trans X).trans Y).trans S).trans ab)
  exact T.retD (L':=L) Tryz.results8 (RVs.cons (RV.cellS z (j:=0) z shrepair2_28) (Rv z)) b0 (fun _ iv=>iv.drop) ⟨_,_,_,_,_,z,z,Slc.nil,Slc.nil,Slc.nil,Slc.nil,Slc.nil⟩
 refine T.skip<|Th<|Sr<|Vv (V.ldOS (j:=0) (by exact shrepair2_28) rfl rfl) ?_
 refine T.rowOne 1 rfl fun b1 dA=>T.rowOne 2 rfl fun b2 dB=>T.rowOne 3 rfl fun b3 dC=>T.rowOne 4 rfl fun b4 dD=>T.rowOne 6 rfl fun b5 dE=>To (O.stF (vs:=[a,b,c,d,o]) shrepair2_28 rfl rfl (j:=5) rfl rfl (by (simp only [Sl.ones,b1,b2,b3,b4,b5,Bool.and_true,Bool.true_and]) <;> rfl) rfl ?_)
 refine T.fl ?_
 refine Ag z<|Nt<|T.ret<|Fr_ 2 z<|T.fl ?_
 refine T.rowFix fun dG ac b6=>have aS:=((S.trans ab).trans ac); have b7:=RowF.mono VapiTable.mono ba aS; have b8:=RowF.slc b6 b7; Fr_ 2 z<|T.fl ?_
 refine T.rowFix fun dI W b9=>have aU:=(aS.trans W); have bh:=RowF.mono VapiGuest.mono bb aU; have bl:=RowF.slc b9 bh; Fr_ 2 z<|T.fl ?_
 refine T.rowFix fun dJ P bv=>have aV:=(aU.trans P); have bz:=RowF.mono VapiTie.mono bc aV; have ca:=RowF.slc bv bz; Fr_ 2 z<|T.fl ?_
 refine T.rowFix fun dK I cb=>have cc:=(aV.trans I); have cd:=RowF.mono VI.mono bd cc; have ce:=RowF.slc cb cd; Fr_ 2 z<|T.fl ?_
 refine T.rowFix fun dM J cf=>have cg:=((((ac.trans W).trans P).trans I).trans J); have ci:=RowF.mono VapiRule.mono aP cg; have cj:=RowF.slc cf ci; Fr_ 1 z<|T.drop<|have ck:=(((W.trans P).trans I).trans J); have cm:=Slc.mono VapiTable.mono b8 ck; have cn:=((P.trans I).trans J); have co:=Slc.mono VapiGuest.mono bl cn; have cp:=(I.trans J); have cq:=Slc.mono VapiTie.mono ca cp; have cr:=Slc.mono VI.mono ce J; ?_
 obtain ⟨rfl,rfl⟩:=inj2 H
 have ct:=(((((((((n.trans X).trans Y).trans S).trans ab).trans ac).trans W).trans P).trans I).trans J)
 exact T.retD (L':=L) Tryz.results8 (RVs.cons (RV.cellS z (j:=0) z shrepair2_28) (Rv z)) ct (fun _ iv=>iv.drop) ⟨_,_,_,_,_,z,z,cm,co,cq,cr,cj⟩
theorem repair_Prove_ok {h:PH} {pc0:List Value} {p1:apiProblem} (pr0:VapiProblem h pc0 p1) {pv1:Value} {part12:List Int} (pr1:Slc (VI .i64) 1 h pv1 part12) {moved13:Int} {r_0:List apiStep} {r_1:Int} (H:repair_Prove p1 part12 moved13 = some (r_0,r_1)):∀ L,FnS Tryz.prog 22 [.agg pc0.toArray,pv1,.int .i64 moved13] h (L) (fun v h' L'=>∃ w0 cs0,v = .tuple #[w0,.int .i64 r_1]∧L' = rowR 201 2 w0 cs0::L∧RowF VapiStep h' cs0 r_0):=by
 intro L
 obtain ⟨i,k,m,n,o,rfl,u,w,x,y,A⟩:=pr0
 refine FnS.enter Tryz.func22 rfl Tryz.ntmps22 rfl<|Sr<|To (O.boxF rfl rfl rfl fun am B a C=>Ag z<|Ag z<|Nt<|Sr<|Vv (V.ldS rfl C (by exact shrepair2_28)) ?_)
 refine Mv z<|have D:=Slc.mono VapiTable.mono u a; have E:=Slc.mono VapiGuest.mono w a; have G:=Slc.mono VapiTie.mono x a; have I:=Slc.mono VI.mono y a; have J:=Slc.mono VapiRule.mono A a; have K:=Slc.mono VI.mono pr1 a; ?_
 obtain ⟨⟨M,an⟩,N,H⟩:=bnd H
 refine To (O.callS z (repair_Keep_ok (show VapiProblem B [i,k,m,n,o] p1 from ⟨i,k,m,n,o,z,D,E,G,I,J⟩) K N _) z fun ao ap aq P S=>?_)
 obtain ⟨c,d,e,f,g,rfl,U,p,q,r,s,t⟩:=S
 refine Sl_ _ U<|Mv z<|Vv (V.ext rfl rfl)<|Vv (V.ext rfl rfl)<|To (O.alloc zerepair2_28 rfl rfl fun ar=>To (O.stF (vs:=[c,d,e,f,g]) shrepair2_28 rfl rfl (j:=0) rfl rfl (by (simp only [Sl.ones,Slc.one p,Slc.one q,Slc.one r,Slc.one s,Slc.one t,Bool.and_true,Bool.true_and]) <;> rfl) rfl ?_))
 refine T.freeze fun W b X=>have Y:=AtC.of X; Ag z<|Nt<|Sq<|Sr<|Mv z<|Vv (V.ne z z)<|Nt<|T.cH H z (fun H=>?_) (fun H=>?_)
 ·exact dead H
 refine T.skip<|Th<|Sr<|Vv (V.ldS rfl Y (by exact shrepair2_28)) ?_
 refine Mv z<|have Z:=Slc.mono VapiTable.mono p b; have aa:=Slc.mono VapiGuest.mono q b; have ab:=Slc.mono VapiTie.mono r b; have ac:=Slc.mono VI.mono s b; have ad:=Slc.mono VapiRule.mono t b; ?_
 obtain ⟨⟨au,aw⟩,ae,H⟩:=bnd H
 refine To (O.callS z (search_Prove_ok (show VapiProblem W [c,d,e,f,g] M from ⟨c,d,e,f,g,z,Z,aa,ab,ac,ad⟩) ae _) z fun ax ay aA af ag=>?_)
 obtain ⟨aB,aC,rfl,ai,aj⟩:=ag
 refine Sl_ _ ai<|Vv (V.ext z z)<|Vv (V.ext z z)<|Ag z<|Ag z<|Nt<|T.ret ?_
 obtain ⟨rfl,rfl⟩:=inj2 H
 have ak:=(((a.trans P).trans b).trans af)
 exact T.retL Tryz.results22 (RVs.cons (RV.tmp z) (Rv z)) ak ⟨_,_,z,z,aj⟩
theorem scene_upset_ok {h:PH} {pv0:Value} {s1:repairscene} (pr0:Pt Vrepairscene h pv0 s1) {r_0:List Int} (H:scene_upset s1 = some r_0):∀ L,FnS Tryz.prog 67 [pv0] h (L) (fun v h' L'=>∃ cs0,L' = rowR 3 1 v cs0::L∧RowF (VI .i64) h' cs0 r_0):=by
 intro L
 refine FnS.enter Tryz.func67 z Tryz.ntmps67 z<|Sr<|Ag z<|Nt<|Sr<|Ag z<|Nt<|Sq<|Sr<|Mv z<|have M:=pr0; ?_
 obtain ⟨aw,_,rfl,u,⟨ax,ay,aA,aB,aC,aD,aE,rfl,N,aG,aI,aJ,aK,w,P⟩⟩:=M
 refine Vv (V.nck z)<|Vv (V.fa fdrepair2_69_1 z)<|Vv (V.fa fdrepair2_28_4 z)<|Vv (V.ldf (k:=5) shrepair2_26 z u z)<|Vv (V.lenS elrepair2_26 z w)<|Mv z<|Nt ?_
 obtain ⟨x,S,U⟩:=bndK H
 refine T.cutK (α:=(List Int)×Value×(List (List Value))) [] z (fun ⟨o,f,i⟩=>[(3,f)]) (fun ⟨o,f,i⟩=>rowR 3 1 f i::L) (fun ⟨o,f,i⟩ hh=>x = o∧RowF (VI .i64) hh i o) ?_ ?_
 ·have H:=S
  refine Bl<|T.rowNil 3 1<|have W:RowF (VI .i64) h [] ([]:List Int):=RowF.nil; T.loopK (α:=Nat×Int×(List Int)×Value×(List (List Value))) [0,10,11] z (fun ⟨m,a,d,c,b⟩=>[(12,.int .i64 a),(3,c)]) (fun ⟨m,a,d,c,b⟩=>rowR 3 1 c b::L) (fun ⟨m,a,d,c,b⟩ hh=>iter (scene_upset_l0 s1) m (a,d) = some x∧RowF (VI .i64) hh b d) (fun ⟨m,a,d,c,b⟩=>m) (FUEL,(0:Int),([]:List Int),(.slice none 0 0),[]) ⟨z,z,trivial⟩ z ⟨H,W⟩ ?_
  rintro ⟨m,a,d,c,b⟩ aM q ⟨X,y⟩
  obtain ⟨Y,aN,rfl,H,A⟩:=iter_go X
  refine T.norm [12,3,0,10,11] z<|Sl_ (rowR 3 1 c b::L) z<|Sr<|Vv (V.lt z z)<|Nt<|Sq<|T.cH H z (fun H=>?_) (fun H=>?_)
  ·refine T.skip<|Th<|Sq<|Bl<|Sr<|Mv z ?_
   obtain ⟨n,B,H⟩:=bnd H
   have C:=Slc.mono VapiRule.mono w q
   obtain ⟨aO,Z,rfl⟩:=Slc.at C B
   refine Vv (V.ix elrepair2_26 rfl rfl C (getI_bd B))<|Vv (V.ldS rfl Z (by exact shrepair2_39)) ?_
   refine To (O.alloc zerepair2_39 rfl rfl fun aP=>Ag z<|To (O.stF (vs:=[.int .u8 n.fKind,.int .i64 n.fWeight,.string n.fA,.string n.fB,.string n.fTable,.int .i64 n.fN]) shrepair2_39 rfl rfl (j:=0) rfl rfl rfl rfl<|T.freeze fun aS D aa=>have ab:=AtC.of aa; Nt<|Sq<|T.drawF (t:=(.v 0 (.v 1 (.v 2 (.v 3 (.v 4 (.v 5 (.v 6 (.v 7 (.v 8 (.v 9 (.v 10 (.v 11 (.v 12 (.alt 13 (.g (.v 14 (.v 15 .done))) .no))))))))))))))) 17 0 0 rfl rfl repair2mixed (by kernel_rfl) ?_))
   refine Tv z (V.fa fdrepair2_39_1 z)<|Tv z (V.ldf (k:=1) shrepair2_3 z ab z)<|Tv z (V.eq z z)<|Tm z z<|T.bH 20 H z (fun H=>?_) (fun H=>?_)
   ·refine Tm z z<|Tv z (V.nck z)<|Tv z (V.fa fdrepair2_69_0 z)<|have p:=(q.trans D); have E:=u.mono p; Tv z (V.ldf (k:=0) shrepair2_67 z E z)<|Tm z z<|Tv z (V.nck z)<|Tv z (V.fa fdrepair2_69_2 z)<|Tv z (V.ldf (k:=6) shrepair2_25 z E z)<|Tm z z<|have ac:=Pt.mono VruleJudge.mono N p; have ad:=Slc.mono VI.mono P p; ?_
    obtain ⟨aU,ae,H⟩:=bnd H
    refine Tp z z (SX.two (XA.fr [] Lr z) (XA.fr [] Lr z)) (O.callS z (Judge_Least_ok ac ad ae _) z fun aV G aW r af=>?_) T.tno
    obtain ⟨rfl,ag⟩:=af
    refine Sl_ _ ag<|T.tgrow r<|Tv z (V.gt z z)<|Tv z (V.pkT z z)<|T.tnil (SX.two (XA.fr [] Lr z) (XA.fr [] Lr z))<|Th<|T.cH H z (fun H=>?_) (fun H=>?_)
    ·refine Rg<|Mv z<|Mv z<|To (O.bs elrepair2_25 zerepair2_3 z (e:=z) (hk:=z) (xs:=[.tmp 34]) (hv:=CO.eq (CO.cons z CO.nil)) (hw:=Wide.of z) (hd:=z) fun aX=>have s:RowF (VI .i64) G [[.int .i64 a]] ([a]:List Int):=(RowF.cons z RowF.nil); ?_)
     obtain ⟨I,J,H⟩:=bnd H
     have ai:=(D.trans r)
     have K:=RowF.mono VI.mono y ai
     refine To (O.apX elrepair2_25 elrepair2_25 zerepair2_3 z z z (j:=1) z (Src.row (j:=0) z) (Wide.of z) (RowF.ones VI.plain s) K s J z fun aj aY aZ=>have ak:RowF (VI .i64) G (b ++ [[.int .i64 a]]) I:=RowF.ap K s J; Fr_ 1 z<|T.drop<|Ag z<|Ni<|Bn<|Th<|Rg ?_)
     obtain ⟨am,an,H⟩:=bnd H
     refine Vv (V.addS z z an)<|Mv z<|Nt<|have ao:=(p.trans r); T.again (Y,am,I,aj,(b ++ [[.int .i64 a]])) ao (Nat.lt_succ_self _) ⟨(iterK_in H A),ak⟩ (AllIn.app ⟨z,z,trivial⟩ ⟨z,z,z,trivial⟩) z
    exact dead H
   exact dead H
  refine T.exit<|Te<|Te<|have H:=iterK_out H A; Be<|Th<|T.met (d,c,b) q ⟨H,y⟩ (AllIn.app ⟨z,trivial⟩ trivial) z
 rintro ⟨o,f,i⟩ a0 aq ⟨ar,au⟩
 have H:=cutE ar U
 refine T.norm [3] z<|Sl_ (rowR 3 1 f i::L) z<|Sr<|Mv z<|Ag z<|Nt<|T.ret ?_
 obtain rfl:=Option.some.inj H
 exact T.retL Tryz.results67 (Rv z) aq ⟨_,z,au⟩
theorem repair_Upset_ok {h:PH} {pc0:List Value} {p1:apiProblem} (pr0:VapiProblem h pc0 p1) {pv1:Value} {part12:List Int} (pr1:Slc (VI .i64) 1 h pv1 part12) {r_0:List Int} (H:repair_Upset p1 part12 = some r_0):∀ L,FnS Tryz.prog 25 [.agg pc0.toArray,pv1] h (L) (fun v h' L'=>∃ cs0,L' = rowR 3 1 v cs0::L∧RowF (VI .i64) h' cs0 r_0):=by
 intro L
 obtain ⟨x,y,A,B,C,rfl,P,S,U,W,X⟩:=pr0
 refine FnS.enter Tryz.func25 rfl Tryz.ntmps25 rfl<|Sr<|To (O.boxF rfl rfl rfl fun be Y e Z=>Ag z<|Nt<|Sr<|Vv (V.ldS rfl Z (by exact shrepair2_28)) ?_)
 refine Mv z<|have aa:=Slc.mono VapiTable.mono P e; have ab:=Slc.mono VapiGuest.mono S e; have ac:=Slc.mono VapiTie.mono U e; have ad:=Slc.mono VI.mono W e; have ae:=Slc.mono VapiRule.mono X e; have af:=Slc.mono VI.mono pr1 e; ?_
 obtain ⟨⟨a,bf⟩,ag,H⟩:=bnd H
 refine To (O.callS z (repair_open_ok (show VapiProblem Y [x,y,A,B,C] p1 from ⟨x,y,A,B,C,z,aa,ab,ac,ad,ae⟩) af ag _) z fun bg bi bj ai aj=>?_)
 obtain ⟨ak,t,o,D,k,u,f,r,d,p,c,m,b,g,rfl,am,an,ao,ap,aq,ar,au,aw⟩:=aj
 refine Sl_ _ am<|Mv z<|Vv (V.ext z z)<|Vv (V.ext z z)<|Ag z<|Ag z<|Nt<|Sq<|Sr<|Mv z<|Vv (V.ne z z)<|Nt<|T.cH H z (fun H=>?_) (fun H=>?_)
 ·exact dead H
 refine T.skip<|Th<|Sr<|Mv z ?_
 obtain ⟨i,ax,H⟩:=bnd H
 refine To (O.callS z (FnS.lendG (R:=fun v h' L'=>∃ L1_,L' = rowR 31 7 o D::L1_∧(∃ L2_,L1_ = rowR 35 9 k u::L2_∧(∃ L3_,L2_ = rowR 164 3 f r::L3_∧(∃ L4_,L3_ = rowR 3 1 d p::L4_∧(∃ L5_,L4_ = rowR 39 6 c m::L5_∧(∃ L6_,L5_ = rowR 3 1 b g::L6_∧(∃ (cs0:List (List Value)),L6_ = rowR 3 1 v cs0::L∧RowF (VI .i64) h' cs0 i))))))) Tryz.func67 z (fun _ _ _ _ ⟨a5_,b5_,⟨a4_,b4_,⟨a3_,b3_,⟨a2_,b2_,⟨a1_,b1_,⟨a0_,b0_,⟨e_0,l_,f_0⟩⟩⟩⟩⟩⟩⟩=>⟨a5_,b5_,⟨a4_,b4_,⟨a3_,b3_,⟨a2_,b2_,⟨a1_,b1_,⟨a0_,b0_,⟨e_0,l_,(RowF.free VI.free f_0)⟩⟩⟩⟩⟩⟩⟩) lendB fun bk ay aA=>FnS.lendG (R:=fun v h' L'=>∃ L1_,L' = rowR 35 9 k u::L1_∧(∃ L2_,L1_ = rowR 164 3 f r::L2_∧(∃ L3_,L2_ = rowR 3 1 d p::L3_∧(∃ L4_,L3_ = rowR 39 6 c m::L4_∧(∃ L5_,L4_ = rowR 3 1 b g::L5_∧(∃ (cs0:List (List Value)),L5_ = rowR 3 1 v cs0::L∧RowF (VI .i64) h' cs0 i)))))) Tryz.func67 z (fun _ _ _ _ ⟨a4_,b4_,⟨a3_,b3_,⟨a2_,b2_,⟨a1_,b1_,⟨a0_,b0_,⟨e_0,l_,f_0⟩⟩⟩⟩⟩⟩=>⟨a4_,b4_,⟨a3_,b3_,⟨a2_,b2_,⟨a1_,b1_,⟨a0_,b0_,⟨e_0,l_,(RowF.free VI.free f_0)⟩⟩⟩⟩⟩⟩) lendR fun bm E aB=>FnS.lendG (R:=fun v h' L'=>∃ L1_,L' = rowR 164 3 f r::L1_∧(∃ L2_,L1_ = rowR 3 1 d p::L2_∧(∃ L3_,L2_ = rowR 39 6 c m::L3_∧(∃ L4_,L3_ = rowR 3 1 b g::L4_∧(∃ (cs0:List (List Value)),L4_ = rowR 3 1 v cs0::L∧RowF (VI .i64) h' cs0 i))))) Tryz.func67 z (fun _ _ _ _ ⟨a3_,b3_,⟨a2_,b2_,⟨a1_,b1_,⟨a0_,b0_,⟨e_0,l_,f_0⟩⟩⟩⟩⟩=>⟨a3_,b3_,⟨a2_,b2_,⟨a1_,b1_,⟨a0_,b0_,⟨e_0,l_,(RowF.free VI.free f_0)⟩⟩⟩⟩⟩) lendR fun bn w aC=>FnS.lendG (R:=fun v h' L'=>∃ L1_,L' = rowR 3 1 d p::L1_∧(∃ L2_,L1_ = rowR 39 6 c m::L2_∧(∃ L3_,L2_ = rowR 3 1 b g::L3_∧(∃ (cs0:List (List Value)),L3_ = rowR 3 1 v cs0::L∧RowF (VI .i64) h' cs0 i)))) Tryz.func67 z (fun _ _ _ _ ⟨a2_,b2_,⟨a1_,b1_,⟨a0_,b0_,⟨e_0,l_,f_0⟩⟩⟩⟩=>⟨a2_,b2_,⟨a1_,b1_,⟨a0_,b0_,⟨e_0,l_,(RowF.free VI.free f_0)⟩⟩⟩⟩) lendR fun bo s aD=>FnS.lendG (R:=fun v h' L'=>∃ L1_,L' = rowR 39 6 c m::L1_∧(∃ L2_,L1_ = rowR 3 1 b g::L2_∧(∃ (cs0:List (List Value)),L2_ = rowR 3 1 v cs0::L∧RowF (VI .i64) h' cs0 i))) Tryz.func67 z (fun _ _ _ _ ⟨a1_,b1_,⟨a0_,b0_,⟨e_0,l_,f_0⟩⟩⟩=>⟨a1_,b1_,⟨a0_,b0_,⟨e_0,l_,(RowF.free VI.free f_0)⟩⟩⟩) lendR fun bp q aE=>FnS.lendG (R:=fun v h' L'=>∃ L1_,L' = rowR 3 1 b g::L1_∧(∃ (cs0:List (List Value)),L1_ = rowR 3 1 v cs0::L∧RowF (VI .i64) h' cs0 i)) Tryz.func67 z (fun _ _ _ _ ⟨a0_,b0_,⟨e_0,l_,f_0⟩⟩=>⟨a0_,b0_,⟨e_0,l_,(RowF.free VI.free f_0)⟩⟩) lendR fun bq n aG=>FnS.lendG (R:=fun v h' L'=>∃ (cs0:List (List Value)),L' = rowR 3 1 v cs0::L∧RowF (VI .i64) h' cs0 i) Tryz.func67 z (fun _ _ _ _ ⟨e_0,l_,f_0⟩=>⟨e_0,l_,(RowF.free VI.free f_0)⟩) lendR fun aI j aJ=>?_) z fun aK br bs aM aN=>?_)
 ·have G:=(ay.trans E)
  have aO:=RowF.mono VapiTable.mono ao G
  have aP:=RowF.slc aB aO
  have I:=(G.trans w)
  have aS:=RowF.mono VapiGuest.mono ap I
  have aU:=RowF.slc aC aS
  have J:=(I.trans s)
  have aV:=RowF.mono VapiTie.mono aq J
  have aW:=RowF.slc aD aV
  have K:=(J.trans q)
  have aX:=RowF.mono VI.mono ar K
  have aY:=RowF.slc aE aX
  have M:=(K.trans n)
  have aZ:=RowF.mono VapiRule.mono au M
  have a0:=RowF.slc aG aZ
  have N:=(M.trans j)
  have a1:=RowF.mono VI.mono aw N
  have a2:=RowF.slc aJ a1
  have a3:=(((((E.trans w).trans s).trans q).trans n).trans j)
  have a4:=aA.mono a3
  have a5:=Pt.mono VruleJudge.mono an N
  have a6:=((((w.trans s).trans q).trans n).trans j)
  have a7:=Slc.mono VapiTable.mono aP a6
  have a8:=(((s.trans q).trans n).trans j)
  have a9:=Slc.mono VapiGuest.mono aU a8
  have ah:=((q.trans n).trans j)
  have al:=Slc.mono VapiTie.mono aW ah
  have av:=(n.trans j)
  have az:=Slc.mono VI.mono aY av
  have ba:=Slc.mono VapiRule.mono a0 j
  exact scene_upset_ok (Pt.mk a4 (show Vrepairscene aI [t,o,k,f,d,c,b,.int .i64 a.fseats] (repairscene.mk a.fJudge (apiProblem.mk a.fp.fTables a.fp.fGuests a.fp.fTies a.fp.fClass a.fp.fRules) a.fpart a.fseats) from ⟨t,o,k,f,d,c,b,z,a5,a7,a9,al,az,ba,a2⟩)) ax _
 obtain ⟨_,rfl,⟨_,rfl,⟨_,rfl,⟨_,rfl,⟨_,rfl,⟨_,rfl,⟨_,rfl,⟨bb,rfl,bc⟩⟩⟩⟩⟩⟩⟩⟩:=aN
 refine Sl_ (blk ak (.cells [t,o,k,f,d,c,b,.int .i64 a.fseats].toArray 69)::rowR 31 7 o D::rowR 35 9 k u::rowR 164 3 f r::rowR 3 1 d p::rowR 39 6 c m::rowR 3 1 b g::rowR 3 1 aK bb::L) z<|Ag z<|Nt<|T.ret<|T.drop<|T.drop<|T.drop<|T.drop<|T.drop<|T.drop<|T.drop ?_
 obtain rfl:=Option.some.inj H
 have bd:=((e.trans ai).trans aM)
 exact T.retL Tryz.results25 (Rv z) bd ⟨_,z,bc⟩
theorem Judge_Blame_1_ok {h:PH} {u1:Int} {pv1:Value} {who2:List Int} (pr1:Slc (VI .i64) 1 h pv1 who2) {pb2:Nat} {t3:List Int} {v2_1:Value} {css2_2:List (List Value)} (hR2_3:RowF (VI .i64) h css2_2 t3) {q_2:List Int} (H:Judge_Blame_1 u1 who2 t3 = some q_2):∀ L,FnS Tryz.prog 131 [.int .i64 u1,pv1,.pointer (some ⟨pb2,0,none⟩)] h (blk pb2 (.cells [v2_1].toArray 25)::rowR 3 1 v2_1 css2_2::L) (fun v h' L'=>∃ vl0_1 cssl0_2,v = .tuple #[]∧L' = blk pb2 (.cells [vl0_1].toArray 25)::rowR 3 1 vl0_1 cssl0_2::L∧RowF (VI .i64) h' cssl0_2 q_2):=by
 intro L
 refine FnS.enter Tryz.func131 z Tryz.ntmps131 z<|Rg<|Vv (V.ldO0 shrepair2_25 z (j:=0) z z)<|Mv z ?_
 obtain ⟨d,b,a⟩:=Slc.row pr1
 obtain ⟨e,c,H⟩:=bnd H
 refine To (O.apX elrepair2_25 elrepair2_25 zerepair2_3 rfl rfl rfl (j:=1) rfl (Src.fix b) b.wide (RowF.ones VI.plain a) hR2_3 a c rfl fun f m n=>have g:RowF (VI .i64) h (css2_2 ++ d) e:=RowF.ap hR2_3 a c; T.rowOne 0 rfl fun i k=>To (O.stF (vs:=[f]) shrepair2_25 rfl rfl (j:=1) rfl k (by (simp only [Sl.ones,i,Bool.and_true,Bool.true_and]) <;> rfl) rfl ?_))
 refine Ni ?_
 obtain rfl:=Option.some.inj H
 exact T.end0 Tryz.results131 Lr ⟨_,_,z,z,g⟩
theorem Judge_Blame_ok {h:PH} {pv0:Value} {j1:ruleJudge} (pr0:Pt VruleJudge h pv0 j1) {pv1:Value} {part2:List Int} (pr1:Slc (VI .i64) 1 h pv1 part2) {i3:Int} {r_0:List Int} (H:Judge_Blame j1 part2 i3 = some r_0):∀ L,FnS Tryz.prog 68 [pv0,pv1,.int .i64 i3] h (L) (fun v h' L'=>∃ cs0,L' = rowR 3 1 v cs0::L∧RowF (VI .i64) h' cs0 r_0):=by
 intro L
 refine FnS.enter Tryz.func68 z Tryz.ntmps68 z<|Sr<|Ag z<|Nt<|Sr<|Mv z<|Mv z ?_
 obtain ⟨g,N,H⟩:=bnd H
 refine To (O.callS z (Judge_look_ok pr0 pr1 N _) z fun a4 b a5 P S=>?_)
 obtain ⟨U,W⟩:=S
 refine Sl_ _ U<|Ag z<|Nt<|Sq<|Sr<|Mv z<|have X:=W; ?_
 obtain ⟨a6,_,rfl,d,⟨a7,i,m,rfl,Y,Z,aa⟩⟩:=X
 refine Vv (V.nilP Tryz.underlying204 z)<|Mv z<|Mv z<|Vv (V.lt z z)<|Vv (V.pkF z z)<|Mv z<|T.bH 18 H z (fun H=>?_) (fun H=>?_)
 ·exact dead H
 refine Mv z<|Mv z<|Vv (V.nck z)<|Vv (V.fa fdrepair2_207_0 z)<|Vv (V.ldf (k:=0) shrepair2_67 z d z)<|have ab:=Y; ?_
 obtain ⟨n,_,rfl,e,⟨o,p,q,r,s,u,w,x,y,A,B,C,D,E,rfl,ac,ad,ae,af,c,G,ag,ai,aj,ak,am,an,ao,ap⟩⟩:=ab
 refine Vv (V.nck z)<|Vv (V.fa fdrepair2_111_0 z)<|Vv (V.fa fdrepair2_103_4 z)<|Vv (V.ldf (k:=4) shrepair2_26 z e z)<|Vv (V.lenS elrepair2_26 z c)<|Vv (V.ge z z)<|Vv (V.pkF z z)<|Nt<|T.cH H z (fun H=>?_) (fun H=>?_)
 ·exact dead H
 refine T.skip<|Th<|Sr<|To (O.alloc zerepair2_25 rfl rfl fun f=>Nt<|Sq<|T.drawF (t:=(.v 0 (.v 1 (.v 2 (.v 3 (.v 4 (.v 5 (.v 6 (.v 7 (.v 8 (.v 9 (.v 10 (.v 11 (.v 12 (.v 13 (.v 14 (.v 15 (.v 16 (.v 17 (.v 18 (.v 19 (.v 20 (.v 21 (.v 22 (.v 23 (.v 24 (.v 25 (.v 26 (.v 27 (.v 28 (.v 29 (.v 30 (.v 31 (.v 32 (.v 33 (.alt 34 .done .no)))))))))))))))))))))))))))))))))))) 34 1 0 rfl rfl repair2mixed (by kernel_rfl) ?_)
 refine Tm z z<|Tv z (V.nck z)<|Tv z (V.fa fdrepair2_207_0 z)<|Tv z (V.ldf (k:=0) shrepair2_67 z d z)<|Tv z (V.nck z)<|Tv z (V.fa fdrepair2_111_1 z)<|Tv z (V.ldf (k:=5) shrepair2_104 z e z)<|Tm z z<|Tv z (V.nck z)<|Tv z (V.fa fdrepair2_207_0 z)<|Tv z (V.ldf (k:=0) shrepair2_67 z d z)<|Tv z (V.nck z)<|Tv z (V.fa fdrepair2_111_0 z)<|Tv z (V.fa fdrepair2_103_4 z)<|Tv z (V.ldf (k:=4) shrepair2_26 z e z)<|Tm z z ?_
 obtain ⟨a8,I,H⟩:=bnd H
 obtain ⟨a9,aq,rfl⟩:=Slc.at c I
 refine Tv z (V.ix elrepair2_26 z z c (getI_bd I))<|Tv z (V.fa fdrepair2_39_0 z)<|Tv z (V.ldf (k:=0) shrepair2_37 z aq z) ?_
 obtain ⟨⟨ah,al⟩,ar,H⟩:=bnd H
 obtain ⟨_,au,rfl⟩:=Mp.look (zc:=[.string (⟨#[]⟩:ByteArray),.int .u8 (0:Int),.bool false,.int .u8 (0:Int),.bool false,.int .i64 (0:Int),.bool false,(fnV (0:Nat))]) (agg:=true) Tryz.underlying104 (KeyOK.int Tryz.underlying37) zerepair2_210 (show Vrulekind b [.string (⟨#[]⟩:ByteArray),.int .u8 (0:Int),.bool false,.int .u8 (0:Int),.bool false,.int .i64 (0:Int),.bool false,(fnV (0:Nat))] (rulekind.mk (⟨#[]⟩:ByteArray) (0:Int) false (0:Int) false (0:Int) false (0:Nat)) from rfl) G ar
 refine Tv z (V.lkF1 z z au)<|Tv z (V.fld flrepair2_210_7 shrepair2_208 z z)<|Tm z z<|Tm z z<|Tv z (V.nck z)<|Tv z (V.fa fdrepair2_207_0 z)<|Tv z (V.ldf (k:=0) shrepair2_67 z d z)<|Tv z (V.nck z)<|Tv z (V.fa fdrepair2_111_0 z)<|Tv z (V.fa fdrepair2_103_4 z)<|Tv z (V.ldf (k:=4) shrepair2_26 z e z)<|Tm z z ?_
 obtain ⟨a,J,H⟩:=bnd H
 obtain ⟨av,aw,rfl⟩:=Slc.at c J
 refine Tv z (V.ix elrepair2_26 rfl rfl c (getI_bd J))<|Tv z (V.ldS rfl aw (by exact shrepair2_39)) ?_
 refine Tv z (V.mkf z z)<|T.rowNil 3 1<|have ax:RowF (VI .i64) b [] ([]:List Int):=RowF.nil; Fr_ 1 z ?_
 obtain ⟨az,ay,H⟩:=bnd H
 obtain ⟨ba,bb,bc,aA,aB⟩:=rule_find_call (Pt.mk d (show Vruleview b [.pointer (some n),i,m] g from ⟨(.pointer (some n)),i,m,rfl,(Pt.mk e (show VruleJudge b [o,p,q,r,s,u,w,x,y,A,B,C,D,E] g.fJudge from ⟨o,p,q,r,s,u,w,x,y,A,B,C,D,E,rfl,ac,ad,ae,af,c,G,ag,ai,aj,ak,am,an,ao,ap⟩)),Z,aa⟩)) (show VapiRule b [.int .u8 a.fKind,.int .i64 a.fWeight,.string a.fA,.string a.fB,.string a.fTable,.int .i64 a.fN] a from rfl) (show CY211 (fun x_ h_ La_=>∃ v_ c_,La_ = [blk f (.cells [v_].toArray 25),rowR 3 1 v_ c_]∧RowF (VI .i64) h_ c_ x_) b (.func (.func 131) #[] #[.pointer (some ⟨f,0,none⟩)]) (fun s_ aC aD=>Judge_Blame_1 aC aD s_) from ⟨⟨rfl,rfl⟩,fun _ _ _ _ l_ ⟨v_,c_,e_,f_⟩=>⟨v_,c_,e_,RowF.mono VI.mono f_ l_⟩,fun bd be=>fun aE=>fun aG aI aJ aK=>by obtain ⟨v_,c_,rfl,f_⟩:=aG; exact Yld.two (us:=[]) (cs:=[.pointer (some ⟨f,0,none⟩)]) (Judge_Blame_1_ok aE f_ aI) (fun _ _ _ _ ⟨v_,c_,e_,k_,f_⟩=>⟨e_,_,_,k_,v_,c_,rfl,f_⟩) aJ aK⟩) ⟨_,_,rfl,ax⟩ ay
 refine Tp z z (SX.two (XA.fr [] Lr z) (XA.fr [0] Lr z)) (O.callfW z aA z (aB ([]:List HProp) _) z fun bf bg bi K aM=>?_) T.tno
 obtain ⟨bj,rfl,aN,⟨M,aO,rfl,aP⟩⟩:=aM
 refine Sl_ _ aN<|T.tnil (SX.one (XA.fr [] K z) z)<|Th<|Sq<|T.norm [8] z<|Sl_ (blk f (.cells [M].toArray 25)::rowR 3 1 M aO::L) z<|Rg<|Vv (V.ldO0 shrepair2_25 z (j:=0) z z)<|Fr_ 1 z ?_
 obtain ⟨bk,aS,H⟩:=bnd H
 refine To (O.callS z (sl_SortInt_ok aP aS _) z fun bm bn bo aU aV=>?_)
 obtain ⟨bp,rfl,aW,aX⟩:=aV
 refine Sl_ _ aW<|Nt<|Sr<|Vv (V.ldO0 shrepair2_25 z (j:=1) z z) ?_
 obtain ⟨bq,aY,H⟩:=bnd H
 refine To (O.callS z (sl_CompactInt_ok aX aY _) z fun br bs bt aZ a0=>?_)
 obtain ⟨bu,a1,a2⟩:=a0
 refine Sl_ _ a1<|Ag z<|Nt<|T.ret<|Fr_ 1 z<|T.drop ?_
 obtain rfl:=Option.some.inj H
 have a3:=(((P.trans K).trans aU).trans aZ)
 exact T.retL Tryz.results68 (Rv z) a3 ⟨_,z,a2⟩
theorem repair_AtLeast_1_ok {h:PH} {g1:Int} {pp1:Addr} {pc1:List Value} {t2:List Int} (pa1:AtC h pp1 pc1) (pr1:(VSl (VI .i64) 1) h pc1 t2) {r_0:Bool} (H:repair_AtLeast_1 g1 t2 = some r_0):∀ L,FnS Tryz.prog 70 [.int .i64 g1,.pointer (some pp1)] h (L) (fun v h' L'=>v = .bool r_0∧L' = L):=by
 intro L
 obtain ⟨f,rfl,a⟩:=pr1
 refine FnS.enter Tryz.func70 z Tryz.ntmps70 z<|Sr<|Ag z<|Nt<|Sr<|Vv (V.ld0 shrepair2_25 z pa1 z)<|Mv z ?_
 obtain ⟨g,b,H⟩:=bnd H
 refine To (O.callS z (sl_ContainsInt_ok a b _) z fun i j k c d=>?_)
 obtain ⟨rfl,e⟩:=d
 refine Sl_ _ e<|Ag z<|Nt<|T.ret ?_
 obtain rfl:=Option.some.inj H
 exact T.retL Tryz.results70 (Rv z) c ⟨z,z⟩
theorem repair_AtLeast_ok {h:PH} {pc0:List Value} {p1:apiProblem} (pr0:VapiProblem h pc0 p1) {pv1:Value} {part12:List Int} (pr1:Slc (VI .i64) 1 h pv1 part12) {r_0:Int} (H:repair_AtLeast p1 part12 = some r_0):∀ L,FnS Tryz.prog 24 [.agg pc0.toArray,pv1] h (L) (fun v h' L'=>v = .int .i64 r_0∧L' = L):=by
 intro L
 obtain ⟨af,ag,ai,aj,ak,rfl,aZ,a0,a1,a2,a3⟩:=pr0
 refine FnS.enter Tryz.func24 rfl Tryz.ntmps24 rfl<|Sr<|To (O.boxF rfl rfl rfl fun cU a4 B a5=>Ag z<|Nt<|Sr<|Vv (V.ldS rfl a5 (by exact shrepair2_28)) ?_)
 refine Mv z<|have a6:=Slc.mono VapiTable.mono aZ B; have a7:=Slc.mono VapiGuest.mono a0 B; have a8:=Slc.mono VapiTie.mono a1 B; have a9:=Slc.mono VI.mono a2 B; have ah:=Slc.mono VapiRule.mono a3 B; have al:=Slc.mono VI.mono pr1 B; ?_
 obtain ⟨⟨g,cV⟩,av,H⟩:=bnd H
 refine To (O.callS z (repair_open_ok (show VapiProblem a4 [af,ag,ai,aj,ak] p1 from ⟨af,ag,ai,aj,ak,z,a6,a7,a8,a9,ah⟩) al av _) z fun cW cX cY az ba=>?_)
 obtain ⟨C,u,i,x,f,w,e,s,d,r,b,p,c,q,rfl,bb,am,bc,be,bf,bg,an,ao⟩:=ba
 refine Sl_ _ bb<|Mv z<|Vv (V.ext z z)<|Vv (V.ext z z)<|Ag z<|Ag z<|Nt<|Sq<|Sr<|Mv z<|Vv (V.ne z z)<|Nt<|T.cH H z (fun H=>?_) (fun H=>?_)
 ·exact dead H
 refine T.skip<|Th<|Sr<|Ag z<|Nt<|Sr<|To (O.alloc zerepair2_25 z z fun n=>Nt<|Sq<|Sr<|Mv z<|Fr_ 7 z<|T.fl ?_)
 refine Fr_ 7 z<|T.fl ?_
 refine Fr_ 7 z<|T.fl ?_
 refine Fr_ 7 z<|T.fl ?_
 refine Fr_ 7 z<|T.fl ?_
 refine Fr_ 7 z<|T.fl ?_
 refine Fr_ 7 z<|T.fl ?_
 obtain ⟨y,bi,H⟩:=bnd H
 refine To (O.callS z (FnS.lendG (R:=fun v h' L'=>∃ L1_,L' = rowR 31 7 i x::L1_∧(∃ L2_,L1_ = rowR 35 9 f w::L2_∧(∃ L3_,L2_ = rowR 164 3 e s::L3_∧(∃ L4_,L3_ = rowR 3 1 d r::L4_∧(∃ L5_,L4_ = rowR 39 6 b p::L5_∧(∃ L6_,L5_ = rowR 3 1 c q::L6_∧(∃ (a:List (List Value)),L6_ = rowR 3 1 v a::blk n (.cells [.slice none 0 0].toArray 25)::L∧RowF (VI .i64) h' a y))))))) Tryz.func67 z (fun _ _ _ _ ⟨a5_,b5_,⟨a4_,b4_,⟨a3_,b3_,⟨a2_,b2_,⟨a1_,b1_,⟨a0_,b0_,⟨e_0,l_,f_0⟩⟩⟩⟩⟩⟩⟩=>⟨a5_,b5_,⟨a4_,b4_,⟨a3_,b3_,⟨a2_,b2_,⟨a1_,b1_,⟨a0_,b0_,⟨e_0,l_,(RowF.free VI.free f_0)⟩⟩⟩⟩⟩⟩⟩) lendB fun cZ bj bk=>FnS.lendG (R:=fun v h' L'=>∃ L1_,L' = rowR 35 9 f w::L1_∧(∃ L2_,L1_ = rowR 164 3 e s::L2_∧(∃ L3_,L2_ = rowR 3 1 d r::L3_∧(∃ L4_,L3_ = rowR 39 6 b p::L4_∧(∃ L5_,L4_ = rowR 3 1 c q::L5_∧(∃ (a:List (List Value)),L5_ = rowR 3 1 v a::blk n (.cells [.slice none 0 0].toArray 25)::L∧RowF (VI .i64) h' a y)))))) Tryz.func67 z (fun _ _ _ _ ⟨a4_,b4_,⟨a3_,b3_,⟨a2_,b2_,⟨a1_,b1_,⟨a0_,b0_,⟨e_0,l_,f_0⟩⟩⟩⟩⟩⟩=>⟨a4_,b4_,⟨a3_,b3_,⟨a2_,b2_,⟨a1_,b1_,⟨a0_,b0_,⟨e_0,l_,(RowF.free VI.free f_0)⟩⟩⟩⟩⟩⟩) lendR fun c0 aq bm=>FnS.lendG (R:=fun v h' L'=>∃ L1_,L' = rowR 164 3 e s::L1_∧(∃ L2_,L1_ = rowR 3 1 d r::L2_∧(∃ L3_,L2_ = rowR 39 6 b p::L3_∧(∃ L4_,L3_ = rowR 3 1 c q::L4_∧(∃ (a:List (List Value)),L4_ = rowR 3 1 v a::blk n (.cells [.slice none 0 0].toArray 25)::L∧RowF (VI .i64) h' a y))))) Tryz.func67 z (fun _ _ _ _ ⟨a3_,b3_,⟨a2_,b2_,⟨a1_,b1_,⟨a0_,b0_,⟨e_0,l_,f_0⟩⟩⟩⟩⟩=>⟨a3_,b3_,⟨a2_,b2_,⟨a1_,b1_,⟨a0_,b0_,⟨e_0,l_,(RowF.free VI.free f_0)⟩⟩⟩⟩⟩) lendR fun c1 Y bn=>FnS.lendG (R:=fun v h' L'=>∃ L1_,L' = rowR 3 1 d r::L1_∧(∃ L2_,L1_ = rowR 39 6 b p::L2_∧(∃ L3_,L2_ = rowR 3 1 c q::L3_∧(∃ (a:List (List Value)),L3_ = rowR 3 1 v a::blk n (.cells [.slice none 0 0].toArray 25)::L∧RowF (VI .i64) h' a y)))) Tryz.func67 z (fun _ _ _ _ ⟨a2_,b2_,⟨a1_,b1_,⟨a0_,b0_,⟨e_0,l_,f_0⟩⟩⟩⟩=>⟨a2_,b2_,⟨a1_,b1_,⟨a0_,b0_,⟨e_0,l_,(RowF.free VI.free f_0)⟩⟩⟩⟩) lendR fun c2 W bo=>FnS.lendG (R:=fun v h' L'=>∃ L1_,L' = rowR 39 6 b p::L1_∧(∃ L2_,L1_ = rowR 3 1 c q::L2_∧(∃ (a:List (List Value)),L2_ = rowR 3 1 v a::blk n (.cells [.slice none 0 0].toArray 25)::L∧RowF (VI .i64) h' a y))) Tryz.func67 z (fun _ _ _ _ ⟨a1_,b1_,⟨a0_,b0_,⟨e_0,l_,f_0⟩⟩⟩=>⟨a1_,b1_,⟨a0_,b0_,⟨e_0,l_,(RowF.free VI.free f_0)⟩⟩⟩) lendR fun c3 S bp=>FnS.lendG (R:=fun v h' L'=>∃ L1_,L' = rowR 3 1 c q::L1_∧(∃ (a:List (List Value)),L1_ = rowR 3 1 v a::blk n (.cells [.slice none 0 0].toArray 25)::L∧RowF (VI .i64) h' a y)) Tryz.func67 z (fun _ _ _ _ ⟨a0_,b0_,⟨e_0,l_,f_0⟩⟩=>⟨a0_,b0_,⟨e_0,l_,(RowF.free VI.free f_0)⟩⟩) lendR fun c4 K bq=>FnS.lendG (R:=fun v h' L'=>∃ (a:List (List Value)),L' = rowR 3 1 v a::blk n (.cells [.slice none 0 0].toArray 25)::L∧RowF (VI .i64) h' a y) Tryz.func67 z (fun _ _ _ _ ⟨e_0,l_,f_0⟩=>⟨e_0,l_,(RowF.free VI.free f_0)⟩) lendR fun br D bs=>?_) z fun E bt c5 ar bu=>?_)
 ·have au:=(bj.trans aq)
  have bw:=RowF.mono VapiTable.mono bc au
  have bx:=RowF.slc bm bw
  have aw:=(au.trans Y)
  have bA:=RowF.mono VapiGuest.mono be aw
  have bB:=RowF.slc bn bA
  have ax:=(aw.trans W)
  have bC:=RowF.mono VapiTie.mono bf ax
  have bD:=RowF.slc bo bC
  have ay:=(ax.trans S)
  have bE:=RowF.mono VI.mono bg ay
  have bG:=RowF.slc bp bE
  have aA:=(ay.trans K)
  have bI:=RowF.mono VapiRule.mono an aA
  have bJ:=RowF.slc bq bI
  have aB:=(aA.trans D)
  have bK:=RowF.mono VI.mono ao aB
  have bM:=RowF.slc bs bK
  have bN:=(((((aq.trans Y).trans W).trans S).trans K).trans D)
  have bO:=bk.mono bN
  have bP:=Pt.mono VruleJudge.mono am aB
  have bS:=((((Y.trans W).trans S).trans K).trans D)
  have bU:=Slc.mono VapiTable.mono bx bS
  have bV:=(((W.trans S).trans K).trans D)
  have bW:=Slc.mono VapiGuest.mono bB bV
  have bX:=((S.trans K).trans D)
  have bY:=Slc.mono VapiTie.mono bD bX
  have bZ:=(K.trans D)
  have b0:=Slc.mono VI.mono bG bZ
  have b1:=Slc.mono VapiRule.mono bJ D
  exact scene_upset_ok (Pt.mk bO (show Vrepairscene br [u,i,f,e,d,b,c,.int .i64 g.fseats] (repairscene.mk g.fJudge (apiProblem.mk g.fp.fTables g.fp.fGuests g.fp.fTies g.fp.fClass g.fp.fRules) g.fpart g.fseats) from ⟨u,i,f,e,d,b,c,z,bP,bU,bW,bY,b0,b1,bM⟩)) bi _
 obtain ⟨_,rfl,⟨_,rfl,⟨_,rfl,⟨_,rfl,⟨_,rfl,⟨_,rfl,⟨_,rfl,⟨G,rfl,aC⟩⟩⟩⟩⟩⟩⟩⟩:=bu
 refine Sl_ (blk C (.cells [u,i,f,e,d,b,c,.int .i64 g.fseats].toArray 69)::rowR 31 7 i x::rowR 35 9 f w::rowR 164 3 e s::rowR 3 1 d r::rowR 39 6 b p::rowR 3 1 c q::rowR 3 1 E G::blk n (.cells [.slice none 0 0].toArray 25)::L) z<|Vv (V.lenX elrepair2_25 z (j:=7) z aC.len)<|Mv z<|Nt ?_
 obtain ⟨aD,b2,b3⟩:=bndK H
 refine T.cutK (α:=Int) [] z (fun U=>[(7,.int .i64 U)]) (fun U=>L) (fun U hh=>aD = U) ?_ ?_
 ·have H:=b2
  refine Bl<|T.rowNil 3 1<|have b4:RowF (VI .i64) bt [] ([]:List Int):=RowF.nil; Fr_ 9 z<|T.fl ?_
  refine Fr_ 9 z<|T.fl ?_
  refine Fr_ 9 z<|T.fl ?_
  refine Fr_ 9 z<|T.fl ?_
  refine Fr_ 9 z<|T.fl ?_
  refine Fr_ 9 z<|T.fl ?_
  refine Fr_ 9 z<|T.fl ?_
  refine Fr_ 9 z<|T.fl ?_
  refine Fr_ 9 z<|T.fl ?_
  refine T.loopK (α:=Nat×(List Int)×Int×Int×Value×(List (List Value))) [5,8,21,22] z (fun ⟨M,A,N,I,m,o⟩=>[(23,.int .i64 N),(7,.int .i64 I)]) (fun ⟨M,A,N,I,m,o⟩=>blk C (.cells [u,i,f,e,d,b,c,.int .i64 g.fseats].toArray 69)::rowR 31 7 i x::rowR 35 9 f w::rowR 164 3 e s::rowR 3 1 d r::rowR 39 6 b p::rowR 3 1 c q::rowR 3 1 E G::blk n (.cells [m].toArray 25)::rowR 3 1 m o::L) (fun ⟨M,A,N,I,m,o⟩ hh=>iter (repair_AtLeast_l0 g y) M (A,N,I) = some aD∧RowF (VI .i64) hh o A) (fun ⟨M,A,N,I,m,o⟩=>M) (FUEL,([]:List Int),(0:Int),(0:Int),(.slice none 0 0),[]) ⟨z,z,trivial⟩ z ⟨H,b4⟩ ?_
  rintro ⟨M,A,N,I,m,o⟩ c6 X ⟨b5,aE⟩
  obtain ⟨b6,c7,rfl,H,aG⟩:=iter_go b5
  refine T.norm [23,7,5,8,21,22] z<|Sl_ (blk C (.cells [u,i,f,e,d,b,c,.int .i64 g.fseats].toArray 69)::rowR 31 7 i x::rowR 35 9 f w::rowR 164 3 e s::rowR 3 1 d r::rowR 39 6 b p::rowR 3 1 c q::rowR 3 1 E G::blk n (.cells [m].toArray 25)::rowR 3 1 m o::L) z<|Sr<|Vv (V.lt z z)<|Nt<|Sq<|T.cH H z (fun H=>?_) (fun H=>?_)
  ·refine T.skip<|Th<|Sq<|Bl<|Sr ?_
   obtain ⟨c8,aI,H⟩:=bnd H
   have aJ:=RowF.mono VI.mono aC X
   obtain ⟨c9,b7,rfl⟩:=RowF.get aJ aI
   refine Vv (V.ixR elrepair2_25 z z (j:=7) z (RowF.bd aJ aI))<|Vv (V.ldR shrepair2_3 z (j:=7) z b7 z)<|Ag z<|Nt<|Sq<|Sr<|Mv z<|Vv (V.nck z)<|Vv (V.fa fdrepair2_69_1 z)<|Vv (V.fa fdrepair2_28_4 z)<|Vv (V.ldO (k:=5) shrepair2_26 z (j:=0) z z)<|Mv z ?_
   obtain ⟨ch,aK,H⟩:=bnd H
   have aM:=(ar.trans X)
   have aN:=RowF.mono VapiRule.mono an aM
   obtain ⟨cl,b8,rfl⟩:=RowF.get aN aK
   refine Vv (V.ixR elrepair2_26 z z (j:=5) z (RowF.bd aN aK))<|Vv (V.fa fdrepair2_39_0 z)<|Vv (V.ldXk (k:=0) shrepair2_37 z (j:=5) z b8 z)<|Nt<|Bl<|Sq<|Sr<|Vv (V.eq z z)<|Ag z<|Nt<|T.cH H z (fun H=>?_) (fun H=>?_)
   ·exact dead H
   refine Sr<|Vv (V.eq z z)<|Ag z<|Nt<|T.cH H z (fun H=>?_) (fun H=>?_)
   ·exact dead H
   refine Rg<|Vv (V.eq z z)<|Ag z<|Nt<|T.cH H z (fun H=>?_) (fun H=>?_)
   ·exact dead H
   refine T.skip<|Bn<|Th<|Sq<|Fr_ 6 z<|T.fl ?_
   refine Fr_ 1 z<|T.fl ?_
   refine T.drawF (t:=(.v 0 (.v 1 (.v 2 (.v 3 (.v 4 (.v 5 (.v 6 (.v 7 (.v 8 (.alt 9 (.alt 10 .done .no) .no))))))))))) 12 2 2 rfl rfl repair2mixed (by kernel_rfl) ?_
   refine Tm z z<|Tv z (V.nck z)<|Tv z (V.fa fdrepair2_69_0 z)<|Tv z (Val.XA fun _ _ _=>V.ldO (k:=0) shrepair2_67 z (j:=0) z z)<|Tm z z<|Tv z (V.nck z)<|Tv z (V.fa fdrepair2_69_2 z)<|Tv z (Val.XA fun _ _ _=>V.ldO (k:=6) shrepair2_25 z (j:=0) z z)<|Tm z z<|Fr_ 1 z<|T.fl ?_
   obtain ⟨b9,bh,H⟩:=bnd H
   refine Tp z z (SX.two (XA.fr [0,1] Lr z) (XA.fr [0,1] Lr z)) (O.callS z (FnS.lendG (R:=fun v h' L'=>∃ (a:List (List Value)),L' = rowR 3 1 v a::blk C (.cells [u,i,f,e,d,b,c,.int .i64 g.fseats].toArray 69)::rowR 31 7 i x::rowR 35 9 f w::rowR 164 3 e s::rowR 3 1 d r::rowR 39 6 b p::rowR 3 1 E G::blk n (.cells [m].toArray 25)::rowR 3 1 m o::L∧RowF (VI .i64) h' a b9) Tryz.func68 z (fun _ _ _ _ ⟨e_0,l_,f_0⟩=>⟨e_0,l_,(RowF.free VI.free f_0)⟩) lendR fun cv bl bv=>?_) z fun Z cz da J bz=>?_) T.tno
   ·have aO:=(aM.trans bl)
    have ca:=RowF.mono VI.mono ao aO
    have cb:=RowF.slc bv ca
    have cc:=Pt.mono VruleJudge.mono am aO
    exact Judge_Blame_ok cc cb bh _
   obtain ⟨_,rfl,⟨P,rfl,aP⟩⟩:=bz
   refine Sl_ (rowR 3 1 c q::rowR 3 1 Z P::blk C (.cells [u,i,f,e,d,b,c,.int .i64 g.fseats].toArray 69)::rowR 31 7 i x::rowR 35 9 f w::rowR 164 3 e s::rowR 3 1 d r::rowR 39 6 b p::rowR 3 1 E G::blk n (.cells [m].toArray 25)::rowR 3 1 m o::L) z<|Ts z z (SX.two (XA.fr [0,2] J z) (XA.fr [0,2] J z)) (V.asg z) z ?_ T.tno
   refine T.tnil (SX.two (XA.fr [0,2] J z) (XA.fr [0,2] J z))<|Th<|Sr<|Mv z<|Vv (V.mkf z z)<|Fr_ 10 z<|T.fl ?_
   refine Fr_ 10 z<|T.fl ?_
   refine Fr_ 3 z<|T.fl ?_
   obtain ⟨aa,cd,H⟩:=bnd H
   refine To (O.callS z (FnS.lend (val:=.bool aa) Tryz.func69 z lendR fun db aS ce=>FnS.lend (val:=.bool aa) Tryz.func69 z lendB fun dc aU cf=>FnS.lend (val:=.bool aa) Tryz.func69 z lendR fun cg ab ci=>?_) z fun dd cj de ac ck=>?_)
   ·have cm:=RowF.mono VI.mono aP aS
    have cn:=RowF.slc ce cm
    have co:=(((J.trans aS).trans aU).trans ab)
    have cp:=RowF.mono VI.mono aE co
    have cq:=RowF.slc ci cp
    have cr:=(aU.trans ab)
    have cs:=Slc.mono VI.mono cn cr
    have ct:=cf.mono ab
    exact sl_ContainsFuncInt_ok cs (show CF130 cg (.func (.func 70) #[] #[.pointer (some ⟨n,0,none⟩)]) (fun cu=>repair_AtLeast_1 cu A) from ⟨⟨z,z⟩,.inr ⟨70,[],[.pointer (some ⟨n,0,none⟩)],z,fun cw aV df dg cx cy=>repair_AtLeast_1_ok (ct.mono aV) (show (VSl (VI .i64) 1) cw [m] A from ⟨m,z,(Slc.mono VI.mono cq aV)⟩) cx cy⟩⟩) cd _
   obtain ⟨rfl,cA⟩:=ck
   refine Sl_ _ cA<|Vv (V.not z)<|Nt<|T.cH H z (fun H=>?_) (fun H=>?_)
   ·refine Sq<|T.norm [5,7,8,11,21,22,23] z<|Sl_ (rowR 3 1 Z P::blk n (.cells [m].toArray 25)::rowR 3 1 m o::rowR 3 1 c q::blk C (.cells [u,i,f,e,d,b,c,.int .i64 g.fseats].toArray 69)::rowR 31 7 i x::rowR 35 9 f w::rowR 164 3 e s::rowR 3 1 d r::rowR 39 6 b p::rowR 3 1 E G::L) z<|Rg<|Vv (V.ldO0 shrepair2_25 z (j:=1) z z)<|Mv z<|have ad:=RowF.mono VI.mono aP ac; T.wide 0 z fun cB=>?_
    obtain ⟨aW,aX,H⟩:=bnd H
    have cC:=(J.trans ac)
    have aY:=RowF.mono VI.mono aE cC
    refine To (O.apX elrepair2_25 elrepair2_25 zerepair2_3 rfl rfl rfl (j:=2) rfl (Src.row (j:=0) rfl) cB (RowF.ones VI.plain ad) aY ad aX rfl fun ae di dj=>have cD:RowF (VI .i64) cj (o ++ P) aW:=RowF.ap aY ad aX; Sl_ (rowR 3 1 ae (o ++ P)::rowR 3 1 Z P::blk n (.cells [m].toArray 25)::rowR 3 1 c q::blk C (.cells [u,i,f,e,d,b,c,.int .i64 g.fseats].toArray 69)::rowR 31 7 i x::rowR 35 9 f w::rowR 164 3 e s::rowR 3 1 d r::rowR 39 6 b p::rowR 3 1 E G::L) rfl<|T.rowOne 0 rfl fun cE cG=>To (O.stF (vs:=[ae]) shrepair2_25 rfl rfl (j:=2) rfl cG (by (simp only [Sl.ones,cE,Bool.and_true,Bool.true_and]) <;> rfl) rfl ?_))
    refine T.fl ?_
    refine Nt<|Rg<|Mv z ?_
    obtain ⟨cI,cJ,H⟩:=bnd H
    refine Vv (V.addS z z cJ)<|Ag z<|Ni<|Bn<|Th<|Rg ?_
    obtain ⟨cK,cM,H⟩:=bnd H
    refine Vv (V.addS z z cM)<|Mv z<|Nt<|Fr_ 2 z<|T.fl ?_
    refine T.drop<|Fr_ 1 z<|T.fl ?_
    refine Fr_ 1 z<|T.fl ?_
    refine Fr_ 9 z<|T.fl ?_
    refine Fr_ 3 z<|T.fl ?_
    refine Fr_ 9 z<|T.fl ?_
    refine Fr_ 9 z<|T.fl ?_
    refine Fr_ 9 z<|T.fl ?_
    refine Fr_ 9 z<|T.fl ?_
    refine Fr_ 9 z<|T.fl ?_
    refine Fr_ 9 z<|T.fl ?_
    have cN:=((X.trans J).trans ac)
    exact T.again (b6,aW,cK,cI,ae,(o ++ P)) cN (Nat.lt_succ_self _) ⟨(iterK_in H aG),cD⟩ (AllIn.app ⟨z,z,trivial⟩ ⟨z,z,z,z,trivial⟩) z
   exact dead H
  refine T.exit<|Te<|Te<|have H:=iterK_out H aG; Be<|Th<|T.drop<|T.drop<|T.drop<|T.drop<|T.drop<|T.drop<|T.drop<|T.drop<|T.drop<|T.drop<|T.met I X H (AllIn.app ⟨z,trivial⟩ trivial) z
 rintro U dk cO cP
 have H:=cutE cP b3
 refine T.norm [7] z<|Sl_ (L) z<|Sr<|Mv z<|Ag z<|Nt<|T.ret ?_
 obtain rfl:=Option.some.inj H
 have cS:=(((B.trans az).trans ar).trans cO)
 exact T.retL Tryz.results24 (Rv z) cS ⟨z,z⟩
theorem law10_awake_ok {h:PH}  {r_0:Bool} (H:law10_awake  = some r_0):∀ L,FnS Tryz.prog 9 [] h (L) (fun v h' L'=>v = .bool r_0∧L' = L):=by
 intro L
 refine FnS.enter Tryz.func9 z Tryz.ntmps9 z<|Sr<|Ag z<|Nt<|Sr<|To (O.bs elrepair2_25 zerepair2_3 z (e:=z) (hk:=z) (xs:=[.const (.int .i64 (0)),.const (.int .i64 (1)),.const (.int .i64 (2))]) (hv:=CO.eq (CO.cons z (CO.cons z (CO.cons z CO.nil)))) (hw:=Wide.of z) (hd:=z) fun ja=>have c6:RowF (VI .i64) h [[.int .i64 (0:Int)],[.int .i64 (1:Int)],[.int .i64 (2:Int)]] ([(0:Int),(1:Int),(2:Int)]:List Int):=(RowF.cons z (RowF.cons z (RowF.cons z RowF.nil))); Ag z<|Nt<|Sr ?_)
 obtain ⟨c7,c8,H⟩:=bnd H
 refine To (O.callS z (law10_trio_ok Slc.nil c8 _) z fun jb jc jd c9 ch=>?_)
 obtain ⟨aN,aO,aP,aS,aU,rfl,cl,cv,cz,da,db,dc⟩:=ch
 refine Sl_ _ cl<|Mv z<|Vv (V.bld (xs:=[(0,.const (.int .u8 (3))),(2,.const (.string ⟨#[97,110,110,97]⟩)),(3,.const (.string ⟨#[98,111,114,105,115]⟩))]) (cs:=[_,_,_,_,_,_,_,_,_,_,_,_,_,_,_,_,_,_,_,_]) blrepair2_41 borepair2_41 z (Fills.cons z z z (Fills.cons z z z (Fills.cons z z z Fills.nil))))<|T.rowFix fun aV A dd=>have aW:=(c9.trans A); have de:=RowF.mono VI.mono c6 aW; have aX:=RowF.slc dd de; have df:=Slc.mono VapiTable.mono cv A; have dg:=Slc.mono VapiGuest.mono cz A; have di:=Slc.mono VapiTie.mono da A; have dj:=Slc.mono VI.mono db A; have dk:=Slc.mono VapiRule.mono dc A; ?_
 obtain ⟨⟨B,je,jf⟩,dm,H⟩:=bnd H
 refine To (O.callS z (repair_Apply_ok (show VapiProblem aV [aN,aO,aP,aS,aU] c7 from ⟨aN,aO,aP,aS,aU,z,df,dg,di,dj,dk⟩) aX (show VapiChange aV [.int .u8 (3:Int),.string (⟨#[]⟩:ByteArray),.string (⟨#[]⟩:ByteArray),.string (⟨#[]⟩:ByteArray),.int .i64 (0:Int),.int .i64 (0:Int),.string (⟨#[]⟩:ByteArray),.bool false,.bool false,.slice none 0 0,.string (⟨#[97,110,110,97]⟩:ByteArray),.string (⟨#[98,111,114,105,115]⟩:ByteArray),.string (⟨#[]⟩:ByteArray),.int .i64 (0:Int),.int .u8 (0:Int),.int .i64 (0:Int),.string (⟨#[]⟩:ByteArray),.string (⟨#[]⟩:ByteArray),.string (⟨#[]⟩:ByteArray),.int .i64 (0:Int)] (apiChange.mk (3:Int) (apiGuest.mk (⟨#[]⟩:ByteArray) (⟨#[]⟩:ByteArray) (⟨#[]⟩:ByteArray) (0:Int) (0:Int) (⟨#[]⟩:ByteArray) false false ([]:List ByteArray)) (⟨#[97,110,110,97]⟩:ByteArray) (⟨#[98,111,114,105,115]⟩:ByteArray) (⟨#[]⟩:ByteArray) (0:Int) (apiRule.mk (0:Int) (0:Int) (⟨#[]⟩:ByteArray) (⟨#[]⟩:ByteArray) (⟨#[]⟩:ByteArray) (0:Int))) from ⟨(.slice none 0 0),z,Slc.nil⟩) dm _) z fun jg ji jj aY dn=>?_)
 obtain ⟨a,b,c,d,f,jk,jm,rfl,dp,aZ,a0,a1,a2,a3,dq⟩:=dn
 refine Sl_ _ dp<|Mv z<|Vv (V.ext rfl rfl)<|Vv (V.ext rfl rfl)<|Vv (V.ext rfl rfl)<|To (O.alloc zerepair2_28 rfl rfl fun jn=>To (O.stF (vs:=[a,b,c,d,f]) shrepair2_28 rfl rfl (j:=0) rfl rfl (by (simp only [Sl.ones,Slc.one aZ,Slc.one a0,Slc.one a1,Slc.one a2,Slc.one a3,Bool.and_true,Bool.true_and]) <;> rfl) rfl ?_))
 refine T.freeze fun jo ap dr=>have ds:=AtC.of dr; Ag z<|Ag z<|Nt<|Sq<|Sr<|Mv z<|Vv (V.ne z z)<|Mv z<|T.bH 30 H z (fun H=>?_) (fun H=>?_)
 ·exact dead H
 refine Mv z<|Mv z<|T.rowFix fun jp ad dt=>have a4:=(ap.trans ad); have du:=RowF.mono VI.mono dq a4; have a5:=RowF.slc dt du; have dw:=((aY.trans ap).trans ad); have a6:=Slc.mono VI.mono aX dw; ?_
 obtain ⟨jq,dx,H⟩:=bnd H
 refine To (O.callS z (kit_SameInts_ok a5 a6 dx _) z fun jr dy js ae dA=>?_)
 obtain ⟨rfl,dB⟩:=dA
 refine Sl_ _ dB<|Vv (V.not z)<|Vv (V.pkF z z)<|Mv z<|T.bH 36 H z (fun H=>?_) (fun H=>?_)
 ·exact dead H
 refine Vv (V.fa fdrepair2_28_4 z)<|have dC:=(ad.trans ae); have a7:=ds.mono dC; Vv (V.ldf (k:=4) shrepair2_26 z a7 z)<|Vv (V.bld (xs:=[(0,.const (.int .u8 (1))),(2,.const (.string ⟨#[97,110,110,97]⟩)),(3,.const (.string ⟨#[98,111,114,105,115]⟩)),(5,.const (.int .i64 (2)))]) (cs:=[_,_,_,_,_,_]) blrepair2_39 borepair2_39 z (Fills.cons z z z (Fills.cons z z z (Fills.cons z z z (Fills.cons z z z Fills.nil)))))<|To (O.bs elrepair2_26 zerepair2_39 z (e:=z) (hk:=z) (xs:=[.tmp 39]) (hv:=CO.eq (CO.cons z CO.nil)) (hw:=Wide.of z) (hd:=z) fun jt=>have dD:RowF VapiRule dy [[.int .u8 (1:Int),.int .i64 (0:Int),.string (⟨#[97,110,110,97]⟩:ByteArray),.string (⟨#[98,111,114,105,115]⟩:ByteArray),.string (⟨#[]⟩:ByteArray),.int .i64 (2:Int)]] ([(apiRule.mk (1:Int) (0:Int) (⟨#[97,110,110,97]⟩:ByteArray) (⟨#[98,111,114,105,115]⟩:ByteArray) (⟨#[]⟩:ByteArray) (2:Int))]:List apiRule):=(RowF.cons z RowF.nil); T.rowFix fun ju I dE=>have dG:=RowF.mono VapiRule.mono dD I; have dI:=RowF.slc dE dG; have a8:=((a4.trans ae).trans I); have a9:=Slc.mono VapiRule.mono a3 a8; ?_)
 obtain ⟨jw,dJ,H⟩:=bnd H
 refine To (O.callS z (kit_SameRules_ok a9 dI dJ _) z fun jx dK jy J dM=>?_)
 obtain ⟨rfl,dN⟩:=dM
 refine Sl_ _ dN<|Vv (V.not z)<|Vv (V.pkF z z)<|Mv z<|T.bH 44 H z (fun H=>?_) (fun H=>?_)
 ·exact dead H
 refine Vv (V.fa fdrepair2_28_2 z)<|have dO:=(I.trans J); have aq:=a7.mono dO; Vv (V.ldf (k:=2) shrepair2_24 z aq z)<|have af:=(a8.trans J); have ar:=Slc.mono VapiTie.mono a1 af; Vv (V.lenS elrepair2_24 z ar)<|Vv (V.ne z z)<|Vv (V.pkF z z)<|Nt<|T.cH H z (fun H=>?_) (fun H=>?_)
 ·exact dead H
 refine T.skip<|Th<|Sq<|T.norm [1,2,3] rfl<|Rg<|Vv (V.ldS rfl aq (by exact shrepair2_28)) ?_
 refine Mv z<|have ah:=Slc.mono VapiTable.mono aZ af; have al:=Slc.mono VapiGuest.mono a0 af; have av:=Slc.mono VI.mono a2 af; have az:=Slc.mono VapiRule.mono a9 J; have ba:=((ae.trans I).trans J); have bb:=Slc.mono VI.mono a5 ba; ?_
 obtain ⟨⟨bc,jA⟩,dP,H⟩:=bnd H
 refine To (O.callS z (repair_Fix_ok (show VapiProblem dK [a,b,c,d,f] B from ⟨a,b,c,d,f,z,ah,al,ar,av,az⟩) bb dP _) z fun jB jC jD au dS=>?_)
 obtain ⟨dU,dV,dW,dX,dY,dZ,rfl,d0,d1,d2,d3,d4,d5,bd⟩:=dS
 refine Sl_ _ d0<|Mv z<|Vv (V.ext rfl rfl)<|Vv (V.ext rfl rfl)<|To (O.alloc zerepair2_47 rfl rfl fun jE=>To (O.stF (vs:=[dU,dV,dW,dX,dY,dZ,.int .i64 bc.fMoved,.int .i64 bc.fCost]) shrepair2_47 rfl rfl (j:=0) rfl rfl (by (simp only [Sl.ones,Slc.one d1,Slc.one d2,Slc.one d3,Slc.one d4,Slc.one d5,Slc.one bd,Bool.and_true,Bool.true_and]) <;> rfl) rfl ?_))
 refine T.freeze fun d6 ag d7=>have d8:=AtC.of d7; Ag z<|Nt<|Sr<|have o:=(au.trans ag); have be:=aq.mono o; Vv (V.ldS rfl be (by exact shrepair2_28)) ?_
 refine Mv z<|have bf:=Slc.mono VapiTable.mono ah o; have bg:=Slc.mono VapiGuest.mono al o; have bi:=Slc.mono VapiTie.mono ar o; have bj:=Slc.mono VI.mono av o; have bk:=Slc.mono VapiRule.mono az o; have bm:=Slc.mono VI.mono bb o; ?_
 obtain ⟨⟨jG,jI⟩,d9,H⟩:=bnd H
 refine To (O.callS z (repair_Prove_ok (show VapiProblem d6 [a,b,c,d,f] B from ⟨a,b,c,d,f,z,bf,bg,bi,bj,bk⟩) bm d9 _) z fun jJ dh jK g dl=>?_)
 obtain ⟨jM,jN,rfl,dv,dz⟩:=dl
 refine Sl_ _ dv<|Mv z<|Vv (V.ext rfl rfl)<|Vv (V.ext rfl rfl)<|Ag z<|Ag z<|Nt<|Sr<|have bn:=be.mono g; Vv (V.ldS rfl bn (by exact shrepair2_28)) ?_
 refine Mv z<|have bo:=Slc.mono VapiTable.mono bf g; have bp:=Slc.mono VapiGuest.mono bg g; have bq:=Slc.mono VapiTie.mono bi g; have br:=Slc.mono VI.mono bj g; have bt:=Slc.mono VapiRule.mono bk g; have bu:=Slc.mono VI.mono bm g; ?_
 obtain ⟨⟨ea,jO⟩,eb,H⟩:=bnd H
 refine To (O.callS z (repair_Keep_ok (show VapiProblem dh [a,b,c,d,f] B from ⟨a,b,c,d,f,z,bo,bp,bq,br,bt⟩) bu eb _) z fun jP jS jU K ec=>?_)
 obtain ⟨aw,ax,ay,aA,aB,rfl,ed,bw,bx,bA,bB,bC⟩:=ec
 refine Sl_ _ ed<|Mv z<|Vv (V.ext rfl rfl)<|Vv (V.ext rfl rfl)<|To (O.alloc zerepair2_28 rfl rfl fun jV=>To (O.stF (vs:=[aw,ax,ay,aA,aB]) shrepair2_28 rfl rfl (j:=0) rfl rfl (by (simp only [Sl.ones,Slc.one bw,Slc.one bx,Slc.one bA,Slc.one bB,Slc.one bC,Bool.and_true,Bool.true_and]) <;> rfl) rfl ?_))
 refine T.freeze fun jW C ee=>have ef:=AtC.of ee; Ag z<|Nt<|Sr<|Vv (V.ldS rfl ef (by exact shrepair2_28)) ?_
 refine Mv z<|T.rowFix fun eg D ei=>have bD:=((K.trans C).trans D); have ej:=RowF.mono VapiStep.mono dz bD; have ek:=RowF.slc ei ej; have M:=(C.trans D); have em:=Slc.mono VapiTable.mono bw M; have en:=Slc.mono VapiGuest.mono bx M; have eo:=Slc.mono VapiTie.mono bA M; have ep:=Slc.mono VI.mono bB M; have er:=Slc.mono VapiRule.mono bC M; ?_
 obtain ⟨⟨jX,jY⟩,es,H⟩:=bnd H
 refine To (O.callS z (search_Verify_ok (show VapiProblem eg [aw,ax,ay,aA,aB] ea from ⟨aw,ax,ay,aA,aB,z,em,en,eo,ep,er⟩) ek es _) z fun jZ et j0 N eu=>?_)
 obtain ⟨rfl,ew⟩:=eu
 refine Sl_ _ ew<|Mv z<|Vv (V.ext rfl rfl)<|Vv (V.ext rfl rfl)<|Ag z<|Ag z<|Nt<|Sq<|T.norm [1,2,3,4,5,7,9,10,11] rfl<|Rg<|have p:=(bD.trans N); have bE:=bn.mono p; Vv (V.ldS rfl bE (by exact shrepair2_28)) ?_
 refine Mv z<|have bG:=Slc.mono VapiTable.mono bo p; have bI:=Slc.mono VapiGuest.mono bp p; have bJ:=Slc.mono VapiTie.mono bq p; have bK:=Slc.mono VI.mono br p; have bM:=Slc.mono VapiRule.mono bt p; have bN:=Slc.mono VI.mono bu p; ?_
 obtain ⟨⟨j1,j2⟩,ex,H⟩:=bnd H
 refine To (O.callS z (repair_Prove_ok (show VapiProblem et [a,b,c,d,f] B from ⟨a,b,c,d,f,z,bG,bI,bJ,bK,bM⟩) bN ex _) z fun j3 ey j4 P eA=>?_)
 obtain ⟨bO,bP,rfl,eB,j5⟩:=eA
 refine Sl_ _ eB<|Mv z<|Vv (V.ext z z)<|Vv (V.ext z z)<|Ag z<|Ag z<|Nt<|Sq<|Sr<|Mv z<|Mv z ?_
 obtain ⟨j6,eC,H⟩:=bnd H
 refine Vv (V.addS z z eC)<|Mv z ?_
 obtain ⟨j7,eD,H⟩:=bnd H
 refine Vv (V.addS z z eD)<|Mv z ?_
 obtain ⟨j8,eE,H⟩:=bnd H
 refine Vv (V.addS z z eE)<|Vv (V.ne z z)<|Mv z<|T.bH 88 H z (fun H=>?_) (fun H=>?_)
 ·exact dead H
 refine Mv z<|Vv (V.ne z z)<|Vv (V.pkF z z)<|Mv z<|T.bH 92 H z (fun H=>?_) (fun H=>?_)
 ·exact dead H
 refine Mv z<|Vv (V.ne z z)<|Vv (V.pkF z z)<|Mv z<|T.bH 96 H z (fun H=>?_) (fun H=>?_)
 ·exact dead H
 refine Vv (V.fa fdrepair2_47_2 z)<|have eG:=(((((g.trans K).trans C).trans D).trans N).trans P); have bS:=d8.mono eG; Vv (V.ldf (k:=6) shrepair2_3 z bS z)<|Vv (V.ne z z)<|Vv (V.pkF z z)<|Mv z<|T.bH 101 H z (fun H=>?_) (fun H=>?_)
 ·exact dead H
 refine Vv (V.fa fdrepair2_47_1 z)<|Vv (V.ldf (k:=5) shrepair2_25 z bS z)<|To (O.bs elrepair2_25 zerepair2_3 z (e:=z) (hk:=z) (xs:=[.const (.int .i64 (0)),.const (.int .i64 (4)),.const (.int .i64 (2))]) (hv:=CO.eq (CO.cons z (CO.cons z (CO.cons z CO.nil)))) (hw:=Wide.of z) (hd:=z) fun j9=>have eI:RowF (VI .i64) ey [[.int .i64 (0:Int)],[.int .i64 (4:Int)],[.int .i64 (2:Int)]] ([(0:Int),(4:Int),(2:Int)]:List Int):=(RowF.cons z (RowF.cons z (RowF.cons z RowF.nil))); T.rowFix fun jh S eJ=>have eK:=RowF.mono VI.mono eI S; have eM:=RowF.slc eJ eK; have eN:=(((((((ag.trans g).trans K).trans C).trans D).trans N).trans P).trans S); have eO:=Slc.mono VI.mono bd eN; ?_)
 obtain ⟨jl,eP,H⟩:=bnd H
 refine To (O.callS z (kit_SameInts_ok eO eM eP _) z fun jv eS jz aC eU=>?_)
 obtain ⟨rfl,eV⟩:=eU
 refine Sl_ _ eV<|Vv (V.not z)<|Vv (V.pkF z z)<|Mv z<|T.bH 108 H z (fun H=>?_) (fun H=>?_)
 ·exact dead H
 have q:=((P.trans S).trans aC)
 have bU:=bE.mono q
 refine Vv (V.ldS rfl bU (by exact shrepair2_28)) ?_
 refine Mv z<|have bV:=Slc.mono VapiTable.mono bG q; have bW:=Slc.mono VapiGuest.mono bI q; have bX:=Slc.mono VapiTie.mono bJ q; have bY:=Slc.mono VI.mono bK q; have bZ:=Slc.mono VapiRule.mono bM q; have b0:=Slc.mono VI.mono bN q; ?_
 obtain ⟨ka,eW,H⟩:=bnd H
 refine To (O.callS z (repair_AtLeast_ok (show VapiProblem eS [a,b,c,d,f] B from ⟨a,b,c,d,f,z,bV,bW,bX,bY,bZ⟩) b0 eW _) z fun kb eX kc i eY=>?_)
 obtain ⟨rfl,eZ⟩:=eY
 refine Sl_ _ eZ<|Vv (V.ne z z)<|Vv (V.pkF z z)<|Mv z<|T.bH 114 H z (fun H=>?_) (fun H=>?_)
 ·exact dead H
 have e0:=bU.mono i
 refine Vv (V.ldS rfl e0 (by exact shrepair2_28)) ?_
 refine Mv z<|have e1:=Slc.mono VapiTable.mono bV i; have e2:=Slc.mono VapiGuest.mono bW i; have e3:=Slc.mono VapiTie.mono bX i; have e4:=Slc.mono VI.mono bY i; have e5:=Slc.mono VapiRule.mono bZ i; have e6:=Slc.mono VI.mono b0 i; ?_
 obtain ⟨kd,e7,H⟩:=bnd H
 refine To (O.callS z (repair_Upset_ok (show VapiProblem eX [a,b,c,d,f] B from ⟨a,b,c,d,f,z,e1,e2,e3,e4,e5⟩) e6 e7 _) z fun ke e8 kf b1 e9=>?_)
 obtain ⟨kg,eh,el⟩:=e9
 refine Sl_ _ eh<|To (O.bs elrepair2_25 zerepair2_3 z (e:=z) (hk:=z) (xs:=[.const (.int .i64 (0))]) (hv:=CO.eq (CO.cons z CO.nil)) (hw:=Wide.of z) (hd:=z) fun ki=>have ev:RowF (VI .i64) e8 [[.int .i64 (0:Int)]] ([(0:Int)]:List Int):=(RowF.cons z RowF.nil); Fr_ 1 z<|T.fl ?_)
 refine T.rowFix fun kj ai ez=>have fb:=RowF.mono VI.mono el ai; have fc:=RowF.slc ez fb; T.rowFix fun kk aj fd=>have fe:=(ai.trans aj); have ff:=RowF.mono VI.mono ev fe; have fg:=RowF.slc fd ff; have fi:=Slc.mono VI.mono fc aj; ?_
 obtain ⟨km,fj,H⟩:=bnd H
 refine To (O.callS z (kit_SameInts_ok fi fg fj _) z fun kn ko kp b2 fk=>?_)
 obtain ⟨rfl,fm⟩:=fk
 refine Sl_ _ fm<|Vv (V.not z)<|Vv (V.pkF z z)<|Nt<|T.cH H z (fun H=>?_) (fun H=>?_)
 ·exact dead H
 refine T.skip<|Th<|Sq<|T.norm [1] z<|Sl_ (rowR 201 2 bO bP::L) z<|Rg ?_
 obtain ⟨fn,fo,H⟩:=bnd H
 refine To (O.callS z (law10_trio_ok Slc.nil fo _) z fun kq b3 kr b4 fp=>?_)
 obtain ⟨b5,b6,b7,b8,b9,rfl,fq,fr,fs,ft,fu,fw⟩:=fp
 refine Sl_ _ fq<|Mv z<|Vv (V.bld (xs:=[(0,.const (.string ⟨#[100,111,114,97]⟩))]) (cs:=[_,_,_,_,_,_,_,_,_]) blrepair2_35 borepair2_35 z (Fills.cons z z z Fills.nil))<|Vv (V.bld (xs:=[(0,.const (.int .u8 (1))),(1,.tmp 125)]) (cs:=[_,_,_,_,_,_,_,_,_,_,_,_,_,_,_,_,_,_,_,_]) blrepair2_41 borepair2_41 z (Fills.cons z z z (Fills.cons z z z Fills.nil)))<|have fx:=((((((((((((((((ba.trans au).trans ag).trans g).trans K).trans C).trans D).trans N).trans P).trans S).trans aC).trans i).trans b1).trans ai).trans aj).trans b2).trans b4); have bh:=Slc.mono VI.mono a6 fx; ?_
 obtain ⟨⟨aD,ks,kt⟩,fy,H⟩:=bnd H
 refine To (O.callS z (repair_Apply_ok (show VapiProblem b3 [b5,b6,b7,b8,b9] fn from ⟨b5,b6,b7,b8,b9,z,fr,fs,ft,fu,fw⟩) bh (show VapiChange b3 [.int .u8 (1:Int),.string (⟨#[100,111,114,97]⟩:ByteArray),.string (⟨#[]⟩:ByteArray),.string (⟨#[]⟩:ByteArray),.int .i64 (0:Int),.int .i64 (0:Int),.string (⟨#[]⟩:ByteArray),.bool false,.bool false,.slice none 0 0,.string (⟨#[]⟩:ByteArray),.string (⟨#[]⟩:ByteArray),.string (⟨#[]⟩:ByteArray),.int .i64 (0:Int),.int .u8 (0:Int),.int .i64 (0:Int),.string (⟨#[]⟩:ByteArray),.string (⟨#[]⟩:ByteArray),.string (⟨#[]⟩:ByteArray),.int .i64 (0:Int)] (apiChange.mk (1:Int) (apiGuest.mk (⟨#[100,111,114,97]⟩:ByteArray) (⟨#[]⟩:ByteArray) (⟨#[]⟩:ByteArray) (0:Int) (0:Int) (⟨#[]⟩:ByteArray) false false ([]:List ByteArray)) (⟨#[]⟩:ByteArray) (⟨#[]⟩:ByteArray) (⟨#[]⟩:ByteArray) (0:Int) (apiRule.mk (0:Int) (0:Int) (⟨#[]⟩:ByteArray) (⟨#[]⟩:ByteArray) (⟨#[]⟩:ByteArray) (0:Int))) from ⟨(.slice none 0 0),z,Slc.nil⟩) fy _) z fun ku kw kx bl fA=>?_)
 obtain ⟨r,s,t,u,w,ky,kA,rfl,fB,bv,bz,ca,cb,cc,fC⟩:=fA
 refine Sl_ _ fB<|Mv z<|Vv (V.ext rfl rfl)<|Vv (V.ext rfl rfl)<|Vv (V.ext rfl rfl)<|To (O.alloc zerepair2_28 rfl rfl fun kB=>To (O.stF (vs:=[r,s,t,u,w]) shrepair2_28 rfl rfl (j:=0) rfl rfl (by (simp only [Sl.ones,Slc.one bv,Slc.one bz,Slc.one ca,Slc.one cb,Slc.one cc,Bool.and_true,Bool.true_and]) <;> rfl) rfl ?_))
 refine T.fl ?_
 refine T.freeze fun kC aE fD=>have cd:=AtC.of fD; Ag z<|Ag z<|Nt<|Sr<|Vv (V.ldS rfl cd (by exact shrepair2_28)) ?_
 refine Mv z<|T.rowFix fun fE ak fG=>have E:=(aE.trans ak); have fI:=RowF.mono VI.mono fC E; have ce:=RowF.slc fG fI; have cf:=Slc.mono VapiTable.mono bv E; have cg:=Slc.mono VapiGuest.mono bz E; have ci:=Slc.mono VapiTie.mono ca E; have cj:=Slc.mono VI.mono cb E; have ck:=Slc.mono VapiRule.mono cc E; ?_
 obtain ⟨⟨cm,kD⟩,fJ,H⟩:=bnd H
 refine To (O.callS z (repair_Fix_ok (show VapiProblem fE [r,s,t,u,w] aD from ⟨r,s,t,u,w,z,cf,cg,ci,cj,ck⟩) ce fJ _) z fun kE kG kI am fK=>?_)
 obtain ⟨fM,fN,fO,fP,fS,fU,rfl,fV,fW,fX,fY,fZ,f0,cn⟩:=fK
 refine Sl_ _ fV<|Mv z<|Vv (V.ext rfl rfl)<|Vv (V.ext rfl rfl)<|To (O.alloc zerepair2_47 rfl rfl fun kJ=>To (O.stF (vs:=[fM,fN,fO,fP,fS,fU,.int .i64 cm.fMoved,.int .i64 cm.fCost]) shrepair2_47 rfl rfl (j:=0) rfl rfl (by (simp only [Sl.ones,Slc.one fW,Slc.one fX,Slc.one fY,Slc.one fZ,Slc.one f0,Slc.one cn,Bool.and_true,Bool.true_and]) <;> rfl) rfl ?_))
 refine T.freeze fun f1 U f2=>have co:=AtC.of f2; Ag z<|Nt<|Sq<|Sr<|Mv z<|Mv z ?_
 obtain ⟨kK,f3,H⟩:=bnd H
 refine Vv (V.addS z z f3)<|Vv (V.ne z z)<|Mv z<|T.bH 141 H z (fun H=>?_) (fun H=>?_)
 ·exact dead H
 refine Vv (V.fa fdrepair2_47_1 z)<|Vv (V.ldf (k:=5) shrepair2_25 z co z)<|To (O.bs elrepair2_25 zerepair2_3 z (e:=z) (hk:=z) (xs:=[.const (.int .i64 (0)),.const (.int .i64 (1)),.const (.int .i64 (2)),.const (.int .i64 (3))]) (hv:=CO.eq (CO.cons z (CO.cons z (CO.cons z (CO.cons z CO.nil))))) (hw:=Wide.of z) (hd:=z) fun kM=>have f4:RowF (VI .i64) f1 [[.int .i64 (0:Int)],[.int .i64 (1:Int)],[.int .i64 (2:Int)],[.int .i64 (3:Int)]] ([(0:Int),(1:Int),(2:Int),(3:Int)]:List Int):=(RowF.cons z (RowF.cons z (RowF.cons z (RowF.cons z RowF.nil)))); T.rowFix fun kN x f5=>have f6:=RowF.mono VI.mono f4 x; have f7:=RowF.slc f5 f6; have f8:=(U.trans x); have f9:=Slc.mono VI.mono cn f8; ?_)
 obtain ⟨kO,fh,H⟩:=bnd H
 refine To (O.callS z (kit_SameInts_ok f9 f7 fh _) z fun kP fv kS W fz=>?_)
 obtain ⟨rfl,ga⟩:=fz
 refine Sl_ _ ga<|Vv (V.not z)<|Vv (V.pkF z z)<|Mv z<|T.bH 148 H z (fun H=>?_) (fun H=>?_)
 ·exact dead H
 refine Vv (V.fa fdrepair2_47_2 z)<|have gb:=(x.trans W); have gc:=co.mono gb; Vv (V.ldf (k:=6) shrepair2_3 z gc z)<|Vv (V.ne z z)<|Vv (V.pkF z z)<|Mv z<|T.bH 153 H z (fun H=>?_) (fun H=>?_)
 ·exact dead H
 have gd:=((((ak.trans am).trans U).trans x).trans W)
 have cp:=cd.mono gd
 refine Vv (V.ldS rfl cp (by exact shrepair2_28)) ?_
 refine Mv z<|have G:=(((am.trans U).trans x).trans W); have cq:=Slc.mono VapiTable.mono cf G; have cr:=Slc.mono VapiGuest.mono cg G; have ct:=Slc.mono VapiTie.mono ci G; have cu:=Slc.mono VI.mono cj G; have cw:=Slc.mono VapiRule.mono ck G; have cx:=Slc.mono VI.mono ce G; ?_
 obtain ⟨kU,ge,H⟩:=bnd H
 refine To (O.callS z (repair_Tries_ok (show VapiProblem fv [r,s,t,u,w] aD from ⟨r,s,t,u,w,z,cq,cr,ct,cu,cw⟩) cx ge _) z fun kV gf kW m gg=>?_)
 obtain ⟨rfl,gi⟩:=gg
 refine Sl_ _ gi<|Vv (V.ne z z)<|Vv (V.pkF z z)<|Mv z<|T.bH 159 H z (fun H=>?_) (fun H=>?_)
 ·exact dead H
 have gj:=cp.mono m
 refine Vv (V.ldS rfl gj (by exact shrepair2_28)) ?_
 refine Mv z<|have gk:=Slc.mono VapiTable.mono cq m; have gm:=Slc.mono VapiGuest.mono cr m; have gn:=Slc.mono VapiTie.mono ct m; have go:=Slc.mono VI.mono cu m; have gp:=Slc.mono VapiRule.mono cw m; have gq:=Slc.mono VI.mono cx m; ?_
 obtain ⟨kX,gr,H⟩:=bnd H
 refine To (O.callS z (repair_Tries_ok (show VapiProblem gf [r,s,t,u,w] aD from ⟨r,s,t,u,w,z,gk,gm,gn,go,gp⟩) gq gr _) z fun kY gs kZ cy gt=>?_)
 obtain ⟨rfl,gu⟩:=gt
 refine Sl_ _ gu<|Vv (V.ne z z)<|Vv (V.pkF z z)<|Nt<|T.cH H z (fun H=>?_) (fun H=>?_)
 ·exact dead H
 refine T.skip<|Th<|Sq<|T.norm [1] z<|Sl_ (rowR 201 2 bO bP::L) z<|Rg<|Vv (V.bld (xs:=[(0,.const (.int .u8 (7))),(2,.const (.string ⟨#[99,97,114,108]⟩)),(4,.const (.string ⟨#[114]⟩))]) (cs:=[_,_,_,_,_,_]) blrepair2_39 borepair2_39 z (Fills.cons z z z (Fills.cons z z z (Fills.cons z z z Fills.nil))))<|To (O.bs elrepair2_26 zerepair2_39 z (e:=z) (hk:=z) (xs:=[.tmp 165]) (hv:=CO.eq (CO.cons z CO.nil)) (hw:=Wide.of z) (hd:=z) fun k0=>have gw:RowF VapiRule gs [[.int .u8 (7:Int),.int .i64 (0:Int),.string (⟨#[99,97,114,108]⟩:ByteArray),.string (⟨#[]⟩:ByteArray),.string (⟨#[114]⟩:ByteArray),.int .i64 (0:Int)]] ([(apiRule.mk (7:Int) (0:Int) (⟨#[99,97,114,108]⟩:ByteArray) (⟨#[]⟩:ByteArray) (⟨#[114]⟩:ByteArray) (0:Int))]:List apiRule):=(RowF.cons z RowF.nil); T.rowFix fun k1 aG gx=>have gy:=RowF.mono VapiRule.mono gw aG; have gA:=RowF.slc gx gy; ?_)
 obtain ⟨cA,gB,H⟩:=bnd H
 refine To (O.callS z (law10_trio_ok gA gB _) z fun k2 k3 k4 cB gC=>?_)
 obtain ⟨X,Y,Z,aa,ab,rfl,gD,cC,cD,cE,cG,cI⟩:=gC
 refine Sl_ _ gD<|To (O.alloc zerepair2_28 rfl rfl fun k5=>To (O.stF (vs:=[X,Y,Z,aa,ab]) shrepair2_28 rfl rfl (j:=0) rfl rfl (by (simp only [Sl.ones,Slc.one cC,Slc.one cD,Slc.one cE,Slc.one cG,Slc.one cI,Bool.and_true,Bool.true_and]) <;> rfl) rfl ?_))
 refine T.freeze fun gE y gG=>have cJ:=AtC.of gG; Nt<|Sr<|Vv (V.ldS rfl cJ (by exact shrepair2_28)) ?_
 refine Mv z<|have cK:=Slc.mono VapiTable.mono cC y; have cM:=Slc.mono VapiGuest.mono cD y; have cN:=Slc.mono VapiTie.mono cE y; have cO:=Slc.mono VI.mono cG y; have cP:=Slc.mono VapiRule.mono cI y; have gI:=(((((((((((bl.trans aE).trans ak).trans am).trans U).trans x).trans W).trans m).trans cy).trans aG).trans cB).trans y); have cS:=Slc.mono VI.mono bh gI; ?_
 obtain ⟨⟨k6,k7⟩,gJ,H⟩:=bnd H
 refine To (O.callS z (repair_Fix_ok (show VapiProblem gE [X,Y,Z,aa,ab] cA from ⟨X,Y,Z,aa,ab,z,cK,cM,cN,cO,cP⟩) cS gJ _) z fun k8 gK k9 n gM=>?_)
 obtain ⟨kh,kl,kv,kz,ma,mb,rfl,gN,mc,md,me,mf,mg,mi⟩:=gM
 refine Sl_ _ gN<|Mv z<|Vv (V.ext rfl rfl)<|Vv (V.ext rfl rfl)<|Ag z<|Nt<|Sr<|have gO:=cJ.mono n; Vv (V.ldS rfl gO (by exact shrepair2_28)) ?_
 refine Mv z<|have gP:=Slc.mono VapiTable.mono cK n; have gS:=Slc.mono VapiGuest.mono cM n; have gU:=Slc.mono VapiTie.mono cN n; have gV:=Slc.mono VI.mono cO n; have gW:=Slc.mono VapiRule.mono cP n; have cU:=Slc.mono VI.mono cS n; ?_
 obtain ⟨⟨cV,mj⟩,gX,H⟩:=bnd H
 refine To (O.callS z (repair_Fix_ok (show VapiProblem gK [X,Y,Z,aa,ab] cA from ⟨X,Y,Z,aa,ab,z,gP,gS,gU,gV,gW⟩) cU gX _) z fun mm mn mo cW gY=>?_)
 obtain ⟨gZ,g0,g1,g2,g3,g4,rfl,g5,g6,g7,g8,g9,gh,cX⟩:=gY
 refine Sl_ _ g5<|Mv z<|Vv (V.ext rfl rfl)<|Vv (V.ext rfl rfl)<|To (O.alloc zerepair2_47 rfl rfl fun mp=>To (O.stF (vs:=[gZ,g0,g1,g2,g3,g4,.int .i64 cV.fMoved,.int .i64 cV.fCost]) shrepair2_47 rfl rfl (j:=0) rfl rfl (by (simp only [Sl.ones,Slc.one g6,Slc.one g7,Slc.one g8,Slc.one g9,Slc.one gh,Slc.one cX,Bool.and_true,Bool.true_and]) <;> rfl) rfl ?_))
 refine T.freeze fun mq aI gl=>have gv:=AtC.of gl; Ag z<|Nt<|Sr ?_
 obtain ⟨gz,ia,H⟩:=bnd H
 refine To (O.callS z (law10_trio_ok Slc.nil ia _) z fun mr ib ms an ic=>?_)
 obtain ⟨cY,cZ,c0,c1,c2,rfl,id,ie,ig,ii,ij,ik⟩:=ic
 refine Sl_ _ id<|Mv z<|have im:=((cW.trans aI).trans an); have io:=Slc.mono VI.mono cU im; ?_
 obtain ⟨⟨c3,mt⟩,ip,H⟩:=bnd H
 refine To (O.callS z (repair_Oust_ok (show VapiProblem ib [cY,cZ,c0,c1,c2] gz from ⟨cY,cZ,c0,c1,c2,z,ie,ig,ii,ij,ik⟩) io ip _) z fun mu mw mx aJ iq=>?_)
 obtain ⟨ir,it,iu,iw,ix,iy,rfl,iA,iB,iC,iD,iE,iG,c4⟩:=iq
 refine Sl_ _ iA<|Mv z<|Vv (V.ext rfl rfl)<|Vv (V.ext rfl rfl)<|To (O.alloc zerepair2_47 rfl rfl fun my=>To (O.stF (vs:=[ir,it,iu,iw,ix,iy,.int .i64 c3.fMoved,.int .i64 c3.fCost]) shrepair2_47 rfl rfl (j:=0) rfl rfl (by (simp only [Sl.ones,Slc.one iB,Slc.one iC,Slc.one iD,Slc.one iE,Slc.one iG,Slc.one c4,Bool.and_true,Bool.true_and]) <;> rfl) rfl ?_))
 refine T.freeze fun iI ao iJ=>have iK:=AtC.of iJ; Ag z<|Nt<|Sr<|Mv z<|Vv (V.eq z z)<|Mv z<|T.bH 188 H z (fun H=>?_) (fun H=>?_)
 ·refine Mv z<|Mv z ?_
  obtain ⟨mA,iM,H⟩:=bnd H
  refine Vv (V.addS z z iM)<|Vv (V.eq z z)<|Vv (V.pkT z z)<|Mv z<|T.bH 194 H z (fun H=>?_) (fun H=>?_)
  ·refine Vv (V.fa fdrepair2_47_2 z)<|have iN:=((an.trans aJ).trans ao); have c5:=gv.mono iN; Vv (V.ldf (k:=6) shrepair2_3 z c5 z)<|Vv (V.eq z z)<|Vv (V.pkT z z)<|Mv z<|T.bH 199 H z (fun H=>?_) (fun H=>?_)
   ·refine Vv (V.fa fdrepair2_47_1 z)<|Vv (V.ldf (k:=5) shrepair2_25 z c5 z)<|To (O.bs elrepair2_25 zerepair2_3 z (e:=z) (hk:=z) (xs:=[.const (.int .i64 (2)),.const (.int .i64 (1)),.const (.int .i64 (0))]) (hv:=CO.eq (CO.cons z (CO.cons z (CO.cons z CO.nil)))) (hw:=Wide.of z) (hd:=z) fun mB=>have iO:RowF (VI .i64) iI [[.int .i64 (2:Int)],[.int .i64 (1:Int)],[.int .i64 (0:Int)]] ([(2:Int),(1:Int),(0:Int)]:List Int):=(RowF.cons z (RowF.cons z (RowF.cons z RowF.nil))); T.rowFix fun mC ac iP=>have iS:=RowF.mono VI.mono iO ac; have iU:=RowF.slc iP iS; have iV:=((((aI.trans an).trans aJ).trans ao).trans ac); have iW:=Slc.mono VI.mono cX iV; ?_)
    obtain ⟨mD,iX,H⟩:=bnd H
    refine To (O.callS z (kit_SameInts_ok iW iU iX _) z fun mE iY mG aK iZ=>?_)
    obtain ⟨rfl,i0⟩:=iZ
    refine Sl_ _ i0<|Vv (V.pkT z z)<|Mv z<|T.bH 205 H z (fun H=>?_) (fun H=>?_)
    ·refine Vv (V.fa fdrepair2_47_1 z)<|have i1:=(ac.trans aK); have i2:=iK.mono i1; Vv (V.ldf (k:=5) shrepair2_25 z i2 z)<|To (O.bs elrepair2_25 zerepair2_3 z (e:=z) (hk:=z) (xs:=[.const (.int .i64 (0)),.const (.int .i64 (3)),.const (.int .i64 (2))]) (hv:=CO.eq (CO.cons z (CO.cons z (CO.cons z CO.nil)))) (hw:=Wide.of z) (hd:=z) fun mI=>have i3:RowF (VI .i64) iY [[.int .i64 (0:Int)],[.int .i64 (3:Int)],[.int .i64 (2:Int)]] ([(0:Int),(3:Int),(2:Int)]:List Int):=(RowF.cons z (RowF.cons z (RowF.cons z RowF.nil))); T.rowFix fun mJ aM i4=>have i5:=RowF.mono VI.mono i3 aM; have i6:=RowF.slc i4 i5; have i7:=(((ao.trans ac).trans aK).trans aM); have i8:=Slc.mono VI.mono c4 i7; ?_)
     obtain ⟨mK,i9,H⟩:=bnd H
     refine To (O.callS z (kit_SameInts_ok i8 i6 i9 _) z fun mM mN mO ih il=>?_)
     obtain ⟨rfl,iv⟩:=il
     refine Sl_ _ iv<|Vv (V.pkT z z)<|Ag z<|Nt<|T.ret<|T.drop ?_
     obtain rfl:=Option.some.inj H
     have iz:=((((((((((((((((((((((((((((((((((((((((((((aW.trans aY).trans ap).trans ad).trans ae).trans I).trans J).trans au).trans ag).trans g).trans K).trans C).trans D).trans N).trans P).trans S).trans aC).trans i).trans b1).trans ai).trans aj).trans b2).trans b4).trans bl).trans aE).trans ak).trans am).trans U).trans x).trans W).trans m).trans cy).trans aG).trans cB).trans y).trans n).trans cW).trans aI).trans an).trans aJ).trans ao).trans ac).trans aK).trans aM).trans ih)
     exact T.retL Tryz.results9 (Rv z) iz ⟨z,z⟩
    exact dead H
   exact dead H
  exact dead H
 exact dead H
theorem law10_RepairSmall_ok {h:PH}  {r_0:Bool} (H:law10_RepairSmall  = some r_0):∀ L,FnS Tryz.prog 3 [] h (L) (fun v h' L'=>v = .bool r_0∧L' = L):=by
 intro L
 refine FnS.enter Tryz.func3 rfl Tryz.ntmps3 rfl<|Sr<|Ag z<|Nt<|Sr<|To (O.alloc zerepair2_28 rfl rfl fun d=>Nt<|Sr<|Vv (V.bld (xs:=[(0,.const (.string ⟨#[97]⟩)),(1,.const (.int .u8 (4))),(2,.const (.int .i64 (24)))]) (cs:=[_,_,_,_,_,_,_]) blrepair2_31 borepair2_31 rfl (Fills.cons rfl rfl rfl (Fills.cons rfl rfl rfl (Fills.cons rfl rfl rfl Fills.nil))))<|Vv (V.bld (xs:=[(0,.const (.string ⟨#[98]⟩)),(1,.const (.int .u8 (4))),(2,.const (.int .i64 (24)))]) (cs:=[_,_,_,_,_,_,_]) blrepair2_31 borepair2_31 rfl (Fills.cons rfl rfl rfl (Fills.cons rfl rfl rfl (Fills.cons rfl rfl rfl Fills.nil))))<|Vv (V.bld (xs:=[(0,.const (.string ⟨#[99]⟩)),(1,.const (.int .u8 (4))),(2,.const (.int .i64 (16)))]) (cs:=[_,_,_,_,_,_,_]) blrepair2_31 borepair2_31 rfl (Fills.cons rfl rfl rfl (Fills.cons rfl rfl rfl (Fills.cons rfl rfl rfl Fills.nil))))<|To (O.bs elrepair2_22 zerepair2_31 rfl (e:=rfl) (hk:=rfl) (xs:=[.tmp 23,.tmp 24,.tmp 25]) (hv:=CO.eq (CO.cons rfl (CO.cons rfl (CO.cons rfl CO.nil)))) (hw:=Wide.of rfl) (hd:=rfl) fun b=>have d0:RowF VapiTable h [[.string (⟨#[97]⟩:ByteArray),.int .u8 (4:Int),.int .i64 (24:Int),.int .i64 (0:Int),.slice none 0 0,.int .i64 (0:Int),.int .i64 (0:Int)],[.string (⟨#[98]⟩:ByteArray),.int .u8 (4:Int),.int .i64 (24:Int),.int .i64 (0:Int),.slice none 0 0,.int .i64 (0:Int),.int .i64 (0:Int)],[.string (⟨#[99]⟩:ByteArray),.int .u8 (4:Int),.int .i64 (16:Int),.int .i64 (0:Int),.slice none 0 0,.int .i64 (0:Int),.int .i64 (0:Int)]] ([(apiTable.mk (⟨#[97]⟩:ByteArray) (4:Int) (24:Int) (0:Int) ([]:List Int) (0:Int) (0:Int)),(apiTable.mk (⟨#[98]⟩:ByteArray) (4:Int) (24:Int) (0:Int) ([]:List Int) (0:Int) (0:Int)),(apiTable.mk (⟨#[99]⟩:ByteArray) (4:Int) (16:Int) (0:Int) ([]:List Int) (0:Int) (0:Int))]:List apiTable):=(RowF.cons ⟨(.slice none 0 0),rfl,Slc.nil⟩ (RowF.cons ⟨(.slice none 0 0),rfl,Slc.nil⟩ (RowF.cons ⟨(.slice none 0 0),rfl,Slc.nil⟩ RowF.nil))); Vv (V.fa fdrepair2_28_0 rfl)<|T.rowOne 0 rfl fun d1 d2=>To (O.st (vs:=[(.slice (some ⟨b,0,none⟩) 3 3)]) (k:=0) shrepair2_22 rfl rfl (j:=1) rfl d2 (by (simp only [Sl.ones,d1,Bool.and_true,Bool.true_and]) <;> rfl) ?_)))
 refine Nt<|Sr<|Ag z<|Nt<|Sq<|Sr<|Ag z<|Nt ?_
 obtain ⟨bx,d3,d4⟩:=bndK H
 refine T.cutK (α:=(List Int)×(List apiGuest)×Value×(List (List Value))×Value×(List (List Value))) [1] z (fun ⟨aa,p,ab,ac,c,ad⟩=>[(2,ab)]) (fun ⟨aa,p,ab,ac,c,ad⟩=>blk d (.cells [(.slice (some ⟨b,0,none⟩) 3 3),c,.slice none 0 0,.slice none 0 0,.slice none 0 0].toArray 28)::rowR 31 7 (.slice (some ⟨b,0,none⟩) 3 3) [[.string (⟨#[97]⟩:ByteArray),.int .u8 (4:Int),.int .i64 (24:Int),.int .i64 (0:Int),.slice none 0 0,.int .i64 (0:Int),.int .i64 (0:Int)],[.string (⟨#[98]⟩:ByteArray),.int .u8 (4:Int),.int .i64 (24:Int),.int .i64 (0:Int),.slice none 0 0,.int .i64 (0:Int),.int .i64 (0:Int)],[.string (⟨#[99]⟩:ByteArray),.int .u8 (4:Int),.int .i64 (16:Int),.int .i64 (0:Int),.slice none 0 0,.int .i64 (0:Int),.int .i64 (0:Int)]]::rowR 3 1 ab ac::rowR 35 9 c ad::L) (fun ⟨aa,p,ab,ac,c,ad⟩ hh=>bx = (aa,p)∧RowF (VI .i64) hh ac aa∧RowF VapiGuest hh ad p) ?_ ?_
 ·have H:=d3
  refine Bl<|T.rowNil 35 9<|have d5:RowF VapiGuest h [] ([]:List apiGuest):=RowF.nil; T.rowNil 3 1<|have d6:RowF (VI .i64) h [] ([]:List Int):=RowF.nil; Fr_ 1 z<|T.fl ?_
  refine Fr_ 3 z<|T.fl ?_
  refine Fr_ 3 z<|T.fl ?_
  refine T.loopK (α:=Nat×(List apiGuest)×(List Int)×Int×Value×(List (List Value))×Value×(List (List Value))) [1] z (fun ⟨ae,N,P,q,x,r,E,s⟩=>[(2,E),(3,.int .i64 q)]) (fun ⟨ae,N,P,q,x,r,E,s⟩=>blk d (.cells [(.slice (some ⟨b,0,none⟩) 3 3),x,.slice none 0 0,.slice none 0 0,.slice none 0 0].toArray 28)::rowR 31 7 (.slice (some ⟨b,0,none⟩) 3 3) [[.string (⟨#[97]⟩:ByteArray),.int .u8 (4:Int),.int .i64 (24:Int),.int .i64 (0:Int),.slice none 0 0,.int .i64 (0:Int),.int .i64 (0:Int)],[.string (⟨#[98]⟩:ByteArray),.int .u8 (4:Int),.int .i64 (24:Int),.int .i64 (0:Int),.slice none 0 0,.int .i64 (0:Int),.int .i64 (0:Int)],[.string (⟨#[99]⟩:ByteArray),.int .u8 (4:Int),.int .i64 (16:Int),.int .i64 (0:Int),.slice none 0 0,.int .i64 (0:Int),.int .i64 (0:Int)]]::rowR 35 9 x r::rowR 3 1 E s::L) (fun ⟨ae,N,P,q,x,r,E,s⟩ hh=>iter law10_RepairSmall_l0 ae (N,P,q) = some bx∧RowF VapiGuest hh r N∧RowF (VI .i64) hh s P) (fun ⟨ae,N,P,q,x,r,E,s⟩=>ae) (FUEL,([]:List apiGuest),([]:List Int),(0:Int),(.slice none 0 0),[],(.slice none 0 0),[]) ⟨z,z,trivial⟩ z ⟨H,d5,d6⟩ ?_
  rintro ⟨ae,N,P,q,x,r,E,s⟩ ao bA ⟨d7,aS,aU⟩
  obtain ⟨d8,j5,rfl,H,bB⟩:=iter_go d7
  refine T.norm [2,3,1] z<|Sl_ (blk d (.cells [(.slice (some ⟨b,0,none⟩) 3 3),x,.slice none 0 0,.slice none 0 0,.slice none 0 0].toArray 28)::rowR 31 7 (.slice (some ⟨b,0,none⟩) 3 3) [[.string (⟨#[97]⟩:ByteArray),.int .u8 (4:Int),.int .i64 (24:Int),.int .i64 (0:Int),.slice none 0 0,.int .i64 (0:Int),.int .i64 (0:Int)],[.string (⟨#[98]⟩:ByteArray),.int .u8 (4:Int),.int .i64 (24:Int),.int .i64 (0:Int),.slice none 0 0,.int .i64 (0:Int),.int .i64 (0:Int)],[.string (⟨#[99]⟩:ByteArray),.int .u8 (4:Int),.int .i64 (16:Int),.int .i64 (0:Int),.slice none 0 0,.int .i64 (0:Int),.int .i64 (0:Int)]]::rowR 35 9 x r::rowR 3 1 E s::L) z<|Sq<|Sr<|Mv z<|Vv (V.lt z z)<|Nt<|T.cH H z (fun H=>?_) (fun H=>?_)
  ·refine T.skip<|Th<|Sq<|Bl<|Sr<|Vv (V.fa fdrepair2_28_1 z)<|Vv (V.ldO (k:=1) shrepair2_23 z (j:=0) z z)<|Ag z<|Nt<|Sr<|Mv z<|Mv z ?_
   obtain ⟨j6,d9,H⟩:=bnd H
   refine Vv (V.quoS z z d9) ?_
   obtain ⟨j7,dh,H⟩:=bnd H
   refine Vv (V.addS z z dh) ?_
   obtain ⟨t,dl,H⟩:=bnd H
   refine Vv (V.convS Tryz.underlying3 Tryz.underlying5 z dl)<|Mv z ?_
   obtain ⟨j8,dv,H⟩:=bnd H
   refine Vv (V.remS z z dv) ?_
   obtain ⟨j9,dz,H⟩:=bnd H
   refine Vv (V.addS z z dz) ?_
   obtain ⟨u,ea,H⟩:=bnd H
   refine Vv (V.convS Tryz.underlying3 Tryz.underlying5 z ea)<|To (O.bs elrepair2_32 zerepair2_5 z (e:=z) (hk:=z) (xs:=[.tmp 38,.tmp 42]) (hv:=CO.eq (CO.cons z (CO.cons z CO.nil))) (hw:=Wide.of z) (hd:=z) fun bC=>have eb:RowF (VI .u8) ao [[.int .u8 t],[.int .u8 u]] ([t,u]:List Int):=(RowF.cons z (RowF.cons z RowF.nil)); Vv (V.strX Tryz.underlying32 Tryz.underlying5 Tryz.underlying9 z (j:=0) z (RowF.cellsI eb))<|Vv (V.bld (xs:=[(0,.tmp 44)]) (cs:=[_,_,_,_,_,_,_,_,_]) blrepair2_35 borepair2_35 z (Fills.cons z z z Fills.nil))<|To (O.bs elrepair2_23 zerepair2_35 z (e:=z) (hk:=z) (xs:=[.tmp 45]) (hv:=CO.eq (CO.cons z CO.nil)) (hw:=Wide.of z) (hd:=z) fun ec=>have aV:RowF VapiGuest ao [[.string (bytesS [t,u]),.string (⟨#[]⟩:ByteArray),.string (⟨#[]⟩:ByteArray),.int .i64 (0:Int),.int .i64 (0:Int),.string (⟨#[]⟩:ByteArray),.bool false,.bool false,.slice none 0 0]] ([(apiGuest.mk (bytesS [t,u]) (⟨#[]⟩:ByteArray) (⟨#[]⟩:ByteArray) (0:Int) (0:Int) (⟨#[]⟩:ByteArray) false false ([]:List ByteArray))]:List apiGuest):=(RowF.cons ⟨(.slice none 0 0),z,Slc.nil⟩ RowF.nil); ?_))
   obtain ⟨bD,bE,H⟩:=bnd H
   refine To (O.apX elrepair2_23 elrepair2_23 zerepair2_35 z z z (j:=4) z (Src.row (j:=0) z) (Wide.of z) (RowF.ones VapiGuest.plain aV) aS aV bE z fun aq jh jl=>have ed:RowF VapiGuest ao (r ++ [[.string (bytesS [t,u]),.string (⟨#[]⟩:ByteArray),.string (⟨#[]⟩:ByteArray),.int .i64 (0:Int),.int .i64 (0:Int),.string (⟨#[]⟩:ByteArray),.bool false,.bool false,.slice none 0 0]]) bD:=RowF.ap aS aV bE; Sl_ (rowR 35 9 aq (r ++ [[.string (bytesS [t,u]),.string (⟨#[]⟩:ByteArray),.string (⟨#[]⟩:ByteArray),.int .i64 (0:Int),.int .i64 (0:Int),.string (⟨#[]⟩:ByteArray),.bool false,.bool false,.slice none 0 0]])::rowR 35 9 (.slice (some ⟨ec,0,none⟩) 1 1) [[.string (bytesS [t,u]),.string (⟨#[]⟩:ByteArray),.string (⟨#[]⟩:ByteArray),.int .i64 (0:Int),.int .i64 (0:Int),.string (⟨#[]⟩:ByteArray),.bool false,.bool false,.slice none 0 0]]::rowR 5 1 (.slice (some ⟨bC,0,none⟩) 2 2) [[.int .u8 t],[.int .u8 u]]::blk d (.cells [(.slice (some ⟨b,0,none⟩) 3 3),x,.slice none 0 0,.slice none 0 0,.slice none 0 0].toArray 28)::rowR 31 7 (.slice (some ⟨b,0,none⟩) 3 3) [[.string (⟨#[97]⟩:ByteArray),.int .u8 (4:Int),.int .i64 (24:Int),.int .i64 (0:Int),.slice none 0 0,.int .i64 (0:Int),.int .i64 (0:Int)],[.string (⟨#[98]⟩:ByteArray),.int .u8 (4:Int),.int .i64 (24:Int),.int .i64 (0:Int),.slice none 0 0,.int .i64 (0:Int),.int .i64 (0:Int)],[.string (⟨#[99]⟩:ByteArray),.int .u8 (4:Int),.int .i64 (16:Int),.int .i64 (0:Int),.slice none 0 0,.int .i64 (0:Int),.int .i64 (0:Int)]]::rowR 3 1 E s::L) z<|Fr_ 1 z<|T.fl ?_)
   refine T.drop<|Vv (V.fa fdrepair2_28_1 rfl)<|T.rowOne 0 rfl fun ee ef=>To (O.st (vs:=[aq]) (k:=1) shrepair2_23 rfl rfl (j:=2) rfl ef (by (simp only [Sl.ones,ee,Bool.and_true,Bool.true_and]) <;> rfl) ?_)
   refine T.fl ?_
   refine Nt<|Rg<|Mv z<|Mv z<|To (O.bs elrepair2_25 zerepair2_3 z (e:=z) (hk:=z) (xs:=[.tmp 50]) (hv:=CO.eq (CO.cons z CO.nil)) (hw:=Wide.of z) (hd:=z) fun eg=>have aW:RowF (VI .i64) ao [[.int .i64 q]] ([q]:List Int):=(RowF.cons z RowF.nil); ?_)
   obtain ⟨bG,bI,H⟩:=bnd H
   refine To (O.apX elrepair2_25 elrepair2_25 zerepair2_3 z z z (j:=5) z (Src.row (j:=0) z) (Wide.of z) (RowF.ones VI.plain aW) aU aW bI z fun bJ jv jz=>have ei:RowF (VI .i64) ao (s ++ [[.int .i64 q]]) bG:=RowF.ap aU aW bI; Sl_ (rowR 3 1 bJ (s ++ [[.int .i64 q]])::rowR 3 1 (.slice (some ⟨eg,0,none⟩) 1 1) [[.int .i64 q]]::blk d (.cells [(.slice (some ⟨b,0,none⟩) 3 3),aq,.slice none 0 0,.slice none 0 0,.slice none 0 0].toArray 28)::rowR 35 9 aq (r ++ [[.string (bytesS [t,u]),.string (⟨#[]⟩:ByteArray),.string (⟨#[]⟩:ByteArray),.int .i64 (0:Int),.int .i64 (0:Int),.string (⟨#[]⟩:ByteArray),.bool false,.bool false,.slice none 0 0]])::rowR 5 1 (.slice (some ⟨bC,0,none⟩) 2 2) [[.int .u8 t],[.int .u8 u]]::rowR 31 7 (.slice (some ⟨b,0,none⟩) 3 3) [[.string (⟨#[97]⟩:ByteArray),.int .u8 (4:Int),.int .i64 (24:Int),.int .i64 (0:Int),.slice none 0 0,.int .i64 (0:Int),.int .i64 (0:Int)],[.string (⟨#[98]⟩:ByteArray),.int .u8 (4:Int),.int .i64 (24:Int),.int .i64 (0:Int),.slice none 0 0,.int .i64 (0:Int),.int .i64 (0:Int)],[.string (⟨#[99]⟩:ByteArray),.int .u8 (4:Int),.int .i64 (16:Int),.int .i64 (0:Int),.slice none 0 0,.int .i64 (0:Int),.int .i64 (0:Int)]]::L) z<|Fr_ 1 z<|T.fl ?_)
   refine T.drop<|Ag z<|Ni<|Bn<|Th<|Rg<|Mv z ?_
   obtain ⟨ej,ek,H⟩:=bnd H
   refine Vv (V.addS z z ek)<|Ag z<|Nt<|Fr_ 3 z<|T.fl ?_
   refine T.drop<|Fr_ 2 z<|T.fl ?_
   refine Fr_ 3 z<|T.fl ?_
   refine Fr_ 3 z<|T.fl ?_
   exact T.again (d8,bD,bG,ej,aq,(r ++ [[.string (bytesS [t,u]),.string (⟨#[]⟩:ByteArray),.string (⟨#[]⟩:ByteArray),.int .i64 (0:Int),.int .i64 (0:Int),.string (⟨#[]⟩:ByteArray),.bool false,.bool false,.slice none 0 0]]),bJ,(s ++ [[.int .i64 q]])) bA (Nat.lt_succ_self _) ⟨(iterK_in H bB),ed,ei⟩ (AllIn.app ⟨z,z,trivial⟩ ⟨z,trivial⟩) z
  refine T.exit<|Te<|Te<|have H:=iterK_out H bB; Be<|Th<|Fr_ 2 z<|T.fl ?_
  refine Fr_ 3 z<|T.fl ?_
  refine Fr_ 3 z<|T.fl ?_
  refine Fr_ 3 z<|T.fl ?_
  exact T.met (P,N,E,s,x,r) bA ⟨H,aU,aS⟩ (AllIn.app ⟨z,trivial⟩ ⟨z,trivial⟩) z
 rintro ⟨aa,p,ab,ac,c,ad⟩ ka em ⟨en,eo,ep⟩
 have H:=cutE en d4
 refine T.norm [2,1] z<|Sl_ (blk d (.cells [(.slice (some ⟨b,0,none⟩) 3 3),c,.slice none 0 0,.slice none 0 0,.slice none 0 0].toArray 28)::rowR 31 7 (.slice (some ⟨b,0,none⟩) 3 3) [[.string (⟨#[97]⟩:ByteArray),.int .u8 (4:Int),.int .i64 (24:Int),.int .i64 (0:Int),.slice none 0 0,.int .i64 (0:Int),.int .i64 (0:Int)],[.string (⟨#[98]⟩:ByteArray),.int .u8 (4:Int),.int .i64 (24:Int),.int .i64 (0:Int),.slice none 0 0,.int .i64 (0:Int),.int .i64 (0:Int)],[.string (⟨#[99]⟩:ByteArray),.int .u8 (4:Int),.int .i64 (16:Int),.int .i64 (0:Int),.slice none 0 0,.int .i64 (0:Int),.int .i64 (0:Int)]]::rowR 3 1 ab ac::rowR 35 9 c ad::L) z<|Sr<|Vv (V.bld (xs:=[(0,.const (.string ⟨#[122,122]⟩))]) (cs:=[_,_,_,_,_,_,_,_,_]) blrepair2_35 borepair2_35 z (Fills.cons z z z Fills.nil))<|Vv (V.bld (xs:=[(0,.const (.int .u8 (1))),(1,.tmp 53)]) (cs:=[_,_,_,_,_,_,_,_,_,_,_,_,_,_,_,_,_,_,_,_]) blrepair2_41 borepair2_41 z (Fills.cons z z z (Fills.cons z z z Fills.nil)))<|To (O.alloc zerepair2_41 z z fun aX=>To (O.stF (vs:=[.int .u8 (1:Int),.string (⟨#[122,122]⟩:ByteArray),.string (⟨#[]⟩:ByteArray),.string (⟨#[]⟩:ByteArray),.int .i64 (0:Int),.int .i64 (0:Int),.string (⟨#[]⟩:ByteArray),.bool false,.bool false,.slice none 0 0,.string (⟨#[]⟩:ByteArray),.string (⟨#[]⟩:ByteArray),.string (⟨#[]⟩:ByteArray),.int .i64 (0:Int),.int .u8 (0:Int),.int .i64 (0:Int),.string (⟨#[]⟩:ByteArray),.string (⟨#[]⟩:ByteArray),.string (⟨#[]⟩:ByteArray),.int .i64 (0:Int)]) shrepair2_41 z z (j:=0) z z z z<|T.fl ?_))
 refine Nt<|Sr<|Vv (V.ldOS (j:=1) (by exact shrepair2_28) rfl rfl) ?_
 refine Mv z<|Vv (V.ldOS (j:=0) (by exact shrepair2_41) rfl rfl) ?_
 refine Fr_ 2 z<|T.fl ?_
 refine T.rowFix fun kb bK er=>have bM:=(em.trans bK); have es:=RowF.mono VapiTable.mono d0 bM; have et:=RowF.slc er es; Fr_ 3 z<|T.fl ?_
 refine T.rowFix fun kc aY eu=>have bN:=(bK.trans aY); have ew:=RowF.mono VapiGuest.mono ep bN; have ex:=RowF.slc eu ew; Fr_ 2 z<|T.fl ?_
 refine T.rowFix fun bO aC ey=>have eA:=(bN.trans aC); have eB:=RowF.mono VI.mono eo eA; have aZ:=RowF.slc ey eB; have eC:=(aY.trans aC); have bP:=Slc.mono VapiTable.mono et eC; have bS:=Slc.mono VapiGuest.mono ex aC; ?_
 obtain ⟨⟨I,kd,ke⟩,eD,H⟩:=bnd H
 refine To (O.callS z (repair_Apply_ok (show VapiProblem bO [(.slice (some ⟨b,0,none⟩) 3 3),c,.slice none 0 0,.slice none 0 0,.slice none 0 0] (apiProblem.mk [(apiTable.mk (⟨#[97]⟩:ByteArray) (4:Int) (24:Int) (0:Int) ([]:List Int) (0:Int) (0:Int)),(apiTable.mk (⟨#[98]⟩:ByteArray) (4:Int) (24:Int) (0:Int) ([]:List Int) (0:Int) (0:Int)),(apiTable.mk (⟨#[99]⟩:ByteArray) (4:Int) (16:Int) (0:Int) ([]:List Int) (0:Int) (0:Int))] p ([]:List apiTie) ([]:List Int) ([]:List apiRule)) from ⟨(.slice (some ⟨b,0,none⟩) 3 3),c,(.slice none 0 0),(.slice none 0 0),(.slice none 0 0),z,bP,bS,Slc.nil,Slc.nil,Slc.nil⟩) aZ (show VapiChange bO [.int .u8 (1:Int),.string (⟨#[122,122]⟩:ByteArray),.string (⟨#[]⟩:ByteArray),.string (⟨#[]⟩:ByteArray),.int .i64 (0:Int),.int .i64 (0:Int),.string (⟨#[]⟩:ByteArray),.bool false,.bool false,.slice none 0 0,.string (⟨#[]⟩:ByteArray),.string (⟨#[]⟩:ByteArray),.string (⟨#[]⟩:ByteArray),.int .i64 (0:Int),.int .u8 (0:Int),.int .i64 (0:Int),.string (⟨#[]⟩:ByteArray),.string (⟨#[]⟩:ByteArray),.string (⟨#[]⟩:ByteArray),.int .i64 (0:Int)] (apiChange.mk (1:Int) (apiGuest.mk (⟨#[122,122]⟩:ByteArray) (⟨#[]⟩:ByteArray) (⟨#[]⟩:ByteArray) (0:Int) (0:Int) (⟨#[]⟩:ByteArray) false false ([]:List ByteArray)) (⟨#[]⟩:ByteArray) (⟨#[]⟩:ByteArray) (⟨#[]⟩:ByteArray) (0:Int) (apiRule.mk (0:Int) (0:Int) (⟨#[]⟩:ByteArray) (⟨#[]⟩:ByteArray) (⟨#[]⟩:ByteArray) (0:Int))) from ⟨(.slice none 0 0),z,Slc.nil⟩) eD _) z fun kf kg ki bU eE=>?_)
 obtain ⟨g,i,m,n,o,eG,eI,rfl,eJ,bV,bW,bX,bY,bZ,eK⟩:=eE
 refine Sl_ _ eJ<|Mv z<|Vv (V.ext rfl rfl)<|Vv (V.ext rfl rfl)<|Vv (V.ext rfl rfl)<|To (O.alloc zerepair2_28 rfl rfl fun kj=>To (O.stF (vs:=[g,i,m,n,o]) shrepair2_28 rfl rfl (j:=0) rfl rfl (by (simp only [Sl.ones,Slc.one bV,Slc.one bW,Slc.one bX,Slc.one bY,Slc.one bZ,Bool.and_true,Bool.true_and]) <;> rfl) rfl ?_))
 refine T.fl ?_
 refine T.freeze fun kk ar eM=>have a0:=AtC.of eM; Ag z<|Ag z<|Nt<|Sq<|Sr<|Mv z<|Vv (V.ne z z)<|Mv z<|T.bH 65 H z (fun H=>?_) (fun H=>?_)
 ·exact dead H
 refine Vv (V.fa fdrepair2_28_1 z)<|Vv (V.ldf (k:=1) shrepair2_23 z a0 z)<|have b0:=Slc.mono VapiGuest.mono bW ar; Vv (V.lenS elrepair2_23 z b0)<|Vv (V.ne z z)<|Vv (V.pkF z z)<|Mv z<|T.bH 71 H z (fun H=>?_) (fun H=>?_)
 ·exact dead H
 refine Mv z ?_
 obtain ⟨km,b1,H⟩:=bnd H
 have a1:=RowF.mono VI.mono eK ar
 obtain ⟨kn,eN,rfl⟩:=RowF.get a1 b1
 refine Vv (V.ixR elrepair2_25 z z (j:=0) z (RowF.bd a1 b1))<|Vv (V.ldR shrepair2_3 z (j:=0) z eN z)<|Vv (V.ne z z)<|Vv (V.pkF z z)<|Nt<|T.cH H z (fun H=>?_) (fun H=>?_)
 ·exact dead H
 refine T.skip<|Th<|Sr<|Vv (V.ldOS (j:=1) (by exact shrepair2_41) rfl rfl) ?_
 refine To (O.alloc zerepair2_41 z z fun a2=>To (O.stF (vs:=[.int .u8 (1:Int),.string (⟨#[122,122]⟩:ByteArray),.string (⟨#[]⟩:ByteArray),.string (⟨#[]⟩:ByteArray),.int .i64 (0:Int),.int .i64 (0:Int),.string (⟨#[]⟩:ByteArray),.bool false,.bool false,.slice none 0 0,.string (⟨#[]⟩:ByteArray),.string (⟨#[]⟩:ByteArray),.string (⟨#[]⟩:ByteArray),.int .i64 (0:Int),.int .u8 (0:Int),.int .i64 (0:Int),.string (⟨#[]⟩:ByteArray),.string (⟨#[]⟩:ByteArray),.string (⟨#[]⟩:ByteArray),.int .i64 (0:Int)]) shrepair2_41 z z (j:=0) z z z z<|T.fl ?_))
 refine Nt<|Sq<|T.norm [1,2,5,6,7,9] z<|Sl_ (blk a2 (.cells [.int .u8 (1:Int),.string (⟨#[122,122]⟩:ByteArray),.string (⟨#[]⟩:ByteArray),.string (⟨#[]⟩:ByteArray),.int .i64 (0:Int),.int .i64 (0:Int),.string (⟨#[]⟩:ByteArray),.bool false,.bool false,.slice none 0 0,.string (⟨#[]⟩:ByteArray),.string (⟨#[]⟩:ByteArray),.string (⟨#[]⟩:ByteArray),.int .i64 (0:Int),.int .u8 (0:Int),.int .i64 (0:Int),.string (⟨#[]⟩:ByteArray),.string (⟨#[]⟩:ByteArray),.string (⟨#[]⟩:ByteArray),.int .i64 (0:Int)].toArray 41)::rowR 3 1 eG eI::blk aX (.cells [.int .u8 (1:Int),.string (⟨#[122,122]⟩:ByteArray),.string (⟨#[]⟩:ByteArray),.string (⟨#[]⟩:ByteArray),.int .i64 (0:Int),.int .i64 (0:Int),.string (⟨#[]⟩:ByteArray),.bool false,.bool false,.slice none 0 0,.string (⟨#[]⟩:ByteArray),.string (⟨#[]⟩:ByteArray),.string (⟨#[]⟩:ByteArray),.int .i64 (0:Int),.int .u8 (0:Int),.int .i64 (0:Int),.string (⟨#[]⟩:ByteArray),.string (⟨#[]⟩:ByteArray),.string (⟨#[]⟩:ByteArray),.int .i64 (0:Int)].toArray 41)::blk d (.cells [(.slice (some ⟨b,0,none⟩) 3 3),c,.slice none 0 0,.slice none 0 0,.slice none 0 0].toArray 28)::L) z<|Rg<|Vv (V.fa fdrepair2_41_1 z)<|Vv (V.fa fdrepair2_35_0 z)<|To (O.st (vs:=[.string (⟨#[122,121]⟩:ByteArray)]) (k:=1) shrepair2_9 z z (j:=0) z z z<|T.fl ?_)
 refine Nt<|Sq<|Sr<|Vv (V.ldS rfl a0 (by exact shrepair2_28)) ?_
 refine Mv z<|Vv (V.ldOS (j:=0) (by exact shrepair2_41) rfl rfl) ?_
 refine Fr_ 1 z<|T.fl ?_
 refine T.rowFix fun b2 af eO=>have eP:=RowF.mono VI.mono a1 af; have b3:=RowF.slc eO eP; have aD:=(ar.trans af); have b4:=Slc.mono VapiTable.mono bV aD; have b5:=Slc.mono VapiGuest.mono b0 af; have b6:=Slc.mono VapiTie.mono bX aD; have b7:=Slc.mono VI.mono bY aD; have b8:=Slc.mono VapiRule.mono bZ aD; ?_
 obtain ⟨ko,eS,H⟩:=bnd H
 refine To (O.callS z (repair_Check_ok (show VapiProblem b2 [g,i,m,n,o] I from ⟨g,i,m,n,o,z,b4,b5,b6,b7,b8⟩) b3 (show VapiChange b2 [.int .u8 (1:Int),.string (⟨#[122,121]⟩:ByteArray),.string (⟨#[]⟩:ByteArray),.string (⟨#[]⟩:ByteArray),.int .i64 (0:Int),.int .i64 (0:Int),.string (⟨#[]⟩:ByteArray),.bool false,.bool false,.slice none 0 0,.string (⟨#[]⟩:ByteArray),.string (⟨#[]⟩:ByteArray),.string (⟨#[]⟩:ByteArray),.int .i64 (0:Int),.int .u8 (0:Int),.int .i64 (0:Int),.string (⟨#[]⟩:ByteArray),.string (⟨#[]⟩:ByteArray),.string (⟨#[]⟩:ByteArray),.int .i64 (0:Int)] (apiChange.mk (1:Int) (apiGuest.mk (⟨#[122,121]⟩:ByteArray) (⟨#[]⟩:ByteArray) (⟨#[]⟩:ByteArray) (0:Int) (0:Int) (⟨#[]⟩:ByteArray) false false ([]:List ByteArray)) (⟨#[]⟩:ByteArray) (⟨#[]⟩:ByteArray) (⟨#[]⟩:ByteArray) (0:Int) (apiRule.mk (0:Int) (0:Int) (⟨#[]⟩:ByteArray) (⟨#[]⟩:ByteArray) (⟨#[]⟩:ByteArray) (0:Int))) from ⟨(.slice none 0 0),z,Slc.nil⟩) eS _) z fun kp b9 kq G eU=>?_)
 obtain ⟨rfl,eV⟩:=eU
 refine Sl_ _ eV<|Vv (V.ne z z)<|Mv z<|T.bH 85 H z (fun H=>?_) (fun H=>?_)
 ·exact dead H
 have eW:=(af.trans G)
 have bh:=a0.mono eW
 refine Vv (V.ldS rfl bh (by exact shrepair2_28)) ?_
 refine Mv z<|Vv (V.ldOS (j:=1) (by exact shrepair2_41) rfl rfl) ?_
 have bl:=Slc.mono VapiTable.mono b4 G
 have bv:=Slc.mono VapiGuest.mono b5 G
 have bz:=Slc.mono VapiTie.mono b6 G
 have ca:=Slc.mono VI.mono b7 G
 have cb:=Slc.mono VapiRule.mono b8 G
 have cc:=Slc.mono VI.mono b3 G
 obtain ⟨kr,eX,H⟩:=bnd H
 refine To (O.callS z (repair_Check_ok (show VapiProblem b9 [g,i,m,n,o] I from ⟨g,i,m,n,o,z,bl,bv,bz,ca,cb⟩) cc (show VapiChange b9 [.int .u8 (1:Int),.string (⟨#[122,122]⟩:ByteArray),.string (⟨#[]⟩:ByteArray),.string (⟨#[]⟩:ByteArray),.int .i64 (0:Int),.int .i64 (0:Int),.string (⟨#[]⟩:ByteArray),.bool false,.bool false,.slice none 0 0,.string (⟨#[]⟩:ByteArray),.string (⟨#[]⟩:ByteArray),.string (⟨#[]⟩:ByteArray),.int .i64 (0:Int),.int .u8 (0:Int),.int .i64 (0:Int),.string (⟨#[]⟩:ByteArray),.string (⟨#[]⟩:ByteArray),.string (⟨#[]⟩:ByteArray),.int .i64 (0:Int)] (apiChange.mk (1:Int) (apiGuest.mk (⟨#[122,122]⟩:ByteArray) (⟨#[]⟩:ByteArray) (⟨#[]⟩:ByteArray) (0:Int) (0:Int) (⟨#[]⟩:ByteArray) false false ([]:List ByteArray)) (⟨#[]⟩:ByteArray) (⟨#[]⟩:ByteArray) (⟨#[]⟩:ByteArray) (0:Int) (apiRule.mk (0:Int) (0:Int) (⟨#[]⟩:ByteArray) (⟨#[]⟩:ByteArray) (⟨#[]⟩:ByteArray) (0:Int))) from ⟨(.slice none 0 0),z,Slc.nil⟩) eX _) z fun ks eY kt a3 eZ=>?_)
 obtain ⟨rfl,e0⟩:=eZ
 refine Sl_ _ e0<|Vv (V.ne z z)<|Vv (V.pkF z z)<|Nt<|T.cH H z (fun H=>?_) (fun H=>?_)
 ·exact dead H
 refine T.skip<|Th<|Sr<|Vv (V.ldOS (j:=2) (by exact shrepair2_28) rfl rfl) ?_
 refine To (O.alloc zerepair2_28 rfl rfl fun cd=>have aE:=((((bU.trans ar).trans af).trans G).trans a3); have ce:=Slc.mono VapiTable.mono bP aE; have a4:=Slc.mono VapiGuest.mono bS aE; To (O.stF (vs:=[(.slice (some ⟨b,0,none⟩) 3 3),c,.slice none 0 0,.slice none 0 0,.slice none 0 0]) shrepair2_28 rfl rfl (j:=0) rfl rfl (by (simp only [Sl.ones,Slc.one ce,Slc.one a4,Bool.and_true,Bool.true_and]) <;> rfl) rfl ?_))
 refine T.fl ?_
 refine Nt<|Sr<|Vv (V.bld (xs:=[(0,.const (.string ⟨#[97]⟩)),(1,.const (.int .u8 (4))),(2,.const (.int .i64 (24)))]) (cs:=[_,_,_,_,_,_,_]) blrepair2_31 borepair2_31 rfl (Fills.cons rfl rfl rfl (Fills.cons rfl rfl rfl (Fills.cons rfl rfl rfl Fills.nil))))<|Vv (V.bld (xs:=[(0,.const (.string ⟨#[98]⟩)),(1,.const (.int .u8 (4))),(2,.const (.int .i64 (24)))]) (cs:=[_,_,_,_,_,_,_]) blrepair2_31 borepair2_31 rfl (Fills.cons rfl rfl rfl (Fills.cons rfl rfl rfl (Fills.cons rfl rfl rfl Fills.nil))))<|Vv (V.bld (xs:=[(0,.const (.string ⟨#[99]⟩)),(1,.const (.int .u8 (4))),(2,.const (.int .i64 (15)))]) (cs:=[_,_,_,_,_,_,_]) blrepair2_31 borepair2_31 rfl (Fills.cons rfl rfl rfl (Fills.cons rfl rfl rfl (Fills.cons rfl rfl rfl Fills.nil))))<|To (O.bs elrepair2_22 zerepair2_31 rfl (e:=rfl) (hk:=rfl) (xs:=[.tmp 93,.tmp 94,.tmp 95]) (hv:=CO.eq (CO.cons rfl (CO.cons rfl (CO.cons rfl CO.nil)))) (hw:=Wide.of rfl) (hd:=rfl) fun S=>have e1:RowF VapiTable eY [[.string (⟨#[97]⟩:ByteArray),.int .u8 (4:Int),.int .i64 (24:Int),.int .i64 (0:Int),.slice none 0 0,.int .i64 (0:Int),.int .i64 (0:Int)],[.string (⟨#[98]⟩:ByteArray),.int .u8 (4:Int),.int .i64 (24:Int),.int .i64 (0:Int),.slice none 0 0,.int .i64 (0:Int),.int .i64 (0:Int)],[.string (⟨#[99]⟩:ByteArray),.int .u8 (4:Int),.int .i64 (15:Int),.int .i64 (0:Int),.slice none 0 0,.int .i64 (0:Int),.int .i64 (0:Int)]] ([(apiTable.mk (⟨#[97]⟩:ByteArray) (4:Int) (24:Int) (0:Int) ([]:List Int) (0:Int) (0:Int)),(apiTable.mk (⟨#[98]⟩:ByteArray) (4:Int) (24:Int) (0:Int) ([]:List Int) (0:Int) (0:Int)),(apiTable.mk (⟨#[99]⟩:ByteArray) (4:Int) (15:Int) (0:Int) ([]:List Int) (0:Int) (0:Int))]:List apiTable):=(RowF.cons ⟨(.slice none 0 0),rfl,Slc.nil⟩ (RowF.cons ⟨(.slice none 0 0),rfl,Slc.nil⟩ (RowF.cons ⟨(.slice none 0 0),rfl,Slc.nil⟩ RowF.nil))); Vv (V.fa fdrepair2_28_0 rfl)<|T.rowOne 0 rfl fun e2 e3=>To (O.st (vs:=[(.slice (some ⟨S,0,none⟩) 3 3)]) (k:=0) shrepair2_22 rfl rfl (j:=1) rfl e3 (by (simp only [Sl.ones,e2,Bool.and_true,Bool.true_and]) <;> rfl) ?_))
 refine T.fl ?_
 refine Nt<|Sr<|Vv (V.fa fdrepair2_41_5 z)<|To (O.st (vs:=[.int .i64 (1:Int)]) (k:=13) shrepair2_3 z z (j:=3) z z z<|T.fl ?_)
 refine Nt<|Sq<|Sr<|Vv (V.ldOS (j:=1) (by exact shrepair2_28) rfl rfl) ?_
 refine Mv z<|Vv (V.ldOS (j:=0) (by exact shrepair2_41) rfl rfl) ?_
 refine Fr_ 2 z<|T.fl ?_
 obtain ⟨e4,e5,H⟩:=bnd H
 refine To (O.callS z (FnS.lend (val:=.int .i64 e4) Tryz.func5 z lendR fun cf a5 e6=>?_) z fun ku cg kw au e7=>?_)
 ·have e8:=RowF.mono VapiTable.mono e1 a5
  have e9:=RowF.slc e6 e8
  have eh:=Slc.mono VapiGuest.mono a4 a5
  have el:=(aE.trans a5)
  have ev:=Slc.mono VI.mono aZ el
  exact repair_Check_ok (show VapiProblem cf [(.slice (some ⟨S,0,none⟩) 3 3),c,.slice none 0 0,.slice none 0 0,.slice none 0 0] (apiProblem.mk [(apiTable.mk (⟨#[97]⟩:ByteArray) (4:Int) (24:Int) (0:Int) ([]:List Int) (0:Int) (0:Int)),(apiTable.mk (⟨#[98]⟩:ByteArray) (4:Int) (24:Int) (0:Int) ([]:List Int) (0:Int) (0:Int)),(apiTable.mk (⟨#[99]⟩:ByteArray) (4:Int) (15:Int) (0:Int) ([]:List Int) (0:Int) (0:Int))] p ([]:List apiTie) ([]:List Int) ([]:List apiRule)) from ⟨(.slice (some ⟨S,0,none⟩) 3 3),c,(.slice none 0 0),(.slice none 0 0),(.slice none 0 0),z,e9,eh,Slc.nil,Slc.nil,Slc.nil⟩) ev (show VapiChange cf [.int .u8 (1:Int),.string (⟨#[122,122]⟩:ByteArray),.string (⟨#[]⟩:ByteArray),.string (⟨#[]⟩:ByteArray),.int .i64 (0:Int),.int .i64 (0:Int),.string (⟨#[]⟩:ByteArray),.bool false,.bool false,.slice none 0 0,.string (⟨#[]⟩:ByteArray),.string (⟨#[]⟩:ByteArray),.string (⟨#[]⟩:ByteArray),.int .i64 (1:Int),.int .u8 (0:Int),.int .i64 (0:Int),.string (⟨#[]⟩:ByteArray),.string (⟨#[]⟩:ByteArray),.string (⟨#[]⟩:ByteArray),.int .i64 (0:Int)] (apiChange.mk (1:Int) (apiGuest.mk (⟨#[122,122]⟩:ByteArray) (⟨#[]⟩:ByteArray) (⟨#[]⟩:ByteArray) (0:Int) (0:Int) (⟨#[]⟩:ByteArray) false false ([]:List ByteArray)) (⟨#[]⟩:ByteArray) (⟨#[]⟩:ByteArray) (⟨#[]⟩:ByteArray) (1:Int) (apiRule.mk (0:Int) (0:Int) (⟨#[]⟩:ByteArray) (⟨#[]⟩:ByteArray) (⟨#[]⟩:ByteArray) (0:Int))) from ⟨(.slice none 0 0),z,Slc.nil⟩) e5 _
 obtain ⟨rfl,ez⟩:=e7
 refine Sl_ _ ez<|Vv (V.ne z z)<|Mv z<|T.bH 104 H z (fun H=>?_) (fun H=>?_)
 ·exact dead H
 refine Vv (V.ldOS (j:=4) (by exact shrepair2_28) rfl rfl) ?_
 refine Mv z<|Vv (V.ldOS (j:=1) (by exact shrepair2_41) rfl rfl) ?_
 have a6:=Slc.mono VapiTable.mono ce au
 have a7:=Slc.mono VapiGuest.mono a4 au
 have fb:=(aE.trans au)
 have a8:=Slc.mono VI.mono aZ fb
 obtain ⟨kx,fc,H⟩:=bnd H
 refine To (O.callS z (repair_Check_ok (show VapiProblem cg [(.slice (some ⟨b,0,none⟩) 3 3),c,.slice none 0 0,.slice none 0 0,.slice none 0 0] (apiProblem.mk [(apiTable.mk (⟨#[97]⟩:ByteArray) (4:Int) (24:Int) (0:Int) ([]:List Int) (0:Int) (0:Int)),(apiTable.mk (⟨#[98]⟩:ByteArray) (4:Int) (24:Int) (0:Int) ([]:List Int) (0:Int) (0:Int)),(apiTable.mk (⟨#[99]⟩:ByteArray) (4:Int) (16:Int) (0:Int) ([]:List Int) (0:Int) (0:Int))] p ([]:List apiTie) ([]:List Int) ([]:List apiRule)) from ⟨(.slice (some ⟨b,0,none⟩) 3 3),c,(.slice none 0 0),(.slice none 0 0),(.slice none 0 0),z,a6,a7,Slc.nil,Slc.nil,Slc.nil⟩) a8 (show VapiChange cg [.int .u8 (1:Int),.string (⟨#[122,122]⟩:ByteArray),.string (⟨#[]⟩:ByteArray),.string (⟨#[]⟩:ByteArray),.int .i64 (0:Int),.int .i64 (0:Int),.string (⟨#[]⟩:ByteArray),.bool false,.bool false,.slice none 0 0,.string (⟨#[]⟩:ByteArray),.string (⟨#[]⟩:ByteArray),.string (⟨#[]⟩:ByteArray),.int .i64 (1:Int),.int .u8 (0:Int),.int .i64 (0:Int),.string (⟨#[]⟩:ByteArray),.string (⟨#[]⟩:ByteArray),.string (⟨#[]⟩:ByteArray),.int .i64 (0:Int)] (apiChange.mk (1:Int) (apiGuest.mk (⟨#[122,122]⟩:ByteArray) (⟨#[]⟩:ByteArray) (⟨#[]⟩:ByteArray) (0:Int) (0:Int) (⟨#[]⟩:ByteArray) false false ([]:List ByteArray)) (⟨#[]⟩:ByteArray) (⟨#[]⟩:ByteArray) (⟨#[]⟩:ByteArray) (1:Int) (apiRule.mk (0:Int) (0:Int) (⟨#[]⟩:ByteArray) (⟨#[]⟩:ByteArray) (⟨#[]⟩:ByteArray) (0:Int))) from ⟨(.slice none 0 0),z,Slc.nil⟩) fc _) z fun ky fd kA aG fe=>?_)
 obtain ⟨rfl,ff⟩:=fe
 refine Sl_ _ ff<|Vv (V.ne z z)<|Vv (V.pkF z z)<|Nt<|T.cH H z (fun H=>?_) (fun H=>?_)
 ·exact dead H
 refine T.skip<|Th<|Sq<|T.norm [1,2,6,7] rfl<|Sl_ (rowR 31 7 (.slice (some ⟨S,0,none⟩) 3 3) [[.string (⟨#[97]⟩:ByteArray),.int .u8 (4:Int),.int .i64 (24:Int),.int .i64 (0:Int),.slice none 0 0,.int .i64 (0:Int),.int .i64 (0:Int)],[.string (⟨#[98]⟩:ByteArray),.int .u8 (4:Int),.int .i64 (24:Int),.int .i64 (0:Int),.slice none 0 0,.int .i64 (0:Int),.int .i64 (0:Int)],[.string (⟨#[99]⟩:ByteArray),.int .u8 (4:Int),.int .i64 (15:Int),.int .i64 (0:Int),.slice none 0 0,.int .i64 (0:Int),.int .i64 (0:Int)]]::blk aX (.cells [.int .u8 (1:Int),.string (⟨#[122,122]⟩:ByteArray),.string (⟨#[]⟩:ByteArray),.string (⟨#[]⟩:ByteArray),.int .i64 (0:Int),.int .i64 (0:Int),.string (⟨#[]⟩:ByteArray),.bool false,.bool false,.slice none 0 0,.string (⟨#[]⟩:ByteArray),.string (⟨#[]⟩:ByteArray),.string (⟨#[]⟩:ByteArray),.int .i64 (1:Int),.int .u8 (0:Int),.int .i64 (0:Int),.string (⟨#[]⟩:ByteArray),.string (⟨#[]⟩:ByteArray),.string (⟨#[]⟩:ByteArray),.int .i64 (0:Int)].toArray 41)::blk cd (.cells [(.slice (some ⟨S,0,none⟩) 3 3),c,.slice none 0 0,.slice none 0 0,.slice none 0 0].toArray 28)::blk a2 (.cells [.int .u8 (1:Int),.string (⟨#[122,121]⟩:ByteArray),.string (⟨#[]⟩:ByteArray),.string (⟨#[]⟩:ByteArray),.int .i64 (0:Int),.int .i64 (0:Int),.string (⟨#[]⟩:ByteArray),.bool false,.bool false,.slice none 0 0,.string (⟨#[]⟩:ByteArray),.string (⟨#[]⟩:ByteArray),.string (⟨#[]⟩:ByteArray),.int .i64 (0:Int),.int .u8 (0:Int),.int .i64 (0:Int),.string (⟨#[]⟩:ByteArray),.string (⟨#[]⟩:ByteArray),.string (⟨#[]⟩:ByteArray),.int .i64 (0:Int)].toArray 41)::blk d (.cells [(.slice (some ⟨b,0,none⟩) 3 3),c,.slice none 0 0,.slice none 0 0,.slice none 0 0].toArray 28)::L) rfl<|Rg<|have U:=((a3.trans au).trans aG); have ci:=bh.mono U; Vv (V.ldS rfl ci (by exact shrepair2_28)) ?_
 refine Mv z<|have cj:=Slc.mono VapiTable.mono bl U; have ck:=Slc.mono VapiGuest.mono bv U; have cm:=Slc.mono VapiTie.mono bz U; have cn:=Slc.mono VI.mono ca U; have co:=Slc.mono VapiRule.mono cb U; have cp:=Slc.mono VI.mono cc U; ?_
 obtain ⟨⟨cq,kB⟩,fg,H⟩:=bnd H
 refine To (O.callS z (repair_Fix_ok (show VapiProblem fd [g,i,m,n,o] I from ⟨g,i,m,n,o,z,cj,ck,cm,cn,co⟩) cp fg _) z fun kC kD kE aI fi=>?_)
 obtain ⟨fj,fk,fm,fn,fo,fp,rfl,fq,fr,fs,ft,fu,fw,cr⟩:=fi
 refine Sl_ _ fq<|Mv z<|Vv (V.ext rfl rfl)<|Vv (V.ext rfl rfl)<|To (O.alloc zerepair2_47 rfl rfl fun kG=>To (O.stF (vs:=[fj,fk,fm,fn,fo,fp,.int .i64 cq.fMoved,.int .i64 cq.fCost]) shrepair2_47 rfl rfl (j:=0) rfl rfl (by (simp only [Sl.ones,Slc.one fr,Slc.one fs,Slc.one ft,Slc.one fu,Slc.one fw,Slc.one cr,Bool.and_true,Bool.true_and]) <;> rfl) rfl ?_))
 refine T.fl ?_
 refine T.freeze fun fx aw fy=>have fC:=AtC.of fy; Ag z<|Nt<|Sr<|have W:=(aI.trans aw); have ct:=ci.mono W; Vv (V.ldS rfl ct (by exact shrepair2_28)) ?_
 refine Mv z<|have cu:=Slc.mono VapiTable.mono cj W; have cw:=Slc.mono VapiGuest.mono ck W; have cx:=Slc.mono VapiTie.mono cm W; have cy:=Slc.mono VI.mono cn W; have cA:=Slc.mono VapiRule.mono co W; have cB:=Slc.mono VI.mono cp W; ?_
 obtain ⟨⟨cC,kI⟩,fD,H⟩:=bnd H
 refine To (O.callS z (repair_Fix_ok (show VapiProblem fx [g,i,m,n,o] I from ⟨g,i,m,n,o,z,cu,cw,cx,cy,cA⟩) cB fD _) z fun kJ kK kM ax fE=>?_)
 obtain ⟨fG,fI,fJ,fK,fM,fO,rfl,fP,fS,fU,fV,fW,fX,fY⟩:=fE
 refine Sl_ _ fP<|Mv z<|Vv (V.ext rfl rfl)<|Vv (V.ext rfl rfl)<|To (O.alloc zerepair2_47 rfl rfl fun kN=>To (O.stF (vs:=[fG,fI,fJ,fK,fM,fO,.int .i64 cC.fMoved,.int .i64 cC.fCost]) shrepair2_47 rfl rfl (j:=0) rfl rfl (by (simp only [Sl.ones,Slc.one fS,Slc.one fU,Slc.one fV,Slc.one fW,Slc.one fX,Slc.one fY,Bool.and_true,Bool.true_and]) <;> rfl) rfl ?_))
 refine T.fl ?_
 refine T.freeze fun fZ ay f0=>have kO:=AtC.of f0; Ag z<|Nt<|Sq<|Sr<|Mv z<|Vv (V.ne z z)<|Mv z<|T.bH 125 H z (fun H=>?_) (fun H=>?_)
 ·exact dead H
 refine Vv (V.fa fdrepair2_47_2 z)<|have J:=(ax.trans ay); have cD:=fC.mono J; Vv (V.ldf (k:=6) shrepair2_3 z cD z)<|Vv (V.ne z z)<|Vv (V.pkF z z)<|Mv z<|T.bH 130 H z (fun H=>?_) (fun H=>?_)
 ·exact dead H
 refine Vv (V.fa fdrepair2_47_1 z)<|Vv (V.ldf (k:=5) shrepair2_25 z cD z) ?_
 obtain ⟨kP,cE,H⟩:=bnd H
 have f1:=((aw.trans ax).trans ay)
 have cG:=Slc.mono VI.mono cr f1
 obtain ⟨kS,f2,rfl⟩:=Slc.at cG cE
 refine Vv (V.ix elrepair2_25 z z cG (getI_bd cE))<|Vv (V.ld0 shrepair2_3 z f2 z)<|Vv (V.ne z z)<|Vv (V.pkF z z)<|Mv z<|T.bH 137 H z (fun H=>?_) (fun H=>?_)
 ·exact dead H
 refine Mv z<|Vv (V.ne z z)<|Vv (V.pkF z z)<|Mv z<|T.bH 141 H z (fun H=>?_) (fun H=>?_)
 ·exact dead H
 have cI:=ct.mono J
 refine Vv (V.ldS rfl cI (by exact shrepair2_28)) ?_
 refine Mv z<|have cJ:=Slc.mono VapiTable.mono cu J; have cK:=Slc.mono VapiGuest.mono cw J; have cM:=Slc.mono VapiTie.mono cx J; have cN:=Slc.mono VI.mono cy J; have cO:=Slc.mono VapiRule.mono cA J; have cP:=Slc.mono VI.mono cB J; ?_
 obtain ⟨kU,f3,H⟩:=bnd H
 refine To (O.callS z (repair_Tries_ok (show VapiProblem fZ [g,i,m,n,o] I from ⟨g,i,m,n,o,z,cJ,cK,cM,cN,cO⟩) cP f3 _) z fun kV f4 kW y f5=>?_)
 obtain ⟨rfl,f6⟩:=f5
 refine Sl_ _ f6<|Vv (V.ne z z)<|Vv (V.pkF z z)<|Mv z<|T.bH 147 H z (fun H=>?_) (fun H=>?_)
 ·exact dead H
 have cS:=cI.mono y
 refine Vv (V.ldS rfl cS (by exact shrepair2_28)) ?_
 refine Mv z<|have cU:=Slc.mono VapiTable.mono cJ y; have cV:=Slc.mono VapiGuest.mono cK y; have cW:=Slc.mono VapiTie.mono cM y; have cX:=Slc.mono VI.mono cN y; have cY:=Slc.mono VapiRule.mono cO y; have cZ:=Slc.mono VI.mono cP y; ?_
 obtain ⟨kX,f7,H⟩:=bnd H
 refine To (O.callS z (repair_Tries_ok (show VapiProblem f4 [g,i,m,n,o] I from ⟨g,i,m,n,o,z,cU,cV,cW,cX,cY⟩) cZ f7 _) z fun kY f8 kZ A f9=>?_)
 obtain ⟨rfl,fh⟩:=f9
 refine Sl_ _ fh<|Vv (V.ne z z)<|Vv (V.pkF z z)<|Mv z<|T.bH 153 H z (fun H=>?_) (fun H=>?_)
 ·exact dead H
 have c0:=cS.mono A
 refine Vv (V.ldS rfl c0 (by exact shrepair2_28)) ?_
 refine Mv z<|have c1:=Slc.mono VapiTable.mono cU A; have c2:=Slc.mono VapiGuest.mono cV A; have c3:=Slc.mono VapiTie.mono cW A; have c4:=Slc.mono VI.mono cX A; have c5:=Slc.mono VapiRule.mono cY A; have c6:=Slc.mono VI.mono cZ A; ?_
 obtain ⟨k0,fv,H⟩:=bnd H
 refine To (O.callS z (repair_Tries_ok (show VapiProblem f8 [g,i,m,n,o] I from ⟨g,i,m,n,o,z,c1,c2,c3,c4,c5⟩) c6 fv _) z fun k1 fz k2 B ga=>?_)
 obtain ⟨rfl,gb⟩:=ga
 refine Sl_ _ gb<|Vv (V.ne z z)<|Vv (V.pkF z z)<|Mv z<|T.bH 159 H z (fun H=>?_) (fun H=>?_)
 ·exact dead H
 have gc:=c0.mono B
 refine Vv (V.ldS rfl gc (by exact shrepair2_28)) ?_
 refine Mv z<|have gd:=Slc.mono VapiTable.mono c1 B; have ge:=Slc.mono VapiGuest.mono c2 B; have gf:=Slc.mono VapiTie.mono c3 B; have gg:=Slc.mono VI.mono c4 B; have gi:=Slc.mono VapiRule.mono c5 B; have gj:=Slc.mono VI.mono c6 B; ?_
 obtain ⟨k3,gk,H⟩:=bnd H
 refine To (O.callS z (repair_Tries_ok (show VapiProblem fz [g,i,m,n,o] I from ⟨g,i,m,n,o,z,gd,ge,gf,gg,gi⟩) gj gk _) z fun k4 gm k5 a9 gn=>?_)
 obtain ⟨rfl,go⟩:=gn
 refine Sl_ _ go<|Vv (V.ne z z)<|Vv (V.pkF z z)<|Nt<|T.cH H z (fun H=>?_) (fun H=>?_)
 ·exact dead H
 refine T.skip<|Th<|Sq<|Sq<|T.norm [1,2] z<|Sl_ (rowR 31 7 (.slice (some ⟨S,0,none⟩) 3 3) [[.string (⟨#[97]⟩:ByteArray),.int .u8 (4:Int),.int .i64 (24:Int),.int .i64 (0:Int),.slice none 0 0,.int .i64 (0:Int),.int .i64 (0:Int)],[.string (⟨#[98]⟩:ByteArray),.int .u8 (4:Int),.int .i64 (24:Int),.int .i64 (0:Int),.slice none 0 0,.int .i64 (0:Int),.int .i64 (0:Int)],[.string (⟨#[99]⟩:ByteArray),.int .u8 (4:Int),.int .i64 (15:Int),.int .i64 (0:Int),.slice none 0 0,.int .i64 (0:Int),.int .i64 (0:Int)]]::blk aX (.cells [.int .u8 (1:Int),.string (⟨#[122,122]⟩:ByteArray),.string (⟨#[]⟩:ByteArray),.string (⟨#[]⟩:ByteArray),.int .i64 (0:Int),.int .i64 (0:Int),.string (⟨#[]⟩:ByteArray),.bool false,.bool false,.slice none 0 0,.string (⟨#[]⟩:ByteArray),.string (⟨#[]⟩:ByteArray),.string (⟨#[]⟩:ByteArray),.int .i64 (1:Int),.int .u8 (0:Int),.int .i64 (0:Int),.string (⟨#[]⟩:ByteArray),.string (⟨#[]⟩:ByteArray),.string (⟨#[]⟩:ByteArray),.int .i64 (0:Int)].toArray 41)::blk cd (.cells [(.slice (some ⟨S,0,none⟩) 3 3),c,.slice none 0 0,.slice none 0 0,.slice none 0 0].toArray 28)::blk a2 (.cells [.int .u8 (1:Int),.string (⟨#[122,121]⟩:ByteArray),.string (⟨#[]⟩:ByteArray),.string (⟨#[]⟩:ByteArray),.int .i64 (0:Int),.int .i64 (0:Int),.string (⟨#[]⟩:ByteArray),.bool false,.bool false,.slice none 0 0,.string (⟨#[]⟩:ByteArray),.string (⟨#[]⟩:ByteArray),.string (⟨#[]⟩:ByteArray),.int .i64 (0:Int),.int .u8 (0:Int),.int .i64 (0:Int),.string (⟨#[]⟩:ByteArray),.string (⟨#[]⟩:ByteArray),.string (⟨#[]⟩:ByteArray),.int .i64 (0:Int)].toArray 41)::blk d (.cells [(.slice (some ⟨b,0,none⟩) 3 3),c,.slice none 0 0,.slice none 0 0,.slice none 0 0].toArray 28)::L) z<|Rg<|Ag z<|Nt ?_
 obtain ⟨c7,gp,gq⟩:=bndK H
 refine T.cutK (α:=(List apiRule)×Value×(List (List Value))) [1,2] z (fun ⟨K,f,C⟩=>[]) (fun ⟨K,f,C⟩=>blk d (.cells [(.slice (some ⟨b,0,none⟩) 3 3),c,.slice none 0 0,.slice none 0 0,f].toArray 28)::rowR 39 6 f C::L) (fun ⟨K,f,C⟩ hh=>c7 = K∧RowF VapiRule hh C K) ?_ ?_
 ·have H:=gp
  refine Bl<|T.rowNil 39 6<|have gr:RowF VapiRule gm [] ([]:List apiRule):=RowF.nil; Fr_ 1 z<|T.fl ?_
  refine T.drop<|Fr_ 1 z<|T.fl ?_
  refine T.drop<|Fr_ 1 z<|T.fl ?_
  refine T.drop<|Fr_ 1 z<|T.fl ?_
  refine T.drop<|Fr_ 1 z<|T.loopK (α:=Nat×(List apiRule)×Int×Value×(List (List Value))) [1,2] z (fun ⟨ag,X,ai,D,w⟩=>[(14,.int .i64 ai)]) (fun ⟨ag,X,ai,D,w⟩=>blk d (.cells [(.slice (some ⟨b,0,none⟩) 3 3),c,.slice none 0 0,.slice none 0 0,D].toArray 28)::rowR 39 6 D w::L) (fun ⟨ag,X,ai,D,w⟩ hh=>iter law10_RepairSmall_l1 ag (X,ai) = some c7∧RowF VapiRule hh w X) (fun ⟨ag,X,ai,D,w⟩=>ag) (FUEL,([]:List apiRule),(0:Int),(.slice none 0 0),[]) ⟨z,trivial⟩ z ⟨H,gr⟩ ?_
  rintro ⟨ag,X,ai,D,w⟩ c8 c9 ⟨gs,ah⟩
  obtain ⟨gt,k6,rfl,H,ch⟩:=iter_go gs
  refine T.norm [14,1,2] z<|Sl_ (blk d (.cells [(.slice (some ⟨b,0,none⟩) 3 3),c,.slice none 0 0,.slice none 0 0,D].toArray 28)::rowR 39 6 D w::L) z<|Sq<|Sr<|Mv z<|Vv (V.lt z z)<|Nt<|T.cH H z (fun H=>?_) (fun H=>?_)
  ·refine T.skip<|Th<|Sq<|Bl<|Sr<|Vv (V.fa fdrepair2_28_4 z)<|Vv (V.ldO (k:=4) shrepair2_26 z (j:=0) z z)<|Ag z<|Nt<|Rg<|Mv z<|Mv z ?_
   obtain ⟨aj,gu,H⟩:=bnd H
   refine Vv (V.remS z z gu)<|Vv (V.bld (xs:=[(0,.const (.int .u8 (18))),(1,.tmp 173)]) (cs:=[_,_,_,_,_,_]) blrepair2_39 borepair2_39 z (Fills.cons z z z (Fills.cons z z z Fills.nil)))<|To (O.bs elrepair2_26 zerepair2_39 z (e:=z) (hk:=z) (xs:=[.tmp 174]) (hv:=CO.eq (CO.cons z CO.nil)) (hw:=Wide.of z) (hd:=z) fun gw=>have al:RowF VapiRule c8 [[.int .u8 (18:Int),.int .i64 aj,.string (⟨#[]⟩:ByteArray),.string (⟨#[]⟩:ByteArray),.string (⟨#[]⟩:ByteArray),.int .i64 (0:Int)]] ([(apiRule.mk (18:Int) aj (⟨#[]⟩:ByteArray) (⟨#[]⟩:ByteArray) (⟨#[]⟩:ByteArray) (0:Int))]:List apiRule):=(RowF.cons z RowF.nil); ?_)
   obtain ⟨cl,cv,H⟩:=bnd H
   refine To (O.apX elrepair2_26 elrepair2_26 zerepair2_39 z z z (j:=2) z (Src.row (j:=0) z) (Wide.of z) (RowF.ones VapiRule.plain al) ah al cv z fun av k7 k8=>have gx:RowF VapiRule c8 (w ++ [[.int .u8 (18:Int),.int .i64 aj,.string (⟨#[]⟩:ByteArray),.string (⟨#[]⟩:ByteArray),.string (⟨#[]⟩:ByteArray),.int .i64 (0:Int)]]) cl:=RowF.ap ah al cv; Sl_ (rowR 39 6 av (w ++ [[.int .u8 (18:Int),.int .i64 aj,.string (⟨#[]⟩:ByteArray),.string (⟨#[]⟩:ByteArray),.string (⟨#[]⟩:ByteArray),.int .i64 (0:Int)]])::rowR 39 6 (.slice (some ⟨gw,0,none⟩) 1 1) [[.int .u8 (18:Int),.int .i64 aj,.string (⟨#[]⟩:ByteArray),.string (⟨#[]⟩:ByteArray),.string (⟨#[]⟩:ByteArray),.int .i64 (0:Int)]]::blk d (.cells [(.slice (some ⟨b,0,none⟩) 3 3),c,.slice none 0 0,.slice none 0 0,D].toArray 28)::L) z<|Fr_ 1 z<|T.fl ?_)
   refine T.drop<|Vv (V.fa fdrepair2_28_4 rfl)<|T.rowOne 0 rfl fun gy gA=>To (O.st (vs:=[av]) (k:=4) shrepair2_26 rfl rfl (j:=1) rfl gA (by (simp only [Sl.ones,gy,Bool.and_true,Bool.true_and]) <;> rfl) ?_)
   refine Ni<|Bn<|Th<|Rg<|Mv z ?_
   obtain ⟨gB,gC,H⟩:=bnd H
   refine Vv (V.addS z z gC)<|Ag z<|Nt<|T.again (gt,cl,gB,av,(w ++ [[.int .u8 (18:Int),.int .i64 aj,.string (⟨#[]⟩:ByteArray),.string (⟨#[]⟩:ByteArray),.string (⟨#[]⟩:ByteArray),.int .i64 (0:Int)]])) c9 (Nat.lt_succ_self _) ⟨(iterK_in H ch),gx⟩ (AllIn.app ⟨z,trivial⟩ ⟨z,z,trivial⟩) z
  refine T.exit<|Te<|Te<|have H:=iterK_out H ch; Be<|Th<|T.met (X,D,w) c9 ⟨H,ah⟩ (AllIn.app trivial ⟨z,z,trivial⟩) z
 rintro ⟨K,f,C⟩ gD az ⟨gE,cz⟩
 have H:=cutE gE gq
 refine T.norm [1,2] z<|Sl_ (blk d (.cells [(.slice (some ⟨b,0,none⟩) 3 3),c,.slice none 0 0,.slice none 0 0,f].toArray 28)::rowR 39 6 f C::L) z<|Sq<|Sr<|Vv (V.bld (xs:=[(0,.const (.int .u8 (3))),(2,.const (.string ⟨#[97,97]⟩)),(3,.const (.string ⟨#[97,98]⟩))]) (cs:=[_,_,_,_,_,_,_,_,_,_,_,_,_,_,_,_,_,_,_,_]) blrepair2_41 borepair2_41 z (Fills.cons z z z (Fills.cons z z z (Fills.cons z z z Fills.nil))))<|Vv (V.bld (xs:=[(0,.const (.int .u8 (4))),(4,.const (.string ⟨#[97]⟩))]) (cs:=[_,_,_,_,_,_,_,_,_,_,_,_,_,_,_,_,_,_,_,_]) blrepair2_41 borepair2_41 z (Fills.cons z z z (Fills.cons z z z Fills.nil)))<|Vv (V.bld (xs:=[(0,.const (.int .u8 (18)))]) (cs:=[_,_,_,_,_,_]) blrepair2_39 borepair2_39 z (Fills.cons z z z Fills.nil))<|Vv (V.bld (xs:=[(0,.const (.int .u8 (5))),(6,.tmp 180)]) (cs:=[_,_,_,_,_,_,_,_,_,_,_,_,_,_,_,_,_,_,_,_]) blrepair2_41 borepair2_41 z (Fills.cons z z z (Fills.cons z z z Fills.nil)))<|To (O.bs elrepair2_51 zerepair2_41 z (e:=z) (hk:=z) (xs:=[.tmp 178,.tmp 179,.tmp 181]) (hv:=CO.eq (CO.cons z (CO.cons z (CO.cons z CO.nil)))) (hw:=Wide.of z) (hd:=z) fun da=>have db:RowF VapiChange gD [[.int .u8 (3:Int),.string (⟨#[]⟩:ByteArray),.string (⟨#[]⟩:ByteArray),.string (⟨#[]⟩:ByteArray),.int .i64 (0:Int),.int .i64 (0:Int),.string (⟨#[]⟩:ByteArray),.bool false,.bool false,.slice none 0 0,.string (⟨#[97,97]⟩:ByteArray),.string (⟨#[97,98]⟩:ByteArray),.string (⟨#[]⟩:ByteArray),.int .i64 (0:Int),.int .u8 (0:Int),.int .i64 (0:Int),.string (⟨#[]⟩:ByteArray),.string (⟨#[]⟩:ByteArray),.string (⟨#[]⟩:ByteArray),.int .i64 (0:Int)],[.int .u8 (4:Int),.string (⟨#[]⟩:ByteArray),.string (⟨#[]⟩:ByteArray),.string (⟨#[]⟩:ByteArray),.int .i64 (0:Int),.int .i64 (0:Int),.string (⟨#[]⟩:ByteArray),.bool false,.bool false,.slice none 0 0,.string (⟨#[]⟩:ByteArray),.string (⟨#[]⟩:ByteArray),.string (⟨#[97]⟩:ByteArray),.int .i64 (0:Int),.int .u8 (0:Int),.int .i64 (0:Int),.string (⟨#[]⟩:ByteArray),.string (⟨#[]⟩:ByteArray),.string (⟨#[]⟩:ByteArray),.int .i64 (0:Int)],[.int .u8 (5:Int),.string (⟨#[]⟩:ByteArray),.string (⟨#[]⟩:ByteArray),.string (⟨#[]⟩:ByteArray),.int .i64 (0:Int),.int .i64 (0:Int),.string (⟨#[]⟩:ByteArray),.bool false,.bool false,.slice none 0 0,.string (⟨#[]⟩:ByteArray),.string (⟨#[]⟩:ByteArray),.string (⟨#[]⟩:ByteArray),.int .i64 (0:Int),.int .u8 (18:Int),.int .i64 (0:Int),.string (⟨#[]⟩:ByteArray),.string (⟨#[]⟩:ByteArray),.string (⟨#[]⟩:ByteArray),.int .i64 (0:Int)]] ([(apiChange.mk (3:Int) (apiGuest.mk (⟨#[]⟩:ByteArray) (⟨#[]⟩:ByteArray) (⟨#[]⟩:ByteArray) (0:Int) (0:Int) (⟨#[]⟩:ByteArray) false false ([]:List ByteArray)) (⟨#[97,97]⟩:ByteArray) (⟨#[97,98]⟩:ByteArray) (⟨#[]⟩:ByteArray) (0:Int) (apiRule.mk (0:Int) (0:Int) (⟨#[]⟩:ByteArray) (⟨#[]⟩:ByteArray) (⟨#[]⟩:ByteArray) (0:Int))),(apiChange.mk (4:Int) (apiGuest.mk (⟨#[]⟩:ByteArray) (⟨#[]⟩:ByteArray) (⟨#[]⟩:ByteArray) (0:Int) (0:Int) (⟨#[]⟩:ByteArray) false false ([]:List ByteArray)) (⟨#[]⟩:ByteArray) (⟨#[]⟩:ByteArray) (⟨#[97]⟩:ByteArray) (0:Int) (apiRule.mk (0:Int) (0:Int) (⟨#[]⟩:ByteArray) (⟨#[]⟩:ByteArray) (⟨#[]⟩:ByteArray) (0:Int))),(apiChange.mk (5:Int) (apiGuest.mk (⟨#[]⟩:ByteArray) (⟨#[]⟩:ByteArray) (⟨#[]⟩:ByteArray) (0:Int) (0:Int) (⟨#[]⟩:ByteArray) false false ([]:List ByteArray)) (⟨#[]⟩:ByteArray) (⟨#[]⟩:ByteArray) (⟨#[]⟩:ByteArray) (0:Int) (apiRule.mk (18:Int) (0:Int) (⟨#[]⟩:ByteArray) (⟨#[]⟩:ByteArray) (⟨#[]⟩:ByteArray) (0:Int)))]:List apiChange):=(RowF.cons ⟨(.slice none 0 0),z,Slc.nil⟩ (RowF.cons ⟨(.slice none 0 0),z,Slc.nil⟩ (RowF.cons ⟨(.slice none 0 0),z,Slc.nil⟩ RowF.nil))); Vv (V.lenX elrepair2_51 z (j:=0) z db.len)<|Mv z<|Nt ?_)
 obtain ⟨dc,gG,gI⟩:=bndK H
 refine T.cutK (α:=Unit) [1,2] z (fun _u=>[]) (fun _u=>blk d (.cells [(.slice (some ⟨b,0,none⟩) 3 3),c,.slice none 0 0,.slice none 0 0,f].toArray 28)::rowR 39 6 f C::L) (fun _u hh=>dc = ()) ?_ ?_
 ·have H:=gG
  refine Bl<|T.loopK (α:=Nat×Int) [1,2,182,183] z (fun ⟨ak,am⟩=>[(184,.int .i64 am)]) (fun ⟨ak,am⟩=>rowR 41 20 (.slice (some ⟨da,0,none⟩) 3 3) [[.int .u8 (3:Int),.string (⟨#[]⟩:ByteArray),.string (⟨#[]⟩:ByteArray),.string (⟨#[]⟩:ByteArray),.int .i64 (0:Int),.int .i64 (0:Int),.string (⟨#[]⟩:ByteArray),.bool false,.bool false,.slice none 0 0,.string (⟨#[97,97]⟩:ByteArray),.string (⟨#[97,98]⟩:ByteArray),.string (⟨#[]⟩:ByteArray),.int .i64 (0:Int),.int .u8 (0:Int),.int .i64 (0:Int),.string (⟨#[]⟩:ByteArray),.string (⟨#[]⟩:ByteArray),.string (⟨#[]⟩:ByteArray),.int .i64 (0:Int)],[.int .u8 (4:Int),.string (⟨#[]⟩:ByteArray),.string (⟨#[]⟩:ByteArray),.string (⟨#[]⟩:ByteArray),.int .i64 (0:Int),.int .i64 (0:Int),.string (⟨#[]⟩:ByteArray),.bool false,.bool false,.slice none 0 0,.string (⟨#[]⟩:ByteArray),.string (⟨#[]⟩:ByteArray),.string (⟨#[97]⟩:ByteArray),.int .i64 (0:Int),.int .u8 (0:Int),.int .i64 (0:Int),.string (⟨#[]⟩:ByteArray),.string (⟨#[]⟩:ByteArray),.string (⟨#[]⟩:ByteArray),.int .i64 (0:Int)],[.int .u8 (5:Int),.string (⟨#[]⟩:ByteArray),.string (⟨#[]⟩:ByteArray),.string (⟨#[]⟩:ByteArray),.int .i64 (0:Int),.int .i64 (0:Int),.string (⟨#[]⟩:ByteArray),.bool false,.bool false,.slice none 0 0,.string (⟨#[]⟩:ByteArray),.string (⟨#[]⟩:ByteArray),.string (⟨#[]⟩:ByteArray),.int .i64 (0:Int),.int .u8 (18:Int),.int .i64 (0:Int),.string (⟨#[]⟩:ByteArray),.string (⟨#[]⟩:ByteArray),.string (⟨#[]⟩:ByteArray),.int .i64 (0:Int)]]::blk d (.cells [(.slice (some ⟨b,0,none⟩) 3 3),c,.slice none 0 0,.slice none 0 0,f].toArray 28)::rowR 39 6 f C::L) (fun ⟨ak,am⟩ hh=>iter (law10_RepairSmall_l2 aa p K) ak am = some dc) (fun ⟨ak,am⟩=>ak) (FUEL,(0:Int)) ⟨z,trivial⟩ z H ?_
  rintro ⟨ak,am⟩ k9 aA gJ
  obtain ⟨gK,kh,rfl,H,dd⟩:=iter_go gJ
  refine T.norm [184,1,2,182,183] z<|Sl_ (rowR 41 20 (.slice (some ⟨da,0,none⟩) 3 3) [[.int .u8 (3:Int),.string (⟨#[]⟩:ByteArray),.string (⟨#[]⟩:ByteArray),.string (⟨#[]⟩:ByteArray),.int .i64 (0:Int),.int .i64 (0:Int),.string (⟨#[]⟩:ByteArray),.bool false,.bool false,.slice none 0 0,.string (⟨#[97,97]⟩:ByteArray),.string (⟨#[97,98]⟩:ByteArray),.string (⟨#[]⟩:ByteArray),.int .i64 (0:Int),.int .u8 (0:Int),.int .i64 (0:Int),.string (⟨#[]⟩:ByteArray),.string (⟨#[]⟩:ByteArray),.string (⟨#[]⟩:ByteArray),.int .i64 (0:Int)],[.int .u8 (4:Int),.string (⟨#[]⟩:ByteArray),.string (⟨#[]⟩:ByteArray),.string (⟨#[]⟩:ByteArray),.int .i64 (0:Int),.int .i64 (0:Int),.string (⟨#[]⟩:ByteArray),.bool false,.bool false,.slice none 0 0,.string (⟨#[]⟩:ByteArray),.string (⟨#[]⟩:ByteArray),.string (⟨#[97]⟩:ByteArray),.int .i64 (0:Int),.int .u8 (0:Int),.int .i64 (0:Int),.string (⟨#[]⟩:ByteArray),.string (⟨#[]⟩:ByteArray),.string (⟨#[]⟩:ByteArray),.int .i64 (0:Int)],[.int .u8 (5:Int),.string (⟨#[]⟩:ByteArray),.string (⟨#[]⟩:ByteArray),.string (⟨#[]⟩:ByteArray),.int .i64 (0:Int),.int .i64 (0:Int),.string (⟨#[]⟩:ByteArray),.bool false,.bool false,.slice none 0 0,.string (⟨#[]⟩:ByteArray),.string (⟨#[]⟩:ByteArray),.string (⟨#[]⟩:ByteArray),.int .i64 (0:Int),.int .u8 (18:Int),.int .i64 (0:Int),.string (⟨#[]⟩:ByteArray),.string (⟨#[]⟩:ByteArray),.string (⟨#[]⟩:ByteArray),.int .i64 (0:Int)]]::blk d (.cells [(.slice (some ⟨b,0,none⟩) 3 3),c,.slice none 0 0,.slice none 0 0,f].toArray 28)::rowR 39 6 f C::L) z<|Sr<|Vv (V.lt z z)<|Nt<|Sq<|T.cH H z (fun H=>?_) (fun H=>?_)
  ·refine T.skip<|Th<|Sq<|Bl<|Sr ?_
   obtain ⟨a,de,H⟩:=bnd H
   have df:=RowF.mono VapiChange.mono db aA
   obtain ⟨kl,gM,⟨ba,rfl,dg⟩⟩:=RowF.get df de
   refine Vv (V.ixR elrepair2_51 rfl rfl (j:=0) rfl (RowF.bd df de))<|Vv (V.ldXS rfl (j:=0) rfl gM shrepair2_41)<|To (O.alloc zerepair2_41 rfl rfl fun kv=>To (O.stF (vs:=[.int .u8 a.fKind,.string a.fGuest.fName,.string a.fGuest.fRank,.string a.fGuest.fCourt,.int .i64 a.fGuest.fSince,.int .i64 a.fGuest.fSide,.string a.fGuest.fDiet,.bool a.fGuest.fHost,.bool a.fGuest.fAccess,ba,.string a.fA,.string a.fB,.string a.fTable,.int .i64 a.fN,.int .u8 a.fRule.fKind,.int .i64 a.fRule.fWeight,.string a.fRule.fA,.string a.fRule.fB,.string a.fRule.fTable,.int .i64 a.fRule.fN]) shrepair2_41 rfl rfl (j:=0) rfl rfl (by (simp only [Sl.ones,Slc.one dg,Bool.and_true,Bool.true_and]) <;> rfl) rfl ?_))
   refine T.fl ?_
   refine T.freeze fun kz aJ gN=>have gO:=AtC.of gN; Nt<|Sr<|Vv (V.ldOS (j:=1) (by exact shrepair2_28) rfl rfl) ?_
   refine Mv z<|Vv (V.ldS rfl gO (by exact shrepair2_41)) ?_
   refine Fr_ 2 z<|T.fl ?_
   obtain ⟨gP,gS,H⟩:=bnd H
   refine To (O.callS z (FnS.lend (val:=.int .i64 gP) Tryz.func5 z lendR fun di bb gU=>?_) z fun ma mb mc gV gW=>?_)
   ·have gX:=((aA.trans aJ).trans bb)
    have gY:=RowF.mono VapiRule.mono cz gX
    have gZ:=RowF.slc gU gY
    have bc:=((((((((((((aG.trans aI).trans aw).trans ax).trans ay).trans y).trans A).trans B).trans a9).trans az).trans aA).trans aJ).trans bb)
    have g0:=Slc.mono VapiTable.mono a6 bc
    have g1:=Slc.mono VapiGuest.mono a7 bc
    have g2:=Slc.mono VI.mono a8 bc
    have g3:=(aJ.trans bb)
    have g4:=Slc.mono VS.mono dg g3
    exact repair_Check_ok (show VapiProblem di [(.slice (some ⟨b,0,none⟩) 3 3),c,.slice none 0 0,.slice none 0 0,f] (apiProblem.mk [(apiTable.mk (⟨#[97]⟩:ByteArray) (4:Int) (24:Int) (0:Int) ([]:List Int) (0:Int) (0:Int)),(apiTable.mk (⟨#[98]⟩:ByteArray) (4:Int) (24:Int) (0:Int) ([]:List Int) (0:Int) (0:Int)),(apiTable.mk (⟨#[99]⟩:ByteArray) (4:Int) (16:Int) (0:Int) ([]:List Int) (0:Int) (0:Int))] p ([]:List apiTie) ([]:List Int) K) from ⟨(.slice (some ⟨b,0,none⟩) 3 3),c,(.slice none 0 0),(.slice none 0 0),f,z,g0,g1,Slc.nil,Slc.nil,gZ⟩) g2 (show VapiChange di [.int .u8 a.fKind,.string a.fGuest.fName,.string a.fGuest.fRank,.string a.fGuest.fCourt,.int .i64 a.fGuest.fSince,.int .i64 a.fGuest.fSide,.string a.fGuest.fDiet,.bool a.fGuest.fHost,.bool a.fGuest.fAccess,ba,.string a.fA,.string a.fB,.string a.fTable,.int .i64 a.fN,.int .u8 a.fRule.fKind,.int .i64 a.fRule.fWeight,.string a.fRule.fA,.string a.fRule.fB,.string a.fRule.fTable,.int .i64 a.fRule.fN] a from ⟨ba,z,g4⟩) gS _
   obtain ⟨rfl,g5⟩:=gW
   refine Sl_ _ g5<|Vv (V.ne z z)<|Nt<|T.cH H z (fun H=>?_) (fun H=>?_)
   ·exact dead H
   refine T.skip<|Bn<|Th<|Rg ?_
   obtain ⟨g6,g7,H⟩:=bnd H
   refine Vv (V.addS z z g7)<|Mv z<|Nt<|Fr_ 2 z<|T.fl ?_
   refine Fr_ 2 z<|T.fl ?_
   have g8:=((aA.trans aJ).trans gV)
   exact T.again (gK,g6) g8 (Nat.lt_succ_self _) (iterK_in H dd) (AllIn.app ⟨z,trivial⟩ ⟨z,z,z,z,trivial⟩) z
  refine T.exit<|Te<|Te<|have H:=iterK_out H dd; Be<|Th<|T.drop<|T.met () aA H (AllIn.app trivial ⟨z,z,trivial⟩) z
 rintro _ md be g9
 have H:=cutE g9 gI
 refine T.norm [1,2] rfl<|Sl_ (blk d (.cells [(.slice (some ⟨b,0,none⟩) 3 3),c,.slice none 0 0,.slice none 0 0,f].toArray 28)::rowR 39 6 f C::L) rfl<|Sr<|Vv (V.ldOS (j:=0) (by exact shrepair2_28) rfl rfl) ?_
 refine Mv z<|Fr_ 1 z<|T.rowFix fun gh bf gl=>have gv:=(be.trans bf); have gz:=RowF.mono VapiRule.mono cz gv; have dj:=RowF.slc gl gz; have bg:=(((((((((((aG.trans aI).trans aw).trans ax).trans ay).trans y).trans A).trans B).trans a9).trans az).trans be).trans bf); have dk:=Slc.mono VapiTable.mono a6 bg; have dm:=Slc.mono VapiGuest.mono a7 bg; have dn:=Slc.mono VI.mono a8 bg; ?_
 obtain ⟨⟨me,mf⟩,ia,H⟩:=bnd H
 refine To (O.callS z (repair_Keep_ok (show VapiProblem gh [(.slice (some ⟨b,0,none⟩) 3 3),c,.slice none 0 0,.slice none 0 0,f] (apiProblem.mk [(apiTable.mk (⟨#[97]⟩:ByteArray) (4:Int) (24:Int) (0:Int) ([]:List Int) (0:Int) (0:Int)),(apiTable.mk (⟨#[98]⟩:ByteArray) (4:Int) (24:Int) (0:Int) ([]:List Int) (0:Int) (0:Int)),(apiTable.mk (⟨#[99]⟩:ByteArray) (4:Int) (16:Int) (0:Int) ([]:List Int) (0:Int) (0:Int))] p ([]:List apiTie) ([]:List Int) K) from ⟨(.slice (some ⟨b,0,none⟩) 3 3),c,(.slice none 0 0),(.slice none 0 0),f,z,dk,dm,Slc.nil,Slc.nil,dj⟩) dn ia _) z fun mg mi mj dp ib=>?_)
 obtain ⟨ic,id,ie,ig,ii,rfl,ij,ik,im,io,ip,dq⟩:=ib
 refine Sl_ _ ij<|Mv z<|Vv (V.ext rfl rfl)<|Vv (V.ext rfl rfl)<|To (O.alloc zerepair2_28 rfl rfl fun mm=>To (O.stF (vs:=[ic,id,ie,ig,ii]) shrepair2_28 rfl rfl (j:=0) rfl rfl (by (simp only [Sl.ones,Slc.one ik,Slc.one im,Slc.one io,Slc.one ip,Slc.one dq,Bool.and_true,Bool.true_and]) <;> rfl) rfl ?_))
 refine T.freeze fun dr bi iq=>have ir:=AtC.of iq; Ag z<|Nt<|Sr<|Vv (V.fa fdrepair2_28_4 z)<|Vv (V.ldO (k:=4) shrepair2_26 z (j:=0) z z)<|have aK:=(dp.trans bi); have it:=Slc.mono VapiRule.mono dj aK; ?_
 obtain ⟨ds,dt,H⟩:=bnd H
 refine T.slM z elrepair2_26 z it (.inl ⟨z,z⟩) (.inr ⟨_,_,z,z⟩) (sbL_eq dt).2 z fun aB iu mn=>?_
 have bj:Slc VapiRule 6 dr aB ds:=by rw [(sbL_eq dt).1]; exact iu
 refine Vv (V.fa fdrepair2_28_4 rfl)<|To (O.st (vs:=[aB]) (k:=4) shrepair2_26 rfl rfl (j:=0) rfl (Slc.cells bj) (by (simp only [Sl.ones,Slc.one bj,Bool.and_true,Bool.true_and]) <;> rfl) ?_)
 refine Nt<|Sr<|Vv (V.ldOS (j:=0) (by exact shrepair2_28) rfl rfl) ?_
 refine Mv z<|have du:=Slc.mono VapiTable.mono dk aK; have iw:=Slc.mono VapiGuest.mono dm aK; have iy:=Slc.mono VI.mono dn aK; ?_
 obtain ⟨⟨mo,mp⟩,iA,H⟩:=bnd H
 refine To (O.callS z (repair_Keep_ok (show VapiProblem dr [(.slice (some ⟨b,0,none⟩) 3 3),c,.slice none 0 0,.slice none 0 0,aB] (apiProblem.mk [(apiTable.mk (⟨#[97]⟩:ByteArray) (4:Int) (24:Int) (0:Int) ([]:List Int) (0:Int) (0:Int)),(apiTable.mk (⟨#[98]⟩:ByteArray) (4:Int) (24:Int) (0:Int) ([]:List Int) (0:Int) (0:Int)),(apiTable.mk (⟨#[99]⟩:ByteArray) (4:Int) (16:Int) (0:Int) ([]:List Int) (0:Int) (0:Int))] p ([]:List apiTie) ([]:List Int) ds) from ⟨(.slice (some ⟨b,0,none⟩) 3 3),c,(.slice none 0 0),(.slice none 0 0),aB,z,du,iw,Slc.nil,Slc.nil,bj⟩) iy iA _) z fun mq mr ms bk iB=>?_)
 obtain ⟨iC,iD,iE,iG,iI,rfl,iJ,iK,iM,iN,iO,dw⟩:=iB
 refine Sl_ _ iJ<|Mv z<|Vv (V.ext rfl rfl)<|Vv (V.ext rfl rfl)<|To (O.alloc zerepair2_28 rfl rfl fun mt=>To (O.stF (vs:=[iC,iD,iE,iG,iI]) shrepair2_28 rfl rfl (j:=0) rfl rfl (by (simp only [Sl.ones,Slc.one iK,Slc.one iM,Slc.one iN,Slc.one iO,Slc.one dw,Bool.and_true,Bool.true_and]) <;> rfl) rfl ?_))
 refine T.freeze fun bm aM iP=>have iS:=AtC.of iP; Ag z<|Nt<|Sq<|Sr<|Mv z<|Vv (V.ne z z)<|Mv z<|T.bH 212 H z (fun H=>?_) (fun H=>?_)
 ·exact dead H
 refine Vv (V.fa fdrepair2_28_4 z)<|have dx:=(bk.trans aM); have iU:=ir.mono dx; Vv (V.ldf (k:=4) shrepair2_26 z iU z)<|have iV:=((bi.trans bk).trans aM); have iW:=Slc.mono VapiRule.mono dq iV; Vv (V.lenS elrepair2_26 z iW)<|Vv (V.ne z z)<|Vv (V.pkF z z)<|Mv z<|T.bH 218 H z (fun H=>?_) (fun H=>?_)
 ·exact dead H
 refine Mv z<|Vv (V.ne z z)<|Vv (V.pkF z z)<|Mv z<|T.bH 222 H z (fun H=>?_) (fun H=>?_)
 ·exact dead H
 refine Vv (V.fa fdrepair2_28_4 z)<|Vv (V.ldf (k:=4) shrepair2_26 z iS z)<|have iX:=Slc.mono VapiRule.mono dw aM; Vv (V.lenS elrepair2_26 z iX)<|Vv (V.ne z z)<|Vv (V.pkF z z)<|Nt<|T.cH H z (fun H=>?_) (fun H=>?_)
 ·exact dead H
 refine T.skip<|Th<|Sq<|T.norm [1] z<|Sl_ (blk d (.cells [(.slice (some ⟨b,0,none⟩) 3 3),c,.slice none 0 0,.slice none 0 0,aB].toArray 28)::L) z<|Rg<|Vv (V.fa fdrepair2_28_0 z)<|Vv (V.ldO (k:=0) shrepair2_22 z (j:=0) z z)<|have iY:=Slc.mono VapiTable.mono du dx; ?_
 obtain ⟨aN,dy,H⟩:=bnd H
 refine T.slM z elrepair2_22 z iY (.inl ⟨z,z⟩) (.inr ⟨_,_,z,z⟩) (sbL_eq dy).2 z fun M iZ mu=>?_
 have dA:Slc VapiTable 7 bm M aN:=by rw [(sbL_eq dy).1]; exact iZ
 refine Vv (V.bld (xs:=[(0,.const (.string ⟨#[97]⟩))]) (cs:=[_,_,_,_,_,_,_,_,_]) blrepair2_35 borepair2_35 z (Fills.cons z z z Fills.nil))<|To (O.bs elrepair2_23 zerepair2_35 z (e:=z) (hk:=z) (xs:=[.tmp 231]) (hv:=CO.eq (CO.cons z CO.nil)) (hw:=Wide.of z) (hd:=z) fun Y=>have i0:RowF VapiGuest bm [[.string (⟨#[97]⟩:ByteArray),.string (⟨#[]⟩:ByteArray),.string (⟨#[]⟩:ByteArray),.int .i64 (0:Int),.int .i64 (0:Int),.string (⟨#[]⟩:ByteArray),.bool false,.bool false,.slice none 0 0]] ([(apiGuest.mk (⟨#[97]⟩:ByteArray) (⟨#[]⟩:ByteArray) (⟨#[]⟩:ByteArray) (0:Int) (0:Int) (⟨#[]⟩:ByteArray) false false ([]:List ByteArray))]:List apiGuest):=(RowF.cons ⟨(.slice none 0 0),z,Slc.nil⟩ RowF.nil); To (O.bs elrepair2_25 zerepair2_3 z (e:=z) (hk:=z) (xs:=[.const (.int .i64 (7))]) (hv:=CO.eq (CO.cons z CO.nil)) (hw:=Wide.of z) (hd:=z) fun Z=>have i1:RowF (VI .i64) bm [[.int .i64 (7:Int)]] ([(7:Int)]:List Int):=(RowF.cons z RowF.nil); T.rowOne 0 z fun mw i2=>T.rowOne 1 z fun mx i3=>Vv (V.bld (xs:=[(0,.tmp 230),(1,.tmp 232),(3,.tmp 233)]) (cs:=[_,_,_,_,_]) blrepair2_28 borepair2_28 z (Fills.cons z (Slc.cells dA) z (Fills.cons z i3 z (Fills.cons z i2 z Fills.nil))))<|To (O.alloc zerepair2_28 z z fun my=>Fr_ 2 z<|T.fl ?_)))
 refine T.rowFix fun mA bn i4=>have i5:=RowF.mono VapiGuest.mono i0 bn; have i6:=RowF.slc i4 i5; Fr_ 1 z<|T.fl ?_
 refine T.rowFix fun mB bo i7=>have dB:=(bn.trans bo); have i8:=RowF.mono VI.mono i1 dB; have dC:=RowF.slc i7 i8; have dD:=Slc.mono VapiTable.mono dA dB; have dE:=Slc.mono VapiGuest.mono i6 bo; To (O.stF (vs:=[M,(.slice (some ⟨Y,0,none⟩) 1 1),.slice none 0 0,(.slice (some ⟨Z,0,none⟩) 1 1),.slice none 0 0]) shrepair2_28 rfl rfl (j:=0) rfl rfl (by (simp only [Sl.ones,Slc.one dD,Slc.one dE,Slc.one dC,Bool.and_true,Bool.true_and]) <;> rfl) rfl ?_)
 refine T.freeze fun i9 dG ih=>have dI:=AtC.of ih; Nt<|Sr<|Vv (V.ldS rfl dI (by exact shrepair2_28)) ?_
 refine To (O.bs elrepair2_25 zerepair2_3 z (e:=z) (hk:=z) (xs:=[.const (.int .i64 (3))]) (hv:=CO.eq (CO.cons z CO.nil)) (hw:=Wide.of z) (hd:=z) fun mC=>have il:RowF (VI .i64) i9 [[.int .i64 (3:Int)]] ([(3:Int)]:List Int):=(RowF.cons z RowF.nil); Vv (V.bld (xs:=[(0,.const (.int .u8 (2))),(2,.const (.string ⟨#[97]⟩))]) (cs:=[_,_,_,_,_,_,_,_,_,_,_,_,_,_,_,_,_,_,_,_]) blrepair2_41 borepair2_41 z (Fills.cons z z z (Fills.cons z z z Fills.nil)))<|T.rowFix fun dJ aO iv=>have iz:=RowF.mono VI.mono il aO; have ja:=RowF.slc iv iz; have bp:=(dG.trans aO); have dK:=Slc.mono VapiTable.mono dD bp; have dM:=Slc.mono VapiGuest.mono dE bp; have dN:=Slc.mono VI.mono dC bp; ?_)
 obtain ⟨⟨mD,mE,mG⟩,jb,H⟩:=bnd H
 refine To (O.callS z (repair_Apply_ok (show VapiProblem dJ [M,(.slice (some ⟨Y,0,none⟩) 1 1),.slice none 0 0,(.slice (some ⟨Z,0,none⟩) 1 1),.slice none 0 0] (apiProblem.mk aN [(apiGuest.mk (⟨#[97]⟩:ByteArray) (⟨#[]⟩:ByteArray) (⟨#[]⟩:ByteArray) (0:Int) (0:Int) (⟨#[]⟩:ByteArray) false false ([]:List ByteArray))] ([]:List apiTie) [(7:Int)] ([]:List apiRule)) from ⟨M,(.slice (some ⟨Y,0,none⟩) 1 1),(.slice none 0 0),(.slice (some ⟨Z,0,none⟩) 1 1),(.slice none 0 0),z,dK,dM,Slc.nil,dN,Slc.nil⟩) ja (show VapiChange dJ [.int .u8 (2:Int),.string (⟨#[]⟩:ByteArray),.string (⟨#[]⟩:ByteArray),.string (⟨#[]⟩:ByteArray),.int .i64 (0:Int),.int .i64 (0:Int),.string (⟨#[]⟩:ByteArray),.bool false,.bool false,.slice none 0 0,.string (⟨#[97]⟩:ByteArray),.string (⟨#[]⟩:ByteArray),.string (⟨#[]⟩:ByteArray),.int .i64 (0:Int),.int .u8 (0:Int),.int .i64 (0:Int),.string (⟨#[]⟩:ByteArray),.string (⟨#[]⟩:ByteArray),.string (⟨#[]⟩:ByteArray),.int .i64 (0:Int)] (apiChange.mk (2:Int) (apiGuest.mk (⟨#[]⟩:ByteArray) (⟨#[]⟩:ByteArray) (⟨#[]⟩:ByteArray) (0:Int) (0:Int) (⟨#[]⟩:ByteArray) false false ([]:List ByteArray)) (⟨#[97]⟩:ByteArray) (⟨#[]⟩:ByteArray) (⟨#[]⟩:ByteArray) (0:Int) (apiRule.mk (0:Int) (0:Int) (⟨#[]⟩:ByteArray) (⟨#[]⟩:ByteArray) (⟨#[]⟩:ByteArray) (0:Int))) from ⟨(.slice none 0 0),z,Slc.nil⟩) jb _) z fun mI mJ mK bq jc=>?_)
 obtain ⟨jd,je,jf,jg,ji,mM,mN,rfl,jj,jk,dO,jm,dP,jn,jo⟩:=jc
 refine Sl_ _ jj<|Mv z<|Vv (V.ext rfl rfl)<|Vv (V.ext rfl rfl)<|Vv (V.ext rfl rfl)<|To (O.alloc zerepair2_28 rfl rfl fun mO=>To (O.stF (vs:=[jd,je,jf,jg,ji]) shrepair2_28 rfl rfl (j:=0) rfl rfl (by (simp only [Sl.ones,Slc.one jk,Slc.one dO,Slc.one jm,Slc.one dP,Slc.one jn,Bool.and_true,Bool.true_and]) <;> rfl) rfl ?_))
 refine T.fl ?_
 refine T.freeze fun jp an jq=>have dS:=AtC.of jq; Ag z<|Ag z<|Nt<|Sr<|Mv z<|Vv (V.eq z z)<|Mv z<|T.bH 245 H z (fun H=>?_) (fun H=>?_)
 ·refine Vv (V.fa fdrepair2_28_1 z)<|Vv (V.ldf (k:=1) shrepair2_23 z dS z)<|have jr:=Slc.mono VapiGuest.mono dO an; Vv (V.lenS elrepair2_23 z jr)<|Vv (V.fa fdrepair2_28_3 z)<|Vv (V.ldf (k:=3) shrepair2_25 z dS z)<|have js:=Slc.mono VI.mono dP an; Vv (V.lenS elrepair2_25 z js) ?_
  obtain ⟨mP,jt,H⟩:=bnd H
  refine Vv (V.addS z z jt)<|Mv z<|have ju:=RowF.mono VI.mono jo an; Vv (V.lenX elrepair2_25 z (j:=0) z ju.len) ?_
  obtain ⟨mS,jw,H⟩:=bnd H
  refine Vv (V.addS z z jw)<|Vv (V.eq z z)<|Vv (V.pkT z z)<|Mv z<|T.bH 258 H z (fun H=>?_) (fun H=>?_)
  ·have jx:=((aO.trans bq).trans an)
   have dU:=dI.mono jx
   refine Vv (V.ldS rfl dU (by exact shrepair2_28)) ?_
   refine To (O.bs elrepair2_25 zerepair2_3 z (e:=z) (hk:=z) (xs:=[.const (.int .i64 (3))]) (hv:=CO.eq (CO.cons z CO.nil)) (hw:=Wide.of z) (hd:=z) fun mU=>have jy:RowF (VI .i64) jp [[.int .i64 (3:Int)]] ([(3:Int)]:List Int):=(RowF.cons z RowF.nil); Vv (V.bld (xs:=[]) (cs:=[_,_,_,_,_,_,_,_,_,_,_,_,_,_,_,_,_,_,_,_]) blrepair2_41 borepair2_41 z Fills.nil)<|T.rowFix fun dV aP jA=>have jB:=RowF.mono VI.mono jy aP; have jC:=RowF.slc jA jB; have br:=((bq.trans an).trans aP); have dW:=Slc.mono VapiTable.mono dK br; have dX:=Slc.mono VapiGuest.mono dM br; have dY:=Slc.mono VI.mono dN br; ?_)
   obtain ⟨mV,jD,H⟩:=bnd H
   refine To (O.callS z (repair_Check_ok (show VapiProblem dV [M,(.slice (some ⟨Y,0,none⟩) 1 1),.slice none 0 0,(.slice (some ⟨Z,0,none⟩) 1 1),.slice none 0 0] (apiProblem.mk aN [(apiGuest.mk (⟨#[97]⟩:ByteArray) (⟨#[]⟩:ByteArray) (⟨#[]⟩:ByteArray) (0:Int) (0:Int) (⟨#[]⟩:ByteArray) false false ([]:List ByteArray))] ([]:List apiTie) [(7:Int)] ([]:List apiRule)) from ⟨M,(.slice (some ⟨Y,0,none⟩) 1 1),(.slice none 0 0),(.slice (some ⟨Z,0,none⟩) 1 1),(.slice none 0 0),z,dW,dX,Slc.nil,dY,Slc.nil⟩) jC (show VapiChange dV [.int .u8 (0:Int),.string (⟨#[]⟩:ByteArray),.string (⟨#[]⟩:ByteArray),.string (⟨#[]⟩:ByteArray),.int .i64 (0:Int),.int .i64 (0:Int),.string (⟨#[]⟩:ByteArray),.bool false,.bool false,.slice none 0 0,.string (⟨#[]⟩:ByteArray),.string (⟨#[]⟩:ByteArray),.string (⟨#[]⟩:ByteArray),.int .i64 (0:Int),.int .u8 (0:Int),.int .i64 (0:Int),.string (⟨#[]⟩:ByteArray),.string (⟨#[]⟩:ByteArray),.string (⟨#[]⟩:ByteArray),.int .i64 (0:Int)] (apiChange.mk (0:Int) (apiGuest.mk (⟨#[]⟩:ByteArray) (⟨#[]⟩:ByteArray) (⟨#[]⟩:ByteArray) (0:Int) (0:Int) (⟨#[]⟩:ByteArray) false false ([]:List ByteArray)) (⟨#[]⟩:ByteArray) (⟨#[]⟩:ByteArray) (⟨#[]⟩:ByteArray) (0:Int) (apiRule.mk (0:Int) (0:Int) (⟨#[]⟩:ByteArray) (⟨#[]⟩:ByteArray) (⟨#[]⟩:ByteArray) (0:Int))) from ⟨(.slice none 0 0),z,Slc.nil⟩) jD _) z fun mW jE mX bt jG=>?_)
   obtain ⟨rfl,jI⟩:=jG
   refine Sl_ _ jI<|Vv (V.eq z z)<|Vv (V.pkT z z)<|Mv z<|T.bH 265 H z (fun H=>?_) (fun H=>?_)
   ·have jJ:=(aP.trans bt)
    have jK:=dU.mono jJ
    refine Vv (V.ldS rfl jK (by exact shrepair2_28)) ?_
    refine To (O.bs elrepair2_25 zerepair2_3 z (e:=z) (hk:=z) (xs:=[.const (.int .i64 (3))]) (hv:=CO.eq (CO.cons z CO.nil)) (hw:=Wide.of z) (hd:=z) fun mY=>have jM:RowF (VI .i64) jE [[.int .i64 (3:Int)]] ([(3:Int)]:List Int):=(RowF.cons z RowF.nil); Vv (V.bld (xs:=[(0,.const (.int .u8 (6)))]) (cs:=[_,_,_,_,_,_,_,_,_,_,_,_,_,_,_,_,_,_,_,_]) blrepair2_41 borepair2_41 z (Fills.cons z z z Fills.nil))<|T.rowFix fun dZ bu jN=>have jO:=RowF.mono VI.mono jM bu; have jP:=RowF.slc jN jO; have bw:=(bt.trans bu); have jS:=Slc.mono VapiTable.mono dW bw; have jU:=Slc.mono VapiGuest.mono dX bw; have jV:=Slc.mono VI.mono dY bw; ?_)
    obtain ⟨mZ,jW,H⟩:=bnd H
    refine To (O.callS z (repair_Check_ok (show VapiProblem dZ [M,(.slice (some ⟨Y,0,none⟩) 1 1),.slice none 0 0,(.slice (some ⟨Z,0,none⟩) 1 1),.slice none 0 0] (apiProblem.mk aN [(apiGuest.mk (⟨#[97]⟩:ByteArray) (⟨#[]⟩:ByteArray) (⟨#[]⟩:ByteArray) (0:Int) (0:Int) (⟨#[]⟩:ByteArray) false false ([]:List ByteArray))] ([]:List apiTie) [(7:Int)] ([]:List apiRule)) from ⟨M,(.slice (some ⟨Y,0,none⟩) 1 1),(.slice none 0 0),(.slice (some ⟨Z,0,none⟩) 1 1),(.slice none 0 0),z,jS,jU,Slc.nil,jV,Slc.nil⟩) jP (show VapiChange dZ [.int .u8 (6:Int),.string (⟨#[]⟩:ByteArray),.string (⟨#[]⟩:ByteArray),.string (⟨#[]⟩:ByteArray),.int .i64 (0:Int),.int .i64 (0:Int),.string (⟨#[]⟩:ByteArray),.bool false,.bool false,.slice none 0 0,.string (⟨#[]⟩:ByteArray),.string (⟨#[]⟩:ByteArray),.string (⟨#[]⟩:ByteArray),.int .i64 (0:Int),.int .u8 (0:Int),.int .i64 (0:Int),.string (⟨#[]⟩:ByteArray),.string (⟨#[]⟩:ByteArray),.string (⟨#[]⟩:ByteArray),.int .i64 (0:Int)] (apiChange.mk (6:Int) (apiGuest.mk (⟨#[]⟩:ByteArray) (⟨#[]⟩:ByteArray) (⟨#[]⟩:ByteArray) (0:Int) (0:Int) (⟨#[]⟩:ByteArray) false false ([]:List ByteArray)) (⟨#[]⟩:ByteArray) (⟨#[]⟩:ByteArray) (⟨#[]⟩:ByteArray) (0:Int) (apiRule.mk (0:Int) (0:Int) (⟨#[]⟩:ByteArray) (⟨#[]⟩:ByteArray) (⟨#[]⟩:ByteArray) (0:Int))) from ⟨(.slice none 0 0),z,Slc.nil⟩) jW _) z fun m0 m1 m2 jX jY=>?_)
    obtain ⟨rfl,jZ⟩:=jY
    refine Sl_ _ jZ<|Vv (V.eq z z)<|Vv (V.pkT z z)<|Mv z<|T.bH 272 H z (fun H=>?_) (fun H=>?_)
    ·obtain ⟨m3,j0,H⟩:=bnd H
     refine To (O.callS z (law10_awake_ok j0 _) z fun m4 m5 m6 j1 j2=>?_)
     obtain ⟨rfl,j3⟩:=j2
     refine Sl_ _ j3<|Vv (V.pkT z z)<|Ag z<|Nt<|T.ret<|T.drop<|T.drop ?_
     obtain rfl:=Option.some.inj H
     have j4:=(((((((((((((((((((((((((((((((((((bM.trans aY).trans aC).trans bU).trans ar).trans af).trans G).trans a3).trans au).trans aG).trans aI).trans aw).trans ax).trans ay).trans y).trans A).trans B).trans a9).trans az).trans be).trans bf).trans dp).trans bi).trans bk).trans aM).trans bn).trans bo).trans dG).trans aO).trans bq).trans an).trans aP).trans bt).trans bu).trans jX).trans j1)
     exact T.retL Tryz.results3 (Rv z) j4 ⟨z,z⟩
    exact dead H
   exact dead H
  exact dead H
 exact dead H
end Go.Proofs.X
