import Derived.Test.YteaklbinndmohaaGreatDoorChecked
import Derived.KernelRfl
import Derived.Test.YteaklbinndmohaaGreatDoorV
import Derived.Test.YteaklbinndmohaaGreatDoorL9
import Derived.Test.YteaklbinndmohaaGreatDoorDa
/- The walks: each function computes what its Lean function says. -/
set_option maxRecDepth 1000000
set_option maxHeartbeats 40000000
set_option linter.unusedVariables false
set_option linter.unusedSimpArgs false
set_option linter.unnecessarySimpa false
open Go Go.Proofs Go.Sl Go.Dm
namespace Go.Proofs.X
theorem slmixed : Tryz.prog.follows .mixedOrders = true := by kernel_rfl
theorem elsl_22 : elSh Tryz.prog 22 = some (31, 7, 80) := by kernel_rfl
theorem elsl_23 : elSh Tryz.prog 23 = some (35, 9, 112) := by kernel_rfl
theorem elsl_24 : elSh Tryz.prog 24 = some (164, 3, 40) := by kernel_rfl
theorem elsl_25 : elSh Tryz.prog 25 = some (3, 1, 8) := by kernel_rfl
theorem elsl_26 : elSh Tryz.prog 26 = some (39, 6, 72) := by kernel_rfl
theorem elsl_33 : elSh Tryz.prog 33 = some (9, 1, 16) := by kernel_rfl
theorem shsl_3 : tySh Tryz.prog 3 = some (false, 1) := by kernel_rfl
theorem shsl_31 : tySh Tryz.prog 31 = some (true, 7) := by kernel_rfl
theorem shsl_35 : tySh Tryz.prog 35 = some (true, 9) := by kernel_rfl
theorem zesl_164 : zer Tryz.prog 164 = some (.agg #[.string ⟨#[]⟩, .string ⟨#[]⟩, .int .u8 (0)]) := by kernel_rfl
theorem zesl_3 : zer Tryz.prog 3 = some (.int .i64 (0)) := by kernel_rfl
theorem zesl_31 : zer Tryz.prog 31 = some (.agg #[.string ⟨#[]⟩, .int .u8 (0), .int .i64 (0), .int .i64 (0), .slice none 0 0, .int .i64 (0), .int .i64 (0)]) := by kernel_rfl
theorem zesl_35 : zer Tryz.prog 35 = some (.agg #[.string ⟨#[]⟩, .string ⟨#[]⟩, .string ⟨#[]⟩, .int .i64 (0), .int .i64 (0), .string ⟨#[]⟩, .bool false, .bool false, .slice none 0 0]) := by kernel_rfl
theorem zesl_39 : zer Tryz.prog 39 = some (.agg #[.int .u8 (0), .int .i64 (0), .string ⟨#[]⟩, .string ⟨#[]⟩, .string ⟨#[]⟩, .int .i64 (0)]) := by kernel_rfl
theorem zesl_9 : zer Tryz.prog 9 = some (.string ⟨#[]⟩) := by kernel_rfl
theorem sl_IndexInt_ok {h:PH} {pv0:Value} {s1:List Int} (pr0:Slc (VI .i64) 1 h pv0 s1) {v2:Int} {r_0:Int} (H:sl_IndexInt s1 v2 = some r_0):∀ L,FnS Tryz.prog 135 [pv0,.int .i64 v2] h (L) (fun v h' L'=>v = .int .i64 r_0∧L' = L):=by
 intro L
 refine FnS.enter Tryz.func135 z Tryz.ntmps135 z<|Sr<|Ag z<|Nt<|Sq<|Sr<|Mv z<|Vv (V.lenS elsl_25 z pr0)<|Mv z<|Nt ?_
 obtain ⟨e,j,f⟩:=bndK H
 refine T.cutK (α:=Unit) [] z (fun _u=>[]) (fun _u=>L) (fun _u hh=>e = (Sum.inl ())) ?_ ?_
 ·have H:=j
  refine Bl<|T.loopK (α:=Nat×Int) [0,1,7] z (fun ⟨a,b⟩=>[(8,.int .i64 b)]) (fun ⟨a,b⟩=>L) (fun ⟨a,b⟩ hh=>iter (sl_IndexInt_l0 s1 v2) a b = some e) (fun ⟨a,b⟩=>a) (FUEL,(0:Int)) ⟨z,trivial⟩ z H ?_
  rintro ⟨a,b⟩ s c k
  obtain ⟨m,t,rfl,H,d⟩:=iter_go k
  refine T.norm [8,0,1,7] z<|Sl_ (L) z<|Sr<|Vv (V.lt z z)<|Nt<|Sq<|T.cH H z (fun H=>?_) (fun H=>?_)
  ·refine T.skip<|Th<|Sq<|Bl<|Sr<|Mv z<|Ag z<|Nt<|Sr<|Mv z<|Mv z<|Mv z ?_
   obtain ⟨u,g,H⟩:=bnd H
   have i:=Slc.mono VI.mono pr0 c
   obtain ⟨w,n,rfl⟩:=Slc.at i g
   refine Vv (V.ix elsl_25 z z i (getI_bd g))<|Vv (V.ld0 shsl_3 z n z)<|Vv (V.eq z z)<|Nt<|T.cH H z (fun H=>?_) (fun H=>?_)
   ·refine Sr<|Mv z<|Ag z<|Nt<|T.ret<|Br<|Tr<|Tr<|have H:=iterK_out H d; Br<|Tr<|have H:=cutE H f; ?_
    obtain rfl:=Option.some.inj H
    exact T.retL Tryz.results135 (Rv z) c ⟨z,z⟩
   refine T.skip<|Bn<|Th<|Rg ?_
   obtain ⟨o,p,H⟩:=bnd H
   refine Vv (V.addS z z p)<|Mv z<|Nt<|T.again (m,o) c (Nat.lt_succ_self _) (iterK_in H d) (AllIn.app ⟨z,trivial⟩ ⟨z,z,z,trivial⟩) z
  refine T.exit<|Te<|Te<|have H:=iterK_out H d; Be<|Th<|T.met () c H (AllIn.app trivial trivial) z
 rintro _ x q r
 have H:=cutE r f
 refine T.norm [] z<|Sl_ (L) z<|Sr<|Ag z<|Nt<|T.ret ?_
 obtain rfl:=Option.some.inj H
 exact T.retL Tryz.results135 (Rv z) q ⟨z,z⟩
theorem sl_ContainsInt_ok {h:PH} {pv0:Value} {s1:List Int} (pr0:Slc (VI .i64) 1 h pv0 s1) {v2:Int} {r_0:Bool} (H:sl_ContainsInt s1 v2 = some r_0):∀ L,FnS Tryz.prog 71 [pv0,.int .i64 v2] h (L) (fun v h' L'=>v = .bool r_0∧L' = L):=by
 intro L
 refine FnS.enter Tryz.func71 z Tryz.ntmps71 z<|Sr<|Ag z<|Nt<|Sr<|Mv z<|Mv z ?_
 obtain ⟨e,a,H⟩:=bnd H
 refine To (O.callS z (sl_IndexInt_ok pr0 a _) z fun f g i b c=>?_)
 obtain ⟨rfl,d⟩:=c
 refine Sl_ _ d<|Vv (V.ge z z)<|Ag z<|Nt<|T.ret ?_
 obtain rfl:=Option.some.inj H
 exact T.retL Tryz.results71 (Rv z) b ⟨z,z⟩
theorem sl_IndexFuncInt_ok {h:PH} {pv0:Value} {s1:List Int} (pr0:Slc (VI .i64) 1 h pv0 s1) {pv1:Value} {f2:Int→Option Bool} (pr1:CF130 h pv1 f2) {r_0:Int} (H:sl_IndexFuncInt s1 f2 = some r_0):∀ L,FnS Tryz.prog 134 [pv0,pv1] h (L) (fun v h' L'=>v = .int .i64 r_0∧L' = L):=by
 intro L
 refine FnS.enter Tryz.func134 z Tryz.ntmps134 z<|Sr<|Ag z<|Nt<|Sq<|Sr<|Mv z<|Vv (V.lenS elsl_25 z pr0)<|Mv z<|Nt ?_
 obtain ⟨e,k,f⟩:=bndK H
 refine T.cutK (α:=Unit) [] z (fun _u=>[]) (fun _u=>L) (fun _u hh=>e = (Sum.inl ())) ?_ ?_
 ·have H:=k
  refine Bl<|T.loopK (α:=Nat×Int) [0,1,7] z (fun ⟨a,b⟩=>[(8,.int .i64 b)]) (fun ⟨a,b⟩=>L) (fun ⟨a,b⟩ hh=>iter (sl_IndexFuncInt_l0 s1 f2) a b = some e) (fun ⟨a,b⟩=>a) (FUEL,(0:Int)) ⟨z,trivial⟩ z H ?_
  rintro ⟨a,b⟩ D c m
  obtain ⟨n,E,rfl,H,d⟩:=iter_go m
  refine T.norm [8,0,1,7] z<|Sl_ (L) z<|Sr<|Vv (V.lt z z)<|Nt<|Sq<|T.cH H z (fun H=>?_) (fun H=>?_)
  ·refine T.skip<|Th<|Sq<|Bl<|Sr<|Mv z<|Ag z<|Nt<|Sr<|Mv z<|Mv z<|Mv z ?_
   obtain ⟨G,g,H⟩:=bnd H
   have i:=Slc.mono VI.mono pr0 c
   obtain ⟨I,o,rfl⟩:=Slc.at i g
   refine Vv (V.ix elsl_25 z z i (getI_bd g))<|Vv (V.ld0 shsl_3 z o z) ?_
   obtain ⟨J,p,H⟩:=bnd H
   have q:=CF130.mono pr1 c
   obtain ⟨K,M,N,r,s⟩:=CF130.call q p
   refine To (O.callfW z r z (s _) z fun P S U j t=>?_)
   obtain ⟨rfl,u⟩:=t
   refine Sl_ _ u<|Nt<|T.cH H z (fun H=>?_) (fun H=>?_)
   ·refine Sr<|Mv z<|Ag z<|Nt<|T.ret<|Br<|Tr<|Tr<|have H:=iterK_out H d; Br<|Tr<|have H:=cutE H f; ?_
    obtain rfl:=Option.some.inj H
    have w:=(c.trans j)
    exact T.retL Tryz.results134 (Rv z) w ⟨z,z⟩
   refine T.skip<|Bn<|Th<|Rg ?_
   obtain ⟨x,y,H⟩:=bnd H
   refine Vv (V.addS z z y)<|Mv z<|Nt<|have A:=(c.trans j); T.again (n,x) A (Nat.lt_succ_self _) (iterK_in H d) (AllIn.app ⟨z,trivial⟩ ⟨z,z,z,trivial⟩) z
  refine T.exit<|Te<|Te<|have H:=iterK_out H d; Be<|Th<|T.met () c H (AllIn.app trivial trivial) z
 rintro _ W B C
 have H:=cutE C f
 refine T.norm [] z<|Sl_ (L) z<|Sr<|Ag z<|Nt<|T.ret ?_
 obtain rfl:=Option.some.inj H
 exact T.retL Tryz.results134 (Rv z) B ⟨z,z⟩
theorem sl_ContainsFuncInt_ok {h:PH} {pv0:Value} {s1:List Int} (pr0:Slc (VI .i64) 1 h pv0 s1) {pv1:Value} {f2:Int→Option Bool} (pr1:CF130 h pv1 f2) {r_0:Bool} (H:sl_ContainsFuncInt s1 f2 = some r_0):∀ L,FnS Tryz.prog 69 [pv0,pv1] h (L) (fun v h' L'=>v = .bool r_0∧L' = L):=by
 intro L
 refine FnS.enter Tryz.func69 z Tryz.ntmps69 z<|Sr<|Ag z<|Nt<|Sr<|Mv z<|Mv z ?_
 obtain ⟨e,a,H⟩:=bnd H
 refine To (O.callS z (sl_IndexFuncInt_ok pr0 pr1 a _) z fun f g i b c=>?_)
 obtain ⟨rfl,d⟩:=c
 refine Sl_ _ d<|Vv (V.ge z z)<|Ag z<|Nt<|T.ret ?_
 obtain rfl:=Option.some.inj H
 exact T.retL Tryz.results69 (Rv z) b ⟨z,z⟩
theorem sl_IndexFuncTable_ok {h:PH} {pv0:Value} {s1:List apiTable} (pr0:Slc VapiTable 7 h pv0 s1) {pv1:Value} {f2:apiTable→Option Bool} (pr1:CF254 h pv1 f2) {r_0:Int} (H:sl_IndexFuncTable s1 f2 = some r_0):∀ L,FnS Tryz.prog 191 [pv0,pv1] h (L) (fun v h' L'=>v = .int .i64 r_0∧L' = L):=by
 intro L
 refine FnS.enter Tryz.func191 z Tryz.ntmps191 z<|Sr<|Ag z<|Nt<|Sq<|Sr<|Mv z<|Vv (V.lenS elsl_22 z pr0)<|Mv z<|Nt ?_
 obtain ⟨f,n,g⟩:=bndK H
 refine T.cutK (α:=Unit) [] z (fun _u=>[]) (fun _u=>L) (fun _u hh=>f = (Sum.inl ())) ?_ ?_
 ·have H:=n
  refine Bl<|T.loopK (α:=Nat×Int) [0,1,7] z (fun ⟨b,c⟩=>[(8,.int .i64 c)]) (fun ⟨b,c⟩=>L) (fun ⟨b,c⟩ hh=>iter (sl_IndexFuncTable_l0 s1 f2) b c = some f) (fun ⟨b,c⟩=>b) (FUEL,(0:Int)) ⟨z,trivial⟩ z H ?_
  rintro ⟨b,c⟩ o d p
  obtain ⟨q,J,rfl,H,e⟩:=iter_go p
  refine T.norm [8,0,1,7] z<|Sl_ (L) z<|Sr<|Vv (V.lt z z)<|Nt<|Sq<|T.cH H z (fun H=>?_) (fun H=>?_)
  ·refine T.skip<|Th<|Sq<|Bl<|Sr<|Mv z<|Ag z<|Nt<|Sr<|Mv z<|Mv z<|Mv z ?_
   obtain ⟨a,i,H⟩:=bnd H
   have j:=Slc.mono VapiTable.mono pr0 d
   obtain ⟨K,r,⟨k,rfl,s⟩⟩:=Slc.at j i
   refine Vv (V.ix elsl_22 rfl rfl j (getI_bd i))<|Vv (V.ldS rfl r (by exact shsl_31)) ?_
   obtain ⟨M,t,H⟩:=bnd H
   have u:=CF254.mono pr1 d
   obtain ⟨N,P,S,w,x⟩:=CF254.call u (show VapiTable o [.string a.fName,.int .u8 a.fShape,.int .i64 a.fA,.int .i64 a.fB,k,.int .i64 a.fX,.int .i64 a.fY] a from ⟨k,rfl,s⟩) t
   refine To (O.callfW z w z (x _) z fun U W X m y=>?_)
   obtain ⟨rfl,A⟩:=y
   refine Sl_ _ A<|Nt<|T.cH H z (fun H=>?_) (fun H=>?_)
   ·refine Sr<|Mv z<|Ag z<|Nt<|T.ret<|Br<|Tr<|Tr<|have H:=iterK_out H e; Br<|Tr<|have H:=cutE H g; ?_
    obtain rfl:=Option.some.inj H
    have B:=(d.trans m)
    exact T.retL Tryz.results191 (Rv z) B ⟨z,z⟩
   refine T.skip<|Bn<|Th<|Rg ?_
   obtain ⟨C,D,H⟩:=bnd H
   refine Vv (V.addS z z D)<|Mv z<|Nt<|have E:=(d.trans m); T.again (q,C) E (Nat.lt_succ_self _) (iterK_in H e) (AllIn.app ⟨z,trivial⟩ ⟨z,z,z,trivial⟩) z
  refine T.exit<|Te<|Te<|have H:=iterK_out H e; Be<|Th<|T.met () d H (AllIn.app trivial trivial) z
 rintro _ Y G I
 have H:=cutE I g
 refine T.norm [] z<|Sl_ (L) z<|Sr<|Ag z<|Nt<|T.ret ?_
 obtain rfl:=Option.some.inj H
 exact T.retL Tryz.results191 (Rv z) G ⟨z,z⟩
theorem sl_ContainsFuncTable_ok {h:PH} {pv0:Value} {s1:List apiTable} (pr0:Slc VapiTable 7 h pv0 s1) {pv1:Value} {f2:apiTable→Option Bool} (pr1:CF254 h pv1 f2) {r_0:Bool} (H:sl_ContainsFuncTable s1 f2 = some r_0):∀ L,FnS Tryz.prog 201 [pv0,pv1] h (L) (fun v h' L'=>v = .bool r_0∧L' = L):=by
 intro L
 refine FnS.enter Tryz.func201 z Tryz.ntmps201 z<|Sr<|Ag z<|Nt<|Sr<|Mv z<|Mv z ?_
 obtain ⟨e,a,H⟩:=bnd H
 refine To (O.callS z (sl_IndexFuncTable_ok pr0 pr1 a _) z fun f g i b c=>?_)
 obtain ⟨rfl,d⟩:=c
 refine Sl_ _ d<|Vv (V.ge z z)<|Ag z<|Nt<|T.ret ?_
 obtain rfl:=Option.some.inj H
 exact T.retL Tryz.results201 (Rv z) b ⟨z,z⟩
theorem sl_IndexFuncGuest_ok {h:PH} {pv0:Value} {s1:List apiGuest} (pr0:Slc VapiGuest 9 h pv0 s1) {pv1:Value} {f2:apiGuest→Option Bool} (pr1:CF233 h pv1 f2) {r_0:Int} (H:sl_IndexFuncGuest s1 f2 = some r_0):∀ L,FnS Tryz.prog 173 [pv0,pv1] h (L) (fun v h' L'=>v = .int .i64 r_0∧L' = L):=by
 intro L
 refine FnS.enter Tryz.func173 z Tryz.ntmps173 z<|Sr<|Ag z<|Nt<|Sq<|Sr<|Mv z<|Vv (V.lenS elsl_23 z pr0)<|Mv z<|Nt ?_
 obtain ⟨f,n,g⟩:=bndK H
 refine T.cutK (α:=Unit) [] z (fun _u=>[]) (fun _u=>L) (fun _u hh=>f = (Sum.inl ())) ?_ ?_
 ·have H:=n
  refine Bl<|T.loopK (α:=Nat×Int) [0,1,7] z (fun ⟨b,c⟩=>[(8,.int .i64 c)]) (fun ⟨b,c⟩=>L) (fun ⟨b,c⟩ hh=>iter (sl_IndexFuncGuest_l0 s1 f2) b c = some f) (fun ⟨b,c⟩=>b) (FUEL,(0:Int)) ⟨z,trivial⟩ z H ?_
  rintro ⟨b,c⟩ o d p
  obtain ⟨q,J,rfl,H,e⟩:=iter_go p
  refine T.norm [8,0,1,7] z<|Sl_ (L) z<|Sr<|Vv (V.lt z z)<|Nt<|Sq<|T.cH H z (fun H=>?_) (fun H=>?_)
  ·refine T.skip<|Th<|Sq<|Bl<|Sr<|Mv z<|Ag z<|Nt<|Sr<|Mv z<|Mv z<|Mv z ?_
   obtain ⟨a,i,H⟩:=bnd H
   have j:=Slc.mono VapiGuest.mono pr0 d
   obtain ⟨K,r,⟨k,rfl,s⟩⟩:=Slc.at j i
   refine Vv (V.ix elsl_23 rfl rfl j (getI_bd i))<|Vv (V.ldS rfl r (by exact shsl_35)) ?_
   obtain ⟨M,t,H⟩:=bnd H
   have u:=CF233.mono pr1 d
   obtain ⟨N,P,S,w,x⟩:=CF233.call u (show VapiGuest o [.string a.fName,.string a.fRank,.string a.fCourt,.int .i64 a.fSince,.int .i64 a.fSide,.string a.fDiet,.bool a.fHost,.bool a.fAccess,k] a from ⟨k,rfl,s⟩) t
   refine To (O.callfW z w z (x _) z fun U W X m y=>?_)
   obtain ⟨rfl,A⟩:=y
   refine Sl_ _ A<|Nt<|T.cH H z (fun H=>?_) (fun H=>?_)
   ·refine Sr<|Mv z<|Ag z<|Nt<|T.ret<|Br<|Tr<|Tr<|have H:=iterK_out H e; Br<|Tr<|have H:=cutE H g; ?_
    obtain rfl:=Option.some.inj H
    have B:=(d.trans m)
    exact T.retL Tryz.results173 (Rv z) B ⟨z,z⟩
   refine T.skip<|Bn<|Th<|Rg ?_
   obtain ⟨C,D,H⟩:=bnd H
   refine Vv (V.addS z z D)<|Mv z<|Nt<|have E:=(d.trans m); T.again (q,C) E (Nat.lt_succ_self _) (iterK_in H e) (AllIn.app ⟨z,trivial⟩ ⟨z,z,z,trivial⟩) z
  refine T.exit<|Te<|Te<|have H:=iterK_out H e; Be<|Th<|T.met () d H (AllIn.app trivial trivial) z
 rintro _ Y G I
 have H:=cutE I g
 refine T.norm [] z<|Sl_ (L) z<|Sr<|Ag z<|Nt<|T.ret ?_
 obtain rfl:=Option.some.inj H
 exact T.retL Tryz.results173 (Rv z) G ⟨z,z⟩
theorem cmp_isNaNInt_ok {h:PH} {x1:Int} {r_0:Bool} (H:cmp_isNaNInt x1 = some r_0):∀ L,FnS Tryz.prog 346 [.int .i64 x1] h (L) (fun v h' L'=>v = .bool r_0∧L' = L):=by
 intro L
 refine FnS.enter Tryz.func346 z Tryz.ntmps346 z<|Sr<|Ag z<|Nt<|Sr<|Mv z<|Mv z<|Vv (V.ne z z)<|Ag z<|Nt<|T.ret ?_
 obtain rfl:=Option.some.inj H
 exact T.retL Tryz.results346 (Rv z) Lr ⟨z,z⟩
theorem cmp_CompareInt_ok {h:PH} {x1:Int} {y2:Int} {r_0:Int} (H:cmp_CompareInt x1 y2 = some r_0):∀ L,FnS Tryz.prog 362 [.int .i64 x1,.int .i64 y2] h (L) (fun v h' L'=>v = .int .i64 r_0∧L' = L):=by
 intro L
 refine FnS.enter Tryz.func362 z Tryz.ntmps362 z<|Sr<|Ag z<|Nt<|Sr<|Mv z ?_
 obtain ⟨k,a,H⟩:=bnd H
 refine To (O.callS z (cmp_isNaNInt_ok a _) z fun m n o b c=>?_)
 obtain ⟨rfl,d⟩:=c
 refine Sl_ _ d<|Ag z<|Nt<|Sr<|Mv z ?_
 obtain ⟨p,e,H⟩:=bnd H
 refine To (O.callS z (cmp_isNaNInt_ok e _) z fun q r s f g=>?_)
 obtain ⟨rfl,i⟩:=g
 refine Sl_ _ i<|Ag z<|Nt<|Sq<|Sr<|Mv z<|Nt<|T.cH H z (fun H=>?_) (fun H=>?_)
 ·exact dead H
 refine T.skip<|Th<|Sq<|Sr<|Mv z<|Nt<|T.cH H z (fun H=>?_) (fun H=>?_)
 ·exact dead H
 refine T.skip<|Th<|Sq<|Sr<|Mv z<|Mv z<|Vv (V.lt z z)<|Nt<|T.cH H z (fun H=>?_) (fun H=>?_)
 ·exact dead H
 refine T.skip<|Th<|Sq<|Sr<|Mv z<|Mv z<|Vv (V.gt z z)<|Nt<|T.cH H z (fun H=>?_) (fun H=>?_)
 ·exact dead H
 refine T.skip<|Th<|Sr<|Ag z<|Nt<|T.ret ?_
 obtain rfl:=Option.some.inj H
 have j:=(b.trans f)
 exact T.retL Tryz.results362 (Rv z) j ⟨z,z⟩
theorem cmp_LessInt_ok {h:PH} {x1:Int} {y2:Int} {r_0:Bool} (H:cmp_LessInt x1 y2 = some r_0):∀ L,FnS Tryz.prog 303 [.int .i64 x1,.int .i64 y2] h (L) (fun v h' L'=>v = .bool r_0∧L' = L):=by
 intro L
 refine FnS.enter Tryz.func303 z Tryz.ntmps303 z<|Sr<|Ag z<|Nt<|Sr<|Mv z ?_
 obtain ⟨e,a,H⟩:=bnd H
 refine To (O.callS z (cmp_isNaNInt_ok a _) z fun f g i b c=>?_)
 obtain ⟨rfl,d⟩:=c
 refine Sl_ _ d<|Mv z<|T.bH 7 H z (fun H=>?_) (fun H=>?_)
 ·exact dead H
 refine Sk<|Sk<|Sk<|Vv (V.pkF z z)<|Mv z<|Mv z<|Mv z<|Vv (V.lt z z)<|Vv (V.pkF z z)<|Ag z<|Nt<|T.ret ?_
 obtain rfl:=Option.some.inj H
 exact T.retL Tryz.results303 (Rv z) b ⟨z,z⟩
theorem sl_CompareInt_ok {h:PH} {pv0:Value} {s11:List Int} (pr0:Slc (VI .i64) 1 h pv0 s11) {pv1:Value} {s22:List Int} (pr1:Slc (VI .i64) 1 h pv1 s22) {r_0:Int} (H:sl_CompareInt s11 s22 = some r_0):∀ L,FnS Tryz.prog 340 [pv0,pv1] h (L) (fun v h' L'=>v = .int .i64 r_0∧L' = L):=by
 intro L
 refine FnS.enter Tryz.func340 z Tryz.ntmps340 z<|Sr<|Ag z<|Nt<|Sq<|Sr<|Mv z<|Vv (V.lenS elsl_25 z pr0)<|Mv z<|Nt ?_
 obtain ⟨f,m,n⟩:=bndK H
 refine T.cutK (α:=Unit) [0,1] z (fun _u=>[]) (fun _u=>L) (fun _u hh=>f = ()) ?_ ?_
 ·have H:=m
  refine Bl<|T.loopK (α:=Nat×Int) [0,1,9,10] z (fun ⟨a,b⟩=>[(11,.int .i64 b)]) (fun ⟨a,b⟩=>L) (fun ⟨a,b⟩ hh=>iter (sl_CompareInt_l0 s11 s22) a b = some f) (fun ⟨a,b⟩=>a) (FUEL,(0:Int)) ⟨z,trivial⟩ z H ?_
  rintro ⟨a,b⟩ E c o
  obtain ⟨p,G,rfl,H,g⟩:=iter_go o
  refine T.norm [11,0,1,9,10] z<|Sl_ (L) z<|Sr<|Vv (V.lt z z)<|Nt<|Sq<|T.cH H z (fun H=>?_) (fun H=>?_)
  ·refine T.skip<|Th<|Sq<|Bl<|Sr<|Mv z ?_
   obtain ⟨I,i,H⟩:=bnd H
   have j:=Slc.mono VI.mono pr0 c
   obtain ⟨J,q,rfl⟩:=Slc.at j i
   refine Vv (V.ix elsl_25 z z j (getI_bd i))<|Vv (V.ld0 shsl_3 z q z)<|Ag z<|Ag z<|Nt<|Sq<|Sr<|Mv z<|Mv z<|have d:=Slc.mono VI.mono pr1 c; Vv (V.lenS elsl_25 z d)<|Vv (V.ge z z)<|Nt<|T.cH H z (fun H=>?_) (fun H=>?_)
   ·exact dead H
   refine T.skip<|Th<|Sr<|Mv z<|Mv z ?_
   obtain ⟨K,k,H⟩:=bnd H
   obtain ⟨M,r,rfl⟩:=Slc.at d k
   refine Vv (V.ix elsl_25 z z d (getI_bd k))<|Vv (V.ld0 shsl_3 z r z)<|Ag z<|Nt<|Sr<|Mv z<|Mv z ?_
   obtain ⟨N,s,H⟩:=bnd H
   refine To (O.callS z (cmp_CompareInt_ok s _) z fun P S U t u=>?_)
   obtain ⟨rfl,w⟩:=u
   refine Sl_ _ w<|Ag z<|Nt<|Sr<|Mv z<|Vv (V.ne z z)<|Nt<|T.cH H z (fun H=>?_) (fun H=>?_)
   ·exact dead H
   refine T.skip<|Bn<|Th<|Rg ?_
   obtain ⟨x,y,H⟩:=bnd H
   refine Vv (V.addS z z y)<|Mv z<|Nt<|have A:=(c.trans t); T.again (p,x) A (Nat.lt_succ_self _) (iterK_in H g) (AllIn.app ⟨z,trivial⟩ ⟨z,z,z,z,trivial⟩) z
  refine T.exit<|Te<|Te<|have H:=iterK_out H g; Be<|Th<|T.met () c H (AllIn.app trivial ⟨z,z,trivial⟩) z
 rintro _ W e B
 have H:=cutE B n
 refine T.norm [0,1] z<|Sl_ (L) z<|Sq<|Sr<|Mv z<|have C:=Slc.mono VI.mono pr0 e; Vv (V.lenS elsl_25 z C)<|Mv z<|have D:=Slc.mono VI.mono pr1 e; Vv (V.lenS elsl_25 z D)<|Vv (V.lt z z)<|Nt<|T.cH H z (fun H=>?_) (fun H=>?_)
 ·exact dead H
 refine T.skip<|Th<|Sr<|Ag z<|Nt<|T.ret ?_
 obtain rfl:=Option.some.inj H
 exact T.retL Tryz.results340 (Rv z) e ⟨z,z⟩
theorem sl_EqualInt_ok {h:PH} {pv0:Value} {s11:List Int} (pr0:Slc (VI .i64) 1 h pv0 s11) {pv1:Value} {s22:List Int} (pr1:Slc (VI .i64) 1 h pv1 s22) {r_0:Bool} (H:sl_EqualInt s11 s22 = some r_0):∀ L,FnS Tryz.prog 342 [pv0,pv1] h (L) (fun v h' L'=>v = .bool r_0∧L' = L):=by
 intro L
 refine FnS.enter Tryz.func342 z Tryz.ntmps342 z<|Sr<|Ag z<|Nt<|Sq<|Sr<|Mv z<|Vv (V.lenS elsl_25 z pr0)<|Mv z<|Vv (V.lenS elsl_25 z pr1)<|Vv (V.ne z z)<|Nt<|T.cH H z (fun H=>?_) (fun H=>?_)
 ·exact dead H
 refine T.skip<|Th<|Sq<|Sr<|Mv z<|Vv (V.lenS elsl_25 z pr0)<|Mv z<|Nt ?_
 obtain ⟨d,k,m⟩:=bndK H
 refine T.cutK (α:=Unit) [] z (fun _u=>[]) (fun _u=>L) (fun _u hh=>d = ()) ?_ ?_
 ·have H:=k
  refine Bl<|T.loopK (α:=Nat×Int) [0,1,12] z (fun ⟨a,b⟩=>[(13,.int .i64 b)]) (fun ⟨a,b⟩=>L) (fun ⟨a,b⟩ hh=>iter (sl_EqualInt_l0 s11 s22) a b = some d) (fun ⟨a,b⟩=>a) (FUEL,(0:Int)) ⟨z,trivial⟩ z H ?_
  rintro ⟨a,b⟩ x c n
  obtain ⟨o,y,rfl,H,e⟩:=iter_go n
  refine T.norm [13,0,1,12] z<|Sl_ (L) z<|Sr<|Vv (V.lt z z)<|Nt<|Sq<|T.cH H z (fun H=>?_) (fun H=>?_)
  ·refine T.skip<|Th<|Sq<|Bl<|Sr<|Mv z<|Ag z<|Nt<|Sq<|T.drawF (t:=(.v 0 (.v 1 (.v 2 (.v 3 (.v 4 (.v 5 (.v 6 (.v 7 (.v 8 .done)))))))))) 10 0 0 rfl rfl slmixed (by kernel_rfl) ?_
   refine Tm z z<|Tm z z ?_
   obtain ⟨A,f,H⟩:=bnd H
   have g:=Slc.mono VI.mono pr0 c
   obtain ⟨B,p,rfl⟩:=Slc.at g f
   refine Tv z (V.ix elsl_25 z z g (getI_bd f))<|Tv z (V.ld0 shsl_3 z p z)<|Tm z z<|Tm z z ?_
   obtain ⟨C,i,H⟩:=bnd H
   have j:=Slc.mono VI.mono pr1 c
   obtain ⟨D,q,rfl⟩:=Slc.at j i
   refine Tv z (V.ix elsl_25 z z j (getI_bd i))<|Tv z (V.ld0 shsl_3 z q z)<|Tv z (V.ne z z)<|T.tnil (SX.two (XA.fr [] Lr z) (XA.fr [] Lr z))<|Th<|T.cH H z (fun H=>?_) (fun H=>?_)
   ·exact dead H
   refine T.skip<|Bn<|Th<|Rg ?_
   obtain ⟨r,s,H⟩:=bnd H
   refine Vv (V.addS z z s)<|Mv z<|Nt<|T.again (o,r) c (Nat.lt_succ_self _) (iterK_in H e) (AllIn.app ⟨z,trivial⟩ ⟨z,z,z,trivial⟩) z
  refine T.exit<|Te<|Te<|have H:=iterK_out H e; Be<|Th<|T.met () c H (AllIn.app trivial trivial) z
 rintro _ E u w
 have H:=cutE w m
 refine T.norm [] z<|Sl_ (L) z<|Sr<|Ag z<|Nt<|T.ret ?_
 obtain rfl:=Option.some.inj H
 exact T.retL Tryz.results342 (Rv z) u ⟨z,z⟩
theorem sl_CloneInt_ok {h:PH} {pv0:Value} {s1:List Int} (pr0:Slc (VI .i64) 1 h pv0 s1) {r_0:List Int} (H:sl_CloneInt s1 = some r_0):∀ L,FnS Tryz.prog 29 [pv0] h (L) (fun v h' L'=>∃ cs0,L' = rowR 3 1 v cs0::L∧RowF (VI .i64) h' cs0 r_0):=by
 intro L
 refine FnS.enter Tryz.func29 z Tryz.ntmps29 z<|Sr<|Ag z<|Nt<|Sq<|Sr<|Mv z<|Vv (V.nilEq elsl_25 z pr0)<|Nt<|T.cond (b:=nilB pv0) z (fun c=>?_) (fun c=>?_)
 ·have H:=cloneNil (Slc.nilB pr0 c) H
  refine Sr<|Ag z<|Nt<|T.ret<|Tr<|T.rowNil 3 1<|have g:RowF (VI .i64) h [] ([]:List Int):=RowF.nil; ?_
  obtain rfl:=Option.some.inj H
  exact T.retL Tryz.results29 (Rv z) Lr ⟨_,z,g⟩
 refine T.skip<|Th<|Sr<|To (O.bs0 elsl_25 z fun n=>have d:RowF (VI .i64) h [] ([]:List Int):=RowF.nil; Mv z ?_)
 obtain ⟨i,e,a⟩:=Slc.row pr0
 obtain ⟨k,f,H⟩:=bnd H
 refine To (O.apX elsl_25 elsl_25 zesl_3 z z z (j:=0) z (Src.fix e) e.wide (RowF.ones VI.plain a) d a f z fun o p q=>have m:RowF (VI .i64) h ([] ++ i) k:=RowF.ap d a f; Ag z<|Nt<|T.ret ?_)
 obtain rfl:=Option.some.inj H
 exact T.retL Tryz.results29 (Rv z) Lr ⟨_,z,m⟩
theorem sl_CloneTable_ok {h:PH} {pv0:Value} {s1:List apiTable} (pr0:Slc VapiTable 7 h pv0 s1) {r_0:List apiTable} (H:sl_CloneTable s1 = some r_0):∀ L,FnS Tryz.prog 117 [pv0] h (L) (fun v h' L'=>∃ cs0,L' = rowR 31 7 v cs0::L∧RowF VapiTable h' cs0 r_0):=by
 intro L
 refine FnS.enter Tryz.func117 z Tryz.ntmps117 z<|Sr<|Ag z<|Nt<|Sq<|Sr<|Mv z<|Vv (V.nilEq elsl_22 z pr0)<|Nt<|T.cond (b:=nilB pv0) z (fun c=>?_) (fun c=>?_)
 ·have H:=cloneNil (Slc.nilB pr0 c) H
  refine Sr<|Ag z<|Nt<|T.ret<|Tr<|T.rowNil 31 7<|have g:RowF VapiTable h [] ([]:List apiTable):=RowF.nil; ?_
  obtain rfl:=Option.some.inj H
  exact T.retL Tryz.results117 (Rv z) Lr ⟨_,z,g⟩
 refine T.skip<|Th<|Sr<|To (O.bs0 elsl_22 z fun n=>have d:RowF VapiTable h [] ([]:List apiTable):=RowF.nil; Mv z ?_)
 obtain ⟨i,e,a⟩:=Slc.row pr0
 obtain ⟨k,f,H⟩:=bnd H
 refine To (O.apX elsl_22 elsl_22 zesl_31 z z z (j:=0) z (Src.fix e) e.wide (RowF.ones VapiTable.plain a) d a f z fun o p q=>have m:RowF VapiTable h ([] ++ i) k:=RowF.ap d a f; Ag z<|Nt<|T.ret ?_)
 obtain rfl:=Option.some.inj H
 exact T.retL Tryz.results117 (Rv z) Lr ⟨_,z,m⟩
theorem sl_CloneGuest_ok {h:PH} {pv0:Value} {s1:List apiGuest} (pr0:Slc VapiGuest 9 h pv0 s1) {r_0:List apiGuest} (H:sl_CloneGuest s1 = some r_0):∀ L,FnS Tryz.prog 118 [pv0] h (L) (fun v h' L'=>∃ cs0,L' = rowR 35 9 v cs0::L∧RowF VapiGuest h' cs0 r_0):=by
 intro L
 refine FnS.enter Tryz.func118 z Tryz.ntmps118 z<|Sr<|Ag z<|Nt<|Sq<|Sr<|Mv z<|Vv (V.nilEq elsl_23 z pr0)<|Nt<|T.cond (b:=nilB pv0) z (fun c=>?_) (fun c=>?_)
 ·have H:=cloneNil (Slc.nilB pr0 c) H
  refine Sr<|Ag z<|Nt<|T.ret<|Tr<|T.rowNil 35 9<|have g:RowF VapiGuest h [] ([]:List apiGuest):=RowF.nil; ?_
  obtain rfl:=Option.some.inj H
  exact T.retL Tryz.results118 (Rv z) Lr ⟨_,z,g⟩
 refine T.skip<|Th<|Sr<|To (O.bs0 elsl_23 z fun n=>have d:RowF VapiGuest h [] ([]:List apiGuest):=RowF.nil; Mv z ?_)
 obtain ⟨i,e,a⟩:=Slc.row pr0
 obtain ⟨k,f,H⟩:=bnd H
 refine To (O.apX elsl_23 elsl_23 zesl_35 z z z (j:=0) z (Src.fix e) e.wide (RowF.ones VapiGuest.plain a) d a f z fun o p q=>have m:RowF VapiGuest h ([] ++ i) k:=RowF.ap d a f; Ag z<|Nt<|T.ret ?_)
 obtain rfl:=Option.some.inj H
 exact T.retL Tryz.results118 (Rv z) Lr ⟨_,z,m⟩
theorem sl_CloneStr_ok {h:PH} {pv0:Value} {s1:List ByteArray} (pr0:Slc VS 1 h pv0 s1) {r_0:List ByteArray} (H:sl_CloneStr s1 = some r_0):∀ L,FnS Tryz.prog 90 [pv0] h (L) (fun v h' L'=>∃ cs0,L' = rowR 9 1 v cs0::L∧RowF VS h' cs0 r_0):=by
 intro L
 refine FnS.enter Tryz.func90 z Tryz.ntmps90 z<|Sr<|Ag z<|Nt<|Sq<|Sr<|Mv z<|Vv (V.nilEq elsl_33 z pr0)<|Nt<|T.cond (b:=nilB pv0) z (fun c=>?_) (fun c=>?_)
 ·have H:=cloneNil (Slc.nilB pr0 c) H
  refine Sr<|Ag z<|Nt<|T.ret<|Tr<|T.rowNil 9 1<|have g:RowF VS h [] ([]:List ByteArray):=RowF.nil; ?_
  obtain rfl:=Option.some.inj H
  exact T.retL Tryz.results90 (Rv z) Lr ⟨_,z,g⟩
 refine T.skip<|Th<|Sr<|To (O.bs0 elsl_33 z fun n=>have d:RowF VS h [] ([]:List ByteArray):=RowF.nil; Mv z ?_)
 obtain ⟨i,e,a⟩:=Slc.row pr0
 obtain ⟨k,f,H⟩:=bnd H
 refine To (O.apX elsl_33 elsl_33 zesl_9 z z z (j:=0) z (Src.fix e) e.wide (RowF.ones VS.plain a) d a f z fun o p q=>have m:RowF VS h ([] ++ i) k:=RowF.ap d a f; Ag z<|Nt<|T.ret ?_)
 obtain rfl:=Option.some.inj H
 exact T.retL Tryz.results90 (Rv z) Lr ⟨_,z,m⟩
theorem sl_CloneTie_ok {h:PH} {pv0:Value} {s1:List apiTie} (pr0:Slc VapiTie 3 h pv0 s1) {r_0:List apiTie} (H:sl_CloneTie s1 = some r_0):∀ L,FnS Tryz.prog 119 [pv0] h (L) (fun v h' L'=>∃ cs0,L' = rowR 164 3 v cs0::L∧RowF VapiTie h' cs0 r_0):=by
 intro L
 refine FnS.enter Tryz.func119 z Tryz.ntmps119 z<|Sr<|Ag z<|Nt<|Sq<|Sr<|Mv z<|Vv (V.nilEq elsl_24 z pr0)<|Nt<|T.cond (b:=nilB pv0) z (fun c=>?_) (fun c=>?_)
 ·have H:=cloneNil (Slc.nilB pr0 c) H
  refine Sr<|Ag z<|Nt<|T.ret<|Tr<|T.rowNil 164 3<|have g:RowF VapiTie h [] ([]:List apiTie):=RowF.nil; ?_
  obtain rfl:=Option.some.inj H
  exact T.retL Tryz.results119 (Rv z) Lr ⟨_,z,g⟩
 refine T.skip<|Th<|Sr<|To (O.bs0 elsl_24 z fun n=>have d:RowF VapiTie h [] ([]:List apiTie):=RowF.nil; Mv z ?_)
 obtain ⟨i,e,a⟩:=Slc.row pr0
 obtain ⟨k,f,H⟩:=bnd H
 refine To (O.apX elsl_24 elsl_24 zesl_164 z z z (j:=0) z (Src.fix e) e.wide (RowF.ones VapiTie.plain a) d a f z fun o p q=>have m:RowF VapiTie h ([] ++ i) k:=RowF.ap d a f; Ag z<|Nt<|T.ret ?_)
 obtain rfl:=Option.some.inj H
 exact T.retL Tryz.results119 (Rv z) Lr ⟨_,z,m⟩
theorem sl_CloneRule_ok {h:PH} {pv0:Value} {s1:List apiRule} (pr0:Slc VapiRule 6 h pv0 s1) {r_0:List apiRule} (H:sl_CloneRule s1 = some r_0):∀ L,FnS Tryz.prog 120 [pv0] h (L) (fun v h' L'=>∃ cs0,L' = rowR 39 6 v cs0::L∧RowF VapiRule h' cs0 r_0):=by
 intro L
 refine FnS.enter Tryz.func120 z Tryz.ntmps120 z<|Sr<|Ag z<|Nt<|Sq<|Sr<|Mv z<|Vv (V.nilEq elsl_26 z pr0)<|Nt<|T.cond (b:=nilB pv0) z (fun c=>?_) (fun c=>?_)
 ·have H:=cloneNil (Slc.nilB pr0 c) H
  refine Sr<|Ag z<|Nt<|T.ret<|Tr<|T.rowNil 39 6<|have g:RowF VapiRule h [] ([]:List apiRule):=RowF.nil; ?_
  obtain rfl:=Option.some.inj H
  exact T.retL Tryz.results120 (Rv z) Lr ⟨_,z,g⟩
 refine T.skip<|Th<|Sr<|To (O.bs0 elsl_26 z fun n=>have d:RowF VapiRule h [] ([]:List apiRule):=RowF.nil; Mv z ?_)
 obtain ⟨i,e,a⟩:=Slc.row pr0
 obtain ⟨k,f,H⟩:=bnd H
 refine To (O.apX elsl_26 elsl_26 zesl_39 z z z (j:=0) z (Src.fix e) e.wide (RowF.ones VapiRule.plain a) d a f z fun o p q=>have m:RowF VapiRule h ([] ++ i) k:=RowF.ap d a f; Ag z<|Nt<|T.ret ?_)
 obtain rfl:=Option.some.inj H
 exact T.retL Tryz.results120 (Rv z) Lr ⟨_,z,m⟩
end Go.Proofs.X
open Go Go.Proofs Go.Sl Go.Dm
namespace Go.Proofs.X
theorem sortmixed : Tryz.prog.follows .mixedOrders = true := by kernel_rfl
theorem elsort_106 : elSh Tryz.prog 106 = some (25, 1, 24) := by kernel_rfl
theorem elsort_25 : elSh Tryz.prog 25 = some (3, 1, 8) := by kernel_rfl
theorem shsort_25 : tySh Tryz.prog 25 = some (false, 1) := by kernel_rfl
theorem shsort_3 : tySh Tryz.prog 3 = some (false, 1) := by kernel_rfl
theorem bits_Len64_ok {h:PH} {x1:Int} {r_0:Int} (H:bits_Len64 x1 = some r_0):∀ L,FnS Tryz.prog 270 [.int .u64 x1] h (L) (fun v h' L'=>v = .int .i64 r_0∧L' = L):=by
 intro L
 refine FnS.enter Tryz.func270 z Tryz.ntmps270 z<|Sr<|Ag z<|Nt<|Sq<|Sr<|Mv z<|Vv (V.ge z z)<|Nt<|T.cH H z (fun H=>?_) (fun H=>?_)
 ·exact dead H
 refine T.skip<|Th<|Sq<|Sr<|Mv z<|Vv (V.ge z z)<|Nt<|T.cH H z (fun H=>?_) (fun H=>?_)
 ·exact dead H
 refine T.skip<|Th<|Sq<|Sr<|Mv z<|Vv (V.ge z z)<|Nt<|T.cH H z (fun H=>?_) (fun H=>?_)
 ·exact dead H
 refine T.skip<|Th<|Sr<|Mv z<|Mv z ?_
 obtain ⟨e,a,H⟩:=bnd H
 refine Vv (V.convS Tryz.underlying305 Tryz.underlying5 z a) ?_
 obtain ⟨f,b,H⟩:=bnd H
 refine Vv (V.idxS Tryz.underlying9 z z b) ?_
 obtain ⟨g,c,H⟩:=bnd H
 refine Vv (V.convS Tryz.underlying5 Tryz.underlying3 z c) ?_
 obtain ⟨i,d,H⟩:=bnd H
 refine Vv (V.addS z z d)<|Ag z<|Nt<|T.ret ?_
 obtain rfl:=Option.some.inj H
 exact T.retL Tryz.results270 (Rv z) Lr ⟨z,z⟩
theorem bits_Len_ok {h:PH} {x1:Int} {r_0:Int} (H:bits_Len x1 = some r_0):∀ L,FnS Tryz.prog 189 [.int .u64 x1] h (L) (fun v h' L'=>v = .int .i64 r_0∧L' = L):=by
 intro L
 refine FnS.enter Tryz.func189 z Tryz.ntmps189 z<|Sr<|Ag z<|Nt<|Sq<|Cf z<|T.skip<|Th<|Sr<|Mv z ?_
 obtain ⟨e,a,H⟩:=bnd H
 refine To (O.callS z (bits_Len64_ok a _) z fun f g i b c=>?_)
 obtain ⟨rfl,d⟩:=c
 refine Sl_ _ d<|Ag z<|Nt<|T.ret ?_
 obtain rfl:=Option.some.inj H
 exact T.retL Tryz.results189 (Rv z) b ⟨z,z⟩
theorem sl_insOrd_ok {h:PH} {pv0:Value} {pcs0:List (List Value)} {data1:List Int} (pr0:RowF (VI .i64) h pcs0 data1) {a3:Int} {b4:Int} {q_0:List Int} (H:sl_insOrd data1 a3 b4 = some q_0):∀ L,FnS Tryz.prog 297 [pv0,.int .i64 a3,.int .i64 b4] h (rowR 3 1 pv0 pcs0::L) (fun v h' L'=>∃ ls0,v = .tuple #[]∧L' = rowR 3 1 pv0 ls0::L∧RowF (VI .i64) h' ls0 q_0):=by
 intro L
 refine FnS.enter Tryz.func297 z Tryz.ntmps297 z<|Sr<|Mv z ?_
 obtain ⟨r,s,H⟩:=bnd H
 refine Vv (V.addS z z s)<|Ag z<|Nt<|T.asThen ?_
 obtain ⟨f,u,w⟩:=bndK H
 refine T.cutK (α:=Unit) [0] z (fun _u=>[]) (fun _u=>rowR 3 1 pv0 pcs0::L) (fun _u hh=>f = ()) ?_ ?_
 ·have H:=u
  refine Bl<|T.loopK (α:=Nat×Int) [0,1,2] z (fun ⟨b,a⟩=>[(6,.int .i64 a)]) (fun ⟨b,a⟩=>rowR 3 1 pv0 pcs0::L) (fun ⟨b,a⟩ hh=>iter (sl_insOrd_l0 data1 a3 b4) b a = some f) (fun ⟨b,a⟩=>b) (FUEL,r) ⟨z,trivial⟩ z H ?_
  rintro ⟨b,a⟩ ab e x
  obtain ⟨y,ac,rfl,H,i⟩:=iter_go x
  refine T.norm [6,0,1,2] z<|Sl_ (rowR 3 1 pv0 pcs0::L) z<|Sq<|Sr<|Mv z<|Mv z<|Vv (V.lt z z)<|Nt<|T.cH H z (fun H=>?_) (fun H=>?_)
  ·refine T.skip<|Th<|Sq<|Bl<|Sr<|Mv z<|Ag z<|Nt<|T.asThen ?_
   obtain ⟨k,A,B⟩:=bndK H
   refine T.cutK (α:=Unit) [0,1,2,6] z (fun _u=>[]) (fun _u=>rowR 3 1 pv0 pcs0::L) (fun _u hh=>k = ()) ?_ ?_
   ·have H:=A
    refine Bl<|T.loopK (α:=Nat) [0,1,2,6,7] z (fun c=>[]) (fun c=>rowR 3 1 pv0 pcs0::L) (fun c hh=>iter (sl_insOrd_l1 data1 a3 a) c () = some k) (fun c=>c) FUEL trivial z H ?_
    rintro c ad m C
    obtain ⟨ae,af,rfl,H,D⟩:=iter_go C
    refine T.norm [0,1,2,6,7] rfl<|Sl_ (rowR 3 1 pv0 pcs0::L) rfl<|Sq<|Sq<|T.drawF (t:=(.v 0 (.v 1 (.v 2 (.v 3 (.v 4 (.v 5 (.v 6 (.v 7 (.v 8 (.v 9 (.v 10 (.v 11 (.v 12 (.alt 13 (.g (.v 14 .done)) .no))))))))))))))) 16 1 1 rfl rfl sortmixed (by kernel_rfl) ?_
    refine Tm z z<|Tm z z<|Tv z (V.gt z z)<|Tm z z<|T.bH 19 H z (fun H=>?_) (fun H=>?_)
    ·refine Tm z z<|Tm z z ?_
     obtain ⟨ag,n,H⟩:=bnd H
     have E:=(e.trans m)
     have d:=RowF.mono VI.mono pr0 E
     obtain ⟨ai,G,rfl⟩:=RowF.get d n
     refine Tv z (Val.XA fun _ _ _=>V.ixR elsort_25 z z (j:=0) z (RowF.bd d n))<|Tv z (Val.XA fun _ _ _=>V.ldR shsort_3 z (j:=0) z G z)<|Tm z z<|Tm z z ?_
     obtain ⟨aj,I,H⟩:=bnd H
     refine Tv z (V.subS z z I) ?_
     obtain ⟨ak,o,H⟩:=bnd H
     obtain ⟨am,J,rfl⟩:=RowF.get d o
     refine Tv z (Val.XA fun _ _ _=>V.ixR elsort_25 z z (j:=0) z (RowF.bd d o))<|Tv z (Val.XA fun _ _ _=>V.ldR shsort_3 z (j:=0) z J z) ?_
     obtain ⟨an,K,H⟩:=bnd H
     refine Tp z z (SX.two (XA.fr [0] Lr z) (XA.fr [0] Lr z)) (O.callS z (cmp_LessInt_ok K _) z fun ao ap aq p M=>?_) T.tno
     obtain ⟨rfl,N⟩:=M
     refine Sl_ _ N<|T.tgrow p<|Tv z (V.pkT z z)<|T.tnil (SX.two (XA.fr [0] Lr z) (XA.fr [0] Lr z))<|Th<|T.cH H z (fun H=>?_) (fun H=>?_)
     ·exact dead H
     refine T.exit<|Te<|Te<|have H:=iterK_out H D; Be<|Th<|have P:=(m.trans p); T.met () P H (AllIn.app trivial ⟨z,z,z,z,trivial⟩) z
    exact dead H
   rintro _ ar S U
   have H:=cutE U B
   refine T.norm [0,1,2,6] z<|Sl_ (rowR 3 1 pv0 pcs0::L) z<|Bn<|Th<|Rg<|Mv z ?_
   obtain ⟨W,X,H⟩:=bnd H
   refine Vv (V.addS z z X)<|Ag z<|Nt<|have Y:=(e.trans S); T.again (y,W) Y (Nat.lt_succ_self _) (iterK_in H i) (AllIn.app ⟨z,trivial⟩ ⟨z,z,z,trivial⟩) z
  refine T.exit<|Te<|Te<|have H:=iterK_out H i; Be<|Th<|T.met () e H (AllIn.app trivial ⟨z,trivial⟩) z
 rintro _ au q Z
 have H:=cutE Z w
 refine T.norm [0] z<|Sl_ (rowR 3 1 pv0 pcs0::L) z<|have aa:=RowF.mono VI.mono pr0 q; ?_
 obtain rfl:=Option.some.inj H
 exact T.end0 Tryz.results297 q ⟨_,z,z,aa⟩
theorem sl_pdqOrd_ok (n:Nat):∀ {h:PH} {pv0:Value} {pcs0:List (List Value)} {data1:List Int} (pr0:RowF (VI .i64) h pcs0 data1) {a3:Int} {b4:Int} {limit5:Int} {q_0:List Int} (H:sl_pdqOrd n data1 a3 b4 limit5 = some q_0) (L:List HProp),FnS Tryz.prog 227 [pv0,.int .i64 a3,.int .i64 b4,.int .i64 limit5] h (rowR 3 1 pv0 pcs0::L) (fun v h' L'=>∃ ls0,v = .tuple #[]∧L' = rowR 3 1 pv0 ls0::L∧RowF (VI .i64) h' ls0 q_0):=by
  induction n with
  | zero => intros; rename_i H _; cases H
  | succ n self =>
    intro h pv0 pcs0 data1 pr0 a3 b4 limit5 q_0 H L
    refine FnS.enter Tryz.func227 z Tryz.ntmps227 z<|Sr<|Ag z<|Nt<|Sr<|Ag z<|Nt ?_
    obtain ⟨c,d,e⟩:=bndK H
    have H:=d
    refine Bl<|T.loopK (α:=Nat) [0,1,2] z (fun a=>[]) (fun a=>rowR 3 1 pv0 pcs0::L) (fun a hh=>iter (sl_pdqOrd_l0 data1 a3 b4) a () = some c) (fun a=>a) FUEL trivial z H ?_
    rintro a s b f
    obtain ⟨t,u,rfl,H,g⟩:=iter_go f
    refine T.norm [0,1,2] z<|Sl_ (rowR 3 1 pv0 pcs0::L) z<|Bl<|Sr<|Mv z<|Mv z ?_
    obtain ⟨w,i,H⟩:=bnd H
    refine Vv (V.subS z z i)<|Ag z<|Nt<|Sq<|Sr<|Mv z<|Vv (V.le z z)<|Nt<|T.cH H z (fun H=>?_) (fun H=>?_)
    ·refine Sr<|Mv z<|Mv z<|Mv z<|have j:=RowF.mono VI.mono pr0 b; ?_
     obtain ⟨x,k,H⟩:=bnd H
     refine To (O.callS z (sl_insOrd_ok j k _) z fun y A B m o=>?_)
     obtain ⟨C,rfl,p,q⟩:=o
     refine Sl_ _ p<|Nt<|T.ret<|Tr<|Br<|Tr<|have H:=iterK_out H g; Br<|have H:=cutE H e; ?_
     obtain rfl:=Option.some.inj H
     have r:=(b.trans m)
     exact T.ret0 Tryz.results227 r ⟨_,z,z,q⟩
    exact dead H
theorem sl_SortInt_ok {h:PH} {pv0:Value} {pcs0:List (List Value)} {x1:List Int} (pr0:RowF (VI .i64) h pcs0 x1) {q_0:List Int} (H:sl_SortInt x1 = some q_0):∀ L,FnS Tryz.prog 132 [pv0] h (rowR 3 1 pv0 pcs0::L) (fun v h' L'=>∃ ls0,v = .tuple #[]∧L' = rowR 3 1 pv0 ls0::L∧RowF (VI .i64) h' ls0 q_0):=by
 intro L
 refine FnS.enter Tryz.func132 z Tryz.ntmps132 z<|Sr<|Mv z<|Vv (V.lenX elsort_25 z (j:=0) z pr0.len)<|Ag z<|Nt<|Rg<|Mv z<|Mv z<|Mv z ?_
 obtain ⟨p,b,H⟩:=bnd H
 refine Vv (V.convS Tryz.underlying3 Tryz.underlying252 z b) ?_
 obtain ⟨q,c,H⟩:=bnd H
 refine To (O.callS z (bits_Len_ok c _) z fun r s t a d=>?_)
 obtain ⟨rfl,e⟩:=d
 refine Sl_ _ e<|have f:=RowF.mono VI.mono pr0 a; ?_
 obtain ⟨u,g,H⟩:=bnd H
 refine To (O.callS z (sl_pdqOrd_ok _ f g _) z fun w x y i k=>?_)
 obtain ⟨A,rfl,m,n⟩:=k
 refine Sl_ _ m<|Ni ?_
 obtain rfl:=Option.some.inj H
 have o:=(a.trans i)
 exact T.end0 Tryz.results132 o ⟨_,z,z,n⟩
theorem sl_insCmpInts_ok {h:PH} {pv0:Value} {pcs0:List (List Value)} {data1:List (List Int)} (pr0:RowF (VSl (VI .i64) 1) h pcs0 data1) {a3:Int} {b4:Int} {pv3:Value} {cmp5:(List Int)→(List Int)→Option Int} (pr3:CF353 h pv3 cmp5) {q_0:List (List Int)} (H:sl_insCmpInts data1 a3 b4 cmp5 = some q_0):∀ L,FnS Tryz.prog 374 [pv0,.int .i64 a3,.int .i64 b4,pv3] h (rowR 25 1 pv0 pcs0::L) (fun v h' L'=>∃ ls0,v = .tuple #[]∧L' = rowR 25 1 pv0 ls0::L∧RowF (VSl (VI .i64) 1) h' ls0 q_0):=by
 intro L
 refine FnS.enter Tryz.func374 z Tryz.ntmps374 z<|Sr<|Mv z ?_
 obtain ⟨s,u,H⟩:=bnd H
 refine Vv (V.addS z z u)<|Ag z<|Nt<|T.asThen ?_
 obtain ⟨f,w,x⟩:=bndK H
 refine T.cutK (α:=Unit) [0] z (fun _u=>[]) (fun _u=>rowR 25 1 pv0 pcs0::L) (fun _u hh=>f = ()) ?_ ?_
 ·have H:=w
  refine Bl<|T.loopK (α:=Nat×Int) [0,1,2,3] z (fun ⟨b,a⟩=>[(8,.int .i64 a)]) (fun ⟨b,a⟩=>rowR 25 1 pv0 pcs0::L) (fun ⟨b,a⟩ hh=>iter (sl_insCmpInts_l0 data1 a3 b4 cmp5) b a = some f) (fun ⟨b,a⟩=>b) (FUEL,s) ⟨z,trivial⟩ z H ?_
  rintro ⟨b,a⟩ ag e y
  obtain ⟨A,ai,rfl,H,i⟩:=iter_go y
  refine T.norm [8,0,1,2,3] z<|Sl_ (rowR 25 1 pv0 pcs0::L) z<|Sq<|Sr<|Mv z<|Mv z<|Vv (V.lt z z)<|Nt<|T.cH H z (fun H=>?_) (fun H=>?_)
  ·refine T.skip<|Th<|Sq<|Bl<|Sr<|Mv z<|Ag z<|Nt<|T.asThen ?_
   obtain ⟨k,B,C⟩:=bndK H
   refine T.cutK (α:=Unit) [0,1,2,3,8] z (fun _u=>[]) (fun _u=>rowR 25 1 pv0 pcs0::L) (fun _u hh=>k = ()) ?_ ?_
   ·have H:=B
    refine Bl<|T.loopK (α:=Nat) [0,1,2,3,8,9] z (fun c=>[]) (fun c=>rowR 25 1 pv0 pcs0::L) (fun c hh=>iter (sl_insCmpInts_l1 data1 a3 cmp5 a) c () = some k) (fun c=>c) FUEL trivial z H ?_
    rintro c aj m D
    obtain ⟨ak,am,rfl,H,E⟩:=iter_go D
    refine T.norm [0,1,2,3,8,9] rfl<|Sl_ (rowR 25 1 pv0 pcs0::L) rfl<|Sq<|Sq<|T.drawF (t:=(.v 0 (.v 1 (.v 2 (.v 3 (.v 4 (.v 5 (.v 6 (.v 7 (.v 8 (.v 9 (.v 10 (.v 11 (.v 12 (.v 13 (.alt 14 (.g (.v 15 (.v 16 .done))) .no)))))))))))))))) 18 1 1 rfl rfl sortmixed (by kernel_rfl) ?_
    refine Tm z z<|Tm z z<|Tv z (V.gt z z)<|Tm z z<|T.bH 21 H z (fun H=>?_) (fun H=>?_)
    ·refine Tm z z<|Tm z z<|Tm z z ?_
     obtain ⟨an,n,H⟩:=bnd H
     have o:=(e.trans m)
     have d:=RowF.mono (VSl.mono VI.mono) pr0 o
     obtain ⟨ao,G,⟨ap,rfl,I⟩⟩:=RowF.get d n
     refine Tv z (Val.XA fun _ _ _=>V.ixR elsort_106 z z (j:=0) z (RowF.bd d n))<|Tv z (Val.XA fun _ _ _=>V.ldR shsort_25 z (j:=0) z G z)<|Tm z z<|Tm z z ?_
     obtain ⟨aq,J,H⟩:=bnd H
     refine Tv z (V.subS z z J) ?_
     obtain ⟨ar,p,H⟩:=bnd H
     obtain ⟨au,K,⟨aw,rfl,M⟩⟩:=RowF.get d p
     refine Tv z (Val.XA fun _ _ _=>V.ixR elsort_106 z z (j:=0) z (RowF.bd d p))<|Tv z (Val.XA fun _ _ _=>V.ldR shsort_25 z (j:=0) z K z) ?_
     obtain ⟨ax,N,H⟩:=bnd H
     have P:=CF353.mono pr3 o
     obtain ⟨ay,aA,aB,S,U⟩:=CF353.call P I M N
     refine Tp z z (SX.two (XA.fr [0] Lr z) (XA.fr [0] Lr z)) (O.callfW z S z (U _) z fun aC aD aE q W=>?_) T.tno
     obtain ⟨rfl,X⟩:=W
     refine Sl_ _ X<|T.tgrow q<|Tv z (V.lt z z)<|Tv z (V.pkT z z)<|T.tnil (SX.two (XA.fr [0] Lr z) (XA.fr [0] Lr z))<|Th<|T.cH H z (fun H=>?_) (fun H=>?_)
     ·exact dead H
     refine T.exit<|Te<|Te<|have H:=iterK_out H E; Be<|Th<|have Y:=(m.trans q); T.met () Y H (AllIn.app trivial ⟨z,z,z,z,z,trivial⟩) z
    exact dead H
   rintro _ aG Z aa
   have H:=cutE aa C
   refine T.norm [0,1,2,3,8] z<|Sl_ (rowR 25 1 pv0 pcs0::L) z<|Bn<|Th<|Rg<|Mv z ?_
   obtain ⟨ab,ac,H⟩:=bnd H
   refine Vv (V.addS z z ac)<|Ag z<|Nt<|have ad:=(e.trans Z); T.again (A,ab) ad (Nat.lt_succ_self _) (iterK_in H i) (AllIn.app ⟨z,trivial⟩ ⟨z,z,z,z,trivial⟩) z
  refine T.exit<|Te<|Te<|have H:=iterK_out H i; Be<|Th<|T.met () e H (AllIn.app trivial ⟨z,trivial⟩) z
 rintro _ aI r ae
 have H:=cutE ae x
 refine T.norm [0] z<|Sl_ (rowR 25 1 pv0 pcs0::L) z<|have af:=RowF.mono (VSl.mono VI.mono) pr0 r; ?_
 obtain rfl:=Option.some.inj H
 exact T.end0 Tryz.results374 r ⟨_,z,z,af⟩
theorem sl_pdqCmpInts_ok (n:Nat):∀ {h:PH} {pv0:Value} {pcs0:List (List Value)} {data1:List (List Int)} (pr0:RowF (VSl (VI .i64) 1) h pcs0 data1) {a3:Int} {b4:Int} {limit5:Int} {pv4:Value} {cmp6:(List Int)→(List Int)→Option Int} (pr4:CF353 h pv4 cmp6) {q_0:List (List Int)} (H:sl_pdqCmpInts n data1 a3 b4 limit5 cmp6 = some q_0) (L:List HProp),FnS Tryz.prog 361 [pv0,.int .i64 a3,.int .i64 b4,.int .i64 limit5,pv4] h (rowR 25 1 pv0 pcs0::L) (fun v h' L'=>∃ ls0,v = .tuple #[]∧L' = rowR 25 1 pv0 ls0::L∧RowF (VSl (VI .i64) 1) h' ls0 q_0):=by
  induction n with
  | zero => intros; rename_i H _; cases H
  | succ n self =>
    intro h pv0 pcs0 data1 pr0 a3 b4 limit5 pv4 cmp6 pr4 q_0 H L
    refine FnS.enter Tryz.func361 z Tryz.ntmps361 z<|Sr<|Ag z<|Nt<|Sr<|Ag z<|Nt ?_
    obtain ⟨c,d,e⟩:=bndK H
    have H:=d
    refine Bl<|T.loopK (α:=Nat) [0,1,2,4] z (fun a=>[]) (fun a=>rowR 25 1 pv0 pcs0::L) (fun a hh=>iter (sl_pdqCmpInts_l0 data1 a3 b4 cmp6) a () = some c) (fun a=>a) FUEL trivial z H ?_
    rintro a t b f
    obtain ⟨u,w,rfl,H,g⟩:=iter_go f
    refine T.norm [0,1,2,4] z<|Sl_ (rowR 25 1 pv0 pcs0::L) z<|Bl<|Sr<|Mv z<|Mv z ?_
    obtain ⟨x,i,H⟩:=bnd H
    refine Vv (V.subS z z i)<|Ag z<|Nt<|Sq<|Sr<|Mv z<|Vv (V.le z z)<|Nt<|T.cH H z (fun H=>?_) (fun H=>?_)
    ·refine Sr<|Mv z<|Mv z<|Mv z<|Mv z<|have j:=RowF.mono (VSl.mono VI.mono) pr0 b; have k:=CF353.mono pr4 b; ?_
     obtain ⟨y,m,H⟩:=bnd H
     refine To (O.callS z (sl_insCmpInts_ok j k m _) z fun A B C o p=>?_)
     obtain ⟨D,rfl,q,r⟩:=p
     refine Sl_ _ q<|Nt<|T.ret<|Tr<|Br<|Tr<|have H:=iterK_out H g; Br<|have H:=cutE H e; ?_
     obtain rfl:=Option.some.inj H
     have s:=(b.trans o)
     exact T.ret0 Tryz.results361 s ⟨_,z,z,r⟩
    exact dead H
theorem sl_SortFuncInts_ok {h:PH} {pv0:Value} {pcs0:List (List Value)} {x1:List (List Int)} (pr0:RowF (VSl (VI .i64) 1) h pcs0 x1) {pv1:Value} {cmp3:(List Int)→(List Int)→Option Int} (pr1:CF353 h pv1 cmp3) {q_0:List (List Int)} (H:sl_SortFuncInts x1 cmp3 = some q_0):∀ L,FnS Tryz.prog 339 [pv0,pv1] h (rowR 25 1 pv0 pcs0::L) (fun v h' L'=>∃ ls0,v = .tuple #[]∧L' = rowR 25 1 pv0 ls0::L∧RowF (VSl (VI .i64) 1) h' ls0 q_0):=by
 intro L
 refine FnS.enter Tryz.func339 z Tryz.ntmps339 z<|Sr<|Mv z<|Vv (V.lenX elsort_106 z (j:=0) z pr0.len)<|Ag z<|Nt<|Rg<|Mv z<|Mv z<|Mv z ?_
 obtain ⟨q,b,H⟩:=bnd H
 refine Vv (V.convS Tryz.underlying3 Tryz.underlying252 z b) ?_
 obtain ⟨r,c,H⟩:=bnd H
 refine To (O.callS z (bits_Len_ok c _) z fun s t u a d=>?_)
 obtain ⟨rfl,e⟩:=d
 refine Sl_ _ e<|Mv z<|have f:=RowF.mono (VSl.mono VI.mono) pr0 a; have g:=CF353.mono pr1 a; ?_
 obtain ⟨w,i,H⟩:=bnd H
 refine To (O.callS z (sl_pdqCmpInts_ok _ f g i _) z fun x y A k m=>?_)
 obtain ⟨B,rfl,n,o⟩:=m
 refine Sl_ _ n<|Ni ?_
 obtain rfl:=Option.some.inj H
 have p:=(a.trans k)
 exact T.end0 Tryz.results339 p ⟨_,z,z,o⟩
end Go.Proofs.X
open Go Go.Proofs Go.Sl Go.Dm
namespace Go.Proofs.X
theorem sl2mixed : Tryz.prog.follows .mixedOrders = true := by kernel_rfl
theorem elsl2_106 : elSh Tryz.prog 106 = some (25, 1, 24) := by kernel_rfl
theorem elsl2_25 : elSh Tryz.prog 25 = some (3, 1, 8) := by kernel_rfl
theorem elsl2_33 : elSh Tryz.prog 33 = some (9, 1, 16) := by kernel_rfl
theorem shsl2_25 : tySh Tryz.prog 25 = some (false, 1) := by kernel_rfl
theorem shsl2_3 : tySh Tryz.prog 3 = some (false, 1) := by kernel_rfl
theorem zesl2_25 : zer Tryz.prog 25 = some (.slice none 0 0) := by kernel_rfl
theorem zesl2_3 : zer Tryz.prog 3 = some (.int .i64 (0)) := by kernel_rfl
theorem bits_Mul64_ok {h:PH} {x1:Int} {y2:Int} {r_0:Int} {r_1:Int} (H:bits_Mul64 x1 y2 = some (r_0,r_1)):∀ L,FnS Tryz.prog 282 [.int .u64 x1,.int .u64 y2] h (L) (fun v h' L'=>v = .tuple #[.int .u64 r_0,.int .u64 r_1]∧L' = L):=by
 intro L
 refine FnS.enter Tryz.func282 z Tryz.ntmps282 z<|Sr<|Ag z<|Ag z<|Nt<|Sr<|Mv z ?_
 obtain ⟨t,a,H⟩:=bnd H
 refine Vv (V.andK z z a)<|Ag z<|Nt<|Sr<|Mv z ?_
 obtain ⟨u,b,H⟩:=bnd H
 refine Vv (V.shrK z z b)<|Ag z<|Nt<|Sr<|Mv z ?_
 obtain ⟨w,c,H⟩:=bnd H
 refine Vv (V.andK z z c)<|Ag z<|Nt<|Sr<|Mv z ?_
 obtain ⟨x,d,H⟩:=bnd H
 refine Vv (V.shrK z z d)<|Ag z<|Nt<|Sr<|Mv z<|Mv z ?_
 obtain ⟨y,e,H⟩:=bnd H
 refine Vv (V.mulK z z e)<|Ag z<|Nt<|Sr<|Mv z<|Mv z ?_
 obtain ⟨A,f,H⟩:=bnd H
 refine Vv (V.mulK z z f)<|Mv z ?_
 obtain ⟨B,g,H⟩:=bnd H
 refine Vv (V.shrK z z g) ?_
 obtain ⟨C,i,H⟩:=bnd H
 refine Vv (V.addK z z i)<|Ag z<|Nt<|Sr<|Mv z ?_
 obtain ⟨D,j,H⟩:=bnd H
 refine Vv (V.andK z z j)<|Ag z<|Nt<|Sr<|Mv z ?_
 obtain ⟨E,k,H⟩:=bnd H
 refine Vv (V.shrK z z k)<|Ag z<|Nt<|Sq<|T.norm [0,1,6,7,9,12,13] z<|Rg<|Mv z<|Mv z<|Mv z ?_
 obtain ⟨G,m,H⟩:=bnd H
 refine Vv (V.mulK z z m) ?_
 obtain ⟨I,n,H⟩:=bnd H
 refine Vv (V.addK z z n)<|Ag z<|Nt<|Sr<|Mv z<|Mv z ?_
 obtain ⟨J,o,H⟩:=bnd H
 refine Vv (V.mulK z z o)<|Mv z ?_
 obtain ⟨K,p,H⟩:=bnd H
 refine Vv (V.addK z z p)<|Mv z ?_
 obtain ⟨M,q,H⟩:=bnd H
 refine Vv (V.shrK z z q) ?_
 obtain ⟨N,r,H⟩:=bnd H
 refine Vv (V.addK z z r)<|Ag z<|Nt<|Sr<|Mv z<|Mv z ?_
 obtain ⟨O,s,H⟩:=bnd H
 refine Vv (V.mulK z z s)<|Ag z<|Nt<|T.ret ?_
 obtain ⟨rfl,rfl⟩:=inj2 H
 exact T.retL Tryz.results282 (RVs.cons (RV.tmp z) (Rv z)) Lr ⟨z,z⟩
theorem bits_Mul_ok {h:PH} {x1:Int} {y2:Int} {r_0:Int} {r_1:Int} (H:bits_Mul x1 y2 = some (r_0,r_1)):∀ L,FnS Tryz.prog 196 [.int .u64 x1,.int .u64 y2] h (L) (fun v h' L'=>v = .tuple #[.int .u64 r_0,.int .u64 r_1]∧L' = L):=by
 intro L
 refine FnS.enter Tryz.func196 z Tryz.ntmps196 z<|Sr<|Ag z<|Ag z<|Nt<|Sq<|Cf z<|T.skip<|Th<|Sr<|Mv z<|Mv z ?_
 obtain ⟨⟨e,f⟩,a,H⟩:=bnd H
 refine To (O.callS z (bits_Mul64_ok a _) z fun g i j b c=>?_)
 obtain ⟨rfl,d⟩:=c
 refine Sl_ _ d<|Mv z<|Vv (V.ext z z)<|Vv (V.ext z z)<|Ag z<|Ag z<|Nt<|Sr<|Mv z<|Mv z<|Ag z<|Ag z<|Nt<|T.ret ?_
 obtain ⟨rfl,rfl⟩:=inj2 H
 exact T.retL Tryz.results196 (RVs.cons (RV.tmp z) (Rv z)) b ⟨z,z⟩
theorem sl_Repeat_ok {h:PH} {pv0:Value} {x1:List Int} (pr0:Slc (VI .i64) 1 h pv0 x1) {count2:Int} {r_0:List Int} (H:sl_Repeat x1 count2 = some r_0):∀ L,FnS Tryz.prog 113 [pv0,.int .i64 count2] h (L) (fun v h' L'=>∃ cs0,L' = rowR 3 1 v cs0::L∧RowF (VI .i64) h' cs0 r_0):=by
 intro L
 refine FnS.enter Tryz.func113 z Tryz.ntmps113 z<|Sr<|Ag z<|Nt<|Sq<|Sr<|Mv z<|Vv (V.lt z z)<|Nt<|T.cH H z (fun H=>?_) (fun H=>?_)
 ·exact dead H
 refine T.skip<|Th<|Sr<|Mv z<|Vv (V.lenS elsl2_25 z pr0) ?_
 obtain ⟨aw,N,H⟩:=bnd H
 refine Vv (V.convS Tryz.underlying3 Tryz.underlying252 z N)<|Mv z ?_
 obtain ⟨ax,P,H⟩:=bnd H
 refine Vv (V.convS Tryz.underlying3 Tryz.underlying252 z P) ?_
 obtain ⟨⟨ay,aA⟩,S,H⟩:=bnd H
 refine To (O.callS z (bits_Mul_ok S _) z fun aB s aC u U=>?_)
 obtain ⟨rfl,W⟩:=U
 refine Sl_ _ W<|Mv z<|Vv (V.ext z z)<|Vv (V.ext z z)<|Ag z<|Ag z<|Nt<|Sq<|Sr<|Mv z<|Vv (V.gt z z)<|Mv z<|T.bH 23 H z (fun H=>?_) (fun H=>?_)
 ·exact dead H
 refine Mv z<|Vv (V.gt z z)<|Vv (V.pkF z z)<|Nt<|T.cH H z (fun H=>?_) (fun H=>?_)
 ·exact dead H
 refine T.skip<|Th<|Sr<|Mv z ?_
 obtain ⟨p,X,H⟩:=bnd H
 refine Vv (V.convS Tryz.underlying252 Tryz.underlying3 z X) ?_
 obtain ⟨n,w,H⟩:=bnd H
 refine To (O.mkX elsl2_25 zesl2_3 z z z z w z fun e aD aE=>have q:RowF (VI .i64) s _ n:=RowF.rep z w; Ag z<|Nt<|Sr<|Mv z<|Mv z<|have Y:=Slc.mono VI.mono pr0 u; ?_)
 obtain ⟨o,y,r⟩:=Slc.row Y
 obtain ⟨⟨A,Z⟩,B,H⟩:=bnd H
 have C:0 + n.length ≤ List.length (α:=List Value) (List.replicate p.toNat [.int .i64 (0:Int)]):=by rw [q.len]; omega
 refine To (O.copy elsl2_25 z z (j:=0) z (fun _ iv=>D1.rowX iv (j:=0) z q.len) C (Src1.fix y) y.wide (RowF.ones VI.plain r) z<|T.int (cp_n r B).symm<|have aa:RowF (VI .i64) s (putL (List.replicate p.toNat [.int .i64 (0:Int)]) 0 (List.take (min (List.length o) n.length) o)) A:=RowF.cp q r C B; Ag z<|Nt<|Sq ?_)
 obtain ⟨D,ab,ac⟩:=bndK H
 refine T.cutK (α:=(List Int)×(List (List Value))) [] z (fun ⟨m,f⟩=>[(7,e)]) (fun ⟨m,f⟩=>rowR 3 1 e f::L) (fun ⟨m,f⟩ hh=>D = m∧RowF (VI .i64) hh f m) ?_ ?_
 ·have H:=ab
  refine Bl<|T.loopK (α:=Nat×(List Int)×Int×(List (List Value))) [] z (fun ⟨k,d,a,b⟩=>[(7,e),(8,.int .i64 a)]) (fun ⟨k,d,a,b⟩=>rowR 3 1 e b::L) (fun ⟨k,d,a,b⟩ hh=>iter sl_Repeat_l0 k (d,a) = some D∧RowF (VI .i64) hh b d) (fun ⟨k,d,a,b⟩=>k) (FUEL,A,Z,(putL (List.replicate p.toNat [.int .i64 (0:Int)]) 0 (List.take (min (List.length o) n.length) o))) ⟨z,z,trivial⟩ z ⟨H,aa⟩ ?_
  rintro ⟨k,d,a,b⟩ ad E ⟨ae,c⟩
  obtain ⟨af,aG,rfl,H,G⟩:=iter_go ae
  refine T.norm [7,8] z<|Sl_ (rowR 3 1 e b::L) z<|Sq<|Sr<|Mv z<|Mv z<|Vv (V.lenX elsl2_25 z (j:=0) z c.len)<|Vv (V.lt z z)<|Nt<|T.cH H z (fun H=>?_) (fun H=>?_)
  ·refine T.skip<|Th<|Bl<|T.drawF (t:=(.v 0 (.v 1 (.v 2 (.x 3 (.v 4 (.v 5 (.x 6 (.alt 7 (.g (.v 8 (.alt 9 .done .no))) .no))))))))) 7 1 0 rfl rfl sl2mixed (by kernel_rfl) ?_
   refine Tm z z<|Tm z z<|Tm z z ?_
   obtain ⟨aI,ag,H⟩:=bnd H
   refine T.tx z z (Val.XA fun _ _ _=>V.slVx elsl2_25 z (j:=0) z c.len (.inr ⟨_,_,z,z⟩) (.inl ⟨z,z⟩) (bdV_eq ag)) z Calm.i<|Tm z z<|Tm z z ?_
   obtain ⟨aJ,ai,H⟩:=bnd H
   refine T.tx z z (Val.XA fun _ _ _=>V.slVx elsl2_25 z (j:=0) z c.len (.inl ⟨z,z⟩) (.inr ⟨_,_,z,z⟩) (bdV_eq ai)) z Calm.i ?_
   obtain ⟨aK,I,H⟩:=bnd H
   obtain ⟨aM,aj,H⟩:=bnd H
   refine T.wide 0 z fun ak=>?_
   obtain ⟨⟨J,aN⟩,K,H⟩:=bnd H
   have M:a.toNat + ((d.length:Int).toNat - a.toNat) ≤ List.length (α:=List Value) b:=bd_le c.len I
   refine Tp z z (SX.two (XA.fr [] Lr z) (XA.fr [0] Lr z)) (O.copy elsl2_25 z z (j:=0) z (fun _ iv=>D1.viewX iv (j:=0) z c.len (bdV_eq I)) M (Src1.viewX (j:=0) z c.len (bdV_eq aj)) (Wide.take (Wide.drop ak)) (RowF.ones VI.plain (RowF.part c (0:Int).toNat (a.toNat - (0:Int).toNat))) z ?_) T.tno
   refine T.int (cp_n (RowF.part c (0:Int).toNat (a.toNat - (0:Int).toNat)) K).symm<|have am:RowF (VI .i64) ad (putL b a.toNat (List.take (min (List.length (List.take (a.toNat - (0:Int).toNat) (List.drop (0:Int).toNat b))) ((d.length:Int).toNat - a.toNat)) (List.take (a.toNat - (0:Int).toNat) (List.drop (0:Int).toNat b)))) J:=RowF.cp c (RowF.part c (0:Int).toNat (a.toNat - (0:Int).toNat)) M K; T.tgrow Lr ?_
   obtain ⟨an,ao,H⟩:=bnd H
   refine Tv z (V.addS z z ao)<|Ts z z (SX.one (XA.fr [] Lr z) z) (V.asg z) z ?_ T.tno
   refine T.tnil (SX.one (XA.fr [] Lr z) z)<|Bn<|Th<|T.again (af,J,an,(putL b a.toNat (List.take (min (List.length (List.take (a.toNat - (0:Int).toNat) (List.drop (0:Int).toNat b))) ((d.length:Int).toNat - a.toNat)) (List.take (a.toNat - (0:Int).toNat) (List.drop (0:Int).toNat b))))) E (Nat.lt_succ_self _) ⟨(iterK_in H G),am⟩ (AllIn.app ⟨z,z,trivial⟩ trivial) z
  refine T.exit<|Te<|Te<|have H:=iterK_out H G; Be<|Th<|T.met (d,b) E ⟨H,c⟩ (AllIn.app ⟨z,trivial⟩ trivial) z
 rintro ⟨m,f⟩ aO ap ⟨aq,ar⟩
 have H:=cutE aq ac
 refine T.norm [7] z<|Sl_ (rowR 3 1 e f::L) z<|Sr<|Mv z<|Ag z<|Nt<|T.ret ?_
 obtain rfl:=Option.some.inj H
 have au:=(u.trans ap)
 exact T.retL Tryz.results113 (Rv z) au ⟨_,z,ar⟩
theorem sl_CompactInt_ok {h:PH} {pv0:Value} {pcs0:List (List Value)} {s1:List Int} (pr0:RowF (VI .i64) h pcs0 s1) {r_0:List Int} (H:sl_CompactInt s1 = some r_0):∀ L,FnS Tryz.prog 133 [pv0] h (rowR 3 1 pv0 pcs0::L) (fun v h' L'=>∃ cs0,L' = rowR 3 1 v cs0::L∧RowF (VI .i64) h' cs0 r_0):=by
 intro L
 refine FnS.enter Tryz.func133 z Tryz.ntmps133 z<|Sr<|Ag z<|Nt<|Sq<|Sr<|Mv z<|Vv (V.lenX elsl2_25 z (j:=0) z pr0.len)<|Vv (V.lt z z)<|Nt<|T.cH H z (fun H=>?_) (fun H=>?_)
 ·refine Sr<|Mv z<|Ag z<|Nt<|T.ret<|Tr ?_
  obtain rfl:=Option.some.inj H
  exact T.retL Tryz.results133 (Rv z) Lr ⟨_,z,pr0⟩
 refine T.skip<|Th<|Sq<|Sr<|Ag z<|Nt ?_
 obtain ⟨e,m,n⟩:=bndK H
 refine T.cutK (α:=Unit) [0] z (fun _u=>[]) (fun _u=>rowR 3 1 pv0 pcs0::L) (fun _u hh=>e = ()) ?_ ?_
 ·have H:=m
  refine Bl<|T.loopK (α:=Nat×Int) [0] z (fun ⟨a,b⟩=>[(3,.int .i64 b)]) (fun ⟨a,b⟩=>rowR 3 1 pv0 pcs0::L) (fun ⟨a,b⟩ hh=>iter (sl_CompactInt_l0 s1) a b = some e) (fun ⟨a,b⟩=>a) (FUEL,(1:Int)) ⟨z,trivial⟩ z H ?_
  rintro ⟨a,b⟩ A d o
  obtain ⟨p,B,rfl,H,f⟩:=iter_go o
  refine T.norm [3,0] z<|Sl_ (rowR 3 1 pv0 pcs0::L) z<|Sq<|Sr<|Mv z<|Mv z<|have c:=RowF.mono VI.mono pr0 d; Vv (V.lenX elsl2_25 z (j:=0) z c.len)<|Vv (V.lt z z)<|Nt<|T.cH H z (fun H=>?_) (fun H=>?_)
  ·refine T.skip<|Th<|Sq<|Bl<|Sq<|T.drawF (t:=(.v 0 (.v 1 (.v 2 (.v 3 (.v 4 (.v 5 (.v 6 (.v 7 (.v 8 (.v 9 .done))))))))))) 11 1 1 rfl rfl sl2mixed (by kernel_rfl) ?_
   refine Tm z z<|Tm z z ?_
   obtain ⟨C,g,H⟩:=bnd H
   obtain ⟨D,q,rfl⟩:=RowF.get c g
   refine Tv z (Val.XA fun _ _ _=>V.ixR elsl2_25 z z (j:=0) z (RowF.bd c g))<|Tv z (Val.XA fun _ _ _=>V.ldR shsl2_3 z (j:=0) z q z)<|Tm z z<|Tm z z ?_
   obtain ⟨E,r,H⟩:=bnd H
   refine Tv z (V.subS z z r) ?_
   obtain ⟨G,i,H⟩:=bnd H
   obtain ⟨I,s,rfl⟩:=RowF.get c i
   refine Tv z (Val.XA fun _ _ _=>V.ixR elsl2_25 z z (j:=0) z (RowF.bd c i))<|Tv z (Val.XA fun _ _ _=>V.ldR shsl2_3 z (j:=0) z s z)<|Tv z (V.eq z z)<|T.tnil (SX.two (XA.fr [0] Lr z) (XA.fr [0] Lr z))<|Th<|T.cH H z (fun H=>?_) (fun H=>?_)
   ·exact dead H
   refine T.skip<|Bn<|Th<|Rg<|Mv z ?_
   obtain ⟨u,w,H⟩:=bnd H
   refine Vv (V.addS z z w)<|Ag z<|Nt<|T.again (p,u) d (Nat.lt_succ_self _) (iterK_in H f) (AllIn.app ⟨z,trivial⟩ ⟨z,trivial⟩) z
  refine T.exit<|Te<|Te<|have H:=iterK_out H f; Be<|Th<|T.met () d H (AllIn.app trivial ⟨z,trivial⟩) z
 rintro _ J k x
 have H:=cutE x n
 refine T.norm [0] z<|Sl_ (rowR 3 1 pv0 pcs0::L) z<|Sr<|Mv z<|Ag z<|Nt<|T.ret<|have y:=RowF.mono VI.mono pr0 k; ?_
 obtain rfl:=Option.some.inj H
 exact T.retL Tryz.results133 (Rv z) k ⟨_,z,y⟩
theorem sl_CompactFuncInts_ok {h:PH} {pv0:Value} {pcs0:List (List Value)} {s1:List (List Int)} (pr0:RowF (VSl (VI .i64) 1) h pcs0 s1) {pv1:Value} {eq3:(List Int)→(List Int)→Option Bool} (pr1:CF78 h pv1 eq3) {r_0:List (List Int)} (H:sl_CompactFuncInts s1 eq3 = some r_0):∀ L,FnS Tryz.prog 341 [pv0,pv1] h (rowR 25 1 pv0 pcs0::L) (fun v h' L'=>∃ cs0,L' = rowR 25 1 v cs0::L∧RowF (VSl (VI .i64) 1) h' cs0 r_0):=by
 intro L
 refine FnS.enter Tryz.func341 z Tryz.ntmps341 z<|Sr<|Ag z<|Nt<|Sq<|Sr<|Mv z<|Vv (V.lenX elsl2_106 z (j:=0) z pr0.len)<|Vv (V.lt z z)<|Nt<|T.cH H z (fun H=>?_) (fun H=>?_)
 ·refine Sr<|Mv z<|Ag z<|Nt<|T.ret<|Tr ?_
  obtain rfl:=Option.some.inj H
  exact T.retL Tryz.results341 (Rv z) Lr ⟨_,z,pr0⟩
 refine T.skip<|Th<|Sq<|Sr<|Ag z<|Nt ?_
 obtain ⟨u,w,x⟩:=bndK H
 have H:=w
 refine Bl<|T.loopK (α:=Nat) [0,1,5] z (fun a=>[]) (fun a=>rowR 25 1 pv0 pcs0::L) (fun a hh=>iter (sl_CompactFuncInts_l0 s1 eq3) a () = some u) (fun a=>a) FUEL trivial z H ?_
 rintro a ai f y
 obtain ⟨aj,ak,rfl,H,A⟩:=iter_go y
 refine T.norm [0,1,5] z<|Sl_ (rowR 25 1 pv0 pcs0::L) z<|Sq<|Sr<|Mv z<|Mv z<|have b:=RowF.mono (VSl.mono VI.mono) pr0 f; Vv (V.lenX elsl2_106 z (j:=0) z b.len)<|Vv (V.lt z z)<|Nt<|T.cH H z (fun H=>?_) (fun H=>?_)
 ·refine T.skip<|Th<|Sq<|Bl<|Sq<|T.drawF (t:=(.v 0 (.v 1 (.v 2 (.v 3 (.v 4 (.v 5 (.v 6 (.v 7 (.v 8 (.v 9 (.alt 10 .done .no)))))))))))) 12 1 1 rfl rfl sl2mixed (by kernel_rfl) ?_
  refine Tm z z<|Tm z z<|Tm z z ?_
  obtain ⟨am,i,H⟩:=bnd H
  obtain ⟨an,B,⟨ao,rfl,C⟩⟩:=RowF.get b i
  refine Tv z (Val.XA fun _ _ _=>V.ixR elsl2_106 z z (j:=0) z (RowF.bd b i))<|Tv z (Val.XA fun _ _ _=>V.ldR shsl2_25 z (j:=0) z B z)<|Tm z z<|Tm z z ?_
  obtain ⟨ap,D,H⟩:=bnd H
  refine Tv z (V.subS z z D) ?_
  obtain ⟨aq,k,H⟩:=bnd H
  obtain ⟨ar,E,⟨au,rfl,G⟩⟩:=RowF.get b k
  refine Tv z (Val.XA fun _ _ _=>V.ixR elsl2_106 z z (j:=0) z (RowF.bd b k))<|Tv z (Val.XA fun _ _ _=>V.ldR shsl2_25 z (j:=0) z E z) ?_
  obtain ⟨aw,I,H⟩:=bnd H
  have J:=CF78.mono pr1 f
  obtain ⟨ax,ay,aA,K,M⟩:=CF78.call J C G I
  refine Tp z z (SX.two (XA.fr [0] Lr z) (XA.fr [0] Lr z)) (O.callfW z K z (M _) z fun aB aC aD d N=>?_) T.tno
  obtain ⟨rfl,P⟩:=N
  refine Sl_ _ P<|T.tnil (SX.two (XA.fr [0] d z) (XA.fr [0] d z))<|Th<|T.cH H z (fun H=>?_) (fun H=>?_)
  ·refine Sr<|Mv z<|Mv z ?_
   obtain ⟨aE,S,H⟩:=bnd H
   have m:=RowF.mono (VSl.mono VI.mono) b d
   refine Vv (V.slVx elsl2_106 z (j:=0) z m.len (.inr ⟨_,_,z,z⟩) (.inl ⟨z,z⟩) (bdV_eq S))<|Ag z<|Nt<|Sq<|Sr<|Ag z<|Nt ?_
   obtain ⟨n,U,W⟩:=bndK H
   refine T.cutK (α:=Unit) [0,5] z (fun _u=>[]) (fun _u=>rowR 25 1 pv0 pcs0::L) (fun _u hh=>n = ()) ?_ ?_
   ·have H:=U
    refine Bl<|T.loopK (α:=Nat) [0,5,6,7] z (fun c=>[]) (fun c=>rowR 25 1 pv0 pcs0::L) (fun c hh=>iter (sl_CompactFuncInts_l1 s1) c () = some n) (fun c=>c) FUEL trivial z H ?_
    rintro c aG X Y
    obtain ⟨aI,aJ,rfl,H,Z⟩:=iter_go Y
    refine T.norm [0,5,6,7] z<|Sl_ (rowR 25 1 pv0 pcs0::L) z<|Sq<|Sr<|Mv z<|Mv z<|Vv (V.lenV elsl2_106 z (j:=0) z)<|Vv (V.lt z z)<|Nt<|T.cH H z (fun H=>?_) (fun H=>?_)
    ·exact dead H
    refine T.exit<|Te<|Te<|have H:=iterK_out H Z; Be<|Th<|T.met () X H (AllIn.app trivial ⟨z,z,trivial⟩) z
   rintro _ g o aa
   have H:=cutE aa W
   refine T.norm [0,5] z<|Sl_ (rowR 25 1 pv0 pcs0::L) z<|Sr<|Mv z<|Mv z ?_
   obtain ⟨aK,ab,H⟩:=bnd H
   have e:=RowF.mono (VSl.mono VI.mono) m o
   refine Vv (V.slVx elsl2_106 z (j:=0) z e.len (.inr ⟨_,_,z,z⟩) (.inl ⟨z,z⟩) (bdV_eq ab)) ?_
   obtain ⟨aM,p,H⟩:=bnd H
   have q:=bd_le e.len p
   obtain ⟨ac,ad,H⟩:=bnd H
   refine To (O.clear elsl2_106 zesl2_25 z z z (j:=0) z (fun _ iv=>D1.viewX iv (j:=0) z e.len (bdV_eq p)) q<|have r:RowF (VSl (VI .i64) 1) g (putL pcs0 (1:Int).toNat (List.replicate ((s1.length:Int).toNat - (1:Int).toNat) ([.slice none 0 0]:List Value))) ac:=RowF.clr e (show (VSl (VI .i64) 1) g [.slice none 0 0] ([]:List Int) from ⟨(.slice none 0 0),z,Slc.nil⟩) q ad; Nt<|Sr<|Mv z<|Mv z ?_)
   obtain ⟨ae,s,H⟩:=bnd H
   refine To (O.slP elsl2_106 z z (j:=0) z (RowF.slpb r s) z fun aN=>have af:RowF (VSl (VI .i64) 1) g (List.take (1:Int).toNat (putL pcs0 (1:Int).toNat (List.replicate ((s1.length:Int).toNat - (1:Int).toNat) ([.slice none 0 0]:List Value)))) ae:=RowF.slp r s; Ag z<|Nt<|T.ret<|Br<|Tr<|Tr<|have H:=iterK_out H A; Br<|have H:=cutE H x; Tr ?_)
   obtain rfl:=Option.some.inj H
   have ag:=((f.trans d).trans o)
   exact T.retL Tryz.results341 (Rv z) ag ⟨_,z,af⟩
  exact dead H
 exact dead H
theorem sl_IndexFuncStrL_ok {h:PH} {pv0:Value} {pcs0:List (List Value)} {s1:List ByteArray} (pr0:RowF VS h pcs0 s1) {pv1:Value} {f3:ByteArray→Option Bool} (pr1:CF225 h pv1 f3) {r_0:Int} {q_0:List ByteArray} (H:sl_IndexFuncStrL s1 f3 = some (r_0,q_0)):∀ L,FnS Tryz.prog 249 [pv0,pv1] h (rowR 9 1 pv0 pcs0::L) (fun v h' L'=>∃ ls0,v = .int .i64 r_0∧L' = rowR 9 1 pv0 ls0::L∧RowF VS h' ls0 q_0):=by
 intro L
 refine FnS.enter Tryz.func249 z Tryz.ntmps249 z<|Sr<|Ag z<|Nt<|Sq<|Sr<|Mv z<|Vv (V.lenX elsl2_33 z (j:=0) z pr0.len)<|Mv z<|Nt ?_
 obtain ⟨b,d,e⟩:=bndK H
 refine T.cutK (α:=Unit) [0] z (fun _u=>[]) (fun _u=>rowR 9 1 pv0 pcs0::L) (fun _u hh=>b = ()) ?_ ?_
 ·have H:=d
  refine Bl<|T.loopK (α:=Nat) [0,7,8] z (fun a=>[]) (fun a=>rowR 9 1 pv0 pcs0::L) (fun a hh=>iter (sl_IndexFuncStrL_l0 s1) a () = some b) (fun a=>a) FUEL trivial z H ?_
  rintro a n f g
  obtain ⟨o,p,rfl,H,i⟩:=iter_go g
  refine T.norm [0,7,8] z<|Sl_ (rowR 9 1 pv0 pcs0::L) z<|Sr<|Vv (V.lt z z)<|Nt<|Sq<|T.cH H z (fun H=>?_) (fun H=>?_)
  ·exact dead H
  refine T.exit<|Te<|Te<|have H:=iterK_out H i; Be<|Th<|T.met () f H (AllIn.app trivial ⟨z,trivial⟩) z
 rintro _ q c k
 have H:=cutE k e
 refine T.norm [0] z<|Sl_ (rowR 9 1 pv0 pcs0::L) z<|Sr<|Ag z<|Nt<|T.ret<|have m:=RowF.mono VS.mono pr0 c; ?_
 obtain ⟨rfl,rfl⟩:=inj2 H
 exact T.retL Tryz.results249 (Rv z) c ⟨_,z,z,m⟩
theorem sl_DeleteFuncStr_ok {h:PH} {pv0:Value} {pcs0:List (List Value)} {s1:List ByteArray} (pr0:RowF VS h pcs0 s1) {pv1:Value} {del3:ByteArray→Option Bool} (pr1:CF225 h pv1 del3) {r_0:List ByteArray} (H:sl_DeleteFuncStr s1 del3 = some r_0):∀ L,FnS Tryz.prog 165 [pv0,pv1] h (rowR 9 1 pv0 pcs0::L) (fun v h' L'=>∃ cs0,L' = rowR 9 1 v cs0::L∧RowF VS h' cs0 r_0):=by
 intro L
 refine FnS.enter Tryz.func165 z Tryz.ntmps165 z<|Sr<|Ag z<|Nt<|Sr<|Mv z<|Mv z ?_
 obtain ⟨⟨f,g⟩,a,H⟩:=bnd H
 refine To (O.callS z (sl_IndexFuncStrL_ok pr0 pr1 a _) z fun i j k b c=>?_)
 obtain ⟨m,rfl,d,e⟩:=c
 refine Sl_ _ d<|Ag z<|Nt<|Sq<|Sr<|Mv z<|Vv (V.eq z z)<|Nt<|T.cH H z (fun H=>?_) (fun H=>?_)
 ·refine Sr<|Mv z<|Ag z<|Nt<|T.ret<|Tr ?_
  obtain rfl:=Option.some.inj H
  exact T.retL Tryz.results165 (Rv z) b ⟨_,z,e⟩
 exact dead H
end Go.Proofs.X
open Go Go.Proofs Go.Sl Go.Dm
namespace Go.Proofs.X
theorem hallmixed : Tryz.prog.follows .mixedOrders = true := by kernel_rfl
theorem blhall_187 : bldSh Tryz.prog 187 = some ([.string ⟨#[]⟩, .nilFunc, .nilFunc, .nilFunc, .nilFunc, .nilFunc], [(0, 1), (1, 1), (2, 1), (3, 1), (4, 1), (5, 1)]) := by kernel_rfl
theorem bohall_187 : fieldsOK Tryz.prog 187 = true := by kernel_rfl
theorem elhall_22 : elSh Tryz.prog 22 = some (31, 7, 80) := by kernel_rfl
theorem elhall_25 : elSh Tryz.prog 25 = some (3, 1, 8) := by kernel_rfl
theorem elhall_317 : elSh Tryz.prog 317 = some (71, 1, 8) := by kernel_rfl
theorem fdhall_187_1 : fldOf Tryz.prog 187 1 = some 1 := by kernel_rfl
theorem fdhall_187_2 : fldOf Tryz.prog 187 2 = some 2 := by kernel_rfl
theorem fdhall_187_3 : fldOf Tryz.prog 187 3 = some 3 := by kernel_rfl
theorem fdhall_187_4 : fldOf Tryz.prog 187 4 = some 4 := by kernel_rfl
theorem fdhall_31_0 : fldOf Tryz.prog 31 0 = some 0 := by kernel_rfl
theorem fdhall_31_1 : fldOf Tryz.prog 31 1 = some 1 := by kernel_rfl
theorem fdhall_31_2 : fldOf Tryz.prog 31 2 = some 2 := by kernel_rfl
theorem fdhall_31_3 : fldOf Tryz.prog 31 3 = some 3 := by kernel_rfl
theorem fdhall_31_4 : fldOf Tryz.prog 31 4 = some 4 := by kernel_rfl
theorem fdhall_31_5 : fldOf Tryz.prog 31 5 = some 5 := by kernel_rfl
theorem fdhall_31_6 : fldOf Tryz.prog 31 6 = some 6 := by kernel_rfl
theorem shhall_101 : tySh Tryz.prog 101 = some (false, 1) := by kernel_rfl
theorem shhall_184 : tySh Tryz.prog 184 = some (false, 1) := by kernel_rfl
theorem shhall_187 : tySh Tryz.prog 187 = some (true, 6) := by kernel_rfl
theorem shhall_25 : tySh Tryz.prog 25 = some (false, 1) := by kernel_rfl
theorem shhall_29 : tySh Tryz.prog 29 = some (false, 1) := by kernel_rfl
theorem shhall_3 : tySh Tryz.prog 3 = some (false, 1) := by kernel_rfl
theorem shhall_31 : tySh Tryz.prog 31 = some (true, 7) := by kernel_rfl
theorem shhall_9 : tySh Tryz.prog 9 = some (false, 1) := by kernel_rfl
theorem zehall_187 : zer Tryz.prog 187 = some (.agg #[.string ⟨#[]⟩, .nilFunc, .nilFunc, .nilFunc, .nilFunc, .nilFunc]) := by kernel_rfl
theorem zehall_3 : zer Tryz.prog 3 = some (.int .i64 (0)) := by kernel_rfl
theorem zehall_31 : zer Tryz.prog 31 = some (.agg #[.string ⟨#[]⟩, .int .u8 (0), .int .i64 (0), .int .i64 (0), .slice none 0 0, .int .i64 (0), .int .i64 (0)]) := by kernel_rfl
theorem zehall_71 : zer Tryz.prog 71 = some (.nilFunc) := by kernel_rfl
theorem hall_name_ok {h:PH} {s1:ByteArray} {r_0:Bool} (H:hall_name s1 = some r_0):∀ L,FnS Tryz.prog 284 [.string s1] h (L) (fun v h' L'=>v = .bool r_0∧L' = L):=by
 intro L
 refine FnS.enter Tryz.func284 z Tryz.ntmps284 z<|Sr<|Ag z<|Nt<|Sq<|Sr<|Ag z<|Nt ?_
 obtain ⟨c,f,g⟩:=bndK H
 refine T.cutK (α:=Unit) [0] z (fun _u=>[]) (fun _u=>L) (fun _u hh=>c = ()) ?_ ?_
 ·have H:=f
  refine Bl<|T.loopK (α:=Nat×Int) [0] z (fun ⟨a,b⟩=>[(3,.int .i64 b)]) (fun ⟨a,b⟩=>L) (fun ⟨a,b⟩ hh=>iter (hall_name_l0 s1) a b = some c) (fun ⟨a,b⟩=>a) (FUEL,(0:Int)) ⟨z,trivial⟩ z H ?_
  rintro ⟨a,b⟩ r d i
  obtain ⟨j,s,rfl,H,e⟩:=iter_go i
  refine T.norm [3,0] z<|Sl_ (L) z<|Sq<|Sr<|Mv z<|Mv z<|Vv (V.lenStr Tryz.underlying9 z)<|Vv (V.lt z z)<|Nt<|T.cH H z (fun H=>?_) (fun H=>?_)
  ·refine T.skip<|Th<|Sq<|Bl<|Sr<|Mv z<|Mv z ?_
   obtain ⟨t,k,H⟩:=bnd H
   refine Vv (V.idxS Tryz.underlying9 z z k)<|Vv (V.lt z z)<|Mv z<|T.bH 14 H z (fun H=>?_) (fun H=>?_)
   ·exact dead H
   refine Mv z<|Mv z ?_
   obtain ⟨u,m,H⟩:=bnd H
   refine Vv (V.idxS Tryz.underlying9 z z m)<|Vv (V.gt z z)<|Vv (V.pkF z z)<|Nt<|T.cH H z (fun H=>?_) (fun H=>?_)
   ·exact dead H
   refine T.skip<|Bn<|Th<|Rg<|Mv z ?_
   obtain ⟨n,o,H⟩:=bnd H
   refine Vv (V.addS z z o)<|Ag z<|Nt<|T.again (j,n) d (Nat.lt_succ_self _) (iterK_in H e) (AllIn.app ⟨z,trivial⟩ ⟨z,trivial⟩) z
  refine T.exit<|Te<|Te<|have H:=iterK_out H e; Be<|Th<|T.met () d H (AllIn.app trivial ⟨z,trivial⟩) z
 rintro _ w p q
 have H:=cutE q g
 refine T.norm [0] z<|Sl_ (L) z<|Sr<|Mv z<|Vv (V.lenStr Tryz.underlying9 z)<|Vv (V.ge z z)<|Mv z<|T.bH 23 H z (fun H=>?_) (fun H=>?_)
 ·refine Mv z<|Vv (V.lenStr Tryz.underlying9 z)<|Vv (V.le z z)<|Vv (V.pkT z z)<|Ag z<|Nt<|T.ret ?_
  obtain rfl:=Option.some.inj H
  exact T.retL Tryz.results284 (Rv z) p ⟨z,z⟩
 exact dead H
theorem hall_roundSeats_ok {h:PH} {a1:Int} {b2:Int} {r_0:Int} (H:hall_roundSeats a1 b2 = some r_0):∀ L,FnS Tryz.prog 203 [.int .i64 a1,.int .i64 b2] h (L) (fun v h' L'=>v = .int .i64 r_0∧L' = L):=by
 intro L
 refine FnS.enter Tryz.func203 z Tryz.ntmps203 z<|Sr<|Ag z<|Nt<|Sq<|Sr<|Mv z<|Vv (V.lt z z)<|Mv z<|T.bH 7 H z (fun H=>?_) (fun H=>?_)
 ·exact dead H
 refine Mv z<|Vv (V.gt z z)<|Vv (V.pkF z z)<|Mv z<|T.bH 11 H z (fun H=>?_) (fun H=>?_)
 ·exact dead H
 refine Mv z<|Vv (V.ne z z)<|Vv (V.pkF z z)<|Nt<|T.cH H z (fun H=>?_) (fun H=>?_)
 ·exact dead H
 refine T.skip<|Th<|Sr<|Mv z<|Ag z<|Nt<|T.ret ?_
 obtain rfl:=Option.some.inj H
 exact T.retL Tryz.results203 (Rv z) Lr ⟨z,z⟩
theorem hall_rowSeats_ok {h:PH} {a1:Int} {b2:Int} {r_0:Int} (H:hall_rowSeats a1 b2 = some r_0):∀ L,FnS Tryz.prog 218 [.int .i64 a1,.int .i64 b2] h (L) (fun v h' L'=>v = .int .i64 r_0∧L' = L):=by
 intro L
 refine FnS.enter Tryz.func218 z Tryz.ntmps218 z<|Sr<|Ag z<|Nt<|Sq<|Sr<|Mv z<|Vv (V.lt z z)<|Mv z<|T.bH 7 H z (fun H=>?_) (fun H=>?_)
 ·exact dead H
 refine Mv z<|Vv (V.gt z z)<|Vv (V.pkF z z)<|Mv z<|T.bH 11 H z (fun H=>?_) (fun H=>?_)
 ·exact dead H
 refine Mv z<|Vv (V.lt z z)<|Vv (V.pkF z z)<|Mv z<|T.bH 15 H z (fun H=>?_) (fun H=>?_)
 ·exact dead H
 refine Mv z<|Mv z<|Vv (V.gt z z)<|Vv (V.pkF z z)<|Nt<|T.cH H z (fun H=>?_) (fun H=>?_)
 ·exact dead H
 refine T.skip<|Th<|Sr<|Mv z<|Ag z<|Nt<|T.ret ?_
 obtain rfl:=Option.some.inj H
 exact T.retL Tryz.results218 (Rv z) Lr ⟨z,z⟩
theorem hall_roundBeside_ok {h:PH} {a1:Int} {b2:Int} {x3:Int} {y4:Int} {r_0:Bool} (H:hall_roundBeside a1 b2 x3 y4 = some r_0):∀ L,FnS Tryz.prog 204 [.int .i64 a1,.int .i64 b2,.int .i64 x3,.int .i64 y4] h (L) (fun v h' L'=>v = .bool r_0∧L' = L):=by
 intro L
 refine FnS.enter Tryz.func204 z Tryz.ntmps204 z<|Sr<|Ag z<|Nt<|Sr<|Mv z<|Mv z ?_
 obtain ⟨d,a,H⟩:=bnd H
 refine Vv (V.subS z z a)<|Vv (V.eq z z)<|Mv z<|T.bH 13 H z (fun H=>?_) (fun H=>?_)
 ·refine Sk<|Sk<|Sk<|Sk<|Sk<|Sk<|Vv (V.pkT z z)<|Ag z<|Nt<|T.ret ?_
  obtain rfl:=Option.some.inj H
  exact T.retL Tryz.results204 (Rv z) Lr ⟨z,z⟩
 refine Mv z<|Mv z ?_
 obtain ⟨e,b,H⟩:=bnd H
 refine Vv (V.subS z z b)<|Mv z ?_
 obtain ⟨f,c,H⟩:=bnd H
 refine Vv (V.subS z z c)<|Vv (V.eq z z)<|Vv (V.pkF z z)<|Ag z<|Nt<|T.ret ?_
 obtain rfl:=Option.some.inj H
 exact T.retL Tryz.results204 (Rv z) Lr ⟨z,z⟩
theorem hall_roundAcross_ok {h:PH} {a1:Int} {b2:Int} {x3:Int} {y4:Int} {r_0:Bool} (H:hall_roundAcross a1 b2 x3 y4 = some r_0):∀ L,FnS Tryz.prog 205 [.int .i64 a1,.int .i64 b2,.int .i64 x3,.int .i64 y4] h (L) (fun v h' L'=>v = .bool r_0∧L' = L):=by
 intro L
 refine FnS.enter Tryz.func205 z Tryz.ntmps205 z<|Sr<|Ag z<|Nt<|Sr<|Mv z ?_
 obtain ⟨d,a,H⟩:=bnd H
 refine Vv (V.remS z z a)<|Vv (V.eq z z)<|Mv z<|T.bH 12 H z (fun H=>?_) (fun H=>?_)
 ·refine Mv z<|Mv z ?_
  obtain ⟨e,b,H⟩:=bnd H
  refine Vv (V.subS z z b)<|Mv z ?_
  obtain ⟨f,c,H⟩:=bnd H
  refine Vv (V.quoS z z c)<|Vv (V.eq z z)<|Vv (V.pkT z z)<|Ag z<|Nt<|T.ret ?_
  obtain rfl:=Option.some.inj H
  exact T.retL Tryz.results205 (Rv z) Lr ⟨z,z⟩
 exact dead H
theorem hall_rowBeside_ok {h:PH} {a1:Int} {b2:Int} {x3:Int} {y4:Int} {r_0:Bool} (H:hall_rowBeside a1 b2 x3 y4 = some r_0):∀ L,FnS Tryz.prog 219 [.int .i64 a1,.int .i64 b2,.int .i64 x3,.int .i64 y4] h (L) (fun v h' L'=>v = .bool r_0∧L' = L):=by
 intro L
 refine FnS.enter Tryz.func219 z Tryz.ntmps219 z<|Sr<|Ag z<|Nt<|Sr<|Mv z<|Mv z ?_
 obtain ⟨b,a,H⟩:=bnd H
 refine Vv (V.subS z z a)<|Vv (V.eq z z)<|Mv z<|T.bH 13 H z (fun H=>?_) (fun H=>?_)
 ·refine Mv z<|Vv (V.eq z z)<|Mv z<|T.bH 16 H z (fun H=>?_) (fun H=>?_)
  ·refine Sk<|Sk<|Sk<|Sk<|Vv (V.pkT z z)<|Vv (V.pkT z z)<|Ag z<|Nt<|T.ret ?_
   obtain rfl:=Option.some.inj H
   exact T.retL Tryz.results219 (Rv z) Lr ⟨z,z⟩
  exact dead H
 refine Sk<|Sk<|Sk<|Sk<|Sk<|Sk<|Sk<|Sk<|Vv (V.pkF z z)<|Ag z<|Nt<|T.ret ?_
 obtain rfl:=Option.some.inj H
 exact T.retL Tryz.results219 (Rv z) Lr ⟨z,z⟩
theorem hall_same_ok {h:PH} {k1:Int} {r_0:Int} (H:hall_same k1 = some r_0):∀ L,FnS Tryz.prog 291 [.int .i64 k1] h (L) (fun v h' L'=>v = .int .i64 r_0∧L' = L):=by
 intro L
 refine FnS.enter Tryz.func291 z Tryz.ntmps291 z<|Sr<|Ag z<|Nt<|Sr<|Mv z<|Ag z<|Nt<|T.ret ?_
 obtain rfl:=Option.some.inj H
 exact T.retL Tryz.results291 (Rv z) Lr ⟨z,z⟩
theorem hall_lay1_ok {h:PH} {a1:Int} {b2:Int} {r_0:Int} (H:hall_lay1 a1 b2 = some r_0):∀ L,FnS Tryz.prog 206 [.int .i64 a1,.int .i64 b2] h (L) (fun v h' L'=>v = .int .i64 r_0∧L' = L):=by
 intro L
 refine FnS.enter Tryz.func206 z Tryz.ntmps206 z<|Sr<|Ag z<|Nt<|Sr<|Ag z<|Nt<|T.ret ?_
 obtain rfl:=Option.some.inj H
 exact T.retL Tryz.results206 (Rv z) Lr ⟨z,z⟩
theorem hall_lay3_ok {h:PH} {a1:Int} {b2:Int} {x3:Int} {y4:Int} {r_0:Bool} (H:hall_lay3 a1 b2 x3 y4 = some r_0):∀ L,FnS Tryz.prog 220 [.int .i64 a1,.int .i64 b2,.int .i64 x3,.int .i64 y4] h (L) (fun v h' L'=>v = .bool r_0∧L' = L):=by
 intro L
 refine FnS.enter Tryz.func220 z Tryz.ntmps220 z<|Sr<|Ag z<|Nt<|Sr<|Ag z<|Nt<|T.ret ?_
 obtain rfl:=Option.some.inj H
 exact T.retL Tryz.results220 (Rv z) Lr ⟨z,z⟩
theorem hall_lay4_ok {h:PH} {a1:Int} {b2:Int} {r_0:Int} (H:hall_lay4 a1 b2 = some r_0):∀ L,FnS Tryz.prog 221 [.int .i64 a1,.int .i64 b2] h (L) (fun v h' L'=>v = .int .i64 r_0∧L' = L):=by
 intro L
 refine FnS.enter Tryz.func221 z Tryz.ntmps221 z<|Sr<|Ag z<|Nt<|Sr<|Mv z ?_
 obtain ⟨b,a,H⟩:=bnd H
 refine Vv (V.quoS z z a)<|Ag z<|Nt<|T.ret ?_
 obtain rfl:=Option.some.inj H
 exact T.retL Tryz.results221 (Rv z) Lr ⟨z,z⟩
theorem hall_roundMoves1_ok {h:PH} {k1:Int} {pp1:Addr} {pc1:List Value} {t2:Int} (pa1:AtC h pp1 pc1) (pr1:(VI .i64) h pc1 t2) {pp2:Addr} {pc2:List Value} {t3:Int} (pa2:AtC h pp2 pc2) (pr2:(VI .i64) h pc2 t3) {r_0:Int} (H:hall_roundMoves1 k1 t2 t3 = some r_0):∀ L,FnS Tryz.prog 285 [.int .i64 k1,.pointer (some pp1),.pointer (some pp2)] h (L) (fun v h' L'=>v = .int .i64 r_0∧L' = L):=by
 intro L
 obtain rfl:=pr1
 obtain rfl:=pr2
 refine FnS.enter Tryz.func285 z Tryz.ntmps285 z<|Sr<|Ag z<|Nt<|Sr<|Mv z<|Vv (V.ld0 shhall_3 z pa1 z) ?_
 obtain ⟨c,a,H⟩:=bnd H
 refine Vv (V.addS z z a)<|Vv (V.ld0 shhall_3 z pa2 z) ?_
 obtain ⟨d,b,H⟩:=bnd H
 refine Vv (V.remS z z b)<|Ag z<|Nt<|T.ret ?_
 obtain rfl:=Option.some.inj H
 exact T.retL Tryz.results285 (Rv z) Lr ⟨z,z⟩
theorem hall_roundMoves2_ok {h:PH} {k1:Int} {pp1:Addr} {pc1:List Value} {t2:Int} (pa1:AtC h pp1 pc1) (pr1:(VI .i64) h pc1 t2) {pp2:Addr} {pc2:List Value} {t3:Int} (pa2:AtC h pp2 pc2) (pr2:(VI .i64) h pc2 t3) {r_0:Int} (H:hall_roundMoves2 k1 t2 t3 = some r_0):∀ L,FnS Tryz.prog 286 [.int .i64 k1,.pointer (some pp1),.pointer (some pp2)] h (L) (fun v h' L'=>v = .int .i64 r_0∧L' = L):=by
 intro L
 obtain rfl:=pr1
 obtain rfl:=pr2
 refine FnS.enter Tryz.func286 z Tryz.ntmps286 z<|Sr<|Ag z<|Nt<|Sr<|Vv (V.ld0 shhall_3 z pa1 z)<|Mv z ?_
 obtain ⟨d,a,H⟩:=bnd H
 refine Vv (V.subS z z a)<|Vv (V.ld0 shhall_3 z pa2 z) ?_
 obtain ⟨e,b,H⟩:=bnd H
 refine Vv (V.addS z z b)<|Vv (V.ld0 shhall_3 z pa2 z) ?_
 obtain ⟨f,c,H⟩:=bnd H
 refine Vv (V.remS z z c)<|Ag z<|Nt<|T.ret ?_
 obtain rfl:=Option.some.inj H
 exact T.retL Tryz.results286 (Rv z) Lr ⟨z,z⟩
theorem hall_roundMoves_ok {h:PH} {a1:Int} {b2:Int} {r_0:List (Int→Option Int)} (H:hall_roundMoves a1 b2 = some r_0):∀ L,FnS Tryz.prog 207 [.int .i64 a1,.int .i64 b2] h (L) (fun v h' L'=>L' = L∧Slc VF71 1 h' v r_0):=by
 intro L
 refine FnS.enter Tryz.func207 z Tryz.ntmps207 z<|Sr<|To (O.boxF z z z fun b N P q=>Ag z<|Nt<|Sr<|Ag z<|Nt<|Sq<|Sr<|Vv (V.ld0 shhall_3 z q z)<|Mv z<|Nt ?_)
 obtain ⟨r,S,U⟩:=bndK H
 refine T.cutK (α:=(List (Int→Option Int))×Value×(List (List Value))) [] z (fun ⟨n,i,k⟩=>[(5,i)]) (fun ⟨n,i,k⟩=>rowR 71 1 i k::L) (fun ⟨n,i,k⟩ hh=>r = n∧RowF VF71 hh k n) ?_ ?_
 ·have H:=S
  refine Bl<|T.rowNil 71 1<|have W:RowF VF71 N [] ([]:List (Int→Option Int)):=RowF.nil; T.loopK (α:=Nat×(List (Int→Option Int))×Int×Value×(List (List Value))) [2,7] z (fun ⟨m,g,a,f,c⟩=>[(5,f),(8,.int .i64 a)]) (fun ⟨m,g,a,f,c⟩=>rowR 71 1 f c::L) (fun ⟨m,g,a,f,c⟩ hh=>iter (hall_roundMoves_l0 a1) m (g,a) = some r∧RowF VF71 hh c g) (fun ⟨m,g,a,f,c⟩=>m) (FUEL,([]:List (Int→Option Int)),(0:Int),(.slice none 0 0),[]) ⟨z,z,trivial⟩ z ⟨H,W⟩ ?_
  rintro ⟨m,g,a,f,c⟩ au s ⟨X,t⟩
  obtain ⟨Y,aw,rfl,H,u⟩:=iter_go X
  refine T.norm [5,8,2,7] z<|Sl_ (rowR 71 1 f c::L) z<|Sr<|Vv (V.lt z z)<|Nt<|Sq<|T.cH H z (fun H=>?_) (fun H=>?_)
  ·refine T.skip<|Th<|Sq<|Bl<|Sr<|Mv z<|To (O.alloc zehall_3 z z fun d=>To (O.stF (vs:=[.int .i64 a]) shhall_3 z z (j:=0) z z z z<|T.freeze fun w x Z=>have y:=AtC.of Z; Nt<|Rg<|Mv z<|Vv (V.mkf z z)<|Vv (V.mkf z z)<|have A:=(s.trans x); have B:=q.mono A; To (O.bs elhall_317 zehall_71 z (e:=z) (hk:=z) (xs:=[.tmp 12,.tmp 13]) (hv:=CO.eq (CO.cons z (CO.cons z CO.nil))) (hw:=Wide.of z) (hd:=z) fun ax=>have o:RowF VF71 w [[.func (.func 285) #[] #[.pointer (some ⟨d,0,none⟩),.pointer (some ⟨b,0,none⟩)]],[.func (.func 286) #[] #[.pointer (some ⟨d,0,none⟩),.pointer (some ⟨b,0,none⟩)]]] ([(fun p=>hall_roundMoves1 p a a1),(fun p=>hall_roundMoves2 p a a1)]:List (Int→Option Int)):=(RowF.cons ⟨(.func (.func 285) #[] #[.pointer (some ⟨d,0,none⟩),.pointer (some ⟨b,0,none⟩)]),z,⟨⟨z,z⟩,.inr ⟨285,[],[.pointer (some ⟨d,0,none⟩),.pointer (some ⟨b,0,none⟩)],z,fun C D ay aA aa ab=>hall_roundMoves1_ok (y.mono D) (show (VI .i64) C [.int .i64 a] a from z) (B.mono D) (show (VI .i64) C [.int .i64 a1] a1 from z) aa ab⟩⟩⟩ (RowF.cons ⟨(.func (.func 286) #[] #[.pointer (some ⟨d,0,none⟩),.pointer (some ⟨b,0,none⟩)]),z,⟨⟨z,z⟩,.inr ⟨286,[],[.pointer (some ⟨d,0,none⟩),.pointer (some ⟨b,0,none⟩)],z,fun E G aB aC ac ad=>hall_roundMoves2_ok (y.mono G) (show (VI .i64) E [.int .i64 a] a from z) (B.mono G) (show (VI .i64) E [.int .i64 a1] a1 from z) ac ad⟩⟩⟩ RowF.nil)); ?_)))
   obtain ⟨I,J,H⟩:=bnd H
   have K:=RowF.mono VF71.mono t x
   refine To (O.apX elhall_317 elhall_317 zehall_71 z z z (j:=1) z (Src.row (j:=0) z) (Wide.of z) (RowF.ones VF71.plain o) K o J z fun ae aD aE=>have af:RowF VF71 w (c ++ [[.func (.func 285) #[] #[.pointer (some ⟨d,0,none⟩),.pointer (some ⟨b,0,none⟩)]],[.func (.func 286) #[] #[.pointer (some ⟨d,0,none⟩),.pointer (some ⟨b,0,none⟩)]]]) I:=RowF.ap K o J; Fr_ 1 z<|T.drop<|Ag z<|Ni<|Bn<|Th<|Rg ?_)
   obtain ⟨ag,ai,H⟩:=bnd H
   refine Vv (V.addS z z ai)<|Mv z<|Nt<|T.again (Y,I,ag,ae,(c ++ [[.func (.func 285) #[] #[.pointer (some ⟨d,0,none⟩),.pointer (some ⟨b,0,none⟩)]],[.func (.func 286) #[] #[.pointer (some ⟨d,0,none⟩),.pointer (some ⟨b,0,none⟩)]]])) A (Nat.lt_succ_self _) ⟨(iterK_in H u),af⟩ (AllIn.app ⟨z,z,trivial⟩ ⟨z,z,trivial⟩) z
  refine T.exit<|Te<|Te<|have H:=iterK_out H u; Be<|Th<|T.met (g,f,c) s ⟨H,t⟩ (AllIn.app ⟨z,trivial⟩ trivial) z
 rintro ⟨n,i,k⟩ aG aj ⟨ak,am⟩
 have H:=cutE ak U
 refine T.norm [5] z<|Sl_ (rowR 71 1 i k::L) z<|Sr<|Mv z<|Ag z<|Nt<|T.ret<|T.rowFix fun aI M an=>have ao:=RowF.mono VF71.mono am M; have aq:=RowF.slc an ao; ?_
 obtain rfl:=Option.some.inj H
 have ar:=((P.trans aj).trans M)
 exact T.retL Tryz.results207 (Rv z) ar ⟨z,aq⟩
theorem hall_rowMoves1_ok {h:PH} {k1:Int} {pp1:Addr} {pc1:List Value} {t2:Int} (pa1:AtC h pp1 pc1) (pr1:(VI .i64) h pc1 t2) {r_0:Int} (H:hall_rowMoves1 k1 t2 = some r_0):∀ L,FnS Tryz.prog 294 [.int .i64 k1,.pointer (some pp1)] h (L) (fun v h' L'=>v = .int .i64 r_0∧L' = L):=by
 intro L
 obtain rfl:=pr1
 refine FnS.enter Tryz.func294 z Tryz.ntmps294 z<|Sr<|Ag z<|Nt<|Sr<|Vv (V.ld0 shhall_3 z pa1 z) ?_
 obtain ⟨c,a,H⟩:=bnd H
 refine Vv (V.subS z z a)<|Mv z ?_
 obtain ⟨d,b,H⟩:=bnd H
 refine Vv (V.subS z z b)<|Ag z<|Nt<|T.ret ?_
 obtain rfl:=Option.some.inj H
 exact T.retL Tryz.results294 (Rv z) Lr ⟨z,z⟩
theorem hall_rowMoves_ok {h:PH} {a1:Int} {b2:Int} {r_0:List (Int→Option Int)} (H:hall_rowMoves a1 b2 = some r_0):∀ L,FnS Tryz.prog 222 [.int .i64 a1,.int .i64 b2] h (L) (fun v h' L'=>L' = L∧Slc VF71 1 h' v r_0):=by
 intro L
 refine FnS.enter Tryz.func222 z Tryz.ntmps222 z<|Sr<|To (O.boxF z z z fun a c d f=>Ag z<|Nt<|Sr<|Vv (V.mkf z z)<|To (O.bs elhall_317 zehall_71 z (e:=z) (hk:=z) (xs:=[.func 291,.tmp 5]) (hv:=CO.eq (CO.cons z (CO.cons z CO.nil))) (hw:=Wide.of z) (hd:=z) fun u=>have g:RowF VF71 c [[.func (.func 291) #[] #[]],[.func (.func 294) #[] #[.pointer (some ⟨a,0,none⟩)]]] ([hall_same,(fun i=>hall_rowMoves1 i a1)]:List (Int→Option Int)):=(RowF.cons ⟨(.func (.func 291) #[] #[]),z,⟨⟨z,z⟩,.inr ⟨291,[],[],z,fun w x y A j k=>hall_same_ok j k⟩⟩⟩ (RowF.cons ⟨(.func (.func 294) #[] #[.pointer (some ⟨a,0,none⟩)]),z,⟨⟨z,z⟩,.inr ⟨294,[],[.pointer (some ⟨a,0,none⟩)],z,fun m n B C o p=>hall_rowMoves1_ok (f.mono n) (show (VI .i64) m [.int .i64 a1] a1 from z) o p⟩⟩⟩ RowF.nil)); Ag z<|Nt<|T.ret<|T.rowFix fun D b q=>have r:=RowF.mono VF71.mono g b; have s:=RowF.slc q r; ?_))
 obtain rfl:=Option.some.inj H
 have t:=(d.trans b)
 exact T.retL Tryz.results222 (Rv z) t ⟨z,s⟩
theorem hall_layoutOf_ok {h:PH} {s1:Int} {r_0:halllayout} {r_1:Bool} (H:hall_layoutOf s1 = some (r_0,r_1)):∀ L,FnS Tryz.prog 122 [.int .u8 s1] h (L) (fun v h' L'=>∃ v0_1 v0_3 v0_5 v0_7 v0_9,v = .tuple #[.agg #[.string r_0.fword,v0_1,v0_3,v0_5,v0_7,v0_9],.bool r_1]∧L' = L∧CF101 h' v0_1 r_0.fseats∧CF184 h' v0_3 r_0.fbeside∧CF184 h' v0_5 r_0.facross∧CF101 h' v0_7 r_0.fhonour∧CF185 h' v0_9 r_0.fmoves):=by
 intro L
 refine FnS.enter Tryz.func122 z Tryz.ntmps122 z<|Sr<|To (O.alloc zehall_187 z z fun y=>Ag z<|Nt<|Sq<|Sr<|Mv z<|Nt<|Bl<|Sr<|Vv (V.eq z z)<|Ag z<|Nt<|T.cH H z (fun H=>?_) (fun H=>?_))
 ·refine Sr<|Vv (V.bld (xs:=[(0,.const (.string ⟨#[114,111,117,110,100]⟩)),(1,.func 203),(2,.func 204),(3,.func 205),(4,.func 206),(5,.func 207)]) (cs:=[_,_,_,_,_,_]) blhall_187 bohall_187 z (Fills.cons z z z (Fills.cons z z z (Fills.cons z z z (Fills.cons z z z (Fills.cons z z z (Fills.cons z z z Fills.nil)))))))<|To (O.stF (vs:=[.string (⟨#[114,111,117,110,100]⟩:ByteArray),.func (.func 203) #[] #[],.func (.func 204) #[] #[],.func (.func 205) #[] #[],.func (.func 206) #[] #[],.func (.func 207) #[] #[]]) shhall_187 z z (j:=0) z z z z<|Ag z<|Nt<|T.ret<|Br<|Tr ?_)
  obtain ⟨rfl,rfl⟩:=inj2 H
  exact T.retD (L':=L) Tryz.results122 (RVs.cons (RV.cellS z (j:=0) z shhall_187) (Rv z)) Lr (fun _ iv=>iv.drop) ⟨_,_,_,_,_,z,z,⟨⟨z,z⟩,.inr ⟨203,[],[],z,fun A B C D E a b=>hall_roundSeats_ok a b⟩⟩,⟨⟨z,z⟩,.inr ⟨204,[],[],z,fun G I J K M N P c d=>hall_roundBeside_ok c d⟩⟩,⟨⟨z,z⟩,.inr ⟨205,[],[],z,fun S U W X Y Z aa e f=>hall_roundAcross_ok e f⟩⟩,⟨⟨z,z⟩,.inr ⟨206,[],[],z,fun ab ac ad ae af g i=>hall_lay1_ok g i⟩⟩,⟨⟨z,z⟩,.inr ⟨207,[],[],z,fun ag ai aj ak am k m=>hall_roundMoves_ok k m⟩⟩⟩
 refine Sr<|Vv (V.eq z z)<|Ag z<|Nt<|T.cH H z (fun H=>?_) (fun H=>?_)
 ·exact dead H
 refine Sr<|Vv (V.eq z z)<|Ag z<|Nt<|T.cH H z (fun H=>?_) (fun H=>?_)
 ·exact dead H
 refine Sr<|Vv (V.eq z z)<|Ag z<|Nt<|T.cH H z (fun H=>?_) (fun H=>?_)
 ·refine Sr<|Vv (V.bld (xs:=[(0,.const (.string ⟨#[114,111,119]⟩)),(1,.func 218),(2,.func 219),(3,.func 220),(4,.func 221),(5,.func 222)]) (cs:=[_,_,_,_,_,_]) blhall_187 bohall_187 z (Fills.cons z z z (Fills.cons z z z (Fills.cons z z z (Fills.cons z z z (Fills.cons z z z (Fills.cons z z z Fills.nil)))))))<|To (O.stF (vs:=[.string (⟨#[114,111,119]⟩:ByteArray),.func (.func 218) #[] #[],.func (.func 219) #[] #[],.func (.func 220) #[] #[],.func (.func 221) #[] #[],.func (.func 222) #[] #[]]) shhall_187 z z (j:=0) z z z z<|Ag z<|Nt<|T.ret<|Br<|Tr ?_)
  obtain ⟨rfl,rfl⟩:=inj2 H
  exact T.retD (L':=L) Tryz.results122 (RVs.cons (RV.cellS z (j:=0) z shhall_187) (Rv z)) Lr (fun _ iv=>iv.drop) ⟨_,_,_,_,_,z,z,⟨⟨z,z⟩,.inr ⟨218,[],[],z,fun an ao ap aq ar n o=>hall_rowSeats_ok n o⟩⟩,⟨⟨z,z⟩,.inr ⟨219,[],[],z,fun au aw ax ay aA aB aC p q=>hall_rowBeside_ok p q⟩⟩,⟨⟨z,z⟩,.inr ⟨220,[],[],z,fun aD aE aG aI aJ aK aM r s=>hall_lay3_ok r s⟩⟩,⟨⟨z,z⟩,.inr ⟨221,[],[],z,fun aN aO aP aS aU t u=>hall_lay4_ok t u⟩⟩,⟨⟨z,z⟩,.inr ⟨222,[],[],z,fun aV aW aX aY aZ w x=>hall_rowMoves_ok w x⟩⟩⟩
 exact dead H
theorem hall_size_ok {h:PH} {pc0:List Value} {t1:apiTable} (pr0:VapiTable h pc0 t1) {r_0:Int} (H:hall_size t1 = some r_0):∀ L,FnS Tryz.prog 60 [.agg pc0.toArray] h (L) (fun v h' L'=>v = .int .i64 r_0∧L' = L):=by
 intro L
 obtain ⟨N,rfl,P⟩:=pr0
 refine FnS.enter Tryz.func60 z Tryz.ntmps60 z<|Sr<|To (O.boxF z z z fun S U f b=>Ag z<|Nt<|Sr<|Vv (V.fa fdhall_31_1 z)<|Vv (V.ldf (k:=1) shhall_29 z b z) ?_)
 obtain ⟨⟨g,W⟩,i,H⟩:=bnd H
 refine To (O.callS z (hall_layoutOf_ok i _) z fun X Y Z c m=>?_)
 obtain ⟨n,o,p,q,r,rfl,s,d,t,u,w,x⟩:=m
 refine Sl_ _ s<|Mv z<|Vv (V.ext rfl rfl)<|Vv (V.ext rfl rfl)<|To (O.alloc zehall_187 rfl rfl fun aa=>To (O.stF (vs:=[.string g.fword,n,o,p,q,r]) shhall_187 rfl rfl (j:=0) rfl rfl (by (simp only [Sl.ones,d.1.1,t.1.1,u.1.1,w.1.1,x.1.1,Bool.and_true,Bool.true_and]) <;> rfl) rfl ?_))
 refine T.freeze fun ab a y=>have A:=AtC.of y; Ag z<|Nt<|Sq<|Sr<|Mv z<|Vv (V.not z)<|Nt<|T.cH H z (fun H=>?_) (fun H=>?_)
 ·exact dead H
 refine T.skip<|Th<|Sr<|Vv (V.fa fdhall_187_1 z)<|Vv (V.ldf (k:=1) shhall_101 z A z)<|Vv (V.fa fdhall_31_2 z)<|have B:=(c.trans a); have e:=b.mono B; Vv (V.ldf (k:=2) shhall_3 z e z)<|Vv (V.fa fdhall_31_3 z)<|Vv (V.ldf (k:=3) shhall_3 z e z) ?_
 obtain ⟨ac,C,H⟩:=bnd H
 have D:=CF101.mono d a
 obtain ⟨ad,ae,af,E,G⟩:=CF101.call D C
 refine To (O.callfW z E z (G _) z fun ag ai aj I J=>?_)
 obtain ⟨rfl,K⟩:=J
 refine Sl_ _ K<|Ag z<|Nt<|T.ret ?_
 obtain rfl:=Option.some.inj H
 have M:=(((f.trans c).trans a).trans I)
 exact T.retL Tryz.results60 (Rv z) M ⟨z,z⟩
theorem hall_beside_ok {h:PH} {pc0:List Value} {t1:apiTable} (pr0:VapiTable h pc0 t1) {x4:Int} {y5:Int} {r_0:Bool} (H:hall_beside t1 x4 y5 = some r_0):∀ L,FnS Tryz.prog 158 [.agg pc0.toArray,.int .i64 x4,.int .i64 y5] h (L) (fun v h' L'=>v = .bool r_0∧L' = L):=by
 intro L
 obtain ⟨P,rfl,S⟩:=pr0
 refine FnS.enter Tryz.func158 z Tryz.ntmps158 z<|Sr<|To (O.boxF z z z fun U W c d=>Ag z<|Nt<|Sr<|Vv (V.fa fdhall_31_1 z)<|Vv (V.ldf (k:=1) shhall_29 z d z) ?_)
 obtain ⟨⟨g,X⟩,i,H⟩:=bnd H
 refine To (O.callS z (hall_layoutOf_ok i _) z fun Y Z aa b m=>?_)
 obtain ⟨n,o,p,q,r,rfl,s,t,e,u,w,x⟩:=m
 refine Sl_ _ s<|Mv z<|Vv (V.ext rfl rfl)<|Vv (V.ext rfl rfl)<|To (O.alloc zehall_187 rfl rfl fun ab=>To (O.stF (vs:=[.string g.fword,n,o,p,q,r]) shhall_187 rfl rfl (j:=0) rfl rfl (by (simp only [Sl.ones,t.1.1,e.1.1,u.1.1,w.1.1,x.1.1,Bool.and_true,Bool.true_and]) <;> rfl) rfl ?_))
 refine T.freeze fun ac a y=>have A:=AtC.of y; Ag z<|Nt<|Sr<|Mv z<|Mv z<|Vv (V.ne z z)<|Mv z<|T.bH 18 H z (fun H=>?_) (fun H=>?_)
 ·refine Vv (V.fa fdhall_187_2 z)<|Vv (V.ldf (k:=2) shhall_184 z A z)<|Vv (V.fa fdhall_31_2 z)<|have B:=(b.trans a); have f:=d.mono B; Vv (V.ldf (k:=2) shhall_3 z f z)<|Vv (V.fa fdhall_31_3 z)<|Vv (V.ldf (k:=3) shhall_3 z f z)<|Mv z<|Mv z<|Vv (V.min2 z z)<|Mv z<|Mv z<|Vv (V.max2 z z) ?_
  obtain ⟨ad,C,H⟩:=bnd H
  have D:=CF184.mono e a
  obtain ⟨ae,af,ag,E,G⟩:=CF184.call D C
  refine To (O.callfW z E z (G _) z fun ai aj ak I J=>?_)
  obtain ⟨rfl,K⟩:=J
  refine Sl_ _ K<|Vv (V.pkT z z)<|Ag z<|Nt<|T.ret ?_
  obtain rfl:=Option.some.inj H
  have M:=(((c.trans b).trans a).trans I)
  exact T.retL Tryz.results158 (Rv z) M ⟨z,z⟩
 refine Sk<|Sk<|Sk<|Sk<|Sk<|Sk<|Sk<|Sk<|Sk<|Sk<|Sk<|Sk<|Sk<|Vv (V.pkF z z)<|Ag z<|Nt<|T.ret ?_
 obtain rfl:=Option.some.inj H
 have N:=((c.trans b).trans a)
 exact T.retL Tryz.results158 (Rv z) N ⟨z,z⟩
theorem hall_across_ok {h:PH} {pc0:List Value} {t1:apiTable} (pr0:VapiTable h pc0 t1) {x4:Int} {y5:Int} {r_0:Bool} (H:hall_across t1 x4 y5 = some r_0):∀ L,FnS Tryz.prog 159 [.agg pc0.toArray,.int .i64 x4,.int .i64 y5] h (L) (fun v h' L'=>v = .bool r_0∧L' = L):=by
 intro L
 obtain ⟨P,rfl,S⟩:=pr0
 refine FnS.enter Tryz.func159 z Tryz.ntmps159 z<|Sr<|To (O.boxF z z z fun U W c d=>Ag z<|Nt<|Sr<|Vv (V.fa fdhall_31_1 z)<|Vv (V.ldf (k:=1) shhall_29 z d z) ?_)
 obtain ⟨⟨g,X⟩,i,H⟩:=bnd H
 refine To (O.callS z (hall_layoutOf_ok i _) z fun Y Z aa b m=>?_)
 obtain ⟨n,o,p,q,r,rfl,s,t,u,e,w,x⟩:=m
 refine Sl_ _ s<|Mv z<|Vv (V.ext rfl rfl)<|Vv (V.ext rfl rfl)<|To (O.alloc zehall_187 rfl rfl fun ab=>To (O.stF (vs:=[.string g.fword,n,o,p,q,r]) shhall_187 rfl rfl (j:=0) rfl rfl (by (simp only [Sl.ones,t.1.1,u.1.1,e.1.1,w.1.1,x.1.1,Bool.and_true,Bool.true_and]) <;> rfl) rfl ?_))
 refine T.freeze fun ac a y=>have A:=AtC.of y; Ag z<|Nt<|Sr<|Mv z<|Mv z<|Vv (V.ne z z)<|Mv z<|T.bH 18 H z (fun H=>?_) (fun H=>?_)
 ·refine Vv (V.fa fdhall_187_3 z)<|Vv (V.ldf (k:=3) shhall_184 z A z)<|Vv (V.fa fdhall_31_2 z)<|have B:=(b.trans a); have f:=d.mono B; Vv (V.ldf (k:=2) shhall_3 z f z)<|Vv (V.fa fdhall_31_3 z)<|Vv (V.ldf (k:=3) shhall_3 z f z)<|Mv z<|Mv z<|Vv (V.min2 z z)<|Mv z<|Mv z<|Vv (V.max2 z z) ?_
  obtain ⟨ad,C,H⟩:=bnd H
  have D:=CF184.mono e a
  obtain ⟨ae,af,ag,E,G⟩:=CF184.call D C
  refine To (O.callfW z E z (G _) z fun ai aj ak I J=>?_)
  obtain ⟨rfl,K⟩:=J
  refine Sl_ _ K<|Vv (V.pkT z z)<|Ag z<|Nt<|T.ret ?_
  obtain rfl:=Option.some.inj H
  have M:=(((c.trans b).trans a).trans I)
  exact T.retL Tryz.results159 (Rv z) M ⟨z,z⟩
 refine Sk<|Sk<|Sk<|Sk<|Sk<|Sk<|Sk<|Sk<|Sk<|Sk<|Sk<|Sk<|Sk<|Vv (V.pkF z z)<|Ag z<|Nt<|T.ret ?_
 obtain rfl:=Option.some.inj H
 have N:=((c.trans b).trans a)
 exact T.retL Tryz.results159 (Rv z) N ⟨z,z⟩
theorem hall_near_ok {h:PH} {pc0:List Value} {t1:apiTable} (pr0:VapiTable h pc0 t1) {x4:Int} {y5:Int} {r_0:Bool} (H:hall_near t1 x4 y5 = some r_0):∀ L,FnS Tryz.prog 307 [.agg pc0.toArray,.int .i64 x4,.int .i64 y5] h (L) (fun v h' L'=>v = .bool r_0∧L' = L):=by
 intro L
 obtain ⟨a,rfl,f⟩:=pr0
 refine FnS.enter Tryz.func307 rfl Tryz.ntmps307 rfl<|Sr<|To (O.boxF rfl rfl rfl fun w g c d=>Ag z<|Nt<|Sr<|Vv (V.ldS rfl d (by exact shhall_31)) ?_)
 refine Mv z<|Mv z<|have e:=Slc.mono VI.mono f c; ?_
 obtain ⟨x,i,H⟩:=bnd H
 refine To (O.callS z (hall_beside_ok (show VapiTable g [.string t1.fName,.int .u8 t1.fShape,.int .i64 t1.fA,.int .i64 t1.fB,a,.int .i64 t1.fX,.int .i64 t1.fY] t1 from ⟨a,z,e⟩) i _) z fun y j A b k=>?_)
 obtain ⟨rfl,m⟩:=k
 refine Sl_ _ m<|Mv z<|T.bH 11 H z (fun H=>?_) (fun H=>?_)
 ·refine Sk<|Sk<|Sk<|Sk<|Vv (V.pkT z z)<|Ag z<|Nt<|T.ret ?_
  obtain rfl:=Option.some.inj H
  have n:=(c.trans b)
  exact T.retL Tryz.results307 (Rv z) n ⟨z,z⟩
 have o:=d.mono b
 refine Vv (V.ldS rfl o (by exact shhall_31)) ?_
 refine Mv z<|Mv z<|have p:=Slc.mono VI.mono e b; ?_
 obtain ⟨B,q,H⟩:=bnd H
 refine To (O.callS z (hall_across_ok (show VapiTable j [.string t1.fName,.int .u8 t1.fShape,.int .i64 t1.fA,.int .i64 t1.fB,a,.int .i64 t1.fX,.int .i64 t1.fY] t1 from ⟨a,z,p⟩) q _) z fun C D E r s=>?_)
 obtain ⟨rfl,t⟩:=s
 refine Sl_ _ t<|Vv (V.pkF z z)<|Ag z<|Nt<|T.ret ?_
 obtain rfl:=Option.some.inj H
 have u:=((c.trans b).trans r)
 exact T.retL Tryz.results307 (Rv z) u ⟨z,z⟩
theorem hall_steps_ok {h:PH} {pc0:List Value} {t1:apiTable} (pr0:VapiTable h pc0 t1) {from4:Int} {r_0:List Int} (H:hall_steps t1 from4 = some r_0):∀ L,FnS Tryz.prog 245 [.agg pc0.toArray,.int .i64 from4] h (L) (fun v h' L'=>∃ cs0,L' = rowR 3 1 v cs0::L∧RowF (VI .i64) h' cs0 r_0):=by
 intro L
 obtain ⟨W,rfl,aZ⟩:=pr0
 refine FnS.enter Tryz.func245 rfl Tryz.ntmps245 rfl<|Sr<|To (O.boxF rfl rfl rfl fun ca a0 am an=>Ag z<|Nt<|Sr<|Vv (V.ldS rfl an (by exact shhall_31)) ?_)
 have ao:=Slc.mono VI.mono aZ am
 obtain ⟨a1,a2,H⟩:=bnd H
 refine To (O.callS z (hall_size_ok (show VapiTable a0 [.string t1.fName,.int .u8 t1.fShape,.int .i64 t1.fA,.int .i64 t1.fB,W,.int .i64 t1.fX,.int .i64 t1.fY] t1 from ⟨W,z,ao⟩) a2 _) z fun cb a3 cc aq a4=>?_)
 obtain ⟨rfl,a5⟩:=a4
 refine Sl_ _ a5 ?_
 obtain ⟨aa,ar,H⟩:=bnd H
 refine To (O.mkX elhall_25 zehall_3 z z z z ar z fun a cd ce=>have au:RowF (VI .i64) a3 _ aa:=RowF.rep z ar; Ag z<|Nt<|Sq<|Sr<|Mv z<|Vv (V.lenX elhall_25 z (j:=0) z au.len)<|Mv z<|Nt ?_)
 obtain ⟨aw,a6,a7⟩:=bndK H
 refine T.cutK (α:=(List Int)×(List (List Value))) [1,2] z (fun ⟨J,n⟩=>[(5,a)]) (fun ⟨J,n⟩=>rowR 3 1 a n::L) (fun ⟨J,n⟩ hh=>aw = J∧RowF (VI .i64) hh n J) ?_ ?_
 ·have H:=a6
  refine Bl<|T.loopK (α:=Nat×Int×(List Int)×(List (List Value))) [1,2,15] z (fun ⟨x,o,r,g⟩=>[(16,.int .i64 o),(5,a)]) (fun ⟨x,o,r,g⟩=>rowR 3 1 a g::L) (fun ⟨x,o,r,g⟩ hh=>iter (hall_steps_l0 aa) x (o,r) = some aw∧RowF (VI .i64) hh g r) (fun ⟨x,o,r,g⟩=>x) (FUEL,(0:Int),aa,(List.replicate a1.toNat [.int .i64 (0:Int)])) ⟨z,z,trivial⟩ z ⟨H,au⟩ ?_
  rintro ⟨x,o,r,g⟩ ax ay ⟨a8,K⟩
  obtain ⟨a9,cf,rfl,H,aA⟩:=iter_go a8
  refine T.norm [16,5,1,2,15] z<|Sl_ (rowR 3 1 a g::L) z<|Sr<|Vv (V.lt z z)<|Nt<|Sq<|T.cH H z (fun H=>?_) (fun H=>?_)
  ·refine T.skip<|Th<|Sq<|Bl<|Sr<|Mv z<|Ag z<|Nt<|Rg<|Mv z<|Mv z ?_
   obtain ⟨cg,ab,H⟩:=bnd H
   obtain ⟨ci,cj,rfl⟩:=RowF.get K ab
   refine Vv (V.ixR elhall_25 z z (j:=0) z (RowF.bd K ab)) ?_
   obtain ⟨aB,ah,H⟩:=bnd H
   refine To (O.stR shhall_3 z z (j:=0) z (RowF.bdN K ab) z<|have al:RowF (VI .i64) ax (g.set o.toNat [.int .i64 (-1:Int)]) aB:=RowF.set K (show (VI .i64) ax [.int .i64 (-1:Int)] (-1:Int) from z) ah; Ni<|Bn<|Th<|Rg ?_)
   obtain ⟨av,az,H⟩:=bnd H
   refine Vv (V.addS z z az)<|Mv z<|Nt<|T.again (a9,av,aB,(g.set o.toNat [.int .i64 (-1:Int)])) ay (Nat.lt_succ_self _) ⟨(iterK_in H aA),al⟩ (AllIn.app ⟨z,z,trivial⟩ ⟨z,z,z,trivial⟩) z
  refine T.exit<|Te<|Te<|have H:=iterK_out H aA; Be<|Th<|T.met (r,g) ay ⟨H,K⟩ (AllIn.app ⟨z,trivial⟩ ⟨z,z,trivial⟩) z
 rintro ⟨J,n⟩ ac aC ⟨ba,X⟩
 have H:=cutE ba a7
 refine T.norm [5,1,2] z<|Sl_ (rowR 3 1 a n::L) z<|Sr<|Mv z<|Mv z ?_
 obtain ⟨ck,ad,H⟩:=bnd H
 obtain ⟨cm,cn,rfl⟩:=RowF.get X ad
 refine Vv (V.ixR elhall_25 z z (j:=0) z (RowF.bd X ad)) ?_
 obtain ⟨aD,bb,H⟩:=bnd H
 refine To (O.stR shhall_3 z z (j:=0) z (RowF.bdN X ad) z<|have bc:RowF (VI .i64) ac (n.set from4.toNat [.int .i64 (0:Int)]) aD:=RowF.set X (show (VI .i64) ac [.int .i64 (0:Int)] (0:Int) from z) bb; Nt<|Sr<|Mv z<|To (O.bs elhall_25 zehall_3 z (e:=z) (hk:=z) (xs:=[.tmp 26]) (hv:=CO.eq (CO.cons z CO.nil)) (hw:=Wide.of z) (hd:=z) fun be=>have bf:RowF (VI .i64) ac [[.int .i64 from4]] ([from4]:List Int):=(RowF.cons z RowF.nil); Ag z<|Nt<|Sq ?_))
 obtain ⟨aE,bg,bi⟩:=bndK H
 refine T.cutK (α:=(List Int)×(List (List Value))) [] z (fun ⟨M,y⟩=>[(5,a)]) (fun ⟨M,y⟩=>rowR 3 1 a y::L) (fun ⟨M,y⟩ hh=>aE = M∧RowF (VI .i64) hh y M) ?_ ?_
 ·have H:=bg
  refine Bl<|Fr_ 1 z<|T.loopK (α:=Nat×(List Int)×(List Int)×(List (List Value))×Value×(List (List Value))) [2] z (fun ⟨A,i,B,k,s,m⟩=>[(5,a),(7,s)]) (fun ⟨A,i,B,k,s,m⟩=>rowR 3 1 a k::rowR 3 1 s m::L) (fun ⟨A,i,B,k,s,m⟩ hh=>iter (hall_steps_l1 t1) A (i,B) = some aE∧RowF (VI .i64) hh k i∧RowF (VI .i64) hh m B) (fun ⟨A,i,B,k,s,m⟩=>A) (FUEL,aD,[from4],(n.set from4.toNat [.int .i64 (0:Int)]),(.slice (some ⟨be,0,none⟩) 1 1),[[.int .i64 from4]]) ⟨z,z,trivial⟩ z ⟨H,bc,bf⟩ ?_
  rintro ⟨A,i,B,k,s,m⟩ bj ae ⟨bk,af,N⟩
  obtain ⟨bm,co,rfl,H,aG⟩:=iter_go bk
  refine T.norm [5,7,2] z<|Sl_ (rowR 3 1 a k::rowR 3 1 s m::L) z<|Sq<|Sr<|Mv z<|Vv (V.lenX elhall_25 z (j:=1) z N.len)<|Vv (V.gt z z)<|Nt<|T.cH H z (fun H=>?_) (fun H=>?_)
  ·refine T.skip<|Th<|Bl<|Sr<|Mv z ?_
   obtain ⟨bn,aI,H⟩:=bnd H
   obtain ⟨cp,bo,rfl⟩:=RowF.get N aI
   refine Vv (V.ixR elhall_25 z z (j:=1) z (RowF.bd N aI))<|Vv (V.ldR shhall_3 z (j:=1) z bo z)<|Ag z<|Nt<|Sr<|Mv z ?_
   obtain ⟨aJ,aK,H⟩:=bnd H
   refine To (O.slR elhall_25 z z (j:=1) z (RowF.slb N aK) z fun bp=>have bq:RowF (VI .i64) bj (List.drop (1:Int).toNat m) aJ:=RowF.sl N aK; Ag z<|Nt<|Sr<|Mv z<|Vv (V.lenX elhall_25 z (j:=1) z af.len)<|Mv z<|Nt<|T.asThen ?_)
   obtain ⟨aM,br,bt⟩:=bndK H
   refine T.cutK (α:=(List Int)×(List Int)×(List (List Value))×Value×(List (List Value))) [2] z (fun ⟨C,D,t,u,w⟩=>[(5,a),(7,u)]) (fun ⟨C,D,t,u,w⟩=>rowR 3 1 a t::rowR 3 1 u w::L) (fun ⟨C,D,t,u,w⟩ hh=>aM = (C,D)∧RowF (VI .i64) hh t C∧RowF (VI .i64) hh w D) ?_ ?_
   ·have H:=br
    refine Bl<|Fr_ 1 z<|T.loopK (α:=Nat×(List Int)×Int×(List Int)×(List (List Value))×Value×(List (List Value))) [2,8,37] z (fun ⟨E,p,b,q,c,f,d⟩=>[(36,a),(38,.int .i64 b),(5,a),(7,f)]) (fun ⟨E,p,b,q,c,f,d⟩=>rowR 3 1 a c::rowR 3 1 f d::L) (fun ⟨E,p,b,q,c,f,d⟩ hh=>iter (hall_steps_l2 t1 i bn) E (p,b,q) = some aM∧RowF (VI .i64) hh c p∧RowF (VI .i64) hh d q) (fun ⟨E,p,b,q,c,f,d⟩=>E) (FUEL,i,(0:Int),aJ,k,bp,(List.drop (1:Int).toNat m)) ⟨z,z,z,z,trivial⟩ z ⟨H,af,bq⟩ ?_
    rintro ⟨E,p,b,q,c,f,d⟩ bu Y ⟨bw,P,ag⟩
    obtain ⟨aN,cq,rfl,H,ai⟩:=iter_go bw
    refine T.norm [36,38,5,7,2,8,37] z<|Sl_ (rowR 3 1 a c::rowR 3 1 f d::L) z<|Sr<|Vv (V.lt z z)<|Nt<|Sq<|T.cH H z (fun H=>?_) (fun H=>?_)
    ·refine T.skip<|Th<|Sq<|Bl<|Sr<|Mv z ?_
     obtain ⟨cr,aO,H⟩:=bnd H
     obtain ⟨cs,bx,rfl⟩:=RowF.get P aO
     refine Vv (V.ixR elhall_25 z z (j:=0) z (RowF.bd P aO))<|Vv (V.ldR shhall_3 z (j:=0) z bx z)<|Ag z<|Ag z<|Nt<|Sq ?_
     obtain ⟨bA,bB,bC⟩:=bndK H
     refine T.cutK (α:=Bool) [2,5,7,8,9,36,37,38] z (fun S=>[(50,.bool S)]) (fun S=>rowR 3 1 a c::rowR 3 1 f d::L) (fun S hh=>bA = S) ?_ ?_
     ·have H:=bB
      refine Rg<|Mv z<|Vv (V.lt z z)<|Mv z<|T.bH 45 H z (fun H=>?_) (fun H=>?_)
      ·have aP:=(((aq.trans aC).trans ae).trans Y)
       have bD:=an.mono aP
       refine Vv (V.ldS rfl bD (by exact shhall_31)) ?_
       refine Mv z<|Mv z<|have bE:=Slc.mono VI.mono ao aP; ?_
       obtain ⟨bG,bI,H⟩:=bnd H
       refine To (O.callS z (hall_near_ok (show VapiTable bu [.string t1.fName,.int .u8 t1.fShape,.int .i64 t1.fA,.int .i64 t1.fB,W,.int .i64 t1.fX,.int .i64 t1.fY] t1 from ⟨W,z,bE⟩) bI _) z fun ct cu cw bJ bK=>?_)
       obtain ⟨rfl,bM⟩:=bK
       refine Sl_ _ bM<|Vv (V.pkT z z)<|Nt<|T.met bG bJ (sinj H) (AllIn.app ⟨z,trivial⟩ ⟨z,z,z,z,z,z,z,z,trivial⟩) z
      refine Sk<|Sk<|Sk<|Sk<|Vv (V.pkF z z)<|Nt<|T.met false Lr (sinj H) (AllIn.app ⟨z,trivial⟩ ⟨z,z,z,z,z,z,z,z,trivial⟩) z
     rintro S Z G bN
     have H:=cutE bN bC
     refine T.norm [50,2,5,7,8,9,36,37,38] z<|Sl_ (rowR 3 1 a c::rowR 3 1 f d::L) z<|T.cH H z (fun H=>?_) (fun H=>?_)
     ·refine Sr<|Mv z<|Mv z<|Mv z<|Mv z ?_
      obtain ⟨cx,aS,H⟩:=bnd H
      have I:=RowF.mono VI.mono P G
      obtain ⟨cy,bO,rfl⟩:=RowF.get I aS
      refine Vv (V.ixR elhall_25 z z (j:=0) z (RowF.bd I aS))<|Vv (V.ldR shhall_3 z (j:=0) z bO z) ?_
      obtain ⟨U,bP,H⟩:=bnd H
      refine Vv (V.addS z z bP) ?_
      obtain ⟨cA,aj,H⟩:=bnd H
      obtain ⟨cB,cC,rfl⟩:=RowF.get I aj
      refine Vv (V.ixR elhall_25 z z (j:=0) z (RowF.bd I aj)) ?_
      obtain ⟨aU,bS,H⟩:=bnd H
      refine To (O.stR shhall_3 z z (j:=0) z (RowF.bdN I aj) z<|have bU:RowF (VI .i64) Z (c.set b.toNat [.int .i64 U]) aU:=RowF.set I (show (VI .i64) Z [.int .i64 U] U from z) bS; Nt<|Rg<|Mv z<|Mv z<|To (O.bs elhall_25 zehall_3 z (e:=z) (hk:=z) (xs:=[.tmp 60]) (hv:=CO.eq (CO.cons z CO.nil)) (hw:=Wide.of z) (hd:=z) fun bV=>have ak:RowF (VI .i64) Z [[.int .i64 b]] ([b]:List Int):=(RowF.cons z RowF.nil); ?_))
      obtain ⟨aV,aW,H⟩:=bnd H
      have aX:=RowF.mono VI.mono ag G
      refine To (O.apX elhall_25 elhall_25 zehall_3 z z z (j:=2) z (Src.row (j:=0) z) (Wide.of z) (RowF.ones VI.plain ak) aX ak aW z fun aY cD cE=>have bW:RowF (VI .i64) Z (d ++ [[.int .i64 b]]) aV:=RowF.ap aX ak aW; Sl_ (rowR 3 1 aY (d ++ [[.int .i64 b]])::rowR 3 1 (.slice (some ⟨bV,0,none⟩) 1 1) [[.int .i64 b]]::rowR 3 1 a (c.set b.toNat [.int .i64 U])::L) z<|Fr_ 1 z<|T.fl ?_)
      refine T.drop<|Ag z<|Ni<|Bn<|Th<|Rg ?_
      obtain ⟨bX,bY,H⟩:=bnd H
      refine Vv (V.addS z z bY)<|Mv z<|Nt<|Fr_ 1 z<|have bZ:=(Y.trans G); T.again (aN,aU,bX,aV,(c.set b.toNat [.int .i64 U]),aY,(d ++ [[.int .i64 b]])) bZ (Nat.lt_succ_self _) ⟨(iterK_in H ai),bU,bW⟩ (AllIn.app ⟨z,z,z,z,trivial⟩ ⟨z,z,z,trivial⟩) z
     refine T.skip<|Bn<|Th<|Rg ?_
     obtain ⟨b0,b1,H⟩:=bnd H
     refine Vv (V.addS z z b1)<|Mv z<|Nt<|have b2:=RowF.mono VI.mono P G; have b3:=RowF.mono VI.mono ag G; have b4:=(Y.trans G); T.again (aN,p,b0,q,c,f,d) b4 (Nat.lt_succ_self _) ⟨(iterK_in H ai),b2,b3⟩ (AllIn.app ⟨z,z,z,z,trivial⟩ ⟨z,z,z,trivial⟩) z
    refine T.exit<|Te<|Te<|have H:=iterK_out H ai; Be<|Th<|T.met (p,q,c,f,d) Y ⟨H,P,ag⟩ (AllIn.app ⟨z,z,trivial⟩ ⟨z,trivial⟩) z
   rintro ⟨C,D,t,u,w⟩ cG b5 ⟨b6,b7,b8⟩
   have H:=cutE b6 bt
   refine T.norm [5,7,2] z<|Sl_ (rowR 3 1 a t::rowR 3 1 u w::L) z<|Bn<|Th<|have b9:=(ae.trans b5); T.again (bm,C,D,t,u,w) b9 (Nat.lt_succ_self _) ⟨(iterK_in H aG),b7,b8⟩ (AllIn.app ⟨z,z,trivial⟩ ⟨z,trivial⟩) z
  refine T.exit<|Te<|Te<|have H:=iterK_out H aG; Be<|Th<|Fr_ 1 z<|T.drop<|T.met (i,k) ae ⟨H,af⟩ (AllIn.app ⟨z,trivial⟩ trivial) z
 rintro ⟨M,y⟩ cI bh ⟨bl,bv⟩
 have H:=cutE bl bi
 refine T.norm [5] z<|Sl_ (rowR 3 1 a y::L) z<|Sr<|Mv z<|Ag z<|Nt<|T.ret ?_
 obtain rfl:=Option.some.inj H
 have bz:=(((am.trans aq).trans aC).trans bh)
 exact T.retL Tryz.results245 (Rv z) bz ⟨_,z,bv⟩
theorem hall_levels_ok {h:PH} {pc0:List Value} {t1:apiTable} (pr0:VapiTable h pc0 t1) {r_0:List Int} (H:hall_levels t1 = some r_0):∀ L,FnS Tryz.prog 156 [.agg pc0.toArray] h (L) (fun v h' L'=>∃ cs0,L' = rowR 3 1 v cs0::L∧RowF (VI .i64) h' cs0 r_0):=by
 intro L
 obtain ⟨o,rfl,B⟩:=pr0
 refine FnS.enter Tryz.func156 z Tryz.ntmps156 z<|Sr<|To (O.boxF z z z fun aD aE C p=>Ag z<|Nt<|Sr<|Vv (V.fa fdhall_31_1 z)<|Vv (V.ldf (k:=1) shhall_29 z p z) ?_)
 obtain ⟨⟨D,aG⟩,E,H⟩:=bnd H
 refine To (O.callS z (hall_layoutOf_ok E _) z fun aI aJ aK q G=>?_)
 obtain ⟨I,J,K,M,N,rfl,P,S,U,W,r,X⟩:=G
 refine Sl_ _ P<|Mv z<|Vv (V.ext rfl rfl)<|Vv (V.ext rfl rfl)<|To (O.alloc zehall_187 rfl rfl fun aM=>To (O.stF (vs:=[.string D.fword,I,J,K,M,N]) shhall_187 rfl rfl (j:=0) rfl rfl (by (simp only [Sl.ones,S.1.1,U.1.1,W.1.1,r.1.1,X.1.1,Bool.and_true,Bool.true_and]) <;> rfl) rfl ?_))
 refine T.freeze fun aN g Y=>have Z:=AtC.of Y; Ag z<|Nt<|Sq<|T.drawF (t:=(.v 0 (.v 1 (.v 2 (.v 3 (.v 4 (.v 5 (.v 6 (.alt 7 (.alt 8 (.alt 9 .done .no) .no) .no))))))))) 11 0 0 rfl rfl hallmixed (by kernel_rfl) ?_
 have aa:=(q.trans g)
 have i:=p.mono aa
 refine Tv z (V.ldS rfl i (by exact shhall_31)) ?_
 refine Tv z (V.fa fdhall_187_4 z)<|Tv z (V.ldf (k:=4) shhall_101 z Z z)<|Tv z (V.fa fdhall_31_2 z)<|Tv z (V.ldf (k:=2) shhall_3 z i z)<|Tv z (V.fa fdhall_31_3 z)<|Tv z (V.ldf (k:=3) shhall_3 z i z) ?_
 obtain ⟨aO,ab,H⟩:=bnd H
 have ac:=CF101.mono r g
 obtain ⟨aP,aS,aU,ad,ae⟩:=CF101.call ac ab
 refine Tp z z (SX.two (XA.fr [] Lr z) (XA.fr [] Lr z)) (O.callfW z ad z (ae _) z fun aV af aW a ag=>?_) T.tno
 obtain ⟨rfl,ai⟩:=ag
 refine Sl_ _ ai<|have s:=(((C.trans q).trans g).trans a); have aj:=Slc.mono VI.mono B s; ?_
 obtain ⟨ak,am,H⟩:=bnd H
 refine Tp z z (SX.two (XA.fr [] a z) (XA.fr [] a z)) (O.callS z (hall_steps_ok (show VapiTable af [.string t1.fName,.int .u8 t1.fShape,.int .i64 t1.fA,.int .i64 t1.fB,o,.int .i64 t1.fX,.int .i64 t1.fY] t1 from ⟨o,z,aj⟩) am _) z fun e aX aY d an=>?_) T.tno
 obtain ⟨f,ao,m⟩:=an
 refine Sl_ _ ao<|Ts z z (SX.two (XA.fr [] (a.trans d) z) (XA.fr [] (a.trans d) z)) (V.asg z) z ?_ T.tno
 refine T.tnil (SX.two (XA.fr [] (a.trans d) z) (XA.fr [] (a.trans d) z))<|Th<|Sq<|Sr<|Mv z<|Vv (V.lenX elhall_25 z (j:=0) z m.len)<|Mv z<|Nt ?_
 obtain ⟨u,ap,aq⟩:=bndK H
 refine T.cutK (α:=Unit) [5] z (fun _u=>[]) (fun _u=>rowR 3 1 e f::L) (fun _u hh=>u = ()) ?_ ?_
 ·have H:=ap
  refine Bl<|T.loopK (α:=Nat×Int) [5,23,24] z (fun ⟨b,c⟩=>[(25,.int .i64 c)]) (fun ⟨b,c⟩=>rowR 3 1 e f::L) (fun ⟨b,c⟩ hh=>iter (hall_levels_l0 ak) b c = some u) (fun ⟨b,c⟩=>b) (FUEL,(0:Int)) ⟨z,trivial⟩ z H ?_
  rintro ⟨b,c⟩ aZ n ar
  obtain ⟨au,a0,rfl,H,w⟩:=iter_go ar
  refine T.norm [25,5,23,24] z<|Sl_ (rowR 3 1 e f::L) z<|Sr<|Vv (V.lt z z)<|Nt<|Sq<|T.cH H z (fun H=>?_) (fun H=>?_)
  ·refine T.skip<|Th<|Sq<|Bl<|Sr<|Mv z ?_
   obtain ⟨a1,x,H⟩:=bnd H
   have y:=RowF.mono VI.mono m n
   obtain ⟨a2,aw,rfl⟩:=RowF.get y x
   refine Vv (V.ixR elhall_25 z z (j:=0) z (RowF.bd y x))<|Vv (V.ldR shhall_3 z (j:=0) z aw z)<|Ag z<|Ag z<|Nt<|Sr<|Mv z<|Vv (V.lt z z)<|Nt<|T.cH H z (fun H=>?_) (fun H=>?_)
   ·exact dead H
   refine T.skip<|Bn<|Th<|Rg ?_
   obtain ⟨ax,ay,H⟩:=bnd H
   refine Vv (V.addS z z ay)<|Mv z<|Nt<|T.again (au,ax) n (Nat.lt_succ_self _) (iterK_in H w) (AllIn.app ⟨z,trivial⟩ ⟨z,z,z,trivial⟩) z
  refine T.exit<|Te<|Te<|have H:=iterK_out H w; Be<|Th<|T.met () n H (AllIn.app trivial ⟨z,trivial⟩) z
 rintro _ a3 A aA
 have H:=cutE aA aq
 refine T.norm [5] z<|Sl_ (rowR 3 1 e f::L) z<|Sr<|Mv z<|Ag z<|Nt<|T.ret<|have aB:=RowF.mono VI.mono m A; ?_
 obtain rfl:=Option.some.inj H
 have aC:=((s.trans d).trans A)
 exact T.retL Tryz.results156 (Rv z) aC ⟨_,z,aB⟩
theorem hall_Check_ok {h:PH} {pc0:List Value} {t1:apiTable} (pr0:VapiTable h pc0 t1) {r_0:Int} (H:hall_Check t1 = some r_0):∀ L,FnS Tryz.prog 200 [.agg pc0.toArray] h (L) (fun v h' L'=>v = .int .i64 r_0∧L' = L):=by
 intro L
 obtain ⟨e,rfl,p⟩:=pr0
 refine FnS.enter Tryz.func200 rfl Tryz.ntmps200 rfl<|Sr<|To (O.boxF rfl rfl rfl fun K q f g=>Ag z<|Nt<|Sr<|Vv (V.ldS rfl g (by exact shhall_31)) ?_)
 have i:=Slc.mono VI.mono p f
 obtain ⟨M,r,H⟩:=bnd H
 refine To (O.callS z (hall_size_ok (show VapiTable q [.string t1.fName,.int .u8 t1.fShape,.int .i64 t1.fA,.int .i64 t1.fB,e,.int .i64 t1.fX,.int .i64 t1.fY] t1 from ⟨e,z,i⟩) r _) z fun N P S c s=>?_)
 obtain ⟨rfl,t⟩:=s
 refine Sl_ _ t<|Ag z<|Nt<|Sr<|Ag z<|Nt<|Sq<|Bl<|Sr<|Vv (V.fa fdhall_31_0 z)<|have j:=g.mono c; Vv (V.ldf (k:=0) shhall_9 z j z) ?_
 obtain ⟨U,u,H⟩:=bnd H
 refine To (O.callS z (hall_name_ok u _) z fun W X Y d w=>?_)
 obtain ⟨rfl,x⟩:=w
 refine Sl_ _ x<|Vv (V.not z)<|Ag z<|Nt<|T.cH H z (fun H=>?_) (fun H=>?_)
 ·exact dead H
 refine Sr<|Mv z<|Vv (V.eq z z)<|Ag z<|Nt<|T.cH H z (fun H=>?_) (fun H=>?_)
 ·exact dead H
 refine T.skip<|Bn<|Th<|Sq<|Sr<|Vv (V.fa fdhall_31_4 z)<|have m:=j.mono d; Vv (V.ldf (k:=4) shhall_25 z m z)<|have y:=(c.trans d); have A:=Slc.mono VI.mono i y; Vv (V.lenS elhall_25 z A)<|Mv z<|Nt ?_
 obtain ⟨n,B,C⟩:=bndK H
 refine T.cutK (α:=Unit) [1] z (fun _u=>[]) (fun _u=>L) (fun _u hh=>n = ()) ?_ ?_
 ·have H:=B
  refine Bl<|T.loopK (α:=Nat) [1,19,20] z (fun a=>[]) (fun a=>L) (fun a hh=>iter (hall_Check_l0 t1) a () = some n) (fun a=>a) FUEL trivial z H ?_
  rintro a Z D E
  obtain ⟨aa,ab,rfl,H,G⟩:=iter_go E
  refine T.norm [1,19,20] z<|Sl_ (L) z<|Sr<|Vv (V.lt z z)<|Nt<|Sq<|T.cH H z (fun H=>?_) (fun H=>?_)
  ·exact dead H
  refine T.exit<|Te<|Te<|have H:=iterK_out H G; Be<|Th<|T.met () D H (AllIn.app trivial ⟨z,trivial⟩) z
 rintro _ ac o I
 have H:=cutE I C
 refine T.norm [1] z<|Sl_ (L) z<|Sq<|Sr<|Vv (V.fa fdhall_31_5 z)<|have b:=m.mono o; Vv (V.ldf (k:=5) shhall_3 z b z)<|Vv (V.lt z z)<|Mv z<|T.bH 37 H z (fun H=>?_) (fun H=>?_)
 ·exact dead H
 refine Vv (V.fa fdhall_31_5 z)<|Vv (V.ldf (k:=5) shhall_3 z b z)<|Vv (V.gt z z)<|Vv (V.pkF z z)<|Mv z<|T.bH 42 H z (fun H=>?_) (fun H=>?_)
 ·exact dead H
 refine Vv (V.fa fdhall_31_6 z)<|Vv (V.ldf (k:=6) shhall_3 z b z)<|Vv (V.lt z z)<|Vv (V.pkF z z)<|Mv z<|T.bH 47 H z (fun H=>?_) (fun H=>?_)
 ·exact dead H
 refine Vv (V.fa fdhall_31_6 z)<|Vv (V.ldf (k:=6) shhall_3 z b z)<|Vv (V.gt z z)<|Vv (V.pkF z z)<|Nt<|T.cH H z (fun H=>?_) (fun H=>?_)
 ·exact dead H
 refine T.skip<|Th<|Sr<|Ag z<|Nt<|T.ret ?_
 obtain rfl:=Option.some.inj H
 have J:=(((f.trans c).trans d).trans o)
 exact T.retL Tryz.results200 (Rv z) J ⟨z,z⟩
theorem hall_CheckAll1_ok {h:PH} {pc0:List Value} {x1:apiTable} (pr0:VapiTable h pc0 x1) {pp1:Addr} {pc1:List Value} {t4:apiTable} (pa1:AtC h pp1 pc1) (pr1:VapiTable h pc1 t4) {r_0:Bool} (H:hall_CheckAll1 x1 t4 = some r_0):∀ L,FnS Tryz.prog 202 [.agg pc0.toArray,.pointer (some pp1)] h (L) (fun v h' L'=>v = .bool r_0∧L' = L):=by
 intro L
 obtain ⟨d,rfl,e⟩:=pr0
 obtain ⟨f,rfl,g⟩:=pr1
 refine FnS.enter Tryz.func202 z Tryz.ntmps202 z<|Sr<|To (O.boxF z z z fun i j a b=>Ag z<|Nt<|Sr<|Vv (V.fa fdhall_31_0 z)<|Vv (V.ldf (k:=0) shhall_9 z b z)<|Vv (V.fa fdhall_31_0 z)<|have c:=pa1.mono a; Vv (V.ldf (k:=0) shhall_9 z c z)<|Vv (V.seq z z)<|Ag z<|Nt<|T.ret ?_)
 obtain rfl:=Option.some.inj H
 exact T.retL Tryz.results202 (Rv z) a ⟨z,z⟩
theorem hall_CheckAll_ok {h:PH} {pv0:Value} {l1:List apiTable} (pr0:Slc VapiTable 7 h pv0 l1) {r_0:Int} {r_1:Int} (H:hall_CheckAll l1 = some (r_0,r_1)):∀ L,FnS Tryz.prog 121 [pv0] h (L) (fun v h' L'=>v = .tuple #[.int .i64 r_0,.int .i64 r_1]∧L' = L):=by
 intro L
 refine FnS.enter Tryz.func121 z Tryz.ntmps121 z<|Sr<|Ag z<|Ag z<|Nt<|Sq<|Sr<|Mv z<|Vv (V.lenS elhall_22 z pr0)<|Vv (V.gt z z)<|Nt<|T.cH H z (fun H=>?_) (fun H=>?_)
 ·exact dead H
 refine T.skip<|Th<|Sq<|Sr<|Mv z<|Vv (V.lenS elhall_22 z pr0)<|Mv z<|Nt ?_
 obtain ⟨k,w,x⟩:=bndK H
 refine T.cutK (α:=Unit) [] z (fun _u=>[]) (fun _u=>L) (fun _u hh=>k = ()) ?_ ?_
 ·have H:=w
  refine Bl<|T.loopK (α:=Nat×Int) [0,10,11] z (fun ⟨b,c⟩=>[(12,.int .i64 c)]) (fun ⟨b,c⟩=>L) (fun ⟨b,c⟩ hh=>iter (hall_CheckAll_l0 l1) b c = some k) (fun ⟨b,c⟩=>b) (FUEL,(0:Int)) ⟨z,trivial⟩ z H ?_
  rintro ⟨b,c⟩ an f y
  obtain ⟨A,ao,rfl,H,m⟩:=iter_go y
  refine T.norm [12,0,10,11] z<|Sl_ (L) z<|Sr<|Vv (V.lt z z)<|Nt<|Sq<|T.cH H z (fun H=>?_) (fun H=>?_)
  ·refine T.skip<|Th<|Sq<|Bl<|Sr<|Mv z ?_
   obtain ⟨a,n,H⟩:=bnd H
   have g:=Slc.mono VapiTable.mono pr0 f
   obtain ⟨ap,B,⟨d,rfl,o⟩⟩:=Slc.at g n
   refine Vv (V.ix elhall_22 rfl rfl g (getI_bd n))<|Vv (V.ldS rfl B (by exact shhall_31)) ?_
   refine To (O.alloc zehall_31 rfl rfl fun p=>Ag z<|To (O.stF (vs:=[.string a.fName,.int .u8 a.fShape,.int .i64 a.fA,.int .i64 a.fB,d,.int .i64 a.fX,.int .i64 a.fY]) shhall_31 rfl rfl (j:=0) rfl rfl (by (simp only [Sl.ones,Slc.one o,Bool.and_true,Bool.true_and]) <;> rfl) rfl ?_))
   refine T.freeze fun C i D=>have q:=AtC.of D; Nt<|Sq<|Sr<|Vv (V.ldS rfl q (by exact shhall_31)) ?_
   have r:=Slc.mono VI.mono o i
   obtain ⟨aq,E,H⟩:=bnd H
   refine To (O.callS z (hall_Check_ok (show VapiTable C [.string a.fName,.int .u8 a.fShape,.int .i64 a.fA,.int .i64 a.fB,d,.int .i64 a.fX,.int .i64 a.fY] a from ⟨d,z,r⟩) E _) z fun ar s au e G=>?_)
   obtain ⟨rfl,I⟩:=G
   refine Sl_ _ I<|Ag z<|Nt<|Sr<|Mv z<|Vv (V.ne z z)<|Nt<|T.cH H z (fun H=>?_) (fun H=>?_)
   ·exact dead H
   refine T.skip<|Th<|Sr<|Mv z<|Mv z<|have J:=(i.trans e); have K:=Slc.mono VapiTable.mono g J; ?_
   obtain ⟨M,t,H⟩:=bnd H
   refine T.slM z elhall_22 z K (.inl ⟨z,z⟩) (.inr ⟨_,_,z,z⟩) (sbL_eq t).2 z fun N P aw=>?_
   have S:Slc VapiTable 7 s N M:=by rw [(sbL_eq t).1]; exact P
   refine Vv (V.mkf z z)<|have U:=q.mono e; have W:=Slc.mono VI.mono r e; ?_
   obtain ⟨ax,X,H⟩:=bnd H
   refine To (O.callS z (sl_ContainsFuncTable_ok S (show CF254 s (.func (.func 202) #[] #[.pointer (some ⟨p,0,none⟩)]) (fun Y=>hall_CheckAll1 Y a) from ⟨⟨z,z⟩,.inr ⟨202,[],[.pointer (some ⟨p,0,none⟩)],z,fun Z u ay aA aa aB ab ac=>hall_CheckAll1_ok aa (U.mono u) (show VapiTable Z [.string a.fName,.int .u8 a.fShape,.int .i64 a.fA,.int .i64 a.fB,d,.int .i64 a.fX,.int .i64 a.fY] a from ⟨d,z,(Slc.mono VI.mono W u)⟩) ab ac⟩⟩) X _) z fun aC aD aE ad ae=>?_)
   obtain ⟨rfl,af⟩:=ae
   refine Sl_ _ af<|Nt<|T.cH H z (fun H=>?_) (fun H=>?_)
   ·exact dead H
   refine T.skip<|Bn<|Th<|Rg ?_
   obtain ⟨ag,ai,H⟩:=bnd H
   refine Vv (V.addS z z ai)<|Mv z<|Nt<|have aj:=(((f.trans i).trans e).trans ad); T.again (A,ag) aj (Nat.lt_succ_self _) (iterK_in H m) (AllIn.app ⟨z,trivial⟩ ⟨z,z,z,trivial⟩) z
  refine T.exit<|Te<|Te<|have H:=iterK_out H m; Be<|Th<|T.met () f H (AllIn.app trivial trivial) z
 rintro _ aG ak am
 have H:=cutE am x
 refine T.norm [] z<|Sl_ (L) z<|Sr<|Ag z<|Ag z<|Nt<|T.ret ?_
 obtain ⟨rfl,rfl⟩:=inj2 H
 exact T.retL Tryz.results121 (RVs.cons (RV.tmp z) (Rv z)) ak ⟨z,z⟩
theorem hall_Find1_ok {h:PH} {pc0:List Value} {x1:apiTable} (pr0:VapiTable h pc0 x1) {pp1:Addr} {pc1:List Value} {t4:ByteArray} (pa1:AtC h pp1 pc1) (pr1:VS h pc1 t4) {r_0:Bool} (H:hall_Find1 x1 t4 = some r_0):∀ L,FnS Tryz.prog 192 [.agg pc0.toArray,.pointer (some pp1)] h (L) (fun v h' L'=>v = .bool r_0∧L' = L):=by
 intro L
 obtain ⟨d,rfl,e⟩:=pr0
 obtain rfl:=pr1
 refine FnS.enter Tryz.func192 z Tryz.ntmps192 z<|Sr<|To (O.boxF z z z fun f g a b=>Ag z<|Nt<|Sr<|Vv (V.fa fdhall_31_0 z)<|Vv (V.ldf (k:=0) shhall_9 z b z)<|have c:=pa1.mono a; Vv (V.ld0 shhall_9 z c z)<|Vv (V.seq z z)<|Ag z<|Nt<|T.ret ?_)
 obtain rfl:=Option.some.inj H
 exact T.retL Tryz.results192 (Rv z) a ⟨z,z⟩
theorem hall_valid_ok {h:PH} {pv0:Value} {l1:List apiTable} (pr0:Slc VapiTable 7 h pv0 l1) {r_0:Bool} (H:hall_valid l1 = some r_0):∀ L,FnS Tryz.prog 59 [pv0] h (L) (fun v h' L'=>v = .bool r_0∧L' = L):=by
 intro L
 refine FnS.enter Tryz.func59 z Tryz.ntmps59 z<|Sr<|Ag z<|Nt<|Sr<|Mv z ?_
 obtain ⟨⟨e,f⟩,a,H⟩:=bnd H
 refine To (O.callS z (hall_CheckAll_ok pr0 a _) z fun g i j b c=>?_)
 obtain ⟨rfl,d⟩:=c
 refine Sl_ _ d<|Mv z<|Vv (V.ext z z)<|Vv (V.ext z z)<|Ag z<|Ag z<|Nt<|Sr<|Mv z<|Vv (V.eq z z)<|Ag z<|Nt<|T.ret ?_
 obtain rfl:=Option.some.inj H
 exact T.retL Tryz.results59 (Rv z) b ⟨z,z⟩
theorem hall_First_ok {h:PH} {pv0:Value} {l1:List apiTable} (pr0:Slc VapiTable 7 h pv0 l1) {t2:Int} {r_0:Int} (H:hall_First l1 t2 = some r_0):∀ L,FnS Tryz.prog 74 [pv0,.int .i64 t2] h (L) (fun v h' L'=>v = .int .i64 r_0∧L' = L):=by
 intro L
 refine FnS.enter Tryz.func74 z Tryz.ntmps74 z<|Sr<|Ag z<|Nt<|Sq<|Sr<|Mv z<|Vv (V.lt z z)<|Mv z<|T.bH 10 H z (fun H=>?_) (fun H=>?_)
 ·exact dead H
 refine Mv z<|Mv z<|Vv (V.lenS elhall_22 z pr0)<|Vv (V.ge z z)<|Vv (V.pkF z z)<|Mv z<|T.bH 16 H z (fun H=>?_) (fun H=>?_)
 ·exact dead H
 refine Mv z ?_
 obtain ⟨ag,u,H⟩:=bnd H
 refine To (O.callS z (hall_valid_ok pr0 u _) z fun ai w aj i x=>?_)
 obtain ⟨rfl,y⟩:=x
 refine Sl_ _ y<|Vv (V.not z)<|Vv (V.pkF z z)<|Nt<|T.cH H z (fun H=>?_) (fun H=>?_)
 ·exact dead H
 refine T.skip<|Th<|Sr<|Ag z<|Nt<|Sq<|Sr<|Mv z<|Mv z<|have A:=Slc.mono VapiTable.mono pr0 i; ?_
 obtain ⟨k,m,H⟩:=bnd H
 refine T.slM z elhall_22 z A (.inl ⟨z,z⟩) (.inr ⟨_,_,z,z⟩) (sbL_eq m).2 z fun B C ak=>?_
 have n:Slc VapiTable 7 w B k:=by rw [(sbL_eq m).1]; exact C
 refine Vv (V.lenS elhall_22 z n)<|Mv z<|Nt ?_
 obtain ⟨o,D,E⟩:=bndK H
 refine T.cutK (α:=Int) [] z (fun e=>[(5,.int .i64 e)]) (fun e=>L) (fun e hh=>o = e) ?_ ?_
 ·have H:=D
  refine Bl<|T.loopK (α:=Nat×Int×Int) [23,24] z (fun ⟨c,d,b⟩=>[(25,.int .i64 d),(5,.int .i64 b)]) (fun ⟨c,d,b⟩=>L) (fun ⟨c,d,b⟩ hh=>iter (hall_First_l0 k) c (d,b) = some o) (fun ⟨c,d,b⟩=>c) (FUEL,(0:Int),(0:Int)) ⟨z,z,trivial⟩ z H ?_
  rintro ⟨c,d,b⟩ am f G
  obtain ⟨I,an,rfl,H,p⟩:=iter_go G
  refine T.norm [25,5,23,24] z<|Sl_ (L) z<|Sr<|Vv (V.lt z z)<|Nt<|Sq<|T.cH H z (fun H=>?_) (fun H=>?_)
  ·refine T.skip<|Th<|Sq<|Bl<|Sr ?_
   obtain ⟨a,q,H⟩:=bnd H
   have r:=Slc.mono VapiTable.mono n f
   obtain ⟨ao,J,⟨g,rfl,s⟩⟩:=Slc.at r q
   refine Vv (V.ix elhall_22 rfl rfl r (getI_bd q))<|Vv (V.ldS rfl J (by exact shhall_31)) ?_
   refine To (O.alloc zehall_31 rfl rfl fun ap=>To (O.stF (vs:=[.string a.fName,.int .u8 a.fShape,.int .i64 a.fA,.int .i64 a.fB,g,.int .i64 a.fX,.int .i64 a.fY]) shhall_31 rfl rfl (j:=0) rfl rfl (by (simp only [Sl.ones,Slc.one s,Bool.and_true,Bool.true_and]) <;> rfl) rfl ?_))
   refine T.freeze fun K t M=>have N:=AtC.of M; Nt<|Rg<|Mv z<|Vv (V.ldS rfl N (by exact shhall_31)) ?_
   have P:=Slc.mono VI.mono s t
   obtain ⟨aq,S,H⟩:=bnd H
   refine To (O.callS z (hall_size_ok (show VapiTable K [.string a.fName,.int .u8 a.fShape,.int .i64 a.fA,.int .i64 a.fB,g,.int .i64 a.fX,.int .i64 a.fY] a from ⟨g,z,P⟩) S _) z fun ar au aw U W=>?_)
   obtain ⟨rfl,X⟩:=W
   refine Sl_ _ X ?_
   obtain ⟨Y,Z,H⟩:=bnd H
   refine Vv (V.addS z z Z)<|Ag z<|Ni<|Bn<|Th<|Rg ?_
   obtain ⟨aa,ab,H⟩:=bnd H
   refine Vv (V.addS z z ab)<|Mv z<|Nt<|have ac:=((f.trans t).trans U); T.again (I,aa,Y) ac (Nat.lt_succ_self _) (iterK_in H p) (AllIn.app ⟨z,z,trivial⟩ ⟨z,z,trivial⟩) z
  refine T.exit<|Te<|Te<|have H:=iterK_out H p; Be<|Th<|T.met b f H (AllIn.app ⟨z,trivial⟩ trivial) z
 rintro e ax ad ae
 have H:=cutE ae E
 refine T.norm [5] z<|Sl_ (L) z<|Sr<|Mv z<|Ag z<|Nt<|T.ret ?_
 obtain rfl:=Option.some.inj H
 have af:=(i.trans ad)
 exact T.retL Tryz.results74 (Rv z) af ⟨z,z⟩
theorem hall_lastSize_ok {h:PH} {pv0:Value} {l1:List apiTable} (pr0:Slc VapiTable 7 h pv0 l1) {r_0:Int} (H:hall_lastSize l1 = some r_0):∀ L,FnS Tryz.prog 87 [pv0] h (L) (fun v h' L'=>v = .int .i64 r_0∧L' = L):=by
 intro L
 refine FnS.enter Tryz.func87 z Tryz.ntmps87 z<|Sr<|Ag z<|Nt<|Sq<|Sr<|Mv z<|Vv (V.lenS elhall_22 z pr0)<|Vv (V.eq z z)<|Nt<|T.cH H z (fun H=>?_) (fun H=>?_)
 ·exact dead H
 refine T.skip<|Th<|Sr<|Mv z<|Mv z<|Vv (V.lenS elhall_22 z pr0) ?_
 obtain ⟨m,d,H⟩:=bnd H
 refine Vv (V.subS z z d) ?_
 obtain ⟨a,b,H⟩:=bnd H
 obtain ⟨n,e,⟨c,rfl,f⟩⟩:=Slc.at pr0 b
 refine Vv (V.ix elhall_22 rfl rfl pr0 (getI_bd b))<|Vv (V.ldS rfl e (by exact shhall_31)) ?_
 obtain ⟨o,g,H⟩:=bnd H
 refine To (O.callS z (hall_size_ok (show VapiTable h [.string a.fName,.int .u8 a.fShape,.int .i64 a.fA,.int .i64 a.fB,c,.int .i64 a.fX,.int .i64 a.fY] a from ⟨c,z,f⟩) g _) z fun p q r i j=>?_)
 obtain ⟨rfl,k⟩:=j
 refine Sl_ _ k<|Ag z<|Nt<|T.ret ?_
 obtain rfl:=Option.some.inj H
 exact T.retL Tryz.results87 (Rv z) i ⟨z,z⟩
theorem hall_Count_ok {h:PH} {pv0:Value} {l1:List apiTable} (pr0:Slc VapiTable 7 h pv0 l1) {r_0:Int} (H:hall_Count l1 = some r_0):∀ L,FnS Tryz.prog 30 [pv0] h (L) (fun v h' L'=>v = .int .i64 r_0∧L' = L):=by
 intro L
 refine FnS.enter Tryz.func30 z Tryz.ntmps30 z<|Sr<|Ag z<|Nt<|Sq<|Sr<|Mv z ?_
 obtain ⟨t,d,H⟩:=bnd H
 refine To (O.callS z (hall_valid_ok pr0 d _) z fun u w x b e=>?_)
 obtain ⟨rfl,f⟩:=e
 refine Sl_ _ f<|Vv (V.not z)<|Nt<|T.cH H z (fun H=>?_) (fun H=>?_)
 ·exact dead H
 refine T.skip<|Th<|Sr<|Mv z<|Mv z<|have a:=Slc.mono VapiTable.mono pr0 b; Vv (V.lenS elhall_22 z a) ?_
 obtain ⟨y,g,H⟩:=bnd H
 refine Vv (V.subS z z g) ?_
 obtain ⟨A,i,H⟩:=bnd H
 refine To (O.callS z (hall_First_ok a i _) z fun B C D c j=>?_)
 obtain ⟨rfl,k⟩:=j
 refine Sl_ _ k<|Mv z<|have m:=Slc.mono VapiTable.mono a c; ?_
 obtain ⟨E,n,H⟩:=bnd H
 refine To (O.callS z (hall_lastSize_ok m n _) z fun G I J o p=>?_)
 obtain ⟨rfl,q⟩:=p
 refine Sl_ _ q ?_
 obtain ⟨K,r,H⟩:=bnd H
 refine Vv (V.addS z z r)<|Ag z<|Nt<|T.ret ?_
 obtain rfl:=Option.some.inj H
 have s:=((b.trans c).trans o)
 exact T.retL Tryz.results30 (Rv z) s ⟨z,z⟩
theorem hall_Where_ok {h:PH} {pv0:Value} {l1:List apiTable} (pr0:Slc VapiTable 7 h pv0 l1) {seat2:Int} {r_0:Int} {r_1:Int} {r_2:Bool} (H:hall_Where l1 seat2 = some (r_0,r_1,r_2)):∀ L,FnS Tryz.prog 18 [pv0,.int .i64 seat2] h (L) (fun v h' L'=>v = .tuple #[.int .i64 r_0,.int .i64 r_1,.bool r_2]∧L' = L):=by
 intro L
 refine FnS.enter Tryz.func18 z Tryz.ntmps18 z<|Sr<|Ag z<|Ag z<|Ag z<|Nt<|Sq<|Sr<|Mv z<|Vv (V.lt z z)<|Mv z<|T.bH 12 H z (fun H=>?_) (fun H=>?_)
 ·exact dead H
 refine Mv z ?_
 obtain ⟨X,r,H⟩:=bnd H
 refine To (O.callS z (hall_valid_ok pr0 r _) z fun Y Z aa i s=>?_)
 obtain ⟨rfl,t⟩:=s
 refine Sl_ _ t<|Vv (V.not z)<|Vv (V.pkF z z)<|Nt<|T.cH H z (fun H=>?_) (fun H=>?_)
 ·exact dead H
 refine T.skip<|Th<|Sq<|Sr<|Mv z<|have k:=Slc.mono VapiTable.mono pr0 i; Vv (V.lenS elhall_22 z k)<|Mv z<|Nt ?_
 obtain ⟨u,w,x⟩:=bndK H
 have H:=w
 refine Bl<|T.loopK (α:=Nat×Int×Int) [17,18] z (fun ⟨b,c,d⟩=>[(1,.int .i64 c),(19,.int .i64 d)]) (fun ⟨b,c,d⟩=>L) (fun ⟨b,c,d⟩ hh=>iter (hall_Where_l0 l1) b (c,d) = some u) (fun ⟨b,c,d⟩=>b) (FUEL,seat2,(0:Int)) ⟨z,z,trivial⟩ z H ?_
 rintro ⟨b,c,d⟩ ab e y
 obtain ⟨A,ac,rfl,H,m⟩:=iter_go y
 refine T.norm [1,19,17,18] z<|Sl_ (L) z<|Sr<|Vv (V.lt z z)<|Nt<|Sq<|T.cH H z (fun H=>?_) (fun H=>?_)
 ·refine T.skip<|Th<|Sq<|Bl<|Sr<|Mv z ?_
  obtain ⟨a,n,H⟩:=bnd H
  have o:=Slc.mono VapiTable.mono k e
  obtain ⟨ad,B,⟨f,rfl,p⟩⟩:=Slc.at o n
  refine Vv (V.ix elhall_22 rfl rfl o (getI_bd n))<|Vv (V.ldS rfl B (by exact shhall_31)) ?_
  refine To (O.alloc zehall_31 rfl rfl fun ae=>Ag z<|To (O.stF (vs:=[.string a.fName,.int .u8 a.fShape,.int .i64 a.fA,.int .i64 a.fB,f,.int .i64 a.fX,.int .i64 a.fY]) shhall_31 rfl rfl (j:=0) rfl rfl (by (simp only [Sl.ones,Slc.one p,Bool.and_true,Bool.true_and]) <;> rfl) rfl ?_))
  refine T.freeze fun C g D=>have E:=AtC.of D; Nt<|Sr<|Vv (V.ldS rfl E (by exact shhall_31)) ?_
  have G:=Slc.mono VI.mono p g
  obtain ⟨af,I,H⟩:=bnd H
  refine To (O.callS z (hall_size_ok (show VapiTable C [.string a.fName,.int .u8 a.fShape,.int .i64 a.fA,.int .i64 a.fB,f,.int .i64 a.fX,.int .i64 a.fY] a from ⟨f,z,G⟩) I _) z fun ag ai aj q J=>?_)
  obtain ⟨rfl,K⟩:=J
  refine Sl_ _ K<|Ag z<|Nt<|Sq<|Sr<|Mv z<|Mv z<|Vv (V.lt z z)<|Nt<|T.cH H z (fun H=>?_) (fun H=>?_)
  ·refine Sr<|Mv z<|Mv z<|Ag z<|Ag z<|Ag z<|Nt<|T.ret<|Tr<|Br<|Tr<|Tr<|have H:=iterK_out H m; Br<|have H:=cutE H x; Tr ?_
   obtain ⟨rfl,rfl,rfl⟩:=inj3 H
   have M:=(((i.trans e).trans g).trans q)
   exact T.retL Tryz.results18 (RVs.cons (RV.tmp z) (RVs.cons (RV.tmp z) (Rv z))) M ⟨z,z⟩
  refine T.skip<|Th<|Rg<|Mv z<|Mv z ?_
  obtain ⟨N,P,H⟩:=bnd H
  refine Vv (V.subS z z P)<|Ag z<|Ni<|Bn<|Th<|Rg ?_
  obtain ⟨S,U,H⟩:=bnd H
  refine Vv (V.addS z z U)<|Mv z<|Nt<|have W:=((e.trans g).trans q); T.again (A,N,S) W (Nat.lt_succ_self _) (iterK_in H m) (AllIn.app ⟨z,z,trivial⟩ ⟨z,z,trivial⟩) z
 exact dead H
theorem hall_Find_ok {h:PH} {pv0:Value} {l1:List apiTable} (pr0:Slc VapiTable 7 h pv0 l1) {name2:ByteArray} {r_0:Int} {r_1:Bool} (H:hall_Find l1 name2 = some (r_0,r_1)):∀ L,FnS Tryz.prog 108 [pv0,.string name2] h (L) (fun v h' L'=>v = .tuple #[.int .i64 r_0,.bool r_1]∧L' = L):=by
 intro L
 refine FnS.enter Tryz.func108 z Tryz.ntmps108 z<|Sr<|To (O.boxF z z z fun c f a g=>Ag z<|Ag z<|Nt<|Sr<|Mv z<|Vv (V.mkf z z)<|have d:=Slc.mono VapiTable.mono pr0 a; ?_)
 obtain ⟨B,i,H⟩:=bnd H
 refine To (O.callS z (sl_IndexFuncTable_ok d (show CF254 f (.func (.func 192) #[] #[.pointer (some ⟨c,0,none⟩)]) (fun j=>hall_Find1 j name2) from ⟨⟨z,z⟩,.inr ⟨192,[],[.pointer (some ⟨c,0,none⟩)],z,fun k m C D n E o p=>hall_Find1_ok n (g.mono m) (show VS k [.string name2] name2 from z) o p⟩⟩) i _) z fun G I J b q=>?_)
 obtain ⟨rfl,r⟩:=q
 refine Sl_ _ r<|Ag z<|Nt<|Sq<|Sr<|Mv z<|Vv (V.lt z z)<|Mv z<|T.bH 12 H z (fun H=>?_) (fun H=>?_)
 ·refine Sk<|Sk<|Sk<|Vv (V.pkT z z)<|Nt<|Ct z<|Sr<|Ag z<|Ag z<|Nt<|T.ret<|Tr ?_
  obtain ⟨rfl,rfl⟩:=inj2 H
  have s:=(a.trans b)
  exact T.retL Tryz.results108 (RVs.cons (RV.tmp z) (Rv z)) s ⟨z,z⟩
 refine Mv z<|have t:=Slc.mono VapiTable.mono d b; ?_
 obtain ⟨K,u,H⟩:=bnd H
 refine To (O.callS z (hall_valid_ok t u _) z fun M N P e w=>?_)
 obtain ⟨rfl,x⟩:=w
 refine Sl_ _ x<|Vv (V.not z)<|Vv (V.pkF z z)<|Nt<|T.cH H z (fun H=>?_) (fun H=>?_)
 ·refine Sr<|Ag z<|Ag z<|Nt<|T.ret<|Tr ?_
  obtain ⟨rfl,rfl⟩:=inj2 H
  have y:=((a.trans b).trans e)
  exact T.retL Tryz.results108 (RVs.cons (RV.tmp z) (Rv z)) y ⟨z,z⟩
 refine T.skip<|Th<|Sr<|Mv z<|Ag z<|Ag z<|Nt<|T.ret ?_
 obtain ⟨rfl,rfl⟩:=inj2 H
 have A:=((a.trans b).trans e)
 exact T.retL Tryz.results108 (RVs.cons (RV.tmp z) (Rv z)) A ⟨z,z⟩
theorem hall_Seats_ok {h:PH} {pc0:List Value} {t1:apiTable} (pr0:VapiTable h pc0 t1) {r_0:Int} (H:hall_Seats t1 = some r_0):∀ L,FnS Tryz.prog 125 [.agg pc0.toArray] h (L) (fun v h' L'=>v = .int .i64 r_0∧L' = L):=by
 intro L
 obtain ⟨a,rfl,f⟩:=pr0
 refine FnS.enter Tryz.func125 rfl Tryz.ntmps125 rfl<|Sr<|To (O.boxF rfl rfl rfl fun u g c d=>Ag z<|Nt<|Sq<|Sr<|Vv (V.ldS rfl d (by exact shhall_31)) ?_)
 have e:=Slc.mono VI.mono f c
 obtain ⟨w,i,H⟩:=bnd H
 refine To (O.callS z (hall_Check_ok (show VapiTable g [.string t1.fName,.int .u8 t1.fShape,.int .i64 t1.fA,.int .i64 t1.fB,a,.int .i64 t1.fX,.int .i64 t1.fY] t1 from ⟨a,z,e⟩) i _) z fun x j y b k=>?_)
 obtain ⟨rfl,m⟩:=k
 refine Sl_ _ m<|Vv (V.ne z z)<|Nt<|T.cH H z (fun H=>?_) (fun H=>?_)
 ·exact dead H
 refine T.skip<|Th<|Sr<|have n:=d.mono b; Vv (V.ldS rfl n (by exact shhall_31)) ?_
 have o:=Slc.mono VI.mono e b
 obtain ⟨A,p,H⟩:=bnd H
 refine To (O.callS z (hall_size_ok (show VapiTable j [.string t1.fName,.int .u8 t1.fShape,.int .i64 t1.fA,.int .i64 t1.fB,a,.int .i64 t1.fX,.int .i64 t1.fY] t1 from ⟨a,z,o⟩) p _) z fun B C D q r=>?_)
 obtain ⟨rfl,s⟩:=r
 refine Sl_ _ s<|Ag z<|Nt<|T.ret ?_
 obtain rfl:=Option.some.inj H
 have t:=((c.trans b).trans q)
 exact T.retL Tryz.results125 (Rv z) t ⟨z,z⟩
theorem hall_Open_ok {h:PH} {pv0:Value} {l1:List apiTable} (pr0:Slc VapiTable 7 h pv0 l1) {a2:Int} {r_0:Bool} (H:hall_Open l1 a2 = some r_0):∀ L,FnS Tryz.prog 76 [pv0,.int .i64 a2] h (L) (fun v h' L'=>v = .bool r_0∧L' = L):=by
 intro L
 refine FnS.enter Tryz.func76 z Tryz.ntmps76 z<|Sr<|Ag z<|Nt<|Sr<|Mv z<|Mv z ?_
 obtain ⟨⟨q,r,s⟩,d,H⟩:=bnd H
 refine To (O.callS z (hall_Where_ok pr0 d _) z fun t u w a e=>?_)
 obtain ⟨rfl,f⟩:=e
 refine Sl_ _ f<|Mv z<|Vv (V.ext z z)<|Vv (V.ext z z)<|Vv (V.ext z z)<|Ag z<|Ag z<|Ag z<|Nt<|Sr<|Mv z<|Mv z<|T.bH 16 H z (fun H=>?_) (fun H=>?_)
 ·refine Mv z<|Mv z ?_
  obtain ⟨x,b,H⟩:=bnd H
  have c:=Slc.mono VapiTable.mono pr0 a
  obtain ⟨y,g,⟨A,rfl,i⟩⟩:=Slc.at c b
  refine Vv (V.ix elhall_22 z z c (getI_bd b))<|Vv (V.fa fdhall_31_4 z)<|Vv (V.ldf (k:=4) shhall_25 z g z)<|Mv z ?_
  obtain ⟨B,j,H⟩:=bnd H
  refine To (O.callS z (sl_ContainsInt_ok i j _) z fun C D E m n=>?_)
  obtain ⟨rfl,o⟩:=n
  refine Sl_ _ o<|Vv (V.pkT z z)<|Ag z<|Nt<|T.ret ?_
  obtain rfl:=Option.some.inj H
  have p:=(a.trans m)
  exact T.retL Tryz.results76 (Rv z) p ⟨z,z⟩
 exact dead H
theorem hall_Level_ok {h:PH} {pv0:Value} {l1:List apiTable} (pr0:Slc VapiTable 7 h pv0 l1) {a2:Int} {r_0:Int} (H:hall_Level l1 a2 = some r_0):∀ L,FnS Tryz.prog 75 [pv0,.int .i64 a2] h (L) (fun v h' L'=>v = .int .i64 r_0∧L' = L):=by
 intro L
 refine FnS.enter Tryz.func75 z Tryz.ntmps75 z<|Sr<|Ag z<|Nt<|Sr<|Mv z<|Mv z ?_
 obtain ⟨⟨x,y,A⟩,i,H⟩:=bnd H
 refine To (O.callS z (hall_Where_ok pr0 i _) z fun B k C b m=>?_)
 obtain ⟨rfl,n⟩:=m
 refine Sl_ _ n<|Mv z<|Vv (V.ext z z)<|Vv (V.ext z z)<|Vv (V.ext z z)<|Ag z<|Ag z<|Ag z<|Nt<|Sq<|Sr<|Mv z<|Vv (V.not z)<|Nt<|T.cH H z (fun H=>?_) (fun H=>?_)
 ·exact dead H
 refine T.skip<|Th<|Sr<|Mv z<|Mv z ?_
 obtain ⟨a,c,H⟩:=bnd H
 have d:=Slc.mono VapiTable.mono pr0 b
 obtain ⟨D,o,⟨e,rfl,p⟩⟩:=Slc.at d c
 refine Vv (V.ix elhall_22 rfl rfl d (getI_bd c))<|Vv (V.ldS rfl o (by exact shhall_31)) ?_
 obtain ⟨E,q,H⟩:=bnd H
 refine To (O.callS z (hall_levels_ok (show VapiTable k [.string a.fName,.int .u8 a.fShape,.int .i64 a.fA,.int .i64 a.fB,e,.int .i64 a.fX,.int .i64 a.fY] a from ⟨e,z,p⟩) q _) z fun G I J r s=>?_)
 obtain ⟨K,t,f⟩:=s
 refine Sl_ _ t<|Mv z ?_
 obtain ⟨M,g,H⟩:=bnd H
 obtain ⟨N,u,rfl⟩:=RowF.get f g
 refine Vv (V.ixR elhall_25 z z (j:=0) z (RowF.bd f g))<|Vv (V.ldR shhall_3 z (j:=0) z u z)<|Ag z<|Nt<|T.ret<|T.drop ?_
 obtain rfl:=Option.some.inj H
 have w:=(b.trans r)
 exact T.retL Tryz.results75 (Rv z) w ⟨z,z⟩
theorem hall_pair_ok {h:PH} {pv0:Value} {l1:List apiTable} (pr0:Slc VapiTable 7 h pv0 l1) {a2:Int} {b3:Int} {r_0:apiTable} {r_1:Int} {r_2:Int} {r_3:Bool} (H:hall_pair l1 a2 b3 = some (r_0,r_1,r_2,r_3)):∀ L,FnS Tryz.prog 157 [pv0,.int .i64 a2,.int .i64 b3] h (L) (fun v h' L'=>∃ v0_1,v = .tuple #[.agg #[.string r_0.fName,.int .u8 r_0.fShape,.int .i64 r_0.fA,.int .i64 r_0.fB,v0_1,.int .i64 r_0.fX,.int .i64 r_0.fY],.int .i64 r_1,.int .i64 r_2,.bool r_3]∧L' = L∧Slc (VI .i64) 1 h' v0_1 r_0.fOpen):=by
 intro L
 refine FnS.enter Tryz.func157 z Tryz.ntmps157 z<|Sr<|To (O.alloc zehall_31 z z fun i=>Ag z<|Ag z<|Ag z<|Nt<|Sr<|Mv z<|Mv z ?_)
 obtain ⟨⟨u,w,x⟩,k,H⟩:=bnd H
 refine To (O.callS z (hall_Where_ok pr0 k _) z fun y A B b m=>?_)
 obtain ⟨rfl,n⟩:=m
 refine Sl_ _ n<|Mv z<|Vv (V.ext z z)<|Vv (V.ext z z)<|Vv (V.ext z z)<|Ag z<|Ag z<|Ag z<|Nt<|Sr<|Mv z<|Mv z<|have c:=Slc.mono VapiTable.mono pr0 b; ?_
 obtain ⟨⟨C,D,E⟩,o,H⟩:=bnd H
 refine To (O.callS z (hall_Where_ok c o _) z fun G I J d p=>?_)
 obtain ⟨rfl,q⟩:=p
 refine Sl_ _ q<|Mv z<|Vv (V.ext z z)<|Vv (V.ext z z)<|Vv (V.ext z z)<|Ag z<|Ag z<|Ag z<|Nt<|Sq<|Sr<|Mv z<|Vv (V.not z)<|Mv z<|T.bH 30 H z (fun H=>?_) (fun H=>?_)
 ·exact dead H
 refine Mv z<|Vv (V.not z)<|Vv (V.pkF z z)<|Mv z<|T.bH 34 H z (fun H=>?_) (fun H=>?_)
 ·exact dead H
 refine Mv z<|Mv z<|Vv (V.ne z z)<|Vv (V.pkF z z)<|Nt<|T.cH H z (fun H=>?_) (fun H=>?_)
 ·exact dead H
 refine T.skip<|Th<|Sq<|T.norm [0,6,7,8,10] z<|Sl_ (blk i (.cells [.string (⟨#[]⟩:ByteArray),.int .u8 (0:Int),.int .i64 (0:Int),.int .i64 (0:Int),.slice none 0 0,.int .i64 (0:Int),.int .i64 (0:Int)].toArray 31)::L) z<|Rg<|Mv z<|Mv z ?_
 obtain ⟨a,e,H⟩:=bnd H
 have f:=Slc.mono VapiTable.mono c d
 obtain ⟨K,r,⟨s,rfl,g⟩⟩:=Slc.at f e
 refine Vv (V.ix elhall_22 rfl rfl f (getI_bd e))<|Vv (V.ldS rfl r (by exact shhall_31)) ?_
 refine Mv z<|Mv z<|To (O.stF (vs:=[.string a.fName,.int .u8 a.fShape,.int .i64 a.fA,.int .i64 a.fB,s,.int .i64 a.fX,.int .i64 a.fY]) shhall_31 rfl rfl (j:=0) rfl rfl (by (simp only [Sl.ones,Slc.one g,Bool.and_true,Bool.true_and]) <;> rfl) rfl ?_)
 refine Ag z<|Ag z<|Ag z<|Nt<|T.ret ?_
 obtain ⟨rfl,rfl,rfl,rfl⟩:=inj4 H
 have t:=(b.trans d)
 exact T.retD (L':=L) Tryz.results157 (RVs.cons (RV.cellS z (j:=0) z shhall_31) (RVs.cons (RV.tmp z) (RVs.cons (RV.tmp z) (Rv z)))) t (fun _ iv=>iv.drop) ⟨_,z,z,g⟩
theorem hall_Beside_ok {h:PH} {pv0:Value} {l1:List apiTable} (pr0:Slc VapiTable 7 h pv0 l1) {a2:Int} {b3:Int} {r_0:Bool} (H:hall_Beside l1 a2 b3 = some r_0):∀ L,FnS Tryz.prog 79 [pv0,.int .i64 a2,.int .i64 b3] h (L) (fun v h' L'=>v = .bool r_0∧L' = L):=by
 intro L
 refine FnS.enter Tryz.func79 z Tryz.ntmps79 z<|Sr<|Ag z<|Nt<|Sr<|Mv z<|Mv z<|Mv z ?_
 obtain ⟨⟨a,u,w,x⟩,e,H⟩:=bnd H
 refine To (O.callS z (hall_pair_ok pr0 e _) z fun y A B f g=>?_)
 obtain ⟨b,rfl,i,c⟩:=g
 refine Sl_ _ i<|Mv z<|Vv (V.ext rfl rfl)<|Vv (V.ext rfl rfl)<|Vv (V.ext rfl rfl)<|Vv (V.ext rfl rfl)<|To (O.alloc zehall_31 rfl rfl fun C=>To (O.stF (vs:=[.string a.fName,.int .u8 a.fShape,.int .i64 a.fA,.int .i64 a.fB,b,.int .i64 a.fX,.int .i64 a.fY]) shhall_31 rfl rfl (j:=0) rfl rfl (by (simp only [Sl.ones,Slc.one c,Bool.and_true,Bool.true_and]) <;> rfl) rfl ?_))
 refine T.freeze fun k d m=>have n:=AtC.of m; Ag z<|Ag z<|Ag z<|Nt<|Sr<|Mv z<|Mv z<|T.bH 21 H z (fun H=>?_) (fun H=>?_)
 ·refine Vv (V.ldS rfl n (by exact shhall_31)) ?_
  refine Mv z<|Mv z<|have o:=Slc.mono VI.mono c d; ?_
  obtain ⟨D,p,H⟩:=bnd H
  refine To (O.callS z (hall_beside_ok (show VapiTable k [.string a.fName,.int .u8 a.fShape,.int .i64 a.fA,.int .i64 a.fB,b,.int .i64 a.fX,.int .i64 a.fY] a from ⟨b,z,o⟩) p _) z fun E G I q r=>?_)
  obtain ⟨rfl,s⟩:=r
  refine Sl_ _ s<|Vv (V.pkT z z)<|Ag z<|Nt<|T.ret ?_
  obtain rfl:=Option.some.inj H
  have t:=((f.trans d).trans q)
  exact T.retL Tryz.results79 (Rv z) t ⟨z,z⟩
 exact dead H
theorem hall_Across_ok {h:PH} {pv0:Value} {l1:List apiTable} (pr0:Slc VapiTable 7 h pv0 l1) {a2:Int} {b3:Int} {r_0:Bool} (H:hall_Across l1 a2 b3 = some r_0):∀ L,FnS Tryz.prog 81 [pv0,.int .i64 a2,.int .i64 b3] h (L) (fun v h' L'=>v = .bool r_0∧L' = L):=by
 intro L
 refine FnS.enter Tryz.func81 z Tryz.ntmps81 z<|Sr<|Ag z<|Nt<|Sr<|Mv z<|Mv z<|Mv z ?_
 obtain ⟨⟨a,u,w,x⟩,e,H⟩:=bnd H
 refine To (O.callS z (hall_pair_ok pr0 e _) z fun y A B f g=>?_)
 obtain ⟨b,rfl,i,c⟩:=g
 refine Sl_ _ i<|Mv z<|Vv (V.ext rfl rfl)<|Vv (V.ext rfl rfl)<|Vv (V.ext rfl rfl)<|Vv (V.ext rfl rfl)<|To (O.alloc zehall_31 rfl rfl fun C=>To (O.stF (vs:=[.string a.fName,.int .u8 a.fShape,.int .i64 a.fA,.int .i64 a.fB,b,.int .i64 a.fX,.int .i64 a.fY]) shhall_31 rfl rfl (j:=0) rfl rfl (by (simp only [Sl.ones,Slc.one c,Bool.and_true,Bool.true_and]) <;> rfl) rfl ?_))
 refine T.freeze fun k d m=>have n:=AtC.of m; Ag z<|Ag z<|Ag z<|Nt<|Sr<|Mv z<|Mv z<|T.bH 21 H z (fun H=>?_) (fun H=>?_)
 ·refine Vv (V.ldS rfl n (by exact shhall_31)) ?_
  refine Mv z<|Mv z<|have o:=Slc.mono VI.mono c d; ?_
  obtain ⟨D,p,H⟩:=bnd H
  refine To (O.callS z (hall_across_ok (show VapiTable k [.string a.fName,.int .u8 a.fShape,.int .i64 a.fA,.int .i64 a.fB,b,.int .i64 a.fX,.int .i64 a.fY] a from ⟨b,z,o⟩) p _) z fun E G I q r=>?_)
  obtain ⟨rfl,s⟩:=r
  refine Sl_ _ s<|Vv (V.pkT z z)<|Ag z<|Nt<|T.ret ?_
  obtain rfl:=Option.some.inj H
  have t:=((f.trans d).trans q)
  exact T.retL Tryz.results81 (Rv z) t ⟨z,z⟩
 exact dead H
end Go.Proofs.X
open Go Go.Proofs Go.Sl Go.Dm
namespace Go.Proofs.X
theorem guestmixed : Tryz.prog.follows .mixedOrders = true := by kernel_rfl
theorem blguest_164 : bldSh Tryz.prog 164 = some ([.string ⟨#[]⟩, .string ⟨#[]⟩, .int .u8 (0)], [(0, 1), (1, 1), (2, 1)]) := by kernel_rfl
theorem blguest_231 : bldSh Tryz.prog 231 = some ([.slice none 0 0, .slice none 0 0, .map none], [(0, 2), (2, 1)]) := by kernel_rfl
theorem boguest_164 : fieldsOK Tryz.prog 164 = true := by kernel_rfl
theorem boguest_231 : fieldsOK Tryz.prog 231 = true := by kernel_rfl
theorem elguest_23 : elSh Tryz.prog 23 = some (35, 9, 112) := by kernel_rfl
theorem elguest_24 : elSh Tryz.prog 24 = some (164, 3, 40) := by kernel_rfl
theorem elguest_33 : elSh Tryz.prog 33 = some (9, 1, 16) := by kernel_rfl
theorem fdguest_143_0 : fldOf Tryz.prog 143 0 = some 0 := by kernel_rfl
theorem fdguest_143_1 : fldOf Tryz.prog 143 1 = some 1 := by kernel_rfl
theorem fdguest_164_0 : fldOf Tryz.prog 164 0 = some 0 := by kernel_rfl
theorem fdguest_164_1 : fldOf Tryz.prog 164 1 = some 1 := by kernel_rfl
theorem fdguest_164_2 : fldOf Tryz.prog 164 2 = some 2 := by kernel_rfl
theorem fdguest_228_0 : fldOf Tryz.prog 228 0 = some 0 := by kernel_rfl
theorem fdguest_228_1 : fldOf Tryz.prog 228 1 = some 1 := by kernel_rfl
theorem fdguest_231_0 : fldOf Tryz.prog 231 0 = some 0 := by kernel_rfl
theorem fdguest_231_1 : fldOf Tryz.prog 231 1 = some 2 := by kernel_rfl
theorem fdguest_35_0 : fldOf Tryz.prog 35 0 = some 0 := by kernel_rfl
theorem fdguest_35_1 : fldOf Tryz.prog 35 1 = some 1 := by kernel_rfl
theorem fdguest_35_2 : fldOf Tryz.prog 35 2 = some 2 := by kernel_rfl
theorem fdguest_35_3 : fldOf Tryz.prog 35 3 = some 3 := by kernel_rfl
theorem fdguest_35_4 : fldOf Tryz.prog 35 4 = some 4 := by kernel_rfl
theorem fdguest_35_5 : fldOf Tryz.prog 35 5 = some 5 := by kernel_rfl
theorem fdguest_35_8 : fldOf Tryz.prog 35 8 = some 8 := by kernel_rfl
theorem shguest_143 : tySh Tryz.prog 143 = some (true, 2) := by kernel_rfl
theorem shguest_146 : tySh Tryz.prog 146 = some (false, 1) := by kernel_rfl
theorem shguest_164 : tySh Tryz.prog 164 = some (true, 3) := by kernel_rfl
theorem shguest_229 : tySh Tryz.prog 229 = some (false, 1) := by kernel_rfl
theorem shguest_23 : tySh Tryz.prog 23 = some (false, 1) := by kernel_rfl
theorem shguest_24 : tySh Tryz.prog 24 = some (false, 1) := by kernel_rfl
theorem shguest_3 : tySh Tryz.prog 3 = some (false, 1) := by kernel_rfl
theorem shguest_33 : tySh Tryz.prog 33 = some (false, 1) := by kernel_rfl
theorem shguest_35 : tySh Tryz.prog 35 = some (true, 9) := by kernel_rfl
theorem shguest_9 : tySh Tryz.prog 9 = some (false, 1) := by kernel_rfl
theorem zeguest_164 : zer Tryz.prog 164 = some (.agg #[.string ⟨#[]⟩, .string ⟨#[]⟩, .int .u8 (0)]) := by kernel_rfl
theorem zeguest_3 : zer Tryz.prog 3 = some (.int .i64 (0)) := by kernel_rfl
theorem zeguest_35 : zer Tryz.prog 35 = some (.agg #[.string ⟨#[]⟩, .string ⟨#[]⟩, .string ⟨#[]⟩, .int .i64 (0), .int .i64 (0), .string ⟨#[]⟩, .bool false, .bool false, .slice none 0 0]) := by kernel_rfl
theorem zeguest_9 : zer Tryz.prog 9 = some (.string ⟨#[]⟩) := by kernel_rfl
theorem guest_name_ok {h:PH} {s1:ByteArray} {r_0:Bool} (H:guest_name s1 = some r_0):∀ L,FnS Tryz.prog 171 [.string s1] h (L) (fun v h' L'=>v = .bool r_0∧L' = L):=by
 intro L
 refine FnS.enter Tryz.func171 z Tryz.ntmps171 z<|Sr<|Ag z<|Nt<|Sq<|Sr<|Mv z<|Vv (V.lenStr Tryz.underlying9 z)<|Vv (V.eq z z)<|Mv z<|T.bH 7 H z (fun H=>?_) (fun H=>?_)
 ·exact dead H
 refine Mv z<|Vv (V.lenStr Tryz.underlying9 z)<|Vv (V.gt z z)<|Vv (V.pkF z z)<|Nt<|T.cH H z (fun H=>?_) (fun H=>?_)
 ·exact dead H
 refine T.skip<|Th<|Sq<|Sr<|Mv z<|Vv (V.lenStr Tryz.underlying9 z)<|Mv z<|Nt ?_
 obtain ⟨c,f,g⟩:=bndK H
 refine T.cutK (α:=Unit) [] z (fun _u=>[]) (fun _u=>L) (fun _u hh=>c = ()) ?_ ?_
 ·have H:=f
  refine Bl<|T.loopK (α:=Nat×Int) [0,13] z (fun ⟨a,b⟩=>[(14,.int .i64 b)]) (fun ⟨a,b⟩=>L) (fun ⟨a,b⟩ hh=>iter (guest_name_l0 s1) a b = some c) (fun ⟨a,b⟩=>a) (FUEL,(0:Int)) ⟨z,trivial⟩ z H ?_
  rintro ⟨a,b⟩ r d i
  obtain ⟨j,s,rfl,H,e⟩:=iter_go i
  refine T.norm [14,0,13] z<|Sl_ (L) z<|Sr<|Vv (V.lt z z)<|Nt<|Sq<|T.cH H z (fun H=>?_) (fun H=>?_)
  ·refine T.skip<|Th<|Sq<|Bl<|Sr<|Mv z<|Ag z<|Nt<|Sr<|Mv z<|Mv z ?_
   obtain ⟨t,k,H⟩:=bnd H
   refine Vv (V.idxS Tryz.underlying9 z z k)<|Vv (V.lt z z)<|Mv z<|T.bH 21 H z (fun H=>?_) (fun H=>?_)
   ·exact dead H
   refine Mv z<|Mv z ?_
   obtain ⟨u,m,H⟩:=bnd H
   refine Vv (V.idxS Tryz.underlying9 z z m)<|Vv (V.gt z z)<|Vv (V.pkF z z)<|Nt<|T.cH H z (fun H=>?_) (fun H=>?_)
   ·exact dead H
   refine T.skip<|Bn<|Th<|Rg ?_
   obtain ⟨n,o,H⟩:=bnd H
   refine Vv (V.addS z z o)<|Mv z<|Nt<|T.again (j,n) d (Nat.lt_succ_self _) (iterK_in H e) (AllIn.app ⟨z,trivial⟩ ⟨z,z,trivial⟩) z
  refine T.exit<|Te<|Te<|have H:=iterK_out H e; Be<|Th<|T.met () d H (AllIn.app trivial trivial) z
 rintro _ w p q
 have H:=cutE q g
 refine T.norm [] z<|Sl_ (L) z<|Sr<|Ag z<|Nt<|T.ret ?_
 obtain rfl:=Option.some.inj H
 exact T.retL Tryz.results171 (Rv z) p ⟨z,z⟩
theorem guest_some_ok {h:PH} {s1:ByteArray} {r_0:Bool} (H:guest_some s1 = some r_0):∀ L,FnS Tryz.prog 172 [.string s1] h (L) (fun v h' L'=>v = .bool r_0∧L' = L):=by
 intro L
 refine FnS.enter Tryz.func172 z Tryz.ntmps172 z<|Sr<|Ag z<|Nt<|Sr<|Mv z<|Vv (V.seq z z)<|Mv z<|T.bH 5 H z (fun H=>?_) (fun H=>?_)
 ·refine Sk<|Sk<|Vv (V.pkT z z)<|Ag z<|Nt<|T.ret ?_
  obtain rfl:=Option.some.inj H
  exact T.retL Tryz.results172 (Rv z) Lr ⟨z,z⟩
 exact dead H
theorem guest_Check_ok {h:PH} {pc0:List Value} {g1:apiGuest} (pr0:VapiGuest h pc0 g1) {r_0:Int} (H:guest_Check g1 = some r_0):∀ L,FnS Tryz.prog 88 [.agg pc0.toArray] h (L) (fun v h' L'=>v = .int .i64 r_0∧L' = L):=by
 intro L
 obtain ⟨W,rfl,q⟩:=pr0
 refine FnS.enter Tryz.func88 z Tryz.ntmps88 z<|Sr<|To (O.boxF z z z fun X Y r c=>Ag z<|Nt<|Sq<|Bl<|Sr<|Vv (V.fa fdguest_35_0 z)<|Vv (V.ldf (k:=0) shguest_9 z c z) ?_)
 obtain ⟨Z,s,H⟩:=bnd H
 refine To (O.callS z (guest_name_ok s _) z fun aa ab ac d t=>?_)
 obtain ⟨rfl,u⟩:=t
 refine Sl_ _ u<|Vv (V.not z)<|Mv z<|T.bH 10 H z (fun H=>?_) (fun H=>?_)
 ·exact dead H
 refine Vv (V.fa fdguest_35_1 z)<|have e:=c.mono d; Vv (V.ldf (k:=1) shguest_9 z e z) ?_
 obtain ⟨ad,w,H⟩:=bnd H
 refine To (O.callS z (guest_some_ok w _) z fun ae af ag f x=>?_)
 obtain ⟨rfl,y⟩:=x
 refine Sl_ _ y<|Vv (V.not z)<|Vv (V.pkF z z)<|Mv z<|T.bH 16 H z (fun H=>?_) (fun H=>?_)
 ·exact dead H
 refine Vv (V.fa fdguest_35_2 z)<|have g:=e.mono f; Vv (V.ldf (k:=2) shguest_9 z g z) ?_
 obtain ⟨ai,A,H⟩:=bnd H
 refine To (O.callS z (guest_some_ok A _) z fun aj ak am i B=>?_)
 obtain ⟨rfl,C⟩:=B
 refine Sl_ _ C<|Vv (V.not z)<|Vv (V.pkF z z)<|Mv z<|T.bH 22 H z (fun H=>?_) (fun H=>?_)
 ·exact dead H
 refine Vv (V.fa fdguest_35_5 z)<|have j:=g.mono i; Vv (V.ldf (k:=5) shguest_9 z j z) ?_
 obtain ⟨an,D,H⟩:=bnd H
 refine To (O.callS z (guest_some_ok D _) z fun ao ap aq m E=>?_)
 obtain ⟨rfl,G⟩:=E
 refine Sl_ _ G<|Vv (V.not z)<|Vv (V.pkF z z)<|Ag z<|Nt<|T.cH H z (fun H=>?_) (fun H=>?_)
 ·exact dead H
 refine Sr<|Vv (V.fa fdguest_35_3 z)<|have a:=j.mono m; Vv (V.ldf (k:=3) shguest_3 z a z)<|Vv (V.lt z z)<|Mv z<|T.bH 32 H z (fun H=>?_) (fun H=>?_)
 ·exact dead H
 refine Vv (V.fa fdguest_35_3 z)<|Vv (V.ldf (k:=3) shguest_3 z a z)<|Vv (V.gt z z)<|Vv (V.pkF z z)<|Ag z<|Nt<|T.cH H z (fun H=>?_) (fun H=>?_)
 ·exact dead H
 refine Sq<|T.norm [1] z<|Rg<|Vv (V.fa fdguest_35_4 z)<|Vv (V.ldf (k:=4) shguest_3 z a z)<|Vv (V.lt z z)<|Mv z<|T.bH 41 H z (fun H=>?_) (fun H=>?_)
 ·exact dead H
 refine Vv (V.fa fdguest_35_4 z)<|Vv (V.ldf (k:=4) shguest_3 z a z)<|Vv (V.gt z z)<|Vv (V.pkF z z)<|Ag z<|Nt<|T.cH H z (fun H=>?_) (fun H=>?_)
 ·exact dead H
 refine Sr<|Vv (V.fa fdguest_35_8 z)<|Vv (V.ldf (k:=8) shguest_33 z a z)<|have n:=((((r.trans d).trans f).trans i).trans m); have o:=Slc.mono VS.mono q n; Vv (V.lenS elguest_33 z o)<|Vv (V.gt z z)<|Ag z<|Nt<|T.cH H z (fun H=>?_) (fun H=>?_)
 ·exact dead H
 refine T.skip<|Bn<|Th<|Sq<|Sr<|Vv (V.fa fdguest_35_8 z)<|Vv (V.ldf (k:=8) shguest_33 z a z)<|Vv (V.lenS elguest_33 z o)<|Mv z<|Nt ?_
 obtain ⟨p,I,J⟩:=bndK H
 refine T.cutK (α:=Unit) [] z (fun _u=>[]) (fun _u=>L) (fun _u hh=>p = ()) ?_ ?_
 ·have H:=I
  refine Bl<|T.loopK (α:=Nat) [53,54] z (fun b=>[]) (fun b=>L) (fun b hh=>iter (guest_Check_l0 g1) b () = some p) (fun b=>b) FUEL trivial z H ?_
  rintro b ar K M
  obtain ⟨au,aw,rfl,H,N⟩:=iter_go M
  refine T.norm [53,54] z<|Sl_ (L) z<|Sr<|Vv (V.lt z z)<|Nt<|Sq<|T.cH H z (fun H=>?_) (fun H=>?_)
  ·exact dead H
  refine T.exit<|Te<|Te<|have H:=iterK_out H N; Be<|Th<|T.met () K H (AllIn.app trivial trivial) z
 rintro _ ax P S
 have H:=cutE S J
 refine T.norm [] z<|Sl_ (L) z<|Sr<|Ag z<|Nt<|T.ret ?_
 obtain rfl:=Option.some.inj H
 have U:=(n.trans P)
 exact T.retL Tryz.results88 (Rv z) U ⟨z,z⟩
theorem guest_copied_ok {h:PH} {pc0:List Value} {g1:apiGuest} (pr0:VapiGuest h pc0 g1) {r_0:apiGuest} (H:guest_copied g1 = some r_0):∀ L,FnS Tryz.prog 246 [.agg pc0.toArray] h (L) (fun v h' L'=>∃ v0_1,v = .agg #[.string r_0.fName,.string r_0.fRank,.string r_0.fCourt,.int .i64 r_0.fSince,.int .i64 r_0.fSide,.string r_0.fDiet,.bool r_0.fHost,.bool r_0.fAccess,v0_1]∧L' = L∧Slc VS 1 h' v0_1 r_0.fTongues):=by
 intro L
 obtain ⟨x,rfl,e⟩:=pr0
 refine FnS.enter Tryz.func246 z Tryz.ntmps246 z<|Sr<|To (O.box z z z fun y=>To (O.alloc zeguest_35 z z fun A=>Nt<|Sr<|Vv (V.fa fdguest_35_8 z)<|Vv (V.ldO (k:=8) shguest_33 z (j:=1) z z) ?_))
 obtain ⟨B,f,H⟩:=bnd H
 refine To (O.callS z (sl_CloneStr_ok e f _) z fun a C D g i=>?_)
 obtain ⟨E,m,n⟩:=i
 refine Sl_ _ m<|Vv (V.fa fdguest_35_8 rfl)<|T.rowOne 0 rfl fun o p=>To (O.st (vs:=[a]) (k:=8) shguest_33 rfl rfl (j:=2) rfl p (by (simp only [Sl.ones,o,Bool.and_true,Bool.true_and]) <;> rfl) ?_)
 refine T.fl ?_
 refine Nt<|Sr<|Vv (V.ldOS (j:=0) (by exact shguest_35) rfl rfl) ?_
 refine Fr_ 1 z<|T.fl ?_
 refine T.rowFix fun G b q=>have r:=RowF.mono VS.mono n b; have c:=RowF.slc q r; To (O.stF (vs:=[.string g1.fName,.string g1.fRank,.string g1.fCourt,.int .i64 g1.fSince,.int .i64 g1.fSide,.string g1.fDiet,.bool g1.fHost,.bool g1.fAccess,a]) shguest_35 rfl rfl (j:=1) rfl rfl (by (simp only [Sl.ones,Slc.one c,Bool.and_true,Bool.true_and]) <;> rfl) rfl ?_)
 refine T.freeze fun I d s=>have t:=AtC.of s; Nt<|T.ret<|T.drop<|have u:=Slc.mono VS.mono c d; ?_
 obtain rfl:=Option.some.inj H
 have w:=((g.trans b).trans d)
 exact T.retL Tryz.results246 (RVs.cons (RV.cellA z t shguest_35) RVs.nil) w ⟨_,z,z,u⟩
theorem bytealg_CompareString_ok {h:PH} {a1:ByteArray} {b2:ByteArray} {r_0:Int} (H:bytealg_CompareString a1 b2 = some r_0):∀ L,FnS Tryz.prog 190 [.string a1,.string b2] h (L) (fun v h' L'=>v = .int .i64 r_0∧L' = L):=by
 intro L
 refine FnS.enter Tryz.func190 rfl Tryz.ntmps190 rfl<|Sr<|Ag z<|Nt<|Sr<|Mv z<|Mv z<|Vv (V.cmpS Tryz.func271 (by kernel_rfl) rfl (by kernel_rfl) (by kernel_rfl) rfl rfl) ?_
 refine Ag z<|Nt<|T.ret ?_
 obtain rfl:=Option.some.inj H
 exact T.retL Tryz.results190 (Rv z) Lr ⟨z,z⟩
theorem strings_Compare_ok {h:PH} {a1:ByteArray} {b2:ByteArray} {r_0:Int} (H:strings_Compare a1 b2 = some r_0):∀ L,FnS Tryz.prog 107 [.string a1,.string b2] h (L) (fun v h' L'=>v = .int .i64 r_0∧L' = L):=by
 intro L
 refine FnS.enter Tryz.func107 z Tryz.ntmps107 z<|Sr<|Ag z<|Nt<|Sr<|Mv z<|Mv z ?_
 obtain ⟨e,a,H⟩:=bnd H
 refine To (O.callS z (bytealg_CompareString_ok a _) z fun f g i b c=>?_)
 obtain ⟨rfl,d⟩:=c
 refine Sl_ _ d<|Ag z<|Nt<|T.ret ?_
 obtain rfl:=Option.some.inj H
 exact T.retL Tryz.results107 (Rv z) b ⟨z,z⟩
theorem guest_order_ok {h:PH} {pc0:List Value} {a1:apiTie} (pr0:VapiTie h pc0 a1) {pc1:List Value} {b2:apiTie} (pr1:VapiTie h pc1 b2) {r_0:Int} (H:guest_order a1 b2 = some r_0):∀ L,FnS Tryz.prog 162 [.agg pc0.toArray,.agg pc1.toArray] h (L) (fun v h' L'=>v = .int .i64 r_0∧L' = L):=by
 intro L
 obtain rfl:=pr0
 obtain rfl:=pr1
 refine FnS.enter Tryz.func162 z Tryz.ntmps162 z<|Sr<|To (O.boxF z z z fun u w c f=>To (O.boxF z z z fun x y b d=>Ag z<|Nt<|Sq<|Sr<|Vv (V.fa fdguest_164_0 z)<|have e:=f.mono b; Vv (V.ldf (k:=0) shguest_9 z e z)<|Vv (V.fa fdguest_164_0 z)<|Vv (V.ldf (k:=0) shguest_9 z d z) ?_))
 obtain ⟨A,g,H⟩:=bnd H
 refine To (O.callS z (strings_Compare_ok g _) z fun B C D a i=>?_)
 obtain ⟨rfl,j⟩:=i
 refine Sl_ _ j<|Ag z<|Nt<|Sr<|Mv z<|Vv (V.ne z z)<|Nt<|T.cH H z (fun H=>?_) (fun H=>?_)
 ·refine Sr<|Mv z<|Ag z<|Nt<|T.ret<|Tr ?_
  obtain rfl:=Option.some.inj H
  have m:=((c.trans b).trans a)
  exact T.retL Tryz.results162 (Rv z) m ⟨z,z⟩
 refine T.skip<|Th<|Sr<|Vv (V.fa fdguest_164_1 z)<|have n:=e.mono a; Vv (V.ldf (k:=1) shguest_9 z n z)<|Vv (V.fa fdguest_164_1 z)<|have o:=d.mono a; Vv (V.ldf (k:=1) shguest_9 z o z) ?_
 obtain ⟨E,p,H⟩:=bnd H
 refine To (O.callS z (strings_Compare_ok p _) z fun G I J q r=>?_)
 obtain ⟨rfl,s⟩:=r
 refine Sl_ _ s<|Ag z<|Nt<|T.ret ?_
 obtain rfl:=Option.some.inj H
 have t:=(((c.trans b).trans a).trans q)
 exact T.retL Tryz.results162 (Rv z) t ⟨z,z⟩
theorem guest_pair_ok {h:PH} {one1:ByteArray} {other2:ByteArray} {kind3:Int} {r_0:apiTie} (H:guest_pair one1 other2 kind3 = some r_0):∀ L,FnS Tryz.prog 248 [.string one1,.string other2,.int .u8 kind3] h (L) (fun v h' L'=>v = .agg #[.string r_0.fA,.string r_0.fB,.int .u8 r_0.fKind]∧L' = L):=by
 intro L
 refine FnS.enter Tryz.func248 z Tryz.ntmps248 z<|Sr<|To (O.alloc zeguest_164 z z fun d=>Nt<|Sr<|Mv z<|Mv z<|Vv (V.minS z z)<|Mv z<|Mv z<|Vv (V.maxS z z)<|Mv z<|Vv (V.bld (xs:=[(0,.tmp 9),(1,.tmp 12),(2,.tmp 13)]) (cs:=[_,_,_]) blguest_164 boguest_164 z (Fills.cons z z z (Fills.cons z z z (Fills.cons z z z Fills.nil))))<|To (O.stF (vs:=[.string (minS one1 other2),.string (maxS one1 other2),.int .u8 kind3]) shguest_164 z z (j:=0) z z z z<|T.freeze fun e a b=>have c:=AtC.of b; Nt<|T.ret ?_))
 obtain rfl:=Option.some.inj H
 exact T.retL Tryz.results248 (RVs.cons (RV.cellA z c shguest_164) RVs.nil) a ⟨z,z⟩
theorem guest_New_ok {h:PH}  {r_0:guestBook} (H:guest_New  = some r_0):∀ L,FnS Tryz.prog 160 [] h (L) (fun v h' L'=>∃ b0 vo0_1 csso0_2 vo0_4 csso0_5 mbo0_7 eso0_8,v = .pointer (some ⟨b0,0,none⟩)∧L' = blk b0 (.cells [vo0_1,vo0_4,.map (some mbo0_7)].toArray 231)::rowR 35 9 vo0_1 csso0_2::rowR 164 3 vo0_4 csso0_5::blk mbo0_7 (.map eso0_8.toArray eso0_8.length)::L∧RowF VapiGuest h' csso0_2 r_0.fcontent.fguests∧RowF VapiTie h' csso0_5 r_0.fcontent.fties∧MapG Value.string false (VI .i64) h' 0 eso0_8 r_0.fat):=by
 intro L
 refine FnS.enter Tryz.func160 z Tryz.ntmps160 z<|Sr<|Ag z<|Nt<|Sr<|To (O.mkM z fun d=>have a:MapG Value.string false (VI .i64) h 0 ([]:List MapEntry) ([]:List (ByteArray×Int)):=trivial; Vv (V.bld (xs:=[(1,.tmp 1)]) (cs:=[_,_,_]) blguest_231 boguest_231 z (Fills.cons z z z Fills.nil))<|To (O.box z z z fun e=>Ag z<|Nt<|T.ret<|T.rowNil 35 9<|have b:RowF VapiGuest h [] ([]:List apiGuest):=RowF.nil; T.rowNil 164 3<|have c:RowF VapiTie h [] ([]:List apiTie):=RowF.nil; Fr_ 3 z<|T.fl ?_))
 refine Fr_ 1 z<|T.fl ?_
 refine Fr_ 2 z<|T.fl ?_
 refine Fr_ 3 z<|T.fl ?_
 obtain rfl:=Option.some.inj H
 exact T.retL Tryz.results160 (Rv z) Lr ⟨_,_,_,_,_,_,_,z,z,b,c,a⟩
theorem Book_none_ok {h:PH} {pv0:Value} {b1:guestBook} (pr0:Pt VguestBook h pv0 b1) {r_0:Bool} (H:Book_none b1 = some r_0):∀ L,FnS Tryz.prog 168 [pv0] h (L) (fun v h' L'=>v = .bool r_0∧L' = L):=by
 intro L
 refine FnS.enter Tryz.func168 z Tryz.ntmps168 z<|Sr<|Ag z<|Nt<|Sr<|Mv z<|have a:=pr0; ?_
 obtain ⟨e,_,rfl,b,⟨f,g,i,rfl,j,m,c⟩⟩:=a
 refine Vv (V.nilP Tryz.underlying139 z)<|Mv z<|Mv z<|Vv (V.nck z)<|Vv (V.fa fdguest_231_1 z)<|Vv (V.ldf (k:=2) shguest_229 z b z)<|have d:=c; ?_
 obtain ⟨n,_,rfl,_⟩:=d
 refine Vv (V.nilM Tryz.underlying229 z)<|Vv (V.pkF z z)<|Ag z<|Nt<|T.ret ?_
 obtain rfl:=Option.some.inj H
 exact T.retL Tryz.results168 (Rv z) Lr ⟨z,z⟩
theorem sl_BinTie_ok {h:PH} {pv0:Value} {x1:List apiTie} (pr0:Slc VapiTie 3 h pv0 x1) {pc1:List Value} {target2:apiTie} (pr1:VapiTie h pc1 target2) {pv2:Value} {cmp3:apiTie→apiTie→Option Int} (pr2:CF170 h pv2 cmp3) {r_0:Int} {r_1:Bool} (H:sl_BinTie x1 target2 cmp3 = some (r_0,r_1)):∀ L,FnS Tryz.prog 251 [pv0,.agg pc1.toArray,pv2] h (L) (fun v h' L'=>v = .tuple #[.int .i64 r_0,.bool r_1]∧L' = L):=by
 intro L
 obtain rfl:=pr1
 refine FnS.enter Tryz.func251 z Tryz.ntmps251 z<|Sr<|To (O.boxF z z z fun aw ax f p=>Ag z<|Ag z<|Nt<|Sr<|Mv z<|have m:=Slc.mono VapiTie.mono pr0 f; Vv (V.lenS elguest_24 z m)<|Ag z<|Nt<|Sr<|Mv z<|Ag z<|Ag z<|Nt<|Sq ?_)
 obtain ⟨q,D,E⟩:=bndK H
 refine T.cutK (α:=Int) [0,2,4,8] z (fun e=>[(9,.int .i64 e)]) (fun e=>L) (fun e hh=>q = e) ?_ ?_
 ·have H:=D
  refine Bl<|T.loopK (α:=Nat×Int×Int) [0,2,4,8] z (fun ⟨c,b,a⟩=>[(10,.int .i64 b),(9,.int .i64 a)]) (fun ⟨c,b,a⟩=>L) (fun ⟨c,b,a⟩ hh=>iter (sl_BinTie_l0 x1 target2 cmp3) c (b,a) = some q) (fun ⟨c,b,a⟩=>c) (FUEL,(x1.length:Int),(0:Int)) ⟨z,z,trivial⟩ z H ?_
  rintro ⟨c,b,a⟩ r d G
  obtain ⟨s,ay,rfl,H,n⟩:=iter_go G
  refine T.norm [10,9,0,2,4,8] z<|Sl_ (L) z<|Sq<|Sr<|Mv z<|Mv z<|Vv (V.lt z z)<|Nt<|T.cH H z (fun H=>?_) (fun H=>?_)
  ·refine T.skip<|Th<|Bl<|Sr<|Mv z<|Mv z ?_
   obtain ⟨aA,I,H⟩:=bnd H
   refine Vv (V.addS z z I) ?_
   obtain ⟨aB,J,H⟩:=bnd H
   refine Vv (V.convS Tryz.underlying3 Tryz.underlying252 z J) ?_
   obtain ⟨aC,K,H⟩:=bnd H
   refine Vv (V.shrK z z K) ?_
   obtain ⟨M,N,H⟩:=bnd H
   refine Vv (V.convS Tryz.underlying252 Tryz.underlying3 rfl N)<|Ag z<|Nt<|Sq<|T.drawF (t:=(.v 0 (.v 1 (.v 2 (.v 3 (.v 4 (.v 5 (.alt 6 (.g (.v 7 .done)) .no)))))))) 9 0 0 rfl rfl guestmixed (by kernel_rfl) ?_
   refine Tm z z<|Tm z z<|Tm z z ?_
   obtain ⟨i,u,H⟩:=bnd H
   have w:=Slc.mono VapiTie.mono m d
   obtain ⟨aD,P,rfl⟩:=Slc.at w u
   refine Tv z (V.ix elguest_24 rfl rfl w (getI_bd u))<|Tv z (V.ldS rfl P (by exact shguest_164)) ?_
   have S:=p.mono d
   refine Tv z (V.ldS rfl S (by exact shguest_164)) ?_
   obtain ⟨aE,U,H⟩:=bnd H
   have W:=(f.trans d)
   have X:=CF170.mono pr2 W
   obtain ⟨aG,aI,aJ,Y,Z⟩:=CF170.call X (show VapiTie r [.string i.fA,.string i.fB,.int .u8 i.fKind] i from rfl) (show VapiTie r [.string target2.fA,.string target2.fB,.int .u8 target2.fKind] target2 from rfl) U
   refine Tp z z (SX.two (XA.fr [] Lr z) (XA.fr [] Lr z)) (O.callfW z Y z (Z _) z fun aK aM aN o aa=>?_) T.tno
   obtain ⟨rfl,ab⟩:=aa
   refine Sl_ _ ab<|T.tgrow o<|Tv z (V.lt z z)<|T.tnil (SX.two (XA.fr [] Lr z) (XA.fr [] Lr z))<|Th<|T.cH H z (fun H=>?_) (fun H=>?_)
   ·refine Rg<|Mv z ?_
    obtain ⟨ac,ad,H⟩:=bnd H
    refine Vv (V.addS z z ad)<|Ag z<|Ni<|Bn<|Th<|have ae:=(d.trans o); T.again (s,b,ac) ae (Nat.lt_succ_self _) (iterK_in H n) (AllIn.app ⟨z,z,trivial⟩ ⟨z,z,z,z,trivial⟩) z
   refine Rg<|Mv z<|Ag z<|Ni<|Bn<|Th<|have af:=(d.trans o); T.again (s,M,a) af (Nat.lt_succ_self _) (iterK_in H n) (AllIn.app ⟨z,z,trivial⟩ ⟨z,z,z,z,trivial⟩) z
  refine T.exit<|Te<|Te<|have H:=iterK_out H n; Be<|Th<|T.met a d H (AllIn.app ⟨z,trivial⟩ ⟨z,z,z,z,trivial⟩) z
 rintro e x j ag
 have H:=cutE ag E
 refine T.norm [9,0,2,4,8] rfl<|Sl_ (L) rfl<|Sq<|T.drawF (t:=(.v 0 (.v 1 (.v 2 (.v 3 (.v 4 (.v 5 (.v 6 (.v 7 (.v 8 (.v 9 (.v 10 (.alt 11 (.g (.v 12 (.v 13 (.alt 14 (.alt 15 .done .no) .no)))) .no))))))))))))) 17 0 0 rfl rfl guestmixed (by kernel_rfl) ?_
 refine Tm z z<|Tm z z<|Tm z z<|Tv z (V.lt z z)<|Tm z z<|T.bH 39 H z (fun H=>?_) (fun H=>?_)
 ·refine Tm z z<|Tm z z<|Tm z z ?_
  obtain ⟨k,y,H⟩:=bnd H
  have A:=Slc.mono VapiTie.mono m j
  obtain ⟨aO,ai,rfl⟩:=Slc.at A y
  refine Tv z (V.ix elguest_24 rfl rfl A (getI_bd y))<|Tv z (V.ldS rfl ai (by exact shguest_164)) ?_
  have aj:=p.mono j
  refine Tv z (V.ldS rfl aj (by exact shguest_164)) ?_
  obtain ⟨aP,ak,H⟩:=bnd H
  have B:=(f.trans j)
  have am:=CF170.mono pr2 B
  obtain ⟨aS,aU,aV,an,ao⟩:=CF170.call am (show VapiTie x [.string k.fA,.string k.fB,.int .u8 k.fKind] k from rfl) (show VapiTie x [.string target2.fA,.string target2.fB,.int .u8 target2.fKind] target2 from rfl) ak
  refine Tp z z (SX.two (XA.fr [] Lr z) (XA.fr [] Lr z)) (O.callfW z an z (ao _) z fun aW aX aY C ap=>?_) T.tno
  obtain ⟨rfl,aq⟩:=ap
  refine Sl_ _ aq<|T.tgrow C<|Tv z (V.eq z z)<|Tv z (V.pkT z z)<|Ts z z (SX.two (XA.fr [] Lr z) (XA.fr [] Lr z)) (V.asg z) z ?_ T.tno
  refine Ts z z (SX.two (XA.fr [] Lr z) (XA.fr [] Lr z)) (V.asg z) z ?_ T.tno
  refine T.tnil (SX.two (XA.fr [] Lr z) (XA.fr [] Lr z))<|Th<|T.ret ?_
  obtain ⟨rfl,rfl⟩:=inj2 H
  have ar:=(B.trans C)
  exact T.retL Tryz.results251 (RVs.cons (RV.tmp z) (Rv z)) ar ⟨z,z⟩
 refine Tk z<|Tk z<|Tk z<|Tk z<|Tk z<|Tk z<|T.tskips z z (SX.two (XA.fr [] Lr z) (XA.fr [] Lr z)) z ?_ T.tno
 refine T.tgrow Lr<|Tk z<|Tv z (V.pkF z z)<|Ts z z (SX.two (XA.fr [] Lr z) (XA.fr [] Lr z)) (V.asg z) z ?_ T.tno
 refine Ts z z (SX.two (XA.fr [] Lr z) (XA.fr [] Lr z)) (V.asg z) z ?_ T.tno
 refine T.tnil (SX.two (XA.fr [] Lr z) (XA.fr [] Lr z))<|Th<|T.ret ?_
 obtain ⟨rfl,rfl⟩:=inj2 H
 have au:=(f.trans j)
 exact T.retL Tryz.results251 (RVs.cons (RV.tmp z) (Rv z)) au ⟨z,z⟩
theorem sl_InsTie_ok {h:PH} {pv0:Value} {pcs0:List (List Value)} {s1:List apiTie} (pr0:RowF VapiTie h pcs0 s1) {i3:Int} {pv2:Value} {v4:List apiTie} (pr2:Slc VapiTie 3 h pv2 v4) {r_0:List apiTie} (H:sl_InsTie s1 i3 v4 = some r_0):∀ L,FnS Tryz.prog 247 [pv0,.int .i64 i3,pv2] h (rowR 164 3 pv0 pcs0::L) (fun v h' L'=>∃ cs0,L' = rowR 164 3 v cs0::L∧RowF VapiTie h' cs0 r_0):=by
 intro L
 refine FnS.enter Tryz.func247 z Tryz.ntmps247 z<|Sr<|Ag z<|Nt<|Sr<|Mv z<|Mv z ?_
 obtain ⟨i,d,H⟩:=bnd H
 refine Vv (V.slVx elguest_24 z (j:=0) z pr0.len (.inr ⟨_,_,z,z⟩) (.inl ⟨z,z⟩) (bdV_eq d))<|Nt<|Sr<|Mv z<|Vv (V.lenS elguest_24 z pr2)<|Ag z<|Nt<|Sq<|Sr<|Mv z<|Vv (V.eq z z)<|Nt<|T.cH H z (fun H=>?_) (fun H=>?_)
 ·exact dead H
 refine T.skip<|Th<|Sr<|Mv z<|Vv (V.lenX elguest_24 z (j:=0) z pr0.len)<|Ag z<|Nt<|Sq<|Sr<|Mv z<|Mv z<|Vv (V.eq z z)<|Nt<|T.cH H z (fun H=>?_) (fun H=>?_)
 ·refine Sr<|Mv z<|Mv z ?_
  obtain ⟨e,b,a⟩:=Slc.row pr2
  obtain ⟨f,c,H⟩:=bnd H
  refine To (O.apX elguest_24 elguest_24 zeguest_164 z z z (j:=0) z (Src.fix b) b.wide (RowF.ones VapiTie.plain a) pr0 a c z fun k m n=>have g:RowF VapiTie h (pcs0 ++ e) f:=RowF.ap pr0 a c; Ag z<|Nt<|T.ret<|Tr ?_)
  obtain rfl:=Option.some.inj H
  exact T.retL Tryz.results247 (Rv z) Lr ⟨_,z,g⟩
 exact dead H
theorem Book_place_ok {h:PH} {pv0:Value} {b1:guestBook} (pr0:Pt VguestBook h pv0 b1) {one2:ByteArray} {other3:ByteArray} {r_0:Int} {r_1:Bool} (H:Book_place b1 one2 other3 = some (r_0,r_1)):∀ L,FnS Tryz.prog 169 [pv0,.string one2,.string other3] h (L) (fun v h' L'=>v = .tuple #[.int .i64 r_0,.bool r_1]∧L' = L):=by
 intro L
 refine FnS.enter Tryz.func169 rfl Tryz.ntmps169 rfl<|Sr<|Ag z<|Ag z<|Nt<|Sq<|T.drawF (t:=(.v 0 (.v 1 (.v 2 (.v 3 (.v 4 (.v 5 (.v 6 (.alt 7 (.g (.alt 8 (.g (.v 9 (.v 10 (.alt 11 (.alt 12 .done .no) .no)))) .no)) .no))))))))) 14 0 0 rfl rfl guestmixed (by kernel_rfl) ?_
 refine Tm z z<|have e:=pr0; ?_
 obtain ⟨A,_,rfl,f,⟨B,C,D,rfl,E,i,G⟩⟩:=e
 refine Tv z (V.nck z)<|Tv z (V.fa fdguest_231_0 z)<|Tv z (V.fa fdguest_228_1 z)<|Tv z (V.ldf (k:=1) shguest_24 z f z)<|Tm z z<|Tm z z ?_
 obtain ⟨a,j,H⟩:=bnd H
 refine Tp z z (SX.two (XA.fr [] Lr z) (XA.fr [] Lr z)) (O.callS z (guest_pair_ok j _) z fun I c J b m=>?_) T.tno
 obtain ⟨rfl,n⟩:=m
 refine Sl_ _ n<|T.tgrow b<|have o:=Slc.mono VapiTie.mono i b; ?_
 obtain ⟨⟨K,M⟩,p,H⟩:=bnd H
 refine Tp z z (SX.two (XA.fr [] Lr z) (XA.fr [] Lr z)) (O.callS z (sl_BinTie_ok o (show VapiTie c [.string a.fA,.string a.fB,.int .u8 a.fKind] a from z) (show CF170 c (.func (.func 162) #[] #[]) guest_order from ⟨⟨z,z⟩,.inr ⟨162,[],[],z,fun N P S U q W X r Y s u=>guest_order_ok q r s u⟩⟩) p _) z fun Z aa ab d w=>?_) T.tno
 obtain ⟨rfl,x⟩:=w
 refine Sl_ _ x<|T.tgrow d<|Tv z (V.ext z z)<|Tv z (V.ext z z)<|Ts z z (SX.two (XA.fr [] Lr z) (XA.fr [] Lr z)) (V.asg z) z ?_ T.tno
 refine Ts z z (SX.two (XA.fr [] Lr z) (XA.fr [] Lr z)) (V.asg z) z ?_ T.tno
 refine T.tnil (SX.two (XA.fr [] Lr z) (XA.fr [] Lr z))<|Th<|T.ret ?_
 obtain ⟨rfl,rfl⟩:=inj2 H
 have y:=(b.trans d)
 exact T.retL Tryz.results169 (RVs.cons (RV.tmp z) (Rv z)) y ⟨z,z⟩
theorem Book_Add_ok {h:PH} {pb0:Nat} {b1:guestBook} {v0_1:Value} {css0_2:List (List Value)} {v0_4:Value} {css0_5:List (List Value)} {mb0_7:Nat} {es0_8:List MapEntry} (hR0_3:RowF VapiGuest h css0_2 b1.fcontent.fguests) (hR0_6:RowF VapiTie h css0_5 b1.fcontent.fties) (hM0_9:MapG Value.string false (VI .i64) h 0 es0_8 b1.fat) {pc1:List Value} {g2:apiGuest} (pr1:VapiGuest h pc1 g2) {r_0:Int} {q_0:guestBook} (H:Book_Add b1 g2 = some (r_0,q_0)):∀ L,FnS Tryz.prog 161 [.pointer (some ⟨pb0,0,none⟩),.agg pc1.toArray] h (blk pb0 (.cells [v0_1,v0_4,.map (some mb0_7)].toArray 231)::rowR 35 9 v0_1 css0_2::rowR 164 3 v0_4 css0_5::blk mb0_7 (.map es0_8.toArray es0_8.length)::L) (fun v h' L'=>∃ vl0_1 cssl0_2 vl0_4 cssl0_5 mbl0_7 esl0_8,v = .int .i64 r_0∧L' = blk pb0 (.cells [vl0_1,vl0_4,.map (some mbl0_7)].toArray 231)::rowR 35 9 vl0_1 cssl0_2::rowR 164 3 vl0_4 cssl0_5::blk mbl0_7 (.map esl0_8.toArray esl0_8.length)::L∧RowF VapiGuest h' cssl0_2 q_0.fcontent.fguests∧RowF VapiTie h' cssl0_5 q_0.fcontent.fties∧MapG Value.string false (VI .i64) h' 0 esl0_8 q_0.fat):=by
 intro L
 obtain ⟨d,rfl,Z⟩:=pr1
 refine FnS.enter Tryz.func161 z Tryz.ntmps161 z<|Sr<|To (O.boxF z z z fun a1 a2 A aa=>Ag z<|Nt<|Sq<|Sr<|Mv z ?_)
 obtain ⟨f,ab,H⟩:=bnd H
 refine To (O.callS z (FnS.lend (val:=.bool f) Tryz.func168 z lendB fun a3 ac ad=>FnS.lend (val:=.bool f) Tryz.func168 z lendR fun a4 B ae=>FnS.lend (val:=.bool f) Tryz.func168 z lendR fun a5 o af=>FnS.lend (val:=.bool f) Tryz.func168 z lendM fun C m ag=>?_) z fun a6 ai a7 D aj=>?_)
 ·have G:=((A.trans ac).trans B)
  have ak:=RowF.mono VapiGuest.mono hR0_3 G
  have am:=RowF.slc ae ak
  have I:=(G.trans o)
  have an:=RowF.mono VapiTie.mono hR0_6 I
  have ao:=RowF.slc af an
  have aq:=(I.trans m)
  have ar:=MapG.mono VI.mono aq hM0_9
  have au:Mp Value.string false (VI .i64) C (.map (some mb0_7)) b1.fat:=⟨_,_,z,ag,ar⟩
  have aw:=((B.trans o).trans m)
  have ax:=ad.mono aw
  have ay:=(o.trans m)
  have aA:=Slc.mono VapiGuest.mono am ay
  have aB:=Slc.mono VapiTie.mono ao m
  exact Book_none_ok (Pt.mk ax (show VguestBook C [v0_1,v0_4,(.map (some mb0_7))] (guestBook.mk (guestcontent.mk b1.fcontent.fguests b1.fcontent.fties) b1.fat) from ⟨v0_1,v0_4,(.map (some mb0_7)),z,aA,aB,au⟩)) ab _
 obtain ⟨rfl,aC⟩:=aj
 refine Sl_ _ aC<|Nt<|T.cH H z (fun H=>?_) (fun H=>?_)
 ·exact dead H
 refine T.skip<|Th<|Sq<|Sr<|have J:=aa.mono D; Vv (V.ldS rfl J (by exact shguest_35)) ?_
 have K:=(A.trans D)
 have M:=Slc.mono VS.mono Z K
 obtain ⟨a8,aD,H⟩:=bnd H
 refine To (O.callS z (guest_Check_ok (show VapiGuest ai [.string g2.fName,.string g2.fRank,.string g2.fCourt,.int .i64 g2.fSince,.int .i64 g2.fSide,.string g2.fDiet,.bool g2.fHost,.bool g2.fAccess,d] g2 from ⟨d,z,M⟩) aD _) z fun a9 p ah q aE=>?_)
 obtain ⟨rfl,aG⟩:=aE
 refine Sl_ _ aG<|Ag z<|Nt<|Sr<|Mv z<|Vv (V.ne z z)<|Nt<|T.cH H z (fun H=>?_) (fun H=>?_)
 ·exact dead H
 refine T.skip<|Th<|Sq<|Sq<|Fr_ 3 z<|T.fl ?_
 refine Fr_ 1 z<|T.fl ?_
 refine T.drawF (t:=(.v 0 (.v 1 (.v 2 (.v 3 (.v 4 (.v 5 (.v 6 (.v 7 (.v 8 (.v 9 (.alt 10 (.alt 11 .done .no) .no)))))))))))) 13 2 2 rfl rfl guestmixed (by kernel_rfl) ?_
 refine Tm z z<|Tv z (V.nck z)<|Tv z (V.fa fdguest_231_1 z)<|Tv z (Val.XA fun _ _ _=>V.ldO (k:=2) shguest_229 z (j:=0) z z)<|Tv z (V.fa fdguest_35_0 z)<|have s:=J.mono q; Tv z (V.ldf (k:=0) shguest_9 z s z) ?_
 obtain ⟨⟨al,av⟩,aI,H⟩:=bnd H
 have u:=(K.trans q)
 have N:=MapG.mono VI.mono u hM0_9
 obtain ⟨_,aJ,rfl⟩:=MapG.lookO (r:=mb0_7) (zc:=[.int .i64 (0:Int)]) (agg:=false) Tryz.underlying229 (KeyOK.str Tryz.underlying9) zeguest_3 (show (VI .i64) p [.int .i64 (0:Int)] (0:Int) from rfl) N aI
 refine Tv z (Val.XA fun _ _ _=>V.lkO z z (j:=1) z aJ)<|Tm z z<|Tv z (V.ext z z)<|Tv z (V.ext z z)<|Ts z z (SX.two (XA.fr [1,1] Lr z) (XA.fr [1,1] Lr z)) (V.asg z) z ?_ T.tno
 refine Ts z z (SX.two (XA.fr [1,1] Lr z) (XA.fr [1,1] Lr z)) (V.asg z) z ?_ T.tno
 refine T.tnil (SX.two (XA.fr [1,1] Lr z) (XA.fr [1,1] Lr z))<|Th<|Sr<|Mv z<|Nt<|T.cH H z (fun H=>?_) (fun H=>?_)
 ·exact dead H
 refine T.skip<|Th<|Sq<|Sr<|Mv z<|Vv (V.nck z)<|Vv (V.fa fdguest_231_0 z)<|Vv (V.fa fdguest_228_0 z)<|Vv (V.ldO (k:=0) shguest_23 z (j:=0) z z)<|have w:=RowF.mono VapiGuest.mono hR0_3 u; Vv (V.lenX elguest_23 z (j:=2) z w.len)<|Vv (V.eq z z)<|Nt<|T.cH H z (fun H=>?_) (fun H=>?_)
 ·exact dead H
 refine T.skip<|Th<|Sq<|Fr_ 1 z<|T.fl ?_
 refine Fr_ 2 z<|T.fl ?_
 refine Fr_ 2 z<|T.fl ?_
 refine T.drawF (t:=(.v 0 (.v 1 (.v 2 (.v 3 (.v 4 (.v 5 (.v 6 (.v 7 (.v 8 (.v 9 (.v 10 (.v 11 (.alt 12 .done .no)))))))))))))) 12 3 2 rfl rfl guestmixed (by kernel_rfl) ?_
 refine Tm z z<|Tv z (V.nck z)<|Tv z (V.fa fdguest_231_1 z)<|Tv z (Val.XA fun _ _ _=>V.ldO (k:=2) shguest_229 z (j:=0) z z)<|Tv z (V.fa fdguest_35_0 z)<|Tv z (V.ldf (k:=0) shguest_9 z s z)<|Tm z z<|Tv z (V.nck z)<|Tv z (V.fa fdguest_231_0 z)<|Tv z (V.fa fdguest_228_0 z)<|Tv z (Val.XA fun _ _ _=>V.ldO (k:=0) shguest_23 z (j:=0) z z)<|Tv z (Val.XA fun _ _ _=>V.lenX elguest_23 z (j:=1) z w.len) ?_
 obtain ⟨az,aK,H⟩:=bnd H
 refine Tp z z (SX.two (XA.fr [1,1] Lr z) (XA.fr [2,2,2] Lr z)) (O.updM (agg:=false) (E:=(VI .i64)) (cs:=[.int .i64 (b1.fcontent.fguests.length:Int)]) Tryz.underlying229 (KeyOK.str Tryz.underlying9) z z z (j:=2) z N (show (VI .i64) p [.int .i64 (b1.fcontent.fguests.length:Int)] (b1.fcontent.fguests.length:Int) from z) _ (.inl z) fun b P=>?_) T.tno
 rw [Option.some.inj aK] at P
 refine Sl_ (blk mb0_7 (.map b.toArray b.length)::blk pb0 (.cells [v0_1,v0_4,.map (some mb0_7)].toArray 231)::rowR 35 9 v0_1 css0_2::rowR 164 3 v0_4 css0_5::L) z<|T.tnil (SX.one (XA.fr [2,2] Lr z) z)<|Th<|Sq<|T.norm [0,3] z<|Sl_ (blk mb0_7 (.map b.toArray b.length)::blk pb0 (.cells [v0_1,v0_4,.map (some mb0_7)].toArray 231)::rowR 35 9 v0_1 css0_2::rowR 164 3 v0_4 css0_5::L) z<|Fr_ 2 z<|T.fl ?_
 refine Fr_ 2 z<|T.fl ?_
 refine T.drawF (t:=(.v 0 (.v 1 (.v 2 (.v 3 (.v 4 (.x 5 (.v 6 (.alt 7 (.g (.alt 8 (.alt 9 (.g (.v 10 (.v 11 (.v 12 (.alt 13 .done .no))))) .no) .no)) .no))))))))) 9 2 0 rfl rfl guestmixed (by kernel_rfl) ?_
 refine Tm z z<|Tm z z<|Tv z (V.nck rfl)<|Tv z (V.fa fdguest_231_0 rfl)<|Tv z (V.fa fdguest_228_0 rfl)<|T.tx rfl rfl (Val.XA fun _ _ _=>V.ldO (k:=0) shguest_23 rfl (j:=0) rfl rfl) rfl Calm.i<|Tv z (V.ldS rfl s (by exact shguest_35)) ?_
 have aM:=Slc.mono VS.mono M q
 obtain ⟨a,aN,H⟩:=bnd H
 refine Tp z z (SX.two (XA.fr [] Lr z) (XA.fr [1,1] Lr z)) (O.callS z (guest_copied_ok (show VapiGuest p [.string g2.fName,.string g2.fRank,.string g2.fCourt,.int .i64 g2.fSince,.int .i64 g2.fSide,.string g2.fDiet,.bool g2.fHost,.bool g2.fAccess,d] g2 from ⟨d,z,aM⟩) aN _) z fun ba S bb n aO=>?_) T.tno
 obtain ⟨c,rfl,aP,aS⟩:=aO
 refine Sl_ _ aP<|T.tgrow n<|Tp z z (SX.two (XA.fr [] Lr z) (XA.fr [1,1] Lr z)) (O.bs elguest_23 zeguest_35 z (e:=z) (hk:=z) (xs:=[.tmp 52]) (hv:=CO.eq (CO.cons z CO.nil)) (hw:=Wide.of z) (hd:=z) fun aU=>?_) T.tno
 have y:RowF VapiGuest S [[.string a.fName,.string a.fRank,.string a.fCourt,.int .i64 a.fSince,.int .i64 a.fSide,.string a.fDiet,.bool a.fHost,.bool a.fAccess,c]] ([a]:List apiGuest):=(RowF.cons ⟨c,z,aS⟩ RowF.nil)
 obtain ⟨aV,U,H⟩:=bnd H
 have W:=RowF.mono VapiGuest.mono w n
 refine Tp z z (SX.two (XA.fr [] Lr z) (XA.fr [2,2] Lr z)) (O.apX elguest_23 elguest_23 zeguest_35 z z z (j:=2) z (Src.row (j:=0) z) (Wide.of z) (RowF.ones VapiGuest.plain y) W y U z fun X bc bd=>?_) T.tno
 have aW:RowF VapiGuest S (css0_2 ++ [[.string a.fName,.string a.fRank,.string a.fCourt,.int .i64 a.fSince,.int .i64 a.fSide,.string a.fDiet,.bool a.fHost,.bool a.fAccess,c]]) aV:=RowF.ap W y U
 refine Sl_ (rowR 35 9 X (css0_2 ++ [[.string a.fName,.string a.fRank,.string a.fCourt,.int .i64 a.fSince,.int .i64 a.fSide,.string a.fDiet,.bool a.fHost,.bool a.fAccess,c]])::rowR 35 9 (.slice (some ⟨aU,0,none⟩) 1 1) [[.string a.fName,.string a.fRank,.string a.fCourt,.int .i64 a.fSince,.int .i64 a.fSide,.string a.fDiet,.bool a.fHost,.bool a.fAccess,c]]::blk pb0 (.cells [v0_1,v0_4,.map (some mb0_7)].toArray 231)::blk mb0_7 (.map b.toArray b.length)::rowR 164 3 v0_4 css0_5::L) z<|Fr_ 1 z<|T.fl ?_
 refine T.drop<|T.tgrow Lr<|Tv z (V.nck rfl)<|Tv z (V.fa fdguest_231_0 rfl)<|Tv z (V.fa fdguest_228_0 rfl)<|T.rowOne 0 rfl fun aX aY=>Tp z z (SX.one (XA.fr [] Lr rfl) rfl) (O.st (vs:=[X]) (k:=0) shguest_23 rfl rfl (j:=1) rfl aY (by (simp only [Sl.ones,aX,Bool.and_true,Bool.true_and]) <;> rfl) ?_) T.tno
 refine T.fl ?_
 refine T.tnil (SX.one (XA.fr [] Lr z) z)<|Th<|Sr<|Ag z<|Nt<|T.ret<|Fr_ 2 z<|T.fl ?_
 refine Fr_ 3 z<|T.fl ?_
 refine Fr_ 3 z<|T.fl ?_
 refine Fr_ 3 z<|T.fl ?_
 have Y:=(u.trans n)
 have aZ:=RowF.mono VapiTie.mono hR0_6 Y
 have a0:=MapG.mono VI.mono n P
 obtain ⟨rfl,rfl⟩:=inj2 H
 exact T.retL Tryz.results161 (Rv z) Y ⟨_,_,_,_,_,_,z,z,aW,aZ,a0⟩
theorem Book_Tie_ok {h:PH} {pb0:Nat} {b1:guestBook} {v0_1:Value} {css0_2:List (List Value)} {v0_4:Value} {css0_5:List (List Value)} {mb0_7:Nat} {es0_8:List MapEntry} (hR0_3:RowF VapiGuest h css0_2 b1.fcontent.fguests) (hR0_6:RowF VapiTie h css0_5 b1.fcontent.fties) (hM0_9:MapG Value.string false (VI .i64) h 0 es0_8 b1.fat) {one2:ByteArray} {other3:ByteArray} {kind4:Int} {r_0:Int} {q_0:guestBook} (H:Book_Tie b1 one2 other3 kind4 = some (r_0,q_0)):∀ L,FnS Tryz.prog 163 [.pointer (some ⟨pb0,0,none⟩),.string one2,.string other3,.int .u8 kind4] h (blk pb0 (.cells [v0_1,v0_4,.map (some mb0_7)].toArray 231)::rowR 35 9 v0_1 css0_2::rowR 164 3 v0_4 css0_5::blk mb0_7 (.map es0_8.toArray es0_8.length)::L) (fun v h' L'=>∃ vl0_1 cssl0_2 vl0_4 cssl0_5 mbl0_7 esl0_8,v = .int .i64 r_0∧L' = blk pb0 (.cells [vl0_1,vl0_4,.map (some mbl0_7)].toArray 231)::rowR 35 9 vl0_1 cssl0_2::rowR 164 3 vl0_4 cssl0_5::blk mbl0_7 (.map esl0_8.toArray esl0_8.length)::L∧RowF VapiGuest h' cssl0_2 q_0.fcontent.fguests∧RowF VapiTie h' cssl0_5 q_0.fcontent.fties∧MapG Value.string false (VI .i64) h' 0 esl0_8 q_0.fat):=by
 intro L
 refine FnS.enter Tryz.func163 z Tryz.ntmps163 z<|Sr<|Ag z<|Nt<|Sq<|Sr<|Mv z ?_
 obtain ⟨d,ac,H⟩:=bnd H
 refine To (O.callS z (FnS.lend (val:=.bool d) Tryz.func168 z lendB fun bE ad ae=>FnS.lend (val:=.bool d) Tryz.func168 z lendR fun bG C af=>FnS.lend (val:=.bool d) Tryz.func168 z lendR fun bI s ag=>FnS.lend (val:=.bool d) Tryz.func168 z lendM fun D f ai=>?_) z fun bJ aj bK u ak=>?_)
 ·have E:=(ad.trans C)
  have am:=RowF.mono VapiGuest.mono hR0_3 E
  have an:=RowF.slc af am
  have G:=(E.trans s)
  have ao:=RowF.mono VapiTie.mono hR0_6 G
  have ap:=RowF.slc ag ao
  have aq:=(G.trans f)
  have ar:=MapG.mono VI.mono aq hM0_9
  have au:Mp Value.string false (VI .i64) D (.map (some mb0_7)) b1.fat:=⟨_,_,z,ai,ar⟩
  have aw:=((C.trans s).trans f)
  have ax:=ae.mono aw
  have ay:=(s.trans f)
  have aA:=Slc.mono VapiGuest.mono an ay
  have aB:=Slc.mono VapiTie.mono ap f
  exact Book_none_ok (Pt.mk ax (show VguestBook D [v0_1,v0_4,(.map (some mb0_7))] (guestBook.mk (guestcontent.mk b1.fcontent.fguests b1.fcontent.fties) b1.fat) from ⟨v0_1,v0_4,(.map (some mb0_7)),z,aA,aB,au⟩)) ac _
 obtain ⟨rfl,aC⟩:=ak
 refine Sl_ _ aC<|Nt<|T.cH H z (fun H=>?_) (fun H=>?_)
 ·exact dead H
 refine T.skip<|Th<|Sq<|Sr<|Mv z<|Vv (V.ne z z)<|Mv z<|T.bH 19 H z (fun H=>?_) (fun H=>?_)
 ·refine Mv z<|Vv (V.ne z z)<|Vv (V.pkT z z)<|Mv z<|T.bH 23 H z (fun H=>?_) (fun H=>?_)
  ·exact dead H
  refine Mv z<|Mv z<|Vv (V.seq z z)<|Vv (V.pkF z z)<|Nt<|T.cH H z (fun H=>?_) (fun H=>?_)
  ·exact dead H
  refine T.skip<|Th<|Sq<|Sr<|Mv z<|Mv z<|To (O.bs elguest_33 zeguest_9 z (e:=z) (hk:=z) (xs:=[.tmp 28,.tmp 29]) (hv:=CO.eq (CO.cons z (CO.cons z CO.nil))) (hw:=Wide.of z) (hd:=z) fun I=>have J:RowF VS aj [[.string one2],[.string other3]] ([one2,other3]:List ByteArray):=(RowF.cons z (RowF.cons z RowF.nil)); Vv (V.lenX elguest_33 z (j:=0) z J.len)<|Mv z<|Nt ?_)
  obtain ⟨K,aD,aE⟩:=bndK H
  refine T.cutK (α:=Unit) [0,1,2,3] z (fun _u=>[]) (fun _u=>blk pb0 (.cells [v0_1,v0_4,.map (some mb0_7)].toArray 231)::rowR 35 9 v0_1 css0_2::rowR 164 3 v0_4 css0_5::blk mb0_7 (.map es0_8.toArray es0_8.length)::L) (fun _u hh=>K = ()) ?_ ?_
  ·have H:=aD
   refine Bl<|T.loopK (α:=Nat×Int) [0,1,2,3,30,31] z (fun ⟨a,b⟩=>[(32,.int .i64 b)]) (fun ⟨a,b⟩=>rowR 9 1 (.slice (some ⟨I,0,none⟩) 2 2) [[.string one2],[.string other3]]::blk pb0 (.cells [v0_1,v0_4,.map (some mb0_7)].toArray 231)::rowR 35 9 v0_1 css0_2::rowR 164 3 v0_4 css0_5::blk mb0_7 (.map es0_8.toArray es0_8.length)::L) (fun ⟨a,b⟩ hh=>iter (Book_Tie_l0 b1 one2 other3) a b = some K) (fun ⟨a,b⟩=>a) (FUEL,(0:Int)) ⟨z,trivial⟩ z H ?_
   rintro ⟨a,b⟩ aG m aI
   obtain ⟨aJ,bM,rfl,H,M⟩:=iter_go aI
   refine T.norm [32,0,1,2,3,30,31] z<|Sl_ (rowR 9 1 (.slice (some ⟨I,0,none⟩) 2 2) [[.string one2],[.string other3]]::blk pb0 (.cells [v0_1,v0_4,.map (some mb0_7)].toArray 231)::rowR 35 9 v0_1 css0_2::rowR 164 3 v0_4 css0_5::blk mb0_7 (.map es0_8.toArray es0_8.length)::L) z<|Sr<|Vv (V.lt z z)<|Nt<|Sq<|T.cH H z (fun H=>?_) (fun H=>?_)
   ·refine T.skip<|Th<|Sq<|Bl<|Sr ?_
    obtain ⟨bN,N,H⟩:=bnd H
    have P:=RowF.mono VS.mono J m
    obtain ⟨bO,aK,rfl⟩:=RowF.get P N
    refine Vv (V.ixR elguest_33 z z (j:=0) z (RowF.bd P N))<|Vv (V.ldR shguest_9 z (j:=0) z aK z)<|Ag z<|Nt<|Sr<|Mv z<|Vv (V.nck z)<|Vv (V.fa fdguest_231_1 z)<|Vv (V.ldO (k:=2) shguest_229 z (j:=1) z z)<|Mv z ?_
    obtain ⟨⟨bP,bS⟩,aM,H⟩:=bnd H
    have aN:=(u.trans m)
    have aO:=MapG.mono VI.mono aN hM0_9
    obtain ⟨_,aP,rfl⟩:=MapG.lookO (r:=mb0_7) (zc:=[.int .i64 (0:Int)]) (agg:=false) Tryz.underlying229 (KeyOK.str Tryz.underlying9) zeguest_3 (show (VI .i64) aG [.int .i64 (0:Int)] (0:Int) from rfl) aO aM
    refine Vv (V.lkO z z (j:=4) z aP)<|Mv z<|Vv (V.ext z z)<|Vv (V.ext z z)<|Ag z<|Ag z<|Nt<|Sr<|Mv z<|Vv (V.not z)<|Nt<|T.cH H z (fun H=>?_) (fun H=>?_)
    ·exact dead H
    refine T.skip<|Bn<|Th<|Rg ?_
    obtain ⟨aS,aU,H⟩:=bnd H
    refine Vv (V.addS z z aU)<|Mv z<|Nt<|T.again (aJ,aS) m (Nat.lt_succ_self _) (iterK_in H M) (AllIn.app ⟨z,trivial⟩ ⟨z,z,z,z,z,z,trivial⟩) z
   refine T.exit<|Te<|Te<|have H:=iterK_out H M; Be<|Th<|T.drop<|T.met () m H (AllIn.app trivial ⟨z,z,z,z,trivial⟩) z
  rintro _ bU S aV
  have H:=cutE aV aE
  refine T.norm [0,1,2,3] z<|Sl_ (blk pb0 (.cells [v0_1,v0_4,.map (some mb0_7)].toArray 231)::rowR 35 9 v0_1 css0_2::rowR 164 3 v0_4 css0_5::blk mb0_7 (.map es0_8.toArray es0_8.length)::L) z<|Sr<|Mv z<|Mv z<|Mv z ?_
  obtain ⟨⟨n,o⟩,aW,H⟩:=bnd H
  refine To (O.callS z (FnS.lend (val:=.tuple #[.int .i64 n,.bool o]) Tryz.func169 z lendB fun bV aX aY=>FnS.lend (val:=.tuple #[.int .i64 n,.bool o]) Tryz.func169 z lendR fun bW U aZ=>FnS.lend (val:=.tuple #[.int .i64 n,.bool o]) Tryz.func169 z lendR fun bX w a0=>FnS.lend (val:=.tuple #[.int .i64 n,.bool o]) Tryz.func169 z lendM fun W p a1=>?_) z fun bY bZ b0 a2 a3=>?_)
  ·have X:=(((u.trans S).trans aX).trans U)
   have a4:=RowF.mono VapiGuest.mono hR0_3 X
   have a5:=RowF.slc aZ a4
   have Y:=(X.trans w)
   have a6:=RowF.mono VapiTie.mono hR0_6 Y
   have a7:=RowF.slc a0 a6
   have a8:=(Y.trans p)
   have a9:=MapG.mono VI.mono a8 hM0_9
   have ah:Mp Value.string false (VI .i64) W (.map (some mb0_7)) b1.fat:=⟨_,_,z,a1,a9⟩
   have al:=((U.trans w).trans p)
   have av:=aY.mono al
   have az:=(w.trans p)
   have ba:=Slc.mono VapiGuest.mono a5 az
   have bb:=Slc.mono VapiTie.mono a7 p
   exact Book_place_ok (Pt.mk av (show VguestBook W [v0_1,v0_4,(.map (some mb0_7))] (guestBook.mk (guestcontent.mk b1.fcontent.fguests b1.fcontent.fties) b1.fat) from ⟨v0_1,v0_4,(.map (some mb0_7)),z,ba,bb,ah⟩)) aW _
  obtain ⟨rfl,bc⟩:=a3
  refine Sl_ _ bc<|Mv z<|Vv (V.ext z z)<|Vv (V.ext z z)<|Ag z<|Ag z<|Nt<|Sq<|Sr<|Mv z<|Nt<|T.cH H z (fun H=>?_) (fun H=>?_)
  ·exact dead H
  refine T.skip<|Th<|Sq<|Sr<|Mv z<|Vv (V.nck z)<|Vv (V.fa fdguest_231_0 z)<|Vv (V.fa fdguest_228_1 z)<|Vv (V.ldO (k:=1) shguest_24 z (j:=0) z z)<|have Z:=((u.trans S).trans a2); have aa:=RowF.mono VapiTie.mono hR0_6 Z; Vv (V.lenX elguest_24 z (j:=2) z aa.len)<|Vv (V.eq z z)<|Nt<|T.cH H z (fun H=>?_) (fun H=>?_)
  ·exact dead H
  refine T.skip<|Th<|Sq<|Fr_ 2 z<|T.fl ?_
  refine Fr_ 1 z<|T.fl ?_
  refine T.drawF (t:=(.v 0 (.v 1 (.v 2 (.v 3 (.v 4 (.x 5 (.v 6 (.v 7 (.v 8 (.v 9 (.alt 10 (.g (.alt 11 (.alt 12 (.g (.v 13 (.v 14 (.v 15 (.alt 16 .done .no))))) .no) .no)) .no)))))))))))) 12 2 0 rfl rfl guestmixed (by kernel_rfl) ?_
  refine Tm z z<|Tm z z<|Tv z (V.nck z)<|Tv z (V.fa fdguest_231_0 z)<|Tv z (V.fa fdguest_228_1 z)<|T.tx z z (Val.XA fun _ _ _=>V.ldO (k:=1) shguest_24 z (j:=0) z z) z Calm.i<|Tm z z<|Tm z z<|Tm z z<|Tm z z ?_
  obtain ⟨q,be,H⟩:=bnd H
  refine Tp z z (SX.two (XA.fr [] Lr z) (XA.fr [1,1] Lr z)) (O.callS z (guest_pair_ok be _) z fun b2 bf b3 y bg=>?_) T.tno
  obtain ⟨rfl,bi⟩:=bg
  refine Sl_ _ bi<|T.tgrow y<|Tp z z (SX.two (XA.fr [] Lr z) (XA.fr [1,1] Lr z)) (O.bs elguest_24 zeguest_164 z (e:=z) (hk:=z) (xs:=[.tmp 73]) (hv:=CO.eq (CO.cons z CO.nil)) (hw:=Wide.of z) (hd:=z) fun b4=>?_) T.tno
  have bj:RowF VapiTie bf [[.string q.fA,.string q.fB,.int .u8 q.fKind]] ([q]:List apiTie):=(RowF.cons z RowF.nil)
  refine T.rowFix fun b5 c bk=>have bm:=RowF.mono VapiTie.mono bj c; have bn:=RowF.slc bk bm; have bo:=(y.trans c); have bp:=RowF.mono VapiTie.mono aa bo; Fr_ 1 z<|T.fl ?_
  obtain ⟨b6,bq,H⟩:=bnd H
  refine Tp z z (SX.two (XA.fr [] c z) (XA.fr [0,1] c z)) (O.callS z (sl_InsTie_ok bp bn bq _) z fun A b7 b8 ab br=>?_) T.tno
  obtain ⟨bt,bu,bw⟩:=br
  refine Sl_ _ bu<|have bx:=(c.trans ab); T.tgrow bx<|Tv z (V.nck rfl)<|Tv z (V.fa fdguest_231_0 rfl)<|Tv z (V.fa fdguest_228_1 rfl)<|T.rowOne 0 rfl fun bA bB=>Tp z z (SX.one (XA.fr [] Lr rfl) rfl) (O.st (vs:=[A]) (k:=1) shguest_24 rfl rfl (j:=1) rfl bB (by (simp only [Sl.ones,bA,Bool.and_true,Bool.true_and]) <;> rfl) ?_) T.tno
  refine T.fl ?_
  refine T.tnil (SX.one (XA.fr [] Lr z) z)<|Th<|Sq<|T.norm [0] z<|Sl_ (blk pb0 (.cells [v0_1,A,.map (some mb0_7)].toArray 231)::rowR 164 3 A bt::rowR 35 9 v0_1 css0_2::blk mb0_7 (.map es0_8.toArray es0_8.length)::L) z<|Rg<|Ag z<|Nt<|T.ret<|Fr_ 3 z<|T.fl ?_
  refine Fr_ 2 z<|T.fl ?_
  refine Fr_ 3 z<|T.fl ?_
  refine Fr_ 3 z<|T.fl ?_
  have B:=(((Z.trans y).trans c).trans ab)
  have bC:=RowF.mono VapiGuest.mono hR0_3 B
  have bD:=MapG.mono VI.mono B hM0_9
  obtain ⟨rfl,rfl⟩:=inj2 H
  exact T.retL Tryz.results163 (Rv z) B ⟨_,_,_,_,_,_,z,z,bC,bw,bD⟩
 exact dead H
theorem guest_Load_ok {h:PH} {pc0:List Value} {r1:apiRoll} (pr0:VapiRoll h pc0 r1) {r_0:guestBook} {r_1:Int} {r_2:Int} (H:guest_Load r1 = some (r_0,r_1,r_2)):∀ L,FnS Tryz.prog 83 [.agg pc0.toArray] h (L) (fun v h' L'=>∃ w0,v = .tuple #[w0,.int .i64 r_1,.int .i64 r_2]∧L' = L∧Pt VguestBook h' w0 r_0):=by
 intro L
 obtain ⟨cJ,cK,rfl,a3,a4⟩:=pr0
 refine FnS.enter Tryz.func83 z Tryz.ntmps83 z<|Sr<|To (O.boxF z z z fun cM cN a5 a6=>Ag z<|Ag z<|Ag z<|Nt<|Sr ?_)
 obtain ⟨am,a7,H⟩:=bnd H
 refine To (O.callS z (guest_New_ok a7 _) z fun cO cP cS aA a8=>?_)
 obtain ⟨s,a9,ah,al,av,az,ba,rfl,bb,bc,bd,be⟩:=a8
 refine Sl_ _ bb<|Ag z<|Nt<|Sq<|Sr<|Vv (V.fa fdguest_143_0 z)<|have aB:=a6.mono aA; Vv (V.ldf (k:=0) shguest_23 z aB z)<|have aC:=(a5.trans aA); have aD:=Slc.mono VapiGuest.mono a3 aC; Vv (V.lenS elguest_23 z aD)<|Mv z<|Nt ?_
 obtain ⟨aE,bf,bg⟩:=bndK H
 refine T.cutK (α:=(List apiGuest)×(List apiTie)×(List (ByteArray×Int))×Value×(List (List Value))×Value×(List (List Value))×Nat×(List MapEntry)) [1,5] z (fun ⟨S,U,W,u,E,w,G,x,d⟩=>[]) (fun ⟨S,U,W,u,E,w,G,x,d⟩=>blk s (.cells [u,w,.map (some x)].toArray 231)::rowR 35 9 u E::rowR 164 3 w G::blk x (.map d.toArray d.length)::L) (fun ⟨S,U,W,u,E,w,G,x,d⟩ hh=>aE = (S,U,W)∧RowF VapiGuest hh E S∧RowF VapiTie hh G U∧MapG Value.string false (VI .i64) hh 0 d W) ?_ ?_
 ·have H:=bf
  refine Bl<|T.loopK (α:=Nat×(List apiGuest)×(List apiTie)×(List (ByteArray×Int))×Int×Value×(List (List Value))×Value×(List (List Value))×Nat×(List MapEntry)) [1,5,14,15] z (fun ⟨X,I,J,K,Y,e,y,f,A,i,b⟩=>[(16,.int .i64 Y)]) (fun ⟨X,I,J,K,Y,e,y,f,A,i,b⟩=>blk s (.cells [e,f,.map (some i)].toArray 231)::rowR 35 9 e y::rowR 164 3 f A::blk i (.map b.toArray b.length)::L) (fun ⟨X,I,J,K,Y,e,y,f,A,i,b⟩ hh=>iter (guest_Load_l0 r1) X (I,J,K,Y) = some aE∧RowF VapiGuest hh y I∧RowF VapiTie hh A J∧MapG Value.string false (VI .i64) hh 0 b K) (fun ⟨X,I,J,K,Y,e,y,f,A,i,b⟩=>X) (FUEL,am.fcontent.fguests,am.fcontent.fties,am.fat,(0:Int),a9,ah,al,av,az,ba) ⟨z,trivial⟩ z ⟨H,bc,bd,be⟩ ?_
  rintro ⟨X,I,J,K,Y,e,y,f,A,i,b⟩ cU an ⟨bi,aG,aI,aJ⟩
  obtain ⟨bj,cV,rfl,H,aK⟩:=iter_go bi
  refine T.norm [16,1,5,14,15] z<|Sl_ (blk s (.cells [e,f,.map (some i)].toArray 231)::rowR 35 9 e y::rowR 164 3 f A::blk i (.map b.toArray b.length)::L) z<|Sr<|Vv (V.lt z z)<|Nt<|Sq<|T.cH H z (fun H=>?_) (fun H=>?_)
  ·refine T.skip<|Th<|Sq<|Bl<|Sr<|Mv z ?_
   obtain ⟨a,aM,H⟩:=bnd H
   have aN:=Slc.mono VapiGuest.mono aD an
   obtain ⟨cW,bk,⟨ao,rfl,aO⟩⟩:=Slc.at aN aM
   refine Vv (V.ix elguest_23 rfl rfl aN (getI_bd aM))<|Vv (V.ldS rfl bk (by exact shguest_35)) ?_
   refine To (O.alloc zeguest_35 rfl rfl fun cX=>Ag z<|To (O.stF (vs:=[.string a.fName,.string a.fRank,.string a.fCourt,.int .i64 a.fSince,.int .i64 a.fSide,.string a.fDiet,.bool a.fHost,.bool a.fAccess,ao]) shguest_35 rfl rfl (j:=0) rfl rfl (by (simp only [Sl.ones,Slc.one aO,Bool.and_true,Bool.true_and]) <;> rfl) rfl ?_))
   refine T.fl ?_
   refine T.freeze fun bm ag bn=>have bo:=AtC.of bn; Nt<|Sr<|Mv z<|Vv (V.ldS rfl bo (by exact shguest_35)) ?_
   have bp:=RowF.mono VapiGuest.mono aG ag
   have bq:=RowF.mono VapiTie.mono aI ag
   have br:=MapG.mono VI.mono ag aJ
   have bs:=Slc.mono VS.mono aO ag
   obtain ⟨⟨cY,ap⟩,bt,H⟩:=bnd H
   refine To (O.callS z (Book_Add_ok bp bq br (show VapiGuest bm [.string a.fName,.string a.fRank,.string a.fCourt,.int .i64 a.fSince,.int .i64 a.fSide,.string a.fDiet,.bool a.fHost,.bool a.fAccess,ao] a from ⟨ao,z,bs⟩) bt _) z fun cZ c0 c1 bu bw=>?_)
   obtain ⟨bx,bA,bB,bC,bD,bE,rfl,bG,bI,bJ,bK⟩:=bw
   refine Sl_ _ bG<|Ag z<|Nt<|Sr<|Mv z<|Vv (V.ne z z)<|Nt<|T.cH H z (fun H=>?_) (fun H=>?_)
   ·exact dead H
   refine T.skip<|Bn<|Th<|Rg ?_
   obtain ⟨bM,bN,H⟩:=bnd H
   refine Vv (V.addS z z bN)<|Mv z<|Nt<|have bO:=((an.trans ag).trans bu); T.again (bj,ap.fcontent.fguests,ap.fcontent.fties,ap.fat,bM,bx,bA,bB,bC,bD,bE) bO (Nat.lt_succ_self _) ⟨(iterK_in H aK),bI,bJ,bK⟩ (AllIn.app ⟨z,trivial⟩ ⟨z,z,z,z,trivial⟩) z
  refine T.exit<|Te<|Te<|have H:=iterK_out H aK; Be<|Th<|T.met (I,J,K,e,y,f,A,i,b) an ⟨H,aG,aI,aJ⟩ (AllIn.app trivial ⟨z,z,trivial⟩) z
 rintro ⟨S,U,W,u,E,w,G,x,d⟩ c2 aP ⟨bP,bS,bU,bV⟩
 have H:=cutE bP bg
 refine T.norm [1,5] z<|Sl_ (blk s (.cells [u,w,.map (some x)].toArray 231)::rowR 35 9 u E::rowR 164 3 w G::blk x (.map d.toArray d.length)::L) z<|Sq<|Sr<|Vv (V.fa fdguest_143_1 z)<|have bW:=aB.mono aP; Vv (V.ldf (k:=1) shguest_24 z bW z)<|have aS:=(aC.trans aP); have aU:=Slc.mono VapiTie.mono a4 aS; Vv (V.lenS elguest_24 z aU)<|Mv z<|Nt ?_
 obtain ⟨aV,bX,bY⟩:=bndK H
 refine T.cutK (α:=(List apiGuest)×(List apiTie)×(List (ByteArray×Int))×Value×(List (List Value))×Value×(List (List Value))×Nat×(List MapEntry)) [5] z (fun ⟨Z,aa,ab,m,ac,n,ad,o,B⟩=>[]) (fun ⟨Z,aa,ab,m,ac,n,ad,o,B⟩=>blk s (.cells [m,n,.map (some o)].toArray 231)::rowR 35 9 m ac::rowR 164 3 n ad::blk o (.map B.toArray B.length)::L) (fun ⟨Z,aa,ab,m,ac,n,ad,o,B⟩ hh=>aV = (Z,aa,ab)∧RowF VapiGuest hh ac Z∧RowF VapiTie hh ad aa∧MapG Value.string false (VI .i64) hh 0 B ab) ?_ ?_
 ·have H:=bX
  refine Bl<|T.loopK (α:=Nat×(List apiGuest)×(List apiTie)×(List (ByteArray×Int))×Int×Value×(List (List Value))×Value×(List (List Value))×Nat×(List MapEntry)) [1,5,30,31] z (fun ⟨ae,M,N,P,af,p,C,q,D,r,c⟩=>[(32,.int .i64 af)]) (fun ⟨ae,M,N,P,af,p,C,q,D,r,c⟩=>blk s (.cells [p,q,.map (some r)].toArray 231)::rowR 35 9 p C::rowR 164 3 q D::blk r (.map c.toArray c.length)::L) (fun ⟨ae,M,N,P,af,p,C,q,D,r,c⟩ hh=>iter (guest_Load_l1 r1) ae (M,N,P,af) = some aV∧RowF VapiGuest hh C M∧RowF VapiTie hh D N∧MapG Value.string false (VI .i64) hh 0 c P) (fun ⟨ae,M,N,P,af,p,C,q,D,r,c⟩=>ae) (FUEL,S,U,W,(0:Int),u,E,w,G,x,d) ⟨z,trivial⟩ z ⟨H,bS,bU,bV⟩ ?_
  rintro ⟨ae,M,N,P,af,p,C,q,D,r,c⟩ c3 aq ⟨bZ,aW,aX,aY⟩
  obtain ⟨b0,c4,rfl,H,aZ⟩:=iter_go bZ
  refine T.norm [32,1,5,30,31] z<|Sl_ (blk s (.cells [p,q,.map (some r)].toArray 231)::rowR 35 9 p C::rowR 164 3 q D::blk r (.map c.toArray c.length)::L) z<|Sr<|Vv (V.lt z z)<|Nt<|Sq<|T.cH H z (fun H=>?_) (fun H=>?_)
  ·refine T.skip<|Th<|Sq<|Bl<|Sr<|Mv z ?_
   obtain ⟨ar,a0,H⟩:=bnd H
   have a1:=Slc.mono VapiTie.mono aU aq
   obtain ⟨c5,b1,rfl⟩:=Slc.at a1 a0
   refine Vv (V.ix elguest_24 rfl rfl a1 (getI_bd a0))<|Vv (V.ldS rfl b1 (by exact shguest_164)) ?_
   refine To (O.alloc zeguest_164 z z fun c6=>Ag z<|To (O.stF (vs:=[.string ar.fA,.string ar.fB,.int .u8 ar.fKind]) shguest_164 z z (j:=0) z z z z<|T.fl ?_))
   refine T.freeze fun c7 aj b2=>have ai:=AtC.of b2; Nt<|Sr<|Ag z<|Nt<|Sq<|Sq<|T.drawF (t:=(.v 0 (.v 1 (.v 2 (.v 3 (.v 4 (.v 5 (.v 6 (.v 7 (.v 8 (.v 9 (.v 10 (.v 11 (.v 12 (.v 13 (.v 14 (.v 15 (.alt 16 (.g (.v 17 (.v 18 (.v 19 .done)))) .no)))))))))))))))))) 21 0 0 rfl rfl guestmixed (by kernel_rfl) ?_
   refine Tv z (V.fa fdguest_164_0 z)<|Tv z (V.ldf (k:=0) shguest_9 z ai z)<|Tv z (V.fa fdguest_164_1 z)<|Tv z (V.ldf (k:=1) shguest_9 z ai z)<|Tv z (V.slt z z)<|Tm z z<|T.bH 42 H z (fun H=>?_) (fun H=>?_)
   ·refine Tm z z<|Tv z (V.eq z z)<|Tm z z<|T.bH 45 H z (fun H=>?_) (fun H=>?_)
    ·refine Tk z<|Tk z<|Tk z<|Tk z<|Tk z<|Tk z<|Tk z<|T.tskips z z (SX.two (XA.fr [] Lr z) (XA.fr [] Lr z)) z ?_ T.tno
     refine T.tgrow Lr<|Tk z<|Tv z (V.pkT z z)<|Tv z (V.pkT z z)<|T.tnil (SX.two (XA.fr [] Lr z) (XA.fr [] Lr z))<|Th<|Ct z<|Rg<|Mv z<|Vv (V.fa fdguest_164_0 z)<|Vv (V.ldf (k:=0) shguest_9 z ai z)<|Vv (V.fa fdguest_164_1 z)<|Vv (V.ldf (k:=1) shguest_9 z ai z)<|Vv (V.fa fdguest_164_2 z)<|Vv (V.ldf (k:=2) shguest_146 z ai z)<|have b3:=RowF.mono VapiGuest.mono aW aj; have b4:=RowF.mono VapiTie.mono aX aj; have b5:=MapG.mono VI.mono aj aY; ?_
     obtain ⟨⟨c8,au⟩,b6,H⟩:=bnd H
     refine To (O.callS z (Book_Tie_ok b3 b4 b5 b6 _) z fun c9 ch cl b7 b8=>?_)
     obtain ⟨b9,bh,bl,bv,bz,ca,rfl,cb,cc,cd,ce⟩:=b8
     refine Sl_ _ cb<|Ag z<|Nt<|Sr<|Mv z<|Vv (V.ne z z)<|Nt<|T.cH H z (fun H=>?_) (fun H=>?_)
     ·exact dead H
     refine T.skip<|Bn<|Th<|Rg ?_
     obtain ⟨cf,cg,H⟩:=bnd H
     refine Vv (V.addS z z cg)<|Mv z<|Nt<|have ci:=((aq.trans aj).trans b7); T.again (b0,au.fcontent.fguests,au.fcontent.fties,au.fat,cf,b9,bh,bl,bv,bz,ca) ci (Nat.lt_succ_self _) ⟨(iterK_in H aZ),cc,cd,ce⟩ (AllIn.app ⟨z,trivial⟩ ⟨z,z,z,z,trivial⟩) z
    exact dead H
   exact dead H
  refine T.exit<|Te<|Te<|have H:=iterK_out H aZ; Be<|Th<|T.met (M,N,P,p,C,q,D,r,c) aq ⟨H,aW,aX,aY⟩ (AllIn.app trivial ⟨z,trivial⟩) z
 rintro ⟨Z,aa,ab,m,ac,n,ad,o,B⟩ cv cj ⟨ck,cm,cn,co⟩
 have H:=cutE ck bY
 refine T.norm [5] z<|Sl_ (blk s (.cells [m,n,.map (some o)].toArray 231)::rowR 35 9 m ac::rowR 164 3 n ad::blk o (.map B.toArray B.length)::L) z<|Sr<|Mv z<|Ag z<|Ag z<|Ag z<|Nt<|T.ret<|Fr_ 1 z<|T.fl ?_
 refine T.rowFix fun cz aw cp=>have cq:=RowF.mono VapiGuest.mono cm aw; have cr:=RowF.slc cp cq; Fr_ 1 z<|T.fl ?_
 refine T.rowFix fun da ax cs=>have a2:=(aw.trans ax); have ct:=RowF.mono VapiTie.mono cn a2; have cu:=RowF.slc cs ct; Fr_ 1 z<|have cw:=MapG.mono VI.mono a2 co; T.mapFix VI.mono cw fun db ay cx=>T.blkFix fun cy ak cA=>have cB:=((ax.trans ay).trans ak); have cC:=Slc.mono VapiGuest.mono cr cB; have cD:=(ay.trans ak); have cE:=Slc.mono VapiTie.mono cu cD; have cG:=Mp.mono VI.mono cx ak; ?_
 obtain ⟨rfl,rfl,rfl⟩:=inj3 H
 have cI:=(((((aS.trans cj).trans aw).trans ax).trans ay).trans ak)
 exact T.retL Tryz.results83 (RVs.cons (RV.tmp z) (RVs.cons (RV.tmp z) (Rv z))) cI ⟨_,z,z,(Pt.mk cA (show VguestBook cy [m,n,(.map (some o))] (guestBook.mk (guestcontent.mk Z aa) ab) from ⟨m,n,(.map (some o)),z,cC,cE,cG⟩))⟩
theorem guest_CheckRoll_ok {h:PH} {pc0:List Value} {r1:apiRoll} (pr0:VapiRoll h pc0 r1) {r_0:Int} {r_1:Int} (H:guest_CheckRoll r1 = some (r_0,r_1)):∀ L,FnS Tryz.prog 183 [.agg pc0.toArray] h (L) (fun v h' L'=>v = .tuple #[.int .i64 r_0,.int .i64 r_1]∧L' = L):=by
 intro L
 obtain ⟨b,c,rfl,d,e⟩:=pr0
 refine FnS.enter Tryz.func183 rfl Tryz.ntmps183 rfl<|Sr<|To (O.boxF rfl rfl rfl fun q f a g=>Ag z<|Ag z<|Nt<|Sr<|Vv (V.ldS rfl g (by exact shguest_143)) ?_)
 have i:=Slc.mono VapiGuest.mono d a
 have j:=Slc.mono VapiTie.mono e a
 obtain ⟨⟨r,s,t⟩,k,H⟩:=bnd H
 refine To (O.callS z (guest_Load_ok (show VapiRoll f [b,c] r1 from ⟨b,c,z,i,j⟩) k _) z fun u w x m n=>?_)
 obtain ⟨y,rfl,o,A⟩:=n
 refine Sl_ _ o<|Mv z<|Vv (V.ext z z)<|Vv (V.ext z z)<|Vv (V.ext z z)<|Ag z<|Ag z<|Ag z<|Nt<|Sr<|Mv z<|Mv z<|Ag z<|Ag z<|Nt<|T.ret ?_
 obtain ⟨rfl,rfl⟩:=inj2 H
 have p:=(a.trans m)
 exact T.retL Tryz.results183 (RVs.cons (RV.tmp z) (Rv z)) p ⟨z,z⟩
end Go.Proofs.X
open Go Go.Proofs Go.Sl Go.Dm
namespace Go.Proofs.X
theorem elguest2_23 : elSh Tryz.prog 23 = some (35, 9, 112) := by kernel_rfl
theorem elguest2_24 : elSh Tryz.prog 24 = some (164, 3, 40) := by kernel_rfl
theorem fdguest2_164_2 : fldOf Tryz.prog 164 2 = some 2 := by kernel_rfl
theorem fdguest2_228_0 : fldOf Tryz.prog 228 0 = some 0 := by kernel_rfl
theorem fdguest2_228_1 : fldOf Tryz.prog 228 1 = some 1 := by kernel_rfl
theorem fdguest2_231_0 : fldOf Tryz.prog 231 0 = some 0 := by kernel_rfl
theorem fdguest2_231_1 : fldOf Tryz.prog 231 1 = some 2 := by kernel_rfl
theorem fdguest2_35_8 : fldOf Tryz.prog 35 8 = some 8 := by kernel_rfl
theorem shguest2_146 : tySh Tryz.prog 146 = some (false, 1) := by kernel_rfl
theorem shguest2_229 : tySh Tryz.prog 229 = some (false, 1) := by kernel_rfl
theorem shguest2_23 : tySh Tryz.prog 23 = some (false, 1) := by kernel_rfl
theorem shguest2_24 : tySh Tryz.prog 24 = some (false, 1) := by kernel_rfl
theorem shguest2_33 : tySh Tryz.prog 33 = some (false, 1) := by kernel_rfl
theorem shguest2_35 : tySh Tryz.prog 35 = some (true, 9) := by kernel_rfl
theorem zeguest2_3 : zer Tryz.prog 3 = some (.int .i64 (0)) := by kernel_rfl
theorem zeguest2_35 : zer Tryz.prog 35 = some (.agg #[.string ⟨#[]⟩, .string ⟨#[]⟩, .string ⟨#[]⟩, .int .i64 (0), .int .i64 (0), .string ⟨#[]⟩, .bool false, .bool false, .slice none 0 0]) := by kernel_rfl
theorem guest_copiedR_ok {h:PH} {pc0:List Value} {g1:apiGuest} (pr0:VapiGuest h pc0 g1) {r_0:apiGuest} (H:guest_copiedR g1 = some r_0):∀ L,FnS Tryz.prog 246 [.agg pc0.toArray] h (L) (fun v h' L'=>∃ vo0_1 csso0_2,v = .agg #[.string r_0.fName,.string r_0.fRank,.string r_0.fCourt,.int .i64 r_0.fSince,.int .i64 r_0.fSide,.string r_0.fDiet,.bool r_0.fHost,.bool r_0.fAccess,vo0_1]∧L' = rowR 9 1 vo0_1 csso0_2::L∧RowF VS h' csso0_2 r_0.fTongues):=by
 intro L
 obtain ⟨p,rfl,b⟩:=pr0
 refine FnS.enter Tryz.func246 z Tryz.ntmps246 z<|Sr<|To (O.box z z z fun q=>To (O.alloc zeguest2_35 z z fun r=>Nt<|Sr<|Vv (V.fa fdguest2_35_8 z)<|Vv (V.ldO (k:=8) shguest2_33 z (j:=1) z z) ?_))
 obtain ⟨s,c,H⟩:=bnd H
 refine To (O.callS z (sl_CloneStr_ok b c _) z fun a t u d e=>?_)
 obtain ⟨f,g,i⟩:=e
 refine Sl_ _ g<|Vv (V.fa fdguest2_35_8 rfl)<|T.rowOne 0 rfl fun m n=>To (O.st (vs:=[a]) (k:=8) shguest2_33 rfl rfl (j:=2) rfl n (by (simp only [Sl.ones,m,Bool.and_true,Bool.true_and]) <;> rfl) ?_)
 refine T.fl ?_
 refine Nt<|Sr<|Vv (V.ldOS (j:=0) (by exact shguest2_35) rfl rfl) ?_
 refine T.rowOne 1 rfl fun o w=>To (O.stF (vs:=[.string g1.fName,.string g1.fRank,.string g1.fCourt,.int .i64 g1.fSince,.int .i64 g1.fSide,.string g1.fDiet,.bool g1.fHost,.bool g1.fAccess,a]) shguest2_35 rfl rfl (j:=2) rfl rfl (by (simp only [Sl.ones,o,Bool.and_true,Bool.true_and]) <;> rfl) rfl ?_)
 refine T.fl ?_
 refine Nt<|T.ret<|Fr_ 1 z<|T.fl ?_
 refine T.drop ?_
 obtain rfl:=Option.some.inj H
 exact T.retD (L':=rowR 9 1 a f::L) Tryz.results246 (RVs.cons (RV.cellS z (j:=0) z shguest2_35) RVs.nil) d (fun _ iv=>iv.drop) ⟨_,_,z,z,i⟩
theorem Book_Find_ok {h:PH} {pv0:Value} {b1:guestBook} (pr0:Pt VguestBook h pv0 b1) {name2:ByteArray} {r_0:apiGuest} {r_1:Bool} (H:Book_Find b1 name2 = some (r_0,r_1)):∀ L,FnS Tryz.prog 164 [pv0,.string name2] h (L) (fun v h' L'=>∃ vo0_1 csso0_2,v = .tuple #[.agg #[.string r_0.fName,.string r_0.fRank,.string r_0.fCourt,.int .i64 r_0.fSince,.int .i64 r_0.fSide,.string r_0.fDiet,.bool r_0.fHost,.bool r_0.fAccess,vo0_1],.bool r_1]∧L' = rowR 9 1 vo0_1 csso0_2::L∧RowF VS h' csso0_2 r_0.fTongues):=by
 intro L
 refine FnS.enter Tryz.func164 z Tryz.ntmps164 z<|Sr<|To (O.alloc zeguest2_35 z z fun J=>Ag z<|Nt<|Sq<|Sr<|Mv z ?_)
 obtain ⟨K,n,H⟩:=bnd H
 refine To (O.callS z (Book_none_ok pr0 n _) z fun M c N d o=>?_)
 obtain ⟨rfl,p⟩:=o
 refine Sl_ _ p<|Nt<|T.cH H z (fun H=>?_) (fun H=>?_)
 ·exact dead H
 refine T.skip<|Th<|Sr<|Mv z<|have q:=Pt.mono VguestBook.mono pr0 d; have r:=q; ?_
 obtain ⟨P,_,rfl,e,⟨S,U,W,rfl,f,X,s⟩⟩:=r
 refine Vv (V.nck z)<|Vv (V.fa fdguest2_231_1 z)<|Vv (V.ldf (k:=2) shguest2_229 z e z)<|Mv z ?_
 obtain ⟨⟨Y,Z⟩,t,H⟩:=bnd H
 obtain ⟨_,u,rfl⟩:=Mp.look (zc:=[.int .i64 (0:Int)]) (agg:=false) Tryz.underlying229 (KeyOK.str Tryz.underlying9) zeguest2_3 (show (VI .i64) c [.int .i64 (0:Int)] (0:Int) from rfl) s t
 refine Vv (V.lkF z z u)<|Mv z<|Vv (V.ext z z)<|Vv (V.ext z z)<|Ag z<|Ag z<|Nt<|Sq<|Sr<|Mv z<|Vv (V.not z)<|Nt<|T.cH H z (fun H=>?_) (fun H=>?_)
 ·exact dead H
 refine T.skip<|Th<|Sr<|Mv z<|Vv (V.nck z)<|Vv (V.fa fdguest2_231_0 z)<|Vv (V.fa fdguest2_228_0 z)<|Vv (V.ldf (k:=0) shguest2_23 z e z)<|Mv z ?_
 obtain ⟨a,g,H⟩:=bnd H
 obtain ⟨aa,w,⟨i,rfl,x⟩⟩:=Slc.at f g
 refine Vv (V.ix elguest2_23 rfl rfl f (getI_bd g))<|Vv (V.ldS rfl w (by exact shguest2_35)) ?_
 obtain ⟨b,y,H⟩:=bnd H
 refine To (O.callS z (guest_copiedR_ok (show VapiGuest c [.string a.fName,.string a.fRank,.string a.fCourt,.int .i64 a.fSince,.int .i64 a.fSide,.string a.fDiet,.bool a.fHost,.bool a.fAccess,i] a from ⟨i,z,x⟩) y _) z fun ab ac ad A B=>?_)
 obtain ⟨m,C,rfl,D,E⟩:=B
 refine Sl_ _ D<|T.rowOne 0 rfl fun G ae=>To (O.stF (vs:=[.string b.fName,.string b.fRank,.string b.fCourt,.int .i64 b.fSince,.int .i64 b.fSide,.string b.fDiet,.bool b.fHost,.bool b.fAccess,m]) shguest2_35 rfl rfl (j:=1) rfl rfl (by (simp only [Sl.ones,G,Bool.and_true,Bool.true_and]) <;> rfl) rfl ?_)
 refine Ag z<|Nt<|T.ret ?_
 obtain ⟨rfl,rfl⟩:=inj2 H
 have I:=(d.trans A)
 exact T.retD (L':=rowR 9 1 m C::L) Tryz.results164 (RVs.cons (RV.cellS z (j:=0) z shguest2_35) (Rv z)) I (fun _ iv=>iv.drop) ⟨_,_,z,z,E⟩
theorem Book_Common1_ok {h:PH} {t1:ByteArray} {pp1:Addr} {pc1:List Value} {t2:apiGuest} (pa1:AtC h pp1 pc1) (pr1:VapiGuest h pc1 t2) {r_0:Bool} (H:Book_Common1 t1 t2 = some r_0):∀ L,FnS Tryz.prog 166 [.string t1,.pointer (some pp1)] h (L) (fun v h' L'=>v = .bool r_0∧L' = L):=by
 intro L
 exact dead H
theorem Book_Common_ok {h:PH} {pv0:Value} {b1:guestBook} (pr0:Pt VguestBook h pv0 b1) {one2:ByteArray} {other3:ByteArray} {r_0:List ByteArray} (H:Book_Common b1 one2 other3 = some r_0):∀ L,FnS Tryz.prog 84 [pv0,.string one2,.string other3] h (L) (fun v h' L'=>∃ cs0,L' = rowR 9 1 v cs0::L∧RowF VS h' cs0 r_0):=by
 intro L
 refine FnS.enter Tryz.func84 z Tryz.ntmps84 z<|Sr<|Ag z<|Nt<|Sr<|Mv z<|Mv z ?_
 obtain ⟨⟨b,ab⟩,o,H⟩:=bnd H
 refine To (O.callS z (Book_Find_ok pr0 o _) z fun ac ad ae f p=>?_)
 obtain ⟨q,af,rfl,r,s⟩:=p
 refine Sl_ _ r<|Mv z<|Vv (V.ext rfl rfl)<|Vv (V.ext rfl rfl)<|To (O.alloc zeguest2_35 rfl rfl fun ag=>T.rowOne 1 rfl fun t ai=>To (O.stF (vs:=[.string b.fName,.string b.fRank,.string b.fCourt,.int .i64 b.fSince,.int .i64 b.fSide,.string b.fDiet,.bool b.fHost,.bool b.fAccess,q]) shguest2_35 rfl rfl (j:=0) rfl rfl (by (simp only [Sl.ones,t,Bool.and_true,Bool.true_and]) <;> rfl) rfl ?_))
 refine Ag z<|Nt<|Sr<|Mv z<|Mv z<|have u:=Pt.mono VguestBook.mono pr0 f; ?_
 obtain ⟨⟨a,aj⟩,w,H⟩:=bnd H
 refine To (O.callS z (Book_Find_ok u w _) z fun ak am an g x=>?_)
 obtain ⟨c,ao,rfl,y,A⟩:=x
 refine Sl_ _ y<|Mv z<|Vv (V.ext z z)<|Vv (V.ext z z)<|To (O.alloc zeguest2_35 z z fun i=>Fr_ 1 z<|T.fl ?_)
 refine T.rowFix fun ap d B=>have C:=RowF.mono VS.mono A d; have m:=RowF.slc B C; To (O.stF (vs:=[.string a.fName,.string a.fRank,.string a.fCourt,.int .i64 a.fSince,.int .i64 a.fSide,.string a.fDiet,.bool a.fHost,.bool a.fAccess,c]) shguest2_35 rfl rfl (j:=0) rfl rfl (by (simp only [Sl.ones,Slc.one m,Bool.and_true,Bool.true_and]) <;> rfl) rfl ?_)
 refine T.fl ?_
 refine T.freeze fun D e E=>have G:=AtC.of E; Ag z<|Nt<|Sq<|Sr<|Mv z<|Vv (V.not z)<|Mv z<|T.bH 25 H z (fun H=>?_) (fun H=>?_)
 ·exact dead H
 refine Mv z<|Vv (V.not z)<|Vv (V.pkF z z)<|Nt<|T.cH H z (fun H=>?_) (fun H=>?_)
 ·exact dead H
 refine T.skip<|Th<|Sr<|Vv (V.fa fdguest2_35_8 z)<|Vv (V.ldO (k:=8) shguest2_33 z (j:=0) z z)<|Vv (V.mkf z z)<|have I:=((g.trans d).trans e); have J:=RowF.mono VS.mono s I; have K:=Slc.mono VS.mono m e; Fr_ 1 z ?_
 obtain ⟨aq,M,H⟩:=bnd H
 refine To (O.callS z (sl_DeleteFuncStr_ok J (show CF225 D (.func (.func 166) #[] #[.pointer (some ⟨i,0,none⟩)]) (fun N=>Book_Common1 N (apiGuest.mk a.fName a.fRank a.fCourt a.fSince a.fSide a.fDiet a.fHost a.fAccess a.fTongues)) from ⟨⟨z,z⟩,.inr ⟨166,[],[.pointer (some ⟨i,0,none⟩)],z,fun P n ar au S U=>Book_Common1_ok (G.mono n) (show VapiGuest P [.string a.fName,.string a.fRank,.string a.fCourt,.int .i64 a.fSince,.int .i64 a.fSide,.string a.fDiet,.bool a.fHost,.bool a.fAccess,c] (apiGuest.mk a.fName a.fRank a.fCourt a.fSince a.fSide a.fDiet a.fHost a.fAccess a.fTongues) from ⟨c,z,(Slc.mono VS.mono K n)⟩) S U⟩⟩) M _) z fun aw ax ay W X=>?_)
 obtain ⟨aA,Y,Z⟩:=X
 refine Sl_ _ Y<|Ag z<|Nt<|T.ret<|Fr_ 1 z<|T.drop ?_
 obtain rfl:=Option.some.inj H
 have aa:=((((f.trans g).trans d).trans e).trans W)
 exact T.retL Tryz.results84 (Rv z) aa ⟨_,z,Z⟩
theorem Book_Tied_ok {h:PH} {pv0:Value} {b1:guestBook} (pr0:Pt VguestBook h pv0 b1) {one2:ByteArray} {other3:ByteArray} {r_0:Int} {r_1:Bool} (H:Book_Tied b1 one2 other3 = some (r_0,r_1)):∀ L,FnS Tryz.prog 85 [pv0,.string one2,.string other3] h (L) (fun v h' L'=>v = .tuple #[.int .u8 r_0,.bool r_1]∧L' = L):=by
 intro L
 refine FnS.enter Tryz.func85 z Tryz.ntmps85 z<|Sr<|Ag z<|Ag z<|Nt<|Sq<|Sr<|Mv z ?_
 obtain ⟨u,f,H⟩:=bnd H
 refine To (O.callS z (Book_none_ok pr0 f _) z fun w x y a g=>?_)
 obtain ⟨rfl,i⟩:=g
 refine Sl_ _ i<|Nt<|T.cH H z (fun H=>?_) (fun H=>?_)
 ·exact dead H
 refine T.skip<|Th<|Sr<|Mv z<|Mv z<|Mv z<|have c:=Pt.mono VguestBook.mono pr0 a; ?_
 obtain ⟨⟨A,B⟩,j,H⟩:=bnd H
 refine To (O.callS z (Book_place_ok c j _) z fun C D E b m=>?_)
 obtain ⟨rfl,n⟩:=m
 refine Sl_ _ n<|Mv z<|Vv (V.ext z z)<|Vv (V.ext z z)<|Ag z<|Ag z<|Nt<|Sq<|Sr<|Mv z<|Vv (V.not z)<|Nt<|T.cH H z (fun H=>?_) (fun H=>?_)
 ·refine Sr<|Ag z<|Ag z<|Nt<|T.ret<|Tr ?_
  obtain ⟨rfl,rfl⟩:=inj2 H
  have o:=(a.trans b)
  exact T.retL Tryz.results85 (RVs.cons (RV.tmp z) (Rv z)) o ⟨z,z⟩
 refine T.skip<|Th<|Sr<|Mv z<|have p:=Pt.mono VguestBook.mono c b; have q:=p; ?_
 obtain ⟨G,_,rfl,r,⟨I,J,K,rfl,M,d,N⟩⟩:=q
 refine Vv (V.nck z)<|Vv (V.fa fdguest2_231_0 z)<|Vv (V.fa fdguest2_228_1 z)<|Vv (V.ldf (k:=1) shguest2_24 z r z)<|Mv z ?_
 obtain ⟨P,e,H⟩:=bnd H
 obtain ⟨S,s,rfl⟩:=Slc.at d e
 refine Vv (V.ix elguest2_24 z z d (getI_bd e))<|Vv (V.fa fdguest2_164_2 z)<|Vv (V.ldf (k:=2) shguest2_146 z s z)<|Ag z<|Ag z<|Nt<|T.ret ?_
 obtain ⟨rfl,rfl⟩:=inj2 H
 have t:=(a.trans b)
 exact T.retL Tryz.results85 (RVs.cons (RV.tmp z) (Rv z)) t ⟨z,z⟩
end Go.Proofs.X
open Go Go.Proofs Go.Sl Go.Dm
namespace Go.Proofs.X
theorem rulemixed : Tryz.prog.follows .mixedOrders = true := by kernel_rfl
theorem elrule_107 : elSh Tryz.prog 107 = some (137, 1, 8) := by kernel_rfl
theorem elrule_22 : elSh Tryz.prog 22 = some (31, 7, 80) := by kernel_rfl
theorem elrule_23 : elSh Tryz.prog 23 = some (35, 9, 112) := by kernel_rfl
theorem elrule_25 : elSh Tryz.prog 25 = some (3, 1, 8) := by kernel_rfl
theorem fdrule_103_0 : fldOf Tryz.prog 103 0 = some 0 := by kernel_rfl
theorem fdrule_111_0 : fldOf Tryz.prog 111 0 = some 0 := by kernel_rfl
theorem fdrule_111_2 : fldOf Tryz.prog 111 2 = some 6 := by kernel_rfl
theorem fdrule_111_7 : fldOf Tryz.prog 111 7 = some 11 := by kernel_rfl
theorem fdrule_207_0 : fldOf Tryz.prog 207 0 = some 0 := by kernel_rfl
theorem fdrule_207_1 : fldOf Tryz.prog 207 1 = some 1 := by kernel_rfl
theorem fdrule_28_0 : fldOf Tryz.prog 28 0 = some 0 := by kernel_rfl
theorem fdrule_28_1 : fldOf Tryz.prog 28 1 = some 1 := by kernel_rfl
theorem fdrule_28_2 : fldOf Tryz.prog 28 2 = some 2 := by kernel_rfl
theorem fdrule_28_3 : fldOf Tryz.prog 28 3 = some 3 := by kernel_rfl
theorem fdrule_28_4 : fldOf Tryz.prog 28 4 = some 4 := by kernel_rfl
theorem fdrule_31_0 : fldOf Tryz.prog 31 0 = some 0 := by kernel_rfl
theorem fdrule_31_4 : fldOf Tryz.prog 31 4 = some 4 := by kernel_rfl
theorem fdrule_35_0 : fldOf Tryz.prog 35 0 = some 0 := by kernel_rfl
theorem fdrule_35_8 : fldOf Tryz.prog 35 8 = some 8 := by kernel_rfl
theorem fdrule_39_2 : fldOf Tryz.prog 39 2 = some 2 := by kernel_rfl
theorem fdrule_39_3 : fldOf Tryz.prog 39 3 = some 3 := by kernel_rfl
theorem fdrule_39_4 : fldOf Tryz.prog 39 4 = some 4 := by kernel_rfl
theorem fdrule_39_5 : fldOf Tryz.prog 39 5 = some 5 := by kernel_rfl
theorem shrule_103 : tySh Tryz.prog 103 = some (true, 5) := by kernel_rfl
theorem shrule_107 : tySh Tryz.prog 107 = some (false, 1) := by kernel_rfl
theorem shrule_137 : tySh Tryz.prog 137 = some (false, 1) := by kernel_rfl
theorem shrule_22 : tySh Tryz.prog 22 = some (false, 1) := by kernel_rfl
theorem shrule_23 : tySh Tryz.prog 23 = some (false, 1) := by kernel_rfl
theorem shrule_24 : tySh Tryz.prog 24 = some (false, 1) := by kernel_rfl
theorem shrule_25 : tySh Tryz.prog 25 = some (false, 1) := by kernel_rfl
theorem shrule_26 : tySh Tryz.prog 26 = some (false, 1) := by kernel_rfl
theorem shrule_28 : tySh Tryz.prog 28 = some (true, 5) := by kernel_rfl
theorem shrule_3 : tySh Tryz.prog 3 = some (false, 1) := by kernel_rfl
theorem shrule_33 : tySh Tryz.prog 33 = some (false, 1) := by kernel_rfl
theorem shrule_39 : tySh Tryz.prog 39 = some (true, 6) := by kernel_rfl
theorem shrule_67 : tySh Tryz.prog 67 = some (false, 1) := by kernel_rfl
theorem shrule_9 : tySh Tryz.prog 9 = some (false, 1) := by kernel_rfl
theorem zerule_28 : zer Tryz.prog 28 = some (.agg #[.slice none 0 0, .slice none 0 0, .slice none 0 0, .slice none 0 0, .slice none 0 0]) := by kernel_rfl
theorem zerule_3 : zer Tryz.prog 3 = some (.int .i64 (0)) := by kernel_rfl
theorem rule_who_1_ok {h:PH} {pc0:List Value} {g1:apiGuest} (pr0:VapiGuest h pc0 g1) {pp1:Addr} {pc1:List Value} {t4:ByteArray} (pa1:AtC h pp1 pc1) (pr1:VS h pc1 t4) {r_0:Bool} (H:rule_who_1 g1 t4 = some r_0):∀ L,FnS Tryz.prog 306 [.agg pc0.toArray,.pointer (some pp1)] h (L) (fun v h' L'=>v = .bool r_0∧L' = L):=by
 intro L
 obtain ⟨d,rfl,e⟩:=pr0
 obtain rfl:=pr1
 refine FnS.enter Tryz.func306 z Tryz.ntmps306 z<|Sr<|To (O.boxF z z z fun f g a b=>Ag z<|Nt<|Sr<|Vv (V.fa fdrule_35_0 z)<|Vv (V.ldf (k:=0) shrule_9 z b z)<|have c:=pa1.mono a; Vv (V.ld0 shrule_9 z c z)<|Vv (V.seq z z)<|Ag z<|Nt<|T.ret ?_)
 obtain rfl:=Option.some.inj H
 exact T.retL Tryz.results306 (Rv z) a ⟨z,z⟩
theorem rule_who_ok {h:PH} {pc0:List Value} {p1:apiProblem} (pr0:VapiProblem h pc0 p1) {name12:ByteArray} {r_0:Int} (H:rule_who p1 name12 = some r_0):∀ L,FnS Tryz.prog 229 [.agg pc0.toArray,.string name12] h (L) (fun v h' L'=>v = .int .i64 r_0∧L' = L):=by
 intro L
 obtain ⟨A,B,C,D,E,rfl,G,d,I,J,K⟩:=pr0
 refine FnS.enter Tryz.func229 z Tryz.ntmps229 z<|Sr<|To (O.boxF z z z fun M N e f=>To (O.boxF z z z fun a g b i=>Ag z<|Nt<|Sr<|Vv (V.fa fdrule_28_1 z)<|have j:=f.mono b; Vv (V.ldf (k:=1) shrule_23 z j z)<|Vv (V.mkf z z)<|have c:=(e.trans b); have m:=Slc.mono VapiGuest.mono d c; ?_))
 obtain ⟨P,n,H⟩:=bnd H
 refine To (O.callS z (sl_IndexFuncGuest_ok m (show CF233 g (.func (.func 306) #[] #[.pointer (some ⟨a,0,none⟩)]) (fun o=>rule_who_1 o name12) from ⟨⟨z,z⟩,.inr ⟨306,[],[.pointer (some ⟨a,0,none⟩)],z,fun p q S U r W s t=>rule_who_1_ok r (i.mono q) (show VS p [.string name12] name12 from z) s t⟩⟩) n _) z fun X Y Z u w=>?_)
 obtain ⟨rfl,x⟩:=w
 refine Sl_ _ x<|Ag z<|Nt<|T.ret ?_
 obtain rfl:=Option.some.inj H
 have y:=(c.trans u)
 exact T.retL Tryz.results229 (Rv z) y ⟨z,z⟩
theorem rule_seats_ok {h:PH} {first1:Int} {n2:Int} {pv2:Value} {so3:Int→Option Bool} (pr2:CF130 h pv2 so3) {r_0:List Int} (H:rule_seats first1 n2 so3 = some r_0):∀ L,FnS Tryz.prog 77 [.int .i64 first1,.int .i64 n2,pv2] h (L) (fun v h' L'=>∃ cs0,L' = rowR 3 1 v cs0::L∧RowF (VI .i64) h' cs0 r_0):=by
 intro L
 refine FnS.enter Tryz.func77 z Tryz.ntmps77 z<|Sr<|Ag z<|Nt<|Sr<|Ag z<|Nt<|Sq<|Sr<|Mv z<|Ag z<|Nt ?_
 obtain ⟨r,y,A⟩:=bndK H
 refine T.cutK (α:=(List Int)×Value×(List (List Value))) [] z (fun ⟨k,f,g⟩=>[(7,f)]) (fun ⟨k,f,g⟩=>rowR 3 1 f g::L) (fun ⟨k,f,g⟩ hh=>r = k∧RowF (VI .i64) hh g k) ?_ ?_
 ·have H:=y
  refine Bl<|T.rowNil 3 1<|have B:RowF (VI .i64) h [] ([]:List Int):=RowF.nil; T.loopK (α:=Nat×(List Int)×Int×Value×(List (List Value))) [0,1,2] z (fun ⟨i,d,b,c,a⟩=>[(7,c),(8,.int .i64 b)]) (fun ⟨i,d,b,c,a⟩=>rowR 3 1 c a::L) (fun ⟨i,d,b,c,a⟩ hh=>iter (rule_seats_l0 first1 n2 so3) i (d,b) = some r∧RowF (VI .i64) hh a d) (fun ⟨i,d,b,c,a⟩=>i) (FUEL,([]:List Int),first1,(.slice none 0 0),[]) ⟨z,z,trivial⟩ z ⟨H,B⟩ ?_
  rintro ⟨i,d,b,c,a⟩ ae m ⟨C,o⟩
  obtain ⟨s,af,rfl,H,p⟩:=iter_go C
  refine T.norm [7,8,0,1,2] z<|Sl_ (rowR 3 1 c a::L) z<|Sq<|Sr<|Mv z<|Mv z<|Mv z ?_
  obtain ⟨ag,D,H⟩:=bnd H
  refine Vv (V.addS z z D)<|Vv (V.lt z z)<|Nt<|T.cH H z (fun H=>?_) (fun H=>?_)
  ·refine T.skip<|Th<|Sq<|Bl<|Sr<|Mv z<|Mv z ?_
   obtain ⟨ai,E,H⟩:=bnd H
   have G:=CF130.mono pr2 m
   obtain ⟨aj,ak,am,I,J⟩:=CF130.call G E
   refine To (O.callfW z I z (J _) z fun an t ao n K=>?_)
   obtain ⟨rfl,M⟩:=K
   refine Sl_ _ M<|Nt<|T.cH H z (fun H=>?_) (fun H=>?_)
   ·refine Rg<|Mv z<|Mv z<|To (O.bs elrule_25 zerule_3 z (e:=z) (hk:=z) (xs:=[.tmp 21]) (hv:=CO.eq (CO.cons z CO.nil)) (hw:=Wide.of z) (hd:=z) fun aq=>have q:RowF (VI .i64) t [[.int .i64 b]] ([b]:List Int):=(RowF.cons z RowF.nil); ?_)
    obtain ⟨u,w,H⟩:=bnd H
    have x:=RowF.mono VI.mono o n
    refine To (O.apX elrule_25 elrule_25 zerule_3 z z z (j:=1) z (Src.row (j:=0) z) (Wide.of z) (RowF.ones VI.plain q) x q w z fun N ar au=>have P:RowF (VI .i64) t (a ++ [[.int .i64 b]]) u:=RowF.ap x q w; Fr_ 1 z<|T.drop<|Ag z<|Ni<|Bn<|Th<|Rg<|Mv z ?_)
    obtain ⟨S,U,H⟩:=bnd H
    refine Vv (V.addS z z U)<|Ag z<|Nt<|have W:=(m.trans n); T.again (s,u,S,N,(a ++ [[.int .i64 b]])) W (Nat.lt_succ_self _) ⟨(iterK_in H p),P⟩ (AllIn.app ⟨z,z,trivial⟩ ⟨z,z,z,trivial⟩) z
   refine T.skip<|Bn<|Th<|Rg<|Mv z ?_
   obtain ⟨X,Y,H⟩:=bnd H
   refine Vv (V.addS z z Y)<|Ag z<|Nt<|have Z:=RowF.mono VI.mono o n; have aa:=(m.trans n); T.again (s,d,X,c,a) aa (Nat.lt_succ_self _) ⟨(iterK_in H p),Z⟩ (AllIn.app ⟨z,z,trivial⟩ ⟨z,z,z,trivial⟩) z
  refine T.exit<|Te<|Te<|have H:=iterK_out H p; Be<|Th<|T.met (d,c,a) m ⟨H,o⟩ (AllIn.app ⟨z,trivial⟩ trivial) z
 rintro ⟨k,f,g⟩ aw ab ⟨ac,ad⟩
 have H:=cutE ac A
 refine T.norm [7] z<|Sl_ (rowR 3 1 f g::L) z<|Sr<|Mv z<|Ag z<|Nt<|T.ret ?_
 obtain rfl:=Option.some.inj H
 exact T.retL Tryz.results77 (Rv z) ab ⟨_,z,ad⟩
theorem rule_copied_ok {h:PH} {pc0:List Value} {p1:apiProblem} (pr0:VapiProblem h pc0 p1) {r_0:apiProblem} (H:rule_copied p1 = some r_0):∀ L,FnS Tryz.prog 57 [.agg pc0.toArray] h (L) (fun v h' L'=>∃ v0_1 v0_3 v0_5 v0_7 v0_9,v = .agg #[v0_1,v0_3,v0_5,v0_7,v0_9]∧L' = L∧Slc VapiTable 7 h' v0_1 r_0.fTables∧Slc VapiGuest 9 h' v0_3 r_0.fGuests∧Slc VapiTie 3 h' v0_5 r_0.fTies∧Slc (VI .i64) 1 h' v0_7 r_0.fClass∧Slc VapiRule 6 h' v0_9 r_0.fRules):=by
 intro L
 obtain ⟨c8,X,n,o,p,rfl,a3,a4,a5,a6,a7⟩:=pr0
 refine FnS.enter Tryz.func57 z Tryz.ntmps57 z<|Sr<|To (O.box z z z fun q=>To (O.alloc zerule_28 z z fun r=>Nt<|Sr<|Vv (V.fa fdrule_28_0 z)<|Vv (V.ldO (k:=0) shrule_22 z (j:=1) z z) ?_))
 obtain ⟨an,a8,H⟩:=bnd H
 refine To (O.callS z (sl_CloneTable_ok a3 a8 _) z fun c c9 ch a9 ah=>?_)
 obtain ⟨al,av,ao⟩:=ah
 refine Sl_ _ av<|Vv (V.fa fdrule_28_0 rfl)<|T.rowOne 0 rfl fun az ba=>To (O.st (vs:=[c]) (k:=0) shrule_22 rfl rfl (j:=2) rfl ba (by (simp only [Sl.ones,az,Bool.and_true,Bool.true_and]) <;> rfl) ?_)
 refine T.fl ?_
 refine Nt<|Sq<|Sr<|Vv (V.fa fdrule_28_0 z)<|Vv (V.ldO (k:=0) shrule_22 z (j:=0) z z)<|Vv (V.lenX elrule_22 z (j:=1) z ao.len)<|Mv z<|Nt ?_
 obtain ⟨ap,bb,bc⟩:=bndK H
 refine T.cutK (α:=(List apiTable)×(List (List Value))) [1,2] z (fun ⟨S,d⟩=>[]) (fun ⟨S,d⟩=>blk q (.cells [c,X,n,o,p].toArray 28)::blk r (.cells [.slice none 0 0,.slice none 0 0,.slice none 0 0,.slice none 0 0,.slice none 0 0].toArray 28)::rowR 31 7 c d::L) (fun ⟨S,d⟩ hh=>ap = S∧RowF VapiTable hh d S) ?_ ?_
 ·have H:=bb
  refine Bl<|Fr_ 1 z<|T.fl ?_
  refine Fr_ 2 z<|T.fl ?_
  refine Fr_ 2 z<|T.fl ?_
  refine T.loopK (α:=Nat×(List apiTable)×Int×(List (List Value))) [1,2,11] z (fun ⟨A,w,s,e⟩=>[(12,.int .i64 s)]) (fun ⟨A,w,s,e⟩=>blk q (.cells [c,X,n,o,p].toArray 28)::blk r (.cells [.slice none 0 0,.slice none 0 0,.slice none 0 0,.slice none 0 0,.slice none 0 0].toArray 28)::rowR 31 7 c e::L) (fun ⟨A,w,s,e⟩ hh=>iter (rule_copied_l0 an) A (w,s) = some ap∧RowF VapiTable hh e w) (fun ⟨A,w,s,e⟩=>A) (FUEL,an,(0:Int),al) ⟨z,trivial⟩ z ⟨H,ao⟩ ?_
  rintro ⟨A,w,s,e⟩ cl aq ⟨be,Y⟩
  obtain ⟨bf,cv,rfl,H,ar⟩:=iter_go be
  refine T.norm [12,1,2,11] z<|Sl_ (blk q (.cells [c,X,n,o,p].toArray 28)::blk r (.cells [.slice none 0 0,.slice none 0 0,.slice none 0 0,.slice none 0 0,.slice none 0 0].toArray 28)::rowR 31 7 c e::L) z<|Sr<|Vv (V.lt z z)<|Nt<|Sq<|T.cH H z (fun H=>?_) (fun H=>?_)
  ·refine T.skip<|Th<|Sq<|Bl<|Sr<|Mv z<|Ag z<|Nt<|Fr_ 2 z<|T.fl ?_
   refine Fr_ 1 z<|T.fl ?_
   refine T.drawF (t:=(.v 0 (.v 1 (.v 2 (.v 3 (.v 4 (.v 5 (.x 6 (.v 7 (.x 8 (.alt 9 (.g (.alt 10 (.v 11 (.alt 12 .done .no)) .no)) .no))))))))))) 12 2 1 rfl rfl rulemixed (by kernel_rfl) ?_
   refine Tv z (V.fa fdrule_28_0 z)<|Tv z (Val.XA fun _ _ _=>V.ldO (k:=0) shrule_22 z (j:=0) z z)<|Tm z z<|Tv z (V.fa fdrule_28_0 z)<|Tv z (Val.XA fun _ _ _=>V.ldO (k:=0) shrule_22 z (j:=0) z z)<|Tm z z ?_
   obtain ⟨cz,au,H⟩:=bnd H
   obtain ⟨da,bg,⟨db,rfl,bi⟩⟩:=RowF.get Y au
   refine T.tx z z (Val.XA fun _ _ _=>V.ixR elrule_22 z z (j:=1) z (RowF.bd Y au)) z Calm.i<|Tv z (V.fa fdrule_31_4 z)<|T.tx z z (Val.XA fun _ _ _=>V.ldXk (k:=4) shrule_25 z (j:=1) z bg z) z Calm.i ?_
   obtain ⟨bj,bk,H⟩:=bnd H
   refine Tp z z (SX.two (XA.fr [0] Lr z) (XA.fr [1,1] Lr z)) (O.callS z (sl_CloneInt_ok bi bk _) z fun Z dc dd ad bm=>?_) T.tno
   obtain ⟨de,bn,bo⟩:=bm
   refine Sl_ _ bn<|T.tgrow ad ?_
   obtain ⟨b,aw,H⟩:=bnd H
   have ae:=RowF.mono VapiTable.mono Y ad
   obtain ⟨df,bp,⟨af,rfl,dg⟩⟩:=RowF.get ae aw
   refine Ts z z (SX.two (XA.fr [1] Lr z) (XA.fr [2,2] Lr z)) (V.ixR elrule_22 z z (j:=2) z (RowF.bd ae aw)) z ?_ T.tno
   refine Tv z (V.fa fdrule_31_4 z)<|T.rowFix fun ax B bq=>have br:=RowF.mono VI.mono bo B; have ag:=RowF.slc bq br; ?_
   obtain ⟨ay,bs,H⟩:=bnd H
   refine Tp z z (SX.two (XA.fr [0] B rfl) (XA.fr [1,1] B rfl)) (O.stXk (k:=4) shrule_25 rfl rfl (j:=1) rfl (Slc.cells ag) (by (simp only [Sl.ones,Slc.one ag,Bool.and_true,Bool.true_and]) <;> rfl) rfl bp ?_) T.tno
   have bt:=RowF.mono VapiTable.mono ae B
   have bu:RowF VapiTable ax (e.set s.toNat (over [.string b.fName,.int .u8 b.fShape,.int .i64 b.fA,.int .i64 b.fB,af,.int .i64 b.fX,.int .i64 b.fY] [Z] 4)) ay:=RowF.set bt (show VapiTable ax (over [.string b.fName,.int .u8 b.fShape,.int .i64 b.fA,.int .i64 b.fB,af,.int .i64 b.fX,.int .i64 b.fY] [Z] 4) (apiTable.mk b.fName b.fShape b.fA b.fB bj b.fX b.fY) from ⟨Z,z,ag⟩) bs
   refine T.tnil (SX.one (XA.fr [1] B z) z)<|Bn<|Th<|Rg ?_
   obtain ⟨bw,bx,H⟩:=bnd H
   refine Vv (V.addS z z bx)<|Mv z<|Nt<|Fr_ 2 z<|T.fl ?_
   refine Fr_ 2 z<|T.fl ?_
   have bA:=((aq.trans ad).trans B)
   exact T.again (bf,ay,bw,(e.set s.toNat (over [.string b.fName,.int .u8 b.fShape,.int .i64 b.fA,.int .i64 b.fB,af,.int .i64 b.fX,.int .i64 b.fY] [Z] 4))) bA (Nat.lt_succ_self _) ⟨(iterK_in H ar),bu⟩ (AllIn.app ⟨z,trivial⟩ ⟨z,z,z,trivial⟩) z
  refine T.exit<|Te<|Te<|have H:=iterK_out H ar; Be<|Th<|T.met (w,e) aq ⟨H,Y⟩ (AllIn.app trivial ⟨z,z,trivial⟩) z
 rintro ⟨S,d⟩ di bB ⟨bC,bD⟩
 have H:=cutE bC bc
 refine T.norm [1,2] z<|Sl_ (blk q (.cells [c,X,n,o,p].toArray 28)::blk r (.cells [.slice none 0 0,.slice none 0 0,.slice none 0 0,.slice none 0 0,.slice none 0 0].toArray 28)::rowR 31 7 c d::L) z<|Sr<|Vv (V.fa fdrule_28_1 z)<|Vv (V.ldO (k:=1) shrule_23 z (j:=0) z z)<|have aA:=(a9.trans bB); have bE:=Slc.mono VapiGuest.mono a4 aA; ?_
 obtain ⟨aB,bG,H⟩:=bnd H
 refine To (O.callS z (sl_CloneGuest_ok bE bG _) z fun f dj dk aC bI=>?_)
 obtain ⟨bJ,bK,aD⟩:=bI
 refine Sl_ _ bK<|Vv (V.fa fdrule_28_1 rfl)<|T.rowOne 0 rfl fun bM bN=>To (O.st (vs:=[f]) (k:=1) shrule_23 rfl rfl (j:=1) rfl bN (by (simp only [Sl.ones,bM,Bool.and_true,Bool.true_and]) <;> rfl) ?_)
 refine T.fl ?_
 refine Nt<|Sq<|Sr<|Vv (V.fa fdrule_28_1 z)<|Vv (V.ldO (k:=1) shrule_23 z (j:=0) z z)<|Vv (V.lenX elrule_23 z (j:=1) z aD.len)<|Mv z<|Nt ?_
 obtain ⟨aE,bO,bP⟩:=bndK H
 refine T.cutK (α:=(List apiGuest)×(List (List Value))) [1,2] z (fun ⟨U,C⟩=>[]) (fun ⟨U,C⟩=>blk q (.cells [c,f,n,o,p].toArray 28)::blk r (.cells [.slice none 0 0,.slice none 0 0,.slice none 0 0,.slice none 0 0,.slice none 0 0].toArray 28)::rowR 31 7 c d::rowR 35 9 f C::L) (fun ⟨U,C⟩ hh=>aE = U∧RowF VapiGuest hh C U) ?_ ?_
 ·have H:=bO
  refine Bl<|Fr_ 1 z<|T.fl ?_
  refine Fr_ 3 z<|T.fl ?_
  refine Fr_ 3 z<|T.fl ?_
  refine Fr_ 3 z<|T.fl ?_
  refine T.loopK (α:=Nat×(List apiGuest)×Int×(List (List Value))) [1,2,34] z (fun ⟨D,y,u,m⟩=>[(35,.int .i64 u)]) (fun ⟨D,y,u,m⟩=>blk q (.cells [c,f,n,o,p].toArray 28)::blk r (.cells [.slice none 0 0,.slice none 0 0,.slice none 0 0,.slice none 0 0,.slice none 0 0].toArray 28)::rowR 31 7 c d::rowR 35 9 f m::L) (fun ⟨D,y,u,m⟩ hh=>iter (rule_copied_l1 aB) D (y,u) = some aE∧RowF VapiGuest hh m y) (fun ⟨D,y,u,m⟩=>D) (FUEL,aB,(0:Int),bJ) ⟨z,trivial⟩ z ⟨H,aD⟩ ?_
  rintro ⟨D,y,u,m⟩ dm aG ⟨bS,aa⟩
  obtain ⟨bU,dn,rfl,H,aI⟩:=iter_go bS
  refine T.norm [35,1,2,34] z<|Sl_ (blk q (.cells [c,f,n,o,p].toArray 28)::blk r (.cells [.slice none 0 0,.slice none 0 0,.slice none 0 0,.slice none 0 0,.slice none 0 0].toArray 28)::rowR 31 7 c d::rowR 35 9 f m::L) z<|Sr<|Vv (V.lt z z)<|Nt<|Sq<|T.cH H z (fun H=>?_) (fun H=>?_)
  ·refine T.skip<|Th<|Sq<|Bl<|Sr<|Mv z<|Ag z<|Nt<|Fr_ 3 z<|T.fl ?_
   refine Fr_ 1 z<|T.fl ?_
   refine T.drawF (t:=(.v 0 (.v 1 (.v 2 (.v 3 (.v 4 (.v 5 (.x 6 (.v 7 (.x 8 (.alt 9 (.g (.alt 10 (.v 11 (.alt 12 .done .no)) .no)) .no))))))))))) 12 2 1 rfl rfl rulemixed (by kernel_rfl) ?_
   refine Tv z (V.fa fdrule_28_1 z)<|Tv z (Val.XA fun _ _ _=>V.ldO (k:=1) shrule_23 z (j:=0) z z)<|Tm z z<|Tv z (V.fa fdrule_28_1 z)<|Tv z (Val.XA fun _ _ _=>V.ldO (k:=1) shrule_23 z (j:=0) z z)<|Tm z z ?_
   obtain ⟨dp,aJ,H⟩:=bnd H
   obtain ⟨dq,bV,⟨dr,rfl,bW⟩⟩:=RowF.get aa aJ
   refine T.tx z z (Val.XA fun _ _ _=>V.ixR elrule_23 z z (j:=1) z (RowF.bd aa aJ)) z Calm.i<|Tv z (V.fa fdrule_35_8 z)<|T.tx z z (Val.XA fun _ _ _=>V.ldXk (k:=8) shrule_33 z (j:=1) z bV z) z Calm.i ?_
   obtain ⟨bX,bY,H⟩:=bnd H
   refine Tp z z (SX.two (XA.fr [0] Lr z) (XA.fr [1,1] Lr z)) (O.callS z (sl_CloneStr_ok bW bY _) z fun ab ds dt ai bZ=>?_) T.tno
   obtain ⟨du,b0,b1⟩:=bZ
   refine Sl_ _ b0<|T.tgrow ai ?_
   obtain ⟨a,aK,H⟩:=bnd H
   have aj:=RowF.mono VapiGuest.mono aa ai
   obtain ⟨dw,b2,⟨ak,rfl,dx⟩⟩:=RowF.get aj aK
   refine Ts z z (SX.two (XA.fr [1] Lr z) (XA.fr [2,2] Lr z)) (V.ixR elrule_23 z z (j:=2) z (RowF.bd aj aK)) z ?_ T.tno
   refine Tv z (V.fa fdrule_35_8 z)<|T.rowFix fun aM E b3=>have b4:=RowF.mono VS.mono b1 E; have am:=RowF.slc b3 b4; ?_
   obtain ⟨aN,b5,H⟩:=bnd H
   refine Tp z z (SX.two (XA.fr [0] E rfl) (XA.fr [1,1] E rfl)) (O.stXk (k:=8) shrule_33 rfl rfl (j:=1) rfl (Slc.cells am) (by (simp only [Sl.ones,Slc.one am,Bool.and_true,Bool.true_and]) <;> rfl) rfl b2 ?_) T.tno
   have b6:=RowF.mono VapiGuest.mono aj E
   have b7:RowF VapiGuest aM (m.set u.toNat (over [.string a.fName,.string a.fRank,.string a.fCourt,.int .i64 a.fSince,.int .i64 a.fSide,.string a.fDiet,.bool a.fHost,.bool a.fAccess,ak] [ab] 8)) aN:=RowF.set b6 (show VapiGuest aM (over [.string a.fName,.string a.fRank,.string a.fCourt,.int .i64 a.fSince,.int .i64 a.fSide,.string a.fDiet,.bool a.fHost,.bool a.fAccess,ak] [ab] 8) (apiGuest.mk a.fName a.fRank a.fCourt a.fSince a.fSide a.fDiet a.fHost a.fAccess bX) from ⟨ab,z,am⟩) b5
   refine T.tnil (SX.one (XA.fr [1] E z) z)<|Bn<|Th<|Rg ?_
   obtain ⟨b8,b9,H⟩:=bnd H
   refine Vv (V.addS z z b9)<|Mv z<|Nt<|Fr_ 3 z<|T.fl ?_
   refine Fr_ 3 z<|T.fl ?_
   refine Fr_ 3 z<|T.fl ?_
   have bh:=((aG.trans ai).trans E)
   exact T.again (bU,aN,b8,(m.set u.toNat (over [.string a.fName,.string a.fRank,.string a.fCourt,.int .i64 a.fSince,.int .i64 a.fSide,.string a.fDiet,.bool a.fHost,.bool a.fAccess,ak] [ab] 8))) bh (Nat.lt_succ_self _) ⟨(iterK_in H aI),b7⟩ (AllIn.app ⟨z,trivial⟩ ⟨z,z,z,trivial⟩) z
  refine T.exit<|Te<|Te<|have H:=iterK_out H aI; Be<|Th<|T.met (y,m) aG ⟨H,aa⟩ (AllIn.app trivial ⟨z,z,trivial⟩) z
 rintro ⟨U,C⟩ dy aO ⟨bl,bv⟩
 have H:=cutE bl bP
 refine T.norm [1,2] rfl<|Sl_ (blk q (.cells [c,f,n,o,p].toArray 28)::blk r (.cells [.slice none 0 0,.slice none 0 0,.slice none 0 0,.slice none 0 0,.slice none 0 0].toArray 28)::rowR 31 7 c d::rowR 35 9 f C::L) rfl<|Sq<|T.drawF (t:=(.v 0 (.x 1 (.v 3 (.x 4 (.v 6 (.x 7 (.alt 2 (.g (.v 9 (.alt 5 (.g (.alt 8 (.g (.alt 10 (.g (.v 11 (.alt 12 (.g (.v 13 (.alt 14 .done .no))) .no))) .no)) .no)) .no))) .no)))))))) 10 1 0 rfl rfl rulemixed (by kernel_rfl) ?_
 refine Tv z (V.fa fdrule_28_2 z)<|T.tx z z (Val.XA fun _ _ _=>V.ldO (k:=2) shrule_24 z (j:=0) z z) z Calm.i<|Tv z (V.fa fdrule_28_3 z)<|T.tx z z (Val.XA fun _ _ _=>V.ldO (k:=3) shrule_25 z (j:=0) z z) z Calm.i<|Tv z (V.fa fdrule_28_4 z)<|T.tx z z (Val.XA fun _ _ _=>V.ldO (k:=4) shrule_26 z (j:=0) z z) z Calm.i<|have aP:=((aA.trans aC).trans aO); have bz:=Slc.mono VapiTie.mono a5 aP; ?_
 obtain ⟨dA,ca,H⟩:=bnd H
 refine Tp z z (SX.two (XA.fr [] Lr z) (XA.fr [0] Lr z)) (O.callS z (sl_CloneTie_ok bz ca _) z fun aS dB dC ac cb=>?_) T.tno
 obtain ⟨dD,cc,cd⟩:=cb
 refine Sl_ _ cc<|T.tgrow ac<|Tv z (V.fa fdrule_28_2 z)<|have aU:=(aP.trans ac); have ce:=Slc.mono VI.mono a6 aU; ?_
 obtain ⟨dE,cf,H⟩:=bnd H
 refine Tp z z (SX.two (XA.fr [] Lr z) (XA.fr [1] Lr z)) (O.callS z (sl_CloneInt_ok ce cf _) z fun aV dG dI W cg=>?_) T.tno
 obtain ⟨dJ,ci,cj⟩:=cg
 refine Sl_ _ ci<|T.tgrow W<|have aW:=(aU.trans W); have ck:=Slc.mono VapiRule.mono a7 aW; ?_
 obtain ⟨dK,cm,H⟩:=bnd H
 refine Tp z z (SX.two (XA.fr [] Lr z) (XA.fr [2] Lr z)) (O.callS z (sl_CloneRule_ok ck cm _) z fun aX dM dN G cn=>?_) T.tno
 obtain ⟨dO,co,cp⟩:=cn
 refine Sl_ _ co<|T.tgrow G<|T.rowOne 2 rfl fun cq cr=>Tp z z (SX.two (XA.fr [] Lr rfl) (XA.fr [3] Lr rfl)) (O.st (vs:=[aS]) (k:=2) shrule_24 rfl rfl (j:=3) rfl cr (by (simp only [Sl.ones,cq,Bool.and_true,Bool.true_and]) <;> rfl) ?_) T.tno
 refine T.fl ?_
 refine T.tgrow Lr<|Tv z (V.fa fdrule_28_3 rfl)<|T.rowOne 2 rfl fun cs ct=>Tp z z (SX.one (XA.fr [] Lr rfl) rfl) (O.st (vs:=[aV]) (k:=3) shrule_25 rfl rfl (j:=0) rfl ct (by (simp only [Sl.ones,cs,Bool.and_true,Bool.true_and]) <;> rfl) ?_) T.tno
 refine T.fl ?_
 refine T.tgrow Lr<|Tv z (V.fa fdrule_28_4 rfl)<|T.rowOne 1 rfl fun cu cw=>Tp z z (SX.one (XA.fr [] Lr rfl) rfl) (O.st (vs:=[aX]) (k:=4) shrule_26 rfl rfl (j:=0) rfl cw (by (simp only [Sl.ones,cu,Bool.and_true,Bool.true_and]) <;> rfl) ?_) T.tno
 refine T.fl ?_
 refine T.tnil (SX.one (XA.fr [] Lr rfl) rfl)<|Th<|Sr<|Vv (V.ldOS (j:=0) (by exact shrule_28) rfl rfl) ?_
 refine Fr_ 5 z<|T.fl ?_
 refine T.rowFix fun dP I cx=>have cy:=(((((aC.trans aO).trans ac).trans W).trans G).trans I); have cA:=RowF.mono VapiTable.mono bD cy; have cB:=RowF.slc cx cA; Fr_ 5 z<|T.fl ?_
 refine T.rowFix fun dS J cC=>have cD:=((((ac.trans W).trans G).trans I).trans J); have cE:=RowF.mono VapiGuest.mono bv cD; have cG:=RowF.slc cC cE; Fr_ 3 z<|T.fl ?_
 refine T.rowFix fun dU K cI=>have cJ:=((((W.trans G).trans I).trans J).trans K); have cK:=RowF.mono VapiTie.mono cd cJ; have cM:=RowF.slc cI cK; Fr_ 2 z<|T.fl ?_
 refine T.rowFix fun dV M cN=>have cO:=((((G.trans I).trans J).trans K).trans M); have cP:=RowF.mono VI.mono cj cO; have cS:=RowF.slc cN cP; Fr_ 1 z<|T.fl ?_
 refine T.rowFix fun dW N cU=>have cV:=((((I.trans J).trans K).trans M).trans N); have cW:=RowF.mono VapiRule.mono cp cV; have aY:=RowF.slc cU cW; have cX:=(((J.trans K).trans M).trans N); have aZ:=Slc.mono VapiTable.mono cB cX; have cY:=((K.trans M).trans N); have a0:=Slc.mono VapiGuest.mono cG cY; have cZ:=(M.trans N); have a1:=Slc.mono VapiTie.mono cM cZ; have a2:=Slc.mono VI.mono cS N; To (O.stF (vs:=[c,f,aS,aV,aX]) shrule_28 rfl rfl (j:=1) rfl rfl (by (simp only [Sl.ones,Slc.one aZ,Slc.one a0,Slc.one a1,Slc.one a2,Slc.one aY,Bool.and_true,Bool.true_and]) <;> rfl) rfl ?_)
 refine T.freeze fun dX P c0=>have c1:=AtC.of c0; Nt<|T.ret<|T.drop<|have c2:=Slc.mono VapiTable.mono aZ P; have c3:=Slc.mono VapiGuest.mono a0 P; have c4:=Slc.mono VapiTie.mono a1 P; have c5:=Slc.mono VI.mono a2 P; have c6:=Slc.mono VapiRule.mono aY P; ?_
 obtain rfl:=Option.some.inj H
 have c7:=(((((((aW.trans G).trans I).trans J).trans K).trans M).trans N).trans P)
 exact T.retL Tryz.results57 (RVs.cons (RV.cellA z c1 shrule_28) RVs.nil) c7 ⟨_,_,_,_,_,z,z,c2,c3,c4,c5,c6⟩
theorem view_both_ok {h:PH} {pv0:Value} {v1:ruleview} (pr0:Pt Vruleview h pv0 v1) {pc1:List Value} {r2:apiRule} (pr1:VapiRule h pc1 r2) {r_0:Int} {r_1:Int} {r_2:Bool} (H:view_both v1 r2 = some (r_0,r_1,r_2)):∀ L,FnS Tryz.prog 231 [pv0,.agg pc1.toArray] h (L) (fun v h' L'=>v = .tuple #[.int .i64 r_0,.int .i64 r_1,.bool r_2]∧L' = L):=by
 intro L
 obtain rfl:=pr1
 refine FnS.enter Tryz.func231 rfl Tryz.ntmps231 rfl<|Sr<|To (O.boxF rfl rfl rfl fun af B j n=>Ag z<|Ag z<|Ag z<|Nt<|Sq<|T.drawF (t:=(.v 0 (.v 1 (.v 2 (.v 3 (.v 4 (.v 5 (.v 6 (.v 7 (.v 8 (.v 10 (.v 11 (.v 12 (.v 13 (.v 14 (.v 15 (.v 16 (.v 17 (.v 18 (.alt 9 (.alt 19 (.alt 20 (.alt 21 .done .no) .no) .no) .no)))))))))))))))))))) 23 0 0 rfl rfl rulemixed (by kernel_rfl) ?_)
 refine Tm z z<|have C:=Pt.mono Vruleview.mono pr0 j; have D:=C; ?_
 obtain ⟨ag,_,rfl,m,⟨ai,aj,ak,rfl,E,G,am⟩⟩:=D
 refine Tv z (V.nck z)<|Tv z (V.fa fdrule_207_0 z)<|Tv z (V.ldf (k:=0) shrule_67 z m z)<|have I:=E; ?_
 obtain ⟨an,_,rfl,o,⟨c,d,e,f,g,ao,ap,aq,ar,au,aw,ax,ay,aA,rfl,p,q,r,s,u,aB,aC,aD,aE,aG,aI,aJ,aK,aM⟩⟩:=I
 refine Tv z (V.nck z)<|Tv z (V.fa fdrule_111_0 z)<|Tv z (V.ldSf (k:=0) shrule_103 z o (Nat.le_of_ble_eq_true z))<|Tv z (V.fa fdrule_39_2 z)<|Tv z (V.ldf (k:=2) shrule_9 z n z)<|Tm z z<|Tv z (V.nck z)<|Tv z (V.fa fdrule_207_0 z)<|Tv z (V.ldf (k:=0) shrule_67 z m z)<|Tv z (V.nck z)<|Tv z (V.fa fdrule_111_0 z)<|Tv z (V.ldSf (k:=0) shrule_103 z o (Nat.le_of_ble_eq_true z))<|Tv z (V.fa fdrule_39_3 z)<|Tv z (V.ldf (k:=3) shrule_9 z n z) ?_
 obtain ⟨aN,J,H⟩:=bnd H
 refine Tp z z (SX.two (XA.fr [] Lr z) (XA.fr [] Lr z)) (O.callS z (rule_who_ok (show VapiProblem B [c,d,e,f,g] v1.fJudge.fgiven from ⟨c,d,e,f,g,z,p,q,r,s,u⟩) J _) z fun aO K aP a M=>?_) T.tno
 obtain ⟨rfl,N⟩:=M
 refine Sl_ _ N<|have P:=Slc.mono VapiTable.mono p a; have S:=Slc.mono VapiGuest.mono q a; have U:=Slc.mono VapiTie.mono r a; have W:=Slc.mono VI.mono s a; have X:=Slc.mono VapiRule.mono u a; ?_
 obtain ⟨aS,Y,H⟩:=bnd H
 refine Tp z z (SX.two (XA.fr [] a z) (XA.fr [] a z)) (O.callS z (rule_who_ok (show VapiProblem K [c,d,e,f,g] v1.fJudge.fgiven from ⟨c,d,e,f,g,z,P,S,U,W,X⟩) Y _) z fun aU aV aW b Z=>?_) T.tno
 obtain ⟨rfl,aa⟩:=Z
 refine Sl_ _ aa<|Ts z z (SX.two (XA.fr [] (a.trans b) z) (XA.fr [] (a.trans b) z)) (V.asg z) z ?_ T.tno
 refine Ts z z (SX.two (XA.fr [] (a.trans b) z) (XA.fr [] (a.trans b) z)) (V.asg z) z ?_ T.tno
 refine T.tnil (SX.two (XA.fr [] (a.trans b) rfl) (XA.fr [] (a.trans b) rfl))<|Th<|Sq<|T.drawF (t:=(.v 0 (.v 1 (.v 2 (.v 3 (.v 4 (.v 5 (.v 6 (.v 7 (.v 8 (.v 9 (.v 10 (.v 11 (.v 12 (.v 13 (.v 14 (.v 15 (.v 16 (.v 17 (.v 18 (.v 19 (.alt 20 (.alt 21 (.alt 22 .done .no) .no) .no)))))))))))))))))))))) 24 0 0 rfl rfl rulemixed (by kernel_rfl) ?_
 refine Tm z z<|Tm z z<|Tm z z<|Tv z (V.nck z)<|Tv z (V.fa fdrule_207_1 z)<|have w:=(a.trans b); have x:=m.mono w; Tv z (V.ldf (k:=1) shrule_25 z x z)<|Tm z z ?_
 obtain ⟨aX,y,H⟩:=bnd H
 have i:=Slc.mono VI.mono G w
 obtain ⟨aY,ab,rfl⟩:=Slc.at i y
 refine Tv z (V.ix elrule_25 z z i (getI_bd y))<|Tv z (V.ld0 shrule_3 z ab z)<|Tv z (V.ge z z)<|Tm z z<|T.bH 39 H z (fun H=>?_) (fun H=>?_)
 ·refine Tm z z<|Tv z (V.nck z)<|Tv z (V.fa fdrule_207_1 z)<|Tv z (V.ldf (k:=1) shrule_25 z x z)<|Tm z z ?_
  obtain ⟨aZ,A,H⟩:=bnd H
  obtain ⟨a0,ac,rfl⟩:=Slc.at i A
  refine Tv z (V.ix elrule_25 z z i (getI_bd A))<|Tv z (V.ld0 shrule_3 z ac z)<|Tv z (V.ge z z)<|Tv z (V.pkT z z)<|Ts z z (SX.two (XA.fr [] Lr z) (XA.fr [] Lr z)) (V.asg z) z ?_ T.tno
  refine Ts z z (SX.two (XA.fr [] Lr z) (XA.fr [] Lr z)) (V.asg z) z ?_ T.tno
  refine Ts z z (SX.two (XA.fr [] Lr z) (XA.fr [] Lr z)) (V.asg z) z ?_ T.tno
  refine T.tnil (SX.two (XA.fr [] Lr z) (XA.fr [] Lr z))<|Th<|T.ret ?_
  obtain ⟨rfl,rfl,rfl⟩:=inj3 H
  have ad:=((j.trans a).trans b)
  exact T.retL Tryz.results231 (RVs.cons (RV.tmp z) (RVs.cons (RV.tmp z) (Rv z))) ad ⟨z,z⟩
 refine Tk z<|Tk z<|Tk z<|Tk z<|Tk z<|Tk z<|Tk z<|Tk z<|Tv z (V.pkF z z)<|Ts z z (SX.two (XA.fr [] Lr z) (XA.fr [] Lr z)) (V.asg z) z ?_ T.tno
 refine Ts z z (SX.two (XA.fr [] Lr z) (XA.fr [] Lr z)) (V.asg z) z ?_ T.tno
 refine Ts z z (SX.two (XA.fr [] Lr z) (XA.fr [] Lr z)) (V.asg z) z ?_ T.tno
 refine T.tnil (SX.two (XA.fr [] Lr z) (XA.fr [] Lr z))<|Th<|T.ret ?_
 obtain ⟨rfl,rfl,rfl⟩:=inj3 H
 have ae:=((j.trans a).trans b)
 exact T.retL Tryz.results231 (RVs.cons (RV.tmp z) (RVs.cons (RV.tmp z) (Rv z))) ae ⟨z,z⟩
theorem view_far_ok {h:PH} {pv0:Value} {v1:ruleview} (pr0:Pt Vruleview h pv0 v1) {a2:Int} {b3:Int} {r_0:Int} {r_1:Bool} (H:view_far v1 a2 b3 = some (r_0,r_1)):∀ L,FnS Tryz.prog 232 [pv0,.int .i64 a2,.int .i64 b3] h (L) (fun v h' L'=>v = .tuple #[.int .i64 r_0,.bool r_1]∧L' = L):=by
 intro L
 refine FnS.enter Tryz.func232 rfl Tryz.ntmps232 rfl<|Sr<|Ag z<|Ag z<|Nt<|Sq<|T.drawF (t:=(.v 0 (.v 1 (.v 2 (.v 3 (.v 4 (.v 5 (.v 6 (.v 7 (.v 8 (.v 9 (.v 10 (.v 11 (.v 12 (.v 13 (.v 14 (.v 15 (.v 16 (.v 17 (.v 18 (.v 19 (.v 20 (.v 21 (.v 22 (.v 23 (.v 24 (.v 25 (.v 26 (.alt 27 (.alt 28 .done .no) .no))))))))))))))))))))))))))))) 30 0 0 rfl rfl rulemixed (by kernel_rfl) ?_
 refine Tm z z<|have g:=pr0; ?_
 obtain ⟨u,_,rfl,b,⟨w,x,y,rfl,i,a,A⟩⟩:=g
 refine Tv z (V.nck z)<|Tv z (V.fa fdrule_207_0 z)<|Tv z (V.ldf (k:=0) shrule_67 z b z)<|have j:=i; ?_
 obtain ⟨B,_,rfl,m,⟨C,D,E,G,I,J,K,M,N,O,P,S,U,W,rfl,X,Y,Z,aa,ab,ac,ad,ae,af,ag,ai,c,aj,ak⟩⟩:=j
 refine Tv z (V.nck z)<|Tv z (V.fa fdrule_111_7 z)<|Tv z (V.ldf (k:=11) shrule_107 z m z)<|Tm z z<|Tv z (V.nck z)<|Tv z (V.fa fdrule_207_1 z)<|Tv z (V.ldf (k:=1) shrule_25 z b z)<|Tm z z ?_
 obtain ⟨am,d,H⟩:=bnd H
 obtain ⟨an,n,rfl⟩:=Slc.at a d
 refine Tv z (V.ix elrule_25 z z a (getI_bd d))<|Tv z (V.ld0 shrule_3 z n z) ?_
 obtain ⟨ao,e,H⟩:=bnd H
 obtain ⟨ap,o,⟨aq,rfl,p⟩⟩:=Slc.at c e
 refine Tv z (V.ix elrule_107 z z c (getI_bd e))<|Tv z (V.ld0 shrule_137 z o z)<|Tm z z<|Tv z (V.nck z)<|Tv z (V.fa fdrule_207_1 z)<|Tv z (V.ldf (k:=1) shrule_25 z b z)<|Tm z z ?_
 obtain ⟨ar,f,H⟩:=bnd H
 obtain ⟨au,q,rfl⟩:=Slc.at a f
 refine Tv z (V.ix elrule_25 z z a (getI_bd f))<|Tv z (V.ld0 shrule_3 z q z) ?_
 obtain ⟨⟨aw,ax⟩,r,H⟩:=bnd H
 obtain ⟨_,s,rfl⟩:=Mp.look (zc:=[.int .i64 (0:Int)]) (agg:=false) Tryz.underlying137 (KeyOK.int Tryz.underlying3) zerule_3 (show (VI .i64) h [.int .i64 (0:Int)] (0:Int) from rfl) p r
 refine Tv z (V.lkF z z s)<|Tm z z<|Tv z (V.ext z z)<|Tv z (V.ext z z)<|Ts z z (SX.two (XA.fr [] Lr z) (XA.fr [] Lr z)) (V.asg z) z ?_ T.tno
 refine Ts z z (SX.two (XA.fr [] Lr z) (XA.fr [] Lr z)) (V.asg z) z ?_ T.tno
 refine T.tnil (SX.two (XA.fr [] Lr z) (XA.fr [] Lr z))<|Th<|Sq<|T.norm [8,9] z<|Rg<|Mv z<|Mv z<|Ag z<|Ag z<|Nt<|T.ret ?_
 obtain ⟨rfl,rfl⟩:=inj2 H
 exact T.retL Tryz.results232 (RVs.cons (RV.tmp z) (Rv z)) Lr ⟨z,z⟩
theorem view_apart_ok {h:PH} {σ:Type} {R:σ→PH→List HProp→Prop} {pv0:Value} {v1:ruleview} (pr0:Pt Vruleview h pv0 v1) {pc1:List Value} {r2:apiRule} (pr1:VapiRule h pc1 r2) {pv2:Value} {f3:σ→Int→(List Int)→Option σ} (pr2:CY211 R h pv2 f3) {s0:σ} {La:List HProp} (hRa:R s0 h La) {q_s:σ} (H:view_apart v1 r2 f3 s0 = some q_s):∀ As L,FnS Tryz.prog 138 [pv0,.agg pc1.toArray,pv2] h ((As ++ (La ++ L))) (fun v h' L'=>∃ La',v = .tuple #[]∧L' = (As ++ (La' ++ L))∧R q_s h' La'):=by
 intro As L
 obtain rfl:=pr1
 refine FnS.enter Tryz.func138 rfl Tryz.ntmps138 rfl<|Sr<|To (O.boxF rfl rfl rfl fun aD E g n=>Nt<|Sr<|Mv z<|Vv (V.ldS rfl n (by exact shrule_39)) ?_)
 have i:=Pt.mono Vruleview.mono pr0 g
 obtain ⟨⟨o,p,aE⟩,G,H⟩:=bnd H
 refine To (O.callS z (view_both_ok i (show VapiRule E [.int .u8 r2.fKind,.int .i64 r2.fWeight,.string r2.fA,.string r2.fB,.string r2.fTable,.int .i64 r2.fN] r2 from z) G _) z fun aG aI aJ b I=>?_)
 obtain ⟨rfl,J⟩:=I
 refine Sl_ _ J<|Mv z<|Vv (V.ext z z)<|Vv (V.ext z z)<|Vv (V.ext z z)<|Ag z<|Ag z<|Ag z<|Nt<|Sq<|Sq ?_
 obtain ⟨K,M,N⟩:=bndK H
 refine T.cutK (α:=Bool) [0,2,4,6,7] z (fun a=>[(54,.bool a)]) (fun a=>(As ++ (La ++ L))) (fun a hh=>K = a) ?_ ?_
 ·have H:=M
  refine T.drawF (t:=(.v 0 (.v 1 (.v 2 (.v 3 (.v 4 (.v 5 (.v 6 (.v 7 (.v 8 (.v 9 (.v 10 (.v 11 (.v 12 (.v 13 (.v 14 (.v 15 (.v 16 (.v 17 (.v 18 (.v 19 (.v 20 (.v 21 (.v 22 (.v 23 (.v 24 (.v 25 (.v 26 (.v 27 (.v 28 (.v 29 (.v 30 (.v 31 (.v 32 (.v 33 (.v 34 (.v 35 (.v 36 .done)))))))))))))))))))))))))))))))))))))) 38 0 0 rfl rfl rulemixed (by kernel_rfl) ?_
  refine Tm z z<|Tv z (V.not z)<|Tm z z<|T.bH 20 H z (fun H=>?_) (fun H=>?_)
  ·refine Tk z<|Tk z<|Tk z<|Tk z<|Tk z<|Tk z<|Tk z<|Tk z<|Tk z<|Tk z<|Tk z<|Tk z<|Tk z<|Tk z<|Tk z<|Tk z<|Tk z<|Tk z<|Tk z<|Tk z<|Tk z<|Tk z<|Tk z<|Tk z<|Tk z<|Tk z<|Tk z<|Tk z<|Tk z<|Tk z<|Tk z<|Tk z<|Tk z<|Tv z (V.pkT z z)<|T.tnil (SX.two (XA.fr [] Lr z) (XA.fr [] Lr z))<|Th<|T.met true Lr (sinj H) (AllIn.app ⟨z,trivial⟩ ⟨z,z,z,z,z,trivial⟩) z
  refine Tm z z<|have P:=Pt.mono Vruleview.mono i b; have S:=P; ?_
  obtain ⟨aK,_,rfl,c,⟨aM,aN,aO,rfl,U,d,aP⟩⟩:=S
  refine Tv z (V.nck z)<|Tv z (V.fa fdrule_207_0 z)<|Tv z (V.ldf (k:=0) shrule_67 z c z)<|have W:=U; ?_
  obtain ⟨aS,_,rfl,q,⟨aU,aV,aW,aX,aY,aZ,a0,a1,a2,a3,a4,a5,a6,a7,rfl,a8,a9,ah,al,av,az,f,ba,bb,bc,bd,be,bf,bg⟩⟩:=W
  refine Tv z (V.nck z)<|Tv z (V.fa fdrule_111_2 z)<|Tv z (V.ldf (k:=6) shrule_25 z q z)<|Tm z z<|Tv z (V.nck z)<|Tv z (V.fa fdrule_207_1 z)<|Tv z (V.ldf (k:=1) shrule_25 z c z)<|Tm z z ?_
  obtain ⟨bi,r,H⟩:=bnd H
  obtain ⟨bj,X,rfl⟩:=Slc.at d r
  refine Tv z (V.ix elrule_25 z z d (getI_bd r))<|Tv z (V.ld0 shrule_3 z X z) ?_
  obtain ⟨Y,s,H⟩:=bnd H
  obtain ⟨bk,Z,rfl⟩:=Slc.at f s
  refine Tv z (V.ix elrule_25 z z f (getI_bd s))<|Tv z (V.ld0 shrule_3 z Z z)<|Tm z z<|Tv z (V.nck z)<|Tv z (V.fa fdrule_207_0 z)<|Tv z (V.ldf (k:=0) shrule_67 z c z)<|Tv z (V.nck z)<|Tv z (V.fa fdrule_111_2 z)<|Tv z (V.ldf (k:=6) shrule_25 z q z)<|Tm z z<|Tv z (V.nck z)<|Tv z (V.fa fdrule_207_1 z)<|Tv z (V.ldf (k:=1) shrule_25 z c z)<|Tm z z ?_
  obtain ⟨bm,u,H⟩:=bnd H
  obtain ⟨bn,aa,rfl⟩:=Slc.at d u
  refine Tv z (V.ix elrule_25 z z d (getI_bd u))<|Tv z (V.ld0 shrule_3 z aa z) ?_
  obtain ⟨ab,w,H⟩:=bnd H
  obtain ⟨bo,ac,rfl⟩:=Slc.at f w
  refine Tv z (V.ix elrule_25 z z f (getI_bd w))<|Tv z (V.ld0 shrule_3 z ac z)<|Tv z (V.ne z z)<|Tv z (V.pkF z z)<|T.tnil (SX.two (XA.fr [] Lr z) (XA.fr [] Lr z))<|Th<|T.met (!decide (Y = ab)) Lr (sinj H) (AllIn.app ⟨z,trivial⟩ ⟨z,z,z,z,z,trivial⟩) z
 rintro a bp j ad
 have H:=cutE ad N
 refine T.norm [54,0,2,4,6,7] z<|Sl_ ((As ++ (La ++ L))) z<|T.cH H z (fun H=>?_) (fun H=>?_)
 ·refine T.ret<|Tr<|have x:=((g.trans b).trans j); have ae:=pr2.2.1 _ _ _ _ x hRa; ?_
  obtain rfl:=Option.some.inj H
  exact T.ret0 Tryz.results138 x ⟨La,z,z,ae⟩
 refine T.skip<|Th<|Sr<|Mv z<|Mv z<|Mv z<|have y:=(b.trans j); have af:=Pt.mono Vruleview.mono i y; ?_
 obtain ⟨⟨bq,br⟩,ag,H⟩:=bnd H
 refine To (O.callS z (view_far_ok af ag _) z fun bt ai bu A aj=>?_)
 obtain ⟨rfl,ak⟩:=aj
 refine Sl_ _ ak<|Mv z<|Vv (V.ext z z)<|Vv (V.ext z z)<|Ag z<|Ag z<|Nt<|Sr<|Vv (V.fa fdrule_39_5 z)<|have am:=(y.trans A); have B:=n.mono am; Vv (V.ldf (k:=5) shrule_3 z B z)<|Vv (V.eq z z)<|Mv z<|T.bH 65 H z (fun H=>?_) (fun H=>?_)
 ·exact dead H
 refine Mv z<|Mv z<|T.bH 67 H z (fun H=>?_) (fun H=>?_)
 ·refine Mv z<|Vv (V.fa fdrule_39_5 z)<|Vv (V.ldf (k:=5) shrule_3 z B z)<|Vv (V.lt z z)<|Vv (V.pkT z z)<|Vv (V.pkF z z)<|Nt<|T.cH H z (fun H=>?_) (fun H=>?_)
  ·refine Rg<|Mv z<|Mv z<|Mv z<|To (O.bs elrule_25 zerule_3 z (e:=z) (hk:=z) (xs:=[.tmp 75,.tmp 76]) (hv:=CO.eq (CO.cons z (CO.cons z CO.nil))) (hw:=Wide.of z) (hd:=z) fun bw=>have an:RowF (VI .i64) ai [[.int .i64 o],[.int .i64 p]] ([o,p]:List Int):=(RowF.cons z (RowF.cons z RowF.nil)); T.rowFix fun bx C ao=>have ap:=RowF.mono VI.mono an C; have aq:=RowF.slc ao ap; ?_)
   obtain ⟨bA,ar,H⟩:=bnd H
   have m:=((((g.trans b).trans j).trans A).trans C)
   have au:=CY211.mono pr2 m
   have aw:=pr2.2.1 _ _ _ _ m hRa
   refine To (O.callY z z (CY211.call au aq aw ar As _) z fun bB bC bD ax ay=>?_)
   obtain ⟨D,rfl,aA,aB⟩:=ay
   refine Sl_ ((As ++ (D ++ L))) aA<|Ni ?_
   obtain rfl:=Option.some.inj H
   have aC:=(m.trans ax)
   exact T.end0 Tryz.results138 aC ⟨D,z,z,aB⟩
  exact dead H
 exact dead H
theorem view_sideBySide_ok {h:PH} {σ:Type} {R:σ→PH→List HProp→Prop} {pv0:Value} {v1:ruleview} (pr0:Pt Vruleview h pv0 v1) {pc1:List Value} {r2:apiRule} (pr1:VapiRule h pc1 r2) {pv2:Value} {f3:σ→Int→(List Int)→Option σ} (pr2:CY211 R h pv2 f3) {s0:σ} {La:List HProp} (hRa:R s0 h La) {q_s:σ} (H:view_sideBySide v1 r2 f3 s0 = some q_s):∀ As L,FnS Tryz.prog 139 [pv0,.agg pc1.toArray,pv2] h ((As ++ (La ++ L))) (fun v h' L'=>∃ La',v = .tuple #[]∧L' = (As ++ (La' ++ L))∧R q_s h' La'):=by
 intro As L
 exact dead H
theorem view_faceToFace_ok {h:PH} {σ:Type} {R:σ→PH→List HProp→Prop} {pv0:Value} {v1:ruleview} (pr0:Pt Vruleview h pv0 v1) {pc1:List Value} {r2:apiRule} (pr1:VapiRule h pc1 r2) {pv2:Value} {f3:σ→Int→(List Int)→Option σ} (pr2:CY211 R h pv2 f3) {s0:σ} {La:List HProp} (hRa:R s0 h La) {q_s:σ} (H:view_faceToFace v1 r2 f3 s0 = some q_s):∀ As L,FnS Tryz.prog 140 [pv0,.agg pc1.toArray,pv2] h ((As ++ (La ++ L))) (fun v h' L'=>∃ La',v = .tuple #[]∧L' = (As ++ (La' ++ L))∧R q_s h' La'):=by
 intro As L
 exact dead H
theorem view_within_ok {h:PH} {σ:Type} {R:σ→PH→List HProp→Prop} {pv0:Value} {v1:ruleview} (pr0:Pt Vruleview h pv0 v1) {pc1:List Value} {r2:apiRule} (pr1:VapiRule h pc1 r2) {pv2:Value} {f3:σ→Int→(List Int)→Option σ} (pr2:CY211 R h pv2 f3) {s0:σ} {La:List HProp} (hRa:R s0 h La) {q_s:σ} (H:view_within v1 r2 f3 s0 = some q_s):∀ As L,FnS Tryz.prog 141 [pv0,.agg pc1.toArray,pv2] h ((As ++ (La ++ L))) (fun v h' L'=>∃ La',v = .tuple #[]∧L' = (As ++ (La' ++ L))∧R q_s h' La'):=by
 intro As L
 exact dead H
theorem view_together_ok {h:PH} {σ:Type} {R:σ→PH→List HProp→Prop} {pv0:Value} {v1:ruleview} (pr0:Pt Vruleview h pv0 v1) {pc1:List Value} {r2:apiRule} (pr1:VapiRule h pc1 r2) {pv2:Value} {f3:σ→Int→(List Int)→Option σ} (pr2:CY211 R h pv2 f3) {s0:σ} {La:List HProp} (hRa:R s0 h La) {q_s:σ} (H:view_together v1 r2 f3 s0 = some q_s):∀ As L,FnS Tryz.prog 142 [pv0,.agg pc1.toArray,pv2] h ((As ++ (La ++ L))) (fun v h' L'=>∃ La',v = .tuple #[]∧L' = (As ++ (La' ++ L))∧R q_s h' La'):=by
 intro As L
 exact dead H
theorem view_at_ok {h:PH} {σ:Type} {R:σ→PH→List HProp→Prop} {pv0:Value} {v1:ruleview} (pr0:Pt Vruleview h pv0 v1) {pc1:List Value} {r2:apiRule} (pr1:VapiRule h pc1 r2) {pv2:Value} {f3:σ→Int→(List Int)→Option σ} (pr2:CY211 R h pv2 f3) {s0:σ} {La:List HProp} (hRa:R s0 h La) {q_s:σ} (H:view_at v1 r2 f3 s0 = some q_s):∀ As L,FnS Tryz.prog 143 [pv0,.agg pc1.toArray,pv2] h ((As ++ (La ++ L))) (fun v h' L'=>∃ La',v = .tuple #[]∧L' = (As ++ (La' ++ L))∧R q_s h' La'):=by
 intro As L
 exact dead H
theorem view_seat_ok {h:PH} {σ:Type} {R:σ→PH→List HProp→Prop} {pv0:Value} {v1:ruleview} (pr0:Pt Vruleview h pv0 v1) {pc1:List Value} {r2:apiRule} (pr1:VapiRule h pc1 r2) {pv2:Value} {f3:σ→Int→(List Int)→Option σ} (pr2:CY211 R h pv2 f3) {s0:σ} {La:List HProp} (hRa:R s0 h La) {q_s:σ} (H:view_seat v1 r2 f3 s0 = some q_s):∀ As L,FnS Tryz.prog 144 [pv0,.agg pc1.toArray,pv2] h ((As ++ (La ++ L))) (fun v h' L'=>∃ La',v = .tuple #[]∧L' = (As ++ (La' ++ L))∧R q_s h' La'):=by
 intro As L
 obtain rfl:=pr1
 refine FnS.enter Tryz.func144 rfl Tryz.ntmps144 rfl<|Sr<|To (O.boxF rfl rfl rfl fun bk am d u=>Nt<|Sq<|T.drawF (t:=(.v 0 (.v 1 (.v 2 (.v 3 (.v 4 (.v 5 (.v 6 (.v 7 (.v 8 (.alt 9 (.alt 10 .done .no) .no))))))))))) 12 0 0 rfl rfl rulemixed (by kernel_rfl) ?_)
 refine Tm z z<|have an:=Pt.mono Vruleview.mono pr0 d; have ao:=an; ?_
 obtain ⟨bm,_,rfl,w,⟨bn,bo,bp,rfl,ap,aq,bq⟩⟩:=ao
 refine Tv z (V.nck z)<|Tv z (V.fa fdrule_207_0 z)<|Tv z (V.ldf (k:=0) shrule_67 z w z)<|have ar:=ap; ?_
 obtain ⟨br,_,rfl,o,⟨x,y,A,B,C,bt,bu,bw,bx,bA,bB,bC,bD,bE,rfl,D,au,aw,ax,ay,bG,E,bI,bJ,bK,bM,bN,bO,bP⟩⟩:=ar
 refine Tv z (V.nck z)<|Tv z (V.fa fdrule_111_0 z)<|Tv z (V.ldSf (k:=0) shrule_103 z o (Nat.le_of_ble_eq_true z))<|Tv z (V.fa fdrule_39_2 z)<|Tv z (V.ldf (k:=2) shrule_9 z u z) ?_
 obtain ⟨j,aA,H⟩:=bnd H
 refine Tp z z (SX.two (XA.fr [] Lr z) (XA.fr [] Lr z)) (O.callS z (rule_who_ok (show VapiProblem am [x,y,A,B,C] v1.fJudge.fgiven from ⟨x,y,A,B,C,z,D,au,aw,ax,ay⟩) aA _) z fun bS bU bV a aB=>?_) T.tno
 obtain ⟨rfl,aC⟩:=aB
 refine Sl_ _ aC<|Ts z z (SX.two (XA.fr [] a z) (XA.fr [] a z)) (V.asg z) z ?_ T.tno
 refine T.tnil (SX.two (XA.fr [] a z) (XA.fr [] a z))<|Th<|Sr<|Mv z<|Vv (V.nck z)<|Vv (V.fa fdrule_207_1 z)<|have p:=w.mono a; Vv (V.ldf (k:=1) shrule_25 z p z)<|Mv z ?_
 obtain ⟨G,I,H⟩:=bnd H
 have J:=Slc.mono VI.mono aq a
 obtain ⟨bW,aD,rfl⟩:=Slc.at J I
 refine Vv (V.ix elrule_25 z z J (getI_bd I))<|Vv (V.ld0 shrule_3 z aD z)<|Ag z<|Nt<|Sq<|Sr<|Mv z<|Vv (V.lt z z)<|Nt<|T.cH H z (fun H=>?_) (fun H=>?_)
 ·refine T.ret<|Tr<|have K:=(d.trans a); have aE:=pr2.2.1 _ _ _ _ K hRa; ?_
  obtain rfl:=Option.some.inj H
  exact T.ret0 Tryz.results144 K ⟨La,z,z,aE⟩
 refine T.skip<|Th<|Sr<|Mv z<|Ag z<|Nt<|Sq ?_
 obtain ⟨M,aG,aI⟩:=bndK H
 refine T.cutK (α:=Int) [0,2,4,6,7] z (fun f=>[(8,.int .i64 f)]) (fun f=>(As ++ (La ++ L))) (fun f hh=>M = f) ?_ ?_
 ·have H:=aG
  refine Bl<|T.loopK (α:=Nat×Int) [0,2,4,6,7] z (fun ⟨c,b⟩=>[(8,.int .i64 b)]) (fun ⟨c,b⟩=>(As ++ (La ++ L))) (fun ⟨c,b⟩ hh=>iter (view_seat_l0 v1 G) c b = some M) (fun ⟨c,b⟩=>c) (FUEL,G) ⟨z,trivial⟩ z H ?_
  rintro ⟨c,b⟩ bX g aJ
  obtain ⟨aK,bY,rfl,H,q⟩:=iter_go aJ
  refine T.norm [8,0,2,4,6,7] rfl<|Sl_ ((As ++ (La ++ L))) rfl<|Sq<|Sq<|T.drawF (t:=(.v 0 (.v 1 (.v 2 (.v 3 (.v 4 (.v 5 (.v 6 (.v 7 (.v 8 (.v 9 (.v 10 (.v 11 (.v 12 (.v 13 (.v 14 (.v 15 (.v 16 (.v 17 (.v 18 (.v 19 (.v 20 (.v 21 (.v 22 (.v 23 (.v 24 (.v 25 .done))))))))))))))))))))))))))) 27 0 0 rfl rfl rulemixed (by kernel_rfl) ?_
  refine Tm z z<|Tv z (V.gt z z)<|Tm z z<|T.bH 31 H z (fun H=>?_) (fun H=>?_)
  ·refine Tm z z<|Tv z (V.nck z)<|Tv z (V.fa fdrule_207_0 z)<|have N:=p.mono g; Tv z (V.ldf (k:=0) shrule_67 z N z)<|Tv z (V.nck z)<|Tv z (V.fa fdrule_111_2 z)<|have P:=(a.trans g); have S:=o.mono P; Tv z (V.ldf (k:=6) shrule_25 z S z)<|Tm z z ?_
   obtain ⟨bZ,aM,H⟩:=bnd H
   refine Tv z (V.subS z z aM) ?_
   obtain ⟨b0,U,H⟩:=bnd H
   have m:=Slc.mono VI.mono E P
   obtain ⟨b1,aN,rfl⟩:=Slc.at m U
   refine Tv z (V.ix elrule_25 z z m (getI_bd U))<|Tv z (V.ld0 shrule_3 z aN z)<|Tm z z<|Tv z (V.nck z)<|Tv z (V.fa fdrule_207_0 z)<|Tv z (V.ldf (k:=0) shrule_67 z N z)<|Tv z (V.nck z)<|Tv z (V.fa fdrule_111_2 z)<|Tv z (V.ldf (k:=6) shrule_25 z S z)<|Tm z z ?_
   obtain ⟨b2,W,H⟩:=bnd H
   obtain ⟨b3,aO,rfl⟩:=Slc.at m W
   refine Tv z (V.ix elrule_25 z z m (getI_bd W))<|Tv z (V.ld0 shrule_3 z aO z)<|Tv z (V.eq z z)<|Tv z (V.pkT z z)<|T.tnil (SX.two (XA.fr [] Lr z) (XA.fr [] Lr z))<|Th<|T.cH H z (fun H=>?_) (fun H=>?_)
   ·refine T.skip<|Th<|Bl<|Rg<|Mv z ?_
    obtain ⟨aP,aS,H⟩:=bnd H
    refine Vv (V.subS z z aS)<|Ag z<|Ni<|Bn<|Th<|T.again (aK,aP) g (Nat.lt_succ_self _) (iterK_in H q) (AllIn.app ⟨z,trivial⟩ ⟨z,z,z,z,z,trivial⟩) z
   refine T.exit<|Te<|Te<|have H:=iterK_out H q; Be<|Th<|T.met b g H (AllIn.app ⟨z,trivial⟩ ⟨z,z,z,z,z,trivial⟩) z
  refine Tk z<|Tk z<|Tk z<|Tk z<|Tk z<|Tk z<|Tk z<|Tk z<|Tk z<|Tk z<|Tk z<|Tk z<|Tk z<|Tk z<|Tk z<|Tk z<|Tk z<|Tk z<|Tk z<|Tk z<|Tk z<|Tk z<|Tv z (V.pkF z z)<|T.tnil (SX.two (XA.fr [] Lr z) (XA.fr [] Lr z))<|Th<|Cf z<|T.exit<|Te<|Te<|have H:=iterK_out H q; Be<|Th<|T.met b g H (AllIn.app ⟨z,trivial⟩ ⟨z,z,z,z,z,trivial⟩) z
 rintro f X i aU
 have H:=cutE aU aI
 refine T.norm [8,0,2,4,6,7] rfl<|Sl_ ((As ++ (La ++ L))) rfl<|Sq<|T.drawF (t:=(.v 0 (.v 1 (.v 2 (.v 3 (.v 4 (.v 5 (.v 6 (.v 7 (.v 8 (.v 9 (.v 10 (.v 11 (.v 12 (.v 13 (.v 14 (.v 15 (.v 16 (.v 17 (.v 18 (.v 19 (.v 20 (.v 21 (.v 22 (.v 23 (.v 24 (.v 25 (.v 26 (.v 27 (.v 28 (.v 29 (.v 30 (.v 31 .done))))))))))))))))))))))))))))))))) 33 0 0 rfl rfl rulemixed (by kernel_rfl) ?_
 refine Tm z z<|Tv z (V.nck z)<|Tv z (V.fa fdrule_207_0 z)<|have Y:=p.mono i; Tv z (V.ldf (k:=0) shrule_67 z Y z)<|Tv z (V.nck z)<|Tv z (V.fa fdrule_111_0 z)<|Tv z (V.fa fdrule_103_0 z)<|have n:=(a.trans i); have Z:=o.mono n; Tv z (V.ldf (k:=0) shrule_22 z Z z)<|Tm z z<|Tv z (V.nck z)<|Tv z (V.fa fdrule_207_0 z)<|Tv z (V.ldf (k:=0) shrule_67 z Y z)<|Tv z (V.nck z)<|Tv z (V.fa fdrule_111_2 z)<|Tv z (V.ldf (k:=6) shrule_25 z Z z)<|Tm z z ?_
 obtain ⟨b4,aa,H⟩:=bnd H
 have ab:=Slc.mono VI.mono E n
 obtain ⟨b5,aV,rfl⟩:=Slc.at ab aa
 refine Tv z (V.ix elrule_25 z z ab (getI_bd aa))<|Tv z (V.ld0 shrule_3 z aV z) ?_
 obtain ⟨b6,ac,H⟩:=bnd H
 have ad:=Slc.mono VapiTable.mono D n
 obtain ⟨b7,aW,⟨b8,rfl,b9⟩⟩:=Slc.at ad ac
 refine Tv z (V.ix elrule_22 z z ad (getI_bd ac))<|Tv z (V.fa fdrule_31_0 z)<|Tv z (V.ldf (k:=0) shrule_9 z aW z)<|Tv z (V.fa fdrule_39_4 z)<|have ae:=u.mono n; Tv z (V.ldf (k:=4) shrule_9 z ae z)<|Tv z (V.sne z z)<|Tm z z<|T.bH 81 H z (fun H=>?_) (fun H=>?_)
 ·refine Tk z<|Tk z<|Tk z<|Tk z<|Tk z<|Tk z<|Tv z (V.pkT z z)<|T.tnil (SX.two (XA.fr [] Lr z) (XA.fr [] Lr z))<|Th<|Ct z<|Rg<|Mv z<|Mv z<|To (O.bs elrule_25 zerule_3 z (e:=z) (hk:=z) (xs:=[.tmp 90]) (hv:=CO.eq (CO.cons z CO.nil)) (hw:=Wide.of z) (hd:=z) fun bh=>have aX:RowF (VI .i64) X [[.int .i64 j]] ([j]:List Int):=(RowF.cons z RowF.nil); T.rowFix fun bl af aY=>have aZ:=RowF.mono VI.mono aX af; have a0:=RowF.slc aY aZ; ?_)
  obtain ⟨bv,a1,H⟩:=bnd H
  have r:=(((d.trans a).trans i).trans af)
  have a2:=CY211.mono pr2 r
  have a3:=pr2.2.1 _ _ _ _ r hRa
  refine To (O.callY z z (CY211.call a2 a0 a3 a1 As _) z fun bz ca cb a4 a5=>?_)
  obtain ⟨ag,rfl,a6,a7⟩:=a5
  refine Sl_ ((As ++ (ag ++ L))) a6<|Ni ?_
  obtain rfl:=Option.some.inj H
  have a8:=(r.trans a4)
  exact T.end0 Tryz.results144 a8 ⟨ag,z,z,a7⟩
 refine Tm z z<|Tm z z ?_
 obtain ⟨cc,a9,H⟩:=bnd H
 refine Tv z (V.subS z z a9)<|Tv z (V.fa fdrule_39_5 z)<|Tv z (V.ldf (k:=5) shrule_3 z ae z)<|Tv z (V.ne z z)<|Tv z (V.pkF z z)<|T.tnil (SX.two (XA.fr [] Lr z) (XA.fr [] Lr z))<|Th<|T.cH H z (fun H=>?_) (fun H=>?_)
 ·refine T.norm [2,6] z<|Rg<|Mv z<|Mv z<|To (O.bs elrule_25 zerule_3 z (e:=z) (hk:=z) (xs:=[.tmp 90]) (hv:=CO.eq (CO.cons z CO.nil)) (hw:=Wide.of z) (hd:=z) fun cd=>have ah:RowF (VI .i64) X [[.int .i64 j]] ([j]:List Int):=(RowF.cons z RowF.nil); T.rowFix fun ce ai al=>have av:=RowF.mono VI.mono ah ai; have az:=RowF.slc al av; ?_)
  obtain ⟨cf,ba,H⟩:=bnd H
  have s:=(((d.trans a).trans i).trans ai)
  have bb:=CY211.mono pr2 s
  have bc:=pr2.2.1 _ _ _ _ s hRa
  refine To (O.callY z z (CY211.call bb az bc ba As _) z fun cg ci cj bd be=>?_)
  obtain ⟨aj,rfl,bf,bg⟩:=be
  refine Sl_ ((As ++ (aj ++ L))) bf<|Ni ?_
  obtain rfl:=Option.some.inj H
  have bi:=(s.trans bd)
  exact T.end0 Tryz.results144 bi ⟨aj,z,z,bg⟩
 refine T.skip<|have ak:=((d.trans a).trans i); have bj:=pr2.2.1 _ _ _ _ ak hRa; ?_
 obtain rfl:=Option.some.inj H
 exact T.end0 Tryz.results144 ak ⟨La,z,z,bj⟩
theorem view_reach_ok {h:PH} {σ:Type} {R:σ→PH→List HProp→Prop} {pv0:Value} {v1:ruleview} (pr0:Pt Vruleview h pv0 v1) {pc1:List Value} {r2:apiRule} (pr1:VapiRule h pc1 r2) {pv2:Value} {f3:σ→Int→(List Int)→Option σ} (pr2:CY211 R h pv2 f3) {s0:σ} {La:List HProp} (hRa:R s0 h La) {q_s:σ} (H:view_reach v1 r2 f3 s0 = some q_s):∀ As L,FnS Tryz.prog 147 [pv0,.agg pc1.toArray,pv2] h ((As ++ (La ++ L))) (fun v h' L'=>∃ La',v = .tuple #[]∧L' = (As ++ (La' ++ L))∧R q_s h' La'):=by
 intro As L
 exact dead H
theorem view_speak_ok {h:PH} {σ:Type} {R:σ→PH→List HProp→Prop} {pv0:Value} {v1:ruleview} (pr0:Pt Vruleview h pv0 v1) {pc1:List Value} {r2:apiRule} (pr1:VapiRule h pc1 r2) {pv2:Value} {f3:σ→Int→(List Int)→Option σ} (pr2:CY211 R h pv2 f3) {s0:σ} {La:List HProp} (hRa:R s0 h La) {q_s:σ} (H:view_speak v1 r2 f3 s0 = some q_s):∀ As L,FnS Tryz.prog 148 [pv0,.agg pc1.toArray,pv2] h ((As ++ (La ++ L))) (fun v h' L'=>∃ La',v = .tuple #[]∧L' = (As ++ (La' ++ L))∧R q_s h' La'):=by
 intro As L
 exact dead H
theorem view_company_ok {h:PH} {σ:Type} {R:σ→PH→List HProp→Prop} {pv0:Value} {v1:ruleview} (pr0:Pt Vruleview h pv0 v1) {pc1:List Value} {r2:apiRule} (pr1:VapiRule h pc1 r2) {pv2:Value} {f3:σ→Int→(List Int)→Option σ} (pr2:CY211 R h pv2 f3) {s0:σ} {La:List HProp} (hRa:R s0 h La) {q_s:σ} (H:view_company v1 r2 f3 s0 = some q_s):∀ As L,FnS Tryz.prog 150 [pv0,.agg pc1.toArray,pv2] h ((As ++ (La ++ L))) (fun v h' L'=>∃ La',v = .tuple #[]∧L' = (As ++ (La' ++ L))∧R q_s h' La'):=by
 intro As L
 exact dead H
theorem view_kitchen_ok {h:PH} {σ:Type} {R:σ→PH→List HProp→Prop} {pv0:Value} {v1:ruleview} (pr0:Pt Vruleview h pv0 v1) {pc1:List Value} {r2:apiRule} (pr1:VapiRule h pc1 r2) {pv2:Value} {f3:σ→Int→(List Int)→Option σ} (pr2:CY211 R h pv2 f3) {s0:σ} {La:List HProp} (hRa:R s0 h La) {q_s:σ} (H:view_kitchen v1 r2 f3 s0 = some q_s):∀ As L,FnS Tryz.prog 154 [pv0,.agg pc1.toArray,pv2] h ((As ++ (La ++ L))) (fun v h' L'=>∃ La',v = .tuple #[]∧L' = (As ++ (La' ++ L))∧R q_s h' La'):=by
 intro As L
 exact dead H
theorem view_alternate_ok {h:PH} {σ:Type} {R:σ→PH→List HProp→Prop} {pv0:Value} {v1:ruleview} (pr0:Pt Vruleview h pv0 v1) {pc1:List Value} {r2:apiRule} (pr1:VapiRule h pc1 r2) {pv2:Value} {f3:σ→Int→(List Int)→Option σ} (pr2:CY211 R h pv2 f3) {s0:σ} {La:List HProp} (hRa:R s0 h La) {q_s:σ} (H:view_alternate v1 r2 f3 s0 = some q_s):∀ As L,FnS Tryz.prog 145 [pv0,.agg pc1.toArray,pv2] h ((As ++ (La ++ L))) (fun v h' L'=>∃ La',v = .tuple #[]∧L' = (As ++ (La' ++ L))∧R q_s h' La'):=by
 intro As L
 exact dead H
theorem view_mix_ok {h:PH} {σ:Type} {R:σ→PH→List HProp→Prop} {pv0:Value} {v1:ruleview} (pr0:Pt Vruleview h pv0 v1) {pc1:List Value} {r2:apiRule} (pr1:VapiRule h pc1 r2) {pv2:Value} {f3:σ→Int→(List Int)→Option σ} (pr2:CY211 R h pv2 f3) {s0:σ} {La:List HProp} (hRa:R s0 h La) {q_s:σ} (H:view_mix v1 r2 f3 s0 = some q_s):∀ As L,FnS Tryz.prog 155 [pv0,.agg pc1.toArray,pv2] h ((As ++ (La ++ L))) (fun v h' L'=>∃ La',v = .tuple #[]∧L' = (As ++ (La' ++ L))∧R q_s h' La'):=by
 intro As L
 exact dead H
theorem view_peace_ok {h:PH} {σ:Type} {R:σ→PH→List HProp→Prop} {pv0:Value} {v1:ruleview} (pr0:Pt Vruleview h pv0 v1) {pc1:List Value} {r2:apiRule} (pr1:VapiRule h pc1 r2) {pv2:Value} {f3:σ→Int→(List Int)→Option σ} (pr2:CY211 R h pv2 f3) {s0:σ} {La:List HProp} (hRa:R s0 h La) {q_s:σ} (H:view_peace v1 r2 f3 s0 = some q_s):∀ As L,FnS Tryz.prog 149 [pv0,.agg pc1.toArray,pv2] h ((As ++ (La ++ L))) (fun v h' L'=>∃ La',v = .tuple #[]∧L' = (As ++ (La' ++ L))∧R q_s h' La'):=by
 intro As L
 exact dead H
theorem view_honour_ok {h:PH} {σ:Type} {R:σ→PH→List HProp→Prop} {pv0:Value} {v1:ruleview} (pr0:Pt Vruleview h pv0 v1) {pc1:List Value} {r2:apiRule} (pr1:VapiRule h pc1 r2) {pv2:Value} {f3:σ→Int→(List Int)→Option σ} (pr2:CY211 R h pv2 f3) {s0:σ} {La:List HProp} (hRa:R s0 h La) {q_s:σ} (H:view_honour v1 r2 f3 s0 = some q_s):∀ As L,FnS Tryz.prog 151 [pv0,.agg pc1.toArray,pv2] h ((As ++ (La ++ L))) (fun v h' L'=>∃ La',v = .tuple #[]∧L' = (As ++ (La' ++ L))∧R q_s h' La'):=by
 intro As L
 exact dead H
theorem view_host_ok {h:PH} {σ:Type} {R:σ→PH→List HProp→Prop} {pv0:Value} {v1:ruleview} (pr0:Pt Vruleview h pv0 v1) {pc1:List Value} {r2:apiRule} (pr1:VapiRule h pc1 r2) {pv2:Value} {f3:σ→Int→(List Int)→Option σ} (pr2:CY211 R h pv2 f3) {s0:σ} {La:List HProp} (hRa:R s0 h La) {q_s:σ} (H:view_host v1 r2 f3 s0 = some q_s):∀ As L,FnS Tryz.prog 146 [pv0,.agg pc1.toArray,pv2] h ((As ++ (La ++ L))) (fun v h' L'=>∃ La',v = .tuple #[]∧L' = (As ++ (La' ++ L))∧R q_s h' La'):=by
 intro As L
 exact dead H
theorem view_fill_ok {h:PH} {σ:Type} {R:σ→PH→List HProp→Prop} {pv0:Value} {v1:ruleview} (pr0:Pt Vruleview h pv0 v1) {pc1:List Value} {r2:apiRule} (pr1:VapiRule h pc1 r2) {pv2:Value} {f3:σ→Int→(List Int)→Option σ} (pr2:CY211 R h pv2 f3) {s0:σ} {La:List HProp} (hRa:R s0 h La) {q_s:σ} (H:view_fill v1 r2 f3 s0 = some q_s):∀ As L,FnS Tryz.prog 152 [pv0,.agg pc1.toArray,pv2] h ((As ++ (La ++ L))) (fun v h' L'=>∃ La',v = .tuple #[]∧L' = (As ++ (La' ++ L))∧R q_s h' La'):=by
 intro As L
 exact dead H
theorem view_limit_ok {h:PH} {σ:Type} {R:σ→PH→List HProp→Prop} {pv0:Value} {v1:ruleview} (pr0:Pt Vruleview h pv0 v1) {pc1:List Value} {r2:apiRule} (pr1:VapiRule h pc1 r2) {pv2:Value} {f3:σ→Int→(List Int)→Option σ} (pr2:CY211 R h pv2 f3) {s0:σ} {La:List HProp} (hRa:R s0 h La) {q_s:σ} (H:view_limit v1 r2 f3 s0 = some q_s):∀ As L,FnS Tryz.prog 153 [pv0,.agg pc1.toArray,pv2] h ((As ++ (La ++ L))) (fun v h' L'=>∃ La',v = .tuple #[]∧L' = (As ++ (La' ++ L))∧R q_s h' La'):=by
 intro As L
 exact dead H
end Go.Proofs.X
