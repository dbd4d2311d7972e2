import Derived.Test.YtdbhilnjelhcpaaGreatChecked
import Derived.KernelRfl
import Derived.Test.YtdbhilnjelhcpaaGreatV
import Derived.Test.YtdbhilnjelhcpaaGreatL9
import Derived.Test.YtdbhilnjelhcpaaGreatDa
/- The walks: each function computes what its Lean function says. -/
set_option maxRecDepth 1000000
set_option maxHeartbeats 40000000
set_option linter.unusedVariables false
set_option linter.unusedSimpArgs false
set_option linter.unnecessarySimpa false
open Go Go.Proofs Go.Sl Go.Dm
namespace Go.Proofs.X
theorem slmixed : Tryz.prog.follows .mixedOrders = true := by kernel_rfl
theorem elsl_22 : elSh Tryz.prog 22 = some (9, 1, 16) := by kernel_rfl
theorem elsl_24 : elSh Tryz.prog 24 = some (3, 1, 8) := by kernel_rfl
theorem elsl_27 : elSh Tryz.prog 27 = some (26, 7, 80) := by kernel_rfl
theorem elsl_28 : elSh Tryz.prog 28 = some (38, 9, 112) := by kernel_rfl
theorem elsl_29 : elSh Tryz.prog 29 = some (170, 3, 40) := by kernel_rfl
theorem elsl_30 : elSh Tryz.prog 30 = some (41, 6, 72) := by kernel_rfl
theorem shsl_26 : tySh Tryz.prog 26 = some (true, 7) := by kernel_rfl
theorem shsl_3 : tySh Tryz.prog 3 = some (false, 1) := by kernel_rfl
theorem shsl_38 : tySh Tryz.prog 38 = some (true, 9) := by kernel_rfl
theorem zesl_170 : zer Tryz.prog 170 = some (.agg #[.string ⟨#[]⟩, .string ⟨#[]⟩, .int .u8 (0)]) := by kernel_rfl
theorem zesl_26 : zer Tryz.prog 26 = some (.agg #[.string ⟨#[]⟩, .int .u8 (0), .int .i64 (0), .int .i64 (0), .slice none 0 0, .int .i64 (0), .int .i64 (0)]) := by kernel_rfl
theorem zesl_3 : zer Tryz.prog 3 = some (.int .i64 (0)) := by kernel_rfl
theorem zesl_38 : zer Tryz.prog 38 = some (.agg #[.string ⟨#[]⟩, .string ⟨#[]⟩, .string ⟨#[]⟩, .int .i64 (0), .int .i64 (0), .string ⟨#[]⟩, .bool false, .bool false, .slice none 0 0]) := by kernel_rfl
theorem zesl_41 : zer Tryz.prog 41 = some (.agg #[.int .u8 (0), .int .i64 (0), .string ⟨#[]⟩, .string ⟨#[]⟩, .string ⟨#[]⟩, .int .i64 (0)]) := by kernel_rfl
theorem zesl_9 : zer Tryz.prog 9 = some (.string ⟨#[]⟩) := by kernel_rfl
theorem sl_IndexInt_ok {h:PH} {pv0:Value} {s1:List Int} (pr0:Slc (VI .i64) 1 h pv0 s1) {v2:Int} {r_0:Int} (H:sl_IndexInt s1 v2 = some r_0):∀ L,FnS Tryz.prog 36 [pv0,.int .i64 v2] h (L) (fun v h' L'=>v = .int .i64 r_0∧L' = L):=by
 intro L
 refine FnS.enter Tryz.func36 z Tryz.ntmps36 z<|Sr<|Ag z<|Nt<|Sq<|Sr<|Mv z<|Vv (V.lenS elsl_24 z pr0)<|Mv z<|Nt ?_
 obtain ⟨e,j,f⟩:=bndK H
 refine T.cutK (α:=Unit) [] z (fun _u=>[]) (fun _u=>L) (fun _u hh=>e = (Sum.inl ())) ?_ ?_
 ·have H:=j
  refine Bl<|T.loopK (α:=Nat×Int) [0,1,7] z (fun ⟨a,b⟩=>[(8,.int .i64 b)]) (fun ⟨a,b⟩=>L) (fun ⟨a,b⟩ hh=>iter (sl_IndexInt_l0 s1 v2) a b = some e) (fun ⟨a,b⟩=>a) (FUEL,(0:Int)) ⟨z,trivial⟩ z H ?_
  rintro ⟨a,b⟩ s c k
  obtain ⟨m,t,rfl,H,d⟩:=iter_go k
  refine T.norm [8,0,1,7] z<|Sl_ (L) z<|Sr<|Vv (V.lt z z)<|Nt<|Sq<|T.cH H z (fun H=>?_) (fun H=>?_)
  ·refine T.skip<|Th<|Sq<|Bl<|Sr<|Mv z<|Ag z<|Nt<|Sr<|Mv z<|Mv z<|Mv z ?_
   obtain ⟨u,g,H⟩:=bnd H
   have i:=Slc.mono VI.mono pr0 c
   obtain ⟨w,n,rfl⟩:=Slc.at i g
   refine Vv (V.ix elsl_24 z z i (getI_bd g))<|Vv (V.ld0 shsl_3 z n z)<|Vv (V.eq z z)<|Nt<|T.cH H z (fun H=>?_) (fun H=>?_)
   ·refine Sr<|Mv z<|Ag z<|Nt<|T.ret<|Br<|Tr<|Tr<|have H:=iterK_out H d; Br<|Tr<|have H:=cutE H f; ?_
    obtain rfl:=Option.some.inj H
    exact T.retL Tryz.results36 (Rv z) c ⟨z,z⟩
   refine T.skip<|Bn<|Th<|Rg ?_
   obtain ⟨o,p,H⟩:=bnd H
   refine Vv (V.addS z z p)<|Mv z<|Nt<|T.again (m,o) c (Nat.lt_succ_self _) (iterK_in H d) (AllIn.app ⟨z,trivial⟩ ⟨z,z,z,trivial⟩) z
  refine T.exit<|Te<|Te<|have H:=iterK_out H d; Be<|Th<|T.met () c H (AllIn.app trivial trivial) z
 rintro _ x q r
 have H:=cutE r f
 refine T.norm [] z<|Sl_ (L) z<|Sr<|Ag z<|Nt<|T.ret ?_
 obtain rfl:=Option.some.inj H
 exact T.retL Tryz.results36 (Rv z) q ⟨z,z⟩
theorem sl_ContainsInt_ok {h:PH} {pv0:Value} {s1:List Int} (pr0:Slc (VI .i64) 1 h pv0 s1) {v2:Int} {r_0:Bool} (H:sl_ContainsInt s1 v2 = some r_0):∀ L,FnS Tryz.prog 37 [pv0,.int .i64 v2] h (L) (fun v h' L'=>v = .bool r_0∧L' = L):=by
 intro L
 refine FnS.enter Tryz.func37 z Tryz.ntmps37 z<|Sr<|Ag z<|Nt<|Sr<|Mv z<|Mv z ?_
 obtain ⟨e,a,H⟩:=bnd H
 refine To (O.callS z (sl_IndexInt_ok pr0 a _) z fun f g i b c=>?_)
 obtain ⟨rfl,d⟩:=c
 refine Sl_ _ d<|Vv (V.ge z z)<|Ag z<|Nt<|T.ret ?_
 obtain rfl:=Option.some.inj H
 exact T.retL Tryz.results37 (Rv z) b ⟨z,z⟩
theorem sl_IndexFuncInt_ok {h:PH} {pv0:Value} {s1:List Int} (pr0:Slc (VI .i64) 1 h pv0 s1) {pv1:Value} {f2:Int→Option Bool} (pr1:CF138 h pv1 f2) {r_0:Int} (H:sl_IndexFuncInt s1 f2 = some r_0):∀ L,FnS Tryz.prog 229 [pv0,pv1] h (L) (fun v h' L'=>v = .int .i64 r_0∧L' = L):=by
 intro L
 refine FnS.enter Tryz.func229 z Tryz.ntmps229 z<|Sr<|Ag z<|Nt<|Sq<|Sr<|Mv z<|Vv (V.lenS elsl_24 z pr0)<|Mv z<|Nt ?_
 obtain ⟨b,c,d⟩:=bndK H
 refine T.cutK (α:=Unit) [] z (fun _u=>[]) (fun _u=>L) (fun _u hh=>b = ()) ?_ ?_
 ·have H:=c
  refine Bl<|T.loopK (α:=Nat) [7,8] z (fun a=>[]) (fun a=>L) (fun a hh=>iter (sl_IndexFuncInt_l0 s1) a () = some b) (fun a=>a) FUEL trivial z H ?_
  rintro a k e f
  obtain ⟨m,n,rfl,H,g⟩:=iter_go f
  refine T.norm [7,8] z<|Sl_ (L) z<|Sr<|Vv (V.lt z z)<|Nt<|Sq<|T.cH H z (fun H=>?_) (fun H=>?_)
  ·exact dead H
  refine T.exit<|Te<|Te<|have H:=iterK_out H g; Be<|Th<|T.met () e H (AllIn.app trivial trivial) z
 rintro _ o i j
 have H:=cutE j d
 refine T.norm [] z<|Sl_ (L) z<|Sr<|Ag z<|Nt<|T.ret ?_
 obtain rfl:=Option.some.inj H
 exact T.retL Tryz.results229 (Rv z) i ⟨z,z⟩
theorem sl_ContainsFuncInt_ok {h:PH} {pv0:Value} {s1:List Int} (pr0:Slc (VI .i64) 1 h pv0 s1) {pv1:Value} {f2:Int→Option Bool} (pr1:CF138 h pv1 f2) {r_0:Bool} (H:sl_ContainsFuncInt s1 f2 = some r_0):∀ L,FnS Tryz.prog 190 [pv0,pv1] h (L) (fun v h' L'=>v = .bool r_0∧L' = L):=by
 intro L
 refine FnS.enter Tryz.func190 z Tryz.ntmps190 z<|Sr<|Ag z<|Nt<|Sr<|Mv z<|Mv z ?_
 obtain ⟨e,a,H⟩:=bnd H
 refine To (O.callS z (sl_IndexFuncInt_ok pr0 pr1 a _) z fun f g i b c=>?_)
 obtain ⟨rfl,d⟩:=c
 refine Sl_ _ d<|Vv (V.ge z z)<|Ag z<|Nt<|T.ret ?_
 obtain rfl:=Option.some.inj H
 exact T.retL Tryz.results190 (Rv z) b ⟨z,z⟩
theorem sl_IndexFuncTable_ok {h:PH} {pv0:Value} {s1:List apiTable} (pr0:Slc VapiTable 7 h pv0 s1) {pv1:Value} {f2:apiTable→Option Bool} (pr1:CF249 h pv1 f2) {r_0:Int} (H:sl_IndexFuncTable s1 f2 = some r_0):∀ L,FnS Tryz.prog 208 [pv0,pv1] h (L) (fun v h' L'=>v = .int .i64 r_0∧L' = L):=by
 intro L
 refine FnS.enter Tryz.func208 z Tryz.ntmps208 z<|Sr<|Ag z<|Nt<|Sq<|Sr<|Mv z<|Vv (V.lenS elsl_27 z pr0)<|Mv z<|Nt ?_
 obtain ⟨e,k,m⟩:=bndK H
 refine T.cutK (α:=Unit) [] z (fun _u=>[]) (fun _u=>L) (fun _u hh=>e = ()) ?_ ?_
 ·have H:=k
  refine Bl<|T.loopK (α:=Nat×Int) [0,1,7] z (fun ⟨b,c⟩=>[(8,.int .i64 c)]) (fun ⟨b,c⟩=>L) (fun ⟨b,c⟩ hh=>iter (sl_IndexFuncTable_l0 s1 f2) b c = some e) (fun ⟨b,c⟩=>b) (FUEL,(0:Int)) ⟨z,trivial⟩ z H ?_
  rintro ⟨b,c⟩ n d o
  obtain ⟨p,I,rfl,H,f⟩:=iter_go o
  refine T.norm [8,0,1,7] z<|Sl_ (L) z<|Sr<|Vv (V.lt z z)<|Nt<|Sq<|T.cH H z (fun H=>?_) (fun H=>?_)
  ·refine T.skip<|Th<|Sq<|Bl<|Sr<|Mv z<|Ag z<|Nt<|Sr<|Mv z<|Mv z<|Mv z ?_
   obtain ⟨a,g,H⟩:=bnd H
   have i:=Slc.mono VapiTable.mono pr0 d
   obtain ⟨J,q,⟨j,rfl,r⟩⟩:=Slc.at i g
   refine Vv (V.ix elsl_27 rfl rfl i (getI_bd g))<|Vv (V.ldS rfl q (by exact shsl_26)) ?_
   obtain ⟨K,s,H⟩:=bnd H
   have t:=CF249.mono pr1 d
   obtain ⟨M,N,P,u,w⟩:=CF249.call t (show VapiTable n [.string a.fName,.int .u8 a.fShape,.int .i64 a.fA,.int .i64 a.fB,j,.int .i64 a.fX,.int .i64 a.fY] a from ⟨j,rfl,r⟩) s
   refine To (O.callfW z u z (w _) z fun S U W x y=>?_)
   obtain ⟨rfl,A⟩:=y
   refine Sl_ _ A<|Nt<|T.cH H z (fun H=>?_) (fun H=>?_)
   ·exact dead H
   refine T.skip<|Bn<|Th<|Rg ?_
   obtain ⟨B,C,H⟩:=bnd H
   refine Vv (V.addS z z C)<|Mv z<|Nt<|have D:=(d.trans x); T.again (p,B) D (Nat.lt_succ_self _) (iterK_in H f) (AllIn.app ⟨z,trivial⟩ ⟨z,z,z,trivial⟩) z
  refine T.exit<|Te<|Te<|have H:=iterK_out H f; Be<|Th<|T.met () d H (AllIn.app trivial trivial) z
 rintro _ X E G
 have H:=cutE G m
 refine T.norm [] z<|Sl_ (L) z<|Sr<|Ag z<|Nt<|T.ret ?_
 obtain rfl:=Option.some.inj H
 exact T.retL Tryz.results208 (Rv z) E ⟨z,z⟩
theorem sl_ContainsFuncTable_ok {h:PH} {pv0:Value} {s1:List apiTable} (pr0:Slc VapiTable 7 h pv0 s1) {pv1:Value} {f2:apiTable→Option Bool} (pr1:CF249 h pv1 f2) {r_0:Bool} (H:sl_ContainsFuncTable s1 f2 = some r_0):∀ L,FnS Tryz.prog 204 [pv0,pv1] h (L) (fun v h' L'=>v = .bool r_0∧L' = L):=by
 intro L
 refine FnS.enter Tryz.func204 z Tryz.ntmps204 z<|Sr<|Ag z<|Nt<|Sr<|Mv z<|Mv z ?_
 obtain ⟨e,a,H⟩:=bnd H
 refine To (O.callS z (sl_IndexFuncTable_ok pr0 pr1 a _) z fun f g i b c=>?_)
 obtain ⟨rfl,d⟩:=c
 refine Sl_ _ d<|Vv (V.ge z z)<|Ag z<|Nt<|T.ret ?_
 obtain rfl:=Option.some.inj H
 exact T.retL Tryz.results204 (Rv z) b ⟨z,z⟩
theorem sl_IndexFuncGuest_ok {h:PH} {pv0:Value} {s1:List apiGuest} (pr0:Slc VapiGuest 9 h pv0 s1) {pv1:Value} {f2:apiGuest→Option Bool} (pr1:CF251 h pv1 f2) {r_0:Int} (H:sl_IndexFuncGuest s1 f2 = some r_0):∀ L,FnS Tryz.prog 206 [pv0,pv1] h (L) (fun v h' L'=>v = .int .i64 r_0∧L' = L):=by
 intro L
 refine FnS.enter Tryz.func206 z Tryz.ntmps206 z<|Sr<|Ag z<|Nt<|Sq<|Sr<|Mv z<|Vv (V.lenS elsl_28 z pr0)<|Mv z<|Nt ?_
 obtain ⟨k,m,n⟩:=bndK H
 have H:=m
 refine Bl<|T.loopK (α:=Nat×Int) [0,1,7] z (fun ⟨b,c⟩=>[(8,.int .i64 c)]) (fun ⟨b,c⟩=>L) (fun ⟨b,c⟩ hh=>iter (sl_IndexFuncGuest_l0 s1 f2) b c = some k) (fun ⟨b,c⟩=>b) (FUEL,(0:Int)) ⟨z,trivial⟩ z H ?_
 rintro ⟨b,c⟩ o d p
 obtain ⟨q,G,rfl,H,e⟩:=iter_go p
 refine T.norm [8,0,1,7] z<|Sl_ (L) z<|Sr<|Vv (V.lt z z)<|Nt<|Sq<|T.cH H z (fun H=>?_) (fun H=>?_)
 ·refine T.skip<|Th<|Sq<|Bl<|Sr<|Mv z<|Ag z<|Nt<|Sr<|Mv z<|Mv z<|Mv z ?_
  obtain ⟨a,f,H⟩:=bnd H
  have g:=Slc.mono VapiGuest.mono pr0 d
  obtain ⟨I,r,⟨i,rfl,s⟩⟩:=Slc.at g f
  refine Vv (V.ix elsl_28 rfl rfl g (getI_bd f))<|Vv (V.ldS rfl r (by exact shsl_38)) ?_
  obtain ⟨J,t,H⟩:=bnd H
  have u:=CF251.mono pr1 d
  obtain ⟨K,M,N,w,x⟩:=CF251.call u (show VapiGuest o [.string a.fName,.string a.fRank,.string a.fCourt,.int .i64 a.fSince,.int .i64 a.fSide,.string a.fDiet,.bool a.fHost,.bool a.fAccess,i] a from ⟨i,rfl,s⟩) t
  refine To (O.callfW z w z (x _) z fun P S U j y=>?_)
  obtain ⟨rfl,A⟩:=y
  refine Sl_ _ A<|Nt<|T.cH H z (fun H=>?_) (fun H=>?_)
  ·refine Sr<|Mv z<|Ag z<|Nt<|T.ret<|Br<|Tr<|Tr<|have H:=iterK_out H e; Br<|have H:=cutE H n; Tr ?_
   obtain rfl:=Option.some.inj H
   have B:=(d.trans j)
   exact T.retL Tryz.results206 (Rv z) B ⟨z,z⟩
  refine T.skip<|Bn<|Th<|Rg ?_
  obtain ⟨C,D,H⟩:=bnd H
  refine Vv (V.addS z z D)<|Mv z<|Nt<|have E:=(d.trans j); T.again (q,C) E (Nat.lt_succ_self _) (iterK_in H e) (AllIn.app ⟨z,trivial⟩ ⟨z,z,z,trivial⟩) z
 exact dead H
theorem sl_IndexStr_ok {h:PH} {pv0:Value} {s1:List ByteArray} (pr0:Slc VS 1 h pv0 s1) {v2:ByteArray} {r_0:Int} (H:sl_IndexStr s1 v2 = some r_0):∀ L,FnS Tryz.prog 165 [pv0,.string v2] h (L) (fun v h' L'=>v = .int .i64 r_0∧L' = L):=by
 intro L
 exact dead H
theorem sl_ContainsStr_ok {h:PH} {pv0:Value} {s1:List ByteArray} (pr0:Slc VS 1 h pv0 s1) {v2:ByteArray} {r_0:Bool} (H:sl_ContainsStr s1 v2 = some r_0):∀ L,FnS Tryz.prog 119 [pv0,.string v2] h (L) (fun v h' L'=>v = .bool r_0∧L' = L):=by
 intro L
 exact dead H
theorem sl_IndexFuncStr_ok {h:PH} {pv0:Value} {s1:List ByteArray} (pr0:Slc VS 1 h pv0 s1) {pv1:Value} {f2:ByteArray→Option Bool} (pr1:CF188 h pv1 f2) {r_0:Int} (H:sl_IndexFuncStr s1 f2 = some r_0):∀ L,FnS Tryz.prog 164 [pv0,pv1] h (L) (fun v h' L'=>v = .int .i64 r_0∧L' = L):=by
 intro L
 exact dead H
theorem cmp_isNaNInt_ok {h:PH} {x1:Int} {r_0:Bool} (H:cmp_isNaNInt x1 = some r_0):∀ L,FnS Tryz.prog 254 [.int .i64 x1] h (L) (fun v h' L'=>v = .bool r_0∧L' = L):=by
 intro L
 refine FnS.enter Tryz.func254 z Tryz.ntmps254 z<|Sr<|Ag z<|Nt<|Sr<|Mv z<|Mv z<|Vv (V.ne z z)<|Ag z<|Nt<|T.ret ?_
 obtain rfl:=Option.some.inj H
 exact T.retL Tryz.results254 (Rv z) Lr ⟨z,z⟩
theorem cmp_CompareInt_ok {h:PH} {x1:Int} {y2:Int} {r_0:Int} (H:cmp_CompareInt x1 y2 = some r_0):∀ L,FnS Tryz.prog 232 [.int .i64 x1,.int .i64 y2] h (L) (fun v h' L'=>v = .int .i64 r_0∧L' = L):=by
 intro L
 refine FnS.enter Tryz.func232 z Tryz.ntmps232 z<|Sr<|Ag z<|Nt<|Sr<|Mv z ?_
 obtain ⟨n,c,H⟩:=bnd H
 refine To (O.callS z (cmp_isNaNInt_ok c _) z fun o p q a d=>?_)
 obtain ⟨rfl,e⟩:=d
 refine Sl_ _ e<|Ag z<|Nt<|Sr<|Mv z ?_
 obtain ⟨r,f,H⟩:=bnd H
 refine To (O.callS z (cmp_isNaNInt_ok f _) z fun s t u b g=>?_)
 obtain ⟨rfl,i⟩:=g
 refine Sl_ _ i<|Ag z<|Nt<|Sq<|Sr<|Mv z<|Nt<|T.cH H z (fun H=>?_) (fun H=>?_)
 ·exact dead H
 refine T.skip<|Th<|Sq<|Sr<|Mv z<|Nt<|T.cH H z (fun H=>?_) (fun H=>?_)
 ·exact dead H
 refine T.skip<|Th<|Sq<|Sr<|Mv z<|Mv z<|Vv (V.lt z z)<|Nt<|T.cH H z (fun H=>?_) (fun H=>?_)
 ·refine Sr<|Ag z<|Nt<|T.ret<|Tr ?_
  obtain rfl:=Option.some.inj H
  have j:=(a.trans b)
  exact T.retL Tryz.results232 (Rv z) j ⟨z,z⟩
 refine T.skip<|Th<|Sq<|Sr<|Mv z<|Mv z<|Vv (V.gt z z)<|Nt<|T.cH H z (fun H=>?_) (fun H=>?_)
 ·refine Sr<|Ag z<|Nt<|T.ret<|Tr ?_
  obtain rfl:=Option.some.inj H
  have k:=(a.trans b)
  exact T.retL Tryz.results232 (Rv z) k ⟨z,z⟩
 refine T.skip<|Th<|Sr<|Ag z<|Nt<|T.ret ?_
 obtain rfl:=Option.some.inj H
 have m:=(a.trans b)
 exact T.retL Tryz.results232 (Rv z) m ⟨z,z⟩
theorem cmp_LessInt_ok {h:PH} {x1:Int} {y2:Int} {r_0:Bool} (H:cmp_LessInt x1 y2 = some r_0):∀ L,FnS Tryz.prog 243 [.int .i64 x1,.int .i64 y2] h (L) (fun v h' L'=>v = .bool r_0∧L' = L):=by
 intro L
 exact dead H
theorem sl_CompareInt_ok {h:PH} {pv0:Value} {s11:List Int} (pr0:Slc (VI .i64) 1 h pv0 s11) {pv1:Value} {s22:List Int} (pr1:Slc (VI .i64) 1 h pv1 s22) {r_0:Int} (H:sl_CompareInt s11 s22 = some r_0):∀ L,FnS Tryz.prog 196 [pv0,pv1] h (L) (fun v h' L'=>v = .int .i64 r_0∧L' = L):=by
 intro L
 refine FnS.enter Tryz.func196 z Tryz.ntmps196 z<|Sr<|Ag z<|Nt<|Sq<|Sr<|Mv z<|Vv (V.lenS elsl_24 z pr0)<|Mv z<|Nt ?_
 obtain ⟨g,o,i⟩:=bndK H
 refine T.cutK (α:=Unit) [0,1] z (fun _u=>[]) (fun _u=>L) (fun _u hh=>g = (Sum.inl ())) ?_ ?_
 ·have H:=o
  refine Bl<|T.loopK (α:=Nat×Int) [0,1,9,10] z (fun ⟨a,b⟩=>[(11,.int .i64 b)]) (fun ⟨a,b⟩=>L) (fun ⟨a,b⟩ hh=>iter (sl_CompareInt_l0 s11 s22) a b = some g) (fun ⟨a,b⟩=>a) (FUEL,(0:Int)) ⟨z,trivial⟩ z H ?_
  rintro ⟨a,b⟩ G c p
  obtain ⟨q,I,rfl,H,d⟩:=iter_go p
  refine T.norm [11,0,1,9,10] z<|Sl_ (L) z<|Sr<|Vv (V.lt z z)<|Nt<|Sq<|T.cH H z (fun H=>?_) (fun H=>?_)
  ·refine T.skip<|Th<|Sq<|Bl<|Sr<|Mv z ?_
   obtain ⟨J,j,H⟩:=bnd H
   have k:=Slc.mono VI.mono pr0 c
   obtain ⟨K,r,rfl⟩:=Slc.at k j
   refine Vv (V.ix elsl_24 z z k (getI_bd j))<|Vv (V.ld0 shsl_3 z r z)<|Ag z<|Ag z<|Nt<|Sq<|Sr<|Mv z<|Mv z<|have e:=Slc.mono VI.mono pr1 c; Vv (V.lenS elsl_24 z e)<|Vv (V.ge z z)<|Nt<|T.cH H z (fun H=>?_) (fun H=>?_)
   ·exact dead H
   refine T.skip<|Th<|Sr<|Mv z<|Mv z ?_
   obtain ⟨M,m,H⟩:=bnd H
   obtain ⟨N,s,rfl⟩:=Slc.at e m
   refine Vv (V.ix elsl_24 z z e (getI_bd m))<|Vv (V.ld0 shsl_3 z s z)<|Ag z<|Nt<|Sr<|Mv z<|Mv z ?_
   obtain ⟨P,t,H⟩:=bnd H
   refine To (O.callS z (cmp_CompareInt_ok t _) z fun S U W n u=>?_)
   obtain ⟨rfl,w⟩:=u
   refine Sl_ _ w<|Ag z<|Nt<|Sr<|Mv z<|Vv (V.ne z z)<|Nt<|T.cH H z (fun H=>?_) (fun H=>?_)
   ·refine Sr<|Mv z<|Ag z<|Nt<|T.ret<|Br<|Tr<|Tr<|have H:=iterK_out H d; Br<|Tr<|have H:=cutE H i; ?_
    obtain rfl:=Option.some.inj H
    have x:=(c.trans n)
    exact T.retL Tryz.results196 (Rv z) x ⟨z,z⟩
   refine T.skip<|Bn<|Th<|Rg ?_
   obtain ⟨y,A,H⟩:=bnd H
   refine Vv (V.addS z z A)<|Mv z<|Nt<|have B:=(c.trans n); T.again (q,y) B (Nat.lt_succ_self _) (iterK_in H d) (AllIn.app ⟨z,trivial⟩ ⟨z,z,z,z,trivial⟩) z
  refine T.exit<|Te<|Te<|have H:=iterK_out H d; Be<|Th<|T.met () c H (AllIn.app trivial ⟨z,z,trivial⟩) z
 rintro _ X f C
 have H:=cutE C i
 refine T.norm [0,1] z<|Sl_ (L) z<|Sq<|Sr<|Mv z<|have D:=Slc.mono VI.mono pr0 f; Vv (V.lenS elsl_24 z D)<|Mv z<|have E:=Slc.mono VI.mono pr1 f; Vv (V.lenS elsl_24 z E)<|Vv (V.lt z z)<|Nt<|T.cH H z (fun H=>?_) (fun H=>?_)
 ·exact dead H
 refine T.skip<|Th<|Sr<|Ag z<|Nt<|T.ret ?_
 obtain rfl:=Option.some.inj H
 exact T.retL Tryz.results196 (Rv z) f ⟨z,z⟩
theorem sl_EqualInt_ok {h:PH} {pv0:Value} {s11:List Int} (pr0:Slc (VI .i64) 1 h pv0 s11) {pv1:Value} {s22:List Int} (pr1:Slc (VI .i64) 1 h pv1 s22) {r_0:Bool} (H:sl_EqualInt s11 s22 = some r_0):∀ L,FnS Tryz.prog 198 [pv0,pv1] h (L) (fun v h' L'=>v = .bool r_0∧L' = L):=by
 intro L
 refine FnS.enter Tryz.func198 z Tryz.ntmps198 z<|Sr<|Ag z<|Nt<|Sq<|Sr<|Mv z<|Vv (V.lenS elsl_24 z pr0)<|Mv z<|Vv (V.lenS elsl_24 z pr1)<|Vv (V.ne z z)<|Nt<|T.cH H z (fun H=>?_) (fun H=>?_)
 ·exact dead H
 refine T.skip<|Th<|Sq<|Sr<|Mv z<|Vv (V.lenS elsl_24 z pr0)<|Mv z<|Nt ?_
 obtain ⟨e,m,f⟩:=bndK H
 refine T.cutK (α:=Unit) [] z (fun _u=>[]) (fun _u=>L) (fun _u hh=>e = (Sum.inl ())) ?_ ?_
 ·have H:=m
  refine Bl<|T.loopK (α:=Nat×Int) [0,1,12] z (fun ⟨a,b⟩=>[(13,.int .i64 b)]) (fun ⟨a,b⟩=>L) (fun ⟨a,b⟩ hh=>iter (sl_EqualInt_l0 s11 s22) a b = some e) (fun ⟨a,b⟩=>a) (FUEL,(0:Int)) ⟨z,trivial⟩ z H ?_
  rintro ⟨a,b⟩ x c n
  obtain ⟨o,y,rfl,H,d⟩:=iter_go n
  refine T.norm [13,0,1,12] z<|Sl_ (L) z<|Sr<|Vv (V.lt z z)<|Nt<|Sq<|T.cH H z (fun H=>?_) (fun H=>?_)
  ·refine T.skip<|Th<|Sq<|Bl<|Sr<|Mv z<|Ag z<|Nt<|Sq<|T.drawF (t:=(.v 0 (.v 1 (.v 2 (.v 3 (.v 4 (.v 5 (.v 6 (.v 7 (.v 8 .done)))))))))) 10 0 0 rfl rfl slmixed (by kernel_rfl) ?_
   refine Tm z z<|Tm z z ?_
   obtain ⟨A,g,H⟩:=bnd H
   have i:=Slc.mono VI.mono pr0 c
   obtain ⟨B,p,rfl⟩:=Slc.at i g
   refine Tv z (V.ix elsl_24 z z i (getI_bd g))<|Tv z (V.ld0 shsl_3 z p z)<|Tm z z<|Tm z z ?_
   obtain ⟨C,j,H⟩:=bnd H
   have k:=Slc.mono VI.mono pr1 c
   obtain ⟨D,q,rfl⟩:=Slc.at k j
   refine Tv z (V.ix elsl_24 z z k (getI_bd j))<|Tv z (V.ld0 shsl_3 z q z)<|Tv z (V.ne z z)<|T.tnil (SX.two (XA.fr [] Lr z) (XA.fr [] Lr z))<|Th<|T.cH H z (fun H=>?_) (fun H=>?_)
   ·refine Sr<|Ag z<|Nt<|T.ret<|Br<|Tr<|Tr<|have H:=iterK_out H d; Br<|Tr<|have H:=cutE H f; ?_
    obtain rfl:=Option.some.inj H
    exact T.retL Tryz.results198 (Rv z) c ⟨z,z⟩
   refine T.skip<|Bn<|Th<|Rg ?_
   obtain ⟨r,s,H⟩:=bnd H
   refine Vv (V.addS z z s)<|Mv z<|Nt<|T.again (o,r) c (Nat.lt_succ_self _) (iterK_in H d) (AllIn.app ⟨z,trivial⟩ ⟨z,z,z,trivial⟩) z
  refine T.exit<|Te<|Te<|have H:=iterK_out H d; Be<|Th<|T.met () c H (AllIn.app trivial trivial) z
 rintro _ E u w
 have H:=cutE w f
 refine T.norm [] z<|Sl_ (L) z<|Sr<|Ag z<|Nt<|T.ret ?_
 obtain rfl:=Option.some.inj H
 exact T.retL Tryz.results198 (Rv z) u ⟨z,z⟩
theorem sl_CloneInt_ok {h:PH} {pv0:Value} {s1:List Int} (pr0:Slc (VI .i64) 1 h pv0 s1) {r_0:List Int} (H:sl_CloneInt s1 = some r_0):∀ L,FnS Tryz.prog 17 [pv0] h (L) (fun v h' L'=>∃ cs0,L' = rowR 3 1 v cs0::L∧RowF (VI .i64) h' cs0 r_0):=by
 intro L
 refine FnS.enter Tryz.func17 z Tryz.ntmps17 z<|Sr<|Ag z<|Nt<|Sq<|Sr<|Mv z<|Vv (V.nilEq elsl_24 z pr0)<|Nt<|T.cond (b:=nilB pv0) z (fun c=>?_) (fun c=>?_)
 ·have H:=cloneNil (Slc.nilB pr0 c) H
  refine Sr<|Ag z<|Nt<|T.ret<|Tr<|T.rowNil 3 1<|have g:RowF (VI .i64) h [] ([]:List Int):=RowF.nil; ?_
  obtain rfl:=Option.some.inj H
  exact T.retL Tryz.results17 (Rv z) Lr ⟨_,z,g⟩
 refine T.skip<|Th<|Sr<|To (O.bs0 elsl_24 z fun n=>have d:RowF (VI .i64) h [] ([]:List Int):=RowF.nil; Mv z ?_)
 obtain ⟨i,e,a⟩:=Slc.row pr0
 obtain ⟨k,f,H⟩:=bnd H
 refine To (O.apX elsl_24 elsl_24 zesl_3 z z z (j:=0) z (Src.fix e) e.wide (RowF.ones VI.plain a) d a f z fun o p q=>have m:RowF (VI .i64) h ([] ++ i) k:=RowF.ap d a f; Ag z<|Nt<|T.ret ?_)
 obtain rfl:=Option.some.inj H
 exact T.retL Tryz.results17 (Rv z) Lr ⟨_,z,m⟩
theorem sl_CloneTable_ok {h:PH} {pv0:Value} {s1:List apiTable} (pr0:Slc VapiTable 7 h pv0 s1) {r_0:List apiTable} (H:sl_CloneTable s1 = some r_0):∀ L,FnS Tryz.prog 82 [pv0] h (L) (fun v h' L'=>∃ cs0,L' = rowR 26 7 v cs0::L∧RowF VapiTable h' cs0 r_0):=by
 intro L
 refine FnS.enter Tryz.func82 z Tryz.ntmps82 z<|Sr<|Ag z<|Nt<|Sq<|Sr<|Mv z<|Vv (V.nilEq elsl_27 z pr0)<|Nt<|T.cond (b:=nilB pv0) z (fun c=>?_) (fun c=>?_)
 ·have H:=cloneNil (Slc.nilB pr0 c) H
  refine Sr<|Ag z<|Nt<|T.ret<|Tr<|T.rowNil 26 7<|have g:RowF VapiTable h [] ([]:List apiTable):=RowF.nil; ?_
  obtain rfl:=Option.some.inj H
  exact T.retL Tryz.results82 (Rv z) Lr ⟨_,z,g⟩
 refine T.skip<|Th<|Sr<|To (O.bs0 elsl_27 z fun n=>have d:RowF VapiTable h [] ([]:List apiTable):=RowF.nil; Mv z ?_)
 obtain ⟨i,e,a⟩:=Slc.row pr0
 obtain ⟨k,f,H⟩:=bnd H
 refine To (O.apX elsl_27 elsl_27 zesl_26 z z z (j:=0) z (Src.fix e) e.wide (RowF.ones VapiTable.plain a) d a f z fun o p q=>have m:RowF VapiTable h ([] ++ i) k:=RowF.ap d a f; Ag z<|Nt<|T.ret ?_)
 obtain rfl:=Option.some.inj H
 exact T.retL Tryz.results82 (Rv z) Lr ⟨_,z,m⟩
theorem sl_CloneGuest_ok {h:PH} {pv0:Value} {s1:List apiGuest} (pr0:Slc VapiGuest 9 h pv0 s1) {r_0:List apiGuest} (H:sl_CloneGuest s1 = some r_0):∀ L,FnS Tryz.prog 83 [pv0] h (L) (fun v h' L'=>∃ cs0,L' = rowR 38 9 v cs0::L∧RowF VapiGuest h' cs0 r_0):=by
 intro L
 refine FnS.enter Tryz.func83 z Tryz.ntmps83 z<|Sr<|Ag z<|Nt<|Sq<|Sr<|Mv z<|Vv (V.nilEq elsl_28 z pr0)<|Nt<|T.cond (b:=nilB pv0) z (fun c=>?_) (fun c=>?_)
 ·have H:=cloneNil (Slc.nilB pr0 c) H
  refine Sr<|Ag z<|Nt<|T.ret<|Tr<|T.rowNil 38 9<|have g:RowF VapiGuest h [] ([]:List apiGuest):=RowF.nil; ?_
  obtain rfl:=Option.some.inj H
  exact T.retL Tryz.results83 (Rv z) Lr ⟨_,z,g⟩
 refine T.skip<|Th<|Sr<|To (O.bs0 elsl_28 z fun n=>have d:RowF VapiGuest h [] ([]:List apiGuest):=RowF.nil; Mv z ?_)
 obtain ⟨i,e,a⟩:=Slc.row pr0
 obtain ⟨k,f,H⟩:=bnd H
 refine To (O.apX elsl_28 elsl_28 zesl_38 z z z (j:=0) z (Src.fix e) e.wide (RowF.ones VapiGuest.plain a) d a f z fun o p q=>have m:RowF VapiGuest h ([] ++ i) k:=RowF.ap d a f; Ag z<|Nt<|T.ret ?_)
 obtain rfl:=Option.some.inj H
 exact T.retL Tryz.results83 (Rv z) Lr ⟨_,z,m⟩
theorem sl_CloneStr_ok {h:PH} {pv0:Value} {s1:List ByteArray} (pr0:Slc VS 1 h pv0 s1) {r_0:List ByteArray} (H:sl_CloneStr s1 = some r_0):∀ L,FnS Tryz.prog 84 [pv0] h (L) (fun v h' L'=>∃ cs0,L' = rowR 9 1 v cs0::L∧RowF VS h' cs0 r_0):=by
 intro L
 refine FnS.enter Tryz.func84 z Tryz.ntmps84 z<|Sr<|Ag z<|Nt<|Sq<|Sr<|Mv z<|Vv (V.nilEq elsl_22 z pr0)<|Nt<|T.cond (b:=nilB pv0) z (fun c=>?_) (fun c=>?_)
 ·have H:=cloneNil (Slc.nilB pr0 c) H
  refine Sr<|Ag z<|Nt<|T.ret<|Tr<|T.rowNil 9 1<|have g:RowF VS h [] ([]:List ByteArray):=RowF.nil; ?_
  obtain rfl:=Option.some.inj H
  exact T.retL Tryz.results84 (Rv z) Lr ⟨_,z,g⟩
 refine T.skip<|Th<|Sr<|To (O.bs0 elsl_22 z fun n=>have d:RowF VS h [] ([]:List ByteArray):=RowF.nil; Mv z ?_)
 obtain ⟨i,e,a⟩:=Slc.row pr0
 obtain ⟨k,f,H⟩:=bnd H
 refine To (O.apX elsl_22 elsl_22 zesl_9 z z z (j:=0) z (Src.fix e) e.wide (RowF.ones VS.plain a) d a f z fun o p q=>have m:RowF VS h ([] ++ i) k:=RowF.ap d a f; Ag z<|Nt<|T.ret ?_)
 obtain rfl:=Option.some.inj H
 exact T.retL Tryz.results84 (Rv z) Lr ⟨_,z,m⟩
theorem sl_CloneTie_ok {h:PH} {pv0:Value} {s1:List apiTie} (pr0:Slc VapiTie 3 h pv0 s1) {r_0:List apiTie} (H:sl_CloneTie s1 = some r_0):∀ L,FnS Tryz.prog 85 [pv0] h (L) (fun v h' L'=>∃ cs0,L' = rowR 170 3 v cs0::L∧RowF VapiTie h' cs0 r_0):=by
 intro L
 refine FnS.enter Tryz.func85 z Tryz.ntmps85 z<|Sr<|Ag z<|Nt<|Sq<|Sr<|Mv z<|Vv (V.nilEq elsl_29 z pr0)<|Nt<|T.cond (b:=nilB pv0) z (fun c=>?_) (fun c=>?_)
 ·have H:=cloneNil (Slc.nilB pr0 c) H
  refine Sr<|Ag z<|Nt<|T.ret<|Tr<|T.rowNil 170 3<|have g:RowF VapiTie h [] ([]:List apiTie):=RowF.nil; ?_
  obtain rfl:=Option.some.inj H
  exact T.retL Tryz.results85 (Rv z) Lr ⟨_,z,g⟩
 refine T.skip<|Th<|Sr<|To (O.bs0 elsl_29 z fun n=>have d:RowF VapiTie h [] ([]:List apiTie):=RowF.nil; Mv z ?_)
 obtain ⟨i,e,a⟩:=Slc.row pr0
 obtain ⟨k,f,H⟩:=bnd H
 refine To (O.apX elsl_29 elsl_29 zesl_170 z z z (j:=0) z (Src.fix e) e.wide (RowF.ones VapiTie.plain a) d a f z fun o p q=>have m:RowF VapiTie h ([] ++ i) k:=RowF.ap d a f; Ag z<|Nt<|T.ret ?_)
 obtain rfl:=Option.some.inj H
 exact T.retL Tryz.results85 (Rv z) Lr ⟨_,z,m⟩
theorem sl_CloneRule_ok {h:PH} {pv0:Value} {s1:List apiRule} (pr0:Slc VapiRule 6 h pv0 s1) {r_0:List apiRule} (H:sl_CloneRule s1 = some r_0):∀ L,FnS Tryz.prog 86 [pv0] h (L) (fun v h' L'=>∃ cs0,L' = rowR 41 6 v cs0::L∧RowF VapiRule h' cs0 r_0):=by
 intro L
 refine FnS.enter Tryz.func86 z Tryz.ntmps86 z<|Sr<|Ag z<|Nt<|Sq<|Sr<|Mv z<|Vv (V.nilEq elsl_30 z pr0)<|Nt<|T.cond (b:=nilB pv0) z (fun c=>?_) (fun c=>?_)
 ·have H:=cloneNil (Slc.nilB pr0 c) H
  refine Sr<|Ag z<|Nt<|T.ret<|Tr<|T.rowNil 41 6<|have g:RowF VapiRule h [] ([]:List apiRule):=RowF.nil; ?_
  obtain rfl:=Option.some.inj H
  exact T.retL Tryz.results86 (Rv z) Lr ⟨_,z,g⟩
 refine T.skip<|Th<|Sr<|To (O.bs0 elsl_30 z fun n=>have d:RowF VapiRule h [] ([]:List apiRule):=RowF.nil; Mv z ?_)
 obtain ⟨i,e,a⟩:=Slc.row pr0
 obtain ⟨k,f,H⟩:=bnd H
 refine To (O.apX elsl_30 elsl_30 zesl_41 z z z (j:=0) z (Src.fix e) e.wide (RowF.ones VapiRule.plain a) d a f z fun o p q=>have m:RowF VapiRule h ([] ++ i) k:=RowF.ap d a f; Ag z<|Nt<|T.ret ?_)
 obtain rfl:=Option.some.inj H
 exact T.retL Tryz.results86 (Rv z) Lr ⟨_,z,m⟩
end Go.Proofs.X
open Go Go.Proofs Go.Sl Go.Dm
namespace Go.Proofs.X
theorem sortmixed : Tryz.prog.follows .mixedOrders = true := by kernel_rfl
theorem elsort_24 : elSh Tryz.prog 24 = some (3, 1, 8) := by kernel_rfl
theorem elsort_80 : elSh Tryz.prog 80 = some (92, 3, 24) := by kernel_rfl
theorem elsort_87 : elSh Tryz.prog 87 = some (24, 1, 24) := by kernel_rfl
theorem shsort_24 : tySh Tryz.prog 24 = some (false, 1) := by kernel_rfl
theorem shsort_92 : tySh Tryz.prog 92 = some (true, 3) := by kernel_rfl
theorem bits_Len32_ok {h:PH} {x1:Int} {r_0:Int} (H:bits_Len32 x1 = some r_0):∀ L,FnS Tryz.prog 135 [.int .u32 x1] h (L) (fun v h' L'=>v = .int .i64 r_0∧L' = L):=by
 intro L
 exact dead H
theorem bits_Len64_ok {h:PH} {x1:Int} {r_0:Int} (H:bits_Len64 x1 = some r_0):∀ L,FnS Tryz.prog 136 [.int .u64 x1] h (L) (fun v h' L'=>v = .int .i64 r_0∧L' = L):=by
 intro L
 refine FnS.enter Tryz.func136 z Tryz.ntmps136 z<|Sr<|Ag z<|Nt<|Sq<|Sr<|Mv z<|Vv (V.ge z z)<|Nt<|T.cH H z (fun H=>?_) (fun H=>?_)
 ·exact dead H
 refine T.skip<|Th<|Sq<|Sr<|Mv z<|Vv (V.ge z z)<|Nt<|T.cH H z (fun H=>?_) (fun H=>?_)
 ·exact dead H
 refine T.skip<|Th<|Sq<|Sr<|Mv z<|Vv (V.ge z z)<|Nt<|T.cH H z (fun H=>?_) (fun H=>?_)
 ·exact dead H
 refine T.skip<|Th<|Sr<|Mv z<|Mv z ?_
 obtain ⟨e,a,H⟩:=bnd H
 refine Vv (V.convS Tryz.underlying158 Tryz.underlying5 z a) ?_
 obtain ⟨f,b,H⟩:=bnd H
 refine Vv (V.idxS Tryz.underlying9 z z b) ?_
 obtain ⟨g,c,H⟩:=bnd H
 refine Vv (V.convS Tryz.underlying5 Tryz.underlying3 z c) ?_
 obtain ⟨i,d,H⟩:=bnd H
 refine Vv (V.addS z z d)<|Ag z<|Nt<|T.ret ?_
 obtain rfl:=Option.some.inj H
 exact T.retL Tryz.results136 (Rv z) Lr ⟨z,z⟩
theorem bits_Len_ok {h:PH} {x1:Int} {r_0:Int} (H:bits_Len x1 = some r_0):∀ L,FnS Tryz.prog 76 [.int .u64 x1] h (L) (fun v h' L'=>v = .int .i64 r_0∧L' = L):=by
 intro L
 refine FnS.enter Tryz.func76 z Tryz.ntmps76 z<|Sr<|Ag z<|Nt<|Sq<|Cf z<|T.skip<|Th<|Sr<|Mv z ?_
 obtain ⟨e,a,H⟩:=bnd H
 refine To (O.callS z (bits_Len64_ok a _) z fun f g i b c=>?_)
 obtain ⟨rfl,d⟩:=c
 refine Sl_ _ d<|Ag z<|Nt<|T.ret ?_
 obtain rfl:=Option.some.inj H
 exact T.retL Tryz.results76 (Rv z) b ⟨z,z⟩
theorem sl_insOrd_ok {h:PH} {pv0:Value} {pcs0:List (List Value)} {data1:List Int} (pr0:RowF (VI .i64) h pcs0 data1) {a3:Int} {b4:Int} {q_0:List Int} (H:sl_insOrd data1 a3 b4 = some q_0):∀ L,FnS Tryz.prog 237 [pv0,.int .i64 a3,.int .i64 b4] h (rowR 3 1 pv0 pcs0::L) (fun v h' L'=>∃ ls0,v = .tuple #[]∧L' = rowR 3 1 pv0 ls0::L∧RowF (VI .i64) h' ls0 q_0):=by
 intro L
 refine FnS.enter Tryz.func237 z Tryz.ntmps237 z<|Sr<|Mv z ?_
 obtain ⟨d,e,H⟩:=bnd H
 refine Vv (V.addS z z e)<|Ag z<|Nt<|T.asThen ?_
 obtain ⟨b,f,g⟩:=bndK H
 refine T.cutK (α:=Unit) [0] z (fun _u=>[]) (fun _u=>rowR 3 1 pv0 pcs0::L) (fun _u hh=>b = ()) ?_ ?_
 ·have H:=f
  refine Bl<|T.loopK (α:=Nat) [0,2,6] z (fun a=>[]) (fun a=>rowR 3 1 pv0 pcs0::L) (fun a hh=>iter (sl_insOrd_l0 b4 d) a () = some b) (fun a=>a) FUEL trivial z H ?_
  rintro a o i j
  obtain ⟨p,q,rfl,H,k⟩:=iter_go j
  refine T.norm [0,2,6] z<|Sl_ (rowR 3 1 pv0 pcs0::L) z<|Sq<|Sr<|Mv z<|Mv z<|Vv (V.lt z z)<|Nt<|T.cH H z (fun H=>?_) (fun H=>?_)
  ·exact dead H
  refine T.exit<|Te<|Te<|have H:=iterK_out H k; Be<|Th<|T.met () i H (AllIn.app trivial ⟨z,trivial⟩) z
 rintro _ r c m
 have H:=cutE m g
 refine T.norm [0] z<|Sl_ (rowR 3 1 pv0 pcs0::L) z<|have n:=RowF.mono VI.mono pr0 c; ?_
 obtain rfl:=Option.some.inj H
 exact T.end0 Tryz.results237 c ⟨_,z,z,n⟩
theorem sl_pdqOrd_ok (n:Nat):∀ {h:PH} {pv0:Value} {pcs0:List (List Value)} {data1:List Int} (pr0:RowF (VI .i64) h pcs0 data1) {a3:Int} {b4:Int} {limit5:Int} {q_0:List Int} (H:sl_pdqOrd n data1 a3 b4 limit5 = some q_0) (L:List HProp),FnS Tryz.prog 228 [pv0,.int .i64 a3,.int .i64 b4,.int .i64 limit5] h (rowR 3 1 pv0 pcs0::L) (fun v h' L'=>∃ ls0,v = .tuple #[]∧L' = rowR 3 1 pv0 ls0::L∧RowF (VI .i64) h' ls0 q_0):=by
  induction n with
  | zero => intros; rename_i H _; cases H
  | succ n self =>
    intro h pv0 pcs0 data1 pr0 a3 b4 limit5 q_0 H L
    refine FnS.enter Tryz.func228 z Tryz.ntmps228 z<|Sr<|Ag z<|Nt<|Sr<|Ag z<|Nt ?_
    obtain ⟨c,d,e⟩:=bndK H
    have H:=d
    refine Bl<|T.loopK (α:=Nat) [0,1,2] z (fun a=>[]) (fun a=>rowR 3 1 pv0 pcs0::L) (fun a hh=>iter (sl_pdqOrd_l0 data1 a3 b4) a () = some c) (fun a=>a) FUEL trivial z H ?_
    rintro a s b f
    obtain ⟨t,u,rfl,H,g⟩:=iter_go f
    refine T.norm [0,1,2] z<|Sl_ (rowR 3 1 pv0 pcs0::L) z<|Bl<|Sr<|Mv z<|Mv z ?_
    obtain ⟨w,i,H⟩:=bnd H
    refine Vv (V.subS z z i)<|Ag z<|Nt<|Sq<|Sr<|Mv z<|Vv (V.le z z)<|Nt<|T.cH H z (fun H=>?_) (fun H=>?_)
    ·refine Sr<|Mv z<|Mv z<|Mv z<|have j:=RowF.mono VI.mono pr0 b; ?_
     obtain ⟨x,k,H⟩:=bnd H
     refine To (O.callS z (sl_insOrd_ok j k _) z fun y A B m o=>?_)
     obtain ⟨C,rfl,p,q⟩:=o
     refine Sl_ _ p<|Nt<|T.ret<|Tr<|Br<|Tr<|have H:=iterK_out H g; Br<|have H:=cutE H e; ?_
     obtain rfl:=Option.some.inj H
     have r:=(b.trans m)
     exact T.ret0 Tryz.results228 r ⟨_,z,z,q⟩
    exact dead H
theorem sl_SortInt_ok {h:PH} {pv0:Value} {pcs0:List (List Value)} {x1:List Int} (pr0:RowF (VI .i64) h pcs0 x1) {q_0:List Int} (H:sl_SortInt x1 = some q_0):∀ L,FnS Tryz.prog 188 [pv0] h (rowR 3 1 pv0 pcs0::L) (fun v h' L'=>∃ ls0,v = .tuple #[]∧L' = rowR 3 1 pv0 ls0::L∧RowF (VI .i64) h' ls0 q_0):=by
 intro L
 refine FnS.enter Tryz.func188 z Tryz.ntmps188 z<|Sr<|Mv z<|Vv (V.lenX elsort_24 z (j:=0) z pr0.len)<|Ag z<|Nt<|Rg<|Mv z<|Mv z<|Mv z ?_
 obtain ⟨p,b,H⟩:=bnd H
 refine Vv (V.convS Tryz.underlying3 Tryz.underlying113 z b) ?_
 obtain ⟨q,c,H⟩:=bnd H
 refine To (O.callS z (bits_Len_ok c _) z fun r s t a d=>?_)
 obtain ⟨rfl,e⟩:=d
 refine Sl_ _ e<|have f:=RowF.mono VI.mono pr0 a; ?_
 obtain ⟨u,g,H⟩:=bnd H
 refine To (O.callS z (sl_pdqOrd_ok _ f g _) z fun w x y i k=>?_)
 obtain ⟨A,rfl,m,n⟩:=k
 refine Sl_ _ m<|Ni ?_
 obtain rfl:=Option.some.inj H
 have o:=(a.trans i)
 exact T.end0 Tryz.results188 o ⟨_,z,z,n⟩
theorem sl_insCmpInt_ok {h:PH} {pv0:Value} {pcs0:List (List Value)} {data1:List Int} (pr0:RowF (VI .i64) h pcs0 data1) {a3:Int} {b4:Int} {pv3:Value} {cmp5:Int→Int→Option Int} (pr3:CF36 h pv3 cmp5) {q_0:List Int} (H:sl_insCmpInt data1 a3 b4 cmp5 = some q_0):∀ L,FnS Tryz.prog 256 [pv0,.int .i64 a3,.int .i64 b4,pv3] h (rowR 3 1 pv0 pcs0::L) (fun v h' L'=>∃ ls0,v = .tuple #[]∧L' = rowR 3 1 pv0 ls0::L∧RowF (VI .i64) h' ls0 q_0):=by
 intro L
 exact dead H
theorem sl_stableInt_ok {h:PH} {pv0:Value} {pcs0:List (List Value)} {data1:List Int} (pr0:RowF (VI .i64) h pcs0 data1) {n3:Int} {pv2:Value} {cmp4:Int→Int→Option Int} (pr2:CF36 h pv2 cmp4) {q_0:List Int} (H:sl_stableInt data1 n3 cmp4 = some q_0):∀ L,FnS Tryz.prog 236 [pv0,.int .i64 n3,pv2] h (rowR 3 1 pv0 pcs0::L) (fun v h' L'=>∃ ls0,v = .tuple #[]∧L' = rowR 3 1 pv0 ls0::L∧RowF (VI .i64) h' ls0 q_0):=by
 intro L
 exact dead H
theorem sl_SortStableInt_ok {h:PH} {pv0:Value} {pcs0:List (List Value)} {x1:List Int} (pr0:RowF (VI .i64) h pcs0 x1) {pv1:Value} {cmp3:Int→Int→Option Int} (pr1:CF36 h pv1 cmp3) {q_0:List Int} (H:sl_SortStableInt x1 cmp3 = some q_0):∀ L,FnS Tryz.prog 226 [pv0,pv1] h (rowR 3 1 pv0 pcs0::L) (fun v h' L'=>∃ ls0,v = .tuple #[]∧L' = rowR 3 1 pv0 ls0::L∧RowF (VI .i64) h' ls0 q_0):=by
 intro L
 exact dead H
theorem sl_insCmpInts_ok {h:PH} {pv0:Value} {pcs0:List (List Value)} {data1:List (List Int)} (pr0:RowF (VSl (VI .i64) 1) h pcs0 data1) {a3:Int} {b4:Int} {pv3:Value} {cmp5:(List Int)→(List Int)→Option Int} (pr3:CF240 h pv3 cmp5) {q_0:List (List Int)} (H:sl_insCmpInts data1 a3 b4 cmp5 = some q_0):∀ L,FnS Tryz.prog 246 [pv0,.int .i64 a3,.int .i64 b4,pv3] h (rowR 24 1 pv0 pcs0::L) (fun v h' L'=>∃ ls0,v = .tuple #[]∧L' = rowR 24 1 pv0 ls0::L∧RowF (VSl (VI .i64) 1) h' ls0 q_0):=by
 intro L
 refine FnS.enter Tryz.func246 z Tryz.ntmps246 z<|Sr<|Mv z ?_
 obtain ⟨ab,ac,H⟩:=bnd H
 refine Vv (V.addS z z ac)<|Ag z<|Nt<|T.asThen ?_
 obtain ⟨J,ad,ae⟩:=bndK H
 refine T.cutK (α:=(List (List Int))×(List (List Value))) [] z (fun ⟨u,n⟩=>[(0,pv0)]) (fun ⟨u,n⟩=>rowR 24 1 pv0 n::L) (fun ⟨u,n⟩ hh=>J = u∧RowF (VSl (VI .i64) 1) hh n u) ?_ ?_
 ·have H:=ad
  refine Bl<|T.loopK (α:=Nat×(List (List Int))×Int×(List (List Value))) [1,2,3] z (fun ⟨o,d,f,c⟩=>[(0,pv0),(8,.int .i64 f)]) (fun ⟨o,d,f,c⟩=>rowR 24 1 pv0 c::L) (fun ⟨o,d,f,c⟩ hh=>iter (sl_insCmpInts_l0 a3 b4 cmp5) o (d,f) = some J∧RowF (VSl (VI .i64) 1) hh c d) (fun ⟨o,d,f,c⟩=>o) (FUEL,data1,ab,pcs0) ⟨z,z,trivial⟩ z ⟨H,pr0⟩ ?_
  rintro ⟨o,d,f,c⟩ a8 C ⟨af,K⟩
  obtain ⟨ag,a9,rfl,H,M⟩:=iter_go af
  refine T.norm [0,8,1,2,3] z<|Sl_ (rowR 24 1 pv0 c::L) z<|Sq<|Sr<|Mv z<|Mv z<|Vv (V.lt z z)<|Nt<|T.cH H z (fun H=>?_) (fun H=>?_)
  ·refine T.skip<|Th<|Sq<|Bl<|Sr<|Mv z<|Ag z<|Nt<|T.asThen ?_
   obtain ⟨N,ai,aj⟩:=bndK H
   refine T.cutK (α:=(List (List Int))×(List (List Value))) [1,2,3,8] z (fun ⟨p,k⟩=>[(0,pv0)]) (fun ⟨p,k⟩=>rowR 24 1 pv0 k::L) (fun ⟨p,k⟩ hh=>N = p∧RowF (VSl (VI .i64) 1) hh k p) ?_ ?_
   ·have H:=ai
    refine Bl<|T.loopK (α:=Nat×(List (List Int))×Int×(List (List Value))) [1,2,3,8] z (fun ⟨q,m,b,a⟩=>[(0,pv0),(9,.int .i64 b)]) (fun ⟨q,m,b,a⟩=>rowR 24 1 pv0 a::L) (fun ⟨q,m,b,a⟩ hh=>iter (sl_insCmpInts_l1 a3 cmp5) q (m,b) = some N∧RowF (VSl (VI .i64) 1) hh a m) (fun ⟨q,m,b,a⟩=>q) (FUEL,d,f,c) ⟨z,z,trivial⟩ z ⟨H,K⟩ ?_
    rintro ⟨q,m,b,a⟩ ah D ⟨ak,r⟩
    obtain ⟨am,al,rfl,H,P⟩:=iter_go ak
    refine T.norm [0,9,1,2,3,8] rfl<|Sl_ (rowR 24 1 pv0 a::L) rfl<|Sq<|Sq<|T.drawF (t:=(.v 0 (.v 1 (.v 2 (.v 3 (.v 4 (.v 5 (.v 6 (.v 7 (.v 8 (.v 9 (.v 10 (.v 11 (.v 12 (.v 13 (.alt 14 (.g (.v 15 (.v 16 .done))) .no)))))))))))))))) 18 1 1 rfl rfl sortmixed (by kernel_rfl) ?_
    refine Tm z z<|Tm z z<|Tv z (V.gt z z)<|Tm z z<|T.bH 21 H z (fun H=>?_) (fun H=>?_)
    ·refine Tm z z<|Tm z z<|Tm z z ?_
     obtain ⟨av,S,H⟩:=bnd H
     obtain ⟨az,an,⟨ba,rfl,ao⟩⟩:=RowF.get r S
     refine Tv z (Val.XA fun _ _ _=>V.ixR elsort_87 z z (j:=0) z (RowF.bd r S))<|Tv z (Val.XA fun _ _ _=>V.ldR shsort_24 z (j:=0) z an z)<|Tm z z<|Tm z z ?_
     obtain ⟨bb,ap,H⟩:=bnd H
     refine Tv z (V.subS z z ap) ?_
     obtain ⟨bc,U,H⟩:=bnd H
     obtain ⟨be,aq,⟨bf,rfl,ar⟩⟩:=RowF.get r U
     refine Tv z (Val.XA fun _ _ _=>V.ixR elsort_87 z z (j:=0) z (RowF.bd r U))<|Tv z (Val.XA fun _ _ _=>V.ldR shsort_24 z (j:=0) z aq z) ?_
     obtain ⟨bg,au,H⟩:=bnd H
     have aw:=(C.trans D)
     have ax:=CF240.mono pr3 aw
     obtain ⟨bi,bj,bk,ay,aA⟩:=CF240.call ax ao ar au
     refine Tp z z (SX.two (XA.fr [0] Lr z) (XA.fr [0] Lr z)) (O.callfW z ay z (aA _) z fun bm A bn w aB=>?_) T.tno
     obtain ⟨rfl,aC⟩:=aB
     refine Sl_ _ aC<|T.tgrow w<|Tv z (V.lt z z)<|Tv z (V.pkT z z)<|T.tnil (SX.two (XA.fr [0] Lr z) (XA.fr [0] Lr z))<|Th<|T.cH H z (fun H=>?_) (fun H=>?_)
     ·refine T.skip<|Th<|Sq<|Bl<|T.drawF (t:=(.v 0 (.v 1 (.v 2 (.v 3 (.v 4 (.v 5 (.v 6 (.v 7 (.x 8 (.x 9 (.v 10 (.v 11 (.alt 12 (.x 13 (.x 14 (.alt 15 (.alt 16 (.alt 17 .done .no) .no) .no))) .no)))))))))))))) 15 1 0 rfl rfl sortmixed (by kernel_rfl) ?_
      refine Tm z z<|Tm z z<|Tm z z<|Tm z z ?_
      obtain ⟨E,aD,H⟩:=bnd H
      refine Tv z (V.subS z z aD)<|Tm z z<|Tm z z ?_
      obtain ⟨bo,aE,H⟩:=bnd H
      refine Tv z (V.subS z z aE) ?_
      obtain ⟨aG,W,H⟩:=bnd H
      have e:=RowF.mono (VSl.mono VI.mono) r w
      obtain ⟨bp,aI,⟨s,rfl,X⟩⟩:=RowF.get e W
      refine T.tx z z (Val.XA fun _ _ _=>V.ixR elsort_87 z z (j:=0) z (RowF.bd e W)) z Calm.i<|T.tx z z (Val.XA fun _ _ _=>V.ldR shsort_24 z (j:=0) z aI z) z Calm.i<|Tm z z<|Tm z z ?_
      obtain ⟨aJ,Y,H⟩:=bnd H
      obtain ⟨bq,aK,⟨y,rfl,Z⟩⟩:=RowF.get e Y
      refine Ts z z (SX.two (XA.fr [] Lr z) (XA.fr [0] Lr z)) (V.ixR elsort_87 z z (j:=0) z (RowF.bd e Y)) z ?_ T.tno
      refine T.tx z z (Val.XA fun _ _ _=>V.ldR shsort_24 z (j:=0) z aK z) z Calm.i ?_
      obtain ⟨br,G,H⟩:=bnd H
      obtain ⟨bs,bt,⟨bu,rfl,bw⟩⟩:=RowF.get e G
      refine T.tx z z (Val.XA fun _ _ _=>V.ixR elsort_87 z z (j:=0) z (RowF.bd e G)) z Calm.i ?_
      obtain ⟨aM,aN,H⟩:=bnd H
      refine Tp z z (SX.two (XA.fr [] Lr z) (XA.fr [0] Lr z)) (O.stR shsort_24 z z (j:=0) z (RowF.bdN e G) (Slc.one X) ?_) T.tno
      have B:RowF (VSl (VI .i64) 1) A (a.set b.toNat [s]) aM:=RowF.set e (show (VSl (VI .i64) 1) A [s] aG from ⟨s,z,X⟩) aN
      obtain ⟨bx,I,H⟩:=bnd H
      obtain ⟨bA,bB,⟨bC,rfl,bD⟩⟩:=RowF.get B I
      refine Ts z z (SX.one (XA.fr [] Lr z) z) (V.ixR elsort_87 z z (j:=0) z (RowF.bd B I)) z ?_ T.tno
      obtain ⟨aa,aO,H⟩:=bnd H
      refine Tp z z (SX.one (XA.fr [] Lr z) z) (O.stR shsort_24 z z (j:=0) z (RowF.bdN B I) (Slc.one Z) ?_) T.tno
      have aP:RowF (VSl (VI .i64) 1) A ((a.set b.toNat [s]).set E.toNat [y]) aa:=RowF.set B (show (VSl (VI .i64) 1) A [y] aJ from ⟨y,z,Z⟩) aO
      refine T.tnil (SX.one (XA.fr [] Lr z) z)<|Bn<|Th<|T.norm [0,1,2,3,8,9] z<|Sl_ (rowR 24 1 pv0 ((a.set b.toNat [s]).set E.toNat [y])::L) z<|Rg<|Mv z ?_
      obtain ⟨aS,aU,H⟩:=bnd H
      refine Vv (V.subS z z aU)<|Ag z<|Nt<|have aV:=(D.trans w); T.again (am,aa,aS,((a.set b.toNat [s]).set E.toNat [y])) aV (Nat.lt_succ_self _) ⟨(iterK_in H P),aP⟩ (AllIn.app ⟨z,z,trivial⟩ ⟨z,z,z,z,trivial⟩) z
     refine T.exit<|Te<|Te<|have H:=iterK_out H P; Be<|Th<|have aW:=RowF.mono (VSl.mono VI.mono) r w; have aX:=(D.trans w); T.met (m,a) aX ⟨H,aW⟩ (AllIn.app ⟨z,trivial⟩ ⟨z,z,z,z,trivial⟩) z
    exact dead H
   rintro ⟨p,k⟩ bE aY ⟨aZ,a0⟩
   have H:=cutE aZ aj
   refine T.norm [0,1,2,3,8] z<|Sl_ (rowR 24 1 pv0 k::L) z<|Bn<|Th<|Rg<|Mv z ?_
   obtain ⟨a1,a2,H⟩:=bnd H
   refine Vv (V.addS z z a2)<|Ag z<|Nt<|have a4:=(C.trans aY); T.again (ag,p,a1,k) a4 (Nat.lt_succ_self _) ⟨(iterK_in H M),a0⟩ (AllIn.app ⟨z,z,trivial⟩ ⟨z,z,z,trivial⟩) z
  refine T.exit<|Te<|Te<|have H:=iterK_out H M; Be<|Th<|T.met (d,c) C ⟨H,K⟩ (AllIn.app ⟨z,trivial⟩ trivial) z
 rintro ⟨u,n⟩ bG a5 ⟨a6,a7⟩
 have H:=cutE a6 ae
 refine T.norm [0] z<|Sl_ (rowR 24 1 pv0 n::L) z ?_
 obtain rfl:=Option.some.inj H
 exact T.end0 Tryz.results246 a5 ⟨_,z,z,a7⟩
theorem sl_pdqCmpInts_ok (n:Nat):∀ {h:PH} {pv0:Value} {pcs0:List (List Value)} {data1:List (List Int)} (pr0:RowF (VSl (VI .i64) 1) h pcs0 data1) {a3:Int} {b4:Int} {limit5:Int} {pv4:Value} {cmp6:(List Int)→(List Int)→Option Int} (pr4:CF240 h pv4 cmp6) {q_0:List (List Int)} (H:sl_pdqCmpInts n data1 a3 b4 limit5 cmp6 = some q_0) (L:List HProp),FnS Tryz.prog 231 [pv0,.int .i64 a3,.int .i64 b4,.int .i64 limit5,pv4] h (rowR 24 1 pv0 pcs0::L) (fun v h' L'=>∃ ls0,v = .tuple #[]∧L' = rowR 24 1 pv0 ls0::L∧RowF (VSl (VI .i64) 1) h' ls0 q_0):=by
  induction n with
  | zero => intros; rename_i H _; cases H
  | succ n self =>
    intro h pv0 pcs0 data1 pr0 a3 b4 limit5 pv4 cmp6 pr4 q_0 H L
    refine FnS.enter Tryz.func231 z Tryz.ntmps231 z<|Sr<|Ag z<|Nt<|Sr<|Ag z<|Nt ?_
    obtain ⟨c,d,e⟩:=bndK H
    have H:=d
    refine Bl<|T.loopK (α:=Nat) [0,1,2,4] z (fun a=>[]) (fun a=>rowR 24 1 pv0 pcs0::L) (fun a hh=>iter (sl_pdqCmpInts_l0 data1 a3 b4 cmp6) a () = some c) (fun a=>a) FUEL trivial z H ?_
    rintro a t b f
    obtain ⟨u,w,rfl,H,g⟩:=iter_go f
    refine T.norm [0,1,2,4] z<|Sl_ (rowR 24 1 pv0 pcs0::L) z<|Bl<|Sr<|Mv z<|Mv z ?_
    obtain ⟨x,i,H⟩:=bnd H
    refine Vv (V.subS z z i)<|Ag z<|Nt<|Sq<|Sr<|Mv z<|Vv (V.le z z)<|Nt<|T.cH H z (fun H=>?_) (fun H=>?_)
    ·refine Sr<|Mv z<|Mv z<|Mv z<|Mv z<|have j:=RowF.mono (VSl.mono VI.mono) pr0 b; have k:=CF240.mono pr4 b; ?_
     obtain ⟨y,m,H⟩:=bnd H
     refine To (O.callS z (sl_insCmpInts_ok j k m _) z fun A B C o p=>?_)
     obtain ⟨D,rfl,q,r⟩:=p
     refine Sl_ _ q<|Nt<|T.ret<|Tr<|Br<|Tr<|have H:=iterK_out H g; Br<|have H:=cutE H e; ?_
     obtain rfl:=Option.some.inj H
     have s:=(b.trans o)
     exact T.ret0 Tryz.results231 s ⟨_,z,z,r⟩
    exact dead H
theorem sl_SortFuncInts_ok {h:PH} {pv0:Value} {pcs0:List (List Value)} {x1:List (List Int)} (pr0:RowF (VSl (VI .i64) 1) h pcs0 x1) {pv1:Value} {cmp3:(List Int)→(List Int)→Option Int} (pr1:CF240 h pv1 cmp3) {q_0:List (List Int)} (H:sl_SortFuncInts x1 cmp3 = some q_0):∀ L,FnS Tryz.prog 195 [pv0,pv1] h (rowR 24 1 pv0 pcs0::L) (fun v h' L'=>∃ ls0,v = .tuple #[]∧L' = rowR 24 1 pv0 ls0::L∧RowF (VSl (VI .i64) 1) h' ls0 q_0):=by
 intro L
 refine FnS.enter Tryz.func195 z Tryz.ntmps195 z<|Sr<|Mv z<|Vv (V.lenX elsort_87 z (j:=0) z pr0.len)<|Ag z<|Nt<|Rg<|Mv z<|Mv z<|Mv z ?_
 obtain ⟨q,b,H⟩:=bnd H
 refine Vv (V.convS Tryz.underlying3 Tryz.underlying113 z b) ?_
 obtain ⟨r,c,H⟩:=bnd H
 refine To (O.callS z (bits_Len_ok c _) z fun s t u a d=>?_)
 obtain ⟨rfl,e⟩:=d
 refine Sl_ _ e<|Mv z<|have f:=RowF.mono (VSl.mono VI.mono) pr0 a; have g:=CF240.mono pr1 a; ?_
 obtain ⟨w,i,H⟩:=bnd H
 refine To (O.callS z (sl_pdqCmpInts_ok _ f g i _) z fun x y A k m=>?_)
 obtain ⟨B,rfl,n,o⟩:=m
 refine Sl_ _ n<|Ni ?_
 obtain rfl:=Option.some.inj H
 have p:=(a.trans k)
 exact T.end0 Tryz.results195 p ⟨_,z,z,o⟩
theorem sl_insCmpBar_ok {h:PH} {pv0:Value} {pcs0:List (List Value)} {data1:List searchBar} (pr0:RowF VsearchBar h pcs0 data1) {a3:Int} {b4:Int} {pv3:Value} {cmp5:searchBar→searchBar→Option Int} (pr3:CF111 h pv3 cmp5) {q_0:List searchBar} (H:sl_insCmpBar data1 a3 b4 cmp5 = some q_0):∀ L,FnS Tryz.prog 127 [pv0,.int .i64 a3,.int .i64 b4,pv3] h (rowR 92 3 pv0 pcs0::L) (fun v h' L'=>∃ ls0,v = .tuple #[]∧L' = rowR 92 3 pv0 ls0::L∧RowF VsearchBar h' ls0 q_0):=by
 intro L
 refine FnS.enter Tryz.func127 z Tryz.ntmps127 z<|Sr<|Mv z ?_
 obtain ⟨ae,af,H⟩:=bnd H
 refine Vv (V.addS z z af)<|Ag z<|Nt<|T.asThen ?_
 obtain ⟨J,ag,ai⟩:=bndK H
 refine T.cutK (α:=(List searchBar)×(List (List Value))) [] z (fun ⟨w,p⟩=>[(0,pv0)]) (fun ⟨w,p⟩=>rowR 92 3 pv0 p::L) (fun ⟨w,p⟩ hh=>J = w∧RowF VsearchBar hh p w) ?_ ?_
 ·have H:=ag
  refine Bl<|T.loopK (α:=Nat×(List searchBar)×Int×(List (List Value))) [1,2,3] z (fun ⟨q,f,k,d⟩=>[(0,pv0),(8,.int .i64 k)]) (fun ⟨q,f,k,d⟩=>rowR 92 3 pv0 d::L) (fun ⟨q,f,k,d⟩ hh=>iter (sl_insCmpBar_l0 a3 b4 cmp5) q (f,k) = some J∧RowF VsearchBar hh d f) (fun ⟨q,f,k,d⟩=>q) (FUEL,data1,ae,pcs0) ⟨z,z,trivial⟩ z ⟨H,pr0⟩ ?_
  rintro ⟨q,f,k,d⟩ ba E ⟨aj,K⟩
  obtain ⟨ak,bb,rfl,H,M⟩:=iter_go aj
  refine T.norm [0,8,1,2,3] z<|Sl_ (rowR 92 3 pv0 d::L) z<|Sq<|Sr<|Mv z<|Mv z<|Vv (V.lt z z)<|Nt<|T.cH H z (fun H=>?_) (fun H=>?_)
  ·refine T.skip<|Th<|Sq<|Bl<|Sr<|Mv z<|Ag z<|Nt<|T.asThen ?_
   obtain ⟨N,am,an⟩:=bndK H
   refine T.cutK (α:=(List searchBar)×(List (List Value))) [1,2,3,8] z (fun ⟨r,m⟩=>[(0,pv0)]) (fun ⟨r,m⟩=>rowR 92 3 pv0 m::L) (fun ⟨r,m⟩ hh=>N = r∧RowF VsearchBar hh m r) ?_ ?_
   ·have H:=am
    refine Bl<|T.loopK (α:=Nat×(List searchBar)×Int×(List (List Value))) [1,2,3,8] z (fun ⟨s,n,e,a⟩=>[(0,pv0),(9,.int .i64 e)]) (fun ⟨s,n,e,a⟩=>rowR 92 3 pv0 a::L) (fun ⟨s,n,e,a⟩ hh=>iter (sl_insCmpBar_l1 a3 cmp5) s (n,e) = some N∧RowF VsearchBar hh a n) (fun ⟨s,n,e,a⟩=>s) (FUEL,f,k,d) ⟨z,z,trivial⟩ z ⟨H,K⟩ ?_
    rintro ⟨s,n,e,a⟩ P G ⟨ao,u⟩
    obtain ⟨ap,bc,rfl,H,S⟩:=iter_go ao
    refine T.norm [0,9,1,2,3,8] z<|Sl_ (rowR 92 3 pv0 a::L) z<|Sq<|Sq ?_
    obtain ⟨aq,ar,au⟩:=bndK H
    refine T.cutK (α:=Bool) [0,1,2,3,8,9] z (fun y=>[(34,.bool y)]) (fun y=>rowR 92 3 pv0 a::L) (fun y hh=>aq = y) ?_ ?_
    ·have H:=ar
     refine T.drawF (t:=(.v 0 (.v 1 (.v 2 (.v 3 (.v 4 (.v 5 (.v 6 (.v 7 (.v 8 (.v 9 (.v 10 (.v 11 (.v 12 (.v 13 (.alt 14 (.g (.v 15 (.v 16 .done))) .no)))))))))))))))) 18 1 1 rfl rfl sortmixed (by kernel_rfl) ?_
     refine Tm z z<|Tm z z<|Tv z (V.gt z z)<|Tm z z<|T.bH 21 H z (fun H=>?_) (fun H=>?_)
     ·refine Tm z z<|Tm z z<|Tm z z ?_
      obtain ⟨A,U,H⟩:=bnd H
      obtain ⟨be,aw,rfl⟩:=RowF.get u U
      refine Tv z (Val.XA fun _ _ _=>V.ixR elsort_80 z z (j:=0) z (RowF.bd u U))<|Tv z (Val.XA fun _ _ _=>V.ldXS z (j:=0) z aw shsort_92)<|Tm z z<|Tm z z ?_
      obtain ⟨bf,ax,H⟩:=bnd H
      refine Tv z (V.subS z z ax) ?_
      obtain ⟨B,W,H⟩:=bnd H
      obtain ⟨bg,ay,rfl⟩:=RowF.get u W
      refine Tv z (Val.XA fun _ _ _=>V.ixR elsort_80 z z (j:=0) z (RowF.bd u W))<|Tv z (Val.XA fun _ _ _=>V.ldXS z (j:=0) z ay shsort_92) ?_
      obtain ⟨aA,aB,H⟩:=bnd H
      have aC:=(E.trans G)
      have aD:=CF111.mono pr3 aC
      obtain ⟨bi,bj,bk,aE,aG⟩:=CF111.call aD (show VsearchBar P [.int .i64 A.fCost,.int .i64 A.fClasses,.int .i64 A.fPlans] A from rfl) (show VsearchBar P [.int .i64 B.fCost,.int .i64 B.fClasses,.int .i64 B.fPlans] B from rfl) aB
      refine Tp z z (SX.two (XA.fr [0] Lr z) (XA.fr [0] Lr z)) (O.callfW z aE z (aG _) z fun bm bn bo X aI=>?_) T.tno
      obtain ⟨rfl,aJ⟩:=aI
      refine Sl_ _ aJ<|T.tgrow X<|Tv z (V.lt z z)<|Tv z (V.pkT z z)<|T.tnil (SX.two (XA.fr [0] Lr z) (XA.fr [0] Lr z))<|Th<|T.met (decide (aA < (0:Int))) X (sinj H) (AllIn.app ⟨z,trivial⟩ ⟨z,z,z,z,z,z,trivial⟩) z
     refine Tk z<|Tk z<|Tk z<|Tk z<|Tk z<|Tk z<|Tk z<|Tk z<|Tk z<|Tk z<|T.tskips z z (SX.two (XA.fr [0] Lr z) (XA.fr [0] Lr z)) z ?_ T.tno
     refine T.tgrow Lr<|Tk z<|Tv z (V.pkF z z)<|T.tnil (SX.two (XA.fr [0] Lr z) (XA.fr [0] Lr z))<|Th<|T.met false Lr (sinj H) (AllIn.app ⟨z,trivial⟩ ⟨z,z,z,z,z,z,trivial⟩) z
    rintro y C D aK
    have H:=cutE aK au
    refine T.norm [34,0,1,2,3,8,9] z<|Sl_ (rowR 92 3 pv0 a::L) z<|T.cH H z (fun H=>?_) (fun H=>?_)
    ·refine T.skip<|Th<|Sq<|Bl<|T.drawF (t:=(.v 0 (.v 1 (.v 2 (.v 3 (.v 4 (.v 5 (.v 6 (.v 7 (.x 8 (.x 9 (.v 10 (.v 11 (.alt 12 (.x 13 (.x 14 (.alt 15 (.alt 16 (.alt 17 .done .no) .no) .no))) .no)))))))))))))) 15 1 0 rfl rfl sortmixed (by kernel_rfl) ?_
     refine Tm z z<|Tm z z<|Tm z z<|Tm z z ?_
     obtain ⟨Y,aM,H⟩:=bnd H
     refine Tv z (V.subS z z aM)<|Tm z z<|Tm z z ?_
     obtain ⟨bp,aN,H⟩:=bnd H
     refine Tv z (V.subS z z aN) ?_
     obtain ⟨b,Z,H⟩:=bnd H
     have o:=RowF.mono VsearchBar.mono u D
     obtain ⟨bq,aO,rfl⟩:=RowF.get o Z
     refine T.tx z z (Val.XA fun _ _ _=>V.ixR elsort_80 z z (j:=0) z (RowF.bd o Z)) z Calm.i<|T.tx z z (Val.XA fun _ _ _=>V.ldXS z (j:=0) z aO shsort_92) z Calm.i<|Tm z z<|Tm z z ?_
     obtain ⟨c,aa,H⟩:=bnd H
     obtain ⟨br,aP,rfl⟩:=RowF.get o aa
     refine Ts z z (SX.two (XA.fr [] Lr z) (XA.fr [0] Lr z)) (V.ixR elsort_80 z z (j:=0) z (RowF.bd o aa)) z ?_ T.tno
     refine T.tx z z (Val.XA fun _ _ _=>V.ldXS z (j:=0) z aP shsort_92) z Calm.i ?_
     obtain ⟨bs,ab,H⟩:=bnd H
     obtain ⟨bt,aS,rfl⟩:=RowF.get o ab
     refine T.tx z z (Val.XA fun _ _ _=>V.ixR elsort_80 z z (j:=0) z (RowF.bd o ab)) z Calm.i ?_
     obtain ⟨aU,aV,H⟩:=bnd H
     refine Tp z z (SX.two (XA.fr [] Lr z) (XA.fr [0] Lr z)) (O.stX shsort_92 z z (j:=0) z z z z aS ?_) T.tno
     have I:RowF VsearchBar C (a.set e.toNat [.int .i64 b.fCost,.int .i64 b.fClasses,.int .i64 b.fPlans]) aU:=RowF.set o (show VsearchBar C [.int .i64 b.fCost,.int .i64 b.fClasses,.int .i64 b.fPlans] b from z) aV
     obtain ⟨bu,ac,H⟩:=bnd H
     obtain ⟨bw,aW,rfl⟩:=RowF.get I ac
     refine Ts z z (SX.one (XA.fr [] Lr z) z) (V.ixR elsort_80 z z (j:=0) z (RowF.bd I ac)) z ?_ T.tno
     obtain ⟨ad,aX,H⟩:=bnd H
     refine Tp z z (SX.one (XA.fr [] Lr z) z) (O.stX shsort_92 z z (j:=0) z z z z aW ?_) T.tno
     have aY:RowF VsearchBar C ((a.set e.toNat [.int .i64 b.fCost,.int .i64 b.fClasses,.int .i64 b.fPlans]).set Y.toNat [.int .i64 c.fCost,.int .i64 c.fClasses,.int .i64 c.fPlans]) ad:=RowF.set I (show VsearchBar C [.int .i64 c.fCost,.int .i64 c.fClasses,.int .i64 c.fPlans] c from z) aX
     refine T.tnil (SX.one (XA.fr [] Lr z) z)<|Bn<|Th<|Rg<|Mv z ?_
     obtain ⟨aZ,a0,H⟩:=bnd H
     refine Vv (V.subS z z a0)<|Ag z<|Nt<|have a1:=(G.trans D); T.again (ap,ad,aZ,((a.set e.toNat [.int .i64 b.fCost,.int .i64 b.fClasses,.int .i64 b.fPlans]).set Y.toNat [.int .i64 c.fCost,.int .i64 c.fClasses,.int .i64 c.fPlans])) a1 (Nat.lt_succ_self _) ⟨(iterK_in H S),aY⟩ (AllIn.app ⟨z,z,trivial⟩ ⟨z,z,z,z,trivial⟩) z
    refine T.exit<|Te<|Te<|have H:=iterK_out H S; Be<|Th<|have a2:=RowF.mono VsearchBar.mono u D; have a4:=(G.trans D); T.met (n,a) a4 ⟨H,a2⟩ (AllIn.app ⟨z,trivial⟩ ⟨z,z,z,z,trivial⟩) z
   rintro ⟨r,m⟩ bx a5 ⟨a6,a7⟩
   have H:=cutE a6 an
   refine T.norm [0,1,2,3,8] z<|Sl_ (rowR 92 3 pv0 m::L) z<|Bn<|Th<|Rg<|Mv z ?_
   obtain ⟨a8,a9,H⟩:=bnd H
   refine Vv (V.addS z z a9)<|Ag z<|Nt<|have ah:=(E.trans a5); T.again (ak,r,a8,m) ah (Nat.lt_succ_self _) ⟨(iterK_in H M),a7⟩ (AllIn.app ⟨z,z,trivial⟩ ⟨z,z,z,trivial⟩) z
  refine T.exit<|Te<|Te<|have H:=iterK_out H M; Be<|Th<|T.met (f,d) E ⟨H,K⟩ (AllIn.app ⟨z,trivial⟩ trivial) z
 rintro ⟨w,p⟩ bA al ⟨av,az⟩
 have H:=cutE av ai
 refine T.norm [0] z<|Sl_ (rowR 92 3 pv0 p::L) z ?_
 obtain rfl:=Option.some.inj H
 exact T.end0 Tryz.results127 al ⟨_,z,z,az⟩
theorem sl_pdqCmpBar_ok (n:Nat):∀ {h:PH} {pv0:Value} {pcs0:List (List Value)} {data1:List searchBar} (pr0:RowF VsearchBar h pcs0 data1) {a3:Int} {b4:Int} {limit5:Int} {pv4:Value} {cmp6:searchBar→searchBar→Option Int} (pr4:CF111 h pv4 cmp6) {q_0:List searchBar} (H:sl_pdqCmpBar n data1 a3 b4 limit5 cmp6 = some q_0) (L:List HProp),FnS Tryz.prog 75 [pv0,.int .i64 a3,.int .i64 b4,.int .i64 limit5,pv4] h (rowR 92 3 pv0 pcs0::L) (fun v h' L'=>∃ ls0,v = .tuple #[]∧L' = rowR 92 3 pv0 ls0::L∧RowF VsearchBar h' ls0 q_0):=by
  induction n with
  | zero => intros; rename_i H _; cases H
  | succ n self =>
    intro h pv0 pcs0 data1 pr0 a3 b4 limit5 pv4 cmp6 pr4 q_0 H L
    refine FnS.enter Tryz.func75 z Tryz.ntmps75 z<|Sr<|Ag z<|Nt<|Sr<|Ag z<|Nt ?_
    obtain ⟨c,d,e⟩:=bndK H
    have H:=d
    refine Bl<|T.loopK (α:=Nat) [0,1,2,4] z (fun a=>[]) (fun a=>rowR 92 3 pv0 pcs0::L) (fun a hh=>iter (sl_pdqCmpBar_l0 data1 a3 b4 cmp6) a () = some c) (fun a=>a) FUEL trivial z H ?_
    rintro a t b f
    obtain ⟨u,w,rfl,H,g⟩:=iter_go f
    refine T.norm [0,1,2,4] z<|Sl_ (rowR 92 3 pv0 pcs0::L) z<|Bl<|Sr<|Mv z<|Mv z ?_
    obtain ⟨x,i,H⟩:=bnd H
    refine Vv (V.subS z z i)<|Ag z<|Nt<|Sq<|Sr<|Mv z<|Vv (V.le z z)<|Nt<|T.cH H z (fun H=>?_) (fun H=>?_)
    ·refine Sr<|Mv z<|Mv z<|Mv z<|Mv z<|have j:=RowF.mono VsearchBar.mono pr0 b; have k:=CF111.mono pr4 b; ?_
     obtain ⟨y,m,H⟩:=bnd H
     refine To (O.callS z (sl_insCmpBar_ok j k m _) z fun A B C o p=>?_)
     obtain ⟨D,rfl,q,r⟩:=p
     refine Sl_ _ q<|Nt<|T.ret<|Tr<|Br<|Tr<|have H:=iterK_out H g; Br<|have H:=cutE H e; ?_
     obtain rfl:=Option.some.inj H
     have s:=(b.trans o)
     exact T.ret0 Tryz.results75 s ⟨_,z,z,r⟩
    exact dead H
theorem sl_SortFuncBar_ok {h:PH} {pv0:Value} {pcs0:List (List Value)} {x1:List searchBar} (pr0:RowF VsearchBar h pcs0 x1) {pv1:Value} {cmp3:searchBar→searchBar→Option Int} (pr1:CF111 h pv1 cmp3) {q_0:List searchBar} (H:sl_SortFuncBar x1 cmp3 = some q_0):∀ L,FnS Tryz.prog 46 [pv0,pv1] h (rowR 92 3 pv0 pcs0::L) (fun v h' L'=>∃ ls0,v = .tuple #[]∧L' = rowR 92 3 pv0 ls0::L∧RowF VsearchBar h' ls0 q_0):=by
 intro L
 refine FnS.enter Tryz.func46 z Tryz.ntmps46 z<|Sr<|Mv z<|Vv (V.lenX elsort_80 z (j:=0) z pr0.len)<|Ag z<|Nt<|Rg<|Mv z<|Mv z<|Mv z ?_
 obtain ⟨q,b,H⟩:=bnd H
 refine Vv (V.convS Tryz.underlying3 Tryz.underlying113 z b) ?_
 obtain ⟨r,c,H⟩:=bnd H
 refine To (O.callS z (bits_Len_ok c _) z fun s t u a d=>?_)
 obtain ⟨rfl,e⟩:=d
 refine Sl_ _ e<|Mv z<|have f:=RowF.mono VsearchBar.mono pr0 a; have g:=CF111.mono pr1 a; ?_
 obtain ⟨w,i,H⟩:=bnd H
 refine To (O.callS z (sl_pdqCmpBar_ok _ f g i _) z fun x y A k m=>?_)
 obtain ⟨B,rfl,n,o⟩:=m
 refine Sl_ _ n<|Ni ?_
 obtain rfl:=Option.some.inj H
 have p:=(a.trans k)
 exact T.end0 Tryz.results46 p ⟨_,z,z,o⟩
end Go.Proofs.X
open Go Go.Proofs Go.Sl Go.Dm
namespace Go.Proofs.X
theorem sl2mixed : Tryz.prog.follows .mixedOrders = true := by kernel_rfl
theorem elsl2_22 : elSh Tryz.prog 22 = some (9, 1, 16) := by kernel_rfl
theorem elsl2_24 : elSh Tryz.prog 24 = some (3, 1, 8) := by kernel_rfl
theorem elsl2_87 : elSh Tryz.prog 87 = some (24, 1, 24) := by kernel_rfl
theorem shsl2_24 : tySh Tryz.prog 24 = some (false, 1) := by kernel_rfl
theorem zesl2_24 : zer Tryz.prog 24 = some (.slice none 0 0) := by kernel_rfl
theorem zesl2_3 : zer Tryz.prog 3 = some (.int .i64 (0)) := by kernel_rfl
theorem bits_Mul32_ok {h:PH} {x1:Int} {y2:Int} {r_0:Int} {r_1:Int} (H:bits_Mul32 x1 y2 = some (r_0,r_1)):∀ L,FnS Tryz.prog 78 [.int .u32 x1,.int .u32 y2] h (L) (fun v h' L'=>v = .tuple #[.int .u32 r_0,.int .u32 r_1]∧L' = L):=by
 intro L
 exact dead H
theorem bits_Mul64_ok {h:PH} {x1:Int} {y2:Int} {r_0:Int} {r_1:Int} (H:bits_Mul64 x1 y2 = some (r_0,r_1)):∀ L,FnS Tryz.prog 79 [.int .u64 x1,.int .u64 y2] h (L) (fun v h' L'=>v = .tuple #[.int .u64 r_0,.int .u64 r_1]∧L' = L):=by
 intro L
 refine FnS.enter Tryz.func79 z Tryz.ntmps79 z<|Sr<|Ag z<|Ag z<|Nt<|Sr<|Mv z ?_
 obtain ⟨t,a,H⟩:=bnd H
 refine Vv (V.andK z z a)<|Ag z<|Nt<|Sr<|Mv z ?_
 obtain ⟨u,b,H⟩:=bnd H
 refine Vv (V.shrK z z b)<|Ag z<|Nt<|Sr<|Mv z ?_
 obtain ⟨w,c,H⟩:=bnd H
 refine Vv (V.andK z z c)<|Ag z<|Nt<|Sr<|Mv z ?_
 obtain ⟨x,d,H⟩:=bnd H
 refine Vv (V.shrK z z d)<|Ag z<|Nt<|Sr<|Mv z<|Mv z ?_
 obtain ⟨y,e,H⟩:=bnd H
 refine Vv (V.mulK z z e)<|Ag z<|Nt<|Sr<|Mv z<|Mv z ?_
 obtain ⟨A,f,H⟩:=bnd H
 refine Vv (V.mulK z z f)<|Mv z ?_
 obtain ⟨B,g,H⟩:=bnd H
 refine Vv (V.shrK z z g) ?_
 obtain ⟨C,i,H⟩:=bnd H
 refine Vv (V.addK z z i)<|Ag z<|Nt<|Sr<|Mv z ?_
 obtain ⟨D,j,H⟩:=bnd H
 refine Vv (V.andK z z j)<|Ag z<|Nt<|Sr<|Mv z ?_
 obtain ⟨E,k,H⟩:=bnd H
 refine Vv (V.shrK z z k)<|Ag z<|Nt<|Sq<|T.norm [0,1,6,7,9,12,13] z<|Rg<|Mv z<|Mv z<|Mv z ?_
 obtain ⟨G,m,H⟩:=bnd H
 refine Vv (V.mulK z z m) ?_
 obtain ⟨I,n,H⟩:=bnd H
 refine Vv (V.addK z z n)<|Ag z<|Nt<|Sr<|Mv z<|Mv z ?_
 obtain ⟨J,o,H⟩:=bnd H
 refine Vv (V.mulK z z o)<|Mv z ?_
 obtain ⟨K,p,H⟩:=bnd H
 refine Vv (V.addK z z p)<|Mv z ?_
 obtain ⟨M,q,H⟩:=bnd H
 refine Vv (V.shrK z z q) ?_
 obtain ⟨N,r,H⟩:=bnd H
 refine Vv (V.addK z z r)<|Ag z<|Nt<|Sr<|Mv z<|Mv z ?_
 obtain ⟨O,s,H⟩:=bnd H
 refine Vv (V.mulK z z s)<|Ag z<|Nt<|T.ret ?_
 obtain ⟨rfl,rfl⟩:=inj2 H
 exact T.retL Tryz.results79 (RVs.cons (RV.tmp z) (Rv z)) Lr ⟨z,z⟩
theorem bits_Mul_ok {h:PH} {x1:Int} {y2:Int} {r_0:Int} {r_1:Int} (H:bits_Mul x1 y2 = some (r_0,r_1)):∀ L,FnS Tryz.prog 50 [.int .u64 x1,.int .u64 y2] h (L) (fun v h' L'=>v = .tuple #[.int .u64 r_0,.int .u64 r_1]∧L' = L):=by
 intro L
 refine FnS.enter Tryz.func50 z Tryz.ntmps50 z<|Sr<|Ag z<|Ag z<|Nt<|Sq<|Cf z<|T.skip<|Th<|Sr<|Mv z<|Mv z ?_
 obtain ⟨⟨e,f⟩,a,H⟩:=bnd H
 refine To (O.callS z (bits_Mul64_ok a _) z fun g i j b c=>?_)
 obtain ⟨rfl,d⟩:=c
 refine Sl_ _ d<|Mv z<|Vv (V.ext z z)<|Vv (V.ext z z)<|Ag z<|Ag z<|Nt<|Sr<|Mv z<|Mv z<|Ag z<|Ag z<|Nt<|T.ret ?_
 obtain ⟨rfl,rfl⟩:=inj2 H
 exact T.retL Tryz.results50 (RVs.cons (RV.tmp z) (Rv z)) b ⟨z,z⟩
theorem sl_Repeat_ok {h:PH} {pv0:Value} {x1:List Int} (pr0:Slc (VI .i64) 1 h pv0 x1) {count2:Int} {r_0:List Int} (H:sl_Repeat x1 count2 = some r_0):∀ L,FnS Tryz.prog 32 [pv0,.int .i64 count2] h (L) (fun v h' L'=>∃ cs0,L' = rowR 3 1 v cs0::L∧RowF (VI .i64) h' cs0 r_0):=by
 intro L
 refine FnS.enter Tryz.func32 z Tryz.ntmps32 z<|Sr<|Ag z<|Nt<|Sq<|Sr<|Mv z<|Vv (V.lt z z)<|Nt<|T.cH H z (fun H=>?_) (fun H=>?_)
 ·exact dead H
 refine T.skip<|Th<|Sr<|Mv z<|Vv (V.lenS elsl2_24 z pr0) ?_
 obtain ⟨aw,N,H⟩:=bnd H
 refine Vv (V.convS Tryz.underlying3 Tryz.underlying113 z N)<|Mv z ?_
 obtain ⟨ax,P,H⟩:=bnd H
 refine Vv (V.convS Tryz.underlying3 Tryz.underlying113 z P) ?_
 obtain ⟨⟨ay,aA⟩,S,H⟩:=bnd H
 refine To (O.callS z (bits_Mul_ok S _) z fun aB s aC u U=>?_)
 obtain ⟨rfl,W⟩:=U
 refine Sl_ _ W<|Mv z<|Vv (V.ext z z)<|Vv (V.ext z z)<|Ag z<|Ag z<|Nt<|Sq<|Sr<|Mv z<|Vv (V.gt z z)<|Mv z<|T.bH 23 H z (fun H=>?_) (fun H=>?_)
 ·exact dead H
 refine Mv z<|Vv (V.gt z z)<|Vv (V.pkF z z)<|Nt<|T.cH H z (fun H=>?_) (fun H=>?_)
 ·exact dead H
 refine T.skip<|Th<|Sr<|Mv z ?_
 obtain ⟨p,X,H⟩:=bnd H
 refine Vv (V.convS Tryz.underlying113 Tryz.underlying3 z X) ?_
 obtain ⟨n,w,H⟩:=bnd H
 refine To (O.mkX elsl2_24 zesl2_3 z z z z w z fun e aD aE=>have q:RowF (VI .i64) s _ n:=RowF.rep z w; Ag z<|Nt<|Sr<|Mv z<|Mv z<|have Y:=Slc.mono VI.mono pr0 u; ?_)
 obtain ⟨o,y,r⟩:=Slc.row Y
 obtain ⟨⟨A,Z⟩,B,H⟩:=bnd H
 have C:0 + n.length ≤ List.length (α:=List Value) (List.replicate p.toNat [.int .i64 (0:Int)]):=by rw [q.len]; omega
 refine To (O.copy elsl2_24 z z (j:=0) z (fun _ iv=>D1.rowX iv (j:=0) z q.len) C (Src1.fix y) y.wide (RowF.ones VI.plain r) z<|T.int (cp_n r B).symm<|have aa:RowF (VI .i64) s (putL (List.replicate p.toNat [.int .i64 (0:Int)]) 0 (List.take (min (List.length o) n.length) o)) A:=RowF.cp q r C B; Ag z<|Nt<|Sq ?_)
 obtain ⟨D,ab,ac⟩:=bndK H
 refine T.cutK (α:=(List Int)×(List (List Value))) [] z (fun ⟨m,f⟩=>[(7,e)]) (fun ⟨m,f⟩=>rowR 3 1 e f::L) (fun ⟨m,f⟩ hh=>D = m∧RowF (VI .i64) hh f m) ?_ ?_
 ·have H:=ab
  refine Bl<|T.loopK (α:=Nat×(List Int)×Int×(List (List Value))) [] z (fun ⟨k,d,a,b⟩=>[(7,e),(8,.int .i64 a)]) (fun ⟨k,d,a,b⟩=>rowR 3 1 e b::L) (fun ⟨k,d,a,b⟩ hh=>iter sl_Repeat_l0 k (d,a) = some D∧RowF (VI .i64) hh b d) (fun ⟨k,d,a,b⟩=>k) (FUEL,A,Z,(putL (List.replicate p.toNat [.int .i64 (0:Int)]) 0 (List.take (min (List.length o) n.length) o))) ⟨z,z,trivial⟩ z ⟨H,aa⟩ ?_
  rintro ⟨k,d,a,b⟩ ad E ⟨ae,c⟩
  obtain ⟨af,aG,rfl,H,G⟩:=iter_go ae
  refine T.norm [7,8] z<|Sl_ (rowR 3 1 e b::L) z<|Sq<|Sr<|Mv z<|Mv z<|Vv (V.lenX elsl2_24 z (j:=0) z c.len)<|Vv (V.lt z z)<|Nt<|T.cH H z (fun H=>?_) (fun H=>?_)
  ·refine T.skip<|Th<|Bl<|T.drawF (t:=(.v 0 (.v 1 (.v 2 (.x 3 (.v 4 (.v 5 (.x 6 (.alt 7 (.g (.v 8 (.alt 9 .done .no))) .no))))))))) 7 1 0 rfl rfl sl2mixed (by kernel_rfl) ?_
   refine Tm z z<|Tm z z<|Tm z z ?_
   obtain ⟨aI,ag,H⟩:=bnd H
   refine T.tx z z (Val.XA fun _ _ _=>V.slVx elsl2_24 z (j:=0) z c.len (.inr ⟨_,_,z,z⟩) (.inl ⟨z,z⟩) (bdV_eq ag)) z Calm.i<|Tm z z<|Tm z z ?_
   obtain ⟨aJ,ai,H⟩:=bnd H
   refine T.tx z z (Val.XA fun _ _ _=>V.slVx elsl2_24 z (j:=0) z c.len (.inl ⟨z,z⟩) (.inr ⟨_,_,z,z⟩) (bdV_eq ai)) z Calm.i ?_
   obtain ⟨aK,I,H⟩:=bnd H
   obtain ⟨aM,aj,H⟩:=bnd H
   refine T.wide 0 z fun ak=>?_
   obtain ⟨⟨J,aN⟩,K,H⟩:=bnd H
   have M:a.toNat + ((d.length:Int).toNat - a.toNat) ≤ List.length (α:=List Value) b:=bd_le c.len I
   refine Tp z z (SX.two (XA.fr [] Lr z) (XA.fr [0] Lr z)) (O.copy elsl2_24 z z (j:=0) z (fun _ iv=>D1.viewX iv (j:=0) z c.len (bdV_eq I)) M (Src1.viewX (j:=0) z c.len (bdV_eq aj)) (Wide.take (Wide.drop ak)) (RowF.ones VI.plain (RowF.part c (0:Int).toNat (a.toNat - (0:Int).toNat))) z ?_) T.tno
   refine T.int (cp_n (RowF.part c (0:Int).toNat (a.toNat - (0:Int).toNat)) K).symm<|have am:RowF (VI .i64) ad (putL b a.toNat (List.take (min (List.length (List.take (a.toNat - (0:Int).toNat) (List.drop (0:Int).toNat b))) ((d.length:Int).toNat - a.toNat)) (List.take (a.toNat - (0:Int).toNat) (List.drop (0:Int).toNat b)))) J:=RowF.cp c (RowF.part c (0:Int).toNat (a.toNat - (0:Int).toNat)) M K; T.tgrow Lr ?_
   obtain ⟨an,ao,H⟩:=bnd H
   refine Tv z (V.addS z z ao)<|Ts z z (SX.one (XA.fr [] Lr z) z) (V.asg z) z ?_ T.tno
   refine T.tnil (SX.one (XA.fr [] Lr z) z)<|Bn<|Th<|T.again (af,J,an,(putL b a.toNat (List.take (min (List.length (List.take (a.toNat - (0:Int).toNat) (List.drop (0:Int).toNat b))) ((d.length:Int).toNat - a.toNat)) (List.take (a.toNat - (0:Int).toNat) (List.drop (0:Int).toNat b))))) E (Nat.lt_succ_self _) ⟨(iterK_in H G),am⟩ (AllIn.app ⟨z,z,trivial⟩ trivial) z
  refine T.exit<|Te<|Te<|have H:=iterK_out H G; Be<|Th<|T.met (d,b) E ⟨H,c⟩ (AllIn.app ⟨z,trivial⟩ trivial) z
 rintro ⟨m,f⟩ aO ap ⟨aq,ar⟩
 have H:=cutE aq ac
 refine T.norm [7] z<|Sl_ (rowR 3 1 e f::L) z<|Sr<|Mv z<|Ag z<|Nt<|T.ret ?_
 obtain rfl:=Option.some.inj H
 have au:=(u.trans ap)
 exact T.retL Tryz.results32 (Rv z) au ⟨_,z,ar⟩
theorem sl_CompactInt_ok {h:PH} {pv0:Value} {pcs0:List (List Value)} {s1:List Int} (pr0:RowF (VI .i64) h pcs0 s1) {r_0:List Int} (H:sl_CompactInt s1 = some r_0):∀ L,FnS Tryz.prog 189 [pv0] h (rowR 3 1 pv0 pcs0::L) (fun v h' L'=>∃ cs0,L' = rowR 3 1 v cs0::L∧RowF (VI .i64) h' cs0 r_0):=by
 intro L
 refine FnS.enter Tryz.func189 z Tryz.ntmps189 z<|Sr<|Ag z<|Nt<|Sq<|Sr<|Mv z<|Vv (V.lenX elsl2_24 z (j:=0) z pr0.len)<|Vv (V.lt z z)<|Nt<|T.cH H z (fun H=>?_) (fun H=>?_)
 ·refine Sr<|Mv z<|Ag z<|Nt<|T.ret<|Tr ?_
  obtain rfl:=Option.some.inj H
  exact T.retL Tryz.results189 (Rv z) Lr ⟨_,z,pr0⟩
 exact dead H
theorem sl_CompactFuncInts_ok {h:PH} {pv0:Value} {pcs0:List (List Value)} {s1:List (List Int)} (pr0:RowF (VSl (VI .i64) 1) h pcs0 s1) {pv1:Value} {eq3:(List Int)→(List Int)→Option Bool} (pr1:CF93 h pv1 eq3) {r_0:List (List Int)} (H:sl_CompactFuncInts s1 eq3 = some r_0):∀ L,FnS Tryz.prog 197 [pv0,pv1] h (rowR 24 1 pv0 pcs0::L) (fun v h' L'=>∃ cs0,L' = rowR 24 1 v cs0::L∧RowF (VSl (VI .i64) 1) h' cs0 r_0):=by
 intro L
 refine FnS.enter Tryz.func197 z Tryz.ntmps197 z<|Sr<|Ag z<|Nt<|Sq<|Sr<|Mv z<|Vv (V.lenX elsl2_87 z (j:=0) z pr0.len)<|Vv (V.lt z z)<|Nt<|T.cH H z (fun H=>?_) (fun H=>?_)
 ·exact dead H
 refine T.skip<|Th<|Sq<|Sr<|Ag z<|Nt ?_
 obtain ⟨m,B,n⟩:=bndK H
 refine T.cutK (α:=Unit) [0] z (fun _u=>[]) (fun _u=>rowR 24 1 pv0 pcs0::L) (fun _u hh=>m = (Sum.inl ())) ?_ ?_
 ·have H:=B
  refine Bl<|T.loopK (α:=Nat×Int) [0,1] z (fun ⟨b,a⟩=>[(5,.int .i64 a)]) (fun ⟨b,a⟩=>rowR 24 1 pv0 pcs0::L) (fun ⟨b,a⟩ hh=>iter (sl_CompactFuncInts_l0 s1 eq3) b a = some m) (fun ⟨b,a⟩=>b) (FUEL,(1:Int)) ⟨z,trivial⟩ z H ?_
  rintro ⟨b,a⟩ ar e C
  obtain ⟨D,au,rfl,H,i⟩:=iter_go C
  refine T.norm [5,0,1] z<|Sl_ (rowR 24 1 pv0 pcs0::L) z<|Sq<|Sr<|Mv z<|Mv z<|have c:=RowF.mono (VSl.mono VI.mono) pr0 e; Vv (V.lenX elsl2_87 z (j:=0) z c.len)<|Vv (V.lt z z)<|Nt<|T.cH H z (fun H=>?_) (fun H=>?_)
  ·refine T.skip<|Th<|Sq<|Bl<|Sq<|T.drawF (t:=(.v 0 (.v 1 (.v 2 (.v 3 (.v 4 (.v 5 (.v 6 (.v 7 (.v 8 (.v 9 (.alt 10 .done .no)))))))))))) 12 1 1 rfl rfl sl2mixed (by kernel_rfl) ?_
   refine Tm z z<|Tm z z<|Tm z z ?_
   obtain ⟨aw,o,H⟩:=bnd H
   obtain ⟨ax,E,⟨ay,rfl,G⟩⟩:=RowF.get c o
   refine Tv z (Val.XA fun _ _ _=>V.ixR elsl2_87 z z (j:=0) z (RowF.bd c o))<|Tv z (Val.XA fun _ _ _=>V.ldR shsl2_24 z (j:=0) z E z)<|Tm z z<|Tm z z ?_
   obtain ⟨aA,I,H⟩:=bnd H
   refine Tv z (V.subS z z I) ?_
   obtain ⟨aB,p,H⟩:=bnd H
   obtain ⟨aC,J,⟨aD,rfl,K⟩⟩:=RowF.get c p
   refine Tv z (Val.XA fun _ _ _=>V.ixR elsl2_87 z z (j:=0) z (RowF.bd c p))<|Tv z (Val.XA fun _ _ _=>V.ldR shsl2_24 z (j:=0) z J z) ?_
   obtain ⟨aE,M,H⟩:=bnd H
   have N:=CF93.mono pr1 e
   obtain ⟨aG,aI,aJ,P,S⟩:=CF93.call N G K M
   refine Tp z z (SX.two (XA.fr [0] Lr z) (XA.fr [0] Lr z)) (O.callfW z P z (S _) z fun aK aM aN f U=>?_) T.tno
   obtain ⟨rfl,W⟩:=U
   refine Sl_ _ W<|T.tnil (SX.two (XA.fr [0] f z) (XA.fr [0] f z))<|Th<|T.cH H z (fun H=>?_) (fun H=>?_)
   ·refine Sr<|Mv z<|Mv z ?_
    obtain ⟨aO,X,H⟩:=bnd H
    have q:=RowF.mono (VSl.mono VI.mono) c f
    refine Vv (V.slVx elsl2_87 z (j:=0) z q.len (.inr ⟨_,_,z,z⟩) (.inl ⟨z,z⟩) (bdV_eq X))<|Ag z<|Nt<|Sq<|Sr<|Ag z<|Nt ?_
    obtain ⟨r,Y,Z⟩:=bndK H
    refine T.cutK (α:=Unit) [0,5] z (fun _u=>[]) (fun _u=>rowR 24 1 pv0 pcs0::L) (fun _u hh=>r = ()) ?_ ?_
    ·have H:=Y
     refine Bl<|T.loopK (α:=Nat) [0,5,6,7] z (fun d=>[]) (fun d=>rowR 24 1 pv0 pcs0::L) (fun d hh=>iter (sl_CompactFuncInts_l1 s1 a) d () = some r) (fun d=>d) FUEL trivial z H ?_
     rintro d aP aa ab
     obtain ⟨aS,aU,rfl,H,ac⟩:=iter_go ab
     refine T.norm [0,5,6,7] z<|Sl_ (rowR 24 1 pv0 pcs0::L) z<|Sq<|Sr<|Mv z<|Mv z<|Vv (V.lenV elsl2_87 z (j:=0) z)<|Vv (V.lt z z)<|Nt<|T.cH H z (fun H=>?_) (fun H=>?_)
     ·exact dead H
     refine T.exit<|Te<|Te<|have H:=iterK_out H ac; Be<|Th<|T.met () aa H (AllIn.app trivial ⟨z,z,trivial⟩) z
    rintro _ k s ad
    have H:=cutE ad Z
    refine T.norm [0,5] z<|Sl_ (rowR 24 1 pv0 pcs0::L) z<|Sr<|Mv z<|Mv z ?_
    obtain ⟨aV,ae,H⟩:=bnd H
    have g:=RowF.mono (VSl.mono VI.mono) q s
    refine Vv (V.slVx elsl2_87 z (j:=0) z g.len (.inr ⟨_,_,z,z⟩) (.inl ⟨z,z⟩) (bdV_eq ae)) ?_
    obtain ⟨aW,u,H⟩:=bnd H
    have w:=bd_le g.len u
    obtain ⟨af,ag,H⟩:=bnd H
    refine To (O.clear elsl2_87 zesl2_24 z z z (j:=0) z (fun _ iv=>D1.viewX iv (j:=0) z g.len (bdV_eq u)) w<|have x:RowF (VSl (VI .i64) 1) k (putL pcs0 a.toNat (List.replicate ((s1.length:Int).toNat - a.toNat) [.slice none 0 0])) af:=RowF.clr g (show (VSl (VI .i64) 1) k [.slice none 0 0] ([]:List Int) from ⟨(.slice none 0 0),z,Slc.nil⟩) w ag; Nt<|Sr<|Mv z<|Mv z ?_)
    obtain ⟨ai,y,H⟩:=bnd H
    refine To (O.slP elsl2_87 z z (j:=0) z (RowF.slpb x y) z fun aX=>have aj:RowF (VSl (VI .i64) 1) k (List.take a.toNat (putL pcs0 a.toNat (List.replicate ((s1.length:Int).toNat - a.toNat) [.slice none 0 0]))) ai:=RowF.slp x y; Ag z<|Nt<|T.ret<|Br<|Tr<|Tr<|have H:=iterK_out H i; Br<|Tr<|have H:=cutE H n; ?_)
    obtain rfl:=Option.some.inj H
    have ak:=((e.trans f).trans s)
    exact T.retL Tryz.results197 (Rv z) ak ⟨_,z,aj⟩
   refine T.skip<|Bn<|Th<|Rg<|Mv z ?_
   obtain ⟨am,an,H⟩:=bnd H
   refine Vv (V.addS z z an)<|Ag z<|Nt<|have ao:=(e.trans f); T.again (D,am) ao (Nat.lt_succ_self _) (iterK_in H i) (AllIn.app ⟨z,trivial⟩ ⟨z,z,trivial⟩) z
  refine T.exit<|Te<|Te<|have H:=iterK_out H i; Be<|Th<|T.met () e H (AllIn.app trivial ⟨z,trivial⟩) z
 rintro _ aY A ap
 have H:=cutE ap n
 refine T.norm [0] z<|Sl_ (rowR 24 1 pv0 pcs0::L) z<|Sr<|Mv z<|Ag z<|Nt<|T.ret<|have aq:=RowF.mono (VSl.mono VI.mono) pr0 A; ?_
 obtain rfl:=Option.some.inj H
 exact T.retL Tryz.results197 (Rv z) A ⟨_,z,aq⟩
theorem sl_IndexFuncStrL_ok {h:PH} {pv0:Value} {pcs0:List (List Value)} {s1:List ByteArray} (pr0:RowF VS h pcs0 s1) {pv1:Value} {f3:ByteArray→Option Bool} (pr1:CF188 h pv1 f3) {r_0:Int} {q_0:List ByteArray} (H:sl_IndexFuncStrL s1 f3 = some (r_0,q_0)):∀ L,FnS Tryz.prog 164 [pv0,pv1] h (rowR 9 1 pv0 pcs0::L) (fun v h' L'=>∃ ls0,v = .int .i64 r_0∧L' = rowR 9 1 pv0 ls0::L∧RowF VS h' ls0 q_0):=by
 intro L
 refine FnS.enter Tryz.func164 z Tryz.ntmps164 z<|Sr<|Ag z<|Nt<|Sq<|Sr<|Mv z<|Vv (V.lenX elsl2_22 z (j:=0) z pr0.len)<|Mv z<|Nt ?_
 obtain ⟨b,d,e⟩:=bndK H
 refine T.cutK (α:=Unit) [0] z (fun _u=>[]) (fun _u=>rowR 9 1 pv0 pcs0::L) (fun _u hh=>b = ()) ?_ ?_
 ·have H:=d
  refine Bl<|T.loopK (α:=Nat) [0,7,8] z (fun a=>[]) (fun a=>rowR 9 1 pv0 pcs0::L) (fun a hh=>iter (sl_IndexFuncStrL_l0 s1) a () = some b) (fun a=>a) FUEL trivial z H ?_
  rintro a n f g
  obtain ⟨o,p,rfl,H,i⟩:=iter_go g
  refine T.norm [0,7,8] z<|Sl_ (rowR 9 1 pv0 pcs0::L) z<|Sr<|Vv (V.lt z z)<|Nt<|Sq<|T.cH H z (fun H=>?_) (fun H=>?_)
  ·exact dead H
  refine T.exit<|Te<|Te<|have H:=iterK_out H i; Be<|Th<|T.met () f H (AllIn.app trivial ⟨z,trivial⟩) z
 rintro _ q c k
 have H:=cutE k e
 refine T.norm [0] z<|Sl_ (rowR 9 1 pv0 pcs0::L) z<|Sr<|Ag z<|Nt<|T.ret<|have m:=RowF.mono VS.mono pr0 c; ?_
 obtain ⟨rfl,rfl⟩:=inj2 H
 exact T.retL Tryz.results164 (Rv z) c ⟨_,z,z,m⟩
theorem sl_DeleteFuncStr_ok {h:PH} {pv0:Value} {pcs0:List (List Value)} {s1:List ByteArray} (pr0:RowF VS h pcs0 s1) {pv1:Value} {del3:ByteArray→Option Bool} (pr1:CF188 h pv1 del3) {r_0:List ByteArray} (H:sl_DeleteFuncStr s1 del3 = some r_0):∀ L,FnS Tryz.prog 117 [pv0,pv1] h (rowR 9 1 pv0 pcs0::L) (fun v h' L'=>∃ cs0,L' = rowR 9 1 v cs0::L∧RowF VS h' cs0 r_0):=by
 intro L
 refine FnS.enter Tryz.func117 z Tryz.ntmps117 z<|Sr<|Ag z<|Nt<|Sr<|Mv z<|Mv z ?_
 obtain ⟨⟨f,g⟩,a,H⟩:=bnd H
 refine To (O.callS z (sl_IndexFuncStrL_ok pr0 pr1 a _) z fun i j k b c=>?_)
 obtain ⟨m,rfl,d,e⟩:=c
 refine Sl_ _ d<|Ag z<|Nt<|Sq<|Sr<|Mv z<|Vv (V.eq z z)<|Nt<|T.cH H z (fun H=>?_) (fun H=>?_)
 ·refine Sr<|Mv z<|Ag z<|Nt<|T.ret<|Tr ?_
  obtain rfl:=Option.some.inj H
  exact T.retL Tryz.results117 (Rv z) b ⟨_,z,e⟩
 exact dead H
end Go.Proofs.X
open Go Go.Proofs Go.Sl Go.Dm
namespace Go.Proofs.X
theorem hallmixed : Tryz.prog.follows .mixedOrders = true := by kernel_rfl
theorem blhall_198 : bldSh Tryz.prog 198 = some ([.string ⟨#[]⟩, .nilFunc, .nilFunc, .nilFunc, .nilFunc, .nilFunc], [(0, 1), (1, 1), (2, 1), (3, 1), (4, 1), (5, 1)]) := by kernel_rfl
theorem bohall_198 : fieldsOK Tryz.prog 198 = true := by kernel_rfl
theorem elhall_24 : elSh Tryz.prog 24 = some (3, 1, 8) := by kernel_rfl
theorem elhall_255 : elSh Tryz.prog 255 = some (128, 1, 8) := by kernel_rfl
theorem elhall_27 : elSh Tryz.prog 27 = some (26, 7, 80) := by kernel_rfl
theorem fdhall_198_1 : fldOf Tryz.prog 198 1 = some 1 := by kernel_rfl
theorem fdhall_198_2 : fldOf Tryz.prog 198 2 = some 2 := by kernel_rfl
theorem fdhall_198_3 : fldOf Tryz.prog 198 3 = some 3 := by kernel_rfl
theorem fdhall_198_4 : fldOf Tryz.prog 198 4 = some 4 := by kernel_rfl
theorem fdhall_26_0 : fldOf Tryz.prog 26 0 = some 0 := by kernel_rfl
theorem fdhall_26_1 : fldOf Tryz.prog 26 1 = some 1 := by kernel_rfl
theorem fdhall_26_2 : fldOf Tryz.prog 26 2 = some 2 := by kernel_rfl
theorem fdhall_26_3 : fldOf Tryz.prog 26 3 = some 3 := by kernel_rfl
theorem fdhall_26_4 : fldOf Tryz.prog 26 4 = some 4 := by kernel_rfl
theorem fdhall_26_5 : fldOf Tryz.prog 26 5 = some 5 := by kernel_rfl
theorem fdhall_26_6 : fldOf Tryz.prog 26 6 = some 6 := by kernel_rfl
theorem shhall_195 : tySh Tryz.prog 195 = some (false, 1) := by kernel_rfl
theorem shhall_198 : tySh Tryz.prog 198 = some (true, 6) := by kernel_rfl
theorem shhall_23 : tySh Tryz.prog 23 = some (false, 1) := by kernel_rfl
theorem shhall_24 : tySh Tryz.prog 24 = some (false, 1) := by kernel_rfl
theorem shhall_26 : tySh Tryz.prog 26 = some (true, 7) := by kernel_rfl
theorem shhall_3 : tySh Tryz.prog 3 = some (false, 1) := by kernel_rfl
theorem shhall_36 : tySh Tryz.prog 36 = some (false, 1) := by kernel_rfl
theorem shhall_9 : tySh Tryz.prog 9 = some (false, 1) := by kernel_rfl
theorem zehall_128 : zer Tryz.prog 128 = some (.nilFunc) := by kernel_rfl
theorem zehall_198 : zer Tryz.prog 198 = some (.agg #[.string ⟨#[]⟩, .nilFunc, .nilFunc, .nilFunc, .nilFunc, .nilFunc]) := by kernel_rfl
theorem zehall_26 : zer Tryz.prog 26 = some (.agg #[.string ⟨#[]⟩, .int .u8 (0), .int .i64 (0), .int .i64 (0), .slice none 0 0, .int .i64 (0), .int .i64 (0)]) := by kernel_rfl
theorem zehall_3 : zer Tryz.prog 3 = some (.int .i64 (0)) := by kernel_rfl
theorem hall_name_ok {h:PH} {s1:ByteArray} {r_0:Bool} (H:hall_name s1 = some r_0):∀ L,FnS Tryz.prog 122 [.string s1] h (L) (fun v h' L'=>v = .bool r_0∧L' = L):=by
 intro L
 refine FnS.enter Tryz.func122 z Tryz.ntmps122 z<|Sr<|Ag z<|Nt<|Sq<|Sr<|Ag z<|Nt ?_
 obtain ⟨c,f,g⟩:=bndK H
 refine T.cutK (α:=Unit) [0] z (fun _u=>[]) (fun _u=>L) (fun _u hh=>c = ()) ?_ ?_
 ·have H:=f
  refine Bl<|T.loopK (α:=Nat×Int) [0] z (fun ⟨a,b⟩=>[(3,.int .i64 b)]) (fun ⟨a,b⟩=>L) (fun ⟨a,b⟩ hh=>iter (hall_name_l0 s1) a b = some c) (fun ⟨a,b⟩=>a) (FUEL,(0:Int)) ⟨z,trivial⟩ z H ?_
  rintro ⟨a,b⟩ r d i
  obtain ⟨j,s,rfl,H,e⟩:=iter_go i
  refine T.norm [3,0] z<|Sl_ (L) z<|Sq<|Sr<|Mv z<|Mv z<|Vv (V.lenStr Tryz.underlying9 z)<|Vv (V.lt z z)<|Nt<|T.cH H z (fun H=>?_) (fun H=>?_)
  ·refine T.skip<|Th<|Sq<|Bl<|Sr<|Mv z<|Mv z ?_
   obtain ⟨t,k,H⟩:=bnd H
   refine Vv (V.idxS Tryz.underlying9 z z k)<|Vv (V.lt z z)<|Mv z<|T.bH 14 H z (fun H=>?_) (fun H=>?_)
   ·exact dead H
   refine Mv z<|Mv z ?_
   obtain ⟨u,m,H⟩:=bnd H
   refine Vv (V.idxS Tryz.underlying9 z z m)<|Vv (V.gt z z)<|Vv (V.pkF z z)<|Nt<|T.cH H z (fun H=>?_) (fun H=>?_)
   ·exact dead H
   refine T.skip<|Bn<|Th<|Rg<|Mv z ?_
   obtain ⟨n,o,H⟩:=bnd H
   refine Vv (V.addS z z o)<|Ag z<|Nt<|T.again (j,n) d (Nat.lt_succ_self _) (iterK_in H e) (AllIn.app ⟨z,trivial⟩ ⟨z,trivial⟩) z
  refine T.exit<|Te<|Te<|have H:=iterK_out H e; Be<|Th<|T.met () d H (AllIn.app trivial ⟨z,trivial⟩) z
 rintro _ w p q
 have H:=cutE q g
 refine T.norm [0] z<|Sl_ (L) z<|Sr<|Mv z<|Vv (V.lenStr Tryz.underlying9 z)<|Vv (V.ge z z)<|Mv z<|T.bH 23 H z (fun H=>?_) (fun H=>?_)
 ·refine Mv z<|Vv (V.lenStr Tryz.underlying9 z)<|Vv (V.le z z)<|Vv (V.pkT z z)<|Ag z<|Nt<|T.ret ?_
  obtain rfl:=Option.some.inj H
  exact T.retL Tryz.results122 (Rv z) p ⟨z,z⟩
 exact dead H
theorem hall_two_ok {h:PH} {a1:Int} {b2:Int} {r_0:Int} (H:hall_two a1 b2 = some r_0):∀ L,FnS Tryz.prog 218 [.int .i64 a1,.int .i64 b2] h (L) (fun v h' L'=>v = .int .i64 r_0∧L' = L):=by
 intro L
 exact dead H
theorem hall_roundSeats_ok {h:PH} {a1:Int} {b2:Int} {r_0:Int} (H:hall_roundSeats a1 b2 = some r_0):∀ L,FnS Tryz.prog 167 [.int .i64 a1,.int .i64 b2] h (L) (fun v h' L'=>v = .int .i64 r_0∧L' = L):=by
 intro L
 refine FnS.enter Tryz.func167 z Tryz.ntmps167 z<|Sr<|Ag z<|Nt<|Sq<|Sr<|Mv z<|Vv (V.lt z z)<|Mv z<|T.bH 7 H z (fun H=>?_) (fun H=>?_)
 ·exact dead H
 refine Mv z<|Vv (V.gt z z)<|Vv (V.pkF z z)<|Mv z<|T.bH 11 H z (fun H=>?_) (fun H=>?_)
 ·exact dead H
 refine Mv z<|Vv (V.ne z z)<|Vv (V.pkF z z)<|Nt<|T.cH H z (fun H=>?_) (fun H=>?_)
 ·exact dead H
 refine T.skip<|Th<|Sr<|Mv z<|Ag z<|Nt<|T.ret ?_
 obtain rfl:=Option.some.inj H
 exact T.retL Tryz.results167 (Rv z) Lr ⟨z,z⟩
theorem hall_longSeats_ok {h:PH} {a1:Int} {b2:Int} {r_0:Int} (H:hall_longSeats a1 b2 = some r_0):∀ L,FnS Tryz.prog 172 [.int .i64 a1,.int .i64 b2] h (L) (fun v h' L'=>v = .int .i64 r_0∧L' = L):=by
 intro L
 exact dead H
theorem hall_shoeSeats_ok {h:PH} {a1:Int} {b2:Int} {r_0:Int} (H:hall_shoeSeats a1 b2 = some r_0):∀ L,FnS Tryz.prog 177 [.int .i64 a1,.int .i64 b2] h (L) (fun v h' L'=>v = .int .i64 r_0∧L' = L):=by
 intro L
 exact dead H
theorem hall_rowSeats_ok {h:PH} {a1:Int} {b2:Int} {r_0:Int} (H:hall_rowSeats a1 b2 = some r_0):∀ L,FnS Tryz.prog 182 [.int .i64 a1,.int .i64 b2] h (L) (fun v h' L'=>v = .int .i64 r_0∧L' = L):=by
 intro L
 refine FnS.enter Tryz.func182 z Tryz.ntmps182 z<|Sr<|Ag z<|Nt<|Sq<|Sr<|Mv z<|Vv (V.lt z z)<|Mv z<|T.bH 7 H z (fun H=>?_) (fun H=>?_)
 ·exact dead H
 refine Mv z<|Vv (V.gt z z)<|Vv (V.pkF z z)<|Mv z<|T.bH 11 H z (fun H=>?_) (fun H=>?_)
 ·exact dead H
 refine Mv z<|Vv (V.lt z z)<|Vv (V.pkF z z)<|Mv z<|T.bH 15 H z (fun H=>?_) (fun H=>?_)
 ·exact dead H
 refine Mv z<|Mv z<|Vv (V.gt z z)<|Vv (V.pkF z z)<|Nt<|T.cH H z (fun H=>?_) (fun H=>?_)
 ·exact dead H
 refine T.skip<|Th<|Sr<|Mv z<|Ag z<|Nt<|T.ret ?_
 obtain rfl:=Option.some.inj H
 exact T.retL Tryz.results182 (Rv z) Lr ⟨z,z⟩
theorem hall_roundBeside_ok {h:PH} {a1:Int} {b2:Int} {x3:Int} {y4:Int} {r_0:Bool} (H:hall_roundBeside a1 b2 x3 y4 = some r_0):∀ L,FnS Tryz.prog 168 [.int .i64 a1,.int .i64 b2,.int .i64 x3,.int .i64 y4] h (L) (fun v h' L'=>v = .bool r_0∧L' = L):=by
 intro L
 refine FnS.enter Tryz.func168 z Tryz.ntmps168 z<|Sr<|Ag z<|Nt<|Sr<|Mv z<|Mv z ?_
 obtain ⟨d,a,H⟩:=bnd H
 refine Vv (V.subS z z a)<|Vv (V.eq z z)<|Mv z<|T.bH 13 H z (fun H=>?_) (fun H=>?_)
 ·refine Sk<|Sk<|Sk<|Sk<|Sk<|Sk<|Vv (V.pkT z z)<|Ag z<|Nt<|T.ret ?_
  obtain rfl:=Option.some.inj H
  exact T.retL Tryz.results168 (Rv z) Lr ⟨z,z⟩
 refine Mv z<|Mv z ?_
 obtain ⟨e,b,H⟩:=bnd H
 refine Vv (V.subS z z b)<|Mv z ?_
 obtain ⟨f,c,H⟩:=bnd H
 refine Vv (V.subS z z c)<|Vv (V.eq z z)<|Vv (V.pkF z z)<|Ag z<|Nt<|T.ret ?_
 obtain rfl:=Option.some.inj H
 exact T.retL Tryz.results168 (Rv z) Lr ⟨z,z⟩
theorem hall_roundAcross_ok {h:PH} {a1:Int} {b2:Int} {x3:Int} {y4:Int} {r_0:Bool} (H:hall_roundAcross a1 b2 x3 y4 = some r_0):∀ L,FnS Tryz.prog 169 [.int .i64 a1,.int .i64 b2,.int .i64 x3,.int .i64 y4] h (L) (fun v h' L'=>v = .bool r_0∧L' = L):=by
 intro L
 refine FnS.enter Tryz.func169 z Tryz.ntmps169 z<|Sr<|Ag z<|Nt<|Sr<|Mv z ?_
 obtain ⟨d,a,H⟩:=bnd H
 refine Vv (V.remS z z a)<|Vv (V.eq z z)<|Mv z<|T.bH 12 H z (fun H=>?_) (fun H=>?_)
 ·refine Mv z<|Mv z ?_
  obtain ⟨e,b,H⟩:=bnd H
  refine Vv (V.subS z z b)<|Mv z ?_
  obtain ⟨f,c,H⟩:=bnd H
  refine Vv (V.quoS z z c)<|Vv (V.eq z z)<|Vv (V.pkT z z)<|Ag z<|Nt<|T.ret ?_
  obtain rfl:=Option.some.inj H
  exact T.retL Tryz.results169 (Rv z) Lr ⟨z,z⟩
 refine Sk<|Sk<|Sk<|Sk<|Sk<|Sk<|Vv (V.pkF z z)<|Ag z<|Nt<|T.ret ?_
 obtain rfl:=Option.some.inj H
 exact T.retL Tryz.results169 (Rv z) Lr ⟨z,z⟩
theorem hall_longBeside_ok {h:PH} {a1:Int} {b2:Int} {x3:Int} {y4:Int} {r_0:Bool} (H:hall_longBeside a1 b2 x3 y4 = some r_0):∀ L,FnS Tryz.prog 173 [.int .i64 a1,.int .i64 b2,.int .i64 x3,.int .i64 y4] h (L) (fun v h' L'=>v = .bool r_0∧L' = L):=by
 intro L
 exact dead H
theorem hall_longAcross_ok {h:PH} {a1:Int} {b2:Int} {x3:Int} {y4:Int} {r_0:Bool} (H:hall_longAcross a1 b2 x3 y4 = some r_0):∀ L,FnS Tryz.prog 174 [.int .i64 a1,.int .i64 b2,.int .i64 x3,.int .i64 y4] h (L) (fun v h' L'=>v = .bool r_0∧L' = L):=by
 intro L
 exact dead H
theorem hall_longHonour_ok {h:PH} {a1:Int} {b2:Int} {r_0:Int} (H:hall_longHonour a1 b2 = some r_0):∀ L,FnS Tryz.prog 175 [.int .i64 a1,.int .i64 b2] h (L) (fun v h' L'=>v = .int .i64 r_0∧L' = L):=by
 intro L
 exact dead H
theorem hall_shoeBeside_ok {h:PH} {a1:Int} {b2:Int} {x3:Int} {y4:Int} {r_0:Bool} (H:hall_shoeBeside a1 b2 x3 y4 = some r_0):∀ L,FnS Tryz.prog 178 [.int .i64 a1,.int .i64 b2,.int .i64 x3,.int .i64 y4] h (L) (fun v h' L'=>v = .bool r_0∧L' = L):=by
 intro L
 exact dead H
theorem hall_shoeAcross_ok {h:PH} {a1:Int} {b2:Int} {x3:Int} {y4:Int} {r_0:Bool} (H:hall_shoeAcross a1 b2 x3 y4 = some r_0):∀ L,FnS Tryz.prog 179 [.int .i64 a1,.int .i64 b2,.int .i64 x3,.int .i64 y4] h (L) (fun v h' L'=>v = .bool r_0∧L' = L):=by
 intro L
 exact dead H
theorem hall_rowBeside_ok {h:PH} {a1:Int} {b2:Int} {x3:Int} {y4:Int} {r_0:Bool} (H:hall_rowBeside a1 b2 x3 y4 = some r_0):∀ L,FnS Tryz.prog 183 [.int .i64 a1,.int .i64 b2,.int .i64 x3,.int .i64 y4] h (L) (fun v h' L'=>v = .bool r_0∧L' = L):=by
 intro L
 refine FnS.enter Tryz.func183 z Tryz.ntmps183 z<|Sr<|Ag z<|Nt<|Sr<|Mv z<|Mv z ?_
 obtain ⟨b,a,H⟩:=bnd H
 refine Vv (V.subS z z a)<|Vv (V.eq z z)<|Mv z<|T.bH 13 H z (fun H=>?_) (fun H=>?_)
 ·refine Mv z<|Vv (V.eq z z)<|Mv z<|T.bH 16 H z (fun H=>?_) (fun H=>?_)
  ·refine Sk<|Sk<|Sk<|Sk<|Vv (V.pkT z z)<|Vv (V.pkT z z)<|Ag z<|Nt<|T.ret ?_
   obtain rfl:=Option.some.inj H
   exact T.retL Tryz.results183 (Rv z) Lr ⟨z,z⟩
  exact dead H
 refine Sk<|Sk<|Sk<|Sk<|Sk<|Sk<|Sk<|Sk<|Vv (V.pkF z z)<|Ag z<|Nt<|T.ret ?_
 obtain rfl:=Option.some.inj H
 exact T.retL Tryz.results183 (Rv z) Lr ⟨z,z⟩
theorem hall_same_ok {h:PH} {k1:Int} {r_0:Int} (H:hall_same k1 = some r_0):∀ L,FnS Tryz.prog 222 [.int .i64 k1] h (L) (fun v h' L'=>v = .int .i64 r_0∧L' = L):=by
 intro L
 refine FnS.enter Tryz.func222 z Tryz.ntmps222 z<|Sr<|Ag z<|Nt<|Sr<|Mv z<|Ag z<|Nt<|T.ret ?_
 obtain rfl:=Option.some.inj H
 exact T.retL Tryz.results222 (Rv z) Lr ⟨z,z⟩
theorem hall_lay1_ok {h:PH} {a1:Int} {b2:Int} {r_0:Int} (H:hall_lay1 a1 b2 = some r_0):∀ L,FnS Tryz.prog 170 [.int .i64 a1,.int .i64 b2] h (L) (fun v h' L'=>v = .int .i64 r_0∧L' = L):=by
 intro L
 refine FnS.enter Tryz.func170 z Tryz.ntmps170 z<|Sr<|Ag z<|Nt<|Sr<|Ag z<|Nt<|T.ret ?_
 obtain rfl:=Option.some.inj H
 exact T.retL Tryz.results170 (Rv z) Lr ⟨z,z⟩
theorem hall_lay2_ok {h:PH} {a1:Int} {b2:Int} {r_0:Int} (H:hall_lay2 a1 b2 = some r_0):∀ L,FnS Tryz.prog 180 [.int .i64 a1,.int .i64 b2] h (L) (fun v h' L'=>v = .int .i64 r_0∧L' = L):=by
 intro L
 exact dead H
theorem hall_lay3_ok {h:PH} {a1:Int} {b2:Int} {x3:Int} {y4:Int} {r_0:Bool} (H:hall_lay3 a1 b2 x3 y4 = some r_0):∀ L,FnS Tryz.prog 184 [.int .i64 a1,.int .i64 b2,.int .i64 x3,.int .i64 y4] h (L) (fun v h' L'=>v = .bool r_0∧L' = L):=by
 intro L
 refine FnS.enter Tryz.func184 z Tryz.ntmps184 z<|Sr<|Ag z<|Nt<|Sr<|Ag z<|Nt<|T.ret ?_
 obtain rfl:=Option.some.inj H
 exact T.retL Tryz.results184 (Rv z) Lr ⟨z,z⟩
theorem hall_lay4_ok {h:PH} {a1:Int} {b2:Int} {r_0:Int} (H:hall_lay4 a1 b2 = some r_0):∀ L,FnS Tryz.prog 185 [.int .i64 a1,.int .i64 b2] h (L) (fun v h' L'=>v = .int .i64 r_0∧L' = L):=by
 intro L
 refine FnS.enter Tryz.func185 z Tryz.ntmps185 z<|Sr<|Ag z<|Nt<|Sr<|Mv z ?_
 obtain ⟨b,a,H⟩:=bnd H
 refine Vv (V.quoS z z a)<|Ag z<|Nt<|T.ret ?_
 obtain rfl:=Option.some.inj H
 exact T.retL Tryz.results185 (Rv z) Lr ⟨z,z⟩
theorem hall_roundMoves1_ok {h:PH} {k1:Int} {pp1:Addr} {pc1:List Value} {t2:Int} (pa1:AtC h pp1 pc1) (pr1:(VI .i64) h pc1 t2) {pp2:Addr} {pc2:List Value} {t3:Int} (pa2:AtC h pp2 pc2) (pr2:(VI .i64) h pc2 t3) {r_0:Int} (H:hall_roundMoves1 k1 t2 t3 = some r_0):∀ L,FnS Tryz.prog 216 [.int .i64 k1,.pointer (some pp1),.pointer (some pp2)] h (L) (fun v h' L'=>v = .int .i64 r_0∧L' = L):=by
 intro L
 obtain rfl:=pr1
 obtain rfl:=pr2
 refine FnS.enter Tryz.func216 z Tryz.ntmps216 z<|Sr<|Ag z<|Nt<|Sr<|Mv z<|Vv (V.ld0 shhall_3 z pa1 z) ?_
 obtain ⟨c,a,H⟩:=bnd H
 refine Vv (V.addS z z a)<|Vv (V.ld0 shhall_3 z pa2 z) ?_
 obtain ⟨d,b,H⟩:=bnd H
 refine Vv (V.remS z z b)<|Ag z<|Nt<|T.ret ?_
 obtain rfl:=Option.some.inj H
 exact T.retL Tryz.results216 (Rv z) Lr ⟨z,z⟩
theorem hall_roundMoves2_ok {h:PH} {k1:Int} {pp1:Addr} {pc1:List Value} {t2:Int} (pa1:AtC h pp1 pc1) (pr1:(VI .i64) h pc1 t2) {pp2:Addr} {pc2:List Value} {t3:Int} (pa2:AtC h pp2 pc2) (pr2:(VI .i64) h pc2 t3) {r_0:Int} (H:hall_roundMoves2 k1 t2 t3 = some r_0):∀ L,FnS Tryz.prog 217 [.int .i64 k1,.pointer (some pp1),.pointer (some pp2)] h (L) (fun v h' L'=>v = .int .i64 r_0∧L' = L):=by
 intro L
 obtain rfl:=pr1
 obtain rfl:=pr2
 refine FnS.enter Tryz.func217 z Tryz.ntmps217 z<|Sr<|Ag z<|Nt<|Sr<|Vv (V.ld0 shhall_3 z pa1 z)<|Mv z ?_
 obtain ⟨d,a,H⟩:=bnd H
 refine Vv (V.subS z z a)<|Vv (V.ld0 shhall_3 z pa2 z) ?_
 obtain ⟨e,b,H⟩:=bnd H
 refine Vv (V.addS z z b)<|Vv (V.ld0 shhall_3 z pa2 z) ?_
 obtain ⟨f,c,H⟩:=bnd H
 refine Vv (V.remS z z c)<|Ag z<|Nt<|T.ret ?_
 obtain rfl:=Option.some.inj H
 exact T.retL Tryz.results217 (Rv z) Lr ⟨z,z⟩
theorem hall_roundMoves_ok {h:PH} {a1:Int} {b2:Int} {r_0:List (Int→Option Int)} (H:hall_roundMoves a1 b2 = some r_0):∀ L,FnS Tryz.prog 171 [.int .i64 a1,.int .i64 b2] h (L) (fun v h' L'=>L' = L∧Slc VF128 1 h' v r_0):=by
 intro L
 refine FnS.enter Tryz.func171 z Tryz.ntmps171 z<|Sr<|To (O.boxF z z z fun b N P q=>Ag z<|Nt<|Sr<|Ag z<|Nt<|Sq<|Sr<|Vv (V.ld0 shhall_3 z q z)<|Mv z<|Nt ?_)
 obtain ⟨r,S,U⟩:=bndK H
 refine T.cutK (α:=(List (Int→Option Int))×Value×(List (List Value))) [] z (fun ⟨n,i,k⟩=>[(5,i)]) (fun ⟨n,i,k⟩=>rowR 128 1 i k::L) (fun ⟨n,i,k⟩ hh=>r = n∧RowF VF128 hh k n) ?_ ?_
 ·have H:=S
  refine Bl<|T.rowNil 128 1<|have W:RowF VF128 N [] ([]:List (Int→Option Int)):=RowF.nil; T.loopK (α:=Nat×(List (Int→Option Int))×Int×Value×(List (List Value))) [2,7] z (fun ⟨m,g,a,f,c⟩=>[(5,f),(8,.int .i64 a)]) (fun ⟨m,g,a,f,c⟩=>rowR 128 1 f c::L) (fun ⟨m,g,a,f,c⟩ hh=>iter (hall_roundMoves_l0 a1) m (g,a) = some r∧RowF VF128 hh c g) (fun ⟨m,g,a,f,c⟩=>m) (FUEL,([]:List (Int→Option Int)),(0:Int),(.slice none 0 0),[]) ⟨z,z,trivial⟩ z ⟨H,W⟩ ?_
  rintro ⟨m,g,a,f,c⟩ au s ⟨X,t⟩
  obtain ⟨Y,aw,rfl,H,u⟩:=iter_go X
  refine T.norm [5,8,2,7] z<|Sl_ (rowR 128 1 f c::L) z<|Sr<|Vv (V.lt z z)<|Nt<|Sq<|T.cH H z (fun H=>?_) (fun H=>?_)
  ·refine T.skip<|Th<|Sq<|Bl<|Sr<|Mv z<|To (O.alloc zehall_3 z z fun d=>To (O.stF (vs:=[.int .i64 a]) shhall_3 z z (j:=0) z z z z<|T.freeze fun w x Z=>have y:=AtC.of Z; Nt<|Rg<|Mv z<|Vv (V.mkf z z)<|Vv (V.mkf z z)<|have A:=(s.trans x); have B:=q.mono A; To (O.bs elhall_255 zehall_128 z (e:=z) (hk:=z) (xs:=[.tmp 12,.tmp 13]) (hv:=CO.eq (CO.cons z (CO.cons z CO.nil))) (hw:=Wide.of z) (hd:=z) fun ax=>have o:RowF VF128 w [[.func (.func 216) #[] #[.pointer (some ⟨d,0,none⟩),.pointer (some ⟨b,0,none⟩)]],[.func (.func 217) #[] #[.pointer (some ⟨d,0,none⟩),.pointer (some ⟨b,0,none⟩)]]] ([(fun p=>hall_roundMoves1 p a a1),(fun p=>hall_roundMoves2 p a a1)]:List (Int→Option Int)):=(RowF.cons ⟨(.func (.func 216) #[] #[.pointer (some ⟨d,0,none⟩),.pointer (some ⟨b,0,none⟩)]),z,⟨⟨z,z⟩,.inr ⟨216,[],[.pointer (some ⟨d,0,none⟩),.pointer (some ⟨b,0,none⟩)],z,fun C D ay aA aa ab=>hall_roundMoves1_ok (y.mono D) (show (VI .i64) C [.int .i64 a] a from z) (B.mono D) (show (VI .i64) C [.int .i64 a1] a1 from z) aa ab⟩⟩⟩ (RowF.cons ⟨(.func (.func 217) #[] #[.pointer (some ⟨d,0,none⟩),.pointer (some ⟨b,0,none⟩)]),z,⟨⟨z,z⟩,.inr ⟨217,[],[.pointer (some ⟨d,0,none⟩),.pointer (some ⟨b,0,none⟩)],z,fun E G aB aC ac ad=>hall_roundMoves2_ok (y.mono G) (show (VI .i64) E [.int .i64 a] a from z) (B.mono G) (show (VI .i64) E [.int .i64 a1] a1 from z) ac ad⟩⟩⟩ RowF.nil)); ?_)))
   obtain ⟨I,J,H⟩:=bnd H
   have K:=RowF.mono VF128.mono t x
   refine To (O.apX elhall_255 elhall_255 zehall_128 z z z (j:=1) z (Src.row (j:=0) z) (Wide.of z) (RowF.ones VF128.plain o) K o J z fun ae aD aE=>have af:RowF VF128 w (c ++ [[.func (.func 216) #[] #[.pointer (some ⟨d,0,none⟩),.pointer (some ⟨b,0,none⟩)]],[.func (.func 217) #[] #[.pointer (some ⟨d,0,none⟩),.pointer (some ⟨b,0,none⟩)]]]) I:=RowF.ap K o J; Fr_ 1 z<|T.drop<|Ag z<|Ni<|Bn<|Th<|Rg ?_)
   obtain ⟨ag,ai,H⟩:=bnd H
   refine Vv (V.addS z z ai)<|Mv z<|Nt<|T.again (Y,I,ag,ae,(c ++ [[.func (.func 216) #[] #[.pointer (some ⟨d,0,none⟩),.pointer (some ⟨b,0,none⟩)]],[.func (.func 217) #[] #[.pointer (some ⟨d,0,none⟩),.pointer (some ⟨b,0,none⟩)]]])) A (Nat.lt_succ_self _) ⟨(iterK_in H u),af⟩ (AllIn.app ⟨z,z,trivial⟩ ⟨z,z,trivial⟩) z
  refine T.exit<|Te<|Te<|have H:=iterK_out H u; Be<|Th<|T.met (g,f,c) s ⟨H,t⟩ (AllIn.app ⟨z,trivial⟩ trivial) z
 rintro ⟨n,i,k⟩ aG aj ⟨ak,am⟩
 have H:=cutE ak U
 refine T.norm [5] z<|Sl_ (rowR 128 1 i k::L) z<|Sr<|Mv z<|Ag z<|Nt<|T.ret<|T.rowFix fun aI M an=>have ao:=RowF.mono VF128.mono am M; have aq:=RowF.slc an ao; ?_
 obtain rfl:=Option.some.inj H
 have ar:=((P.trans aj).trans M)
 exact T.retL Tryz.results171 (Rv z) ar ⟨z,aq⟩
theorem hall_longMoves1_ok {h:PH} {k1:Int} {pp1:Addr} {pc1:List Value} {t2:Int} (pa1:AtC h pp1 pc1) (pr1:(VI .i64) h pc1 t2) {pp2:Addr} {pc2:List Value} {t3:Int} (pa2:AtC h pp2 pc2) (pr2:(VI .i64) h pc2 t3) {r_0:Bool} (H:hall_longMoves1 k1 t2 t3 = some r_0):∀ L,FnS Tryz.prog 219 [.int .i64 k1,.pointer (some pp1),.pointer (some pp2)] h (L) (fun v h' L'=>v = .bool r_0∧L' = L):=by
 intro L
 exact dead H
theorem hall_longMoves2_ok {h:PH} {k1:Int} {pp1:Addr} {pc1:List Value} {t2:Int→Option Bool} (pa1:AtC h pp1 pc1) (pr1:VF138 h pc1 t2) {pp2:Addr} {pc2:List Value} {t5:Int} (pa2:AtC h pp2 pc2) (pr2:(VI .i64) h pc2 t5) {pp3:Addr} {pc3:List Value} {t6:Int} (pa3:AtC h pp3 pc3) (pr3:(VI .i64) h pc3 t6) {r_0:Int} (H:hall_longMoves2 k1 t2 t5 t6 = some r_0):∀ L,FnS Tryz.prog 220 [.int .i64 k1,.pointer (some pp1),.pointer (some pp2),.pointer (some pp3)] h (L) (fun v h' L'=>v = .int .i64 r_0∧L' = L):=by
 intro L
 exact dead H
theorem hall_longMoves3_ok {h:PH} {k1:Int} {pp1:Addr} {pc1:List Value} {t2:Int→Option Bool} (pa1:AtC h pp1 pc1) (pr1:VF138 h pc1 t2) {pp2:Addr} {pc2:List Value} {t5:Int} (pa2:AtC h pp2 pc2) (pr2:(VI .i64) h pc2 t5) {pp3:Addr} {pc3:List Value} {t6:Int} (pa3:AtC h pp3 pc3) (pr3:(VI .i64) h pc3 t6) {r_0:Int} (H:hall_longMoves3 k1 t2 t5 t6 = some r_0):∀ L,FnS Tryz.prog 221 [.int .i64 k1,.pointer (some pp1),.pointer (some pp2),.pointer (some pp3)] h (L) (fun v h' L'=>v = .int .i64 r_0∧L' = L):=by
 intro L
 exact dead H
theorem hall_longMoves4_ok {h:PH} {k1:Int} {pp1:Addr} {pc1:List Value} {t2:Int→Option Int} (pa1:AtC h pp1 pc1) (pr1:VF128 h pc1 t2) {pp2:Addr} {pc2:List Value} {t5:Int→Option Int} (pa2:AtC h pp2 pc2) (pr2:VF128 h pc2 t5) {r_0:Int} (H:hall_longMoves4 k1 t2 t5 = some r_0):∀ L,FnS Tryz.prog 223 [.int .i64 k1,.pointer (some pp1),.pointer (some pp2)] h (L) (fun v h' L'=>v = .int .i64 r_0∧L' = L):=by
 intro L
 exact dead H
theorem hall_longMoves_ok {h:PH} {a1:Int} {b2:Int} {r_0:List (Int→Option Int)} (H:hall_longMoves a1 b2 = some r_0):∀ L,FnS Tryz.prog 176 [.int .i64 a1,.int .i64 b2] h (L) (fun v h' L'=>L' = L∧Slc VF128 1 h' v r_0):=by
 intro L
 exact dead H
theorem hall_shoeMoves1_ok {h:PH} {k1:Int} {pp1:Addr} {pc1:List Value} {t2:Int} (pa1:AtC h pp1 pc1) (pr1:(VI .i64) h pc1 t2) {pp2:Addr} {pc2:List Value} {t3:Int} (pa2:AtC h pp2 pc2) (pr2:(VI .i64) h pc2 t3) {r_0:Int} (H:hall_shoeMoves1 k1 t2 t3 = some r_0):∀ L,FnS Tryz.prog 224 [.int .i64 k1,.pointer (some pp1),.pointer (some pp2)] h (L) (fun v h' L'=>v = .int .i64 r_0∧L' = L):=by
 intro L
 exact dead H
theorem hall_shoeMoves_ok {h:PH} {a1:Int} {b2:Int} {r_0:List (Int→Option Int)} (H:hall_shoeMoves a1 b2 = some r_0):∀ L,FnS Tryz.prog 181 [.int .i64 a1,.int .i64 b2] h (L) (fun v h' L'=>L' = L∧Slc VF128 1 h' v r_0):=by
 intro L
 exact dead H
theorem hall_rowMoves1_ok {h:PH} {k1:Int} {pp1:Addr} {pc1:List Value} {t2:Int} (pa1:AtC h pp1 pc1) (pr1:(VI .i64) h pc1 t2) {r_0:Int} (H:hall_rowMoves1 k1 t2 = some r_0):∀ L,FnS Tryz.prog 225 [.int .i64 k1,.pointer (some pp1)] h (L) (fun v h' L'=>v = .int .i64 r_0∧L' = L):=by
 intro L
 obtain rfl:=pr1
 refine FnS.enter Tryz.func225 z Tryz.ntmps225 z<|Sr<|Ag z<|Nt<|Sr<|Vv (V.ld0 shhall_3 z pa1 z) ?_
 obtain ⟨c,a,H⟩:=bnd H
 refine Vv (V.subS z z a)<|Mv z ?_
 obtain ⟨d,b,H⟩:=bnd H
 refine Vv (V.subS z z b)<|Ag z<|Nt<|T.ret ?_
 obtain rfl:=Option.some.inj H
 exact T.retL Tryz.results225 (Rv z) Lr ⟨z,z⟩
theorem hall_rowMoves_ok {h:PH} {a1:Int} {b2:Int} {r_0:List (Int→Option Int)} (H:hall_rowMoves a1 b2 = some r_0):∀ L,FnS Tryz.prog 186 [.int .i64 a1,.int .i64 b2] h (L) (fun v h' L'=>L' = L∧Slc VF128 1 h' v r_0):=by
 intro L
 refine FnS.enter Tryz.func186 z Tryz.ntmps186 z<|Sr<|To (O.boxF z z z fun a c d f=>Ag z<|Nt<|Sr<|Vv (V.mkf z z)<|To (O.bs elhall_255 zehall_128 z (e:=z) (hk:=z) (xs:=[.func 222,.tmp 5]) (hv:=CO.eq (CO.cons z (CO.cons z CO.nil))) (hw:=Wide.of z) (hd:=z) fun u=>have g:RowF VF128 c [[.func (.func 222) #[] #[]],[.func (.func 225) #[] #[.pointer (some ⟨a,0,none⟩)]]] ([hall_same,(fun i=>hall_rowMoves1 i a1)]:List (Int→Option Int)):=(RowF.cons ⟨(.func (.func 222) #[] #[]),z,⟨⟨z,z⟩,.inr ⟨222,[],[],z,fun w x y A j k=>hall_same_ok j k⟩⟩⟩ (RowF.cons ⟨(.func (.func 225) #[] #[.pointer (some ⟨a,0,none⟩)]),z,⟨⟨z,z⟩,.inr ⟨225,[],[.pointer (some ⟨a,0,none⟩)],z,fun m n B C o p=>hall_rowMoves1_ok (f.mono n) (show (VI .i64) m [.int .i64 a1] a1 from z) o p⟩⟩⟩ RowF.nil)); Ag z<|Nt<|T.ret<|T.rowFix fun D b q=>have r:=RowF.mono VF128.mono g b; have s:=RowF.slc q r; ?_))
 obtain rfl:=Option.some.inj H
 have t:=(d.trans b)
 exact T.retL Tryz.results186 (Rv z) t ⟨z,s⟩
theorem hall_layoutOf_ok {h:PH} {s1:Int} {r_0:halllayout} {r_1:Bool} (H:hall_layoutOf s1 = some (r_0,r_1)):∀ L,FnS Tryz.prog 123 [.int .u8 s1] h (L) (fun v h' L'=>∃ v0_1 v0_3 v0_5 v0_7 v0_9,v = .tuple #[.agg #[.string r_0.fword,v0_1,v0_3,v0_5,v0_7,v0_9],.bool r_1]∧L' = L∧CF36 h' v0_1 r_0.fseats∧CF195 h' v0_3 r_0.fbeside∧CF195 h' v0_5 r_0.facross∧CF36 h' v0_7 r_0.fhonour∧CF196 h' v0_9 r_0.fmoves):=by
 intro L
 refine FnS.enter Tryz.func123 z Tryz.ntmps123 z<|Sr<|To (O.alloc zehall_198 z z fun y=>Ag z<|Nt<|Sq<|Sr<|Mv z<|Nt<|Bl<|Sr<|Vv (V.eq z z)<|Ag z<|Nt<|T.cH H z (fun H=>?_) (fun H=>?_))
 ·refine Sr<|Vv (V.bld (xs:=[(0,.const (.string ⟨#[114,111,117,110,100]⟩)),(1,.func 167),(2,.func 168),(3,.func 169),(4,.func 170),(5,.func 171)]) (cs:=[_,_,_,_,_,_]) blhall_198 bohall_198 z (Fills.cons z z z (Fills.cons z z z (Fills.cons z z z (Fills.cons z z z (Fills.cons z z z (Fills.cons z z z Fills.nil)))))))<|To (O.stF (vs:=[.string (⟨#[114,111,117,110,100]⟩:ByteArray),.func (.func 167) #[] #[],.func (.func 168) #[] #[],.func (.func 169) #[] #[],.func (.func 170) #[] #[],.func (.func 171) #[] #[]]) shhall_198 z z (j:=0) z z z z<|Ag z<|Nt<|T.ret<|Br<|Tr ?_)
  obtain ⟨rfl,rfl⟩:=inj2 H
  exact T.retD (L':=L) Tryz.results123 (RVs.cons (RV.cellS z (j:=0) z shhall_198) (Rv z)) Lr (fun _ iv=>iv.drop) ⟨_,_,_,_,_,z,z,⟨⟨z,z⟩,.inr ⟨167,[],[],z,fun A B C D E a b=>hall_roundSeats_ok a b⟩⟩,⟨⟨z,z⟩,.inr ⟨168,[],[],z,fun G I J K M N P c d=>hall_roundBeside_ok c d⟩⟩,⟨⟨z,z⟩,.inr ⟨169,[],[],z,fun S U W X Y Z aa e f=>hall_roundAcross_ok e f⟩⟩,⟨⟨z,z⟩,.inr ⟨170,[],[],z,fun ab ac ad ae af g i=>hall_lay1_ok g i⟩⟩,⟨⟨z,z⟩,.inr ⟨171,[],[],z,fun ag ai aj ak am k m=>hall_roundMoves_ok k m⟩⟩⟩
 refine Sr<|Vv (V.eq z z)<|Ag z<|Nt<|T.cH H z (fun H=>?_) (fun H=>?_)
 ·exact dead H
 refine Sr<|Vv (V.eq z z)<|Ag z<|Nt<|T.cH H z (fun H=>?_) (fun H=>?_)
 ·exact dead H
 refine Sr<|Vv (V.eq z z)<|Ag z<|Nt<|T.cH H z (fun H=>?_) (fun H=>?_)
 ·refine Sr<|Vv (V.bld (xs:=[(0,.const (.string ⟨#[114,111,119]⟩)),(1,.func 182),(2,.func 183),(3,.func 184),(4,.func 185),(5,.func 186)]) (cs:=[_,_,_,_,_,_]) blhall_198 bohall_198 z (Fills.cons z z z (Fills.cons z z z (Fills.cons z z z (Fills.cons z z z (Fills.cons z z z (Fills.cons z z z Fills.nil)))))))<|To (O.stF (vs:=[.string (⟨#[114,111,119]⟩:ByteArray),.func (.func 182) #[] #[],.func (.func 183) #[] #[],.func (.func 184) #[] #[],.func (.func 185) #[] #[],.func (.func 186) #[] #[]]) shhall_198 z z (j:=0) z z z z<|Ag z<|Nt<|T.ret<|Br<|Tr ?_)
  obtain ⟨rfl,rfl⟩:=inj2 H
  exact T.retD (L':=L) Tryz.results123 (RVs.cons (RV.cellS z (j:=0) z shhall_198) (Rv z)) Lr (fun _ iv=>iv.drop) ⟨_,_,_,_,_,z,z,⟨⟨z,z⟩,.inr ⟨182,[],[],z,fun an ao ap aq ar n o=>hall_rowSeats_ok n o⟩⟩,⟨⟨z,z⟩,.inr ⟨183,[],[],z,fun au aw ax ay aA aB aC p q=>hall_rowBeside_ok p q⟩⟩,⟨⟨z,z⟩,.inr ⟨184,[],[],z,fun aD aE aG aI aJ aK aM r s=>hall_lay3_ok r s⟩⟩,⟨⟨z,z⟩,.inr ⟨185,[],[],z,fun aN aO aP aS aU t u=>hall_lay4_ok t u⟩⟩,⟨⟨z,z⟩,.inr ⟨186,[],[],z,fun aV aW aX aY aZ w x=>hall_rowMoves_ok w x⟩⟩⟩
 exact dead H
theorem hall_size_ok {h:PH} {pc0:List Value} {t1:apiTable} (pr0:VapiTable h pc0 t1) {r_0:Int} (H:hall_size t1 = some r_0):∀ L,FnS Tryz.prog 72 [.agg pc0.toArray] h (L) (fun v h' L'=>v = .int .i64 r_0∧L' = L):=by
 intro L
 obtain ⟨N,rfl,P⟩:=pr0
 refine FnS.enter Tryz.func72 z Tryz.ntmps72 z<|Sr<|To (O.boxF z z z fun S U f b=>Ag z<|Nt<|Sr<|Vv (V.fa fdhall_26_1 z)<|Vv (V.ldf (k:=1) shhall_23 z b z) ?_)
 obtain ⟨⟨g,W⟩,i,H⟩:=bnd H
 refine To (O.callS z (hall_layoutOf_ok i _) z fun X Y Z c m=>?_)
 obtain ⟨n,o,p,q,r,rfl,s,d,t,u,w,x⟩:=m
 refine Sl_ _ s<|Mv z<|Vv (V.ext rfl rfl)<|Vv (V.ext rfl rfl)<|To (O.alloc zehall_198 rfl rfl fun aa=>To (O.stF (vs:=[.string g.fword,n,o,p,q,r]) shhall_198 rfl rfl (j:=0) rfl rfl (by (simp only [Sl.ones,d.1.1,t.1.1,u.1.1,w.1.1,x.1.1,Bool.and_true,Bool.true_and]) <;> rfl) rfl ?_))
 refine T.freeze fun ab a y=>have A:=AtC.of y; Ag z<|Nt<|Sq<|Sr<|Mv z<|Vv (V.not z)<|Nt<|T.cH H z (fun H=>?_) (fun H=>?_)
 ·exact dead H
 refine T.skip<|Th<|Sr<|Vv (V.fa fdhall_198_1 z)<|Vv (V.ldf (k:=1) shhall_36 z A z)<|Vv (V.fa fdhall_26_2 z)<|have B:=(c.trans a); have e:=b.mono B; Vv (V.ldf (k:=2) shhall_3 z e z)<|Vv (V.fa fdhall_26_3 z)<|Vv (V.ldf (k:=3) shhall_3 z e z) ?_
 obtain ⟨ac,C,H⟩:=bnd H
 have D:=CF36.mono d a
 obtain ⟨ad,ae,af,E,G⟩:=CF36.call D C
 refine To (O.callfW z E z (G _) z fun ag ai aj I J=>?_)
 obtain ⟨rfl,K⟩:=J
 refine Sl_ _ K<|Ag z<|Nt<|T.ret ?_
 obtain rfl:=Option.some.inj H
 have M:=(((f.trans c).trans a).trans I)
 exact T.retL Tryz.results72 (Rv z) M ⟨z,z⟩
theorem hall_beside_ok {h:PH} {pc0:List Value} {t1:apiTable} (pr0:VapiTable h pc0 t1) {x4:Int} {y5:Int} {r_0:Bool} (H:hall_beside t1 x4 y5 = some r_0):∀ L,FnS Tryz.prog 110 [.agg pc0.toArray,.int .i64 x4,.int .i64 y5] h (L) (fun v h' L'=>v = .bool r_0∧L' = L):=by
 intro L
 obtain ⟨P,rfl,S⟩:=pr0
 refine FnS.enter Tryz.func110 z Tryz.ntmps110 z<|Sr<|To (O.boxF z z z fun U W c d=>Ag z<|Nt<|Sr<|Vv (V.fa fdhall_26_1 z)<|Vv (V.ldf (k:=1) shhall_23 z d z) ?_)
 obtain ⟨⟨g,X⟩,i,H⟩:=bnd H
 refine To (O.callS z (hall_layoutOf_ok i _) z fun Y Z aa b m=>?_)
 obtain ⟨n,o,p,q,r,rfl,s,t,e,u,w,x⟩:=m
 refine Sl_ _ s<|Mv z<|Vv (V.ext rfl rfl)<|Vv (V.ext rfl rfl)<|To (O.alloc zehall_198 rfl rfl fun ab=>To (O.stF (vs:=[.string g.fword,n,o,p,q,r]) shhall_198 rfl rfl (j:=0) rfl rfl (by (simp only [Sl.ones,t.1.1,e.1.1,u.1.1,w.1.1,x.1.1,Bool.and_true,Bool.true_and]) <;> rfl) rfl ?_))
 refine T.freeze fun ac a y=>have A:=AtC.of y; Ag z<|Nt<|Sr<|Mv z<|Mv z<|Vv (V.ne z z)<|Mv z<|T.bH 18 H z (fun H=>?_) (fun H=>?_)
 ·refine Vv (V.fa fdhall_198_2 z)<|Vv (V.ldf (k:=2) shhall_195 z A z)<|Vv (V.fa fdhall_26_2 z)<|have B:=(b.trans a); have f:=d.mono B; Vv (V.ldf (k:=2) shhall_3 z f z)<|Vv (V.fa fdhall_26_3 z)<|Vv (V.ldf (k:=3) shhall_3 z f z)<|Mv z<|Mv z<|Vv (V.min2 z z)<|Mv z<|Mv z<|Vv (V.max2 z z) ?_
  obtain ⟨ad,C,H⟩:=bnd H
  have D:=CF195.mono e a
  obtain ⟨ae,af,ag,E,G⟩:=CF195.call D C
  refine To (O.callfW z E z (G _) z fun ai aj ak I J=>?_)
  obtain ⟨rfl,K⟩:=J
  refine Sl_ _ K<|Vv (V.pkT z z)<|Ag z<|Nt<|T.ret ?_
  obtain rfl:=Option.some.inj H
  have M:=(((c.trans b).trans a).trans I)
  exact T.retL Tryz.results110 (Rv z) M ⟨z,z⟩
 refine Sk<|Sk<|Sk<|Sk<|Sk<|Sk<|Sk<|Sk<|Sk<|Sk<|Sk<|Sk<|Sk<|Vv (V.pkF z z)<|Ag z<|Nt<|T.ret ?_
 obtain rfl:=Option.some.inj H
 have N:=((c.trans b).trans a)
 exact T.retL Tryz.results110 (Rv z) N ⟨z,z⟩
theorem hall_across_ok {h:PH} {pc0:List Value} {t1:apiTable} (pr0:VapiTable h pc0 t1) {x4:Int} {y5:Int} {r_0:Bool} (H:hall_across t1 x4 y5 = some r_0):∀ L,FnS Tryz.prog 111 [.agg pc0.toArray,.int .i64 x4,.int .i64 y5] h (L) (fun v h' L'=>v = .bool r_0∧L' = L):=by
 intro L
 obtain ⟨P,rfl,S⟩:=pr0
 refine FnS.enter Tryz.func111 z Tryz.ntmps111 z<|Sr<|To (O.boxF z z z fun U W c d=>Ag z<|Nt<|Sr<|Vv (V.fa fdhall_26_1 z)<|Vv (V.ldf (k:=1) shhall_23 z d z) ?_)
 obtain ⟨⟨g,X⟩,i,H⟩:=bnd H
 refine To (O.callS z (hall_layoutOf_ok i _) z fun Y Z aa b m=>?_)
 obtain ⟨n,o,p,q,r,rfl,s,t,u,e,w,x⟩:=m
 refine Sl_ _ s<|Mv z<|Vv (V.ext rfl rfl)<|Vv (V.ext rfl rfl)<|To (O.alloc zehall_198 rfl rfl fun ab=>To (O.stF (vs:=[.string g.fword,n,o,p,q,r]) shhall_198 rfl rfl (j:=0) rfl rfl (by (simp only [Sl.ones,t.1.1,u.1.1,e.1.1,w.1.1,x.1.1,Bool.and_true,Bool.true_and]) <;> rfl) rfl ?_))
 refine T.freeze fun ac a y=>have A:=AtC.of y; Ag z<|Nt<|Sr<|Mv z<|Mv z<|Vv (V.ne z z)<|Mv z<|T.bH 18 H z (fun H=>?_) (fun H=>?_)
 ·refine Vv (V.fa fdhall_198_3 z)<|Vv (V.ldf (k:=3) shhall_195 z A z)<|Vv (V.fa fdhall_26_2 z)<|have B:=(b.trans a); have f:=d.mono B; Vv (V.ldf (k:=2) shhall_3 z f z)<|Vv (V.fa fdhall_26_3 z)<|Vv (V.ldf (k:=3) shhall_3 z f z)<|Mv z<|Mv z<|Vv (V.min2 z z)<|Mv z<|Mv z<|Vv (V.max2 z z) ?_
  obtain ⟨ad,C,H⟩:=bnd H
  have D:=CF195.mono e a
  obtain ⟨ae,af,ag,E,G⟩:=CF195.call D C
  refine To (O.callfW z E z (G _) z fun ai aj ak I J=>?_)
  obtain ⟨rfl,K⟩:=J
  refine Sl_ _ K<|Vv (V.pkT z z)<|Ag z<|Nt<|T.ret ?_
  obtain rfl:=Option.some.inj H
  have M:=(((c.trans b).trans a).trans I)
  exact T.retL Tryz.results111 (Rv z) M ⟨z,z⟩
 refine Sk<|Sk<|Sk<|Sk<|Sk<|Sk<|Sk<|Sk<|Sk<|Sk<|Sk<|Sk<|Sk<|Vv (V.pkF z z)<|Ag z<|Nt<|T.ret ?_
 obtain rfl:=Option.some.inj H
 have N:=((c.trans b).trans a)
 exact T.retL Tryz.results111 (Rv z) N ⟨z,z⟩
theorem hall_near_ok {h:PH} {pc0:List Value} {t1:apiTable} (pr0:VapiTable h pc0 t1) {x4:Int} {y5:Int} {r_0:Bool} (H:hall_near t1 x4 y5 = some r_0):∀ L,FnS Tryz.prog 210 [.agg pc0.toArray,.int .i64 x4,.int .i64 y5] h (L) (fun v h' L'=>v = .bool r_0∧L' = L):=by
 intro L
 obtain ⟨a,rfl,f⟩:=pr0
 refine FnS.enter Tryz.func210 rfl Tryz.ntmps210 rfl<|Sr<|To (O.boxF rfl rfl rfl fun w g c d=>Ag z<|Nt<|Sr<|Vv (V.ldS rfl d (by exact shhall_26)) ?_)
 refine Mv z<|Mv z<|have e:=Slc.mono VI.mono f c; ?_
 obtain ⟨x,i,H⟩:=bnd H
 refine To (O.callS z (hall_beside_ok (show VapiTable g [.string t1.fName,.int .u8 t1.fShape,.int .i64 t1.fA,.int .i64 t1.fB,a,.int .i64 t1.fX,.int .i64 t1.fY] t1 from ⟨a,z,e⟩) i _) z fun y j A b k=>?_)
 obtain ⟨rfl,m⟩:=k
 refine Sl_ _ m<|Mv z<|T.bH 11 H z (fun H=>?_) (fun H=>?_)
 ·refine Sk<|Sk<|Sk<|Sk<|Vv (V.pkT z z)<|Ag z<|Nt<|T.ret ?_
  obtain rfl:=Option.some.inj H
  have n:=(c.trans b)
  exact T.retL Tryz.results210 (Rv z) n ⟨z,z⟩
 have o:=d.mono b
 refine Vv (V.ldS rfl o (by exact shhall_26)) ?_
 refine Mv z<|Mv z<|have p:=Slc.mono VI.mono e b; ?_
 obtain ⟨B,q,H⟩:=bnd H
 refine To (O.callS z (hall_across_ok (show VapiTable j [.string t1.fName,.int .u8 t1.fShape,.int .i64 t1.fA,.int .i64 t1.fB,a,.int .i64 t1.fX,.int .i64 t1.fY] t1 from ⟨a,z,p⟩) q _) z fun C D E r s=>?_)
 obtain ⟨rfl,t⟩:=s
 refine Sl_ _ t<|Vv (V.pkF z z)<|Ag z<|Nt<|T.ret ?_
 obtain rfl:=Option.some.inj H
 have u:=((c.trans b).trans r)
 exact T.retL Tryz.results210 (Rv z) u ⟨z,z⟩
theorem hall_steps_ok {h:PH} {pc0:List Value} {t1:apiTable} (pr0:VapiTable h pc0 t1) {from4:Int} {r_0:List Int} (H:hall_steps t1 from4 = some r_0):∀ L,FnS Tryz.prog 158 [.agg pc0.toArray,.int .i64 from4] h (L) (fun v h' L'=>∃ cs0,L' = rowR 3 1 v cs0::L∧RowF (VI .i64) h' cs0 r_0):=by
 intro L
 obtain ⟨W,rfl,aZ⟩:=pr0
 refine FnS.enter Tryz.func158 rfl Tryz.ntmps158 rfl<|Sr<|To (O.boxF rfl rfl rfl fun ca a0 am an=>Ag z<|Nt<|Sr<|Vv (V.ldS rfl an (by exact shhall_26)) ?_)
 have ao:=Slc.mono VI.mono aZ am
 obtain ⟨a1,a2,H⟩:=bnd H
 refine To (O.callS z (hall_size_ok (show VapiTable a0 [.string t1.fName,.int .u8 t1.fShape,.int .i64 t1.fA,.int .i64 t1.fB,W,.int .i64 t1.fX,.int .i64 t1.fY] t1 from ⟨W,z,ao⟩) a2 _) z fun cb a3 cc aq a4=>?_)
 obtain ⟨rfl,a5⟩:=a4
 refine Sl_ _ a5 ?_
 obtain ⟨aa,ar,H⟩:=bnd H
 refine To (O.mkX elhall_24 zehall_3 z z z z ar z fun a cd ce=>have au:RowF (VI .i64) a3 _ aa:=RowF.rep z ar; Ag z<|Nt<|Sq<|Sr<|Mv z<|Vv (V.lenX elhall_24 z (j:=0) z au.len)<|Mv z<|Nt ?_)
 obtain ⟨aw,a6,a7⟩:=bndK H
 refine T.cutK (α:=(List Int)×(List (List Value))) [1,2] z (fun ⟨J,n⟩=>[(5,a)]) (fun ⟨J,n⟩=>rowR 3 1 a n::L) (fun ⟨J,n⟩ hh=>aw = J∧RowF (VI .i64) hh n J) ?_ ?_
 ·have H:=a6
  refine Bl<|T.loopK (α:=Nat×Int×(List Int)×(List (List Value))) [1,2,15] z (fun ⟨x,o,r,g⟩=>[(16,.int .i64 o),(5,a)]) (fun ⟨x,o,r,g⟩=>rowR 3 1 a g::L) (fun ⟨x,o,r,g⟩ hh=>iter (hall_steps_l0 aa) x (o,r) = some aw∧RowF (VI .i64) hh g r) (fun ⟨x,o,r,g⟩=>x) (FUEL,(0:Int),aa,(List.replicate a1.toNat [.int .i64 (0:Int)])) ⟨z,z,trivial⟩ z ⟨H,au⟩ ?_
  rintro ⟨x,o,r,g⟩ ax ay ⟨a8,K⟩
  obtain ⟨a9,cf,rfl,H,aA⟩:=iter_go a8
  refine T.norm [16,5,1,2,15] z<|Sl_ (rowR 3 1 a g::L) z<|Sr<|Vv (V.lt z z)<|Nt<|Sq<|T.cH H z (fun H=>?_) (fun H=>?_)
  ·refine T.skip<|Th<|Sq<|Bl<|Sr<|Mv z<|Ag z<|Nt<|Rg<|Mv z<|Mv z ?_
   obtain ⟨cg,ab,H⟩:=bnd H
   obtain ⟨ci,cj,rfl⟩:=RowF.get K ab
   refine Vv (V.ixR elhall_24 z z (j:=0) z (RowF.bd K ab)) ?_
   obtain ⟨aB,ah,H⟩:=bnd H
   refine To (O.stR shhall_3 z z (j:=0) z (RowF.bdN K ab) z<|have al:RowF (VI .i64) ax (g.set o.toNat [.int .i64 (-1:Int)]) aB:=RowF.set K (show (VI .i64) ax [.int .i64 (-1:Int)] (-1:Int) from z) ah; Ni<|Bn<|Th<|Rg ?_)
   obtain ⟨av,az,H⟩:=bnd H
   refine Vv (V.addS z z az)<|Mv z<|Nt<|T.again (a9,av,aB,(g.set o.toNat [.int .i64 (-1:Int)])) ay (Nat.lt_succ_self _) ⟨(iterK_in H aA),al⟩ (AllIn.app ⟨z,z,trivial⟩ ⟨z,z,z,trivial⟩) z
  refine T.exit<|Te<|Te<|have H:=iterK_out H aA; Be<|Th<|T.met (r,g) ay ⟨H,K⟩ (AllIn.app ⟨z,trivial⟩ ⟨z,z,trivial⟩) z
 rintro ⟨J,n⟩ ac aC ⟨ba,X⟩
 have H:=cutE ba a7
 refine T.norm [5,1,2] z<|Sl_ (rowR 3 1 a n::L) z<|Sr<|Mv z<|Mv z ?_
 obtain ⟨ck,ad,H⟩:=bnd H
 obtain ⟨cm,cn,rfl⟩:=RowF.get X ad
 refine Vv (V.ixR elhall_24 z z (j:=0) z (RowF.bd X ad)) ?_
 obtain ⟨aD,bb,H⟩:=bnd H
 refine To (O.stR shhall_3 z z (j:=0) z (RowF.bdN X ad) z<|have bc:RowF (VI .i64) ac (n.set from4.toNat [.int .i64 (0:Int)]) aD:=RowF.set X (show (VI .i64) ac [.int .i64 (0:Int)] (0:Int) from z) bb; Nt<|Sr<|Mv z<|To (O.bs elhall_24 zehall_3 z (e:=z) (hk:=z) (xs:=[.tmp 26]) (hv:=CO.eq (CO.cons z CO.nil)) (hw:=Wide.of z) (hd:=z) fun be=>have bf:RowF (VI .i64) ac [[.int .i64 from4]] ([from4]:List Int):=(RowF.cons z RowF.nil); Ag z<|Nt<|Sq ?_))
 obtain ⟨aE,bg,bi⟩:=bndK H
 refine T.cutK (α:=(List Int)×(List (List Value))) [] z (fun ⟨M,y⟩=>[(5,a)]) (fun ⟨M,y⟩=>rowR 3 1 a y::L) (fun ⟨M,y⟩ hh=>aE = M∧RowF (VI .i64) hh y M) ?_ ?_
 ·have H:=bg
  refine Bl<|Fr_ 1 z<|T.loopK (α:=Nat×(List Int)×(List Int)×(List (List Value))×Value×(List (List Value))) [2] z (fun ⟨A,i,B,k,s,m⟩=>[(5,a),(7,s)]) (fun ⟨A,i,B,k,s,m⟩=>rowR 3 1 a k::rowR 3 1 s m::L) (fun ⟨A,i,B,k,s,m⟩ hh=>iter (hall_steps_l1 t1) A (i,B) = some aE∧RowF (VI .i64) hh k i∧RowF (VI .i64) hh m B) (fun ⟨A,i,B,k,s,m⟩=>A) (FUEL,aD,[from4],(n.set from4.toNat [.int .i64 (0:Int)]),(.slice (some ⟨be,0,none⟩) 1 1),[[.int .i64 from4]]) ⟨z,z,trivial⟩ z ⟨H,bc,bf⟩ ?_
  rintro ⟨A,i,B,k,s,m⟩ bj ae ⟨bk,af,N⟩
  obtain ⟨bm,co,rfl,H,aG⟩:=iter_go bk
  refine T.norm [5,7,2] z<|Sl_ (rowR 3 1 a k::rowR 3 1 s m::L) z<|Sq<|Sr<|Mv z<|Vv (V.lenX elhall_24 z (j:=1) z N.len)<|Vv (V.gt z z)<|Nt<|T.cH H z (fun H=>?_) (fun H=>?_)
  ·refine T.skip<|Th<|Bl<|Sr<|Mv z ?_
   obtain ⟨bn,aI,H⟩:=bnd H
   obtain ⟨cp,bo,rfl⟩:=RowF.get N aI
   refine Vv (V.ixR elhall_24 z z (j:=1) z (RowF.bd N aI))<|Vv (V.ldR shhall_3 z (j:=1) z bo z)<|Ag z<|Nt<|Sr<|Mv z ?_
   obtain ⟨aJ,aK,H⟩:=bnd H
   refine To (O.slR elhall_24 z z (j:=1) z (RowF.slb N aK) z fun bp=>have bq:RowF (VI .i64) bj (List.drop (1:Int).toNat m) aJ:=RowF.sl N aK; Ag z<|Nt<|Sr<|Mv z<|Vv (V.lenX elhall_24 z (j:=1) z af.len)<|Mv z<|Nt<|T.asThen ?_)
   obtain ⟨aM,br,bt⟩:=bndK H
   refine T.cutK (α:=(List Int)×(List Int)×(List (List Value))×Value×(List (List Value))) [2] z (fun ⟨C,D,t,u,w⟩=>[(5,a),(7,u)]) (fun ⟨C,D,t,u,w⟩=>rowR 3 1 a t::rowR 3 1 u w::L) (fun ⟨C,D,t,u,w⟩ hh=>aM = (C,D)∧RowF (VI .i64) hh t C∧RowF (VI .i64) hh w D) ?_ ?_
   ·have H:=br
    refine Bl<|Fr_ 1 z<|T.loopK (α:=Nat×(List Int)×Int×(List Int)×(List (List Value))×Value×(List (List Value))) [2,8,37] z (fun ⟨E,p,b,q,c,f,d⟩=>[(36,a),(38,.int .i64 b),(5,a),(7,f)]) (fun ⟨E,p,b,q,c,f,d⟩=>rowR 3 1 a c::rowR 3 1 f d::L) (fun ⟨E,p,b,q,c,f,d⟩ hh=>iter (hall_steps_l2 t1 i bn) E (p,b,q) = some aM∧RowF (VI .i64) hh c p∧RowF (VI .i64) hh d q) (fun ⟨E,p,b,q,c,f,d⟩=>E) (FUEL,i,(0:Int),aJ,k,bp,(List.drop (1:Int).toNat m)) ⟨z,z,z,z,trivial⟩ z ⟨H,af,bq⟩ ?_
    rintro ⟨E,p,b,q,c,f,d⟩ bu Y ⟨bw,P,ag⟩
    obtain ⟨aN,cq,rfl,H,ai⟩:=iter_go bw
    refine T.norm [36,38,5,7,2,8,37] z<|Sl_ (rowR 3 1 a c::rowR 3 1 f d::L) z<|Sr<|Vv (V.lt z z)<|Nt<|Sq<|T.cH H z (fun H=>?_) (fun H=>?_)
    ·refine T.skip<|Th<|Sq<|Bl<|Sr<|Mv z ?_
     obtain ⟨cr,aO,H⟩:=bnd H
     obtain ⟨cs,bx,rfl⟩:=RowF.get P aO
     refine Vv (V.ixR elhall_24 z z (j:=0) z (RowF.bd P aO))<|Vv (V.ldR shhall_3 z (j:=0) z bx z)<|Ag z<|Ag z<|Nt<|Sq ?_
     obtain ⟨bA,bB,bC⟩:=bndK H
     refine T.cutK (α:=Bool) [2,5,7,8,9,36,37,38] z (fun S=>[(50,.bool S)]) (fun S=>rowR 3 1 a c::rowR 3 1 f d::L) (fun S hh=>bA = S) ?_ ?_
     ·have H:=bB
      refine Rg<|Mv z<|Vv (V.lt z z)<|Mv z<|T.bH 45 H z (fun H=>?_) (fun H=>?_)
      ·have aP:=(((aq.trans aC).trans ae).trans Y)
       have bD:=an.mono aP
       refine Vv (V.ldS rfl bD (by exact shhall_26)) ?_
       refine Mv z<|Mv z<|have bE:=Slc.mono VI.mono ao aP; ?_
       obtain ⟨bG,bI,H⟩:=bnd H
       refine To (O.callS z (hall_near_ok (show VapiTable bu [.string t1.fName,.int .u8 t1.fShape,.int .i64 t1.fA,.int .i64 t1.fB,W,.int .i64 t1.fX,.int .i64 t1.fY] t1 from ⟨W,z,bE⟩) bI _) z fun ct cu cw bJ bK=>?_)
       obtain ⟨rfl,bM⟩:=bK
       refine Sl_ _ bM<|Vv (V.pkT z z)<|Nt<|T.met bG bJ (sinj H) (AllIn.app ⟨z,trivial⟩ ⟨z,z,z,z,z,z,z,z,trivial⟩) z
      refine Sk<|Sk<|Sk<|Sk<|Vv (V.pkF z z)<|Nt<|T.met false Lr (sinj H) (AllIn.app ⟨z,trivial⟩ ⟨z,z,z,z,z,z,z,z,trivial⟩) z
     rintro S Z G bN
     have H:=cutE bN bC
     refine T.norm [50,2,5,7,8,9,36,37,38] z<|Sl_ (rowR 3 1 a c::rowR 3 1 f d::L) z<|T.cH H z (fun H=>?_) (fun H=>?_)
     ·refine Sr<|Mv z<|Mv z<|Mv z<|Mv z ?_
      obtain ⟨cx,aS,H⟩:=bnd H
      have I:=RowF.mono VI.mono P G
      obtain ⟨cy,bO,rfl⟩:=RowF.get I aS
      refine Vv (V.ixR elhall_24 z z (j:=0) z (RowF.bd I aS))<|Vv (V.ldR shhall_3 z (j:=0) z bO z) ?_
      obtain ⟨U,bP,H⟩:=bnd H
      refine Vv (V.addS z z bP) ?_
      obtain ⟨cA,aj,H⟩:=bnd H
      obtain ⟨cB,cC,rfl⟩:=RowF.get I aj
      refine Vv (V.ixR elhall_24 z z (j:=0) z (RowF.bd I aj)) ?_
      obtain ⟨aU,bS,H⟩:=bnd H
      refine To (O.stR shhall_3 z z (j:=0) z (RowF.bdN I aj) z<|have bU:RowF (VI .i64) Z (c.set b.toNat [.int .i64 U]) aU:=RowF.set I (show (VI .i64) Z [.int .i64 U] U from z) bS; Nt<|Rg<|Mv z<|Mv z<|To (O.bs elhall_24 zehall_3 z (e:=z) (hk:=z) (xs:=[.tmp 60]) (hv:=CO.eq (CO.cons z CO.nil)) (hw:=Wide.of z) (hd:=z) fun bV=>have ak:RowF (VI .i64) Z [[.int .i64 b]] ([b]:List Int):=(RowF.cons z RowF.nil); ?_))
      obtain ⟨aV,aW,H⟩:=bnd H
      have aX:=RowF.mono VI.mono ag G
      refine To (O.apX elhall_24 elhall_24 zehall_3 z z z (j:=2) z (Src.row (j:=0) z) (Wide.of z) (RowF.ones VI.plain ak) aX ak aW z fun aY cD cE=>have bW:RowF (VI .i64) Z (d ++ [[.int .i64 b]]) aV:=RowF.ap aX ak aW; Sl_ (rowR 3 1 aY (d ++ [[.int .i64 b]])::rowR 3 1 (.slice (some ⟨bV,0,none⟩) 1 1) [[.int .i64 b]]::rowR 3 1 a (c.set b.toNat [.int .i64 U])::L) z<|Fr_ 1 z<|T.fl ?_)
      refine T.drop<|Ag z<|Ni<|Bn<|Th<|Rg ?_
      obtain ⟨bX,bY,H⟩:=bnd H
      refine Vv (V.addS z z bY)<|Mv z<|Nt<|Fr_ 1 z<|have bZ:=(Y.trans G); T.again (aN,aU,bX,aV,(c.set b.toNat [.int .i64 U]),aY,(d ++ [[.int .i64 b]])) bZ (Nat.lt_succ_self _) ⟨(iterK_in H ai),bU,bW⟩ (AllIn.app ⟨z,z,z,z,trivial⟩ ⟨z,z,z,trivial⟩) z
     refine T.skip<|Bn<|Th<|Rg ?_
     obtain ⟨b0,b1,H⟩:=bnd H
     refine Vv (V.addS z z b1)<|Mv z<|Nt<|have b2:=RowF.mono VI.mono P G; have b3:=RowF.mono VI.mono ag G; have b4:=(Y.trans G); T.again (aN,p,b0,q,c,f,d) b4 (Nat.lt_succ_self _) ⟨(iterK_in H ai),b2,b3⟩ (AllIn.app ⟨z,z,z,z,trivial⟩ ⟨z,z,z,trivial⟩) z
    refine T.exit<|Te<|Te<|have H:=iterK_out H ai; Be<|Th<|T.met (p,q,c,f,d) Y ⟨H,P,ag⟩ (AllIn.app ⟨z,z,trivial⟩ ⟨z,trivial⟩) z
   rintro ⟨C,D,t,u,w⟩ cG b5 ⟨b6,b7,b8⟩
   have H:=cutE b6 bt
   refine T.norm [5,7,2] z<|Sl_ (rowR 3 1 a t::rowR 3 1 u w::L) z<|Bn<|Th<|have b9:=(ae.trans b5); T.again (bm,C,D,t,u,w) b9 (Nat.lt_succ_self _) ⟨(iterK_in H aG),b7,b8⟩ (AllIn.app ⟨z,z,trivial⟩ ⟨z,trivial⟩) z
  refine T.exit<|Te<|Te<|have H:=iterK_out H aG; Be<|Th<|Fr_ 1 z<|T.drop<|T.met (i,k) ae ⟨H,af⟩ (AllIn.app ⟨z,trivial⟩ trivial) z
 rintro ⟨M,y⟩ cI bh ⟨bl,bv⟩
 have H:=cutE bl bi
 refine T.norm [5] z<|Sl_ (rowR 3 1 a y::L) z<|Sr<|Mv z<|Ag z<|Nt<|T.ret ?_
 obtain rfl:=Option.some.inj H
 have bz:=(((am.trans aq).trans aC).trans bh)
 exact T.retL Tryz.results158 (Rv z) bz ⟨_,z,bv⟩
theorem hall_levels_ok {h:PH} {pc0:List Value} {t1:apiTable} (pr0:VapiTable h pc0 t1) {r_0:List Int} (H:hall_levels t1 = some r_0):∀ L,FnS Tryz.prog 108 [.agg pc0.toArray] h (L) (fun v h' L'=>∃ cs0,L' = rowR 3 1 v cs0::L∧RowF (VI .i64) h' cs0 r_0):=by
 intro L
 obtain ⟨o,rfl,B⟩:=pr0
 refine FnS.enter Tryz.func108 z Tryz.ntmps108 z<|Sr<|To (O.boxF z z z fun aD aE C p=>Ag z<|Nt<|Sr<|Vv (V.fa fdhall_26_1 z)<|Vv (V.ldf (k:=1) shhall_23 z p z) ?_)
 obtain ⟨⟨D,aG⟩,E,H⟩:=bnd H
 refine To (O.callS z (hall_layoutOf_ok E _) z fun aI aJ aK q G=>?_)
 obtain ⟨I,J,K,M,N,rfl,P,S,U,W,r,X⟩:=G
 refine Sl_ _ P<|Mv z<|Vv (V.ext rfl rfl)<|Vv (V.ext rfl rfl)<|To (O.alloc zehall_198 rfl rfl fun aM=>To (O.stF (vs:=[.string D.fword,I,J,K,M,N]) shhall_198 rfl rfl (j:=0) rfl rfl (by (simp only [Sl.ones,S.1.1,U.1.1,W.1.1,r.1.1,X.1.1,Bool.and_true,Bool.true_and]) <;> rfl) rfl ?_))
 refine T.freeze fun aN g Y=>have Z:=AtC.of Y; Ag z<|Nt<|Sq<|T.drawF (t:=(.v 0 (.v 1 (.v 2 (.v 3 (.v 4 (.v 5 (.v 6 (.alt 7 (.alt 8 (.alt 9 .done .no) .no) .no))))))))) 11 0 0 rfl rfl hallmixed (by kernel_rfl) ?_
 have aa:=(q.trans g)
 have i:=p.mono aa
 refine Tv z (V.ldS rfl i (by exact shhall_26)) ?_
 refine Tv z (V.fa fdhall_198_4 z)<|Tv z (V.ldf (k:=4) shhall_36 z Z z)<|Tv z (V.fa fdhall_26_2 z)<|Tv z (V.ldf (k:=2) shhall_3 z i z)<|Tv z (V.fa fdhall_26_3 z)<|Tv z (V.ldf (k:=3) shhall_3 z i z) ?_
 obtain ⟨aO,ab,H⟩:=bnd H
 have ac:=CF36.mono r g
 obtain ⟨aP,aS,aU,ad,ae⟩:=CF36.call ac ab
 refine Tp z z (SX.two (XA.fr [] Lr z) (XA.fr [] Lr z)) (O.callfW z ad z (ae _) z fun aV af aW a ag=>?_) T.tno
 obtain ⟨rfl,ai⟩:=ag
 refine Sl_ _ ai<|have s:=(((C.trans q).trans g).trans a); have aj:=Slc.mono VI.mono B s; ?_
 obtain ⟨ak,am,H⟩:=bnd H
 refine Tp z z (SX.two (XA.fr [] a z) (XA.fr [] a z)) (O.callS z (hall_steps_ok (show VapiTable af [.string t1.fName,.int .u8 t1.fShape,.int .i64 t1.fA,.int .i64 t1.fB,o,.int .i64 t1.fX,.int .i64 t1.fY] t1 from ⟨o,z,aj⟩) am _) z fun e aX aY d an=>?_) T.tno
 obtain ⟨f,ao,m⟩:=an
 refine Sl_ _ ao<|Ts z z (SX.two (XA.fr [] (a.trans d) z) (XA.fr [] (a.trans d) z)) (V.asg z) z ?_ T.tno
 refine T.tnil (SX.two (XA.fr [] (a.trans d) z) (XA.fr [] (a.trans d) z))<|Th<|Sq<|Sr<|Mv z<|Vv (V.lenX elhall_24 z (j:=0) z m.len)<|Mv z<|Nt ?_
 obtain ⟨u,ap,aq⟩:=bndK H
 refine T.cutK (α:=Unit) [5] z (fun _u=>[]) (fun _u=>rowR 3 1 e f::L) (fun _u hh=>u = ()) ?_ ?_
 ·have H:=ap
  refine Bl<|T.loopK (α:=Nat×Int) [5,23,24] z (fun ⟨b,c⟩=>[(25,.int .i64 c)]) (fun ⟨b,c⟩=>rowR 3 1 e f::L) (fun ⟨b,c⟩ hh=>iter (hall_levels_l0 ak) b c = some u) (fun ⟨b,c⟩=>b) (FUEL,(0:Int)) ⟨z,trivial⟩ z H ?_
  rintro ⟨b,c⟩ aZ n ar
  obtain ⟨au,a0,rfl,H,w⟩:=iter_go ar
  refine T.norm [25,5,23,24] z<|Sl_ (rowR 3 1 e f::L) z<|Sr<|Vv (V.lt z z)<|Nt<|Sq<|T.cH H z (fun H=>?_) (fun H=>?_)
  ·refine T.skip<|Th<|Sq<|Bl<|Sr<|Mv z ?_
   obtain ⟨a1,x,H⟩:=bnd H
   have y:=RowF.mono VI.mono m n
   obtain ⟨a2,aw,rfl⟩:=RowF.get y x
   refine Vv (V.ixR elhall_24 z z (j:=0) z (RowF.bd y x))<|Vv (V.ldR shhall_3 z (j:=0) z aw z)<|Ag z<|Ag z<|Nt<|Sr<|Mv z<|Vv (V.lt z z)<|Nt<|T.cH H z (fun H=>?_) (fun H=>?_)
   ·exact dead H
   refine T.skip<|Bn<|Th<|Rg ?_
   obtain ⟨ax,ay,H⟩:=bnd H
   refine Vv (V.addS z z ay)<|Mv z<|Nt<|T.again (au,ax) n (Nat.lt_succ_self _) (iterK_in H w) (AllIn.app ⟨z,trivial⟩ ⟨z,z,z,trivial⟩) z
  refine T.exit<|Te<|Te<|have H:=iterK_out H w; Be<|Th<|T.met () n H (AllIn.app trivial ⟨z,trivial⟩) z
 rintro _ a3 A aA
 have H:=cutE aA aq
 refine T.norm [5] z<|Sl_ (rowR 3 1 e f::L) z<|Sr<|Mv z<|Ag z<|Nt<|T.ret<|have aB:=RowF.mono VI.mono m A; ?_
 obtain rfl:=Option.some.inj H
 have aC:=((s.trans d).trans A)
 exact T.retL Tryz.results108 (Rv z) aC ⟨_,z,aB⟩
theorem hall_Check_ok {h:PH} {pc0:List Value} {t1:apiTable} (pr0:VapiTable h pc0 t1) {r_0:Int} (H:hall_Check t1 = some r_0):∀ L,FnS Tryz.prog 71 [.agg pc0.toArray] h (L) (fun v h' L'=>v = .int .i64 r_0∧L' = L):=by
 intro L
 obtain ⟨e,rfl,p⟩:=pr0
 refine FnS.enter Tryz.func71 rfl Tryz.ntmps71 rfl<|Sr<|To (O.boxF rfl rfl rfl fun K q f g=>Ag z<|Nt<|Sr<|Vv (V.ldS rfl g (by exact shhall_26)) ?_)
 have i:=Slc.mono VI.mono p f
 obtain ⟨M,r,H⟩:=bnd H
 refine To (O.callS z (hall_size_ok (show VapiTable q [.string t1.fName,.int .u8 t1.fShape,.int .i64 t1.fA,.int .i64 t1.fB,e,.int .i64 t1.fX,.int .i64 t1.fY] t1 from ⟨e,z,i⟩) r _) z fun N P S c s=>?_)
 obtain ⟨rfl,t⟩:=s
 refine Sl_ _ t<|Ag z<|Nt<|Sr<|Ag z<|Nt<|Sq<|Bl<|Sr<|Vv (V.fa fdhall_26_0 z)<|have j:=g.mono c; Vv (V.ldf (k:=0) shhall_9 z j z) ?_
 obtain ⟨U,u,H⟩:=bnd H
 refine To (O.callS z (hall_name_ok u _) z fun W X Y d w=>?_)
 obtain ⟨rfl,x⟩:=w
 refine Sl_ _ x<|Vv (V.not z)<|Ag z<|Nt<|T.cH H z (fun H=>?_) (fun H=>?_)
 ·exact dead H
 refine Sr<|Mv z<|Vv (V.eq z z)<|Ag z<|Nt<|T.cH H z (fun H=>?_) (fun H=>?_)
 ·exact dead H
 refine T.skip<|Bn<|Th<|Sq<|Sr<|Vv (V.fa fdhall_26_4 z)<|have m:=j.mono d; Vv (V.ldf (k:=4) shhall_24 z m z)<|have y:=(c.trans d); have A:=Slc.mono VI.mono i y; Vv (V.lenS elhall_24 z A)<|Mv z<|Nt ?_
 obtain ⟨n,B,C⟩:=bndK H
 refine T.cutK (α:=Unit) [1] z (fun _u=>[]) (fun _u=>L) (fun _u hh=>n = ()) ?_ ?_
 ·have H:=B
  refine Bl<|T.loopK (α:=Nat) [1,19,20] z (fun a=>[]) (fun a=>L) (fun a hh=>iter (hall_Check_l0 t1) a () = some n) (fun a=>a) FUEL trivial z H ?_
  rintro a Z D E
  obtain ⟨aa,ab,rfl,H,G⟩:=iter_go E
  refine T.norm [1,19,20] z<|Sl_ (L) z<|Sr<|Vv (V.lt z z)<|Nt<|Sq<|T.cH H z (fun H=>?_) (fun H=>?_)
  ·exact dead H
  refine T.exit<|Te<|Te<|have H:=iterK_out H G; Be<|Th<|T.met () D H (AllIn.app trivial ⟨z,trivial⟩) z
 rintro _ ac o I
 have H:=cutE I C
 refine T.norm [1] z<|Sl_ (L) z<|Sq<|Sr<|Vv (V.fa fdhall_26_5 z)<|have b:=m.mono o; Vv (V.ldf (k:=5) shhall_3 z b z)<|Vv (V.lt z z)<|Mv z<|T.bH 37 H z (fun H=>?_) (fun H=>?_)
 ·exact dead H
 refine Vv (V.fa fdhall_26_5 z)<|Vv (V.ldf (k:=5) shhall_3 z b z)<|Vv (V.gt z z)<|Vv (V.pkF z z)<|Mv z<|T.bH 42 H z (fun H=>?_) (fun H=>?_)
 ·exact dead H
 refine Vv (V.fa fdhall_26_6 z)<|Vv (V.ldf (k:=6) shhall_3 z b z)<|Vv (V.lt z z)<|Vv (V.pkF z z)<|Mv z<|T.bH 47 H z (fun H=>?_) (fun H=>?_)
 ·exact dead H
 refine Vv (V.fa fdhall_26_6 z)<|Vv (V.ldf (k:=6) shhall_3 z b z)<|Vv (V.gt z z)<|Vv (V.pkF z z)<|Nt<|T.cH H z (fun H=>?_) (fun H=>?_)
 ·exact dead H
 refine T.skip<|Th<|Sr<|Ag z<|Nt<|T.ret ?_
 obtain rfl:=Option.some.inj H
 have J:=(((f.trans c).trans d).trans o)
 exact T.retL Tryz.results71 (Rv z) J ⟨z,z⟩
theorem hall_CheckAll1_ok {h:PH} {pc0:List Value} {x1:apiTable} (pr0:VapiTable h pc0 x1) {pp1:Addr} {pc1:List Value} {t4:apiTable} (pa1:AtC h pp1 pc1) (pr1:VapiTable h pc1 t4) {r_0:Bool} (H:hall_CheckAll1 x1 t4 = some r_0):∀ L,FnS Tryz.prog 205 [.agg pc0.toArray,.pointer (some pp1)] h (L) (fun v h' L'=>v = .bool r_0∧L' = L):=by
 intro L
 exact dead H
theorem hall_CheckAll_ok {h:PH} {pv0:Value} {l1:List apiTable} (pr0:Slc VapiTable 7 h pv0 l1) {r_0:Int} {r_1:Int} (H:hall_CheckAll l1 = some (r_0,r_1)):∀ L,FnS Tryz.prog 138 [pv0] h (L) (fun v h' L'=>v = .tuple #[.int .i64 r_0,.int .i64 r_1]∧L' = L):=by
 intro L
 refine FnS.enter Tryz.func138 z Tryz.ntmps138 z<|Sr<|Ag z<|Ag z<|Nt<|Sq<|Sr<|Mv z<|Vv (V.lenS elhall_27 z pr0)<|Vv (V.gt z z)<|Nt<|T.cH H z (fun H=>?_) (fun H=>?_)
 ·exact dead H
 refine T.skip<|Th<|Sq<|Sr<|Mv z<|Vv (V.lenS elhall_27 z pr0)<|Mv z<|Nt ?_
 obtain ⟨k,w,x⟩:=bndK H
 refine T.cutK (α:=Unit) [] z (fun _u=>[]) (fun _u=>L) (fun _u hh=>k = ()) ?_ ?_
 ·have H:=w
  refine Bl<|T.loopK (α:=Nat×Int) [0,10,11] z (fun ⟨b,c⟩=>[(12,.int .i64 c)]) (fun ⟨b,c⟩=>L) (fun ⟨b,c⟩ hh=>iter (hall_CheckAll_l0 l1) b c = some k) (fun ⟨b,c⟩=>b) (FUEL,(0:Int)) ⟨z,trivial⟩ z H ?_
  rintro ⟨b,c⟩ an f y
  obtain ⟨A,ao,rfl,H,m⟩:=iter_go y
  refine T.norm [12,0,10,11] z<|Sl_ (L) z<|Sr<|Vv (V.lt z z)<|Nt<|Sq<|T.cH H z (fun H=>?_) (fun H=>?_)
  ·refine T.skip<|Th<|Sq<|Bl<|Sr<|Mv z ?_
   obtain ⟨a,n,H⟩:=bnd H
   have g:=Slc.mono VapiTable.mono pr0 f
   obtain ⟨ap,B,⟨d,rfl,o⟩⟩:=Slc.at g n
   refine Vv (V.ix elhall_27 rfl rfl g (getI_bd n))<|Vv (V.ldS rfl B (by exact shhall_26)) ?_
   refine To (O.alloc zehall_26 rfl rfl fun p=>Ag z<|To (O.stF (vs:=[.string a.fName,.int .u8 a.fShape,.int .i64 a.fA,.int .i64 a.fB,d,.int .i64 a.fX,.int .i64 a.fY]) shhall_26 rfl rfl (j:=0) rfl rfl (by (simp only [Sl.ones,Slc.one o,Bool.and_true,Bool.true_and]) <;> rfl) rfl ?_))
   refine T.freeze fun C i D=>have q:=AtC.of D; Nt<|Sq<|Sr<|Vv (V.ldS rfl q (by exact shhall_26)) ?_
   have r:=Slc.mono VI.mono o i
   obtain ⟨aq,E,H⟩:=bnd H
   refine To (O.callS z (hall_Check_ok (show VapiTable C [.string a.fName,.int .u8 a.fShape,.int .i64 a.fA,.int .i64 a.fB,d,.int .i64 a.fX,.int .i64 a.fY] a from ⟨d,z,r⟩) E _) z fun ar s au e G=>?_)
   obtain ⟨rfl,I⟩:=G
   refine Sl_ _ I<|Ag z<|Nt<|Sr<|Mv z<|Vv (V.ne z z)<|Nt<|T.cH H z (fun H=>?_) (fun H=>?_)
   ·exact dead H
   refine T.skip<|Th<|Sr<|Mv z<|Mv z<|have J:=(i.trans e); have K:=Slc.mono VapiTable.mono g J; ?_
   obtain ⟨M,t,H⟩:=bnd H
   refine T.slM z elhall_27 z K (.inl ⟨z,z⟩) (.inr ⟨_,_,z,z⟩) (sbL_eq t).2 z fun N P aw=>?_
   have S:Slc VapiTable 7 s N M:=by rw [(sbL_eq t).1]; exact P
   refine Vv (V.mkf z z)<|have U:=q.mono e; have W:=Slc.mono VI.mono r e; ?_
   obtain ⟨ax,X,H⟩:=bnd H
   refine To (O.callS z (sl_ContainsFuncTable_ok S (show CF249 s (.func (.func 205) #[] #[.pointer (some ⟨p,0,none⟩)]) (fun Y=>hall_CheckAll1 Y a) from ⟨⟨z,z⟩,.inr ⟨205,[],[.pointer (some ⟨p,0,none⟩)],z,fun Z u ay aA aa aB ab ac=>hall_CheckAll1_ok aa (U.mono u) (show VapiTable Z [.string a.fName,.int .u8 a.fShape,.int .i64 a.fA,.int .i64 a.fB,d,.int .i64 a.fX,.int .i64 a.fY] a from ⟨d,z,(Slc.mono VI.mono W u)⟩) ab ac⟩⟩) X _) z fun aC aD aE ad ae=>?_)
   obtain ⟨rfl,af⟩:=ae
   refine Sl_ _ af<|Nt<|T.cH H z (fun H=>?_) (fun H=>?_)
   ·exact dead H
   refine T.skip<|Bn<|Th<|Rg ?_
   obtain ⟨ag,ai,H⟩:=bnd H
   refine Vv (V.addS z z ai)<|Mv z<|Nt<|have aj:=(((f.trans i).trans e).trans ad); T.again (A,ag) aj (Nat.lt_succ_self _) (iterK_in H m) (AllIn.app ⟨z,trivial⟩ ⟨z,z,z,trivial⟩) z
  refine T.exit<|Te<|Te<|have H:=iterK_out H m; Be<|Th<|T.met () f H (AllIn.app trivial trivial) z
 rintro _ aG ak am
 have H:=cutE am x
 refine T.norm [] z<|Sl_ (L) z<|Sr<|Ag z<|Ag z<|Nt<|T.ret ?_
 obtain ⟨rfl,rfl⟩:=inj2 H
 exact T.retL Tryz.results138 (RVs.cons (RV.tmp z) (Rv z)) ak ⟨z,z⟩
theorem hall_Find1_ok {h:PH} {pc0:List Value} {x1:apiTable} (pr0:VapiTable h pc0 x1) {pp1:Addr} {pc1:List Value} {t4:ByteArray} (pa1:AtC h pp1 pc1) (pr1:VS h pc1 t4) {r_0:Bool} (H:hall_Find1 x1 t4 = some r_0):∀ L,FnS Tryz.prog 209 [.agg pc0.toArray,.pointer (some pp1)] h (L) (fun v h' L'=>v = .bool r_0∧L' = L):=by
 intro L
 obtain ⟨d,rfl,e⟩:=pr0
 obtain rfl:=pr1
 refine FnS.enter Tryz.func209 z Tryz.ntmps209 z<|Sr<|To (O.boxF z z z fun f g a b=>Ag z<|Nt<|Sr<|Vv (V.fa fdhall_26_0 z)<|Vv (V.ldf (k:=0) shhall_9 z b z)<|have c:=pa1.mono a; Vv (V.ld0 shhall_9 z c z)<|Vv (V.seq z z)<|Ag z<|Nt<|T.ret ?_)
 obtain rfl:=Option.some.inj H
 exact T.retL Tryz.results209 (Rv z) a ⟨z,z⟩
theorem hall_valid_ok {h:PH} {pv0:Value} {l1:List apiTable} (pr0:Slc VapiTable 7 h pv0 l1) {r_0:Bool} (H:hall_valid l1 = some r_0):∀ L,FnS Tryz.prog 105 [pv0] h (L) (fun v h' L'=>v = .bool r_0∧L' = L):=by
 intro L
 refine FnS.enter Tryz.func105 z Tryz.ntmps105 z<|Sr<|Ag z<|Nt<|Sr<|Mv z ?_
 obtain ⟨⟨e,f⟩,a,H⟩:=bnd H
 refine To (O.callS z (hall_CheckAll_ok pr0 a _) z fun g i j b c=>?_)
 obtain ⟨rfl,d⟩:=c
 refine Sl_ _ d<|Mv z<|Vv (V.ext z z)<|Vv (V.ext z z)<|Ag z<|Ag z<|Nt<|Sr<|Mv z<|Vv (V.eq z z)<|Ag z<|Nt<|T.ret ?_
 obtain rfl:=Option.some.inj H
 exact T.retL Tryz.results105 (Rv z) b ⟨z,z⟩
theorem hall_First_ok {h:PH} {pv0:Value} {l1:List apiTable} (pr0:Slc VapiTable 7 h pv0 l1) {t2:Int} {r_0:Int} (H:hall_First l1 t2 = some r_0):∀ L,FnS Tryz.prog 57 [pv0,.int .i64 t2] h (L) (fun v h' L'=>v = .int .i64 r_0∧L' = L):=by
 intro L
 refine FnS.enter Tryz.func57 z Tryz.ntmps57 z<|Sr<|Ag z<|Nt<|Sq<|Sq ?_
 obtain ⟨g,i,j⟩:=bndK H
 refine T.cutK (α:=Bool) [0,1] z (fun b=>[(20,.bool b)]) (fun b=>L) (fun b hh=>g = b) ?_ ?_
 ·have H:=i
  refine Rg<|Mv z<|Vv (V.lt z z)<|Mv z<|T.bH 10 H z (fun H=>?_) (fun H=>?_)
  ·refine Sk<|Sk<|Sk<|Sk<|Vv (V.pkT z z)<|Mv z<|Sk<|Sk<|Sk<|Vv (V.pkT z z)<|Nt<|T.met true Lr (sinj H) (AllIn.app ⟨z,trivial⟩ ⟨z,z,trivial⟩) z
  refine Mv z<|Mv z<|Vv (V.lenS elhall_27 z pr0)<|Vv (V.ge z z)<|Vv (V.pkF z z)<|Mv z<|T.bH 16 H z (fun H=>?_) (fun H=>?_)
  ·exact dead H
  refine Mv z ?_
  obtain ⟨k,m,H⟩:=bnd H
  refine To (O.callS z (hall_valid_ok pr0 m _) z fun I J K n o=>?_)
  obtain ⟨rfl,p⟩:=o
  refine Sl_ _ p<|Vv (V.not z)<|Vv (V.pkF z z)<|Nt<|T.met (!k) n (sinj H) (AllIn.app ⟨z,trivial⟩ ⟨z,z,trivial⟩) z
 rintro b q c r
 have H:=cutE r j
 refine T.norm [20,0,1] z<|Sl_ (L) z<|T.cH H z (fun H=>?_) (fun H=>?_)
 ·refine Sr<|Ag z<|Nt<|T.ret<|Tr ?_
  obtain rfl:=Option.some.inj H
  exact T.retL Tryz.results57 (Rv z) c ⟨z,z⟩
 refine T.skip<|Th<|Sr<|Ag z<|Nt<|Sq<|Sr<|Mv z<|Mv z<|have s:=Slc.mono VapiTable.mono pr0 c; ?_
 obtain ⟨d,e,H⟩:=bnd H
 refine T.slM z elhall_27 z s (.inl ⟨z,z⟩) (.inr ⟨_,_,z,z⟩) (sbL_eq e).2 z fun t u M=>?_
 have w:Slc VapiTable 7 q t d:=by rw [(sbL_eq e).1]; exact u
 refine Vv (V.lenS elhall_27 z w)<|Mv z<|Nt ?_
 obtain ⟨f,x,y⟩:=bndK H
 refine T.cutK (α:=Unit) [5] z (fun _u=>[]) (fun _u=>L) (fun _u hh=>f = ()) ?_ ?_
 ·have H:=x
  refine Bl<|T.loopK (α:=Nat) [5,24,25] z (fun a=>[]) (fun a=>L) (fun a hh=>iter (hall_First_l0 d) a () = some f) (fun a=>a) FUEL trivial z H ?_
  rintro a N A B
  obtain ⟨P,S,rfl,H,C⟩:=iter_go B
  refine T.norm [5,24,25] z<|Sl_ (L) z<|Sr<|Vv (V.lt z z)<|Nt<|Sq<|T.cH H z (fun H=>?_) (fun H=>?_)
  ·exact dead H
  refine T.exit<|Te<|Te<|have H:=iterK_out H C; Be<|Th<|T.met () A H (AllIn.app trivial ⟨z,trivial⟩) z
 rintro _ U D E
 have H:=cutE E y
 refine T.norm [5] z<|Sl_ (L) z<|Sr<|Mv z<|Ag z<|Nt<|T.ret ?_
 obtain rfl:=Option.some.inj H
 have G:=(c.trans D)
 exact T.retL Tryz.results57 (Rv z) G ⟨z,z⟩
theorem hall_lastSize_ok {h:PH} {pv0:Value} {l1:List apiTable} (pr0:Slc VapiTable 7 h pv0 l1) {r_0:Int} (H:hall_lastSize l1 = some r_0):∀ L,FnS Tryz.prog 106 [pv0] h (L) (fun v h' L'=>v = .int .i64 r_0∧L' = L):=by
 intro L
 refine FnS.enter Tryz.func106 z Tryz.ntmps106 z<|Sr<|Ag z<|Nt<|Sq<|Sr<|Mv z<|Vv (V.lenS elhall_27 z pr0)<|Vv (V.eq z z)<|Nt<|T.cH H z (fun H=>?_) (fun H=>?_)
 ·refine Sr<|Ag z<|Nt<|T.ret<|Tr ?_
  obtain rfl:=Option.some.inj H
  exact T.retL Tryz.results106 (Rv z) Lr ⟨z,z⟩
 refine T.skip<|Th<|Sr<|Mv z<|Mv z<|Vv (V.lenS elhall_27 z pr0) ?_
 obtain ⟨m,d,H⟩:=bnd H
 refine Vv (V.subS z z d) ?_
 obtain ⟨a,b,H⟩:=bnd H
 obtain ⟨n,e,⟨c,rfl,f⟩⟩:=Slc.at pr0 b
 refine Vv (V.ix elhall_27 rfl rfl pr0 (getI_bd b))<|Vv (V.ldS rfl e (by exact shhall_26)) ?_
 obtain ⟨o,g,H⟩:=bnd H
 refine To (O.callS z (hall_size_ok (show VapiTable h [.string a.fName,.int .u8 a.fShape,.int .i64 a.fA,.int .i64 a.fB,c,.int .i64 a.fX,.int .i64 a.fY] a from ⟨c,z,f⟩) g _) z fun p q r i j=>?_)
 obtain ⟨rfl,k⟩:=j
 refine Sl_ _ k<|Ag z<|Nt<|T.ret ?_
 obtain rfl:=Option.some.inj H
 exact T.retL Tryz.results106 (Rv z) i ⟨z,z⟩
theorem hall_Count_ok {h:PH} {pv0:Value} {l1:List apiTable} (pr0:Slc VapiTable 7 h pv0 l1) {r_0:Int} (H:hall_Count l1 = some r_0):∀ L,FnS Tryz.prog 58 [pv0] h (L) (fun v h' L'=>v = .int .i64 r_0∧L' = L):=by
 intro L
 refine FnS.enter Tryz.func58 z Tryz.ntmps58 z<|Sr<|Ag z<|Nt<|Sq<|Sr<|Mv z ?_
 obtain ⟨t,d,H⟩:=bnd H
 refine To (O.callS z (hall_valid_ok pr0 d _) z fun u w x b e=>?_)
 obtain ⟨rfl,f⟩:=e
 refine Sl_ _ f<|Vv (V.not z)<|Nt<|T.cH H z (fun H=>?_) (fun H=>?_)
 ·exact dead H
 refine T.skip<|Th<|Sr<|Mv z<|Mv z<|have a:=Slc.mono VapiTable.mono pr0 b; Vv (V.lenS elhall_27 z a) ?_
 obtain ⟨y,g,H⟩:=bnd H
 refine Vv (V.subS z z g) ?_
 obtain ⟨A,i,H⟩:=bnd H
 refine To (O.callS z (hall_First_ok a i _) z fun B C D c j=>?_)
 obtain ⟨rfl,k⟩:=j
 refine Sl_ _ k<|Mv z<|have m:=Slc.mono VapiTable.mono a c; ?_
 obtain ⟨E,n,H⟩:=bnd H
 refine To (O.callS z (hall_lastSize_ok m n _) z fun G I J o p=>?_)
 obtain ⟨rfl,q⟩:=p
 refine Sl_ _ q ?_
 obtain ⟨K,r,H⟩:=bnd H
 refine Vv (V.addS z z r)<|Ag z<|Nt<|T.ret ?_
 obtain rfl:=Option.some.inj H
 have s:=((b.trans c).trans o)
 exact T.retL Tryz.results58 (Rv z) s ⟨z,z⟩
theorem hall_Where_ok {h:PH} {pv0:Value} {l1:List apiTable} (pr0:Slc VapiTable 7 h pv0 l1) {seat2:Int} {r_0:Int} {r_1:Int} {r_2:Bool} (H:hall_Where l1 seat2 = some (r_0,r_1,r_2)):∀ L,FnS Tryz.prog 107 [pv0,.int .i64 seat2] h (L) (fun v h' L'=>v = .tuple #[.int .i64 r_0,.int .i64 r_1,.bool r_2]∧L' = L):=by
 intro L
 refine FnS.enter Tryz.func107 z Tryz.ntmps107 z<|Sr<|Ag z<|Ag z<|Ag z<|Nt<|Sq<|Sr<|Mv z<|Vv (V.lt z z)<|Mv z<|T.bH 12 H z (fun H=>?_) (fun H=>?_)
 ·exact dead H
 refine Mv z ?_
 obtain ⟨J,n,H⟩:=bnd H
 refine To (O.callS z (hall_valid_ok pr0 n _) z fun K M N d o=>?_)
 obtain ⟨rfl,p⟩:=o
 refine Sl_ _ p<|Vv (V.not z)<|Vv (V.pkF z z)<|Nt<|T.cH H z (fun H=>?_) (fun H=>?_)
 ·exact dead H
 refine T.skip<|Th<|Sq<|Sr<|Mv z<|have e:=Slc.mono VapiTable.mono pr0 d; Vv (V.lenS elhall_27 z e)<|Mv z<|Nt ?_
 obtain ⟨q,r,s⟩:=bndK H
 have H:=r
 refine Bl<|T.loopK (α:=Nat) [1,17,18,19] z (fun b=>[]) (fun b=>L) (fun b hh=>iter (hall_Where_l0 l1 seat2) b () = some q) (fun b=>b) FUEL trivial z H ?_
 rintro b P f t
 obtain ⟨S,U,rfl,H,u⟩:=iter_go t
 refine T.norm [1,17,18,19] z<|Sl_ (L) z<|Sr<|Vv (V.lt z z)<|Nt<|Sq<|T.cH H z (fun H=>?_) (fun H=>?_)
 ·refine T.skip<|Th<|Sq<|Bl<|Sr<|Mv z ?_
  obtain ⟨a,g,H⟩:=bnd H
  have i:=Slc.mono VapiTable.mono e f
  obtain ⟨W,w,⟨c,rfl,k⟩⟩:=Slc.at i g
  refine Vv (V.ix elhall_27 rfl rfl i (getI_bd g))<|Vv (V.ldS rfl w (by exact shhall_26)) ?_
  refine To (O.alloc zehall_26 rfl rfl fun X=>Ag z<|To (O.stF (vs:=[.string a.fName,.int .u8 a.fShape,.int .i64 a.fA,.int .i64 a.fB,c,.int .i64 a.fX,.int .i64 a.fY]) shhall_26 rfl rfl (j:=0) rfl rfl (by (simp only [Sl.ones,Slc.one k,Bool.and_true,Bool.true_and]) <;> rfl) rfl ?_))
  refine T.freeze fun x m y=>have A:=AtC.of y; Nt<|Sr<|Vv (V.ldS rfl A (by exact shhall_26)) ?_
  have B:=Slc.mono VI.mono k m
  obtain ⟨Y,C,H⟩:=bnd H
  refine To (O.callS z (hall_size_ok (show VapiTable x [.string a.fName,.int .u8 a.fShape,.int .i64 a.fA,.int .i64 a.fB,c,.int .i64 a.fX,.int .i64 a.fY] a from ⟨c,z,B⟩) C _) z fun Z aa ab D E=>?_)
  obtain ⟨rfl,G⟩:=E
  refine Sl_ _ G<|Ag z<|Nt<|Sq<|Sr<|Mv z<|Mv z<|Vv (V.lt z z)<|Nt<|T.cH H z (fun H=>?_) (fun H=>?_)
  ·refine Sr<|Mv z<|Mv z<|Ag z<|Ag z<|Ag z<|Nt<|T.ret<|Tr<|Br<|Tr<|Tr<|have H:=iterK_out H u; Br<|have H:=cutE H s; Tr ?_
   obtain ⟨rfl,rfl,rfl⟩:=inj3 H
   have I:=(((d.trans f).trans m).trans D)
   exact T.retL Tryz.results107 (RVs.cons (RV.tmp z) (RVs.cons (RV.tmp z) (Rv z))) I ⟨z,z⟩
  exact dead H
 exact dead H
theorem hall_Find_ok {h:PH} {pv0:Value} {l1:List apiTable} (pr0:Slc VapiTable 7 h pv0 l1) {name2:ByteArray} {r_0:Int} {r_1:Bool} (H:hall_Find l1 name2 = some (r_0,r_1)):∀ L,FnS Tryz.prog 143 [pv0,.string name2] h (L) (fun v h' L'=>v = .tuple #[.int .i64 r_0,.bool r_1]∧L' = L):=by
 intro L
 refine FnS.enter Tryz.func143 z Tryz.ntmps143 z<|Sr<|To (O.boxF z z z fun a c b d=>Ag z<|Ag z<|Nt<|Sr<|Mv z<|Vv (V.mkf z z)<|have e:=Slc.mono VapiTable.mono pr0 b; ?_)
 obtain ⟨s,f,H⟩:=bnd H
 refine To (O.callS z (sl_IndexFuncTable_ok e (show CF249 c (.func (.func 209) #[] #[.pointer (some ⟨a,0,none⟩)]) (fun g=>hall_Find1 g name2) from ⟨⟨z,z⟩,.inr ⟨209,[],[.pointer (some ⟨a,0,none⟩)],z,fun i j t u k w m n=>hall_Find1_ok k (d.mono j) (show VS i [.string name2] name2 from z) m n⟩⟩) f _) z fun x y A o p=>?_)
 obtain ⟨rfl,q⟩:=p
 refine Sl_ _ q<|Ag z<|Nt<|Sq<|Sr<|Mv z<|Vv (V.lt z z)<|Mv z<|T.bH 12 H z (fun H=>?_) (fun H=>?_)
 ·refine Sk<|Sk<|Sk<|Vv (V.pkT z z)<|Nt<|Ct z<|Sr<|Ag z<|Ag z<|Nt<|T.ret<|Tr ?_
  obtain ⟨rfl,rfl⟩:=inj2 H
  have r:=(b.trans o)
  exact T.retL Tryz.results143 (RVs.cons (RV.tmp z) (Rv z)) r ⟨z,z⟩
 exact dead H
theorem hall_Seats_ok {h:PH} {pc0:List Value} {t1:apiTable} (pr0:VapiTable h pc0 t1) {r_0:Int} (H:hall_Seats t1 = some r_0):∀ L,FnS Tryz.prog 41 [.agg pc0.toArray] h (L) (fun v h' L'=>v = .int .i64 r_0∧L' = L):=by
 intro L
 obtain ⟨a,rfl,f⟩:=pr0
 refine FnS.enter Tryz.func41 rfl Tryz.ntmps41 rfl<|Sr<|To (O.boxF rfl rfl rfl fun u g c d=>Ag z<|Nt<|Sq<|Sr<|Vv (V.ldS rfl d (by exact shhall_26)) ?_)
 have e:=Slc.mono VI.mono f c
 obtain ⟨w,i,H⟩:=bnd H
 refine To (O.callS z (hall_Check_ok (show VapiTable g [.string t1.fName,.int .u8 t1.fShape,.int .i64 t1.fA,.int .i64 t1.fB,a,.int .i64 t1.fX,.int .i64 t1.fY] t1 from ⟨a,z,e⟩) i _) z fun x j y b k=>?_)
 obtain ⟨rfl,m⟩:=k
 refine Sl_ _ m<|Vv (V.ne z z)<|Nt<|T.cH H z (fun H=>?_) (fun H=>?_)
 ·exact dead H
 refine T.skip<|Th<|Sr<|have n:=d.mono b; Vv (V.ldS rfl n (by exact shhall_26)) ?_
 have o:=Slc.mono VI.mono e b
 obtain ⟨A,p,H⟩:=bnd H
 refine To (O.callS z (hall_size_ok (show VapiTable j [.string t1.fName,.int .u8 t1.fShape,.int .i64 t1.fA,.int .i64 t1.fB,a,.int .i64 t1.fX,.int .i64 t1.fY] t1 from ⟨a,z,o⟩) p _) z fun B C D q r=>?_)
 obtain ⟨rfl,s⟩:=r
 refine Sl_ _ s<|Ag z<|Nt<|T.ret ?_
 obtain rfl:=Option.some.inj H
 have t:=((c.trans b).trans q)
 exact T.retL Tryz.results41 (Rv z) t ⟨z,z⟩
theorem hall_Open_ok {h:PH} {pv0:Value} {l1:List apiTable} (pr0:Slc VapiTable 7 h pv0 l1) {a2:Int} {r_0:Bool} (H:hall_Open l1 a2 = some r_0):∀ L,FnS Tryz.prog 60 [pv0,.int .i64 a2] h (L) (fun v h' L'=>v = .bool r_0∧L' = L):=by
 intro L
 refine FnS.enter Tryz.func60 z Tryz.ntmps60 z<|Sr<|Ag z<|Nt<|Sr<|Mv z<|Mv z ?_
 obtain ⟨⟨q,r,s⟩,d,H⟩:=bnd H
 refine To (O.callS z (hall_Where_ok pr0 d _) z fun t u w a e=>?_)
 obtain ⟨rfl,f⟩:=e
 refine Sl_ _ f<|Mv z<|Vv (V.ext z z)<|Vv (V.ext z z)<|Vv (V.ext z z)<|Ag z<|Ag z<|Ag z<|Nt<|Sr<|Mv z<|Mv z<|T.bH 16 H z (fun H=>?_) (fun H=>?_)
 ·refine Mv z<|Mv z ?_
  obtain ⟨x,b,H⟩:=bnd H
  have c:=Slc.mono VapiTable.mono pr0 a
  obtain ⟨y,g,⟨A,rfl,i⟩⟩:=Slc.at c b
  refine Vv (V.ix elhall_27 z z c (getI_bd b))<|Vv (V.fa fdhall_26_4 z)<|Vv (V.ldf (k:=4) shhall_24 z g z)<|Mv z ?_
  obtain ⟨B,j,H⟩:=bnd H
  refine To (O.callS z (sl_ContainsInt_ok i j _) z fun C D E m n=>?_)
  obtain ⟨rfl,o⟩:=n
  refine Sl_ _ o<|Vv (V.pkT z z)<|Ag z<|Nt<|T.ret ?_
  obtain rfl:=Option.some.inj H
  have p:=(a.trans m)
  exact T.retL Tryz.results60 (Rv z) p ⟨z,z⟩
 exact dead H
theorem hall_Level_ok {h:PH} {pv0:Value} {l1:List apiTable} (pr0:Slc VapiTable 7 h pv0 l1) {a2:Int} {r_0:Int} (H:hall_Level l1 a2 = some r_0):∀ L,FnS Tryz.prog 59 [pv0,.int .i64 a2] h (L) (fun v h' L'=>v = .int .i64 r_0∧L' = L):=by
 intro L
 refine FnS.enter Tryz.func59 z Tryz.ntmps59 z<|Sr<|Ag z<|Nt<|Sr<|Mv z<|Mv z ?_
 obtain ⟨⟨x,y,A⟩,i,H⟩:=bnd H
 refine To (O.callS z (hall_Where_ok pr0 i _) z fun B k C b m=>?_)
 obtain ⟨rfl,n⟩:=m
 refine Sl_ _ n<|Mv z<|Vv (V.ext z z)<|Vv (V.ext z z)<|Vv (V.ext z z)<|Ag z<|Ag z<|Ag z<|Nt<|Sq<|Sr<|Mv z<|Vv (V.not z)<|Nt<|T.cH H z (fun H=>?_) (fun H=>?_)
 ·exact dead H
 refine T.skip<|Th<|Sr<|Mv z<|Mv z ?_
 obtain ⟨a,c,H⟩:=bnd H
 have d:=Slc.mono VapiTable.mono pr0 b
 obtain ⟨D,o,⟨e,rfl,p⟩⟩:=Slc.at d c
 refine Vv (V.ix elhall_27 rfl rfl d (getI_bd c))<|Vv (V.ldS rfl o (by exact shhall_26)) ?_
 obtain ⟨E,q,H⟩:=bnd H
 refine To (O.callS z (hall_levels_ok (show VapiTable k [.string a.fName,.int .u8 a.fShape,.int .i64 a.fA,.int .i64 a.fB,e,.int .i64 a.fX,.int .i64 a.fY] a from ⟨e,z,p⟩) q _) z fun G I J r s=>?_)
 obtain ⟨K,t,f⟩:=s
 refine Sl_ _ t<|Mv z ?_
 obtain ⟨M,g,H⟩:=bnd H
 obtain ⟨N,u,rfl⟩:=RowF.get f g
 refine Vv (V.ixR elhall_24 z z (j:=0) z (RowF.bd f g))<|Vv (V.ldR shhall_3 z (j:=0) z u z)<|Ag z<|Nt<|T.ret<|T.drop ?_
 obtain rfl:=Option.some.inj H
 have w:=(b.trans r)
 exact T.retL Tryz.results59 (Rv z) w ⟨z,z⟩
theorem hall_pair_ok {h:PH} {pv0:Value} {l1:List apiTable} (pr0:Slc VapiTable 7 h pv0 l1) {a2:Int} {b3:Int} {r_0:apiTable} {r_1:Int} {r_2:Int} {r_3:Bool} (H:hall_pair l1 a2 b3 = some (r_0,r_1,r_2,r_3)):∀ L,FnS Tryz.prog 109 [pv0,.int .i64 a2,.int .i64 b3] h (L) (fun v h' L'=>∃ v0_1,v = .tuple #[.agg #[.string r_0.fName,.int .u8 r_0.fShape,.int .i64 r_0.fA,.int .i64 r_0.fB,v0_1,.int .i64 r_0.fX,.int .i64 r_0.fY],.int .i64 r_1,.int .i64 r_2,.bool r_3]∧L' = L∧Slc (VI .i64) 1 h' v0_1 r_0.fOpen):=by
 intro L
 refine FnS.enter Tryz.func109 z Tryz.ntmps109 z<|Sr<|To (O.alloc zehall_26 z z fun i=>Ag z<|Ag z<|Ag z<|Nt<|Sr<|Mv z<|Mv z ?_)
 obtain ⟨⟨u,w,x⟩,k,H⟩:=bnd H
 refine To (O.callS z (hall_Where_ok pr0 k _) z fun y A B b m=>?_)
 obtain ⟨rfl,n⟩:=m
 refine Sl_ _ n<|Mv z<|Vv (V.ext z z)<|Vv (V.ext z z)<|Vv (V.ext z z)<|Ag z<|Ag z<|Ag z<|Nt<|Sr<|Mv z<|Mv z<|have c:=Slc.mono VapiTable.mono pr0 b; ?_
 obtain ⟨⟨C,D,E⟩,o,H⟩:=bnd H
 refine To (O.callS z (hall_Where_ok c o _) z fun G I J d p=>?_)
 obtain ⟨rfl,q⟩:=p
 refine Sl_ _ q<|Mv z<|Vv (V.ext z z)<|Vv (V.ext z z)<|Vv (V.ext z z)<|Ag z<|Ag z<|Ag z<|Nt<|Sq<|Sr<|Mv z<|Vv (V.not z)<|Mv z<|T.bH 30 H z (fun H=>?_) (fun H=>?_)
 ·exact dead H
 refine Mv z<|Vv (V.not z)<|Vv (V.pkF z z)<|Mv z<|T.bH 34 H z (fun H=>?_) (fun H=>?_)
 ·exact dead H
 refine Mv z<|Mv z<|Vv (V.ne z z)<|Vv (V.pkF z z)<|Nt<|T.cH H z (fun H=>?_) (fun H=>?_)
 ·exact dead H
 refine T.skip<|Th<|Sq<|T.norm [0,6,7,8,10] z<|Sl_ (blk i (.cells [.string (⟨#[]⟩:ByteArray),.int .u8 (0:Int),.int .i64 (0:Int),.int .i64 (0:Int),.slice none 0 0,.int .i64 (0:Int),.int .i64 (0:Int)].toArray 26)::L) z<|Rg<|Mv z<|Mv z ?_
 obtain ⟨a,e,H⟩:=bnd H
 have f:=Slc.mono VapiTable.mono c d
 obtain ⟨K,r,⟨s,rfl,g⟩⟩:=Slc.at f e
 refine Vv (V.ix elhall_27 rfl rfl f (getI_bd e))<|Vv (V.ldS rfl r (by exact shhall_26)) ?_
 refine Mv z<|Mv z<|To (O.stF (vs:=[.string a.fName,.int .u8 a.fShape,.int .i64 a.fA,.int .i64 a.fB,s,.int .i64 a.fX,.int .i64 a.fY]) shhall_26 rfl rfl (j:=0) rfl rfl (by (simp only [Sl.ones,Slc.one g,Bool.and_true,Bool.true_and]) <;> rfl) rfl ?_)
 refine Ag z<|Ag z<|Ag z<|Nt<|T.ret ?_
 obtain ⟨rfl,rfl,rfl,rfl⟩:=inj4 H
 have t:=(b.trans d)
 exact T.retD (L':=L) Tryz.results109 (RVs.cons (RV.cellS z (j:=0) z shhall_26) (RVs.cons (RV.tmp z) (RVs.cons (RV.tmp z) (Rv z)))) t (fun _ iv=>iv.drop) ⟨_,z,z,g⟩
theorem hall_Beside_ok {h:PH} {pv0:Value} {l1:List apiTable} (pr0:Slc VapiTable 7 h pv0 l1) {a2:Int} {b3:Int} {r_0:Bool} (H:hall_Beside l1 a2 b3 = some r_0):∀ L,FnS Tryz.prog 63 [pv0,.int .i64 a2,.int .i64 b3] h (L) (fun v h' L'=>v = .bool r_0∧L' = L):=by
 intro L
 refine FnS.enter Tryz.func63 z Tryz.ntmps63 z<|Sr<|Ag z<|Nt<|Sr<|Mv z<|Mv z<|Mv z ?_
 obtain ⟨⟨a,u,w,x⟩,e,H⟩:=bnd H
 refine To (O.callS z (hall_pair_ok pr0 e _) z fun y A B f g=>?_)
 obtain ⟨b,rfl,i,c⟩:=g
 refine Sl_ _ i<|Mv z<|Vv (V.ext rfl rfl)<|Vv (V.ext rfl rfl)<|Vv (V.ext rfl rfl)<|Vv (V.ext rfl rfl)<|To (O.alloc zehall_26 rfl rfl fun C=>To (O.stF (vs:=[.string a.fName,.int .u8 a.fShape,.int .i64 a.fA,.int .i64 a.fB,b,.int .i64 a.fX,.int .i64 a.fY]) shhall_26 rfl rfl (j:=0) rfl rfl (by (simp only [Sl.ones,Slc.one c,Bool.and_true,Bool.true_and]) <;> rfl) rfl ?_))
 refine T.freeze fun k d m=>have n:=AtC.of m; Ag z<|Ag z<|Ag z<|Nt<|Sr<|Mv z<|Mv z<|T.bH 21 H z (fun H=>?_) (fun H=>?_)
 ·refine Vv (V.ldS rfl n (by exact shhall_26)) ?_
  refine Mv z<|Mv z<|have o:=Slc.mono VI.mono c d; ?_
  obtain ⟨D,p,H⟩:=bnd H
  refine To (O.callS z (hall_beside_ok (show VapiTable k [.string a.fName,.int .u8 a.fShape,.int .i64 a.fA,.int .i64 a.fB,b,.int .i64 a.fX,.int .i64 a.fY] a from ⟨b,z,o⟩) p _) z fun E G I q r=>?_)
  obtain ⟨rfl,s⟩:=r
  refine Sl_ _ s<|Vv (V.pkT z z)<|Ag z<|Nt<|T.ret ?_
  obtain rfl:=Option.some.inj H
  have t:=((f.trans d).trans q)
  exact T.retL Tryz.results63 (Rv z) t ⟨z,z⟩
 exact dead H
theorem hall_Across_ok {h:PH} {pv0:Value} {l1:List apiTable} (pr0:Slc VapiTable 7 h pv0 l1) {a2:Int} {b3:Int} {r_0:Bool} (H:hall_Across l1 a2 b3 = some r_0):∀ L,FnS Tryz.prog 65 [pv0,.int .i64 a2,.int .i64 b3] h (L) (fun v h' L'=>v = .bool r_0∧L' = L):=by
 intro L
 refine FnS.enter Tryz.func65 z Tryz.ntmps65 z<|Sr<|Ag z<|Nt<|Sr<|Mv z<|Mv z<|Mv z ?_
 obtain ⟨⟨a,u,w,x⟩,e,H⟩:=bnd H
 refine To (O.callS z (hall_pair_ok pr0 e _) z fun y A B f g=>?_)
 obtain ⟨b,rfl,i,c⟩:=g
 refine Sl_ _ i<|Mv z<|Vv (V.ext rfl rfl)<|Vv (V.ext rfl rfl)<|Vv (V.ext rfl rfl)<|Vv (V.ext rfl rfl)<|To (O.alloc zehall_26 rfl rfl fun C=>To (O.stF (vs:=[.string a.fName,.int .u8 a.fShape,.int .i64 a.fA,.int .i64 a.fB,b,.int .i64 a.fX,.int .i64 a.fY]) shhall_26 rfl rfl (j:=0) rfl rfl (by (simp only [Sl.ones,Slc.one c,Bool.and_true,Bool.true_and]) <;> rfl) rfl ?_))
 refine T.freeze fun k d m=>have n:=AtC.of m; Ag z<|Ag z<|Ag z<|Nt<|Sr<|Mv z<|Mv z<|T.bH 21 H z (fun H=>?_) (fun H=>?_)
 ·refine Vv (V.ldS rfl n (by exact shhall_26)) ?_
  refine Mv z<|Mv z<|have o:=Slc.mono VI.mono c d; ?_
  obtain ⟨D,p,H⟩:=bnd H
  refine To (O.callS z (hall_across_ok (show VapiTable k [.string a.fName,.int .u8 a.fShape,.int .i64 a.fA,.int .i64 a.fB,b,.int .i64 a.fX,.int .i64 a.fY] a from ⟨b,z,o⟩) p _) z fun E G I q r=>?_)
  obtain ⟨rfl,s⟩:=r
  refine Sl_ _ s<|Vv (V.pkT z z)<|Ag z<|Nt<|T.ret ?_
  obtain rfl:=Option.some.inj H
  have t:=((f.trans d).trans q)
  exact T.retL Tryz.results65 (Rv z) t ⟨z,z⟩
 exact dead H
end Go.Proofs.X
open Go Go.Proofs Go.Sl Go.Dm
namespace Go.Proofs.X
theorem guestmixed : Tryz.prog.follows .mixedOrders = true := by kernel_rfl
theorem blguest_170 : bldSh Tryz.prog 170 = some ([.string ⟨#[]⟩, .string ⟨#[]⟩, .int .u8 (0)], [(0, 1), (1, 1), (2, 1)]) := by kernel_rfl
theorem blguest_194 : bldSh Tryz.prog 194 = some ([.slice none 0 0, .slice none 0 0, .map none], [(0, 2), (2, 1)]) := by kernel_rfl
theorem boguest_170 : fieldsOK Tryz.prog 170 = true := by kernel_rfl
theorem boguest_194 : fieldsOK Tryz.prog 194 = true := by kernel_rfl
theorem elguest_22 : elSh Tryz.prog 22 = some (9, 1, 16) := by kernel_rfl
theorem elguest_28 : elSh Tryz.prog 28 = some (38, 9, 112) := by kernel_rfl
theorem elguest_29 : elSh Tryz.prog 29 = some (170, 3, 40) := by kernel_rfl
theorem fdguest_145_0 : fldOf Tryz.prog 145 0 = some 0 := by kernel_rfl
theorem fdguest_145_1 : fldOf Tryz.prog 145 1 = some 1 := by kernel_rfl
theorem fdguest_191_0 : fldOf Tryz.prog 191 0 = some 0 := by kernel_rfl
theorem fdguest_191_1 : fldOf Tryz.prog 191 1 = some 1 := by kernel_rfl
theorem fdguest_194_0 : fldOf Tryz.prog 194 0 = some 0 := by kernel_rfl
theorem fdguest_194_1 : fldOf Tryz.prog 194 1 = some 2 := by kernel_rfl
theorem fdguest_38_0 : fldOf Tryz.prog 38 0 = some 0 := by kernel_rfl
theorem fdguest_38_1 : fldOf Tryz.prog 38 1 = some 1 := by kernel_rfl
theorem fdguest_38_2 : fldOf Tryz.prog 38 2 = some 2 := by kernel_rfl
theorem fdguest_38_3 : fldOf Tryz.prog 38 3 = some 3 := by kernel_rfl
theorem fdguest_38_4 : fldOf Tryz.prog 38 4 = some 4 := by kernel_rfl
theorem fdguest_38_5 : fldOf Tryz.prog 38 5 = some 5 := by kernel_rfl
theorem fdguest_38_8 : fldOf Tryz.prog 38 8 = some 8 := by kernel_rfl
theorem shguest_145 : tySh Tryz.prog 145 = some (true, 2) := by kernel_rfl
theorem shguest_170 : tySh Tryz.prog 170 = some (true, 3) := by kernel_rfl
theorem shguest_192 : tySh Tryz.prog 192 = some (false, 1) := by kernel_rfl
theorem shguest_22 : tySh Tryz.prog 22 = some (false, 1) := by kernel_rfl
theorem shguest_28 : tySh Tryz.prog 28 = some (false, 1) := by kernel_rfl
theorem shguest_29 : tySh Tryz.prog 29 = some (false, 1) := by kernel_rfl
theorem shguest_3 : tySh Tryz.prog 3 = some (false, 1) := by kernel_rfl
theorem shguest_38 : tySh Tryz.prog 38 = some (true, 9) := by kernel_rfl
theorem shguest_9 : tySh Tryz.prog 9 = some (false, 1) := by kernel_rfl
theorem zeguest_170 : zer Tryz.prog 170 = some (.agg #[.string ⟨#[]⟩, .string ⟨#[]⟩, .int .u8 (0)]) := by kernel_rfl
theorem zeguest_3 : zer Tryz.prog 3 = some (.int .i64 (0)) := by kernel_rfl
theorem zeguest_38 : zer Tryz.prog 38 = some (.agg #[.string ⟨#[]⟩, .string ⟨#[]⟩, .string ⟨#[]⟩, .int .i64 (0), .int .i64 (0), .string ⟨#[]⟩, .bool false, .bool false, .slice none 0 0]) := by kernel_rfl
theorem guest_name_ok {h:PH} {s1:ByteArray} {r_0:Bool} (H:guest_name s1 = some r_0):∀ L,FnS Tryz.prog 211 [.string s1] h (L) (fun v h' L'=>v = .bool r_0∧L' = L):=by
 intro L
 refine FnS.enter Tryz.func211 z Tryz.ntmps211 z<|Sr<|Ag z<|Nt<|Sq<|Sr<|Mv z<|Vv (V.lenStr Tryz.underlying9 z)<|Vv (V.eq z z)<|Mv z<|T.bH 7 H z (fun H=>?_) (fun H=>?_)
 ·exact dead H
 refine Mv z<|Vv (V.lenStr Tryz.underlying9 z)<|Vv (V.gt z z)<|Vv (V.pkF z z)<|Nt<|T.cH H z (fun H=>?_) (fun H=>?_)
 ·exact dead H
 refine T.skip<|Th<|Sq<|Sr<|Mv z<|Vv (V.lenStr Tryz.underlying9 z)<|Mv z<|Nt ?_
 obtain ⟨c,f,g⟩:=bndK H
 refine T.cutK (α:=Unit) [] z (fun _u=>[]) (fun _u=>L) (fun _u hh=>c = ()) ?_ ?_
 ·have H:=f
  refine Bl<|T.loopK (α:=Nat×Int) [0,13] z (fun ⟨a,b⟩=>[(14,.int .i64 b)]) (fun ⟨a,b⟩=>L) (fun ⟨a,b⟩ hh=>iter (guest_name_l0 s1) a b = some c) (fun ⟨a,b⟩=>a) (FUEL,(0:Int)) ⟨z,trivial⟩ z H ?_
  rintro ⟨a,b⟩ r d i
  obtain ⟨j,s,rfl,H,e⟩:=iter_go i
  refine T.norm [14,0,13] z<|Sl_ (L) z<|Sr<|Vv (V.lt z z)<|Nt<|Sq<|T.cH H z (fun H=>?_) (fun H=>?_)
  ·refine T.skip<|Th<|Sq<|Bl<|Sr<|Mv z<|Ag z<|Nt<|Sr<|Mv z<|Mv z ?_
   obtain ⟨t,k,H⟩:=bnd H
   refine Vv (V.idxS Tryz.underlying9 z z k)<|Vv (V.lt z z)<|Mv z<|T.bH 21 H z (fun H=>?_) (fun H=>?_)
   ·exact dead H
   refine Mv z<|Mv z ?_
   obtain ⟨u,m,H⟩:=bnd H
   refine Vv (V.idxS Tryz.underlying9 z z m)<|Vv (V.gt z z)<|Vv (V.pkF z z)<|Nt<|T.cH H z (fun H=>?_) (fun H=>?_)
   ·exact dead H
   refine T.skip<|Bn<|Th<|Rg ?_
   obtain ⟨n,o,H⟩:=bnd H
   refine Vv (V.addS z z o)<|Mv z<|Nt<|T.again (j,n) d (Nat.lt_succ_self _) (iterK_in H e) (AllIn.app ⟨z,trivial⟩ ⟨z,z,trivial⟩) z
  refine T.exit<|Te<|Te<|have H:=iterK_out H e; Be<|Th<|T.met () d H (AllIn.app trivial trivial) z
 rintro _ w p q
 have H:=cutE q g
 refine T.norm [] z<|Sl_ (L) z<|Sr<|Ag z<|Nt<|T.ret ?_
 obtain rfl:=Option.some.inj H
 exact T.retL Tryz.results211 (Rv z) p ⟨z,z⟩
theorem guest_some_ok {h:PH} {s1:ByteArray} {r_0:Bool} (H:guest_some s1 = some r_0):∀ L,FnS Tryz.prog 212 [.string s1] h (L) (fun v h' L'=>v = .bool r_0∧L' = L):=by
 intro L
 refine FnS.enter Tryz.func212 z Tryz.ntmps212 z<|Sr<|Ag z<|Nt<|Sr<|Mv z<|Vv (V.seq z z)<|Mv z<|T.bH 5 H z (fun H=>?_) (fun H=>?_)
 ·refine Sk<|Sk<|Vv (V.pkT z z)<|Ag z<|Nt<|T.ret ?_
  obtain rfl:=Option.some.inj H
  exact T.retL Tryz.results212 (Rv z) Lr ⟨z,z⟩
 exact dead H
theorem guest_Check_ok {h:PH} {pc0:List Value} {g1:apiGuest} (pr0:VapiGuest h pc0 g1) {r_0:Int} (H:guest_Check g1 = some r_0):∀ L,FnS Tryz.prog 159 [.agg pc0.toArray] h (L) (fun v h' L'=>v = .int .i64 r_0∧L' = L):=by
 intro L
 obtain ⟨W,rfl,q⟩:=pr0
 refine FnS.enter Tryz.func159 z Tryz.ntmps159 z<|Sr<|To (O.boxF z z z fun X Y r c=>Ag z<|Nt<|Sq<|Bl<|Sr<|Vv (V.fa fdguest_38_0 z)<|Vv (V.ldf (k:=0) shguest_9 z c z) ?_)
 obtain ⟨Z,s,H⟩:=bnd H
 refine To (O.callS z (guest_name_ok s _) z fun aa ab ac d t=>?_)
 obtain ⟨rfl,u⟩:=t
 refine Sl_ _ u<|Vv (V.not z)<|Mv z<|T.bH 10 H z (fun H=>?_) (fun H=>?_)
 ·exact dead H
 refine Vv (V.fa fdguest_38_1 z)<|have e:=c.mono d; Vv (V.ldf (k:=1) shguest_9 z e z) ?_
 obtain ⟨ad,w,H⟩:=bnd H
 refine To (O.callS z (guest_some_ok w _) z fun ae af ag f x=>?_)
 obtain ⟨rfl,y⟩:=x
 refine Sl_ _ y<|Vv (V.not z)<|Vv (V.pkF z z)<|Mv z<|T.bH 16 H z (fun H=>?_) (fun H=>?_)
 ·exact dead H
 refine Vv (V.fa fdguest_38_2 z)<|have g:=e.mono f; Vv (V.ldf (k:=2) shguest_9 z g z) ?_
 obtain ⟨ai,A,H⟩:=bnd H
 refine To (O.callS z (guest_some_ok A _) z fun aj ak am i B=>?_)
 obtain ⟨rfl,C⟩:=B
 refine Sl_ _ C<|Vv (V.not z)<|Vv (V.pkF z z)<|Mv z<|T.bH 22 H z (fun H=>?_) (fun H=>?_)
 ·exact dead H
 refine Vv (V.fa fdguest_38_5 z)<|have j:=g.mono i; Vv (V.ldf (k:=5) shguest_9 z j z) ?_
 obtain ⟨an,D,H⟩:=bnd H
 refine To (O.callS z (guest_some_ok D _) z fun ao ap aq m E=>?_)
 obtain ⟨rfl,G⟩:=E
 refine Sl_ _ G<|Vv (V.not z)<|Vv (V.pkF z z)<|Ag z<|Nt<|T.cH H z (fun H=>?_) (fun H=>?_)
 ·exact dead H
 refine Sr<|Vv (V.fa fdguest_38_3 z)<|have a:=j.mono m; Vv (V.ldf (k:=3) shguest_3 z a z)<|Vv (V.lt z z)<|Mv z<|T.bH 32 H z (fun H=>?_) (fun H=>?_)
 ·exact dead H
 refine Vv (V.fa fdguest_38_3 z)<|Vv (V.ldf (k:=3) shguest_3 z a z)<|Vv (V.gt z z)<|Vv (V.pkF z z)<|Ag z<|Nt<|T.cH H z (fun H=>?_) (fun H=>?_)
 ·exact dead H
 refine Sq<|T.norm [1] z<|Rg<|Vv (V.fa fdguest_38_4 z)<|Vv (V.ldf (k:=4) shguest_3 z a z)<|Vv (V.lt z z)<|Mv z<|T.bH 41 H z (fun H=>?_) (fun H=>?_)
 ·exact dead H
 refine Vv (V.fa fdguest_38_4 z)<|Vv (V.ldf (k:=4) shguest_3 z a z)<|Vv (V.gt z z)<|Vv (V.pkF z z)<|Ag z<|Nt<|T.cH H z (fun H=>?_) (fun H=>?_)
 ·exact dead H
 refine Sr<|Vv (V.fa fdguest_38_8 z)<|Vv (V.ldf (k:=8) shguest_22 z a z)<|have n:=((((r.trans d).trans f).trans i).trans m); have o:=Slc.mono VS.mono q n; Vv (V.lenS elguest_22 z o)<|Vv (V.gt z z)<|Ag z<|Nt<|T.cH H z (fun H=>?_) (fun H=>?_)
 ·exact dead H
 refine T.skip<|Bn<|Th<|Sq<|Sr<|Vv (V.fa fdguest_38_8 z)<|Vv (V.ldf (k:=8) shguest_22 z a z)<|Vv (V.lenS elguest_22 z o)<|Mv z<|Nt ?_
 obtain ⟨p,I,J⟩:=bndK H
 refine T.cutK (α:=Unit) [] z (fun _u=>[]) (fun _u=>L) (fun _u hh=>p = ()) ?_ ?_
 ·have H:=I
  refine Bl<|T.loopK (α:=Nat) [53,54] z (fun b=>[]) (fun b=>L) (fun b hh=>iter (guest_Check_l0 g1) b () = some p) (fun b=>b) FUEL trivial z H ?_
  rintro b ar K M
  obtain ⟨au,aw,rfl,H,N⟩:=iter_go M
  refine T.norm [53,54] z<|Sl_ (L) z<|Sr<|Vv (V.lt z z)<|Nt<|Sq<|T.cH H z (fun H=>?_) (fun H=>?_)
  ·exact dead H
  refine T.exit<|Te<|Te<|have H:=iterK_out H N; Be<|Th<|T.met () K H (AllIn.app trivial trivial) z
 rintro _ ax P S
 have H:=cutE S J
 refine T.norm [] z<|Sl_ (L) z<|Sr<|Ag z<|Nt<|T.ret ?_
 obtain rfl:=Option.some.inj H
 have U:=(n.trans P)
 exact T.retL Tryz.results159 (Rv z) U ⟨z,z⟩
theorem guest_copied_ok {h:PH} {pc0:List Value} {g1:apiGuest} (pr0:VapiGuest h pc0 g1) {r_0:apiGuest} (H:guest_copied g1 = some r_0):∀ L,FnS Tryz.prog 160 [.agg pc0.toArray] h (L) (fun v h' L'=>∃ v0_1,v = .agg #[.string r_0.fName,.string r_0.fRank,.string r_0.fCourt,.int .i64 r_0.fSince,.int .i64 r_0.fSide,.string r_0.fDiet,.bool r_0.fHost,.bool r_0.fAccess,v0_1]∧L' = L∧Slc VS 1 h' v0_1 r_0.fTongues):=by
 intro L
 obtain ⟨x,rfl,e⟩:=pr0
 refine FnS.enter Tryz.func160 z Tryz.ntmps160 z<|Sr<|To (O.box z z z fun y=>To (O.alloc zeguest_38 z z fun A=>Nt<|Sr<|Vv (V.fa fdguest_38_8 z)<|Vv (V.ldO (k:=8) shguest_22 z (j:=1) z z) ?_))
 obtain ⟨B,f,H⟩:=bnd H
 refine To (O.callS z (sl_CloneStr_ok e f _) z fun a C D g i=>?_)
 obtain ⟨E,m,n⟩:=i
 refine Sl_ _ m<|Vv (V.fa fdguest_38_8 rfl)<|T.rowOne 0 rfl fun o p=>To (O.st (vs:=[a]) (k:=8) shguest_22 rfl rfl (j:=2) rfl p (by (simp only [Sl.ones,o,Bool.and_true,Bool.true_and]) <;> rfl) ?_)
 refine T.fl ?_
 refine Nt<|Sr<|Vv (V.ldOS (j:=0) (by exact shguest_38) rfl rfl) ?_
 refine Fr_ 1 z<|T.fl ?_
 refine T.rowFix fun G b q=>have r:=RowF.mono VS.mono n b; have c:=RowF.slc q r; To (O.stF (vs:=[.string g1.fName,.string g1.fRank,.string g1.fCourt,.int .i64 g1.fSince,.int .i64 g1.fSide,.string g1.fDiet,.bool g1.fHost,.bool g1.fAccess,a]) shguest_38 rfl rfl (j:=1) rfl rfl (by (simp only [Sl.ones,Slc.one c,Bool.and_true,Bool.true_and]) <;> rfl) rfl ?_)
 refine T.freeze fun I d s=>have t:=AtC.of s; Nt<|T.ret<|T.drop<|have u:=Slc.mono VS.mono c d; ?_
 obtain rfl:=Option.some.inj H
 have w:=((g.trans b).trans d)
 exact T.retL Tryz.results160 (RVs.cons (RV.cellA z t shguest_38) RVs.nil) w ⟨_,z,z,u⟩
theorem bytealg_CompareString_ok {h:PH} {a1:ByteArray} {b2:ByteArray} {r_0:Int} (H:bytealg_CompareString a1 b2 = some r_0):∀ L,FnS Tryz.prog 213 [.string a1,.string b2] h (L) (fun v h' L'=>v = .int .i64 r_0∧L' = L):=by
 intro L
 exact dead H
theorem strings_Compare_ok {h:PH} {a1:ByteArray} {b2:ByteArray} {r_0:Int} (H:strings_Compare a1 b2 = some r_0):∀ L,FnS Tryz.prog 161 [.string a1,.string b2] h (L) (fun v h' L'=>v = .int .i64 r_0∧L' = L):=by
 intro L
 exact dead H
theorem guest_order_ok {h:PH} {pc0:List Value} {a1:apiTie} (pr0:VapiTie h pc0 a1) {pc1:List Value} {b2:apiTie} (pr1:VapiTie h pc1 b2) {r_0:Int} (H:guest_order a1 b2 = some r_0):∀ L,FnS Tryz.prog 114 [.agg pc0.toArray,.agg pc1.toArray] h (L) (fun v h' L'=>v = .int .i64 r_0∧L' = L):=by
 intro L
 exact dead H
theorem guest_pair_ok {h:PH} {one1:ByteArray} {other2:ByteArray} {kind3:Int} {r_0:apiTie} (H:guest_pair one1 other2 kind3 = some r_0):∀ L,FnS Tryz.prog 163 [.string one1,.string other2,.int .u8 kind3] h (L) (fun v h' L'=>v = .agg #[.string r_0.fA,.string r_0.fB,.int .u8 r_0.fKind]∧L' = L):=by
 intro L
 refine FnS.enter Tryz.func163 z Tryz.ntmps163 z<|Sr<|To (O.alloc zeguest_170 z z fun d=>Nt<|Sr<|Mv z<|Mv z<|Vv (V.minS z z)<|Mv z<|Mv z<|Vv (V.maxS z z)<|Mv z<|Vv (V.bld (xs:=[(0,.tmp 9),(1,.tmp 12),(2,.tmp 13)]) (cs:=[_,_,_]) blguest_170 boguest_170 z (Fills.cons z z z (Fills.cons z z z (Fills.cons z z z Fills.nil))))<|To (O.stF (vs:=[.string (minS one1 other2),.string (maxS one1 other2),.int .u8 kind3]) shguest_170 z z (j:=0) z z z z<|T.freeze fun e a b=>have c:=AtC.of b; Nt<|T.ret ?_))
 obtain rfl:=Option.some.inj H
 exact T.retL Tryz.results163 (RVs.cons (RV.cellA z c shguest_170) RVs.nil) a ⟨z,z⟩
theorem guest_New_ok {h:PH}  {r_0:guestBook} (H:guest_New  = some r_0):∀ L,FnS Tryz.prog 112 [] h (L) (fun v h' L'=>∃ b0 vo0_1 csso0_2 vo0_4 csso0_5 mbo0_7 eso0_8,v = .pointer (some ⟨b0,0,none⟩)∧L' = blk b0 (.cells [vo0_1,vo0_4,.map (some mbo0_7)].toArray 194)::rowR 38 9 vo0_1 csso0_2::rowR 170 3 vo0_4 csso0_5::blk mbo0_7 (.map eso0_8.toArray eso0_8.length)::L∧RowF VapiGuest h' csso0_2 r_0.fcontent.fguests∧RowF VapiTie h' csso0_5 r_0.fcontent.fties∧MapG Value.string false (VI .i64) h' 0 eso0_8 r_0.fat):=by
 intro L
 refine FnS.enter Tryz.func112 z Tryz.ntmps112 z<|Sr<|Ag z<|Nt<|Sr<|To (O.mkM z fun d=>have a:MapG Value.string false (VI .i64) h 0 ([]:List MapEntry) ([]:List (ByteArray×Int)):=trivial; Vv (V.bld (xs:=[(1,.tmp 1)]) (cs:=[_,_,_]) blguest_194 boguest_194 z (Fills.cons z z z Fills.nil))<|To (O.box z z z fun e=>Ag z<|Nt<|T.ret<|T.rowNil 38 9<|have b:RowF VapiGuest h [] ([]:List apiGuest):=RowF.nil; T.rowNil 170 3<|have c:RowF VapiTie h [] ([]:List apiTie):=RowF.nil; Fr_ 3 z<|T.fl ?_))
 refine Fr_ 1 z<|T.fl ?_
 refine Fr_ 2 z<|T.fl ?_
 refine Fr_ 3 z<|T.fl ?_
 obtain rfl:=Option.some.inj H
 exact T.retL Tryz.results112 (Rv z) Lr ⟨_,_,_,_,_,_,_,z,z,b,c,a⟩
theorem Book_none_ok {h:PH} {pv0:Value} {b1:guestBook} (pr0:Pt VguestBook h pv0 b1) {r_0:Bool} (H:Book_none b1 = some r_0):∀ L,FnS Tryz.prog 120 [pv0] h (L) (fun v h' L'=>v = .bool r_0∧L' = L):=by
 intro L
 refine FnS.enter Tryz.func120 z Tryz.ntmps120 z<|Sr<|Ag z<|Nt<|Sr<|Mv z<|have a:=pr0; ?_
 obtain ⟨e,_,rfl,b,⟨f,g,i,rfl,j,m,c⟩⟩:=a
 refine Vv (V.nilP Tryz.underlying141 z)<|Mv z<|Mv z<|Vv (V.nck z)<|Vv (V.fa fdguest_194_1 z)<|Vv (V.ldf (k:=2) shguest_192 z b z)<|have d:=c; ?_
 obtain ⟨n,_,rfl,_⟩:=d
 refine Vv (V.nilM Tryz.underlying192 z)<|Vv (V.pkF z z)<|Ag z<|Nt<|T.ret ?_
 obtain rfl:=Option.some.inj H
 exact T.retL Tryz.results120 (Rv z) Lr ⟨z,z⟩
theorem sl_BinTie_ok {h:PH} {pv0:Value} {x1:List apiTie} (pr0:Slc VapiTie 3 h pv0 x1) {pc1:List Value} {target2:apiTie} (pr1:VapiTie h pc1 target2) {pv2:Value} {cmp3:apiTie→apiTie→Option Int} (pr2:CF182 h pv2 cmp3) {r_0:Int} {r_1:Bool} (H:sl_BinTie x1 target2 cmp3 = some (r_0,r_1)):∀ L,FnS Tryz.prog 166 [pv0,.agg pc1.toArray,pv2] h (L) (fun v h' L'=>v = .tuple #[.int .i64 r_0,.bool r_1]∧L' = L):=by
 intro L
 obtain rfl:=pr1
 refine FnS.enter Tryz.func166 z Tryz.ntmps166 z<|Sr<|To (O.boxF z z z fun p q b r=>Ag z<|Ag z<|Nt<|Sr<|Mv z<|have d:=Slc.mono VapiTie.mono pr0 b; Vv (V.lenS elguest_29 z d)<|Ag z<|Nt<|Sr<|Mv z<|Ag z<|Ag z<|Nt<|Sq ?_)
 obtain ⟨c,e,f⟩:=bndK H
 refine T.cutK (α:=Unit) [0,2,4,8,9] z (fun _u=>[]) (fun _u=>L) (fun _u hh=>c = ()) ?_ ?_
 ·have H:=e
  refine Bl<|T.loopK (α:=Nat) [0,2,4,8,9,10] z (fun a=>[]) (fun a=>L) (fun a hh=>iter (sl_BinTie_l0 x1) a () = some c) (fun a=>a) FUEL trivial z H ?_
  rintro a s i j
  obtain ⟨u,w,rfl,H,k⟩:=iter_go j
  refine T.norm [0,2,4,8,9,10] z<|Sl_ (L) z<|Sq<|Sr<|Mv z<|Mv z<|Vv (V.lt z z)<|Nt<|T.cH H z (fun H=>?_) (fun H=>?_)
  ·exact dead H
  refine T.exit<|Te<|Te<|have H:=iterK_out H k; Be<|Th<|T.met () i H (AllIn.app trivial ⟨z,z,z,z,z,trivial⟩) z
 rintro _ x m n
 have H:=cutE n f
 refine T.norm [0,2,4,8,9] rfl<|Sl_ (L) rfl<|Sq<|T.drawF (t:=(.v 0 (.v 1 (.v 2 (.v 3 (.v 4 (.v 5 (.v 6 (.v 7 (.v 8 (.v 9 (.v 10 (.alt 11 (.g (.v 12 (.v 13 (.alt 14 (.alt 15 .done .no) .no)))) .no))))))))))))) 17 0 0 rfl rfl guestmixed (by kernel_rfl) ?_
 refine Tm z z<|Tm z z<|Tm z z<|Tv z (V.lt z z)<|Tm z z<|T.bH 39 H z (fun H=>?_) (fun H=>?_)
 ·exact dead H
 refine Tk z<|Tk z<|Tk z<|Tk z<|Tk z<|Tk z<|T.tskips z z (SX.two (XA.fr [] Lr z) (XA.fr [] Lr z)) z ?_ T.tno
 refine T.tgrow Lr<|Tk z<|Tv z (V.pkF z z)<|Ts z z (SX.two (XA.fr [] Lr z) (XA.fr [] Lr z)) (V.asg z) z ?_ T.tno
 refine Ts z z (SX.two (XA.fr [] Lr z) (XA.fr [] Lr z)) (V.asg z) z ?_ T.tno
 refine T.tnil (SX.two (XA.fr [] Lr z) (XA.fr [] Lr z))<|Th<|T.ret ?_
 obtain ⟨rfl,rfl⟩:=inj2 H
 have o:=(b.trans m)
 exact T.retL Tryz.results166 (RVs.cons (RV.tmp z) (Rv z)) o ⟨z,z⟩
theorem sl_InsTie_ok {h:PH} {pv0:Value} {pcs0:List (List Value)} {s1:List apiTie} (pr0:RowF VapiTie h pcs0 s1) {i3:Int} {pv2:Value} {v4:List apiTie} (pr2:Slc VapiTie 3 h pv2 v4) {r_0:List apiTie} (H:sl_InsTie s1 i3 v4 = some r_0):∀ L,FnS Tryz.prog 162 [pv0,.int .i64 i3,pv2] h (rowR 170 3 pv0 pcs0::L) (fun v h' L'=>L' = L∧Slc VapiTie 3 h' v r_0):=by
 intro L
 exact dead H
theorem Book_place_ok {h:PH} {pv0:Value} {b1:guestBook} (pr0:Pt VguestBook h pv0 b1) {one2:ByteArray} {other3:ByteArray} {r_0:Int} {r_1:Bool} (H:Book_place b1 one2 other3 = some (r_0,r_1)):∀ L,FnS Tryz.prog 121 [pv0,.string one2,.string other3] h (L) (fun v h' L'=>v = .tuple #[.int .i64 r_0,.bool r_1]∧L' = L):=by
 intro L
 refine FnS.enter Tryz.func121 rfl Tryz.ntmps121 rfl<|Sr<|Ag z<|Ag z<|Nt<|Sq<|T.drawF (t:=(.v 0 (.v 1 (.v 2 (.v 3 (.v 4 (.v 5 (.v 6 (.alt 7 (.g (.alt 8 (.g (.v 9 (.v 10 (.alt 11 (.alt 12 .done .no) .no)))) .no)) .no))))))))) 14 0 0 rfl rfl guestmixed (by kernel_rfl) ?_
 refine Tm z z<|have e:=pr0; ?_
 obtain ⟨A,_,rfl,f,⟨B,C,D,rfl,E,i,G⟩⟩:=e
 refine Tv z (V.nck z)<|Tv z (V.fa fdguest_194_0 z)<|Tv z (V.fa fdguest_191_1 z)<|Tv z (V.ldf (k:=1) shguest_29 z f z)<|Tm z z<|Tm z z ?_
 obtain ⟨a,j,H⟩:=bnd H
 refine Tp z z (SX.two (XA.fr [] Lr z) (XA.fr [] Lr z)) (O.callS z (guest_pair_ok j _) z fun I c J b m=>?_) T.tno
 obtain ⟨rfl,n⟩:=m
 refine Sl_ _ n<|T.tgrow b<|have o:=Slc.mono VapiTie.mono i b; ?_
 obtain ⟨⟨K,M⟩,p,H⟩:=bnd H
 refine Tp z z (SX.two (XA.fr [] Lr z) (XA.fr [] Lr z)) (O.callS z (sl_BinTie_ok o (show VapiTie c [.string a.fA,.string a.fB,.int .u8 a.fKind] a from z) (show CF182 c (.func (.func 114) #[] #[]) guest_order from ⟨⟨z,z⟩,.inr ⟨114,[],[],z,fun N P S U q W X r Y s u=>guest_order_ok q r s u⟩⟩) p _) z fun Z aa ab d w=>?_) T.tno
 obtain ⟨rfl,x⟩:=w
 refine Sl_ _ x<|T.tgrow d<|Tv z (V.ext z z)<|Tv z (V.ext z z)<|Ts z z (SX.two (XA.fr [] Lr z) (XA.fr [] Lr z)) (V.asg z) z ?_ T.tno
 refine Ts z z (SX.two (XA.fr [] Lr z) (XA.fr [] Lr z)) (V.asg z) z ?_ T.tno
 refine T.tnil (SX.two (XA.fr [] Lr z) (XA.fr [] Lr z))<|Th<|T.ret ?_
 obtain ⟨rfl,rfl⟩:=inj2 H
 have y:=(b.trans d)
 exact T.retL Tryz.results121 (RVs.cons (RV.tmp z) (Rv z)) y ⟨z,z⟩
theorem Book_Add_ok {h:PH} {pb0:Nat} {b1:guestBook} {v0_1:Value} {css0_2:List (List Value)} {v0_4:Value} {css0_5:List (List Value)} {mb0_7:Nat} {es0_8:List MapEntry} (hR0_3:RowF VapiGuest h css0_2 b1.fcontent.fguests) (hR0_6:RowF VapiTie h css0_5 b1.fcontent.fties) (hM0_9:MapG Value.string false (VI .i64) h 0 es0_8 b1.fat) {pc1:List Value} {g2:apiGuest} (pr1:VapiGuest h pc1 g2) {r_0:Int} {q_0:guestBook} (H:Book_Add b1 g2 = some (r_0,q_0)):∀ L,FnS Tryz.prog 113 [.pointer (some ⟨pb0,0,none⟩),.agg pc1.toArray] h (blk pb0 (.cells [v0_1,v0_4,.map (some mb0_7)].toArray 194)::rowR 38 9 v0_1 css0_2::rowR 170 3 v0_4 css0_5::blk mb0_7 (.map es0_8.toArray es0_8.length)::L) (fun v h' L'=>∃ vl0_1 cssl0_2 vl0_4 cssl0_5 mbl0_7 esl0_8,v = .int .i64 r_0∧L' = blk pb0 (.cells [vl0_1,vl0_4,.map (some mbl0_7)].toArray 194)::rowR 38 9 vl0_1 cssl0_2::rowR 170 3 vl0_4 cssl0_5::blk mbl0_7 (.map esl0_8.toArray esl0_8.length)::L∧RowF VapiGuest h' cssl0_2 q_0.fcontent.fguests∧RowF VapiTie h' cssl0_5 q_0.fcontent.fties∧MapG Value.string false (VI .i64) h' 0 esl0_8 q_0.fat):=by
 intro L
 obtain ⟨d,rfl,Z⟩:=pr1
 refine FnS.enter Tryz.func113 z Tryz.ntmps113 z<|Sr<|To (O.boxF z z z fun a1 a2 A aa=>Ag z<|Nt<|Sq<|Sr<|Mv z ?_)
 obtain ⟨f,ab,H⟩:=bnd H
 refine To (O.callS z (FnS.lend (val:=.bool f) Tryz.func120 z lendB fun a3 ac ad=>FnS.lend (val:=.bool f) Tryz.func120 z lendR fun a4 B ae=>FnS.lend (val:=.bool f) Tryz.func120 z lendR fun a5 o af=>FnS.lend (val:=.bool f) Tryz.func120 z lendM fun C m ag=>?_) z fun a6 ai a7 D aj=>?_)
 ·have G:=((A.trans ac).trans B)
  have ak:=RowF.mono VapiGuest.mono hR0_3 G
  have am:=RowF.slc ae ak
  have I:=(G.trans o)
  have an:=RowF.mono VapiTie.mono hR0_6 I
  have ao:=RowF.slc af an
  have aq:=(I.trans m)
  have ar:=MapG.mono VI.mono aq hM0_9
  have au:Mp Value.string false (VI .i64) C (.map (some mb0_7)) b1.fat:=⟨_,_,z,ag,ar⟩
  have aw:=((B.trans o).trans m)
  have ax:=ad.mono aw
  have ay:=(o.trans m)
  have aA:=Slc.mono VapiGuest.mono am ay
  have aB:=Slc.mono VapiTie.mono ao m
  exact Book_none_ok (Pt.mk ax (show VguestBook C [v0_1,v0_4,(.map (some mb0_7))] (guestBook.mk (guestcontent.mk b1.fcontent.fguests b1.fcontent.fties) b1.fat) from ⟨v0_1,v0_4,(.map (some mb0_7)),z,aA,aB,au⟩)) ab _
 obtain ⟨rfl,aC⟩:=aj
 refine Sl_ _ aC<|Nt<|T.cH H z (fun H=>?_) (fun H=>?_)
 ·exact dead H
 refine T.skip<|Th<|Sq<|Sr<|have J:=aa.mono D; Vv (V.ldS rfl J (by exact shguest_38)) ?_
 have K:=(A.trans D)
 have M:=Slc.mono VS.mono Z K
 obtain ⟨a8,aD,H⟩:=bnd H
 refine To (O.callS z (guest_Check_ok (show VapiGuest ai [.string g2.fName,.string g2.fRank,.string g2.fCourt,.int .i64 g2.fSince,.int .i64 g2.fSide,.string g2.fDiet,.bool g2.fHost,.bool g2.fAccess,d] g2 from ⟨d,z,M⟩) aD _) z fun a9 p ah q aE=>?_)
 obtain ⟨rfl,aG⟩:=aE
 refine Sl_ _ aG<|Ag z<|Nt<|Sr<|Mv z<|Vv (V.ne z z)<|Nt<|T.cH H z (fun H=>?_) (fun H=>?_)
 ·exact dead H
 refine T.skip<|Th<|Sq<|Sq<|Fr_ 3 z<|T.fl ?_
 refine Fr_ 1 z<|T.fl ?_
 refine T.drawF (t:=(.v 0 (.v 1 (.v 2 (.v 3 (.v 4 (.v 5 (.v 6 (.v 7 (.v 8 (.v 9 (.alt 10 (.alt 11 .done .no) .no)))))))))))) 13 2 2 rfl rfl guestmixed (by kernel_rfl) ?_
 refine Tm z z<|Tv z (V.nck z)<|Tv z (V.fa fdguest_194_1 z)<|Tv z (Val.XA fun _ _ _=>V.ldO (k:=2) shguest_192 z (j:=0) z z)<|Tv z (V.fa fdguest_38_0 z)<|have s:=J.mono q; Tv z (V.ldf (k:=0) shguest_9 z s z) ?_
 obtain ⟨⟨al,av⟩,aI,H⟩:=bnd H
 have u:=(K.trans q)
 have N:=MapG.mono VI.mono u hM0_9
 obtain ⟨_,aJ,rfl⟩:=MapG.lookO (r:=mb0_7) (zc:=[.int .i64 (0:Int)]) (agg:=false) Tryz.underlying192 (KeyOK.str Tryz.underlying9) zeguest_3 (show (VI .i64) p [.int .i64 (0:Int)] (0:Int) from rfl) N aI
 refine Tv z (Val.XA fun _ _ _=>V.lkO z z (j:=1) z aJ)<|Tm z z<|Tv z (V.ext z z)<|Tv z (V.ext z z)<|Ts z z (SX.two (XA.fr [1,1] Lr z) (XA.fr [1,1] Lr z)) (V.asg z) z ?_ T.tno
 refine Ts z z (SX.two (XA.fr [1,1] Lr z) (XA.fr [1,1] Lr z)) (V.asg z) z ?_ T.tno
 refine T.tnil (SX.two (XA.fr [1,1] Lr z) (XA.fr [1,1] Lr z))<|Th<|Sr<|Mv z<|Nt<|T.cH H z (fun H=>?_) (fun H=>?_)
 ·exact dead H
 refine T.skip<|Th<|Sq<|Sr<|Mv z<|Vv (V.nck z)<|Vv (V.fa fdguest_194_0 z)<|Vv (V.fa fdguest_191_0 z)<|Vv (V.ldO (k:=0) shguest_28 z (j:=0) z z)<|have w:=RowF.mono VapiGuest.mono hR0_3 u; Vv (V.lenX elguest_28 z (j:=2) z w.len)<|Vv (V.eq z z)<|Nt<|T.cH H z (fun H=>?_) (fun H=>?_)
 ·exact dead H
 refine T.skip<|Th<|Sq<|Fr_ 1 z<|T.fl ?_
 refine Fr_ 2 z<|T.fl ?_
 refine Fr_ 2 z<|T.fl ?_
 refine T.drawF (t:=(.v 0 (.v 1 (.v 2 (.v 3 (.v 4 (.v 5 (.v 6 (.v 7 (.v 8 (.v 9 (.v 10 (.v 11 (.alt 12 .done .no)))))))))))))) 12 3 2 rfl rfl guestmixed (by kernel_rfl) ?_
 refine Tm z z<|Tv z (V.nck z)<|Tv z (V.fa fdguest_194_1 z)<|Tv z (Val.XA fun _ _ _=>V.ldO (k:=2) shguest_192 z (j:=0) z z)<|Tv z (V.fa fdguest_38_0 z)<|Tv z (V.ldf (k:=0) shguest_9 z s z)<|Tm z z<|Tv z (V.nck z)<|Tv z (V.fa fdguest_194_0 z)<|Tv z (V.fa fdguest_191_0 z)<|Tv z (Val.XA fun _ _ _=>V.ldO (k:=0) shguest_28 z (j:=0) z z)<|Tv z (Val.XA fun _ _ _=>V.lenX elguest_28 z (j:=1) z w.len) ?_
 obtain ⟨az,aK,H⟩:=bnd H
 refine Tp z z (SX.two (XA.fr [1,1] Lr z) (XA.fr [2,2,2] Lr z)) (O.updM (agg:=false) (E:=(VI .i64)) (cs:=[.int .i64 (b1.fcontent.fguests.length:Int)]) Tryz.underlying192 (KeyOK.str Tryz.underlying9) z z z (j:=2) z N (show (VI .i64) p [.int .i64 (b1.fcontent.fguests.length:Int)] (b1.fcontent.fguests.length:Int) from z) _ (.inl z) fun b P=>?_) T.tno
 rw [Option.some.inj aK] at P
 refine Sl_ (blk mb0_7 (.map b.toArray b.length)::blk pb0 (.cells [v0_1,v0_4,.map (some mb0_7)].toArray 194)::rowR 38 9 v0_1 css0_2::rowR 170 3 v0_4 css0_5::L) z<|T.tnil (SX.one (XA.fr [2,2] Lr z) z)<|Th<|Sq<|T.norm [0,3] z<|Sl_ (blk mb0_7 (.map b.toArray b.length)::blk pb0 (.cells [v0_1,v0_4,.map (some mb0_7)].toArray 194)::rowR 38 9 v0_1 css0_2::rowR 170 3 v0_4 css0_5::L) z<|Fr_ 2 z<|T.fl ?_
 refine Fr_ 2 z<|T.fl ?_
 refine T.drawF (t:=(.v 0 (.v 1 (.v 2 (.v 3 (.v 4 (.x 5 (.v 6 (.alt 7 (.g (.alt 8 (.alt 9 (.g (.v 10 (.v 11 (.v 12 (.alt 13 .done .no))))) .no) .no)) .no))))))))) 9 2 0 rfl rfl guestmixed (by kernel_rfl) ?_
 refine Tm z z<|Tm z z<|Tv z (V.nck rfl)<|Tv z (V.fa fdguest_194_0 rfl)<|Tv z (V.fa fdguest_191_0 rfl)<|T.tx rfl rfl (Val.XA fun _ _ _=>V.ldO (k:=0) shguest_28 rfl (j:=0) rfl rfl) rfl Calm.i<|Tv z (V.ldS rfl s (by exact shguest_38)) ?_
 have aM:=Slc.mono VS.mono M q
 obtain ⟨a,aN,H⟩:=bnd H
 refine Tp z z (SX.two (XA.fr [] Lr z) (XA.fr [1,1] Lr z)) (O.callS z (guest_copied_ok (show VapiGuest p [.string g2.fName,.string g2.fRank,.string g2.fCourt,.int .i64 g2.fSince,.int .i64 g2.fSide,.string g2.fDiet,.bool g2.fHost,.bool g2.fAccess,d] g2 from ⟨d,z,aM⟩) aN _) z fun ba S bb n aO=>?_) T.tno
 obtain ⟨c,rfl,aP,aS⟩:=aO
 refine Sl_ _ aP<|T.tgrow n<|Tp z z (SX.two (XA.fr [] Lr z) (XA.fr [1,1] Lr z)) (O.bs elguest_28 zeguest_38 z (e:=z) (hk:=z) (xs:=[.tmp 52]) (hv:=CO.eq (CO.cons z CO.nil)) (hw:=Wide.of z) (hd:=z) fun aU=>?_) T.tno
 have y:RowF VapiGuest S [[.string a.fName,.string a.fRank,.string a.fCourt,.int .i64 a.fSince,.int .i64 a.fSide,.string a.fDiet,.bool a.fHost,.bool a.fAccess,c]] ([a]:List apiGuest):=(RowF.cons ⟨c,z,aS⟩ RowF.nil)
 obtain ⟨aV,U,H⟩:=bnd H
 have W:=RowF.mono VapiGuest.mono w n
 refine Tp z z (SX.two (XA.fr [] Lr z) (XA.fr [2,2] Lr z)) (O.apX elguest_28 elguest_28 zeguest_38 z z z (j:=2) z (Src.row (j:=0) z) (Wide.of z) (RowF.ones VapiGuest.plain y) W y U z fun X bc bd=>?_) T.tno
 have aW:RowF VapiGuest S (css0_2 ++ [[.string a.fName,.string a.fRank,.string a.fCourt,.int .i64 a.fSince,.int .i64 a.fSide,.string a.fDiet,.bool a.fHost,.bool a.fAccess,c]]) aV:=RowF.ap W y U
 refine Sl_ (rowR 38 9 X (css0_2 ++ [[.string a.fName,.string a.fRank,.string a.fCourt,.int .i64 a.fSince,.int .i64 a.fSide,.string a.fDiet,.bool a.fHost,.bool a.fAccess,c]])::rowR 38 9 (.slice (some ⟨aU,0,none⟩) 1 1) [[.string a.fName,.string a.fRank,.string a.fCourt,.int .i64 a.fSince,.int .i64 a.fSide,.string a.fDiet,.bool a.fHost,.bool a.fAccess,c]]::blk pb0 (.cells [v0_1,v0_4,.map (some mb0_7)].toArray 194)::blk mb0_7 (.map b.toArray b.length)::rowR 170 3 v0_4 css0_5::L) z<|Fr_ 1 z<|T.fl ?_
 refine T.drop<|T.tgrow Lr<|Tv z (V.nck rfl)<|Tv z (V.fa fdguest_194_0 rfl)<|Tv z (V.fa fdguest_191_0 rfl)<|T.rowOne 0 rfl fun aX aY=>Tp z z (SX.one (XA.fr [] Lr rfl) rfl) (O.st (vs:=[X]) (k:=0) shguest_28 rfl rfl (j:=1) rfl aY (by (simp only [Sl.ones,aX,Bool.and_true,Bool.true_and]) <;> rfl) ?_) T.tno
 refine T.fl ?_
 refine T.tnil (SX.one (XA.fr [] Lr z) z)<|Th<|Sr<|Ag z<|Nt<|T.ret<|Fr_ 2 z<|T.fl ?_
 refine Fr_ 3 z<|T.fl ?_
 refine Fr_ 3 z<|T.fl ?_
 refine Fr_ 3 z<|T.fl ?_
 have Y:=(u.trans n)
 have aZ:=RowF.mono VapiTie.mono hR0_6 Y
 have a0:=MapG.mono VI.mono n P
 obtain ⟨rfl,rfl⟩:=inj2 H
 exact T.retL Tryz.results113 (Rv z) Y ⟨_,_,_,_,_,_,z,z,aW,aZ,a0⟩
theorem Book_Tie_ok {h:PH} {pb0:Nat} {b1:guestBook} {v0_1:Value} {css0_2:List (List Value)} {v0_4:Value} {css0_5:List (List Value)} {mb0_7:Nat} {es0_8:List MapEntry} (hR0_3:RowF VapiGuest h css0_2 b1.fcontent.fguests) (hR0_6:RowF VapiTie h css0_5 b1.fcontent.fties) (hM0_9:MapG Value.string false (VI .i64) h 0 es0_8 b1.fat) {one2:ByteArray} {other3:ByteArray} {kind4:Int} {r_0:Int} {q_0:guestBook} (H:Book_Tie b1 one2 other3 kind4 = some (r_0,q_0)):∀ L,FnS Tryz.prog 115 [.pointer (some ⟨pb0,0,none⟩),.string one2,.string other3,.int .u8 kind4] h (blk pb0 (.cells [v0_1,v0_4,.map (some mb0_7)].toArray 194)::rowR 38 9 v0_1 css0_2::rowR 170 3 v0_4 css0_5::blk mb0_7 (.map es0_8.toArray es0_8.length)::L) (fun v h' L'=>∃ vl0_1 cssl0_2 vl0_4 cssl0_5 mbl0_7 esl0_8,v = .int .i64 r_0∧L' = blk pb0 (.cells [vl0_1,vl0_4,.map (some mbl0_7)].toArray 194)::rowR 38 9 vl0_1 cssl0_2::rowR 170 3 vl0_4 cssl0_5::blk mbl0_7 (.map esl0_8.toArray esl0_8.length)::L∧RowF VapiGuest h' cssl0_2 q_0.fcontent.fguests∧RowF VapiTie h' cssl0_5 q_0.fcontent.fties∧MapG Value.string false (VI .i64) h' 0 esl0_8 q_0.fat):=by
 intro L
 exact dead H
theorem guest_Load_ok {h:PH} {pc0:List Value} {r1:apiRoll} (pr0:VapiRoll h pc0 r1) {r_0:guestBook} {r_1:Int} {r_2:Int} (H:guest_Load r1 = some (r_0,r_1,r_2)):∀ L,FnS Tryz.prog 67 [.agg pc0.toArray] h (L) (fun v h' L'=>∃ w0,v = .tuple #[w0,.int .i64 r_1,.int .i64 r_2]∧L' = L∧Pt VguestBook h' w0 r_0):=by
 intro L
 obtain ⟨bM,bN,rfl,ao,ap⟩:=pr0
 refine FnS.enter Tryz.func67 z Tryz.ntmps67 z<|Sr<|To (O.boxF z z z fun bO bP aq ar=>Ag z<|Ag z<|Ag z<|Nt<|Sr ?_)
 obtain ⟨G,au,H⟩:=bnd H
 refine To (O.callS z (guest_New_ok au _) z fun bS bU bV P aw=>?_)
 obtain ⟨p,ax,ay,aA,aB,aC,aD,rfl,aE,aG,aI,aJ⟩:=aw
 refine Sl_ _ aE<|Ag z<|Nt<|Sq<|Sr<|Vv (V.fa fdguest_145_0 z)<|have S:=ar.mono P; Vv (V.ldf (k:=0) shguest_28 z S z)<|have U:=(aq.trans P); have W:=Slc.mono VapiGuest.mono ao U; Vv (V.lenS elguest_28 z W)<|Mv z<|Nt ?_
 obtain ⟨X,aK,aM⟩:=bndK H
 refine T.cutK (α:=(List apiGuest)×(List apiTie)×(List (ByteArray×Int))×Value×(List (List Value))×Value×(List (List Value))×Nat×(List MapEntry)) [1,5] z (fun ⟨w,x,y,a,f,b,g,c,e⟩=>[]) (fun ⟨w,x,y,a,f,b,g,c,e⟩=>blk p (.cells [a,b,.map (some c)].toArray 194)::rowR 38 9 a f::rowR 170 3 b g::blk c (.map e.toArray e.length)::L) (fun ⟨w,x,y,a,f,b,g,c,e⟩ hh=>X = (w,x,y)∧RowF VapiGuest hh f w∧RowF VapiTie hh g x∧MapG Value.string false (VI .i64) hh 0 e y) ?_ ?_
 ·have H:=aK
  refine Bl<|T.loopK (α:=Nat×(List apiGuest)×(List apiTie)×(List (ByteArray×Int))×Int×Value×(List (List Value))×Value×(List (List Value))×Nat×(List MapEntry)) [1,5,14,15] z (fun ⟨A,s,t,u,B,m,q,n,r,o,i⟩=>[(16,.int .i64 B)]) (fun ⟨A,s,t,u,B,m,q,n,r,o,i⟩=>blk p (.cells [m,n,.map (some o)].toArray 194)::rowR 38 9 m q::rowR 170 3 n r::blk o (.map i.toArray i.length)::L) (fun ⟨A,s,t,u,B,m,q,n,r,o,i⟩ hh=>iter (guest_Load_l0 r1) A (s,t,u,B) = some X∧RowF VapiGuest hh q s∧RowF VapiTie hh r t∧MapG Value.string false (VI .i64) hh 0 i u) (fun ⟨A,s,t,u,B,m,q,n,r,o,i⟩=>A) (FUEL,G.fcontent.fguests,G.fcontent.fties,G.fat,(0:Int),ax,ay,aA,aB,aC,aD) ⟨z,trivial⟩ z ⟨H,aG,aI,aJ⟩ ?_
  rintro ⟨A,s,t,u,B,m,q,n,r,o,i⟩ bW I ⟨aN,Y,Z,aa⟩
  obtain ⟨aO,bX,rfl,H,ab⟩:=iter_go aN
  refine T.norm [16,1,5,14,15] z<|Sl_ (blk p (.cells [m,n,.map (some o)].toArray 194)::rowR 38 9 m q::rowR 170 3 n r::blk o (.map i.toArray i.length)::L) z<|Sr<|Vv (V.lt z z)<|Nt<|Sq<|T.cH H z (fun H=>?_) (fun H=>?_)
  ·refine T.skip<|Th<|Sq<|Bl<|Sr<|Mv z ?_
   obtain ⟨d,ac,H⟩:=bnd H
   have ad:=Slc.mono VapiGuest.mono W I
   obtain ⟨bY,aP,⟨J,rfl,ae⟩⟩:=Slc.at ad ac
   refine Vv (V.ix elguest_28 rfl rfl ad (getI_bd ac))<|Vv (V.ldS rfl aP (by exact shguest_38)) ?_
   refine To (O.alloc zeguest_38 rfl rfl fun bZ=>Ag z<|To (O.stF (vs:=[.string d.fName,.string d.fRank,.string d.fCourt,.int .i64 d.fSince,.int .i64 d.fSide,.string d.fDiet,.bool d.fHost,.bool d.fAccess,J]) shguest_38 rfl rfl (j:=0) rfl rfl (by (simp only [Sl.ones,Slc.one ae,Bool.and_true,Bool.true_and]) <;> rfl) rfl ?_))
   refine T.fl ?_
   refine T.freeze fun aS D aU=>have aV:=AtC.of aU; Nt<|Sr<|Mv z<|Vv (V.ldS rfl aV (by exact shguest_38)) ?_
   have aW:=RowF.mono VapiGuest.mono Y D
   have aX:=RowF.mono VapiTie.mono Z D
   have aY:=MapG.mono VI.mono D aa
   have aZ:=Slc.mono VS.mono ae D
   obtain ⟨⟨b0,K⟩,a0,H⟩:=bnd H
   refine To (O.callS z (Book_Add_ok aW aX aY (show VapiGuest aS [.string d.fName,.string d.fRank,.string d.fCourt,.int .i64 d.fSince,.int .i64 d.fSide,.string d.fDiet,.bool d.fHost,.bool d.fAccess,J] d from ⟨J,z,aZ⟩) a0 _) z fun b1 b2 b3 a1 a2=>?_)
   obtain ⟨a3,a4,a5,a6,a7,a8,rfl,a9,ah,al,av⟩:=a2
   refine Sl_ _ a9<|Ag z<|Nt<|Sr<|Mv z<|Vv (V.ne z z)<|Nt<|T.cH H z (fun H=>?_) (fun H=>?_)
   ·exact dead H
   refine T.skip<|Bn<|Th<|Rg ?_
   obtain ⟨az,ba,H⟩:=bnd H
   refine Vv (V.addS z z ba)<|Mv z<|Nt<|have bb:=((I.trans D).trans a1); T.again (aO,K.fcontent.fguests,K.fcontent.fties,K.fat,az,a3,a4,a5,a6,a7,a8) bb (Nat.lt_succ_self _) ⟨(iterK_in H ab),ah,al,av⟩ (AllIn.app ⟨z,trivial⟩ ⟨z,z,z,z,trivial⟩) z
  refine T.exit<|Te<|Te<|have H:=iterK_out H ab; Be<|Th<|T.met (s,t,u,m,q,n,r,o,i) I ⟨H,Y,Z,aa⟩ (AllIn.app trivial ⟨z,z,trivial⟩) z
 rintro ⟨w,x,y,a,f,b,g,c,e⟩ b4 af ⟨bc,bd,be,bf⟩
 have H:=cutE bc aM
 refine T.norm [1,5] z<|Sl_ (blk p (.cells [a,b,.map (some c)].toArray 194)::rowR 38 9 a f::rowR 170 3 b g::blk c (.map e.toArray e.length)::L) z<|Sq<|Sr<|Vv (V.fa fdguest_145_1 z)<|have bg:=S.mono af; Vv (V.ldf (k:=1) shguest_29 z bg z)<|have ag:=(U.trans af); have bi:=Slc.mono VapiTie.mono ap ag; Vv (V.lenS elguest_29 z bi)<|Mv z<|Nt ?_
 obtain ⟨ai,bj,bk⟩:=bndK H
 refine T.cutK (α:=Unit) [5] z (fun _u=>[]) (fun _u=>blk p (.cells [a,b,.map (some c)].toArray 194)::rowR 38 9 a f::rowR 170 3 b g::blk c (.map e.toArray e.length)::L) (fun _u hh=>ai = ()) ?_ ?_
 ·have H:=bj
  refine Bl<|T.loopK (α:=Nat) [5,31,32] z (fun C=>[]) (fun C=>blk p (.cells [a,b,.map (some c)].toArray 194)::rowR 38 9 a f::rowR 170 3 b g::blk c (.map e.toArray e.length)::L) (fun C hh=>iter (guest_Load_l1 r1) C () = some ai) (fun C=>C) FUEL trivial z H ?_
  rintro C b5 bm bn
  obtain ⟨b6,b7,rfl,H,bo⟩:=iter_go bn
  refine T.norm [5,31,32] z<|Sl_ (blk p (.cells [a,b,.map (some c)].toArray 194)::rowR 38 9 a f::rowR 170 3 b g::blk c (.map e.toArray e.length)::L) z<|Sr<|Vv (V.lt z z)<|Nt<|Sq<|T.cH H z (fun H=>?_) (fun H=>?_)
  ·exact dead H
  refine T.exit<|Te<|Te<|have H:=iterK_out H bo; Be<|Th<|T.met () bm H (AllIn.app trivial ⟨z,trivial⟩) z
 rintro _ b8 aj bp
 have H:=cutE bp bk
 refine T.norm [5] z<|Sl_ (blk p (.cells [a,b,.map (some c)].toArray 194)::rowR 38 9 a f::rowR 170 3 b g::blk c (.map e.toArray e.length)::L) z<|Sr<|Mv z<|Ag z<|Ag z<|Ag z<|Nt<|T.ret<|Fr_ 1 z<|T.fl ?_
 refine T.rowFix fun b9 ak bq=>have am:=(aj.trans ak); have br:=RowF.mono VapiGuest.mono bd am; have bs:=RowF.slc bq br; Fr_ 1 z<|T.fl ?_
 refine T.rowFix fun bh M bt=>have an:=(am.trans M); have bu:=RowF.mono VapiTie.mono be an; have bw:=RowF.slc bt bu; Fr_ 1 z<|have bx:=MapG.mono VI.mono an bf; T.mapFix VI.mono bx fun bl N bA=>T.blkFix fun bB E bC=>have bD:=((M.trans N).trans E); have bE:=Slc.mono VapiGuest.mono bs bD; have bG:=(N.trans E); have bI:=Slc.mono VapiTie.mono bw bG; have bJ:=Mp.mono VI.mono bA E; ?_
 obtain ⟨rfl,rfl,rfl⟩:=inj3 H
 have bK:=(((((ag.trans aj).trans ak).trans M).trans N).trans E)
 exact T.retL Tryz.results67 (RVs.cons (RV.tmp z) (RVs.cons (RV.tmp z) (Rv z))) bK ⟨_,z,z,(Pt.mk bC (show VguestBook bB [a,b,(.map (some c))] (guestBook.mk (guestcontent.mk w x) y) from ⟨a,b,(.map (some c)),z,bE,bI,bJ⟩))⟩
theorem guest_CheckRoll_ok {h:PH} {pc0:List Value} {r1:apiRoll} (pr0:VapiRoll h pc0 r1) {r_0:Int} {r_1:Int} (H:guest_CheckRoll r1 = some (r_0,r_1)):∀ L,FnS Tryz.prog 139 [.agg pc0.toArray] h (L) (fun v h' L'=>v = .tuple #[.int .i64 r_0,.int .i64 r_1]∧L' = L):=by
 intro L
 obtain ⟨b,c,rfl,d,e⟩:=pr0
 refine FnS.enter Tryz.func139 rfl Tryz.ntmps139 rfl<|Sr<|To (O.boxF rfl rfl rfl fun q f a g=>Ag z<|Ag z<|Nt<|Sr<|Vv (V.ldS rfl g (by exact shguest_145)) ?_)
 have i:=Slc.mono VapiGuest.mono d a
 have j:=Slc.mono VapiTie.mono e a
 obtain ⟨⟨r,s,t⟩,k,H⟩:=bnd H
 refine To (O.callS z (guest_Load_ok (show VapiRoll f [b,c] r1 from ⟨b,c,z,i,j⟩) k _) z fun u w x m n=>?_)
 obtain ⟨y,rfl,o,A⟩:=n
 refine Sl_ _ o<|Mv z<|Vv (V.ext z z)<|Vv (V.ext z z)<|Vv (V.ext z z)<|Ag z<|Ag z<|Ag z<|Nt<|Sr<|Mv z<|Mv z<|Ag z<|Ag z<|Nt<|T.ret ?_
 obtain ⟨rfl,rfl⟩:=inj2 H
 have p:=(a.trans m)
 exact T.retL Tryz.results139 (RVs.cons (RV.tmp z) (Rv z)) p ⟨z,z⟩
end Go.Proofs.X
open Go Go.Proofs Go.Sl Go.Dm
namespace Go.Proofs.X
theorem guest2mixed : Tryz.prog.follows .mixedOrders = true := by kernel_rfl
theorem elguest2_28 : elSh Tryz.prog 28 = some (38, 9, 112) := by kernel_rfl
theorem fdguest2_191_0 : fldOf Tryz.prog 191 0 = some 0 := by kernel_rfl
theorem fdguest2_194_0 : fldOf Tryz.prog 194 0 = some 0 := by kernel_rfl
theorem fdguest2_194_1 : fldOf Tryz.prog 194 1 = some 2 := by kernel_rfl
theorem fdguest2_38_8 : fldOf Tryz.prog 38 8 = some 8 := by kernel_rfl
theorem shguest2_192 : tySh Tryz.prog 192 = some (false, 1) := by kernel_rfl
theorem shguest2_22 : tySh Tryz.prog 22 = some (false, 1) := by kernel_rfl
theorem shguest2_28 : tySh Tryz.prog 28 = some (false, 1) := by kernel_rfl
theorem shguest2_38 : tySh Tryz.prog 38 = some (true, 9) := by kernel_rfl
theorem zeguest2_3 : zer Tryz.prog 3 = some (.int .i64 (0)) := by kernel_rfl
theorem zeguest2_38 : zer Tryz.prog 38 = some (.agg #[.string ⟨#[]⟩, .string ⟨#[]⟩, .string ⟨#[]⟩, .int .i64 (0), .int .i64 (0), .string ⟨#[]⟩, .bool false, .bool false, .slice none 0 0]) := by kernel_rfl
theorem guest_copiedR_ok {h:PH} {pc0:List Value} {g1:apiGuest} (pr0:VapiGuest h pc0 g1) {r_0:apiGuest} (H:guest_copiedR g1 = some r_0):∀ L,FnS Tryz.prog 160 [.agg pc0.toArray] h (L) (fun v h' L'=>∃ vo0_1 csso0_2,v = .agg #[.string r_0.fName,.string r_0.fRank,.string r_0.fCourt,.int .i64 r_0.fSince,.int .i64 r_0.fSide,.string r_0.fDiet,.bool r_0.fHost,.bool r_0.fAccess,vo0_1]∧L' = rowR 9 1 vo0_1 csso0_2::L∧RowF VS h' csso0_2 r_0.fTongues):=by
 intro L
 obtain ⟨p,rfl,b⟩:=pr0
 refine FnS.enter Tryz.func160 z Tryz.ntmps160 z<|Sr<|To (O.box z z z fun q=>To (O.alloc zeguest2_38 z z fun r=>Nt<|Sr<|Vv (V.fa fdguest2_38_8 z)<|Vv (V.ldO (k:=8) shguest2_22 z (j:=1) z z) ?_))
 obtain ⟨s,c,H⟩:=bnd H
 refine To (O.callS z (sl_CloneStr_ok b c _) z fun a t u d e=>?_)
 obtain ⟨f,g,i⟩:=e
 refine Sl_ _ g<|Vv (V.fa fdguest2_38_8 rfl)<|T.rowOne 0 rfl fun m n=>To (O.st (vs:=[a]) (k:=8) shguest2_22 rfl rfl (j:=2) rfl n (by (simp only [Sl.ones,m,Bool.and_true,Bool.true_and]) <;> rfl) ?_)
 refine T.fl ?_
 refine Nt<|Sr<|Vv (V.ldOS (j:=0) (by exact shguest2_38) rfl rfl) ?_
 refine T.rowOne 1 rfl fun o w=>To (O.stF (vs:=[.string g1.fName,.string g1.fRank,.string g1.fCourt,.int .i64 g1.fSince,.int .i64 g1.fSide,.string g1.fDiet,.bool g1.fHost,.bool g1.fAccess,a]) shguest2_38 rfl rfl (j:=2) rfl rfl (by (simp only [Sl.ones,o,Bool.and_true,Bool.true_and]) <;> rfl) rfl ?_)
 refine T.fl ?_
 refine Nt<|T.ret<|Fr_ 1 z<|T.fl ?_
 refine T.drop ?_
 obtain rfl:=Option.some.inj H
 exact T.retD (L':=rowR 9 1 a f::L) Tryz.results160 (RVs.cons (RV.cellS z (j:=0) z shguest2_38) RVs.nil) d (fun _ iv=>iv.drop) ⟨_,_,z,z,i⟩
theorem Book_Find_ok {h:PH} {pv0:Value} {b1:guestBook} (pr0:Pt VguestBook h pv0 b1) {name2:ByteArray} {r_0:apiGuest} {r_1:Bool} (H:Book_Find b1 name2 = some (r_0,r_1)):∀ L,FnS Tryz.prog 116 [pv0,.string name2] h (L) (fun v h' L'=>∃ vo0_1 csso0_2,v = .tuple #[.agg #[.string r_0.fName,.string r_0.fRank,.string r_0.fCourt,.int .i64 r_0.fSince,.int .i64 r_0.fSide,.string r_0.fDiet,.bool r_0.fHost,.bool r_0.fAccess,vo0_1],.bool r_1]∧L' = rowR 9 1 vo0_1 csso0_2::L∧RowF VS h' csso0_2 r_0.fTongues):=by
 intro L
 refine FnS.enter Tryz.func116 z Tryz.ntmps116 z<|Sr<|To (O.alloc zeguest2_38 z z fun J=>Ag z<|Nt<|Sq<|Sr<|Mv z ?_)
 obtain ⟨K,n,H⟩:=bnd H
 refine To (O.callS z (Book_none_ok pr0 n _) z fun M c N d o=>?_)
 obtain ⟨rfl,p⟩:=o
 refine Sl_ _ p<|Nt<|T.cH H z (fun H=>?_) (fun H=>?_)
 ·exact dead H
 refine T.skip<|Th<|Sr<|Mv z<|have q:=Pt.mono VguestBook.mono pr0 d; have r:=q; ?_
 obtain ⟨P,_,rfl,e,⟨S,U,W,rfl,f,X,s⟩⟩:=r
 refine Vv (V.nck z)<|Vv (V.fa fdguest2_194_1 z)<|Vv (V.ldf (k:=2) shguest2_192 z e z)<|Mv z ?_
 obtain ⟨⟨Y,Z⟩,t,H⟩:=bnd H
 obtain ⟨_,u,rfl⟩:=Mp.look (zc:=[.int .i64 (0:Int)]) (agg:=false) Tryz.underlying192 (KeyOK.str Tryz.underlying9) zeguest2_3 (show (VI .i64) c [.int .i64 (0:Int)] (0:Int) from rfl) s t
 refine Vv (V.lkF z z u)<|Mv z<|Vv (V.ext z z)<|Vv (V.ext z z)<|Ag z<|Ag z<|Nt<|Sq<|Sr<|Mv z<|Vv (V.not z)<|Nt<|T.cH H z (fun H=>?_) (fun H=>?_)
 ·exact dead H
 refine T.skip<|Th<|Sr<|Mv z<|Vv (V.nck z)<|Vv (V.fa fdguest2_194_0 z)<|Vv (V.fa fdguest2_191_0 z)<|Vv (V.ldf (k:=0) shguest2_28 z e z)<|Mv z ?_
 obtain ⟨a,g,H⟩:=bnd H
 obtain ⟨aa,w,⟨i,rfl,x⟩⟩:=Slc.at f g
 refine Vv (V.ix elguest2_28 rfl rfl f (getI_bd g))<|Vv (V.ldS rfl w (by exact shguest2_38)) ?_
 obtain ⟨b,y,H⟩:=bnd H
 refine To (O.callS z (guest_copiedR_ok (show VapiGuest c [.string a.fName,.string a.fRank,.string a.fCourt,.int .i64 a.fSince,.int .i64 a.fSide,.string a.fDiet,.bool a.fHost,.bool a.fAccess,i] a from ⟨i,z,x⟩) y _) z fun ab ac ad A B=>?_)
 obtain ⟨m,C,rfl,D,E⟩:=B
 refine Sl_ _ D<|T.rowOne 0 rfl fun G ae=>To (O.stF (vs:=[.string b.fName,.string b.fRank,.string b.fCourt,.int .i64 b.fSince,.int .i64 b.fSide,.string b.fDiet,.bool b.fHost,.bool b.fAccess,m]) shguest2_38 rfl rfl (j:=1) rfl rfl (by (simp only [Sl.ones,G,Bool.and_true,Bool.true_and]) <;> rfl) rfl ?_)
 refine Ag z<|Nt<|T.ret ?_
 obtain ⟨rfl,rfl⟩:=inj2 H
 have I:=(d.trans A)
 exact T.retD (L':=rowR 9 1 m C::L) Tryz.results116 (RVs.cons (RV.cellS z (j:=0) z shguest2_38) (Rv z)) I (fun _ iv=>iv.drop) ⟨_,_,z,z,E⟩
theorem Book_Common1_ok {h:PH} {t1:ByteArray} {pp1:Addr} {pc1:List Value} {t2:apiGuest} (pa1:AtC h pp1 pc1) (pr1:VapiGuest h pc1 t2) {r_0:Bool} (H:Book_Common1 t1 t2 = some r_0):∀ L,FnS Tryz.prog 118 [.string t1,.pointer (some pp1)] h (L) (fun v h' L'=>v = .bool r_0∧L' = L):=by
 intro L
 exact dead H
theorem Book_Common_ok {h:PH} {pv0:Value} {b1:guestBook} (pr0:Pt VguestBook h pv0 b1) {one2:ByteArray} {other3:ByteArray} {r_0:List ByteArray} (H:Book_Common b1 one2 other3 = some r_0):∀ L,FnS Tryz.prog 68 [pv0,.string one2,.string other3] h (L) (fun v h' L'=>∃ cs0,L' = rowR 9 1 v cs0::L∧RowF VS h' cs0 r_0):=by
 intro L
 refine FnS.enter Tryz.func68 z Tryz.ntmps68 z<|Sr<|Ag z<|Nt<|Sr<|Mv z<|Mv z ?_
 obtain ⟨⟨b,ab⟩,o,H⟩:=bnd H
 refine To (O.callS z (Book_Find_ok pr0 o _) z fun ac ad ae f p=>?_)
 obtain ⟨q,af,rfl,r,s⟩:=p
 refine Sl_ _ r<|Mv z<|Vv (V.ext rfl rfl)<|Vv (V.ext rfl rfl)<|To (O.alloc zeguest2_38 rfl rfl fun ag=>T.rowOne 1 rfl fun t ai=>To (O.stF (vs:=[.string b.fName,.string b.fRank,.string b.fCourt,.int .i64 b.fSince,.int .i64 b.fSide,.string b.fDiet,.bool b.fHost,.bool b.fAccess,q]) shguest2_38 rfl rfl (j:=0) rfl rfl (by (simp only [Sl.ones,t,Bool.and_true,Bool.true_and]) <;> rfl) rfl ?_))
 refine Ag z<|Nt<|Sr<|Mv z<|Mv z<|have u:=Pt.mono VguestBook.mono pr0 f; ?_
 obtain ⟨⟨a,aj⟩,w,H⟩:=bnd H
 refine To (O.callS z (Book_Find_ok u w _) z fun ak am an g x=>?_)
 obtain ⟨c,ao,rfl,y,A⟩:=x
 refine Sl_ _ y<|Mv z<|Vv (V.ext z z)<|Vv (V.ext z z)<|To (O.alloc zeguest2_38 z z fun i=>Fr_ 1 z<|T.fl ?_)
 refine T.rowFix fun ap d B=>have C:=RowF.mono VS.mono A d; have m:=RowF.slc B C; To (O.stF (vs:=[.string a.fName,.string a.fRank,.string a.fCourt,.int .i64 a.fSince,.int .i64 a.fSide,.string a.fDiet,.bool a.fHost,.bool a.fAccess,c]) shguest2_38 rfl rfl (j:=0) rfl rfl (by (simp only [Sl.ones,Slc.one m,Bool.and_true,Bool.true_and]) <;> rfl) rfl ?_)
 refine T.fl ?_
 refine T.freeze fun D e E=>have G:=AtC.of E; Ag z<|Nt<|Sq<|Sr<|Mv z<|Vv (V.not z)<|Mv z<|T.bH 25 H z (fun H=>?_) (fun H=>?_)
 ·exact dead H
 refine Mv z<|Vv (V.not z)<|Vv (V.pkF z z)<|Nt<|T.cH H z (fun H=>?_) (fun H=>?_)
 ·exact dead H
 refine T.skip<|Th<|Sr<|Vv (V.fa fdguest2_38_8 z)<|Vv (V.ldO (k:=8) shguest2_22 z (j:=0) z z)<|Vv (V.mkf z z)<|have I:=((g.trans d).trans e); have J:=RowF.mono VS.mono s I; have K:=Slc.mono VS.mono m e; Fr_ 1 z ?_
 obtain ⟨aq,M,H⟩:=bnd H
 refine To (O.callS z (sl_DeleteFuncStr_ok J (show CF188 D (.func (.func 118) #[] #[.pointer (some ⟨i,0,none⟩)]) (fun N=>Book_Common1 N (apiGuest.mk a.fName a.fRank a.fCourt a.fSince a.fSide a.fDiet a.fHost a.fAccess a.fTongues)) from ⟨⟨z,z⟩,.inr ⟨118,[],[.pointer (some ⟨i,0,none⟩)],z,fun P n ar au S U=>Book_Common1_ok (G.mono n) (show VapiGuest P [.string a.fName,.string a.fRank,.string a.fCourt,.int .i64 a.fSince,.int .i64 a.fSide,.string a.fDiet,.bool a.fHost,.bool a.fAccess,c] (apiGuest.mk a.fName a.fRank a.fCourt a.fSince a.fSide a.fDiet a.fHost a.fAccess a.fTongues) from ⟨c,z,(Slc.mono VS.mono K n)⟩) S U⟩⟩) M _) z fun aw ax ay W X=>?_)
 obtain ⟨aA,Y,Z⟩:=X
 refine Sl_ _ Y<|Ag z<|Nt<|T.ret<|Fr_ 1 z<|T.drop ?_
 obtain rfl:=Option.some.inj H
 have aa:=((((f.trans g).trans d).trans e).trans W)
 exact T.retL Tryz.results68 (Rv z) aa ⟨_,z,Z⟩
theorem Book_Tied_ok {h:PH} {pv0:Value} {b1:guestBook} (pr0:Pt VguestBook h pv0 b1) {one2:ByteArray} {other3:ByteArray} {r_0:Int} {r_1:Bool} (H:Book_Tied b1 one2 other3 = some (r_0,r_1)):∀ L,FnS Tryz.prog 69 [pv0,.string one2,.string other3] h (L) (fun v h' L'=>v = .tuple #[.int .u8 r_0,.bool r_1]∧L' = L):=by
 intro L
 refine FnS.enter Tryz.func69 z Tryz.ntmps69 z<|Sr<|Ag z<|Ag z<|Nt<|Sq<|Sr<|Mv z ?_
 obtain ⟨m,b,H⟩:=bnd H
 refine To (O.callS z (Book_none_ok pr0 b _) z fun n o p a c=>?_)
 obtain ⟨rfl,d⟩:=c
 refine Sl_ _ d<|Nt<|T.cH H z (fun H=>?_) (fun H=>?_)
 ·exact dead H
 refine T.skip<|Th<|Sr<|Mv z<|Mv z<|Mv z<|have e:=Pt.mono VguestBook.mono pr0 a; ?_
 obtain ⟨⟨q,r⟩,f,H⟩:=bnd H
 refine To (O.callS z (Book_place_ok e f _) z fun s t u g i=>?_)
 obtain ⟨rfl,j⟩:=i
 refine Sl_ _ j<|Mv z<|Vv (V.ext z z)<|Vv (V.ext z z)<|Ag z<|Ag z<|Nt<|Sq<|Sr<|Mv z<|Vv (V.not z)<|Nt<|T.cH H z (fun H=>?_) (fun H=>?_)
 ·refine Sr<|Ag z<|Ag z<|Nt<|T.ret<|Tr ?_
  obtain ⟨rfl,rfl⟩:=inj2 H
  have k:=(a.trans g)
  exact T.retL Tryz.results69 (RVs.cons (RV.tmp z) (Rv z)) k ⟨z,z⟩
 exact dead H
end Go.Proofs.X
open Go Go.Proofs Go.Sl Go.Dm
namespace Go.Proofs.X
theorem rulemixed : Tryz.prog.follows .mixedOrders = true := by kernel_rfl
theorem elrule_123 : elSh Tryz.prog 123 = some (139, 1, 8) := by kernel_rfl
theorem elrule_24 : elSh Tryz.prog 24 = some (3, 1, 8) := by kernel_rfl
theorem elrule_27 : elSh Tryz.prog 27 = some (26, 7, 80) := by kernel_rfl
theorem elrule_28 : elSh Tryz.prog 28 = some (38, 9, 112) := by kernel_rfl
theorem elrule_87 : elSh Tryz.prog 87 = some (24, 1, 24) := by kernel_rfl
theorem fdrule_119_0 : fldOf Tryz.prog 119 0 = some 0 := by kernel_rfl
theorem fdrule_119_1 : fldOf Tryz.prog 119 1 = some 1 := by kernel_rfl
theorem fdrule_120_0 : fldOf Tryz.prog 120 0 = some 0 := by kernel_rfl
theorem fdrule_127_0 : fldOf Tryz.prog 127 0 = some 0 := by kernel_rfl
theorem fdrule_127_2 : fldOf Tryz.prog 127 2 = some 6 := by kernel_rfl
theorem fdrule_127_6 : fldOf Tryz.prog 127 6 = some 10 := by kernel_rfl
theorem fdrule_127_7 : fldOf Tryz.prog 127 7 = some 11 := by kernel_rfl
theorem fdrule_26_4 : fldOf Tryz.prog 26 4 = some 4 := by kernel_rfl
theorem fdrule_32_0 : fldOf Tryz.prog 32 0 = some 0 := by kernel_rfl
theorem fdrule_32_1 : fldOf Tryz.prog 32 1 = some 1 := by kernel_rfl
theorem fdrule_32_2 : fldOf Tryz.prog 32 2 = some 2 := by kernel_rfl
theorem fdrule_32_3 : fldOf Tryz.prog 32 3 = some 3 := by kernel_rfl
theorem fdrule_32_4 : fldOf Tryz.prog 32 4 = some 4 := by kernel_rfl
theorem fdrule_38_0 : fldOf Tryz.prog 38 0 = some 0 := by kernel_rfl
theorem fdrule_38_8 : fldOf Tryz.prog 38 8 = some 8 := by kernel_rfl
theorem fdrule_41_2 : fldOf Tryz.prog 41 2 = some 2 := by kernel_rfl
theorem fdrule_41_3 : fldOf Tryz.prog 41 3 = some 3 := by kernel_rfl
theorem fdrule_41_4 : fldOf Tryz.prog 41 4 = some 4 := by kernel_rfl
theorem fdrule_41_5 : fldOf Tryz.prog 41 5 = some 5 := by kernel_rfl
theorem shrule_120 : tySh Tryz.prog 120 = some (true, 5) := by kernel_rfl
theorem shrule_123 : tySh Tryz.prog 123 = some (false, 1) := by kernel_rfl
theorem shrule_139 : tySh Tryz.prog 139 = some (false, 1) := by kernel_rfl
theorem shrule_218 : tySh Tryz.prog 218 = some (false, 1) := by kernel_rfl
theorem shrule_22 : tySh Tryz.prog 22 = some (false, 1) := by kernel_rfl
theorem shrule_24 : tySh Tryz.prog 24 = some (false, 1) := by kernel_rfl
theorem shrule_26 : tySh Tryz.prog 26 = some (true, 7) := by kernel_rfl
theorem shrule_27 : tySh Tryz.prog 27 = some (false, 1) := by kernel_rfl
theorem shrule_28 : tySh Tryz.prog 28 = some (false, 1) := by kernel_rfl
theorem shrule_29 : tySh Tryz.prog 29 = some (false, 1) := by kernel_rfl
theorem shrule_3 : tySh Tryz.prog 3 = some (false, 1) := by kernel_rfl
theorem shrule_30 : tySh Tryz.prog 30 = some (false, 1) := by kernel_rfl
theorem shrule_32 : tySh Tryz.prog 32 = some (true, 5) := by kernel_rfl
theorem shrule_41 : tySh Tryz.prog 41 = some (true, 6) := by kernel_rfl
theorem shrule_57 : tySh Tryz.prog 57 = some (false, 1) := by kernel_rfl
theorem shrule_87 : tySh Tryz.prog 87 = some (false, 1) := by kernel_rfl
theorem shrule_9 : tySh Tryz.prog 9 = some (false, 1) := by kernel_rfl
theorem zerule_26 : zer Tryz.prog 26 = some (.agg #[.string ⟨#[]⟩, .int .u8 (0), .int .i64 (0), .int .i64 (0), .slice none 0 0, .int .i64 (0), .int .i64 (0)]) := by kernel_rfl
theorem zerule_3 : zer Tryz.prog 3 = some (.int .i64 (0)) := by kernel_rfl
theorem zerule_32 : zer Tryz.prog 32 = some (.agg #[.slice none 0 0, .slice none 0 0, .slice none 0 0, .slice none 0 0, .slice none 0 0]) := by kernel_rfl
theorem rule_name_ok {h:PH} {s1:ByteArray} {r_0:Bool} (H:rule_name s1 = some r_0):∀ L,FnS Tryz.prog 142 [.string s1] h (L) (fun v h' L'=>v = .bool r_0∧L' = L):=by
 intro L
 exact dead H
theorem rule_who_1_ok {h:PH} {pc0:List Value} {g1:apiGuest} (pr0:VapiGuest h pc0 g1) {pp1:Addr} {pc1:List Value} {t4:ByteArray} (pa1:AtC h pp1 pc1) (pr1:VS h pc1 t4) {r_0:Bool} (H:rule_who_1 g1 t4 = some r_0):∀ L,FnS Tryz.prog 207 [.agg pc0.toArray,.pointer (some pp1)] h (L) (fun v h' L'=>v = .bool r_0∧L' = L):=by
 intro L
 obtain ⟨d,rfl,e⟩:=pr0
 obtain rfl:=pr1
 refine FnS.enter Tryz.func207 z Tryz.ntmps207 z<|Sr<|To (O.boxF z z z fun f g a b=>Ag z<|Nt<|Sr<|Vv (V.fa fdrule_38_0 z)<|Vv (V.ldf (k:=0) shrule_9 z b z)<|have c:=pa1.mono a; Vv (V.ld0 shrule_9 z c z)<|Vv (V.seq z z)<|Ag z<|Nt<|T.ret ?_)
 obtain rfl:=Option.some.inj H
 exact T.retL Tryz.results207 (Rv z) a ⟨z,z⟩
theorem rule_who_ok {h:PH} {pc0:List Value} {p1:apiProblem} (pr0:VapiProblem h pc0 p1) {name12:ByteArray} {r_0:Int} (H:rule_who p1 name12 = some r_0):∀ L,FnS Tryz.prog 141 [.agg pc0.toArray,.string name12] h (L) (fun v h' L'=>v = .int .i64 r_0∧L' = L):=by
 intro L
 obtain ⟨A,B,C,D,E,rfl,G,d,I,J,K⟩:=pr0
 refine FnS.enter Tryz.func141 z Tryz.ntmps141 z<|Sr<|To (O.boxF z z z fun M N e f=>To (O.boxF z z z fun a g b i=>Ag z<|Nt<|Sr<|Vv (V.fa fdrule_32_1 z)<|have j:=f.mono b; Vv (V.ldf (k:=1) shrule_28 z j z)<|Vv (V.mkf z z)<|have c:=(e.trans b); have m:=Slc.mono VapiGuest.mono d c; ?_))
 obtain ⟨P,n,H⟩:=bnd H
 refine To (O.callS z (sl_IndexFuncGuest_ok m (show CF251 g (.func (.func 207) #[] #[.pointer (some ⟨a,0,none⟩)]) (fun o=>rule_who_1 o name12) from ⟨⟨z,z⟩,.inr ⟨207,[],[.pointer (some ⟨a,0,none⟩)],z,fun p q S U r W s t=>rule_who_1_ok r (i.mono q) (show VS p [.string name12] name12 from z) s t⟩⟩) n _) z fun X Y Z u w=>?_)
 obtain ⟨rfl,x⟩:=w
 refine Sl_ _ x<|Ag z<|Nt<|T.ret ?_
 obtain rfl:=Option.some.inj H
 have y:=(c.trans u)
 exact T.retL Tryz.results141 (Rv z) y ⟨z,z⟩
theorem rule_seats_ok {h:PH} {first1:Int} {n2:Int} {pv2:Value} {so3:Int→Option Bool} (pr2:CF138 h pv2 so3) {r_0:List Int} (H:rule_seats first1 n2 so3 = some r_0):∀ L,FnS Tryz.prog 61 [.int .i64 first1,.int .i64 n2,pv2] h (L) (fun v h' L'=>∃ cs0,L' = rowR 3 1 v cs0::L∧RowF (VI .i64) h' cs0 r_0):=by
 intro L
 refine FnS.enter Tryz.func61 z Tryz.ntmps61 z<|Sr<|Ag z<|Nt<|Sr<|Ag z<|Nt<|Sq<|Sr<|Mv z<|Ag z<|Nt ?_
 obtain ⟨r,y,A⟩:=bndK H
 refine T.cutK (α:=(List Int)×Value×(List (List Value))) [] z (fun ⟨k,f,g⟩=>[(7,f)]) (fun ⟨k,f,g⟩=>rowR 3 1 f g::L) (fun ⟨k,f,g⟩ hh=>r = k∧RowF (VI .i64) hh g k) ?_ ?_
 ·have H:=y
  refine Bl<|T.rowNil 3 1<|have B:RowF (VI .i64) h [] ([]:List Int):=RowF.nil; T.loopK (α:=Nat×(List Int)×Int×Value×(List (List Value))) [0,1,2] z (fun ⟨i,d,b,c,a⟩=>[(7,c),(8,.int .i64 b)]) (fun ⟨i,d,b,c,a⟩=>rowR 3 1 c a::L) (fun ⟨i,d,b,c,a⟩ hh=>iter (rule_seats_l0 first1 n2 so3) i (d,b) = some r∧RowF (VI .i64) hh a d) (fun ⟨i,d,b,c,a⟩=>i) (FUEL,([]:List Int),first1,(.slice none 0 0),[]) ⟨z,z,trivial⟩ z ⟨H,B⟩ ?_
  rintro ⟨i,d,b,c,a⟩ ae m ⟨C,o⟩
  obtain ⟨s,af,rfl,H,p⟩:=iter_go C
  refine T.norm [7,8,0,1,2] z<|Sl_ (rowR 3 1 c a::L) z<|Sq<|Sr<|Mv z<|Mv z<|Mv z ?_
  obtain ⟨ag,D,H⟩:=bnd H
  refine Vv (V.addS z z D)<|Vv (V.lt z z)<|Nt<|T.cH H z (fun H=>?_) (fun H=>?_)
  ·refine T.skip<|Th<|Sq<|Bl<|Sr<|Mv z<|Mv z ?_
   obtain ⟨ai,E,H⟩:=bnd H
   have G:=CF138.mono pr2 m
   obtain ⟨aj,ak,am,I,J⟩:=CF138.call G E
   refine To (O.callfW z I z (J _) z fun an t ao n K=>?_)
   obtain ⟨rfl,M⟩:=K
   refine Sl_ _ M<|Nt<|T.cH H z (fun H=>?_) (fun H=>?_)
   ·refine Rg<|Mv z<|Mv z<|To (O.bs elrule_24 zerule_3 z (e:=z) (hk:=z) (xs:=[.tmp 21]) (hv:=CO.eq (CO.cons z CO.nil)) (hw:=Wide.of z) (hd:=z) fun aq=>have q:RowF (VI .i64) t [[.int .i64 b]] ([b]:List Int):=(RowF.cons z RowF.nil); ?_)
    obtain ⟨u,w,H⟩:=bnd H
    have x:=RowF.mono VI.mono o n
    refine To (O.apX elrule_24 elrule_24 zerule_3 z z z (j:=1) z (Src.row (j:=0) z) (Wide.of z) (RowF.ones VI.plain q) x q w z fun N ar au=>have P:RowF (VI .i64) t (a ++ [[.int .i64 b]]) u:=RowF.ap x q w; Fr_ 1 z<|T.drop<|Ag z<|Ni<|Bn<|Th<|Rg<|Mv z ?_)
    obtain ⟨S,U,H⟩:=bnd H
    refine Vv (V.addS z z U)<|Ag z<|Nt<|have W:=(m.trans n); T.again (s,u,S,N,(a ++ [[.int .i64 b]])) W (Nat.lt_succ_self _) ⟨(iterK_in H p),P⟩ (AllIn.app ⟨z,z,trivial⟩ ⟨z,z,z,trivial⟩) z
   refine T.skip<|Bn<|Th<|Rg<|Mv z ?_
   obtain ⟨X,Y,H⟩:=bnd H
   refine Vv (V.addS z z Y)<|Ag z<|Nt<|have Z:=RowF.mono VI.mono o n; have aa:=(m.trans n); T.again (s,d,X,c,a) aa (Nat.lt_succ_self _) ⟨(iterK_in H p),Z⟩ (AllIn.app ⟨z,z,trivial⟩ ⟨z,z,z,trivial⟩) z
  refine T.exit<|Te<|Te<|have H:=iterK_out H p; Be<|Th<|T.met (d,c,a) m ⟨H,o⟩ (AllIn.app ⟨z,trivial⟩ trivial) z
 rintro ⟨k,f,g⟩ aw ab ⟨ac,ad⟩
 have H:=cutE ac A
 refine T.norm [7] z<|Sl_ (rowR 3 1 f g::L) z<|Sr<|Mv z<|Ag z<|Nt<|T.ret ?_
 obtain rfl:=Option.some.inj H
 exact T.retL Tryz.results61 (Rv z) ab ⟨_,z,ad⟩
theorem rule_copied_ok {h:PH} {pc0:List Value} {p1:apiProblem} (pr0:VapiProblem h pc0 p1) {r_0:apiProblem} (H:rule_copied p1 = some r_0):∀ L,FnS Tryz.prog 55 [.agg pc0.toArray] h (L) (fun v h' L'=>∃ v0_1 v0_3 v0_5 v0_7 v0_9,v = .agg #[v0_1,v0_3,v0_5,v0_7,v0_9]∧L' = L∧Slc VapiTable 7 h' v0_1 r_0.fTables∧Slc VapiGuest 9 h' v0_3 r_0.fGuests∧Slc VapiTie 3 h' v0_5 r_0.fTies∧Slc (VI .i64) 1 h' v0_7 r_0.fClass∧Slc VapiRule 6 h' v0_9 r_0.fRules):=by
 intro L
 obtain ⟨c8,X,n,o,p,rfl,a3,a4,a5,a6,a7⟩:=pr0
 refine FnS.enter Tryz.func55 z Tryz.ntmps55 z<|Sr<|To (O.box z z z fun q=>To (O.alloc zerule_32 z z fun r=>Nt<|Sr<|Vv (V.fa fdrule_32_0 z)<|Vv (V.ldO (k:=0) shrule_27 z (j:=1) z z) ?_))
 obtain ⟨an,a8,H⟩:=bnd H
 refine To (O.callS z (sl_CloneTable_ok a3 a8 _) z fun c c9 ch a9 ah=>?_)
 obtain ⟨al,av,ao⟩:=ah
 refine Sl_ _ av<|Vv (V.fa fdrule_32_0 rfl)<|T.rowOne 0 rfl fun az ba=>To (O.st (vs:=[c]) (k:=0) shrule_27 rfl rfl (j:=2) rfl ba (by (simp only [Sl.ones,az,Bool.and_true,Bool.true_and]) <;> rfl) ?_)
 refine T.fl ?_
 refine Nt<|Sq<|Sr<|Vv (V.fa fdrule_32_0 z)<|Vv (V.ldO (k:=0) shrule_27 z (j:=0) z z)<|Vv (V.lenX elrule_27 z (j:=1) z ao.len)<|Mv z<|Nt ?_
 obtain ⟨ap,bb,bc⟩:=bndK H
 refine T.cutK (α:=(List apiTable)×(List (List Value))) [1,2] z (fun ⟨S,d⟩=>[]) (fun ⟨S,d⟩=>blk q (.cells [c,X,n,o,p].toArray 32)::blk r (.cells [.slice none 0 0,.slice none 0 0,.slice none 0 0,.slice none 0 0,.slice none 0 0].toArray 32)::rowR 26 7 c d::L) (fun ⟨S,d⟩ hh=>ap = S∧RowF VapiTable hh d S) ?_ ?_
 ·have H:=bb
  refine Bl<|Fr_ 1 z<|T.fl ?_
  refine Fr_ 2 z<|T.fl ?_
  refine Fr_ 2 z<|T.fl ?_
  refine T.loopK (α:=Nat×(List apiTable)×Int×(List (List Value))) [1,2,11] z (fun ⟨A,w,s,e⟩=>[(12,.int .i64 s)]) (fun ⟨A,w,s,e⟩=>blk q (.cells [c,X,n,o,p].toArray 32)::blk r (.cells [.slice none 0 0,.slice none 0 0,.slice none 0 0,.slice none 0 0,.slice none 0 0].toArray 32)::rowR 26 7 c e::L) (fun ⟨A,w,s,e⟩ hh=>iter (rule_copied_l0 an) A (w,s) = some ap∧RowF VapiTable hh e w) (fun ⟨A,w,s,e⟩=>A) (FUEL,an,(0:Int),al) ⟨z,trivial⟩ z ⟨H,ao⟩ ?_
  rintro ⟨A,w,s,e⟩ cl aq ⟨be,Y⟩
  obtain ⟨bf,cv,rfl,H,ar⟩:=iter_go be
  refine T.norm [12,1,2,11] z<|Sl_ (blk q (.cells [c,X,n,o,p].toArray 32)::blk r (.cells [.slice none 0 0,.slice none 0 0,.slice none 0 0,.slice none 0 0,.slice none 0 0].toArray 32)::rowR 26 7 c e::L) z<|Sr<|Vv (V.lt z z)<|Nt<|Sq<|T.cH H z (fun H=>?_) (fun H=>?_)
  ·refine T.skip<|Th<|Sq<|Bl<|Sr<|Mv z<|Ag z<|Nt<|Fr_ 2 z<|T.fl ?_
   refine Fr_ 1 z<|T.fl ?_
   refine T.drawF (t:=(.v 0 (.v 1 (.v 2 (.v 3 (.v 4 (.v 5 (.x 6 (.v 7 (.x 8 (.alt 9 (.g (.alt 10 (.v 11 (.alt 12 .done .no)) .no)) .no))))))))))) 12 2 1 rfl rfl rulemixed (by kernel_rfl) ?_
   refine Tv z (V.fa fdrule_32_0 z)<|Tv z (Val.XA fun _ _ _=>V.ldO (k:=0) shrule_27 z (j:=0) z z)<|Tm z z<|Tv z (V.fa fdrule_32_0 z)<|Tv z (Val.XA fun _ _ _=>V.ldO (k:=0) shrule_27 z (j:=0) z z)<|Tm z z ?_
   obtain ⟨cz,au,H⟩:=bnd H
   obtain ⟨da,bg,⟨db,rfl,bi⟩⟩:=RowF.get Y au
   refine T.tx z z (Val.XA fun _ _ _=>V.ixR elrule_27 z z (j:=1) z (RowF.bd Y au)) z Calm.i<|Tv z (V.fa fdrule_26_4 z)<|T.tx z z (Val.XA fun _ _ _=>V.ldXk (k:=4) shrule_24 z (j:=1) z bg z) z Calm.i ?_
   obtain ⟨bj,bk,H⟩:=bnd H
   refine Tp z z (SX.two (XA.fr [0] Lr z) (XA.fr [1,1] Lr z)) (O.callS z (sl_CloneInt_ok bi bk _) z fun Z dc dd ad bm=>?_) T.tno
   obtain ⟨de,bn,bo⟩:=bm
   refine Sl_ _ bn<|T.tgrow ad ?_
   obtain ⟨b,aw,H⟩:=bnd H
   have ae:=RowF.mono VapiTable.mono Y ad
   obtain ⟨df,bp,⟨af,rfl,dg⟩⟩:=RowF.get ae aw
   refine Ts z z (SX.two (XA.fr [1] Lr z) (XA.fr [2,2] Lr z)) (V.ixR elrule_27 z z (j:=2) z (RowF.bd ae aw)) z ?_ T.tno
   refine Tv z (V.fa fdrule_26_4 z)<|T.rowFix fun ax B bq=>have br:=RowF.mono VI.mono bo B; have ag:=RowF.slc bq br; ?_
   obtain ⟨ay,bs,H⟩:=bnd H
   refine Tp z z (SX.two (XA.fr [0] B rfl) (XA.fr [1,1] B rfl)) (O.stXk (k:=4) shrule_24 rfl rfl (j:=1) rfl (Slc.cells ag) (by (simp only [Sl.ones,Slc.one ag,Bool.and_true,Bool.true_and]) <;> rfl) rfl bp ?_) T.tno
   have bt:=RowF.mono VapiTable.mono ae B
   have bu:RowF VapiTable ax (e.set s.toNat (over [.string b.fName,.int .u8 b.fShape,.int .i64 b.fA,.int .i64 b.fB,af,.int .i64 b.fX,.int .i64 b.fY] [Z] 4)) ay:=RowF.set bt (show VapiTable ax (over [.string b.fName,.int .u8 b.fShape,.int .i64 b.fA,.int .i64 b.fB,af,.int .i64 b.fX,.int .i64 b.fY] [Z] 4) (apiTable.mk b.fName b.fShape b.fA b.fB bj b.fX b.fY) from ⟨Z,z,ag⟩) bs
   refine T.tnil (SX.one (XA.fr [1] B z) z)<|Bn<|Th<|Rg ?_
   obtain ⟨bw,bx,H⟩:=bnd H
   refine Vv (V.addS z z bx)<|Mv z<|Nt<|Fr_ 2 z<|T.fl ?_
   refine Fr_ 2 z<|T.fl ?_
   have bA:=((aq.trans ad).trans B)
   exact T.again (bf,ay,bw,(e.set s.toNat (over [.string b.fName,.int .u8 b.fShape,.int .i64 b.fA,.int .i64 b.fB,af,.int .i64 b.fX,.int .i64 b.fY] [Z] 4))) bA (Nat.lt_succ_self _) ⟨(iterK_in H ar),bu⟩ (AllIn.app ⟨z,trivial⟩ ⟨z,z,z,trivial⟩) z
  refine T.exit<|Te<|Te<|have H:=iterK_out H ar; Be<|Th<|T.met (w,e) aq ⟨H,Y⟩ (AllIn.app trivial ⟨z,z,trivial⟩) z
 rintro ⟨S,d⟩ di bB ⟨bC,bD⟩
 have H:=cutE bC bc
 refine T.norm [1,2] z<|Sl_ (blk q (.cells [c,X,n,o,p].toArray 32)::blk r (.cells [.slice none 0 0,.slice none 0 0,.slice none 0 0,.slice none 0 0,.slice none 0 0].toArray 32)::rowR 26 7 c d::L) z<|Sr<|Vv (V.fa fdrule_32_1 z)<|Vv (V.ldO (k:=1) shrule_28 z (j:=0) z z)<|have aA:=(a9.trans bB); have bE:=Slc.mono VapiGuest.mono a4 aA; ?_
 obtain ⟨aB,bG,H⟩:=bnd H
 refine To (O.callS z (sl_CloneGuest_ok bE bG _) z fun f dj dk aC bI=>?_)
 obtain ⟨bJ,bK,aD⟩:=bI
 refine Sl_ _ bK<|Vv (V.fa fdrule_32_1 rfl)<|T.rowOne 0 rfl fun bM bN=>To (O.st (vs:=[f]) (k:=1) shrule_28 rfl rfl (j:=1) rfl bN (by (simp only [Sl.ones,bM,Bool.and_true,Bool.true_and]) <;> rfl) ?_)
 refine T.fl ?_
 refine Nt<|Sq<|Sr<|Vv (V.fa fdrule_32_1 z)<|Vv (V.ldO (k:=1) shrule_28 z (j:=0) z z)<|Vv (V.lenX elrule_28 z (j:=1) z aD.len)<|Mv z<|Nt ?_
 obtain ⟨aE,bO,bP⟩:=bndK H
 refine T.cutK (α:=(List apiGuest)×(List (List Value))) [1,2] z (fun ⟨U,C⟩=>[]) (fun ⟨U,C⟩=>blk q (.cells [c,f,n,o,p].toArray 32)::blk r (.cells [.slice none 0 0,.slice none 0 0,.slice none 0 0,.slice none 0 0,.slice none 0 0].toArray 32)::rowR 26 7 c d::rowR 38 9 f C::L) (fun ⟨U,C⟩ hh=>aE = U∧RowF VapiGuest hh C U) ?_ ?_
 ·have H:=bO
  refine Bl<|Fr_ 1 z<|T.fl ?_
  refine Fr_ 3 z<|T.fl ?_
  refine Fr_ 3 z<|T.fl ?_
  refine Fr_ 3 z<|T.fl ?_
  refine T.loopK (α:=Nat×(List apiGuest)×Int×(List (List Value))) [1,2,34] z (fun ⟨D,y,u,m⟩=>[(35,.int .i64 u)]) (fun ⟨D,y,u,m⟩=>blk q (.cells [c,f,n,o,p].toArray 32)::blk r (.cells [.slice none 0 0,.slice none 0 0,.slice none 0 0,.slice none 0 0,.slice none 0 0].toArray 32)::rowR 26 7 c d::rowR 38 9 f m::L) (fun ⟨D,y,u,m⟩ hh=>iter (rule_copied_l1 aB) D (y,u) = some aE∧RowF VapiGuest hh m y) (fun ⟨D,y,u,m⟩=>D) (FUEL,aB,(0:Int),bJ) ⟨z,trivial⟩ z ⟨H,aD⟩ ?_
  rintro ⟨D,y,u,m⟩ dm aG ⟨bS,aa⟩
  obtain ⟨bU,dn,rfl,H,aI⟩:=iter_go bS
  refine T.norm [35,1,2,34] z<|Sl_ (blk q (.cells [c,f,n,o,p].toArray 32)::blk r (.cells [.slice none 0 0,.slice none 0 0,.slice none 0 0,.slice none 0 0,.slice none 0 0].toArray 32)::rowR 26 7 c d::rowR 38 9 f m::L) z<|Sr<|Vv (V.lt z z)<|Nt<|Sq<|T.cH H z (fun H=>?_) (fun H=>?_)
  ·refine T.skip<|Th<|Sq<|Bl<|Sr<|Mv z<|Ag z<|Nt<|Fr_ 3 z<|T.fl ?_
   refine Fr_ 1 z<|T.fl ?_
   refine T.drawF (t:=(.v 0 (.v 1 (.v 2 (.v 3 (.v 4 (.v 5 (.x 6 (.v 7 (.x 8 (.alt 9 (.g (.alt 10 (.v 11 (.alt 12 .done .no)) .no)) .no))))))))))) 12 2 1 rfl rfl rulemixed (by kernel_rfl) ?_
   refine Tv z (V.fa fdrule_32_1 z)<|Tv z (Val.XA fun _ _ _=>V.ldO (k:=1) shrule_28 z (j:=0) z z)<|Tm z z<|Tv z (V.fa fdrule_32_1 z)<|Tv z (Val.XA fun _ _ _=>V.ldO (k:=1) shrule_28 z (j:=0) z z)<|Tm z z ?_
   obtain ⟨dp,aJ,H⟩:=bnd H
   obtain ⟨dq,bV,⟨dr,rfl,bW⟩⟩:=RowF.get aa aJ
   refine T.tx z z (Val.XA fun _ _ _=>V.ixR elrule_28 z z (j:=1) z (RowF.bd aa aJ)) z Calm.i<|Tv z (V.fa fdrule_38_8 z)<|T.tx z z (Val.XA fun _ _ _=>V.ldXk (k:=8) shrule_22 z (j:=1) z bV z) z Calm.i ?_
   obtain ⟨bX,bY,H⟩:=bnd H
   refine Tp z z (SX.two (XA.fr [0] Lr z) (XA.fr [1,1] Lr z)) (O.callS z (sl_CloneStr_ok bW bY _) z fun ab ds dt ai bZ=>?_) T.tno
   obtain ⟨du,b0,b1⟩:=bZ
   refine Sl_ _ b0<|T.tgrow ai ?_
   obtain ⟨a,aK,H⟩:=bnd H
   have aj:=RowF.mono VapiGuest.mono aa ai
   obtain ⟨dw,b2,⟨ak,rfl,dx⟩⟩:=RowF.get aj aK
   refine Ts z z (SX.two (XA.fr [1] Lr z) (XA.fr [2,2] Lr z)) (V.ixR elrule_28 z z (j:=2) z (RowF.bd aj aK)) z ?_ T.tno
   refine Tv z (V.fa fdrule_38_8 z)<|T.rowFix fun aM E b3=>have b4:=RowF.mono VS.mono b1 E; have am:=RowF.slc b3 b4; ?_
   obtain ⟨aN,b5,H⟩:=bnd H
   refine Tp z z (SX.two (XA.fr [0] E rfl) (XA.fr [1,1] E rfl)) (O.stXk (k:=8) shrule_22 rfl rfl (j:=1) rfl (Slc.cells am) (by (simp only [Sl.ones,Slc.one am,Bool.and_true,Bool.true_and]) <;> rfl) rfl b2 ?_) T.tno
   have b6:=RowF.mono VapiGuest.mono aj E
   have b7:RowF VapiGuest aM (m.set u.toNat (over [.string a.fName,.string a.fRank,.string a.fCourt,.int .i64 a.fSince,.int .i64 a.fSide,.string a.fDiet,.bool a.fHost,.bool a.fAccess,ak] [ab] 8)) aN:=RowF.set b6 (show VapiGuest aM (over [.string a.fName,.string a.fRank,.string a.fCourt,.int .i64 a.fSince,.int .i64 a.fSide,.string a.fDiet,.bool a.fHost,.bool a.fAccess,ak] [ab] 8) (apiGuest.mk a.fName a.fRank a.fCourt a.fSince a.fSide a.fDiet a.fHost a.fAccess bX) from ⟨ab,z,am⟩) b5
   refine T.tnil (SX.one (XA.fr [1] E z) z)<|Bn<|Th<|Rg ?_
   obtain ⟨b8,b9,H⟩:=bnd H
   refine Vv (V.addS z z b9)<|Mv z<|Nt<|Fr_ 3 z<|T.fl ?_
   refine Fr_ 3 z<|T.fl ?_
   refine Fr_ 3 z<|T.fl ?_
   have bh:=((aG.trans ai).trans E)
   exact T.again (bU,aN,b8,(m.set u.toNat (over [.string a.fName,.string a.fRank,.string a.fCourt,.int .i64 a.fSince,.int .i64 a.fSide,.string a.fDiet,.bool a.fHost,.bool a.fAccess,ak] [ab] 8))) bh (Nat.lt_succ_self _) ⟨(iterK_in H aI),b7⟩ (AllIn.app ⟨z,trivial⟩ ⟨z,z,z,trivial⟩) z
  refine T.exit<|Te<|Te<|have H:=iterK_out H aI; Be<|Th<|T.met (y,m) aG ⟨H,aa⟩ (AllIn.app trivial ⟨z,z,trivial⟩) z
 rintro ⟨U,C⟩ dy aO ⟨bl,bv⟩
 have H:=cutE bl bP
 refine T.norm [1,2] rfl<|Sl_ (blk q (.cells [c,f,n,o,p].toArray 32)::blk r (.cells [.slice none 0 0,.slice none 0 0,.slice none 0 0,.slice none 0 0,.slice none 0 0].toArray 32)::rowR 26 7 c d::rowR 38 9 f C::L) rfl<|Sq<|T.drawF (t:=(.v 0 (.x 1 (.v 3 (.x 4 (.v 6 (.x 7 (.alt 2 (.g (.v 9 (.alt 5 (.g (.alt 8 (.g (.alt 10 (.g (.v 11 (.alt 12 (.g (.v 13 (.alt 14 .done .no))) .no))) .no)) .no)) .no))) .no)))))))) 10 1 0 rfl rfl rulemixed (by kernel_rfl) ?_
 refine Tv z (V.fa fdrule_32_2 z)<|T.tx z z (Val.XA fun _ _ _=>V.ldO (k:=2) shrule_29 z (j:=0) z z) z Calm.i<|Tv z (V.fa fdrule_32_3 z)<|T.tx z z (Val.XA fun _ _ _=>V.ldO (k:=3) shrule_24 z (j:=0) z z) z Calm.i<|Tv z (V.fa fdrule_32_4 z)<|T.tx z z (Val.XA fun _ _ _=>V.ldO (k:=4) shrule_30 z (j:=0) z z) z Calm.i<|have aP:=((aA.trans aC).trans aO); have bz:=Slc.mono VapiTie.mono a5 aP; ?_
 obtain ⟨dA,ca,H⟩:=bnd H
 refine Tp z z (SX.two (XA.fr [] Lr z) (XA.fr [0] Lr z)) (O.callS z (sl_CloneTie_ok bz ca _) z fun aS dB dC ac cb=>?_) T.tno
 obtain ⟨dD,cc,cd⟩:=cb
 refine Sl_ _ cc<|T.tgrow ac<|Tv z (V.fa fdrule_32_2 z)<|have aU:=(aP.trans ac); have ce:=Slc.mono VI.mono a6 aU; ?_
 obtain ⟨dE,cf,H⟩:=bnd H
 refine Tp z z (SX.two (XA.fr [] Lr z) (XA.fr [1] Lr z)) (O.callS z (sl_CloneInt_ok ce cf _) z fun aV dG dI W cg=>?_) T.tno
 obtain ⟨dJ,ci,cj⟩:=cg
 refine Sl_ _ ci<|T.tgrow W<|have aW:=(aU.trans W); have ck:=Slc.mono VapiRule.mono a7 aW; ?_
 obtain ⟨dK,cm,H⟩:=bnd H
 refine Tp z z (SX.two (XA.fr [] Lr z) (XA.fr [2] Lr z)) (O.callS z (sl_CloneRule_ok ck cm _) z fun aX dM dN G cn=>?_) T.tno
 obtain ⟨dO,co,cp⟩:=cn
 refine Sl_ _ co<|T.tgrow G<|T.rowOne 2 rfl fun cq cr=>Tp z z (SX.two (XA.fr [] Lr rfl) (XA.fr [3] Lr rfl)) (O.st (vs:=[aS]) (k:=2) shrule_29 rfl rfl (j:=3) rfl cr (by (simp only [Sl.ones,cq,Bool.and_true,Bool.true_and]) <;> rfl) ?_) T.tno
 refine T.fl ?_
 refine T.tgrow Lr<|Tv z (V.fa fdrule_32_3 rfl)<|T.rowOne 2 rfl fun cs ct=>Tp z z (SX.one (XA.fr [] Lr rfl) rfl) (O.st (vs:=[aV]) (k:=3) shrule_24 rfl rfl (j:=0) rfl ct (by (simp only [Sl.ones,cs,Bool.and_true,Bool.true_and]) <;> rfl) ?_) T.tno
 refine T.fl ?_
 refine T.tgrow Lr<|Tv z (V.fa fdrule_32_4 rfl)<|T.rowOne 1 rfl fun cu cw=>Tp z z (SX.one (XA.fr [] Lr rfl) rfl) (O.st (vs:=[aX]) (k:=4) shrule_30 rfl rfl (j:=0) rfl cw (by (simp only [Sl.ones,cu,Bool.and_true,Bool.true_and]) <;> rfl) ?_) T.tno
 refine T.fl ?_
 refine T.tnil (SX.one (XA.fr [] Lr rfl) rfl)<|Th<|Sr<|Vv (V.ldOS (j:=0) (by exact shrule_32) rfl rfl) ?_
 refine Fr_ 5 z<|T.fl ?_
 refine T.rowFix fun dP I cx=>have cy:=(((((aC.trans aO).trans ac).trans W).trans G).trans I); have cA:=RowF.mono VapiTable.mono bD cy; have cB:=RowF.slc cx cA; Fr_ 5 z<|T.fl ?_
 refine T.rowFix fun dS J cC=>have cD:=((((ac.trans W).trans G).trans I).trans J); have cE:=RowF.mono VapiGuest.mono bv cD; have cG:=RowF.slc cC cE; Fr_ 3 z<|T.fl ?_
 refine T.rowFix fun dU K cI=>have cJ:=((((W.trans G).trans I).trans J).trans K); have cK:=RowF.mono VapiTie.mono cd cJ; have cM:=RowF.slc cI cK; Fr_ 2 z<|T.fl ?_
 refine T.rowFix fun dV M cN=>have cO:=((((G.trans I).trans J).trans K).trans M); have cP:=RowF.mono VI.mono cj cO; have cS:=RowF.slc cN cP; Fr_ 1 z<|T.fl ?_
 refine T.rowFix fun dW N cU=>have cV:=((((I.trans J).trans K).trans M).trans N); have cW:=RowF.mono VapiRule.mono cp cV; have aY:=RowF.slc cU cW; have cX:=(((J.trans K).trans M).trans N); have aZ:=Slc.mono VapiTable.mono cB cX; have cY:=((K.trans M).trans N); have a0:=Slc.mono VapiGuest.mono cG cY; have cZ:=(M.trans N); have a1:=Slc.mono VapiTie.mono cM cZ; have a2:=Slc.mono VI.mono cS N; To (O.stF (vs:=[c,f,aS,aV,aX]) shrule_32 rfl rfl (j:=1) rfl rfl (by (simp only [Sl.ones,Slc.one aZ,Slc.one a0,Slc.one a1,Slc.one a2,Slc.one aY,Bool.and_true,Bool.true_and]) <;> rfl) rfl ?_)
 refine T.freeze fun dX P c0=>have c1:=AtC.of c0; Nt<|T.ret<|T.drop<|have c2:=Slc.mono VapiTable.mono aZ P; have c3:=Slc.mono VapiGuest.mono a0 P; have c4:=Slc.mono VapiTie.mono a1 P; have c5:=Slc.mono VI.mono a2 P; have c6:=Slc.mono VapiRule.mono aY P; ?_
 obtain rfl:=Option.some.inj H
 have c7:=(((((((aW.trans G).trans I).trans J).trans K).trans M).trans N).trans P)
 exact T.retL Tryz.results55 (RVs.cons (RV.cellA z c1 shrule_32) RVs.nil) c7 ⟨_,_,_,_,_,z,z,c2,c3,c4,c5,c6⟩
theorem view_both_ok {h:PH} {pv0:Value} {v1:ruleview} (pr0:Pt Vruleview h pv0 v1) {pc1:List Value} {r2:apiRule} (pr1:VapiRule h pc1 r2) {r_0:Int} {r_1:Int} {r_2:Bool} (H:view_both v1 r2 = some (r_0,r_1,r_2)):∀ L,FnS Tryz.prog 144 [pv0,.agg pc1.toArray] h (L) (fun v h' L'=>v = .tuple #[.int .i64 r_0,.int .i64 r_1,.bool r_2]∧L' = L):=by
 intro L
 obtain rfl:=pr1
 refine FnS.enter Tryz.func144 rfl Tryz.ntmps144 rfl<|Sr<|To (O.boxF rfl rfl rfl fun af B j n=>Ag z<|Ag z<|Ag z<|Nt<|Sq<|T.drawF (t:=(.v 0 (.v 1 (.v 2 (.v 3 (.v 4 (.v 5 (.v 6 (.v 7 (.v 8 (.v 10 (.v 11 (.v 12 (.v 13 (.v 14 (.v 15 (.v 16 (.v 17 (.v 18 (.alt 9 (.alt 19 (.alt 20 (.alt 21 .done .no) .no) .no) .no)))))))))))))))))))) 23 0 0 rfl rfl rulemixed (by kernel_rfl) ?_)
 refine Tm z z<|have C:=Pt.mono Vruleview.mono pr0 j; have D:=C; ?_
 obtain ⟨ag,_,rfl,m,⟨ai,aj,ak,rfl,E,G,am⟩⟩:=D
 refine Tv z (V.nck z)<|Tv z (V.fa fdrule_119_0 z)<|Tv z (V.ldf (k:=0) shrule_57 z m z)<|have I:=E; ?_
 obtain ⟨an,_,rfl,o,⟨c,d,e,f,g,ao,ap,aq,ar,au,aw,ax,ay,aA,rfl,p,q,r,s,u,aB,aC,aD,aE,aG,aI,aJ,aK,aM⟩⟩:=I
 refine Tv z (V.nck z)<|Tv z (V.fa fdrule_127_0 z)<|Tv z (V.ldSf (k:=0) shrule_120 z o (Nat.le_of_ble_eq_true z))<|Tv z (V.fa fdrule_41_2 z)<|Tv z (V.ldf (k:=2) shrule_9 z n z)<|Tm z z<|Tv z (V.nck z)<|Tv z (V.fa fdrule_119_0 z)<|Tv z (V.ldf (k:=0) shrule_57 z m z)<|Tv z (V.nck z)<|Tv z (V.fa fdrule_127_0 z)<|Tv z (V.ldSf (k:=0) shrule_120 z o (Nat.le_of_ble_eq_true z))<|Tv z (V.fa fdrule_41_3 z)<|Tv z (V.ldf (k:=3) shrule_9 z n z) ?_
 obtain ⟨aN,J,H⟩:=bnd H
 refine Tp z z (SX.two (XA.fr [] Lr z) (XA.fr [] Lr z)) (O.callS z (rule_who_ok (show VapiProblem B [c,d,e,f,g] v1.fJudge.fgiven from ⟨c,d,e,f,g,z,p,q,r,s,u⟩) J _) z fun aO K aP a M=>?_) T.tno
 obtain ⟨rfl,N⟩:=M
 refine Sl_ _ N<|have P:=Slc.mono VapiTable.mono p a; have S:=Slc.mono VapiGuest.mono q a; have U:=Slc.mono VapiTie.mono r a; have W:=Slc.mono VI.mono s a; have X:=Slc.mono VapiRule.mono u a; ?_
 obtain ⟨aS,Y,H⟩:=bnd H
 refine Tp z z (SX.two (XA.fr [] a z) (XA.fr [] a z)) (O.callS z (rule_who_ok (show VapiProblem K [c,d,e,f,g] v1.fJudge.fgiven from ⟨c,d,e,f,g,z,P,S,U,W,X⟩) Y _) z fun aU aV aW b Z=>?_) T.tno
 obtain ⟨rfl,aa⟩:=Z
 refine Sl_ _ aa<|Ts z z (SX.two (XA.fr [] (a.trans b) z) (XA.fr [] (a.trans b) z)) (V.asg z) z ?_ T.tno
 refine Ts z z (SX.two (XA.fr [] (a.trans b) z) (XA.fr [] (a.trans b) z)) (V.asg z) z ?_ T.tno
 refine T.tnil (SX.two (XA.fr [] (a.trans b) rfl) (XA.fr [] (a.trans b) rfl))<|Th<|Sq<|T.drawF (t:=(.v 0 (.v 1 (.v 2 (.v 3 (.v 4 (.v 5 (.v 6 (.v 7 (.v 8 (.v 9 (.v 10 (.v 11 (.v 12 (.v 13 (.v 14 (.v 15 (.v 16 (.v 17 (.v 18 (.v 19 (.alt 20 (.alt 21 (.alt 22 .done .no) .no) .no)))))))))))))))))))))) 24 0 0 rfl rfl rulemixed (by kernel_rfl) ?_
 refine Tm z z<|Tm z z<|Tm z z<|Tv z (V.nck z)<|Tv z (V.fa fdrule_119_1 z)<|have w:=(a.trans b); have x:=m.mono w; Tv z (V.ldf (k:=1) shrule_24 z x z)<|Tm z z ?_
 obtain ⟨aX,y,H⟩:=bnd H
 have i:=Slc.mono VI.mono G w
 obtain ⟨aY,ab,rfl⟩:=Slc.at i y
 refine Tv z (V.ix elrule_24 z z i (getI_bd y))<|Tv z (V.ld0 shrule_3 z ab z)<|Tv z (V.ge z z)<|Tm z z<|T.bH 39 H z (fun H=>?_) (fun H=>?_)
 ·refine Tm z z<|Tv z (V.nck z)<|Tv z (V.fa fdrule_119_1 z)<|Tv z (V.ldf (k:=1) shrule_24 z x z)<|Tm z z ?_
  obtain ⟨aZ,A,H⟩:=bnd H
  obtain ⟨a0,ac,rfl⟩:=Slc.at i A
  refine Tv z (V.ix elrule_24 z z i (getI_bd A))<|Tv z (V.ld0 shrule_3 z ac z)<|Tv z (V.ge z z)<|Tv z (V.pkT z z)<|Ts z z (SX.two (XA.fr [] Lr z) (XA.fr [] Lr z)) (V.asg z) z ?_ T.tno
  refine Ts z z (SX.two (XA.fr [] Lr z) (XA.fr [] Lr z)) (V.asg z) z ?_ T.tno
  refine Ts z z (SX.two (XA.fr [] Lr z) (XA.fr [] Lr z)) (V.asg z) z ?_ T.tno
  refine T.tnil (SX.two (XA.fr [] Lr z) (XA.fr [] Lr z))<|Th<|T.ret ?_
  obtain ⟨rfl,rfl,rfl⟩:=inj3 H
  have ad:=((j.trans a).trans b)
  exact T.retL Tryz.results144 (RVs.cons (RV.tmp z) (RVs.cons (RV.tmp z) (Rv z))) ad ⟨z,z⟩
 refine Tk z<|Tk z<|Tk z<|Tk z<|Tk z<|Tk z<|Tk z<|Tk z<|Tv z (V.pkF z z)<|Ts z z (SX.two (XA.fr [] Lr z) (XA.fr [] Lr z)) (V.asg z) z ?_ T.tno
 refine Ts z z (SX.two (XA.fr [] Lr z) (XA.fr [] Lr z)) (V.asg z) z ?_ T.tno
 refine Ts z z (SX.two (XA.fr [] Lr z) (XA.fr [] Lr z)) (V.asg z) z ?_ T.tno
 refine T.tnil (SX.two (XA.fr [] Lr z) (XA.fr [] Lr z))<|Th<|T.ret ?_
 obtain ⟨rfl,rfl,rfl⟩:=inj3 H
 have ae:=((j.trans a).trans b)
 exact T.retL Tryz.results144 (RVs.cons (RV.tmp z) (RVs.cons (RV.tmp z) (Rv z))) ae ⟨z,z⟩
theorem view_far_ok {h:PH} {pv0:Value} {v1:ruleview} (pr0:Pt Vruleview h pv0 v1) {a2:Int} {b3:Int} {r_0:Int} {r_1:Bool} (H:view_far v1 a2 b3 = some (r_0,r_1)):∀ L,FnS Tryz.prog 145 [pv0,.int .i64 a2,.int .i64 b3] h (L) (fun v h' L'=>v = .tuple #[.int .i64 r_0,.bool r_1]∧L' = L):=by
 intro L
 refine FnS.enter Tryz.func145 rfl Tryz.ntmps145 rfl<|Sr<|Ag z<|Ag z<|Nt<|Sq<|T.drawF (t:=(.v 0 (.v 1 (.v 2 (.v 3 (.v 4 (.v 5 (.v 6 (.v 7 (.v 8 (.v 9 (.v 10 (.v 11 (.v 12 (.v 13 (.v 14 (.v 15 (.v 16 (.v 17 (.v 18 (.v 19 (.v 20 (.v 21 (.v 22 (.v 23 (.v 24 (.v 25 (.v 26 (.alt 27 (.alt 28 .done .no) .no))))))))))))))))))))))))))))) 30 0 0 rfl rfl rulemixed (by kernel_rfl) ?_
 refine Tm z z<|have g:=pr0; ?_
 obtain ⟨u,_,rfl,b,⟨w,x,y,rfl,i,a,A⟩⟩:=g
 refine Tv z (V.nck z)<|Tv z (V.fa fdrule_119_0 z)<|Tv z (V.ldf (k:=0) shrule_57 z b z)<|have j:=i; ?_
 obtain ⟨B,_,rfl,m,⟨C,D,E,G,I,J,K,M,N,O,P,S,U,W,rfl,X,Y,Z,aa,ab,ac,ad,ae,af,ag,ai,c,aj,ak⟩⟩:=j
 refine Tv z (V.nck z)<|Tv z (V.fa fdrule_127_7 z)<|Tv z (V.ldf (k:=11) shrule_123 z m z)<|Tm z z<|Tv z (V.nck z)<|Tv z (V.fa fdrule_119_1 z)<|Tv z (V.ldf (k:=1) shrule_24 z b z)<|Tm z z ?_
 obtain ⟨am,d,H⟩:=bnd H
 obtain ⟨an,n,rfl⟩:=Slc.at a d
 refine Tv z (V.ix elrule_24 z z a (getI_bd d))<|Tv z (V.ld0 shrule_3 z n z) ?_
 obtain ⟨ao,e,H⟩:=bnd H
 obtain ⟨ap,o,⟨aq,rfl,p⟩⟩:=Slc.at c e
 refine Tv z (V.ix elrule_123 z z c (getI_bd e))<|Tv z (V.ld0 shrule_139 z o z)<|Tm z z<|Tv z (V.nck z)<|Tv z (V.fa fdrule_119_1 z)<|Tv z (V.ldf (k:=1) shrule_24 z b z)<|Tm z z ?_
 obtain ⟨ar,f,H⟩:=bnd H
 obtain ⟨au,q,rfl⟩:=Slc.at a f
 refine Tv z (V.ix elrule_24 z z a (getI_bd f))<|Tv z (V.ld0 shrule_3 z q z) ?_
 obtain ⟨⟨aw,ax⟩,r,H⟩:=bnd H
 obtain ⟨_,s,rfl⟩:=Mp.look (zc:=[.int .i64 (0:Int)]) (agg:=false) Tryz.underlying139 (KeyOK.int Tryz.underlying3) zerule_3 (show (VI .i64) h [.int .i64 (0:Int)] (0:Int) from rfl) p r
 refine Tv z (V.lkF z z s)<|Tm z z<|Tv z (V.ext z z)<|Tv z (V.ext z z)<|Ts z z (SX.two (XA.fr [] Lr z) (XA.fr [] Lr z)) (V.asg z) z ?_ T.tno
 refine Ts z z (SX.two (XA.fr [] Lr z) (XA.fr [] Lr z)) (V.asg z) z ?_ T.tno
 refine T.tnil (SX.two (XA.fr [] Lr z) (XA.fr [] Lr z))<|Th<|Sq<|T.norm [8,9] z<|Rg<|Mv z<|Mv z<|Ag z<|Ag z<|Nt<|T.ret ?_
 obtain ⟨rfl,rfl⟩:=inj2 H
 exact T.retL Tryz.results145 (RVs.cons (RV.tmp z) (Rv z)) Lr ⟨z,z⟩
theorem view_close_ok {h:PH} {pv0:Value} {v1:ruleview} (pr0:Pt Vruleview h pv0 v1) {pv1:Value} {l2:List (List Int)} (pr1:Slc (VSl (VI .i64) 1) 1 h pv1 l2) {a3:Int} {b4:Int} {r_0:Bool} (H:view_close v1 l2 a3 b4 = some r_0):∀ L,FnS Tryz.prog 146 [pv0,pv1,.int .i64 a3,.int .i64 b4] h (L) (fun v h' L'=>v = .bool r_0∧L' = L):=by
 intro L
 refine FnS.enter Tryz.func146 z Tryz.ntmps146 z<|Sr<|Ag z<|Nt<|Sq<|Sr<|Mv z<|Mv z<|have s:=pr0; ?_
 obtain ⟨K,_,rfl,f,⟨M,N,O,rfl,P,d,S⟩⟩:=s
 refine Vv (V.nck z)<|Vv (V.fa fdrule_119_1 z)<|Vv (V.ldf (k:=1) shrule_24 z f z)<|Mv z ?_
 obtain ⟨U,g,H⟩:=bnd H
 obtain ⟨W,t,rfl⟩:=Slc.at d g
 refine Vv (V.ix elrule_24 z z d (getI_bd g))<|Vv (V.ld0 shrule_3 z t z) ?_
 obtain ⟨u,i,H⟩:=bnd H
 obtain ⟨X,w,⟨Y,rfl,j⟩⟩:=Slc.at pr1 i
 refine Vv (V.ix elrule_87 z z pr1 (getI_bd i))<|Vv (V.ld0 shrule_24 z w z)<|Vv (V.lenS elrule_24 z j)<|Mv z<|Nt ?_
 obtain ⟨m,x,n⟩:=bndK H
 refine T.cutK (α:=Unit) [] z (fun _u=>[]) (fun _u=>L) (fun _u hh=>m = (Sum.inl ())) ?_ ?_
 ·have H:=x
  refine Bl<|T.loopK (α:=Nat×Int) [0,3,20,21] z (fun ⟨a,b⟩=>[(22,.int .i64 b)]) (fun ⟨a,b⟩=>L) (fun ⟨a,b⟩ hh=>iter (view_close_l0 v1 b4 u) a b = some m) (fun ⟨a,b⟩=>a) (FUEL,(0:Int)) ⟨z,trivial⟩ z H ?_
  rintro ⟨a,b⟩ Z c y
  obtain ⟨A,aa,rfl,H,e⟩:=iter_go y
  refine T.norm [22,0,3,20,21] z<|Sl_ (L) z<|Sr<|Vv (V.lt z z)<|Nt<|Sq<|T.cH H z (fun H=>?_) (fun H=>?_)
  ·refine T.skip<|Th<|Sq<|Bl<|Sr ?_
   obtain ⟨ab,o,H⟩:=bnd H
   have p:=Slc.mono VI.mono j c
   obtain ⟨ac,B,rfl⟩:=Slc.at p o
   refine Vv (V.ix elrule_24 z z p (getI_bd o))<|Vv (V.ld0 shrule_3 z B z)<|Ag z<|Nt<|Sr<|Mv z<|Mv z<|Vv (V.nck z)<|Vv (V.fa fdrule_119_1 z)<|have C:=f.mono c; Vv (V.ldf (k:=1) shrule_24 z C z)<|Mv z ?_
   obtain ⟨ad,q,H⟩:=bnd H
   have r:=Slc.mono VI.mono d c
   obtain ⟨ae,D,rfl⟩:=Slc.at r q
   refine Vv (V.ix elrule_24 z z r (getI_bd q))<|Vv (V.ld0 shrule_3 z D z)<|Vv (V.eq z z)<|Nt<|T.cH H z (fun H=>?_) (fun H=>?_)
   ·refine Sr<|Ag z<|Nt<|T.ret<|Br<|Tr<|Tr<|have H:=iterK_out H e; Br<|Tr<|have H:=cutE H n; ?_
    obtain rfl:=Option.some.inj H
    exact T.retL Tryz.results146 (Rv z) c ⟨z,z⟩
   refine T.skip<|Bn<|Th<|Rg ?_
   obtain ⟨E,G,H⟩:=bnd H
   refine Vv (V.addS z z G)<|Mv z<|Nt<|T.again (A,E) c (Nat.lt_succ_self _) (iterK_in H e) (AllIn.app ⟨z,trivial⟩ ⟨z,z,z,z,trivial⟩) z
  refine T.exit<|Te<|Te<|have H:=iterK_out H e; Be<|Th<|T.met () c H (AllIn.app trivial trivial) z
 rintro _ af I J
 have H:=cutE J n
 refine T.norm [] z<|Sl_ (L) z<|Sr<|Ag z<|Nt<|T.ret ?_
 obtain rfl:=Option.some.inj H
 exact T.retL Tryz.results146 (Rv z) I ⟨z,z⟩
theorem view_isNear_ok {h:PH} {pv0:Value} {v1:ruleview} (pr0:Pt Vruleview h pv0 v1) {a2:Int} {b3:Int} {r_0:Bool} (H:view_isNear v1 a2 b3 = some r_0):∀ L,FnS Tryz.prog 153 [pv0,.int .i64 a2,.int .i64 b3] h (L) (fun v h' L'=>v = .bool r_0∧L' = L):=by
 intro L
 exact dead H
theorem view_asked_ok {h:PH} {pv0:Value} {v1:ruleview} (pr0:Pt Vruleview h pv0 v1) {pc1:List Value} {r2:apiRule} (pr1:VapiRule h pc1 r2) {s3:Int} {r_0:Bool} (H:view_asked v1 r2 s3 = some r_0):∀ L,FnS Tryz.prog 151 [pv0,.agg pc1.toArray,.int .i64 s3] h (L) (fun v h' L'=>v = .bool r_0∧L' = L):=by
 intro L
 exact dead H
theorem view_apart_ok {h:PH} {σ:Type} {R:σ→PH→List HProp→Prop} {pv0:Value} {v1:ruleview} (pr0:Pt Vruleview h pv0 v1) {pc1:List Value} {r2:apiRule} (pr1:VapiRule h pc1 r2) {pv2:Value} {f3:σ→Int→(List Int)→Option σ} (pr2:CY203 R h pv2 f3) {s0:σ} {La:List HProp} (hRa:R s0 h La) {q_s:σ} (H:view_apart v1 r2 f3 s0 = some q_s):∀ As L,FnS Tryz.prog 87 [pv0,.agg pc1.toArray,pv2] h ((As ++ (La ++ L))) (fun v h' L'=>∃ La',v = .tuple #[]∧L' = (As ++ (La' ++ L))∧R q_s h' La'):=by
 intro As L
 obtain rfl:=pr1
 refine FnS.enter Tryz.func87 rfl Tryz.ntmps87 rfl<|Sr<|To (O.boxF rfl rfl rfl fun aD E g n=>Nt<|Sr<|Mv z<|Vv (V.ldS rfl n (by exact shrule_41)) ?_)
 have i:=Pt.mono Vruleview.mono pr0 g
 obtain ⟨⟨o,p,aE⟩,G,H⟩:=bnd H
 refine To (O.callS z (view_both_ok i (show VapiRule E [.int .u8 r2.fKind,.int .i64 r2.fWeight,.string r2.fA,.string r2.fB,.string r2.fTable,.int .i64 r2.fN] r2 from z) G _) z fun aG aI aJ b I=>?_)
 obtain ⟨rfl,J⟩:=I
 refine Sl_ _ J<|Mv z<|Vv (V.ext z z)<|Vv (V.ext z z)<|Vv (V.ext z z)<|Ag z<|Ag z<|Ag z<|Nt<|Sq<|Sq ?_
 obtain ⟨K,M,N⟩:=bndK H
 refine T.cutK (α:=Bool) [0,2,4,6,7] z (fun a=>[(54,.bool a)]) (fun a=>(As ++ (La ++ L))) (fun a hh=>K = a) ?_ ?_
 ·have H:=M
  refine T.drawF (t:=(.v 0 (.v 1 (.v 2 (.v 3 (.v 4 (.v 5 (.v 6 (.v 7 (.v 8 (.v 9 (.v 10 (.v 11 (.v 12 (.v 13 (.v 14 (.v 15 (.v 16 (.v 17 (.v 18 (.v 19 (.v 20 (.v 21 (.v 22 (.v 23 (.v 24 (.v 25 (.v 26 (.v 27 (.v 28 (.v 29 (.v 30 (.v 31 (.v 32 (.v 33 (.v 34 (.v 35 (.v 36 .done)))))))))))))))))))))))))))))))))))))) 38 0 0 rfl rfl rulemixed (by kernel_rfl) ?_
  refine Tm z z<|Tv z (V.not z)<|Tm z z<|T.bH 20 H z (fun H=>?_) (fun H=>?_)
  ·refine Tk z<|Tk z<|Tk z<|Tk z<|Tk z<|Tk z<|Tk z<|Tk z<|Tk z<|Tk z<|Tk z<|Tk z<|Tk z<|Tk z<|Tk z<|Tk z<|Tk z<|Tk z<|Tk z<|Tk z<|Tk z<|Tk z<|Tk z<|Tk z<|Tk z<|Tk z<|Tk z<|Tk z<|Tk z<|Tk z<|Tk z<|Tk z<|Tk z<|Tv z (V.pkT z z)<|T.tnil (SX.two (XA.fr [] Lr z) (XA.fr [] Lr z))<|Th<|T.met true Lr (sinj H) (AllIn.app ⟨z,trivial⟩ ⟨z,z,z,z,z,trivial⟩) z
  refine Tm z z<|have P:=Pt.mono Vruleview.mono i b; have S:=P; ?_
  obtain ⟨aK,_,rfl,c,⟨aM,aN,aO,rfl,U,d,aP⟩⟩:=S
  refine Tv z (V.nck z)<|Tv z (V.fa fdrule_119_0 z)<|Tv z (V.ldf (k:=0) shrule_57 z c z)<|have W:=U; ?_
  obtain ⟨aS,_,rfl,q,⟨aU,aV,aW,aX,aY,aZ,a0,a1,a2,a3,a4,a5,a6,a7,rfl,a8,a9,ah,al,av,az,f,ba,bb,bc,bd,be,bf,bg⟩⟩:=W
  refine Tv z (V.nck z)<|Tv z (V.fa fdrule_127_2 z)<|Tv z (V.ldf (k:=6) shrule_24 z q z)<|Tm z z<|Tv z (V.nck z)<|Tv z (V.fa fdrule_119_1 z)<|Tv z (V.ldf (k:=1) shrule_24 z c z)<|Tm z z ?_
  obtain ⟨bi,r,H⟩:=bnd H
  obtain ⟨bj,X,rfl⟩:=Slc.at d r
  refine Tv z (V.ix elrule_24 z z d (getI_bd r))<|Tv z (V.ld0 shrule_3 z X z) ?_
  obtain ⟨Y,s,H⟩:=bnd H
  obtain ⟨bk,Z,rfl⟩:=Slc.at f s
  refine Tv z (V.ix elrule_24 z z f (getI_bd s))<|Tv z (V.ld0 shrule_3 z Z z)<|Tm z z<|Tv z (V.nck z)<|Tv z (V.fa fdrule_119_0 z)<|Tv z (V.ldf (k:=0) shrule_57 z c z)<|Tv z (V.nck z)<|Tv z (V.fa fdrule_127_2 z)<|Tv z (V.ldf (k:=6) shrule_24 z q z)<|Tm z z<|Tv z (V.nck z)<|Tv z (V.fa fdrule_119_1 z)<|Tv z (V.ldf (k:=1) shrule_24 z c z)<|Tm z z ?_
  obtain ⟨bm,u,H⟩:=bnd H
  obtain ⟨bn,aa,rfl⟩:=Slc.at d u
  refine Tv z (V.ix elrule_24 z z d (getI_bd u))<|Tv z (V.ld0 shrule_3 z aa z) ?_
  obtain ⟨ab,w,H⟩:=bnd H
  obtain ⟨bo,ac,rfl⟩:=Slc.at f w
  refine Tv z (V.ix elrule_24 z z f (getI_bd w))<|Tv z (V.ld0 shrule_3 z ac z)<|Tv z (V.ne z z)<|Tv z (V.pkF z z)<|T.tnil (SX.two (XA.fr [] Lr z) (XA.fr [] Lr z))<|Th<|T.met (!decide (Y = ab)) Lr (sinj H) (AllIn.app ⟨z,trivial⟩ ⟨z,z,z,z,z,trivial⟩) z
 rintro a bp j ad
 have H:=cutE ad N
 refine T.norm [54,0,2,4,6,7] z<|Sl_ ((As ++ (La ++ L))) z<|T.cH H z (fun H=>?_) (fun H=>?_)
 ·refine T.ret<|Tr<|have x:=((g.trans b).trans j); have ae:=pr2.2.1 _ _ _ _ x hRa; ?_
  obtain rfl:=Option.some.inj H
  exact T.ret0 Tryz.results87 x ⟨La,z,z,ae⟩
 refine T.skip<|Th<|Sr<|Mv z<|Mv z<|Mv z<|have y:=(b.trans j); have af:=Pt.mono Vruleview.mono i y; ?_
 obtain ⟨⟨bq,br⟩,ag,H⟩:=bnd H
 refine To (O.callS z (view_far_ok af ag _) z fun bt ai bu A aj=>?_)
 obtain ⟨rfl,ak⟩:=aj
 refine Sl_ _ ak<|Mv z<|Vv (V.ext z z)<|Vv (V.ext z z)<|Ag z<|Ag z<|Nt<|Sr<|Vv (V.fa fdrule_41_5 z)<|have am:=(y.trans A); have B:=n.mono am; Vv (V.ldf (k:=5) shrule_3 z B z)<|Vv (V.eq z z)<|Mv z<|T.bH 65 H z (fun H=>?_) (fun H=>?_)
 ·exact dead H
 refine Mv z<|Mv z<|T.bH 67 H z (fun H=>?_) (fun H=>?_)
 ·refine Mv z<|Vv (V.fa fdrule_41_5 z)<|Vv (V.ldf (k:=5) shrule_3 z B z)<|Vv (V.lt z z)<|Vv (V.pkT z z)<|Vv (V.pkF z z)<|Nt<|T.cH H z (fun H=>?_) (fun H=>?_)
  ·refine Rg<|Mv z<|Mv z<|Mv z<|To (O.bs elrule_24 zerule_3 z (e:=z) (hk:=z) (xs:=[.tmp 75,.tmp 76]) (hv:=CO.eq (CO.cons z (CO.cons z CO.nil))) (hw:=Wide.of z) (hd:=z) fun bw=>have an:RowF (VI .i64) ai [[.int .i64 o],[.int .i64 p]] ([o,p]:List Int):=(RowF.cons z (RowF.cons z RowF.nil)); T.rowFix fun bx C ao=>have ap:=RowF.mono VI.mono an C; have aq:=RowF.slc ao ap; ?_)
   obtain ⟨bA,ar,H⟩:=bnd H
   have m:=((((g.trans b).trans j).trans A).trans C)
   have au:=CY203.mono pr2 m
   have aw:=pr2.2.1 _ _ _ _ m hRa
   refine To (O.callY z z (CY203.call au aq aw ar As _) z fun bB bC bD ax ay=>?_)
   obtain ⟨D,rfl,aA,aB⟩:=ay
   refine Sl_ ((As ++ (D ++ L))) aA<|Ni ?_
   obtain rfl:=Option.some.inj H
   have aC:=(m.trans ax)
   exact T.end0 Tryz.results87 aC ⟨D,z,z,aB⟩
  exact dead H
 exact dead H
theorem view_sideBySide_ok {h:PH} {σ:Type} {R:σ→PH→List HProp→Prop} {pv0:Value} {v1:ruleview} (pr0:Pt Vruleview h pv0 v1) {pc1:List Value} {r2:apiRule} (pr1:VapiRule h pc1 r2) {pv2:Value} {f3:σ→Int→(List Int)→Option σ} (pr2:CY203 R h pv2 f3) {s0:σ} {La:List HProp} (hRa:R s0 h La) {q_s:σ} (H:view_sideBySide v1 r2 f3 s0 = some q_s):∀ As L,FnS Tryz.prog 88 [pv0,.agg pc1.toArray,pv2] h ((As ++ (La ++ L))) (fun v h' L'=>∃ La',v = .tuple #[]∧L' = (As ++ (La' ++ L))∧R q_s h' La'):=by
 intro As L
 exact dead H
theorem view_faceToFace_ok {h:PH} {σ:Type} {R:σ→PH→List HProp→Prop} {pv0:Value} {v1:ruleview} (pr0:Pt Vruleview h pv0 v1) {pc1:List Value} {r2:apiRule} (pr1:VapiRule h pc1 r2) {pv2:Value} {f3:σ→Int→(List Int)→Option σ} (pr2:CY203 R h pv2 f3) {s0:σ} {La:List HProp} (hRa:R s0 h La) {q_s:σ} (H:view_faceToFace v1 r2 f3 s0 = some q_s):∀ As L,FnS Tryz.prog 89 [pv0,.agg pc1.toArray,pv2] h ((As ++ (La ++ L))) (fun v h' L'=>∃ La',v = .tuple #[]∧L' = (As ++ (La' ++ L))∧R q_s h' La'):=by
 intro As L
 obtain rfl:=pr1
 refine FnS.enter Tryz.func89 rfl Tryz.ntmps89 rfl<|Sr<|To (O.boxF rfl rfl rfl fun aU P a S=>Nt<|Sr<|Mv z<|Vv (V.ldS rfl S (by exact shrule_41)) ?_)
 have d:=Pt.mono Vruleview.mono pr0 a
 obtain ⟨⟨f,g,aV⟩,U,H⟩:=bnd H
 refine To (O.callS z (view_both_ok d (show VapiRule P [.int .u8 r2.fKind,.int .i64 r2.fWeight,.string r2.fA,.string r2.fB,.string r2.fTable,.int .i64 r2.fN] r2 from z) U _) z fun aW i aX b W=>?_)
 obtain ⟨rfl,X⟩:=W
 refine Sl_ _ X<|Mv z<|Vv (V.ext z z)<|Vv (V.ext z z)<|Vv (V.ext z z)<|Ag z<|Ag z<|Ag z<|Nt<|Sr<|Mv z<|Mv z<|T.bH 17 H z (fun H=>?_) (fun H=>?_)
 ·refine Mv z<|Mv z<|have Y:=Pt.mono Vruleview.mono d b; have Z:=Y; ?_
  obtain ⟨aY,_,rfl,j,⟨aZ,m,n,rfl,aa,ab,ac⟩⟩:=Z
  refine Vv (V.nck z)<|Vv (V.fa fdrule_119_0 z)<|Vv (V.ldf (k:=0) shrule_57 z j z)<|have ad:=aa; ?_
  obtain ⟨o,_,rfl,p,⟨q,r,s,t,u,w,x,y,A,B,C,D,E,G,rfl,ae,af,ag,ai,aj,ak,am,an,ao,ap,I,aq,ar,au⟩⟩:=ad
  refine Vv (V.nck z)<|Vv (V.fa fdrule_127_6 z)<|Vv (V.ldf (k:=10) shrule_87 z p z)<|Mv z<|Mv z ?_
  obtain ⟨a0,aw,H⟩:=bnd H
  refine To (O.callS z (view_close_ok (Pt.mk j (show Vruleview i [.pointer (some o),m,n] v1 from ⟨(.pointer (some o)),m,n,z,(Pt.mk p (show VruleJudge i [q,r,s,t,u,w,x,y,A,B,C,D,E,G] v1.fJudge from ⟨q,r,s,t,u,w,x,y,A,B,C,D,E,G,z,ae,af,ag,ai,aj,ak,am,an,ao,ap,I,aq,ar,au⟩)),ab,ac⟩)) I aw _) z fun a1 ax a2 J ay=>?_)
  obtain ⟨rfl,aA⟩:=ay
  refine Sl_ _ aA<|Vv (V.not z)<|Vv (V.pkT z z)<|Nt<|T.cH H z (fun H=>?_) (fun H=>?_)
  ·refine Rg<|Mv z<|Mv z<|Mv z<|To (O.bs elrule_24 zerule_3 z (e:=z) (hk:=z) (xs:=[.tmp 32,.tmp 33]) (hv:=CO.eq (CO.cons z (CO.cons z CO.nil))) (hw:=Wide.of z) (hd:=z) fun a3=>have aB:RowF (VI .i64) ax [[.int .i64 f],[.int .i64 g]] ([f,g]:List Int):=(RowF.cons z (RowF.cons z RowF.nil)); T.rowFix fun a4 K aC=>have aD:=RowF.mono VI.mono aB K; have aE:=RowF.slc aC aD; ?_)
   obtain ⟨a5,aG,H⟩:=bnd H
   have c:=(((a.trans b).trans J).trans K)
   have aI:=CY203.mono pr2 c
   have aJ:=pr2.2.1 _ _ _ _ c hRa
   refine To (O.callY z z (CY203.call aI aE aJ aG As _) z fun a6 a7 a8 aK aM=>?_)
   obtain ⟨M,rfl,aN,aO⟩:=aM
   refine Sl_ ((As ++ (M ++ L))) aN<|Ni ?_
   obtain rfl:=Option.some.inj H
   have aP:=(c.trans aK)
   exact T.end0 Tryz.results89 aP ⟨M,z,z,aO⟩
  refine T.skip<|have N:=((a.trans b).trans J); have aS:=pr2.2.1 _ _ _ _ N hRa; ?_
  obtain rfl:=Option.some.inj H
  exact T.end0 Tryz.results89 N ⟨La,z,z,aS⟩
 exact dead H
theorem view_within_ok {h:PH} {σ:Type} {R:σ→PH→List HProp→Prop} {pv0:Value} {v1:ruleview} (pr0:Pt Vruleview h pv0 v1) {pc1:List Value} {r2:apiRule} (pr1:VapiRule h pc1 r2) {pv2:Value} {f3:σ→Int→(List Int)→Option σ} (pr2:CY203 R h pv2 f3) {s0:σ} {La:List HProp} (hRa:R s0 h La) {q_s:σ} (H:view_within v1 r2 f3 s0 = some q_s):∀ As L,FnS Tryz.prog 90 [pv0,.agg pc1.toArray,pv2] h ((As ++ (La ++ L))) (fun v h' L'=>∃ La',v = .tuple #[]∧L' = (As ++ (La' ++ L))∧R q_s h' La'):=by
 intro As L
 exact dead H
theorem view_together_ok {h:PH} {σ:Type} {R:σ→PH→List HProp→Prop} {pv0:Value} {v1:ruleview} (pr0:Pt Vruleview h pv0 v1) {pc1:List Value} {r2:apiRule} (pr1:VapiRule h pc1 r2) {pv2:Value} {f3:σ→Int→(List Int)→Option σ} (pr2:CY203 R h pv2 f3) {s0:σ} {La:List HProp} (hRa:R s0 h La) {q_s:σ} (H:view_together v1 r2 f3 s0 = some q_s):∀ As L,FnS Tryz.prog 91 [pv0,.agg pc1.toArray,pv2] h ((As ++ (La ++ L))) (fun v h' L'=>∃ La',v = .tuple #[]∧L' = (As ++ (La' ++ L))∧R q_s h' La'):=by
 intro As L
 exact dead H
theorem view_at_ok {h:PH} {σ:Type} {R:σ→PH→List HProp→Prop} {pv0:Value} {v1:ruleview} (pr0:Pt Vruleview h pv0 v1) {pc1:List Value} {r2:apiRule} (pr1:VapiRule h pc1 r2) {pv2:Value} {f3:σ→Int→(List Int)→Option σ} (pr2:CY203 R h pv2 f3) {s0:σ} {La:List HProp} (hRa:R s0 h La) {q_s:σ} (H:view_at v1 r2 f3 s0 = some q_s):∀ As L,FnS Tryz.prog 92 [pv0,.agg pc1.toArray,pv2] h ((As ++ (La ++ L))) (fun v h' L'=>∃ La',v = .tuple #[]∧L' = (As ++ (La' ++ L))∧R q_s h' La'):=by
 intro As L
 exact dead H
theorem view_seat_ok {h:PH} {σ:Type} {R:σ→PH→List HProp→Prop} {pv0:Value} {v1:ruleview} (pr0:Pt Vruleview h pv0 v1) {pc1:List Value} {r2:apiRule} (pr1:VapiRule h pc1 r2) {pv2:Value} {f3:σ→Int→(List Int)→Option σ} (pr2:CY203 R h pv2 f3) {s0:σ} {La:List HProp} (hRa:R s0 h La) {q_s:σ} (H:view_seat v1 r2 f3 s0 = some q_s):∀ As L,FnS Tryz.prog 93 [pv0,.agg pc1.toArray,pv2] h ((As ++ (La ++ L))) (fun v h' L'=>∃ La',v = .tuple #[]∧L' = (As ++ (La' ++ L))∧R q_s h' La'):=by
 intro As L
 exact dead H
theorem view_reach_ok {h:PH} {σ:Type} {R:σ→PH→List HProp→Prop} {pv0:Value} {v1:ruleview} (pr0:Pt Vruleview h pv0 v1) {pc1:List Value} {r2:apiRule} (pr1:VapiRule h pc1 r2) {pv2:Value} {f3:σ→Int→(List Int)→Option σ} (pr2:CY203 R h pv2 f3) {s0:σ} {La:List HProp} (hRa:R s0 h La) {q_s:σ} (H:view_reach v1 r2 f3 s0 = some q_s):∀ As L,FnS Tryz.prog 96 [pv0,.agg pc1.toArray,pv2] h ((As ++ (La ++ L))) (fun v h' L'=>∃ La',v = .tuple #[]∧L' = (As ++ (La' ++ L))∧R q_s h' La'):=by
 intro As L
 exact dead H
theorem view_speak_ok {h:PH} {σ:Type} {R:σ→PH→List HProp→Prop} {pv0:Value} {v1:ruleview} (pr0:Pt Vruleview h pv0 v1) {pc1:List Value} {r2:apiRule} (pr1:VapiRule h pc1 r2) {pv2:Value} {f3:σ→Int→(List Int)→Option σ} (pr2:CY203 R h pv2 f3) {s0:σ} {La:List HProp} (hRa:R s0 h La) {q_s:σ} (H:view_speak v1 r2 f3 s0 = some q_s):∀ As L,FnS Tryz.prog 97 [pv0,.agg pc1.toArray,pv2] h ((As ++ (La ++ L))) (fun v h' L'=>∃ La',v = .tuple #[]∧L' = (As ++ (La' ++ L))∧R q_s h' La'):=by
 intro As L
 exact dead H
theorem view_company_ok {h:PH} {σ:Type} {R:σ→PH→List HProp→Prop} {pv0:Value} {v1:ruleview} (pr0:Pt Vruleview h pv0 v1) {pc1:List Value} {r2:apiRule} (pr1:VapiRule h pc1 r2) {pv2:Value} {f3:σ→Int→(List Int)→Option σ} (pr2:CY203 R h pv2 f3) {s0:σ} {La:List HProp} (hRa:R s0 h La) {q_s:σ} (H:view_company v1 r2 f3 s0 = some q_s):∀ As L,FnS Tryz.prog 99 [pv0,.agg pc1.toArray,pv2] h ((As ++ (La ++ L))) (fun v h' L'=>∃ La',v = .tuple #[]∧L' = (As ++ (La' ++ L))∧R q_s h' La'):=by
 intro As L
 exact dead H
theorem view_kitchen_ok {h:PH} {σ:Type} {R:σ→PH→List HProp→Prop} {pv0:Value} {v1:ruleview} (pr0:Pt Vruleview h pv0 v1) {pc1:List Value} {r2:apiRule} (pr1:VapiRule h pc1 r2) {pv2:Value} {f3:σ→Int→(List Int)→Option σ} (pr2:CY203 R h pv2 f3) {s0:σ} {La:List HProp} (hRa:R s0 h La) {q_s:σ} (H:view_kitchen v1 r2 f3 s0 = some q_s):∀ As L,FnS Tryz.prog 103 [pv0,.agg pc1.toArray,pv2] h ((As ++ (La ++ L))) (fun v h' L'=>∃ La',v = .tuple #[]∧L' = (As ++ (La' ++ L))∧R q_s h' La'):=by
 intro As L
 exact dead H
theorem view_pairs_ok {h:PH} {σ:Type} {R:σ→PH→List HProp→Prop} {pv0:Value} {v1:ruleview} (pr0:Pt Vruleview h pv0 v1) {pc1:List Value} {r2:apiRule} (pr1:VapiRule h pc1 r2) {pv2:Value} {so3:Int→Int→Option Bool} (pr2:CF223 h pv2 so3) {pv3:Value} {f4:σ→Int→(List Int)→Option σ} (pr3:CY203 R h pv3 f4) {s0:σ} {La:List HProp} (hRa:R s0 h La) {q_s:σ} (H:view_pairs v1 r2 so3 f4 s0 = some q_s):∀ As L,FnS Tryz.prog 147 [pv0,.agg pc1.toArray,pv2,pv3] h ((As ++ (La ++ L))) (fun v h' L'=>∃ La',v = .tuple #[]∧L' = (As ++ (La' ++ L))∧R q_s h' La'):=by
 intro As L
 exact dead H
theorem view_each_ok {h:PH} {σ:Type} {R:σ→PH→List HProp→Prop} {pv0:Value} {v1:ruleview} (pr0:Pt Vruleview h pv0 v1) {pc1:List Value} {r2:apiRule} (pr1:VapiRule h pc1 r2) {pv2:Value} {do3:σ→(List Int)→Option σ} (pr2:CY225 R h pv2 do3) {s0:σ} {La:List HProp} (hRa:R s0 h La) {q_s:σ} (H:view_each v1 r2 do3 s0 = some q_s):∀ As L,FnS Tryz.prog 149 [pv0,.agg pc1.toArray,pv2] h ((As ++ (La ++ L))) (fun v h' L'=>∃ La',v = .tuple #[]∧L' = (As ++ (La' ++ L))∧R q_s h' La'):=by
 intro As L
 obtain rfl:=pr1
 refine FnS.enter Tryz.func149 z Tryz.ntmps149 z<|Sr<|To (O.boxF z z z fun aI aJ m C=>Nt<|Sr<|Mv z<|have D:=Pt.mono Vruleview.mono pr0 m; have E:=D; ?_)
 obtain ⟨aK,_,rfl,r,⟨aM,aN,aO,rfl,G,I,aP⟩⟩:=E
 refine Vv (V.nck z)<|Vv (V.fa fdrule_119_0 z)<|Vv (V.ldf (k:=0) shrule_57 z r z)<|have J:=G; ?_
 obtain ⟨aS,_,rfl,K,⟨aU,aV,aW,aX,aY,aZ,a0,a1,a2,a3,a4,a5,a6,a7,rfl,s,a8,a9,ah,al,av,az,ba,bb,bc,bd,be,bf,bg⟩⟩:=J
 refine Vv (V.nck z)<|Vv (V.fa fdrule_127_0 z)<|Vv (V.fa fdrule_120_0 z)<|Vv (V.ldf (k:=0) shrule_27 z K z)<|Vv (V.lenS elrule_27 z s)<|Mv z<|Nt<|T.asThen ?_
 obtain ⟨t,M,N⟩:=bndK H
 refine T.cutK (α:=σ×(List HProp)) [] z (fun ⟨i,b⟩=>[]) (fun ⟨i,b⟩=>(As ++ (b ++ L))) (fun ⟨i,b⟩ hh=>t = i∧R i hh b) ?_ ?_
 ·have H:=M
  refine Bl<|have P:=pr2.2.1 _ _ _ _ m hRa; T.loopK (α:=Nat×σ×Int×(List HProp)) [0,2,4,18,19] z (fun ⟨d,c,e,a⟩=>[(20,.int .i64 e)]) (fun ⟨d,c,e,a⟩=>(As ++ (a ++ L))) (fun ⟨d,c,e,a⟩ hh=>iter (view_each_l0 v1 r2 do3) d (c,e) = some t∧R c hh a) (fun ⟨d,c,e,a⟩=>d) (FUEL,s0,(0:Int),La) ⟨z,trivial⟩ z ⟨H,P⟩ ?_
  rintro ⟨d,c,e,a⟩ bi n ⟨S,u⟩
  obtain ⟨U,bj,rfl,H,w⟩:=iter_go S
  refine T.norm [20,0,2,4,18,19] z<|Sl_ ((As ++ (a ++ L))) z<|Sr<|Vv (V.lt z z)<|Nt<|Sq<|T.cH H z (fun H=>?_) (fun H=>?_)
  ·refine T.skip<|Th<|Sq<|Bl<|Sr<|Mv z ?_
   obtain ⟨f,x,H⟩:=bnd H
   have y:=Slc.mono VapiTable.mono s n
   obtain ⟨bk,W,⟨X,rfl,Y⟩⟩:=Slc.at y x
   refine Vv (V.ix elrule_27 rfl rfl y (getI_bd x))<|Vv (V.ldS rfl W (by exact shrule_26)) ?_
   refine To (O.alloc zerule_26 rfl rfl fun bm=>Ag z<|To (O.stF (vs:=[.string f.fName,.int .u8 f.fShape,.int .i64 f.fA,.int .i64 f.fB,X,.int .i64 f.fX,.int .i64 f.fY]) shrule_26 rfl rfl (j:=0) rfl rfl (by (simp only [Sl.ones,Slc.one Y,Bool.and_true,Bool.true_and]) <;> rfl) rfl ?_))
   refine T.freeze fun bn p Z=>have bo:=AtC.of Z; Nt<|Sq<|Sr<|Vv (V.fa fdrule_41_4 z)<|have o:=(n.trans p); have aa:=C.mono o; Vv (V.ldf (k:=4) shrule_9 z aa z)<|Vv (V.sne z z)<|Mv z<|T.bH 28 H z (fun H=>?_) (fun H=>?_)
   ·exact dead H
   refine Sk<|Sk<|Sk<|Sk<|Sk<|Vv (V.pkF z z)<|Nt<|Cf z<|T.skip<|Th<|Sr<|Ag z<|Nt<|Sq<|Sr<|Mv z<|Vv (V.nck z)<|Vv (V.fa fdrule_119_1 z)<|have ab:=r.mono o; Vv (V.ldf (k:=1) shrule_24 z ab z)<|have ac:=Slc.mono VI.mono I o; Vv (V.lenS elrule_24 z ac)<|Mv z<|Nt ?_
   obtain ⟨A,ad,ae⟩:=bndK H
   refine T.cutK (α:=Unit) [0,2,4,8,18,19,20] z (fun _u=>[]) (fun _u=>(As ++ (a ++ L))) (fun _u hh=>A = ()) ?_ ?_
   ·have H:=ad
    refine Bl<|T.loopK (α:=Nat) [0,2,4,8,18,19,20,39,40] z (fun g=>[]) (fun g=>(As ++ (a ++ L))) (fun g hh=>iter (view_each_l1 v1) g () = some A) (fun g=>g) FUEL trivial z H ?_
    rintro g bp af ag
    obtain ⟨bq,br,rfl,H,ai⟩:=iter_go ag
    refine T.norm [0,2,4,8,18,19,20,39,40] z<|Sl_ ((As ++ (a ++ L))) z<|Sr<|Vv (V.lt z z)<|Nt<|Sq<|T.cH H z (fun H=>?_) (fun H=>?_)
    ·exact dead H
    refine T.exit<|Te<|Te<|have H:=iterK_out H ai; Be<|Th<|T.met () af H (AllIn.app trivial ⟨z,z,z,z,z,z,z,trivial⟩) z
   rintro _ bs q aj
   have H:=cutE aj ae
   refine T.norm [0,2,4,8,18,19,20] z<|Sl_ ((As ++ (a ++ L))) z<|Rg<|Mv z<|Mv z ?_
   obtain ⟨ak,am,H⟩:=bnd H
   have an:=(((m.trans n).trans p).trans q)
   have ao:=CY225.mono pr2 an
   have ap:=(p.trans q)
   have aq:=pr2.2.1 _ _ _ _ ap u
   refine To (O.callY z z (CY225.call ao Slc.nil aq am As _) z fun bt bu bw ar au=>?_)
   obtain ⟨B,rfl,aw,ax⟩:=au
   refine Sl_ ((As ++ (B ++ L))) aw<|Ni<|Bn<|Th<|Rg ?_
   obtain ⟨ay,aA,H⟩:=bnd H
   refine Vv (V.addS z z aA)<|Mv z<|Nt<|have aB:=((o.trans q).trans ar); T.again (U,ak,ay,B) aB (Nat.lt_succ_self _) ⟨(iterK_in H w),ax⟩ (AllIn.app ⟨z,trivial⟩ ⟨z,z,z,z,z,trivial⟩) z
  refine T.exit<|Te<|Te<|have H:=iterK_out H w; Be<|Th<|T.met (c,a) n ⟨H,u⟩ (AllIn.app trivial trivial) z
 rintro ⟨i,b⟩ bx aC ⟨aD,aE⟩
 have H:=cutE aD N
 refine T.norm [] z<|Sl_ ((As ++ (b ++ L))) z ?_
 obtain rfl:=Option.some.inj H
 have aG:=(m.trans aC)
 exact T.end0 Tryz.results149 aG ⟨b,z,z,aE⟩
theorem view_alternate_1_ok {h:PH} {a1:Int} {b2:Int} {pp2:Addr} {pc2:List Value} {t3:ruleview} (pa2:AtC h pp2 pc2) (pr2:(VPt Vruleview) h pc2 t3) {r_0:Bool} (H:view_alternate_1 a1 b2 t3 = some r_0):∀ L,FnS Tryz.prog 148 [.int .i64 a1,.int .i64 b2,.pointer (some pp2)] h (L) (fun v h' L'=>v = .bool r_0∧L' = L):=by
 intro L
 exact dead H
theorem view_alternate_ok {h:PH} {σ:Type} {R:σ→PH→List HProp→Prop} {pv0:Value} {v1:ruleview} (pr0:Pt Vruleview h pv0 v1) {pc1:List Value} {r2:apiRule} (pr1:VapiRule h pc1 r2) {pv2:Value} {f3:σ→Int→(List Int)→Option σ} (pr2:CY203 R h pv2 f3) {s0:σ} {La:List HProp} (hRa:R s0 h La) {q_s:σ} (H:view_alternate v1 r2 f3 s0 = some q_s):∀ As L,FnS Tryz.prog 94 [pv0,.agg pc1.toArray,pv2] h ((As ++ (La ++ L))) (fun v h' L'=>∃ La',v = .tuple #[]∧L' = (As ++ (La' ++ L))∧R q_s h' La'):=by
 intro As L
 exact dead H
theorem view_mix_1_ok {h:PH} {a1:Int} {b2:Int} {pp2:Addr} {pc2:List Value} {t3:ruleview} (pa2:AtC h pp2 pc2) (pr2:(VPt Vruleview) h pc2 t3) {r_0:Bool} (H:view_mix_1 a1 b2 t3 = some r_0):∀ L,FnS Tryz.prog 157 [.int .i64 a1,.int .i64 b2,.pointer (some pp2)] h (L) (fun v h' L'=>v = .bool r_0∧L' = L):=by
 intro L
 exact dead H
theorem view_mix_ok {h:PH} {σ:Type} {R:σ→PH→List HProp→Prop} {pv0:Value} {v1:ruleview} (pr0:Pt Vruleview h pv0 v1) {pc1:List Value} {r2:apiRule} (pr1:VapiRule h pc1 r2) {pv2:Value} {f3:σ→Int→(List Int)→Option σ} (pr2:CY203 R h pv2 f3) {s0:σ} {La:List HProp} (hRa:R s0 h La) {q_s:σ} (H:view_mix v1 r2 f3 s0 = some q_s):∀ As L,FnS Tryz.prog 104 [pv0,.agg pc1.toArray,pv2] h ((As ++ (La ++ L))) (fun v h' L'=>∃ La',v = .tuple #[]∧L' = (As ++ (La' ++ L))∧R q_s h' La'):=by
 intro As L
 exact dead H
theorem view_peace_1_ok {h:PH} {a1:Int} {b2:Int} {pp2:Addr} {pc2:List Value} {t3:ruleview} (pa2:AtC h pp2 pc2) (pr2:(VPt Vruleview) h pc2 t3) {r_0:Bool} (H:view_peace_1 a1 b2 t3 = some r_0):∀ L,FnS Tryz.prog 152 [.int .i64 a1,.int .i64 b2,.pointer (some pp2)] h (L) (fun v h' L'=>v = .bool r_0∧L' = L):=by
 intro L
 exact dead H
theorem view_peace_ok {h:PH} {σ:Type} {R:σ→PH→List HProp→Prop} {pv0:Value} {v1:ruleview} (pr0:Pt Vruleview h pv0 v1) {pc1:List Value} {r2:apiRule} (pr1:VapiRule h pc1 r2) {pv2:Value} {f3:σ→Int→(List Int)→Option σ} (pr2:CY203 R h pv2 f3) {s0:σ} {La:List HProp} (hRa:R s0 h La) {q_s:σ} (H:view_peace v1 r2 f3 s0 = some q_s):∀ As L,FnS Tryz.prog 98 [pv0,.agg pc1.toArray,pv2] h ((As ++ (La ++ L))) (fun v h' L'=>∃ La',v = .tuple #[]∧L' = (As ++ (La' ++ L))∧R q_s h' La'):=by
 intro As L
 exact dead H
theorem view_honour_1_ok {h:PH} {a1:Int} {b2:Int} {pp2:Addr} {pc2:List Value} {t3:ruleview} (pa2:AtC h pp2 pc2) (pr2:(VPt Vruleview) h pc2 t3) {r_0:Bool} (H:view_honour_1 a1 b2 t3 = some r_0):∀ L,FnS Tryz.prog 154 [.int .i64 a1,.int .i64 b2,.pointer (some pp2)] h (L) (fun v h' L'=>v = .bool r_0∧L' = L):=by
 intro L
 exact dead H
theorem view_honour_ok {h:PH} {σ:Type} {R:σ→PH→List HProp→Prop} {pv0:Value} {v1:ruleview} (pr0:Pt Vruleview h pv0 v1) {pc1:List Value} {r2:apiRule} (pr1:VapiRule h pc1 r2) {pv2:Value} {f3:σ→Int→(List Int)→Option σ} (pr2:CY203 R h pv2 f3) {s0:σ} {La:List HProp} (hRa:R s0 h La) {q_s:σ} (H:view_honour v1 r2 f3 s0 = some q_s):∀ As L,FnS Tryz.prog 100 [pv0,.agg pc1.toArray,pv2] h ((As ++ (La ++ L))) (fun v h' L'=>∃ La',v = .tuple #[]∧L' = (As ++ (La' ++ L))∧R q_s h' La'):=by
 intro As L
 exact dead H
theorem view_host_1_ok {h:PH} {σ:Type} {R:σ→PH→List HProp→Prop} {pv0:Value} {l1:List Int} (pr0:Slc (VI .i64) 1 h pv0 l1) {pp1:Addr} {pc1:List Value} {t2:ruleview} (pa1:AtC h pp1 pc1) (pr1:(VPt Vruleview) h pc1 t2) {pp2:Addr} {pv2:Value} {t5:σ→Int→(List Int)→Option σ} (pa2:AtC h pp2 [pv2]) (pr2:CY203 R h pv2 t5) {s0:σ} {La:List HProp} (hRa:R s0 h La) {q_s:σ} (H:view_host_1 l1 t2 t5 s0 = some q_s):∀ As L,FnS Tryz.prog 150 [pv0,.pointer (some pp1),.pointer (some pp2)] h ((As ++ (La ++ L))) (fun v h' L'=>∃ La',v = .tuple #[]∧L' = (As ++ (La' ++ L))∧R q_s h' La'):=by
 intro As L
 exact dead H
theorem view_host_ok {h:PH} {σ:Type} {R:σ→PH→List HProp→Prop} {pv0:Value} {v1:ruleview} (pr0:Pt Vruleview h pv0 v1) {pc1:List Value} {r2:apiRule} (pr1:VapiRule h pc1 r2) {pv2:Value} {f3:σ→Int→(List Int)→Option σ} (pr2:CY203 R h pv2 f3) {s0:σ} {La:List HProp} (hRa:R s0 h La) {q_s:σ} (H:view_host v1 r2 f3 s0 = some q_s):∀ As L,FnS Tryz.prog 95 [pv0,.agg pc1.toArray,pv2] h ((As ++ (La ++ L))) (fun v h' L'=>∃ La',v = .tuple #[]∧L' = (As ++ (La' ++ L))∧R q_s h' La'):=by
 intro As L
 exact dead H
theorem view_fill_1_ok {h:PH} {σ:Type} {R:σ→PH→List HProp→Prop} {pv0:Value} {l1:List Int} (pr0:Slc (VI .i64) 1 h pv0 l1) {pp1:Addr} {pc1:List Value} {t2:apiRule} (pa1:AtC h pp1 pc1) (pr1:VapiRule h pc1 t2) {pp2:Addr} {pv2:Value} {t3:σ→Int→(List Int)→Option σ} (pa2:AtC h pp2 [pv2]) (pr2:CY203 R h pv2 t3) {s0:σ} {La:List HProp} (hRa:R s0 h La) {q_s:σ} (H:view_fill_1 l1 t2 t3 s0 = some q_s):∀ As L,FnS Tryz.prog 155 [pv0,.pointer (some pp1),.pointer (some pp2)] h ((As ++ (La ++ L))) (fun v h' L'=>∃ La',v = .tuple #[]∧L' = (As ++ (La' ++ L))∧R q_s h' La'):=by
 intro As L
 obtain rfl:=pr1
 refine FnS.enter Tryz.func155 z Tryz.ntmps155 z<|Sr<|Mv z<|Vv (V.lenS elrule_24 z pr0)<|Vv (V.fa fdrule_41_5 z)<|Vv (V.ldf (k:=5) shrule_3 z pa1 z)<|Vv (V.lt z z)<|Nt<|T.cH H z (fun H=>?_) (fun H=>?_)
 ·refine Rg<|Vv (V.ld0 shrule_218 z pa2 z)<|Vv (V.fa fdrule_41_5 z)<|Vv (V.ldf (k:=5) shrule_3 z pa1 z)<|Mv z<|Vv (V.lenS elrule_24 z pr0) ?_
  obtain ⟨i,b,H⟩:=bnd H
  refine Vv (V.subS z z b)<|Mv z ?_
  obtain ⟨j,c,H⟩:=bnd H
  refine To (O.callY z z (CY203.call pr2 pr0 hRa c As _) z fun m n o d e=>?_)
  obtain ⟨a,rfl,f,g⟩:=e
  refine Sl_ ((As ++ (a ++ L))) f<|Ni ?_
  obtain rfl:=Option.some.inj H
  exact T.end0 Tryz.results155 d ⟨a,z,z,g⟩
 exact dead H
theorem view_fill_ok {h:PH} {σ:Type} {R:σ→PH→List HProp→Prop} {pv0:Value} {v1:ruleview} (pr0:Pt Vruleview h pv0 v1) {pc1:List Value} {r2:apiRule} (pr1:VapiRule h pc1 r2) {pv2:Value} {f3:σ→Int→(List Int)→Option σ} (pr2:CY203 R h pv2 f3) {s0:σ} {La:List HProp} (hRa:R s0 h La) {q_s:σ} (H:view_fill v1 r2 f3 s0 = some q_s):∀ As L,FnS Tryz.prog 101 [pv0,.agg pc1.toArray,pv2] h ((As ++ (La ++ L))) (fun v h' L'=>∃ La',v = .tuple #[]∧L' = (As ++ (La' ++ L))∧R q_s h' La'):=by
 intro As L
 obtain rfl:=pr1
 refine FnS.enter Tryz.func101 rfl Tryz.ntmps101 rfl<|Sr<|To (O.boxF rfl rfl rfl fun d I e m=>have f:=CY203.mono pr2 e; To (O.boxF rfl f.1.2 rfl fun g i a n=>Nt<|Rg<|Mv z<|have j:=m.mono a; Vv (V.ldS rfl j (by exact shrule_41)) ?_))
 refine Vv (V.mkf z z)<|have k:=CY203.mono f a; have b:=(e.trans a); have o:=pr2.2.1 _ _ _ _ b hRa; have p:=Pt.mono Vruleview.mono pr0 b; ?_
 obtain ⟨J,q,H⟩:=bnd H
 refine To (O.callS z (view_each_ok p (show VapiRule i [.int .u8 r2.fKind,.int .i64 r2.fWeight,.string r2.fA,.string r2.fB,.string r2.fTable,.int .i64 r2.fN] r2 from z) (show CY225 R i (.func (.func 155) #[] #[.pointer (some ⟨d,0,none⟩),.pointer (some ⟨g,0,none⟩)]) (fun s_ r=>view_fill_1 r r2 f3 s_) from ⟨⟨z,z⟩,k.2.1,fun s c=>fun t=>fun u w x y=>Yld.fn (us:=[]) (cs:=[.pointer (some ⟨d,0,none⟩),.pointer (some ⟨g,0,none⟩)]) (view_fill_1_ok t (j.mono c) (show VapiRule s [.int .u8 r2.fKind,.int .i64 r2.fWeight,.string r2.fA,.string r2.fB,.string r2.fTable,.int .i64 r2.fN] r2 from z) (n.mono c) (CY203.mono k c) u w x y)⟩) o q As _) z fun K M N A B=>?_)
 obtain ⟨C,rfl,D,E⟩:=B
 refine Sl_ _ D<|Ni ?_
 obtain rfl:=Option.some.inj H
 have G:=(b.trans A)
 exact T.end0 Tryz.results101 G ⟨C,z,z,E⟩
theorem view_limit_1_ok {h:PH} {σ:Type} {R:σ→PH→List HProp→Prop} {pv0:Value} {l1:List Int} (pr0:Slc (VI .i64) 1 h pv0 l1) {pp1:Addr} {pc1:List Value} {t2:apiRule} (pa1:AtC h pp1 pc1) (pr1:VapiRule h pc1 t2) {pp2:Addr} {pv2:Value} {t3:σ→Int→(List Int)→Option σ} (pa2:AtC h pp2 [pv2]) (pr2:CY203 R h pv2 t3) {s0:σ} {La:List HProp} (hRa:R s0 h La) {q_s:σ} (H:view_limit_1 l1 t2 t3 s0 = some q_s):∀ As L,FnS Tryz.prog 156 [pv0,.pointer (some pp1),.pointer (some pp2)] h ((As ++ (La ++ L))) (fun v h' L'=>∃ La',v = .tuple #[]∧L' = (As ++ (La' ++ L))∧R q_s h' La'):=by
 intro As L
 exact dead H
theorem view_limit_ok {h:PH} {σ:Type} {R:σ→PH→List HProp→Prop} {pv0:Value} {v1:ruleview} (pr0:Pt Vruleview h pv0 v1) {pc1:List Value} {r2:apiRule} (pr1:VapiRule h pc1 r2) {pv2:Value} {f3:σ→Int→(List Int)→Option σ} (pr2:CY203 R h pv2 f3) {s0:σ} {La:List HProp} (hRa:R s0 h La) {q_s:σ} (H:view_limit v1 r2 f3 s0 = some q_s):∀ As L,FnS Tryz.prog 102 [pv0,.agg pc1.toArray,pv2] h ((As ++ (La ++ L))) (fun v h' L'=>∃ La',v = .tuple #[]∧L' = (As ++ (La' ++ L))∧R q_s h' La'):=by
 intro As L
 exact dead H
end Go.Proofs.X
