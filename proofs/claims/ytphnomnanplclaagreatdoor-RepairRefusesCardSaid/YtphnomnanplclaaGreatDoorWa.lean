import Derived.Test.YtphnomnanplclaaGreatDoorChecked
import Derived.KernelRfl
import Derived.Test.YtphnomnanplclaaGreatDoorV
import Derived.Test.YtphnomnanplclaaGreatDoorL10
import Derived.Test.YtphnomnanplclaaGreatDoorDa
/- The walks: each function computes what its Lean function says. -/
set_option maxRecDepth 1000000
set_option maxHeartbeats 40000000
set_option linter.unusedVariables false
set_option linter.unusedSimpArgs false
set_option linter.unnecessarySimpa false
open Go Go.Proofs Go.Sl Go.Dm
namespace Go.Proofs.X
theorem I8 : Tryz.prog.follows .mixedOrders = true:=by kernel_rfl
theorem O0 : A1j Tryz.prog 22 = some (95,7,80):=by kernel_rfl
theorem O9 : A1j Tryz.prog 23 = some (39,9,112):=by kernel_rfl
theorem X5 : A1j Tryz.prog 24 = some (174,3,40):=by kernel_rfl
theorem D6 : A1j Tryz.prog 25 = some (3,1,8):=by kernel_rfl
theorem S9 : A1j Tryz.prog 26 = some (42,6,72):=by kernel_rfl
theorem A0U : A1j Tryz.prog 37 = some (9,1,16):=by kernel_rfl
theorem D9 : X9 Tryz.prog 3 = some (false,1):=by kernel_rfl
theorem A0p : X9 Tryz.prog 39 = some (true,9):=by kernel_rfl
theorem U4 : X9 Tryz.prog 95 = some (true,7):=by kernel_rfl
theorem A5p : zer Tryz.prog 174 = some (.agg #[.string ⟨#[]⟩,.string ⟨#[]⟩,.int .u8 (0)]):=by kernel_rfl
theorem Q4 : zer Tryz.prog 3 = some (.int .i64 (0)):=by kernel_rfl
theorem A2s : zer Tryz.prog 39 = some (.agg #[.string ⟨#[]⟩,.string ⟨#[]⟩,.string ⟨#[]⟩,.int .i64 (0),.int .i64 (0),.string ⟨#[]⟩,.bool false,.bool false,.slice none 0 0]):=by kernel_rfl
theorem A3H : zer Tryz.prog 42 = some (.agg #[.int .u8 (0),.int .i64 (0),.string ⟨#[]⟩,.string ⟨#[]⟩,.string ⟨#[]⟩,.int .i64 (0)]):=by kernel_rfl
theorem C4l : zer Tryz.prog 9 = some (.string ⟨#[]⟩):=by kernel_rfl
theorem A5c : zer Tryz.prog 95 = some (.agg #[.string ⟨#[]⟩,.int .u8 (0),.int .i64 (0),.int .i64 (0),.slice none 0 0,.int .i64 (0),.int .i64 (0)]):=by kernel_rfl
theorem B1c {h:PH} {pv0:Value} {s1:List Int} (pr0:G9 (VI .i64) 1 h pv0 s1) {v2:Int} {r_0:Int} (H:B1e s1 v2 = some r_0):∀ L,H5 Tryz.prog 99 [pv0,.int .i64 v2] h (L) (fun v h' L'=>v = .int .i64 r_0∧L' = L):=by
 intro L
 refine H5.enter Tryz.func99 z Tryz.ntmps99 z<|Sr<|Ag z<|Nt<|Sq<|Sr<|Mv z<|Vv (V.P6 D6 z pr0)<|Mv z<|Nt ?_
 obtain ⟨d,g,e⟩:=N7 H
 refine T.O5 (α:=Unit) [] z (fun _u=>[]) (fun _u=>L) (fun _u hh=>d = (Sum.inl ())) ?_ ?_
 ·have H:=g
  refine Bl<|T.N8 (α:=Nat×Int) [0,1,7] z (fun ⟨a,b⟩=>[(8,.int .i64 b)]) (fun ⟨a,b⟩=>L) (fun ⟨a,b⟩ hh=>iter (B0I s1 v2) a b = some d) (fun ⟨a,b⟩=>a) (FUEL,(0:Int)) ⟨z,trivial⟩ z H ?_
  rintro ⟨a,b⟩ p q i
  obtain ⟨j,r,rfl,H,c⟩:=I4 i
  refine T.norm [8,0,1,7] z<|T.fl ?_
  refine Sr<|Vv (V.lt z z)<|Nt<|Sq<|T.cH H z (fun H=>?_) (fun H=>?_)
  ·refine T.skip<|Th<|Sq<|Bl<|Sr<|Mv z<|Ag z<|Nt<|Sr<|Mv z<|Mv z<|Mv z ?_
   obtain ⟨s,f,H⟩:=bnd H
   obtain ⟨t,k,rfl⟩:=G9.at pr0 f
   refine Vv (V.ix D6 z z pr0 (H6 f))<|Vv (V.ld0 D9 z k.u z)<|Vv (V.eq z z)<|Nt<|T.cH H z (fun H=>?_) (fun H=>?_)
   ·refine Sr<|Mv z<|Ag z<|Nt<|T.ret<|Br<|Tr<|Tr<|have H:=D7 H c; Br<|Tr<|have H:=J5 H e; ?_
    obtain rfl:=Option.some.inj H
    exact T.F5 Tryz.results99 (Rv z) Li ⟨z,z⟩
   refine T.skip<|Bn<|Th<|Rg ?_
   obtain ⟨m,n,H⟩:=bnd H
   refine Vv (V.L8 z z n)<|Mv z<|Nt<|T.again (j,m) Li (Nat.lt_succ_self _) (G8 H c) (A9.app ⟨z,trivial⟩ ⟨z,z,z,trivial⟩) z
  refine T.exit<|Te<|Te<|have H:=D7 H c; Be<|Th<|T.met () Li H (A9.app trivial trivial) z
 rintro _ w x o
 have H:=J5 o e
 refine T.norm [] z<|T.fl ?_
 refine Sr<|Ag z<|Nt<|T.ret ?_
 obtain rfl:=Option.some.inj H
 exact T.F5 Tryz.results99 (Rv z) Li ⟨z,z⟩
theorem A1f {h:PH} {pv0:Value} {s1:List Int} (pr0:G9 (VI .i64) 1 h pv0 s1) {v2:Int} {r_0:Bool} (H:A1A s1 v2 = some r_0):∀ L,H5 Tryz.prog 38 [pv0,.int .i64 v2] h (L) (fun v h' L'=>v = .bool r_0∧L' = L):=by
 intro L
 refine H5.enter Tryz.func38 z Tryz.ntmps38 z<|Sr<|Ag z<|Nt<|Sr<|Mv z<|Mv z ?_
 obtain ⟨d,a,H⟩:=bnd H
 refine To (O.C8 z (B1c pr0 a _) z fun e f g i b=>?_)
 obtain ⟨rfl,c⟩:=b
 refine I9 _ c<|Vv (V.ge z z)<|Ag z<|Nt<|T.ret ?_
 obtain rfl:=Option.some.inj H
 exact T.F5 Tryz.results38 (Rv z) Li ⟨z,z⟩
theorem B4k {h:PH} {pv0:Value} {s1:List Int} (pr0:G9 (VI .i64) 1 h pv0 s1) {pv1:Value} {f2:Int→Option Bool} (pr1:A1S h pv1 f2) {r_0:Int} (H:B0a s1 f2 = some r_0):∀ L,H5 Tryz.prog 98 [pv0,pv1] h (L) (fun v h' L'=>v = .int .i64 r_0∧L' = L):=by
 intro L
 refine H5.enter Tryz.func98 z Tryz.ntmps98 z<|Sr<|Ag z<|Nt<|Sq<|Sr<|Mv z<|Vv (V.P6 D6 z pr0)<|Mv z<|Nt ?_
 obtain ⟨d,i,e⟩:=N7 H
 refine T.O5 (α:=Unit) [] z (fun _u=>[]) (fun _u=>L) (fun _u hh=>d = (Sum.inl ())) ?_ ?_
 ·have H:=i
  refine Bl<|T.N8 (α:=Nat×Int) [0,1,7] z (fun ⟨a,b⟩=>[(8,.int .i64 b)]) (fun ⟨a,b⟩=>L) (fun ⟨a,b⟩ hh=>iter (A6M s1 f2) a b = some d) (fun ⟨a,b⟩=>a) (FUEL,(0:Int)) ⟨z,trivial⟩ z H ?_
  rintro ⟨a,b⟩ j y k
  obtain ⟨m,A,rfl,H,c⟩:=I4 k
  refine T.norm [8,0,1,7] z<|T.fl ?_
  refine Sr<|Vv (V.lt z z)<|Nt<|Sq<|T.cH H z (fun H=>?_) (fun H=>?_)
  ·refine T.skip<|Th<|Sq<|Bl<|Sr<|Mv z<|Ag z<|Nt<|Sr<|Mv z<|Mv z<|Mv z ?_
   obtain ⟨B,f,H⟩:=bnd H
   obtain ⟨C,n,rfl⟩:=G9.at pr0 f
   refine Vv (V.ix D6 z z pr0 (H6 f))<|Vv (V.ld0 D9 z n.u z) ?_
   obtain ⟨D,o,H⟩:=bnd H
   obtain ⟨E,G,I,p,q⟩:=A1S.call (pr1.u (g:=j)) o
   refine To (O.A1m z p z (q _) z fun J K M N r=>?_)
   obtain ⟨rfl,s⟩:=r
   refine I9 _ s<|Nt<|T.cH H z (fun H=>?_) (fun H=>?_)
   ·refine Sr<|Mv z<|Ag z<|Nt<|T.ret<|Br<|Tr<|Tr<|have H:=D7 H c; Br<|Tr<|have H:=J5 H e; ?_
    obtain rfl:=Option.some.inj H
    exact T.F5 Tryz.results98 (Rv z) Li ⟨z,z⟩
   refine T.skip<|Bn<|Th<|Rg ?_
   obtain ⟨t,w,H⟩:=bnd H
   refine Vv (V.L8 z z w)<|Mv z<|Nt<|T.again (m,t) Li (Nat.lt_succ_self _) (G8 H c) (A9.app ⟨z,trivial⟩ ⟨z,z,z,trivial⟩) z
  refine T.exit<|Te<|Te<|have H:=D7 H c; Be<|Th<|T.met () Li H (A9.app trivial trivial) z
 rintro _ P S x
 have H:=J5 x e
 refine T.norm [] z<|T.fl ?_
 refine Sr<|Ag z<|Nt<|T.ret ?_
 obtain rfl:=Option.some.inj H
 exact T.F5 Tryz.results98 (Rv z) Li ⟨z,z⟩
theorem A2L {h:PH} {pv0:Value} {s1:List Int} (pr0:G9 (VI .i64) 1 h pv0 s1) {pv1:Value} {f2:Int→Option Bool} (pr1:A1S h pv1 f2) {r_0:Bool} (H:A2q s1 f2 = some r_0):∀ L,H5 Tryz.prog 36 [pv0,pv1] h (L) (fun v h' L'=>v = .bool r_0∧L' = L):=by
 intro L
 refine H5.enter Tryz.func36 z Tryz.ntmps36 z<|Sr<|Ag z<|Nt<|Sr<|Mv z<|Mv z ?_
 obtain ⟨d,a,H⟩:=bnd H
 refine To (O.C8 z (B4k pr0 pr1 a _) z fun e f g i b=>?_)
 obtain ⟨rfl,c⟩:=b
 refine I9 _ c<|Vv (V.ge z z)<|Ag z<|Nt<|T.ret ?_
 obtain rfl:=Option.some.inj H
 exact T.F5 Tryz.results36 (Rv z) Li ⟨z,z⟩
theorem A5w {h:PH} {pv0:Value} {s1:List D5} (pr0:G9 E8 7 h pv0 s1) {pv1:Value} {f2:D5→Option Bool} (pr1:A7t h pv1 f2) {r_0:Int} (H:A1J s1 f2 = some r_0):∀ L,H5 Tryz.prog 231 [pv0,pv1] h (L) (fun v h' L'=>v = .int .i64 r_0∧L' = L):=by
 intro L
 refine H5.enter Tryz.func231 z Tryz.ntmps231 z<|Sr<|Ag z<|Nt<|Sq<|Sr<|Mv z<|Vv (V.P6 O0 z pr0)<|Mv z<|Nt ?_
 obtain ⟨e,m,f⟩:=N7 H
 refine T.O5 (α:=Unit) [] z (fun _u=>[]) (fun _u=>L) (fun _u hh=>e = (Sum.inl ())) ?_ ?_
 ·have H:=m
  refine Bl<|T.N8 (α:=Nat×Int) [0,1,7] z (fun ⟨b,c⟩=>[(8,.int .i64 c)]) (fun ⟨b,c⟩=>L) (fun ⟨b,c⟩ hh=>iter (A1P s1 f2) b c = some e) (fun ⟨b,c⟩=>b) (FUEL,(0:Int)) ⟨z,trivial⟩ z H ?_
  rintro ⟨b,c⟩ i C n
  obtain ⟨o,D,rfl,H,d⟩:=I4 n
  refine T.norm [8,0,1,7] z<|T.fl ?_
  refine Sr<|Vv (V.lt z z)<|Nt<|Sq<|T.cH H z (fun H=>?_) (fun H=>?_)
  ·refine T.skip<|Th<|Sq<|Bl<|Sr<|Mv z<|Ag z<|Nt<|Sr<|Mv z<|Mv z<|Mv z ?_
   obtain ⟨a,j,H⟩:=bnd H
   obtain ⟨E,p,⟨k,rfl,q⟩⟩:=G9.at pr0 j
   refine Vv (V.ix O0 rfl rfl pr0 (H6 j))<|Vv (V.Z9 rfl p.u (by exact U4)) ?_
   obtain ⟨G,r,H⟩:=bnd H
   obtain ⟨I,J,K,s,t⟩:=A7t.call (pr1.u (g:=i)) (show E8 i [.string a.H7,.int .u8 a.N9,.int .i64 a.fA,.int .i64 a.fB,k,.int .i64 a.fX,.int .i64 a.fY] a from ⟨k,rfl,q.u⟩) r
   refine To (O.A1m z s z (t _) z fun M N P S w=>?_)
   obtain ⟨rfl,x⟩:=w
   refine I9 _ x<|Nt<|T.cH H z (fun H=>?_) (fun H=>?_)
   ·refine Sr<|Mv z<|Ag z<|Nt<|T.ret<|Br<|Tr<|Tr<|have H:=D7 H d; Br<|Tr<|have H:=J5 H f; ?_
    obtain rfl:=Option.some.inj H
    exact T.F5 Tryz.results231 (Rv z) Li ⟨z,z⟩
   refine T.skip<|Bn<|Th<|Rg ?_
   obtain ⟨y,A,H⟩:=bnd H
   refine Vv (V.L8 z z A)<|Mv z<|Nt<|T.again (o,y) Li (Nat.lt_succ_self _) (G8 H d) (A9.app ⟨z,trivial⟩ ⟨z,z,z,trivial⟩) z
  refine T.exit<|Te<|Te<|have H:=D7 H d; Be<|Th<|T.met () Li H (A9.app trivial trivial) z
 rintro _ U W B
 have H:=J5 B f
 refine T.norm [] z<|T.fl ?_
 refine Sr<|Ag z<|Nt<|T.ret ?_
 obtain rfl:=Option.some.inj H
 exact T.F5 Tryz.results231 (Rv z) Li ⟨z,z⟩
theorem A8J {h:PH} {pv0:Value} {s1:List D5} (pr0:G9 E8 7 h pv0 s1) {pv1:Value} {f2:D5→Option Bool} (pr1:A7t h pv1 f2) {r_0:Bool} (H:A3c s1 f2 = some r_0):∀ L,H5 Tryz.prog 237 [pv0,pv1] h (L) (fun v h' L'=>v = .bool r_0∧L' = L):=by
 intro L
 refine H5.enter Tryz.func237 z Tryz.ntmps237 z<|Sr<|Ag z<|Nt<|Sr<|Mv z<|Mv z ?_
 obtain ⟨d,a,H⟩:=bnd H
 refine To (O.C8 z (A5w pr0 pr1 a _) z fun e f g i b=>?_)
 obtain ⟨rfl,c⟩:=b
 refine I9 _ c<|Vv (V.ge z z)<|Ag z<|Nt<|T.ret ?_
 obtain rfl:=Option.some.inj H
 exact T.F5 Tryz.results237 (Rv z) Li ⟨z,z⟩
theorem A5r {h:PH} {pv0:Value} {s1:List E5} (pr0:G9 G7 9 h pv0 s1) {pv1:Value} {f2:E5→Option Bool} (pr1:A8W h pv1 f2) {r_0:Int} (H:A1R s1 f2 = some r_0):∀ L,H5 Tryz.prog 214 [pv0,pv1] h (L) (fun v h' L'=>v = .int .i64 r_0∧L' = L):=by
 intro L
 refine H5.enter Tryz.func214 z Tryz.ntmps214 z<|Sr<|Ag z<|Nt<|Sq<|Sr<|Mv z<|Vv (V.P6 O9 z pr0)<|Mv z<|Nt ?_
 obtain ⟨e,m,f⟩:=N7 H
 refine T.O5 (α:=Unit) [] z (fun _u=>[]) (fun _u=>L) (fun _u hh=>e = (Sum.inl ())) ?_ ?_
 ·have H:=m
  refine Bl<|T.N8 (α:=Nat×Int) [0,1,7] z (fun ⟨b,c⟩=>[(8,.int .i64 c)]) (fun ⟨b,c⟩=>L) (fun ⟨b,c⟩ hh=>iter (A1M s1 f2) b c = some e) (fun ⟨b,c⟩=>b) (FUEL,(0:Int)) ⟨z,trivial⟩ z H ?_
  rintro ⟨b,c⟩ i C n
  obtain ⟨o,D,rfl,H,d⟩:=I4 n
  refine T.norm [8,0,1,7] z<|T.fl ?_
  refine Sr<|Vv (V.lt z z)<|Nt<|Sq<|T.cH H z (fun H=>?_) (fun H=>?_)
  ·refine T.skip<|Th<|Sq<|Bl<|Sr<|Mv z<|Ag z<|Nt<|Sr<|Mv z<|Mv z<|Mv z ?_
   obtain ⟨a,j,H⟩:=bnd H
   obtain ⟨E,p,⟨k,rfl,q⟩⟩:=G9.at pr0 j
   refine Vv (V.ix O9 rfl rfl pr0 (H6 j))<|Vv (V.Z9 rfl p.u (by exact A0p)) ?_
   obtain ⟨G,r,H⟩:=bnd H
   obtain ⟨I,J,K,s,t⟩:=A8W.call (pr1.u (g:=i)) (show G7 i [.string a.H7,.string a.Y0,.string a.Q5,.int .i64 a.Q6,.int .i64 a.U5,.string a.V8,.bool a.A0e,.bool a.Q3,k] a from ⟨k,rfl,q.u⟩) r
   refine To (O.A1m z s z (t _) z fun M N P S w=>?_)
   obtain ⟨rfl,x⟩:=w
   refine I9 _ x<|Nt<|T.cH H z (fun H=>?_) (fun H=>?_)
   ·refine Sr<|Mv z<|Ag z<|Nt<|T.ret<|Br<|Tr<|Tr<|have H:=D7 H d; Br<|Tr<|have H:=J5 H f; ?_
    obtain rfl:=Option.some.inj H
    exact T.F5 Tryz.results214 (Rv z) Li ⟨z,z⟩
   refine T.skip<|Bn<|Th<|Rg ?_
   obtain ⟨y,A,H⟩:=bnd H
   refine Vv (V.L8 z z A)<|Mv z<|Nt<|T.again (o,y) Li (Nat.lt_succ_self _) (G8 H d) (A9.app ⟨z,trivial⟩ ⟨z,z,z,trivial⟩) z
  refine T.exit<|Te<|Te<|have H:=D7 H d; Be<|Th<|T.met () Li H (A9.app trivial trivial) z
 rintro _ U W B
 have H:=J5 B f
 refine T.norm [] z<|T.fl ?_
 refine Sr<|Ag z<|Nt<|T.ret ?_
 obtain rfl:=Option.some.inj H
 exact T.F5 Tryz.results214 (Rv z) Li ⟨z,z⟩
theorem A5K {h:PH} {x1:Int} {r_0:Bool} (H:A5Z x1 = some r_0):∀ L,H5 Tryz.prog 342 [.int .i64 x1] h (L) (fun v h' L'=>v = .bool r_0∧L' = L):=by
 intro L
 refine H5.enter Tryz.func342 z Tryz.ntmps342 z<|Sr<|Ag z<|Nt<|Sr<|Mv z<|Mv z<|Vv (V.ne z z)<|Ag z<|Nt<|T.ret ?_
 obtain rfl:=Option.some.inj H
 exact T.F5 Tryz.results342 (Rv z) Lr ⟨z,z⟩
theorem B5q {h:PH} {x1:Int} {y2:Int} {r_0:Int} (H:B2r x1 y2 = some r_0):∀ L,H5 Tryz.prog 383 [.int .i64 x1,.int .i64 y2] h (L) (fun v h' L'=>v = .int .i64 r_0∧L' = L):=by
 intro L
 refine H5.enter Tryz.func383 z Tryz.ntmps383 z<|Sr<|Ag z<|Nt<|Sr<|Mv z ?_
 obtain ⟨g,a,H⟩:=bnd H
 refine To (O.C8 z (A5K a _) z fun i j k m b=>?_)
 obtain ⟨rfl,c⟩:=b
 refine I9 _ c<|Ag z<|Nt<|Sr<|Mv z ?_
 obtain ⟨n,d,H⟩:=bnd H
 refine To (O.C8 z (A5K d _) z fun o p q r e=>?_)
 obtain ⟨rfl,f⟩:=e
 refine I9 _ f<|Ag z<|Nt<|Sq<|Sr<|Mv z<|Nt<|T.cH H z (fun H=>?_) (fun H=>?_)
 ·exact dead H
 refine T.skip<|Th<|Sq<|Sr<|Mv z<|Nt<|T.cH H z (fun H=>?_) (fun H=>?_)
 ·exact dead H
 refine T.skip<|Th<|Sq<|Sr<|Mv z<|Mv z<|Vv (V.lt z z)<|Nt<|T.cH H z (fun H=>?_) (fun H=>?_)
 ·exact dead H
 refine T.skip<|Th<|Sq<|Sr<|Mv z<|Mv z<|Vv (V.gt z z)<|Nt<|T.cH H z (fun H=>?_) (fun H=>?_)
 ·exact dead H
 refine T.skip<|Th<|Sr<|Ag z<|Nt<|T.ret ?_
 obtain rfl:=Option.some.inj H
 exact T.F5 Tryz.results383 (Rv z) Li ⟨z,z⟩
theorem B9r {h:PH} {x1:Int} {y2:Int} {r_0:Bool} (H:B6K x1 y2 = some r_0):∀ L,H5 Tryz.prog 265 [.int .i64 x1,.int .i64 y2] h (L) (fun v h' L'=>v = .bool r_0∧L' = L):=by
 intro L
 refine H5.enter Tryz.func265 z Tryz.ntmps265 z<|Sr<|Ag z<|Nt<|Sr<|Mv z ?_
 obtain ⟨d,a,H⟩:=bnd H
 refine To (O.C8 z (A5K a _) z fun e f g i b=>?_)
 obtain ⟨rfl,c⟩:=b
 refine I9 _ c<|Mv z<|T.bH 7 H z (fun H=>?_) (fun H=>?_)
 ·exact dead H
 refine Sk<|Sk<|Sk<|Vv (V.J9 z z)<|Mv z<|Mv z<|Mv z<|Vv (V.lt z z)<|Vv (V.J9 z z)<|Ag z<|Nt<|T.ret ?_
 obtain rfl:=Option.some.inj H
 exact T.F5 Tryz.results265 (Rv z) Li ⟨z,z⟩
theorem B6k {h:PH} {pv0:Value} {s11:List Int} (pr0:G9 (VI .i64) 1 h pv0 s11) {pv1:Value} {s22:List Int} (pr1:G9 (VI .i64) 1 h pv1 s22) {r_0:Int} (H:A7K s11 s22 = some r_0):∀ L,H5 Tryz.prog 349 [pv0,pv1] h (L) (fun v h' L'=>v = .int .i64 r_0∧L' = L):=by
 intro L
 refine H5.enter Tryz.func349 z Tryz.ntmps349 z<|Sr<|Ag z<|Nt<|Sq<|Sr<|Mv z<|Vv (V.P6 D6 z pr0)<|Mv z<|Nt ?_
 obtain ⟨c,g,i⟩:=N7 H
 refine T.O5 (α:=Unit) [0,1] z (fun _u=>[]) (fun _u=>L) (fun _u hh=>c = ()) ?_ ?_
 ·have H:=g
  refine Bl<|T.N8 (α:=Nat×Int) [0,1,9,10] z (fun ⟨a,b⟩=>[(11,.int .i64 b)]) (fun ⟨a,b⟩=>L) (fun ⟨a,b⟩ hh=>iter (A8F s11 s22) a b = some c) (fun ⟨a,b⟩=>a) (FUEL,(0:Int)) ⟨z,trivial⟩ z H ?_
  rintro ⟨a,b⟩ w x j
  obtain ⟨k,y,rfl,H,d⟩:=I4 j
  refine T.norm [11,0,1,9,10] z<|T.fl ?_
  refine Sr<|Vv (V.lt z z)<|Nt<|Sq<|T.cH H z (fun H=>?_) (fun H=>?_)
  ·refine T.skip<|Th<|Sq<|Bl<|Sr<|Mv z ?_
   obtain ⟨A,e,H⟩:=bnd H
   obtain ⟨B,m,rfl⟩:=G9.at pr0 e
   refine Vv (V.ix D6 z z pr0 (H6 e))<|Vv (V.ld0 D9 z m.u z)<|Ag z<|Ag z<|Nt<|Sq<|Sr<|Mv z<|Mv z<|Vv (V.P6 D6 z pr1)<|Vv (V.ge z z)<|Nt<|T.cH H z (fun H=>?_) (fun H=>?_)
   ·exact dead H
   refine T.skip<|Th<|Sr<|Mv z<|Mv z ?_
   obtain ⟨C,f,H⟩:=bnd H
   obtain ⟨D,n,rfl⟩:=G9.at pr1 f
   refine Vv (V.ix D6 z z pr1 (H6 f))<|Vv (V.ld0 D9 z n.u z)<|Ag z<|Nt<|Sr<|Mv z<|Mv z ?_
   obtain ⟨E,o,H⟩:=bnd H
   refine To (O.C8 z (B5q o _) z fun G I J K p=>?_)
   obtain ⟨rfl,q⟩:=p
   refine I9 _ q<|Ag z<|Nt<|Sr<|Mv z<|Vv (V.ne z z)<|Nt<|T.cH H z (fun H=>?_) (fun H=>?_)
   ·exact dead H
   refine T.skip<|Bn<|Th<|Rg ?_
   obtain ⟨r,s,H⟩:=bnd H
   refine Vv (V.L8 z z s)<|Mv z<|Nt<|T.again (k,r) Li (Nat.lt_succ_self _) (G8 H d) (A9.app ⟨z,trivial⟩ ⟨z,z,z,z,trivial⟩) z
  refine T.exit<|Te<|Te<|have H:=D7 H d; Be<|Th<|T.met () Li H (A9.app trivial ⟨z,z,trivial⟩) z
 rintro _ M N t
 have H:=J5 t i
 refine T.norm [0,1] z<|T.fl ?_
 refine Sq<|Sr<|Mv z<|Vv (V.P6 D6 z pr0)<|Mv z<|Vv (V.P6 D6 z pr1)<|Vv (V.lt z z)<|Nt<|T.cH H z (fun H=>?_) (fun H=>?_)
 ·exact dead H
 refine T.skip<|Th<|Sr<|Ag z<|Nt<|T.ret ?_
 obtain rfl:=Option.some.inj H
 exact T.F5 Tryz.results349 (Rv z) Li ⟨z,z⟩
theorem B8D {h:PH} {pv0:Value} {s11:List Int} (pr0:G9 (VI .i64) 1 h pv0 s11) {pv1:Value} {s22:List Int} (pr1:G9 (VI .i64) 1 h pv1 s22) {r_0:Bool} (H:B0t s11 s22 = some r_0):∀ L,H5 Tryz.prog 351 [pv0,pv1] h (L) (fun v h' L'=>v = .bool r_0∧L' = L):=by
 intro L
 refine H5.enter Tryz.func351 z Tryz.ntmps351 z<|Sr<|Ag z<|Nt<|Sq<|Sr<|Mv z<|Vv (V.P6 D6 z pr0)<|Mv z<|Vv (V.P6 D6 z pr1)<|Vv (V.ne z z)<|Nt<|T.cH H z (fun H=>?_) (fun H=>?_)
 ·exact dead H
 refine T.skip<|Th<|Sq<|Sr<|Mv z<|Vv (V.P6 D6 z pr0)<|Mv z<|Nt ?_
 obtain ⟨c,g,i⟩:=N7 H
 refine T.O5 (α:=Unit) [] z (fun _u=>[]) (fun _u=>L) (fun _u hh=>c = ()) ?_ ?_
 ·have H:=g
  refine Bl<|T.N8 (α:=Nat×Int) [0,1,12] z (fun ⟨a,b⟩=>[(13,.int .i64 b)]) (fun ⟨a,b⟩=>L) (fun ⟨a,b⟩ hh=>iter (B1d s11 s22) a b = some c) (fun ⟨a,b⟩=>a) (FUEL,(0:Int)) ⟨z,trivial⟩ z H ?_
  rintro ⟨a,b⟩ r s j
  obtain ⟨k,w,rfl,H,d⟩:=I4 j
  refine T.norm [13,0,1,12] z<|T.fl ?_
  refine Sr<|Vv (V.lt z z)<|Nt<|Sq<|T.cH H z (fun H=>?_) (fun H=>?_)
  ·refine T.skip<|Th<|Sq<|Bl<|Sr<|Mv z<|Ag z<|Nt<|Sq<|T.O8 (t:=(.v 0 (.v 1 (.v 2 (.v 3 (.v 4 (.v 5 (.v 6 (.v 7 (.v 8 .done)))))))))) 10 0 0 rfl rfl I8 (by kernel_rfl) ?_
   refine Tm z z<|Tm z z ?_
   obtain ⟨x,e,H⟩:=bnd H
   obtain ⟨y,m,rfl⟩:=G9.at pr0 e
   refine Tv z (V.ix D6 z z pr0 (H6 e))<|Tv z (V.ld0 D9 z m.u z)<|Tm z z<|Tm z z ?_
   obtain ⟨A,f,H⟩:=bnd H
   obtain ⟨B,n,rfl⟩:=G9.at pr1 f
   refine Tv z (V.ix D6 z z pr1 (H6 f))<|Tv z (V.ld0 D9 z n.u z)<|Tv z (V.ne z z)<|T.R5 (SX.two (XA.fr [] Lr z) (XA.fr [] Lr z))<|Th<|T.cH H z (fun H=>?_) (fun H=>?_)
   ·exact dead H
   refine T.skip<|Bn<|Th<|Rg ?_
   obtain ⟨o,p,H⟩:=bnd H
   refine Vv (V.L8 z z p)<|Mv z<|Nt<|T.again (k,o) Li (Nat.lt_succ_self _) (G8 H d) (A9.app ⟨z,trivial⟩ ⟨z,z,z,trivial⟩) z
  refine T.exit<|Te<|Te<|have H:=D7 H d; Be<|Th<|T.met () Li H (A9.app trivial trivial) z
 rintro _ C D q
 have H:=J5 q i
 refine T.norm [] z<|T.fl ?_
 refine Sr<|Ag z<|Nt<|T.ret ?_
 obtain rfl:=Option.some.inj H
 exact T.F5 Tryz.results351 (Rv z) Li ⟨z,z⟩
theorem A2f {h:PH} {pv0:Value} {s1:List Int} (pr0:G9 (VI .i64) 1 h pv0 s1) {r_0:List Int} (H:A3e s1 = some r_0):∀ L,H5 Tryz.prog 62 [pv0] h (L) (fun v h' L'=>∃ cs0,L' = D8 3 1 v cs0::L∧A7 (VI .i64) h' cs0 r_0):=by
 intro L
 refine H5.enter Tryz.func62 z Tryz.ntmps62 z<|Sr<|Ag z<|Nt<|Sq<|Sr<|Mv z<|Vv (V.C1g D6 z pr0)<|Nt<|T.cond (b:=B2I pv0) z (fun c=>?_) (fun c=>?_)
 ·have H:=A8P (G9.B2I pr0 c) H
  refine Sr<|Ag z<|Nt<|T.ret<|Tr<|T.A0n 3 1<|have g:A7 (VI .i64) h [] ([]:List Int):=A7.nil; ?_
  obtain rfl:=Option.some.inj H
  exact T.F5 Tryz.results62 (Rv z) Lr ⟨_,z,g⟩
 refine T.skip<|Th<|Sr<|To (O.bs0 D6 z fun n=>have d:A7 (VI .i64) h [] ([]:List Int):=A7.nil; Mv z ?_)
 obtain ⟨i,e,a⟩:=G9.row pr0
 obtain ⟨k,f,H⟩:=bnd H
 refine To (O.apX D6 D6 Q4 z z z (j:=0) z (Src.fix e) e.wide (A7.ones VI.plain a) d a f z fun o p q=>have m:A7 (VI .i64) h ([] ++ i) k:=A7.ap d a f; Ag z<|Nt<|T.ret ?_)
 obtain rfl:=Option.some.inj H
 exact T.F5 Tryz.results62 (Rv z) Lr ⟨_,z,m⟩
theorem A8I {h:PH} {pv0:Value} {s1:List D5} (pr0:G9 E8 7 h pv0 s1) {r_0:List D5} (H:A7O s1 = some r_0):∀ L,H5 Tryz.prog 159 [pv0] h (L) (fun v h' L'=>∃ cs0,L' = D8 95 7 v cs0::L∧A7 E8 h' cs0 r_0):=by
 intro L
 refine H5.enter Tryz.func159 z Tryz.ntmps159 z<|Sr<|Ag z<|Nt<|Sq<|Sr<|Mv z<|Vv (V.C1g O0 z pr0)<|Nt<|T.cond (b:=B2I pv0) z (fun c=>?_) (fun c=>?_)
 ·have H:=A8P (G9.B2I pr0 c) H
  refine Sr<|Ag z<|Nt<|T.ret<|Tr<|T.A0n 95 7<|have g:A7 E8 h [] ([]:List D5):=A7.nil; ?_
  obtain rfl:=Option.some.inj H
  exact T.F5 Tryz.results159 (Rv z) Lr ⟨_,z,g⟩
 refine T.skip<|Th<|Sr<|To (O.bs0 O0 z fun n=>have d:A7 E8 h [] ([]:List D5):=A7.nil; Mv z ?_)
 obtain ⟨i,e,a⟩:=G9.row pr0
 obtain ⟨k,f,H⟩:=bnd H
 refine To (O.apX O0 O0 A5c z z z (j:=0) z (Src.fix e) e.wide (A7.ones E8.plain a) d a f z fun o p q=>have m:A7 E8 h ([] ++ i) k:=A7.ap d a f; Ag z<|Nt<|T.ret ?_)
 obtain rfl:=Option.some.inj H
 exact T.F5 Tryz.results159 (Rv z) Lr ⟨_,z,m⟩
theorem A8X {h:PH} {pv0:Value} {s1:List E5} (pr0:G9 G7 9 h pv0 s1) {r_0:List E5} (H:A8m s1 = some r_0):∀ L,H5 Tryz.prog 160 [pv0] h (L) (fun v h' L'=>∃ cs0,L' = D8 39 9 v cs0::L∧A7 G7 h' cs0 r_0):=by
 intro L
 refine H5.enter Tryz.func160 z Tryz.ntmps160 z<|Sr<|Ag z<|Nt<|Sq<|Sr<|Mv z<|Vv (V.C1g O9 z pr0)<|Nt<|T.cond (b:=B2I pv0) z (fun c=>?_) (fun c=>?_)
 ·have H:=A8P (G9.B2I pr0 c) H
  refine Sr<|Ag z<|Nt<|T.ret<|Tr<|T.A0n 39 9<|have g:A7 G7 h [] ([]:List E5):=A7.nil; ?_
  obtain rfl:=Option.some.inj H
  exact T.F5 Tryz.results160 (Rv z) Lr ⟨_,z,g⟩
 refine T.skip<|Th<|Sr<|To (O.bs0 O9 z fun n=>have d:A7 G7 h [] ([]:List E5):=A7.nil; Mv z ?_)
 obtain ⟨i,e,a⟩:=G9.row pr0
 obtain ⟨k,f,H⟩:=bnd H
 refine To (O.apX O9 O9 A2s z z z (j:=0) z (Src.fix e) e.wide (A7.ones G7.plain a) d a f z fun o p q=>have m:A7 G7 h ([] ++ i) k:=A7.ap d a f; Ag z<|Nt<|T.ret ?_)
 obtain rfl:=Option.some.inj H
 exact T.F5 Tryz.results160 (Rv z) Lr ⟨_,z,m⟩
theorem A3a {h:PH} {pv0:Value} {s1:List ByteArray} (pr0:G9 VS 1 h pv0 s1) {r_0:List ByteArray} (H:A2R s1 = some r_0):∀ L,H5 Tryz.prog 133 [pv0] h (L) (fun v h' L'=>∃ cs0,L' = D8 9 1 v cs0::L∧A7 VS h' cs0 r_0):=by
 intro L
 refine H5.enter Tryz.func133 z Tryz.ntmps133 z<|Sr<|Ag z<|Nt<|Sq<|Sr<|Mv z<|Vv (V.C1g A0U z pr0)<|Nt<|T.cond (b:=B2I pv0) z (fun c=>?_) (fun c=>?_)
 ·have H:=A8P (G9.B2I pr0 c) H
  refine Sr<|Ag z<|Nt<|T.ret<|Tr<|T.A0n 9 1<|have g:A7 VS h [] ([]:List ByteArray):=A7.nil; ?_
  obtain rfl:=Option.some.inj H
  exact T.F5 Tryz.results133 (Rv z) Lr ⟨_,z,g⟩
 refine T.skip<|Th<|Sr<|To (O.bs0 A0U z fun n=>have d:A7 VS h [] ([]:List ByteArray):=A7.nil; Mv z ?_)
 obtain ⟨i,e,a⟩:=G9.row pr0
 obtain ⟨k,f,H⟩:=bnd H
 refine To (O.apX A0U A0U C4l z z z (j:=0) z (Src.fix e) e.wide (A7.ones VS.plain a) d a f z fun o p q=>have m:A7 VS h ([] ++ i) k:=A7.ap d a f; Ag z<|Nt<|T.ret ?_)
 obtain rfl:=Option.some.inj H
 exact T.F5 Tryz.results133 (Rv z) Lr ⟨_,z,m⟩
theorem B1a {h:PH} {pv0:Value} {s1:List G6} (pr0:G9 I1 3 h pv0 s1) {r_0:List G6} (H:B1D s1 = some r_0):∀ L,H5 Tryz.prog 161 [pv0] h (L) (fun v h' L'=>∃ cs0,L' = D8 174 3 v cs0::L∧A7 I1 h' cs0 r_0):=by
 intro L
 refine H5.enter Tryz.func161 z Tryz.ntmps161 z<|Sr<|Ag z<|Nt<|Sq<|Sr<|Mv z<|Vv (V.C1g X5 z pr0)<|Nt<|T.cond (b:=B2I pv0) z (fun c=>?_) (fun c=>?_)
 ·have H:=A8P (G9.B2I pr0 c) H
  refine Sr<|Ag z<|Nt<|T.ret<|Tr<|T.A0n 174 3<|have g:A7 I1 h [] ([]:List G6):=A7.nil; ?_
  obtain rfl:=Option.some.inj H
  exact T.F5 Tryz.results161 (Rv z) Lr ⟨_,z,g⟩
 refine T.skip<|Th<|Sr<|To (O.bs0 X5 z fun n=>have d:A7 I1 h [] ([]:List G6):=A7.nil; Mv z ?_)
 obtain ⟨i,e,a⟩:=G9.row pr0
 obtain ⟨k,f,H⟩:=bnd H
 refine To (O.apX X5 X5 A5p z z z (j:=0) z (Src.fix e) e.wide (A7.ones I1.plain a) d a f z fun o p q=>have m:A7 I1 h ([] ++ i) k:=A7.ap d a f; Ag z<|Nt<|T.ret ?_)
 obtain rfl:=Option.some.inj H
 exact T.F5 Tryz.results161 (Rv z) Lr ⟨_,z,m⟩
theorem A9J {h:PH} {pv0:Value} {s1:List G5} (pr0:G9 H9 6 h pv0 s1) {r_0:List G5} (H:A9l s1 = some r_0):∀ L,H5 Tryz.prog 162 [pv0] h (L) (fun v h' L'=>∃ cs0,L' = D8 42 6 v cs0::L∧A7 H9 h' cs0 r_0):=by
 intro L
 refine H5.enter Tryz.func162 z Tryz.ntmps162 z<|Sr<|Ag z<|Nt<|Sq<|Sr<|Mv z<|Vv (V.C1g S9 z pr0)<|Nt<|T.cond (b:=B2I pv0) z (fun c=>?_) (fun c=>?_)
 ·have H:=A8P (G9.B2I pr0 c) H
  refine Sr<|Ag z<|Nt<|T.ret<|Tr<|T.A0n 42 6<|have g:A7 H9 h [] ([]:List G5):=A7.nil; ?_
  obtain rfl:=Option.some.inj H
  exact T.F5 Tryz.results162 (Rv z) Lr ⟨_,z,g⟩
 refine T.skip<|Th<|Sr<|To (O.bs0 S9 z fun n=>have d:A7 H9 h [] ([]:List G5):=A7.nil; Mv z ?_)
 obtain ⟨i,e,a⟩:=G9.row pr0
 obtain ⟨k,f,H⟩:=bnd H
 refine To (O.apX S9 S9 A3H z z z (j:=0) z (Src.fix e) e.wide (A7.ones H9.plain a) d a f z fun o p q=>have m:A7 H9 h ([] ++ i) k:=A7.ap d a f; Ag z<|Nt<|T.ret ?_)
 obtain rfl:=Option.some.inj H
 exact T.F5 Tryz.results162 (Rv z) Lr ⟨_,z,m⟩
end Go.Proofs.X
open Go Go.Proofs Go.Sl Go.Dm
namespace Go.Proofs.X
theorem Q7 : A1j Tryz.prog 144 = some (25,1,24):=by kernel_rfl
theorem F4 : X9 Tryz.prog 25 = some (false,1):=by kernel_rfl
theorem B9T {h:PH} {x1:Int} {r_0:Int} (H:bits_Len64 x1 = some r_0):∀ L,H5 Tryz.prog 269 [.int .u64 x1] h (L) (fun v h' L'=>v = .int .i64 r_0∧L' = L):=by
 intro L
 refine H5.enter Tryz.func269 z Tryz.ntmps269 z<|Sr<|Ag z<|Nt<|Sq<|Sr<|Mv z<|Vv (V.ge z z)<|Nt<|T.cH H z (fun H=>?_) (fun H=>?_)
 ·exact dead H
 refine T.skip<|Th<|Sq<|Sr<|Mv z<|Vv (V.ge z z)<|Nt<|T.cH H z (fun H=>?_) (fun H=>?_)
 ·exact dead H
 refine T.skip<|Th<|Sq<|Sr<|Mv z<|Vv (V.ge z z)<|Nt<|T.cH H z (fun H=>?_) (fun H=>?_)
 ·exact dead H
 refine T.skip<|Th<|Sr<|Mv z<|Mv z ?_
 obtain ⟨e,a,H⟩:=bnd H
 refine Vv (V.A9Z Tryz.underlying304 Tryz.underlying5 z a) ?_
 obtain ⟨f,b,H⟩:=bnd H
 refine Vv (V.B8j Tryz.underlying9 z z b) ?_
 obtain ⟨g,c,H⟩:=bnd H
 refine Vv (V.A9Z Tryz.underlying5 Tryz.underlying3 z c) ?_
 obtain ⟨i,d,H⟩:=bnd H
 refine Vv (V.L8 z z d)<|Ag z<|Nt<|T.ret ?_
 obtain rfl:=Option.some.inj H
 exact T.F5 Tryz.results269 (Rv z) Lr ⟨z,z⟩
theorem B1U {h:PH} {x1:Int} {r_0:Int} (H:bits_Len x1 = some r_0):∀ L,H5 Tryz.prog 170 [.int .u64 x1] h (L) (fun v h' L'=>v = .int .i64 r_0∧L' = L):=by
 intro L
 refine H5.enter Tryz.func170 z Tryz.ntmps170 z<|Sr<|Ag z<|Nt<|Sq<|Cf z<|T.skip<|Th<|Sr<|Mv z ?_
 obtain ⟨d,a,H⟩:=bnd H
 refine To (O.C8 z (B9T a _) z fun e f g i b=>?_)
 obtain ⟨rfl,c⟩:=b
 refine I9 _ c<|Ag z<|Nt<|T.ret ?_
 obtain rfl:=Option.some.inj H
 exact T.F5 Tryz.results170 (Rv z) Li ⟨z,z⟩
theorem C1U {h:PH} {pv0:Value} {pcs0:List (List Value)} {data1:List Int} (pr0:A7 (VI .i64) h pcs0 data1) {a3:Int} {b4:Int} {q_0:List Int} (H:C0R data1 a3 b4 = some q_0):∀ L,H5 Tryz.prog 259 [pv0,.int .i64 a3,.int .i64 b4] h (D8 3 1 pv0 pcs0::L) (fun v h' L'=>∃ ls0,v = .tuple #[]∧L' = D8 3 1 pv0 ls0::L∧A7 (VI .i64) h' ls0 q_0):=by
 intro L
 refine H5.enter Tryz.func259 z Tryz.ntmps259 z<|Sr<|Mv z ?_
 obtain ⟨m,n,H⟩:=bnd H
 refine Vv (V.L8 z z n)<|Ag z<|Nt<|T.A4J ?_
 obtain ⟨d,o,p⟩:=N7 H
 refine T.O5 (α:=Unit) [0] z (fun _u=>[]) (fun _u=>D8 3 1 pv0 pcs0::L) (fun _u hh=>d = ()) ?_ ?_
 ·have H:=o
  refine Bl<|T.N8 (α:=Nat×Int) [0,1,2] z (fun ⟨b,a⟩=>[(6,.int .i64 a)]) (fun ⟨b,a⟩=>D8 3 1 pv0 pcs0::L) (fun ⟨b,a⟩ hh=>iter (B4R data1 a3 b4) b a = some d) (fun ⟨b,a⟩=>b) (FUEL,m) ⟨z,trivial⟩ z H ?_
  rintro ⟨b,a⟩ N P q
  obtain ⟨r,S,rfl,H,e⟩:=I4 q
  refine T.norm [6,0,1,2] z<|T.fl ?_
  refine Sq<|Sr<|Mv z<|Mv z<|Vv (V.lt z z)<|Nt<|T.cH H z (fun H=>?_) (fun H=>?_)
  ·refine T.skip<|Th<|Sq<|Bl<|Sr<|Mv z<|Ag z<|Nt<|T.A4J ?_
   obtain ⟨f,s,w⟩:=N7 H
   refine T.O5 (α:=Unit) [0,1,2,6] z (fun _u=>[]) (fun _u=>D8 3 1 pv0 pcs0::L) (fun _u hh=>f = ()) ?_ ?_
   ·have H:=s
    refine Bl<|T.N8 (α:=Nat) [0,1,2,6,7] z (fun c=>[]) (fun c=>D8 3 1 pv0 pcs0::L) (fun c hh=>iter (B5r data1 a3 a) c () = some f) (fun c=>c) FUEL trivial z H ?_
    rintro c U W x
    obtain ⟨X,Y,rfl,H,y⟩:=I4 x
    refine T.norm [0,1,2,6,7] z<|T.fl ?_
    refine Sq<|Sq<|T.O8 (t:=(.v 0 (.v 1 (.v 2 (.v 3 (.v 4 (.v 5 (.v 6 (.v 7 (.v 8 (.v 9 (.v 10 (.v 11 (.v 12 (.alt 13 (.g (.v 14 .done)) .no))))))))))))))) 16 1 1 rfl rfl I8 (by kernel_rfl) ?_
    refine Tm z z<|Tm z z<|Tv z (V.gt z z)<|Tm z z<|T.bH 19 H z (fun H=>?_) (fun H=>?_)
    ·refine Tm z z<|Tm z z ?_
     obtain ⟨Z,i,H⟩:=bnd H
     obtain ⟨aa,A,rfl⟩:=A7.get pr0 i
     refine Tv z (Val.XA fun _ _ _=>V.ixR D6 z z (j:=0) z (A7.bd pr0 i))<|Tv z (Val.XA fun _ _ _=>V.ldR D9 z (j:=0) z A z)<|Tm z z<|Tm z z ?_
     obtain ⟨ab,B,H⟩:=bnd H
     refine Tv z (V.A0M z z B) ?_
     obtain ⟨ac,k,H⟩:=bnd H
     obtain ⟨ad,C,rfl⟩:=A7.get pr0 k
     refine Tv z (Val.XA fun _ _ _=>V.ixR D6 z z (j:=0) z (A7.bd pr0 k))<|Tv z (Val.XA fun _ _ _=>V.ldR D9 z (j:=0) z C z) ?_
     obtain ⟨ae,D,H⟩:=bnd H
     refine Tp z z (SX.two (XA.fr [0] Lr z) (XA.fr [0] Lr z)) (O.C8 z (B9r D _) z fun af ag ai aj E=>?_) T.Q9
     obtain ⟨rfl,G⟩:=E
     refine I9 _ G<|T.M6 Li<|Tv z (V.M0 z z)<|T.R5 (SX.two (XA.fr [0] Lr z) (XA.fr [0] Lr z))<|Th<|T.cH H z (fun H=>?_) (fun H=>?_)
     ·exact dead H
     refine T.exit<|Te<|Te<|have H:=D7 H y; Be<|Th<|T.met () Li H (A9.app trivial ⟨z,z,z,z,trivial⟩) z
    exact dead H
   rintro _ ak am I
   have H:=J5 I w
   refine T.norm [0,1,2,6] z<|T.fl ?_
   refine Bn<|Th<|Rg<|Mv z ?_
   obtain ⟨J,K,H⟩:=bnd H
   refine Vv (V.L8 z z K)<|Ag z<|Nt<|T.again (r,J) Li (Nat.lt_succ_self _) (G8 H e) (A9.app ⟨z,trivial⟩ ⟨z,z,z,trivial⟩) z
  refine T.exit<|Te<|Te<|have H:=D7 H e; Be<|Th<|T.met () Li H (A9.app trivial ⟨z,trivial⟩) z
 rintro _ an ao M
 have H:=J5 M p
 refine T.norm [0] z<|T.fl ?_
 obtain rfl:=Option.some.inj H
 exact T.B2D Tryz.results259 Li ⟨_,z,z,pr0.u⟩
theorem C2l (n:Nat):∀ {h:PH} {pv0:Value} {pcs0:List (List Value)} {data1:List Int} (pr0:A7 (VI .i64) h pcs0 data1) {a3:Int} {b4:Int} {limit5:Int} {q_0:List Int} (H:C1c n data1 a3 b4 limit5 = some q_0) (L:List E9),H5 Tryz.prog 169 [pv0,.int .i64 a3,.int .i64 b4,.int .i64 limit5] h (D8 3 1 pv0 pcs0::L) (fun v h' L'=>∃ ls0,v = .tuple #[]∧L' = D8 3 1 pv0 ls0::L∧A7 (VI .i64) h' ls0 q_0):=by
  induction n with
  | zero=>intros; rename_i H _; cases H
  | succ n self=>
    intro h pv0 pcs0 data1 pr0 a3 b4 limit5 q_0 H L
    refine H5.enter Tryz.func169 z Tryz.ntmps169 z<|Sr<|Ag z<|Nt<|Sr<|Ag z<|Nt ?_
    obtain ⟨b,c,d⟩:=N7 H
    have H:=c
    refine Bl<|T.N8 (α:=Nat) [0,1,2] z (fun a=>[]) (fun a=>D8 3 1 pv0 pcs0::L) (fun a hh=>iter (B4U data1 a3 b4) a () = some b) (fun a=>a) FUEL trivial z H ?_
    rintro a o p e
    obtain ⟨q,r,rfl,H,f⟩:=I4 e
    refine T.norm [0,1,2] z<|T.fl ?_
    refine Bl<|Sr<|Mv z<|Mv z ?_
    obtain ⟨s,g,H⟩:=bnd H
    refine Vv (V.A0M z z g)<|Ag z<|Nt<|Sq<|Sr<|Mv z<|Vv (V.le z z)<|Nt<|T.cH H z (fun H=>?_) (fun H=>?_)
    ·refine Sr<|Mv z<|Mv z<|Mv z ?_
     obtain ⟨t,i,H⟩:=bnd H
     refine To (O.C8 z (C1U pr0.u i _) z fun w x y A j=>?_)
     obtain ⟨B,rfl,k,m⟩:=j
     refine I9 _ k<|Nt<|T.ret<|Tr<|Br<|Tr<|have H:=D7 H f; Br<|have H:=J5 H d; ?_
     obtain rfl:=Option.some.inj H
     exact T.C3J Tryz.results169 Li ⟨_,z,z,m⟩
    exact dead H
theorem B3S {h:PH} {pv0:Value} {pcs0:List (List Value)} {x1:List Int} (pr0:A7 (VI .i64) h pcs0 x1) {q_0:List Int} (H:B4f x1 = some q_0):∀ L,H5 Tryz.prog 96 [pv0] h (D8 3 1 pv0 pcs0::L) (fun v h' L'=>∃ ls0,v = .tuple #[]∧L' = D8 3 1 pv0 ls0::L∧A7 (VI .i64) h' ls0 q_0):=by
 intro L
 refine H5.enter Tryz.func96 z Tryz.ntmps96 z<|Sr<|Mv z<|Vv (V.A2E D6 z (j:=0) z pr0.len)<|Ag z<|Nt<|Rg<|Mv z<|Mv z<|Mv z ?_
 obtain ⟨k,a,H⟩:=bnd H
 refine Vv (V.A9Z Tryz.underlying3 Tryz.underlying240 z a) ?_
 obtain ⟨m,b,H⟩:=bnd H
 refine To (O.C8 z (B1U b _) z fun n o p q c=>?_)
 obtain ⟨rfl,d⟩:=c
 refine I9 _ d ?_
 obtain ⟨r,e,H⟩:=bnd H
 refine To (O.C8 z (C2l _ pr0.u e _) z fun s t w x f=>?_)
 obtain ⟨y,rfl,g,i⟩:=f
 refine I9 _ g<|Ni ?_
 obtain rfl:=Option.some.inj H
 exact T.B2D Tryz.results96 Li ⟨_,z,z,i⟩
theorem B5K {h:PH} {pv0:Value} {pcs0:List (List Value)} {data1:List (List Int)} (pr0:A7 (VSl (VI .i64) 1) h pcs0 data1) {a3:Int} {b4:Int} {pv3:Value} {cmp5:(List Int)→(List Int)→Option Int} (pr3:A7w h pv3 cmp5) {q_0:List (List Int)} (H:B3C data1 a3 b4 cmp5 = some q_0):∀ L,H5 Tryz.prog 396 [pv0,.int .i64 a3,.int .i64 b4,pv3] h (D8 25 1 pv0 pcs0::L) (fun v h' L'=>∃ ls0,v = .tuple #[]∧L' = D8 25 1 pv0 ls0::L∧A7 (VSl (VI .i64) 1) h' ls0 q_0):=by
 intro L
 refine H5.enter Tryz.func396 z Tryz.ntmps396 z<|Sr<|Mv z ?_
 obtain ⟨m,n,H⟩:=bnd H
 refine Vv (V.L8 z z n)<|Ag z<|Nt<|T.A4J ?_
 obtain ⟨d,o,p⟩:=N7 H
 refine T.O5 (α:=Unit) [0] z (fun _u=>[]) (fun _u=>D8 25 1 pv0 pcs0::L) (fun _u hh=>d = ()) ?_ ?_
 ·have H:=o
  refine Bl<|T.N8 (α:=Nat×Int) [0,1,2,3] z (fun ⟨b,a⟩=>[(8,.int .i64 a)]) (fun ⟨b,a⟩=>D8 25 1 pv0 pcs0::L) (fun ⟨b,a⟩ hh=>iter (A8w data1 a3 b4 cmp5) b a = some d) (fun ⟨b,a⟩=>b) (FUEL,m) ⟨z,trivial⟩ z H ?_
  rintro ⟨b,a⟩ X Y q
  obtain ⟨r,Z,rfl,H,e⟩:=I4 q
  refine T.norm [8,0,1,2,3] z<|T.fl ?_
  refine Sq<|Sr<|Mv z<|Mv z<|Vv (V.lt z z)<|Nt<|T.cH H z (fun H=>?_) (fun H=>?_)
  ·refine T.skip<|Th<|Sq<|Bl<|Sr<|Mv z<|Ag z<|Nt<|T.A4J ?_
   obtain ⟨f,s,w⟩:=N7 H
   refine T.O5 (α:=Unit) [0,1,2,3,8] z (fun _u=>[]) (fun _u=>D8 25 1 pv0 pcs0::L) (fun _u hh=>f = ()) ?_ ?_
   ·have H:=s
    refine Bl<|T.N8 (α:=Nat) [0,1,2,3,8,9] z (fun c=>[]) (fun c=>D8 25 1 pv0 pcs0::L) (fun c hh=>iter (A8R data1 a3 cmp5 a) c () = some f) (fun c=>c) FUEL trivial z H ?_
    rintro c x aa y
    obtain ⟨ab,ac,rfl,H,A⟩:=I4 y
    refine T.norm [0,1,2,3,8,9] z<|T.fl ?_
    refine Sq<|Sq<|T.O8 (t:=(.v 0 (.v 1 (.v 2 (.v 3 (.v 4 (.v 5 (.v 6 (.v 7 (.v 8 (.v 9 (.v 10 (.v 11 (.v 12 (.v 13 (.alt 14 (.g (.v 15 (.v 16 .done))) .no)))))))))))))))) 18 1 1 rfl rfl I8 (by kernel_rfl) ?_
    refine Tm z z<|Tm z z<|Tv z (V.gt z z)<|Tm z z<|T.bH 21 H z (fun H=>?_) (fun H=>?_)
    ·refine Tm z z<|Tm z z<|Tm z z ?_
     obtain ⟨ad,i,H⟩:=bnd H
     obtain ⟨ae,B,⟨af,rfl,C⟩⟩:=A7.get pr0 i
     refine Tv z (Val.XA fun _ _ _=>V.ixR Q7 z z (j:=0) z (A7.bd pr0 i))<|Tv z (Val.XA fun _ _ _=>V.ldR F4 z (j:=0) z B z)<|Tm z z<|Tm z z ?_
     obtain ⟨ag,D,H⟩:=bnd H
     refine Tv z (V.A0M z z D) ?_
     obtain ⟨ai,k,H⟩:=bnd H
     obtain ⟨aj,E,⟨ak,rfl,G⟩⟩:=A7.get pr0 k
     refine Tv z (Val.XA fun _ _ _=>V.ixR Q7 z z (j:=0) z (A7.bd pr0 k))<|Tv z (Val.XA fun _ _ _=>V.ldR F4 z (j:=0) z E z) ?_
     obtain ⟨am,I,H⟩:=bnd H
     obtain ⟨an,ao,ap,J,K⟩:=A7w.call (pr3.u (g:=x)) C.u G.u I
     refine Tp z z (SX.two (XA.fr [0] Lr z) (XA.fr [0] Lr z)) (O.A1m z J z (K _) z fun aq ar au aw M=>?_) T.Q9
     obtain ⟨rfl,N⟩:=M
     refine I9 _ N<|T.M6 Li<|Tv z (V.lt z z)<|Tv z (V.M0 z z)<|T.R5 (SX.two (XA.fr [0] Lr z) (XA.fr [0] Lr z))<|Th<|T.cH H z (fun H=>?_) (fun H=>?_)
     ·exact dead H
     refine T.exit<|Te<|Te<|have H:=D7 H A; Be<|Th<|T.met () Li H (A9.app trivial ⟨z,z,z,z,z,trivial⟩) z
    exact dead H
   rintro _ ax ay P
   have H:=J5 P w
   refine T.norm [0,1,2,3,8] z<|T.fl ?_
   refine Bn<|Th<|Rg<|Mv z ?_
   obtain ⟨S,U,H⟩:=bnd H
   refine Vv (V.L8 z z U)<|Ag z<|Nt<|T.again (r,S) Li (Nat.lt_succ_self _) (G8 H e) (A9.app ⟨z,trivial⟩ ⟨z,z,z,z,trivial⟩) z
  refine T.exit<|Te<|Te<|have H:=D7 H e; Be<|Th<|T.met () Li H (A9.app trivial ⟨z,trivial⟩) z
 rintro _ aA aB W
 have H:=J5 W p
 refine T.norm [0] z<|T.fl ?_
 obtain rfl:=Option.some.inj H
 exact T.B2D Tryz.results396 Li ⟨_,z,z,pr0.u⟩
theorem B6d (n:Nat):∀ {h:PH} {pv0:Value} {pcs0:List (List Value)} {data1:List (List Int)} (pr0:A7 (VSl (VI .i64) 1) h pcs0 data1) {a3:Int} {b4:Int} {limit5:Int} {pv4:Value} {cmp6:(List Int)→(List Int)→Option Int} (pr4:A7w h pv4 cmp6) {q_0:List (List Int)} (H:B3D n data1 a3 b4 limit5 cmp6 = some q_0) (L:List E9),H5 Tryz.prog 382 [pv0,.int .i64 a3,.int .i64 b4,.int .i64 limit5,pv4] h (D8 25 1 pv0 pcs0::L) (fun v h' L'=>∃ ls0,v = .tuple #[]∧L' = D8 25 1 pv0 ls0::L∧A7 (VSl (VI .i64) 1) h' ls0 q_0):=by
  induction n with
  | zero=>intros; rename_i H _; cases H
  | succ n self=>
    intro h pv0 pcs0 data1 pr0 a3 b4 limit5 pv4 cmp6 pr4 q_0 H L
    refine H5.enter Tryz.func382 z Tryz.ntmps382 z<|Sr<|Ag z<|Nt<|Sr<|Ag z<|Nt ?_
    obtain ⟨b,c,d⟩:=N7 H
    have H:=c
    refine Bl<|T.N8 (α:=Nat) [0,1,2,4] z (fun a=>[]) (fun a=>D8 25 1 pv0 pcs0::L) (fun a hh=>iter (A8B data1 a3 b4 cmp6) a () = some b) (fun a=>a) FUEL trivial z H ?_
    rintro a o p e
    obtain ⟨q,r,rfl,H,f⟩:=I4 e
    refine T.norm [0,1,2,4] z<|T.fl ?_
    refine Bl<|Sr<|Mv z<|Mv z ?_
    obtain ⟨s,g,H⟩:=bnd H
    refine Vv (V.A0M z z g)<|Ag z<|Nt<|Sq<|Sr<|Mv z<|Vv (V.le z z)<|Nt<|T.cH H z (fun H=>?_) (fun H=>?_)
    ·refine Sr<|Mv z<|Mv z<|Mv z<|Mv z ?_
     obtain ⟨t,i,H⟩:=bnd H
     refine To (O.C8 z (B5K pr0.u pr4.u i _) z fun w x y A j=>?_)
     obtain ⟨B,rfl,k,m⟩:=j
     refine I9 _ k<|Nt<|T.ret<|Tr<|Br<|Tr<|have H:=D7 H f; Br<|have H:=J5 H d; ?_
     obtain rfl:=Option.some.inj H
     exact T.C3J Tryz.results382 Li ⟨_,z,z,m⟩
    exact dead H
theorem B4m {h:PH} {pv0:Value} {pcs0:List (List Value)} {x1:List (List Int)} (pr0:A7 (VSl (VI .i64) 1) h pcs0 x1) {pv1:Value} {cmp3:(List Int)→(List Int)→Option Int} (pr1:A7w h pv1 cmp3) {q_0:List (List Int)} (H:B0g x1 cmp3 = some q_0):∀ L,H5 Tryz.prog 348 [pv0,pv1] h (D8 25 1 pv0 pcs0::L) (fun v h' L'=>∃ ls0,v = .tuple #[]∧L' = D8 25 1 pv0 ls0::L∧A7 (VSl (VI .i64) 1) h' ls0 q_0):=by
 intro L
 refine H5.enter Tryz.func348 z Tryz.ntmps348 z<|Sr<|Mv z<|Vv (V.A2E Q7 z (j:=0) z pr0.len)<|Ag z<|Nt<|Rg<|Mv z<|Mv z<|Mv z ?_
 obtain ⟨k,a,H⟩:=bnd H
 refine Vv (V.A9Z Tryz.underlying3 Tryz.underlying240 z a) ?_
 obtain ⟨m,b,H⟩:=bnd H
 refine To (O.C8 z (B1U b _) z fun n o p q c=>?_)
 obtain ⟨rfl,d⟩:=c
 refine I9 _ d<|Mv z ?_
 obtain ⟨r,e,H⟩:=bnd H
 refine To (O.C8 z (B6d _ pr0.u pr1.u e _) z fun s t w x f=>?_)
 obtain ⟨y,rfl,g,i⟩:=f
 refine I9 _ g<|Ni ?_
 obtain rfl:=Option.some.inj H
 exact T.B2D Tryz.results348 Li ⟨_,z,z,i⟩
end Go.Proofs.X
open Go Go.Proofs Go.Sl Go.Dm
namespace Go.Proofs.X
theorem A2z : zer Tryz.prog 25 = some (.slice none 0 0):=by kernel_rfl
theorem B9B {h:PH} {x1:Int} {y2:Int} {r_0:Int} {r_1:Int} (H:bits_Mul64 x1 y2 = some (r_0,r_1)):∀ L,H5 Tryz.prog 271 [.int .u64 x1,.int .u64 y2] h (L) (fun v h' L'=>v = .tuple #[.int .u64 r_0,.int .u64 r_1]∧L' = L):=by
 intro L
 refine H5.enter Tryz.func271 z Tryz.ntmps271 z<|Sr<|Ag z<|Ag z<|Nt<|Sr<|Mv z ?_
 obtain ⟨t,a,H⟩:=bnd H
 refine Vv (V.C1O z z a)<|Ag z<|Nt<|Sr<|Mv z ?_
 obtain ⟨u,b,H⟩:=bnd H
 refine Vv (V.B2U z z b)<|Ag z<|Nt<|Sr<|Mv z ?_
 obtain ⟨w,c,H⟩:=bnd H
 refine Vv (V.C1O z z c)<|Ag z<|Nt<|Sr<|Mv z ?_
 obtain ⟨x,d,H⟩:=bnd H
 refine Vv (V.B2U z z d)<|Ag z<|Nt<|Sr<|Mv z<|Mv z ?_
 obtain ⟨y,e,H⟩:=bnd H
 refine Vv (V.C5Z z z e)<|Ag z<|Nt<|Sr<|Mv z<|Mv z ?_
 obtain ⟨A,f,H⟩:=bnd H
 refine Vv (V.C5Z z z f)<|Mv z ?_
 obtain ⟨B,g,H⟩:=bnd H
 refine Vv (V.B2U z z g) ?_
 obtain ⟨C,i,H⟩:=bnd H
 refine Vv (V.C6I z z i)<|Ag z<|Nt<|Sr<|Mv z ?_
 obtain ⟨D,j,H⟩:=bnd H
 refine Vv (V.C1O z z j)<|Ag z<|Nt<|Sr<|Mv z ?_
 obtain ⟨E,k,H⟩:=bnd H
 refine Vv (V.B2U z z k)<|Ag z<|Nt<|Sq<|T.norm [0,1,6,7,9,12,13] z<|Rg<|Mv z<|Mv z<|Mv z ?_
 obtain ⟨G,m,H⟩:=bnd H
 refine Vv (V.C5Z z z m) ?_
 obtain ⟨I,n,H⟩:=bnd H
 refine Vv (V.C6I z z n)<|Ag z<|Nt<|Sr<|Mv z<|Mv z ?_
 obtain ⟨J,o,H⟩:=bnd H
 refine Vv (V.C5Z z z o)<|Mv z ?_
 obtain ⟨K,p,H⟩:=bnd H
 refine Vv (V.C6I z z p)<|Mv z ?_
 obtain ⟨M,q,H⟩:=bnd H
 refine Vv (V.B2U z z q) ?_
 obtain ⟨N,r,H⟩:=bnd H
 refine Vv (V.C6I z z r)<|Ag z<|Nt<|Sr<|Mv z<|Mv z ?_
 obtain ⟨O,s,H⟩:=bnd H
 refine Vv (V.C5Z z z s)<|Ag z<|Nt<|T.ret ?_
 obtain ⟨rfl,rfl⟩:=inj2 H
 exact T.F5 Tryz.results271 (RVs.cons (RV.tmp z) (Rv z)) Lr ⟨z,z⟩
theorem C3a {h:PH} {x1:Int} {y2:Int} {r_0:Int} {r_1:Int} (H:bits_Mul x1 y2 = some (r_0,r_1)):∀ L,H5 Tryz.prog 172 [.int .u64 x1,.int .u64 y2] h (L) (fun v h' L'=>v = .tuple #[.int .u64 r_0,.int .u64 r_1]∧L' = L):=by
 intro L
 refine H5.enter Tryz.func172 z Tryz.ntmps172 z<|Sr<|Ag z<|Ag z<|Nt<|Sq<|Cf z<|T.skip<|Th<|Sr<|Mv z<|Mv z ?_
 obtain ⟨⟨d,e⟩,a,H⟩:=bnd H
 refine To (O.C8 z (B9B a _) z fun f g i j b=>?_)
 obtain ⟨rfl,c⟩:=b
 refine I9 _ c<|Mv z<|Vv (V.ext z z)<|Vv (V.ext z z)<|Ag z<|Ag z<|Nt<|Sr<|Mv z<|Mv z<|Ag z<|Ag z<|Nt<|T.ret ?_
 obtain ⟨rfl,rfl⟩:=inj2 H
 exact T.F5 Tryz.results172 (RVs.cons (RV.tmp z) (Rv z)) Li ⟨z,z⟩
theorem A4r {h:PH} {pv0:Value} {x1:List Int} (pr0:G9 (VI .i64) 1 h pv0 x1) {count2:Int} {r_0:List Int} (H:A8v x1 count2 = some r_0):∀ L,H5 Tryz.prog 105 [pv0,.int .i64 count2] h (L) (fun v h' L'=>∃ cs0,L' = D8 3 1 v cs0::L∧A7 (VI .i64) h' cs0 r_0):=by
 intro L
 refine H5.enter Tryz.func105 z Tryz.ntmps105 z<|Sr<|Ag z<|Nt<|Sq<|Sr<|Mv z<|Vv (V.lt z z)<|Nt<|T.cH H z (fun H=>?_) (fun H=>?_)
 ·exact dead H
 refine T.skip<|Th<|Sr<|Mv z<|Vv (V.P6 D6 z pr0) ?_
 obtain ⟨ap,M,H⟩:=bnd H
 refine Vv (V.A9Z Tryz.underlying3 Tryz.underlying240 z M)<|Mv z ?_
 obtain ⟨aq,N,H⟩:=bnd H
 refine Vv (V.A9Z Tryz.underlying3 Tryz.underlying240 z N) ?_
 obtain ⟨⟨ar,au⟩,P,H⟩:=bnd H
 refine To (O.C8 z (C3a P _) z fun aw p ax ay S=>?_)
 obtain ⟨rfl,U⟩:=S
 refine I9 _ U<|Mv z<|Vv (V.ext z z)<|Vv (V.ext z z)<|Ag z<|Ag z<|Nt<|Sq<|Sr<|Mv z<|Vv (V.gt z z)<|Mv z<|T.bH 23 H z (fun H=>?_) (fun H=>?_)
 ·exact dead H
 refine Mv z<|Vv (V.gt z z)<|Vv (V.J9 z z)<|Nt<|T.cH H z (fun H=>?_) (fun H=>?_)
 ·exact dead H
 refine T.skip<|Th<|Sr<|Mv z ?_
 obtain ⟨q,W,H⟩:=bnd H
 refine Vv (V.A9Z Tryz.underlying240 Tryz.underlying3 z W) ?_
 obtain ⟨m,w,H⟩:=bnd H
 refine To (O.mkX D6 Q4 z z z z w z fun n aA aB=>have r:A7 (VI .i64) p _ m:=A7.rep z w; Ag z<|Nt<|Sr<|Mv z<|Mv z ?_)
 obtain ⟨o,y,s⟩:=G9.row (pr0.u (g:=p))
 obtain ⟨⟨A,X⟩,B,H⟩:=bnd H
 have C:0 + m.length≤List.length (α:=List Value) (List.replicate q.toNat [.int .i64 (0:Int)]):=by rw [r.len]; omega
 refine To (O.copy D6 z z (j:=0) z (fun _ iv=>D1.C8X iv (j:=0) z r.len) C (B7m.fix y) y.wide (A7.ones VI.plain s) z<|T.int (C7N s B).symm<|have Y:A7 (VI .i64) p (A6z (List.replicate q.toNat [.int .i64 (0:Int)]) 0 (List.take (min (List.length o) m.length) o)) A:=A7.cp r s C B; Ag z<|Nt<|Sq ?_)
 obtain ⟨D,Z,aa⟩:=N7 H
 refine T.O5 (α:=(List Int)×(List (List Value))) [] z (fun ⟨f,k⟩=>[(7,n)]) (fun ⟨f,k⟩=>D8 3 1 n k::L) (fun ⟨f,k⟩ hh=>D = f∧A7 (VI .i64) hh k f) ?_ ?_
 ·have H:=Z
  refine Bl<|T.N8 (α:=Nat×(List Int)×Int×(List (List Value))) [] z (fun ⟨e,d,a,b⟩=>[(7,n),(8,.int .i64 a)]) (fun ⟨e,d,a,b⟩=>D8 3 1 n b::L) (fun ⟨e,d,a,b⟩ hh=>iter B4Y e (d,a) = some D∧A7 (VI .i64) hh b d) (fun ⟨e,d,a,b⟩=>e) (FUEL,A,X,(A6z (List.replicate q.toNat [.int .i64 (0:Int)]) 0 (List.take (min (List.length o) m.length) o))) ⟨z,z,trivial⟩ z ⟨H,Y⟩ ?_
  rintro ⟨e,d,a,b⟩ ab aC ⟨ac,c⟩
  obtain ⟨ad,aD,rfl,H,E⟩:=I4 ac
  refine T.norm [7,8] z<|T.fl ?_
  refine Sq<|Sr<|Mv z<|Mv z<|Vv (V.A2E D6 z (j:=0) z c.len)<|Vv (V.lt z z)<|Nt<|T.cH H z (fun H=>?_) (fun H=>?_)
  ·refine T.skip<|Th<|Bl<|T.O8 (t:=(.v 0 (.v 1 (.v 2 (.x 3 (.v 4 (.v 5 (.x 6 (.alt 7 (.g (.v 8 (.alt 9 .done .no))) .no))))))))) 7 1 0 rfl rfl I8 (by kernel_rfl) ?_
   refine Tm z z<|Tm z z<|Tm z z ?_
   obtain ⟨aE,ae,H⟩:=bnd H
   refine T.tx z z (Val.XA fun _ _ _=>V.C6e D6 z (j:=0) z c.len (.inr ⟨_,_,z,z⟩) (.inl ⟨z,z⟩) (A9z ae)) z Calm.i<|Tm z z<|Tm z z ?_
   obtain ⟨aG,af,H⟩:=bnd H
   refine T.tx z z (Val.XA fun _ _ _=>V.C6e D6 z (j:=0) z c.len (.inl ⟨z,z⟩) (.inr ⟨_,_,z,z⟩) (A9z af)) z Calm.i ?_
   obtain ⟨aI,G,H⟩:=bnd H
   obtain ⟨aJ,ag,H⟩:=bnd H
   refine T.wide 0 z fun ai=>?_
   obtain ⟨⟨I,aK⟩,J,H⟩:=bnd H
   have K:a.toNat + ((d.length:Int).toNat - a.toNat)≤List.length (α:=List Value) b:=C6T c.len G
   refine Tp z z (SX.two (XA.fr [] Lr z) (XA.fr [0] Lr z)) (O.copy D6 z z (j:=0) z (fun _ iv=>D1.C2Y iv (j:=0) z c.len (A9z G)) K (B7m.C2Y (j:=0) z c.len (A9z ag)) (O7.take (O7.drop ai)) (A7.ones VI.plain (A7.part c (0:Int).toNat (a.toNat - (0:Int).toNat))) z ?_) T.Q9
   refine T.int (C7N (A7.part c (0:Int).toNat (a.toNat - (0:Int).toNat)) J).symm<|have aj:A7 (VI .i64) ab (A6z b a.toNat (List.take (min (List.length (List.take (a.toNat - (0:Int).toNat) (List.drop (0:Int).toNat b))) ((d.length:Int).toNat - a.toNat)) (List.take (a.toNat - (0:Int).toNat) (List.drop (0:Int).toNat b)))) I:=A7.cp c (A7.part c (0:Int).toNat (a.toNat - (0:Int).toNat)) K J; T.M6 Lr ?_
   obtain ⟨ak,am,H⟩:=bnd H
   refine Tv z (V.L8 z z am)<|Ts z z (SX.one (XA.fr [] Lr z) z) (V.asg z) z ?_ T.Q9
   refine T.R5 (SX.one (XA.fr [] Lr z) z)<|Bn<|Th<|T.again (ad,I,ak,(A6z b a.toNat (List.take (min (List.length (List.take (a.toNat - (0:Int).toNat) (List.drop (0:Int).toNat b))) ((d.length:Int).toNat - a.toNat)) (List.take (a.toNat - (0:Int).toNat) (List.drop (0:Int).toNat b))))) Li (Nat.lt_succ_self _) ⟨(G8 H E),aj⟩ (A9.app ⟨z,z,trivial⟩ trivial) z
  refine T.exit<|Te<|Te<|have H:=D7 H E; Be<|Th<|T.met (d,b) Li ⟨H,c⟩ (A9.app ⟨z,trivial⟩ trivial) z
 rintro ⟨f,k⟩ aM aN ⟨an,ao⟩
 have H:=J5 an aa
 refine T.norm [7] z<|T.fl ?_
 refine Sr<|Mv z<|Ag z<|Nt<|T.ret ?_
 obtain rfl:=Option.some.inj H
 exact T.F5 Tryz.results105 (Rv z) Li ⟨_,z,ao⟩
theorem A8y {h:PH} {pv0:Value} {pcs0:List (List Value)} {s1:List Int} (pr0:A7 (VI .i64) h pcs0 s1) {r_0:List Int} (H:A8i s1 = some r_0):∀ L,H5 Tryz.prog 97 [pv0] h (D8 3 1 pv0 pcs0::L) (fun v h' L'=>∃ cs0,L' = D8 3 1 v cs0::L∧A7 (VI .i64) h' cs0 r_0):=by
 intro L
 refine H5.enter Tryz.func97 z Tryz.ntmps97 z<|Sr<|Ag z<|Nt<|Sq<|Sr<|Mv z<|Vv (V.A2E D6 z (j:=0) z pr0.len)<|Vv (V.lt z z)<|Nt<|T.cH H z (fun H=>?_) (fun H=>?_)
 ·refine Sr<|Mv z<|Ag z<|Nt<|T.ret<|Tr ?_
  obtain rfl:=Option.some.inj H
  exact T.F5 Tryz.results97 (Rv z) Lr ⟨_,z,pr0⟩
 refine T.skip<|Th<|Sq<|Sr<|Ag z<|Nt ?_
 obtain ⟨c,g,i⟩:=N7 H
 refine T.O5 (α:=Unit) [0] z (fun _u=>[]) (fun _u=>D8 3 1 pv0 pcs0::L) (fun _u hh=>c = ()) ?_ ?_
 ·have H:=g
  refine Bl<|T.N8 (α:=Nat×Int) [0] z (fun ⟨a,b⟩=>[(3,.int .i64 b)]) (fun ⟨a,b⟩=>D8 3 1 pv0 pcs0::L) (fun ⟨a,b⟩ hh=>iter (A8A s1) a b = some c) (fun ⟨a,b⟩=>a) (FUEL,(1:Int)) ⟨z,trivial⟩ z H ?_
  rintro ⟨a,b⟩ w x k
  obtain ⟨m,y,rfl,H,d⟩:=I4 k
  refine T.norm [3,0] z<|T.fl ?_
  refine Sq<|Sr<|Mv z<|Mv z<|Vv (V.A2E D6 z (j:=0) z pr0.len)<|Vv (V.lt z z)<|Nt<|T.cH H z (fun H=>?_) (fun H=>?_)
  ·refine T.skip<|Th<|Sq<|Bl<|Sq<|T.O8 (t:=(.v 0 (.v 1 (.v 2 (.v 3 (.v 4 (.v 5 (.v 6 (.v 7 (.v 8 (.v 9 .done))))))))))) 11 1 1 rfl rfl I8 (by kernel_rfl) ?_
   refine Tm z z<|Tm z z ?_
   obtain ⟨A,e,H⟩:=bnd H
   obtain ⟨B,n,rfl⟩:=A7.get pr0 e
   refine Tv z (Val.XA fun _ _ _=>V.ixR D6 z z (j:=0) z (A7.bd pr0 e))<|Tv z (Val.XA fun _ _ _=>V.ldR D9 z (j:=0) z n z)<|Tm z z<|Tm z z ?_
   obtain ⟨C,o,H⟩:=bnd H
   refine Tv z (V.A0M z z o) ?_
   obtain ⟨D,f,H⟩:=bnd H
   obtain ⟨E,p,rfl⟩:=A7.get pr0 f
   refine Tv z (Val.XA fun _ _ _=>V.ixR D6 z z (j:=0) z (A7.bd pr0 f))<|Tv z (Val.XA fun _ _ _=>V.ldR D9 z (j:=0) z p z)<|Tv z (V.eq z z)<|T.R5 (SX.two (XA.fr [0] Lr z) (XA.fr [0] Lr z))<|Th<|T.cH H z (fun H=>?_) (fun H=>?_)
   ·exact dead H
   refine T.skip<|Bn<|Th<|Rg<|Mv z ?_
   obtain ⟨q,r,H⟩:=bnd H
   refine Vv (V.L8 z z r)<|Ag z<|Nt<|T.again (m,q) Li (Nat.lt_succ_self _) (G8 H d) (A9.app ⟨z,trivial⟩ ⟨z,trivial⟩) z
  refine T.exit<|Te<|Te<|have H:=D7 H d; Be<|Th<|T.met () Li H (A9.app trivial ⟨z,trivial⟩) z
 rintro _ G I s
 have H:=J5 s i
 refine T.norm [0] z<|T.fl ?_
 refine Sr<|Mv z<|Ag z<|Nt<|T.ret ?_
 obtain rfl:=Option.some.inj H
 exact T.F5 Tryz.results97 (Rv z) Li ⟨_,z,pr0.u⟩
theorem B0o {h:PH} {pv0:Value} {pcs0:List (List Value)} {s1:List (List Int)} (pr0:A7 (VSl (VI .i64) 1) h pcs0 s1) {pv1:Value} {eq3:(List Int)→(List Int)→Option Bool} (pr1:B7v h pv1 eq3) {r_0:List (List Int)} (H:A6F s1 eq3 = some r_0):∀ L,H5 Tryz.prog 350 [pv0,pv1] h (D8 25 1 pv0 pcs0::L) (fun v h' L'=>∃ cs0,L' = D8 25 1 v cs0::L∧A7 (VSl (VI .i64) 1) h' cs0 r_0):=by
 intro L
 refine H5.enter Tryz.func350 z Tryz.ntmps350 z<|Sr<|Ag z<|Nt<|Sq<|Sr<|Mv z<|Vv (V.A2E Q7 z (j:=0) z pr0.len)<|Vv (V.lt z z)<|Nt<|T.cH H z (fun H=>?_) (fun H=>?_)
 ·refine Sr<|Mv z<|Ag z<|Nt<|T.ret<|Tr ?_
  obtain rfl:=Option.some.inj H
  exact T.F5 Tryz.results350 (Rv z) Lr ⟨_,z,pr0⟩
 refine T.skip<|Th<|Sq<|Sr<|Ag z<|Nt ?_
 obtain ⟨o,p,q⟩:=N7 H
 have H:=p
 refine Bl<|T.N8 (α:=Nat) [0,1,5] z (fun a=>[]) (fun a=>D8 25 1 pv0 pcs0::L) (fun a hh=>iter (A4D s1 eq3) a () = some o) (fun a=>a) FUEL trivial z H ?_
 rintro a r ab s
 obtain ⟨ac,ad,rfl,H,w⟩:=I4 s
 refine T.norm [0,1,5] z<|T.fl ?_
 refine Sq<|Sr<|Mv z<|Mv z<|Vv (V.A2E Q7 z (j:=0) z pr0.len)<|Vv (V.lt z z)<|Nt<|T.cH H z (fun H=>?_) (fun H=>?_)
 ·refine T.skip<|Th<|Sq<|Bl<|Sq<|T.O8 (t:=(.v 0 (.v 1 (.v 2 (.v 3 (.v 4 (.v 5 (.v 6 (.v 7 (.v 8 (.v 9 (.alt 10 .done .no)))))))))))) 12 1 1 rfl rfl I8 (by kernel_rfl) ?_
  refine Tm z z<|Tm z z<|Tm z z ?_
  obtain ⟨ae,d,H⟩:=bnd H
  obtain ⟨af,x,⟨ag,rfl,y⟩⟩:=A7.get pr0 d
  refine Tv z (Val.XA fun _ _ _=>V.ixR Q7 z z (j:=0) z (A7.bd pr0 d))<|Tv z (Val.XA fun _ _ _=>V.ldR F4 z (j:=0) z x z)<|Tm z z<|Tm z z ?_
  obtain ⟨ai,A,H⟩:=bnd H
  refine Tv z (V.A0M z z A) ?_
  obtain ⟨aj,e,H⟩:=bnd H
  obtain ⟨ak,B,⟨am,rfl,C⟩⟩:=A7.get pr0 e
  refine Tv z (Val.XA fun _ _ _=>V.ixR Q7 z z (j:=0) z (A7.bd pr0 e))<|Tv z (Val.XA fun _ _ _=>V.ldR F4 z (j:=0) z B z) ?_
  obtain ⟨an,D,H⟩:=bnd H
  obtain ⟨ao,ap,aq,E,G⟩:=B7v.call (pr1.u (g:=r)) y.u C.u D
  refine Tp z z (SX.two (XA.fr [0] Lr z) (XA.fr [0] Lr z)) (O.A1m z E z (G _) z fun ar au aw ax I=>?_) T.Q9
  obtain ⟨rfl,J⟩:=I
  refine I9 _ J<|T.R5 (SX.two (XA.fr [0] Li z) (XA.fr [0] Li z))<|Th<|T.cH H z (fun H=>?_) (fun H=>?_)
  ·refine Sr<|Mv z<|Mv z ?_
   obtain ⟨ay,K,H⟩:=bnd H
   refine Vv (V.C6e Q7 z (j:=0) z pr0.len (.inr ⟨_,_,z,z⟩) (.inl ⟨z,z⟩) (A9z K))<|Ag z<|Nt<|Sq<|Sr<|Ag z<|Nt ?_
   obtain ⟨f,M,N⟩:=N7 H
   refine T.O5 (α:=Unit) [0,5] z (fun _u=>[]) (fun _u=>D8 25 1 pv0 pcs0::L) (fun _u hh=>f = ()) ?_ ?_
   ·have H:=M
    refine Bl<|T.N8 (α:=Nat) [0,5,6,7] z (fun b=>[]) (fun b=>D8 25 1 pv0 pcs0::L) (fun b hh=>iter (A4C s1) b () = some f) (fun b=>b) FUEL trivial z H ?_
    rintro b aA aB P
    obtain ⟨aC,aD,rfl,H,S⟩:=I4 P
    refine T.norm [0,5,6,7] z<|T.fl ?_
    refine Sq<|Sr<|Mv z<|Mv z<|Vv (V.C8W Q7 z (j:=0) z)<|Vv (V.lt z z)<|Nt<|T.cH H z (fun H=>?_) (fun H=>?_)
    ·exact dead H
    refine T.exit<|Te<|Te<|have H:=D7 H S; Be<|Th<|T.met () Li H (A9.app trivial ⟨z,z,trivial⟩) z
   rintro _ c aE U
   have H:=J5 U N
   refine T.norm [0,5] z<|T.fl ?_
   refine Sr<|Mv z<|Mv z ?_
   obtain ⟨aG,W,H⟩:=bnd H
   refine Vv (V.C6e Q7 z (j:=0) z pr0.len (.inr ⟨_,_,z,z⟩) (.inl ⟨z,z⟩) (A9z W)) ?_
   obtain ⟨aI,i,H⟩:=bnd H
   have k:=C6T pr0.len i
   obtain ⟨X,Y,H⟩:=bnd H
   refine To (O.clear Q7 A2z z z z (j:=0) z (fun _ iv=>D1.C2Y iv (j:=0) z pr0.len (A9z i)) k<|have m:A7 (VSl (VI .i64) 1) c (A6z pcs0 (1:Int).toNat (List.replicate ((s1.length:Int).toNat - (1:Int).toNat) ([.slice none 0 0]:List Value))) X:=A7.clr pr0.u (show (VSl (VI .i64) 1) c [.slice none 0 0] ([]:List Int) from ⟨(.slice none 0 0),z,G9.nil⟩) k Y; Nt<|Sr<|Mv z<|Mv z ?_)
   obtain ⟨Z,n,H⟩:=bnd H
   refine To (O.slP Q7 z z (j:=0) z (A7.C8C m n) z fun aJ=>have aa:A7 (VSl (VI .i64) 1) c (List.take (1:Int).toNat (A6z pcs0 (1:Int).toNat (List.replicate ((s1.length:Int).toNat - (1:Int).toNat) ([.slice none 0 0]:List Value)))) Z:=A7.slp m n; Ag z<|Nt<|T.ret<|Br<|Tr<|Tr<|have H:=D7 H w; Br<|have H:=J5 H q; Tr ?_)
   obtain rfl:=Option.some.inj H
   exact T.F5 Tryz.results350 (Rv z) Li ⟨_,z,aa⟩
  exact dead H
 exact dead H
theorem B2M {h:PH} {pv0:Value} {pcs0:List (List Value)} {s1:List ByteArray} (pr0:A7 VS h pcs0 s1) {pv1:Value} {f3:ByteArray→Option Bool} (pr1:A9M h pv1 f3) {r_0:Int} {q_0:List ByteArray} (H:A8V s1 f3 = some (r_0,q_0)):∀ L,H5 Tryz.prog 296 [pv0,pv1] h (D8 9 1 pv0 pcs0::L) (fun v h' L'=>∃ ls0,v = .int .i64 r_0∧L' = D8 9 1 pv0 ls0::L∧A7 VS h' ls0 q_0):=by
 intro L
 refine H5.enter Tryz.func296 z Tryz.ntmps296 z<|Sr<|Ag z<|Nt<|Sq<|Sr<|Mv z<|Vv (V.A2E A0U z (j:=0) z pr0.len)<|Mv z<|Nt ?_
 obtain ⟨b,c,d⟩:=N7 H
 refine T.O5 (α:=Unit) [0] z (fun _u=>[]) (fun _u=>D8 9 1 pv0 pcs0::L) (fun _u hh=>b = ()) ?_ ?_
 ·have H:=c
  refine Bl<|T.N8 (α:=Nat) [0,7,8] z (fun a=>[]) (fun a=>D8 9 1 pv0 pcs0::L) (fun a hh=>iter (A5V s1) a () = some b) (fun a=>a) FUEL trivial z H ?_
  rintro a i k e
  obtain ⟨m,n,rfl,H,f⟩:=I4 e
  refine T.norm [0,7,8] z<|T.fl ?_
  refine Sr<|Vv (V.lt z z)<|Nt<|Sq<|T.cH H z (fun H=>?_) (fun H=>?_)
  ·exact dead H
  refine T.exit<|Te<|Te<|have H:=D7 H f; Be<|Th<|T.met () Li H (A9.app trivial ⟨z,trivial⟩) z
 rintro _ o p g
 have H:=J5 g d
 refine T.norm [0] z<|T.fl ?_
 refine Sr<|Ag z<|Nt<|T.ret ?_
 obtain ⟨rfl,rfl⟩:=inj2 H
 exact T.F5 Tryz.results296 (Rv z) Li ⟨_,z,z,pr0.u⟩
theorem B2E {h:PH} {pv0:Value} {pcs0:List (List Value)} {s1:List ByteArray} (pr0:A7 VS h pcs0 s1) {pv1:Value} {del3:ByteArray→Option Bool} (pr1:A9M h pv1 del3) {r_0:List ByteArray} (H:A8Q s1 del3 = some r_0):∀ L,H5 Tryz.prog 206 [pv0,pv1] h (D8 9 1 pv0 pcs0::L) (fun v h' L'=>∃ cs0,L' = D8 9 1 v cs0::L∧A7 VS h' cs0 r_0):=by
 intro L
 refine H5.enter Tryz.func206 z Tryz.ntmps206 z<|Sr<|Ag z<|Nt<|Sr<|Mv z<|Mv z ?_
 obtain ⟨⟨e,f⟩,a,H⟩:=bnd H
 refine To (O.C8 z (B2M pr0 pr1 a _) z fun g i j k b=>?_)
 obtain ⟨m,rfl,c,d⟩:=b
 refine I9 _ c<|Ag z<|Nt<|Sq<|Sr<|Mv z<|Vv (V.eq z z)<|Nt<|T.cH H z (fun H=>?_) (fun H=>?_)
 ·refine Sr<|Mv z<|Ag z<|Nt<|T.ret<|Tr ?_
  obtain rfl:=Option.some.inj H
  exact T.F5 Tryz.results206 (Rv z) Li ⟨_,z,d⟩
 exact dead H
end Go.Proofs.X
open Go Go.Proofs Go.Sl Go.Dm
namespace Go.Proofs.X
theorem A6V : A2Y Tryz.prog 234 = some ([.string ⟨#[]⟩,.nilFunc,.nilFunc,.nilFunc,.nilFunc,.nilFunc],[(0,1),(1,1),(2,1),(3,1),(4,1),(5,1)]):=by kernel_rfl
theorem A6H : A0m Tryz.prog 234 = true:=by kernel_rfl
theorem A1E : A1j Tryz.prog 346 = some (102,1,8):=by kernel_rfl
theorem C2r : O3 Tryz.prog 234 1 = some 1:=by kernel_rfl
theorem C2D : O3 Tryz.prog 234 2 = some 2:=by kernel_rfl
theorem C2E : O3 Tryz.prog 234 3 = some 3:=by kernel_rfl
theorem C2d : O3 Tryz.prog 234 4 = some 4:=by kernel_rfl
theorem A1b : O3 Tryz.prog 95 0 = some 0:=by kernel_rfl
theorem A3W : O3 Tryz.prog 95 1 = some 1:=by kernel_rfl
theorem A0q : O3 Tryz.prog 95 2 = some 2:=by kernel_rfl
theorem A1c : O3 Tryz.prog 95 3 = some 3:=by kernel_rfl
theorem A0P : O3 Tryz.prog 95 4 = some 4:=by kernel_rfl
theorem B0W : O3 Tryz.prog 95 5 = some 5:=by kernel_rfl
theorem B0H : O3 Tryz.prog 95 6 = some 6:=by kernel_rfl
theorem B4e : X9 Tryz.prog 101 = some (false,1):=by kernel_rfl
theorem A3S : X9 Tryz.prog 102 = some (false,1):=by kernel_rfl
theorem B8f : X9 Tryz.prog 169 = some (false,1):=by kernel_rfl
theorem B8G : X9 Tryz.prog 231 = some (false,1):=by kernel_rfl
theorem A0y : X9 Tryz.prog 234 = some (true,6):=by kernel_rfl
theorem F6 : X9 Tryz.prog 9 = some (false,1):=by kernel_rfl
theorem A6l : X9 Tryz.prog 93 = some (false,1):=by kernel_rfl
theorem C3Z : zer Tryz.prog 101 = some (.nilFunc):=by kernel_rfl
theorem A2w : zer Tryz.prog 102 = some (.nilFunc):=by kernel_rfl
theorem A4I : zer Tryz.prog 234 = some (.agg #[.string ⟨#[]⟩,.nilFunc,.nilFunc,.nilFunc,.nilFunc,.nilFunc]):=by kernel_rfl
theorem C1R {h:PH} {s1:ByteArray} {r_0:Bool} (H:B2y s1 = some r_0):∀ L,H5 Tryz.prog 272 [.string s1] h (L) (fun v h' L'=>v = .bool r_0∧L' = L):=by
 intro L
 refine H5.enter Tryz.func272 z Tryz.ntmps272 z<|Sr<|Ag z<|Nt<|Sq<|Sr<|Ag z<|Nt ?_
 obtain ⟨e,f,d⟩:=N7 H
 refine T.O5 (α:=Unit) [0] z (fun _u=>[]) (fun _u=>L) (fun _u hh=>e = (Sum.inl ())) ?_ ?_
 ·have H:=f
  refine Bl<|T.N8 (α:=Nat×Int) [0] z (fun ⟨a,b⟩=>[(3,.int .i64 b)]) (fun ⟨a,b⟩=>L) (fun ⟨a,b⟩ hh=>iter (A3f s1) a b = some e) (fun ⟨a,b⟩=>a) (FUEL,(0:Int)) ⟨z,trivial⟩ z H ?_
  rintro ⟨a,b⟩ p q g
  obtain ⟨i,r,rfl,H,c⟩:=I4 g
  refine T.norm [3,0] z<|T.fl ?_
  refine Sq<|Sr<|Mv z<|Mv z<|Vv (V.A3T Tryz.underlying9 z)<|Vv (V.lt z z)<|Nt<|T.cH H z (fun H=>?_) (fun H=>?_)
  ·refine T.skip<|Th<|Sq<|Bl<|Sr<|Mv z<|Mv z ?_
   obtain ⟨s,j,H⟩:=bnd H
   refine Vv (V.B8j Tryz.underlying9 z z j)<|Vv (V.lt z z)<|Mv z<|T.bH 14 H z (fun H=>?_) (fun H=>?_)
   ·refine Sk<|Sk<|Sk<|Sk<|Vv (V.M0 z z)<|Nt<|Ct z<|Sr<|Ag z<|Nt<|T.ret<|Br<|Tr<|Tr<|have H:=D7 H c; Br<|Tr<|have H:=J5 H d; ?_
    obtain rfl:=Option.some.inj H
    exact T.F5 Tryz.results272 (Rv z) Li ⟨z,z⟩
   refine Mv z<|Mv z ?_
   obtain ⟨t,k,H⟩:=bnd H
   refine Vv (V.B8j Tryz.underlying9 z z k)<|Vv (V.gt z z)<|Vv (V.J9 z z)<|Nt<|T.cH H z (fun H=>?_) (fun H=>?_)
   ·refine Sr<|Ag z<|Nt<|T.ret<|Br<|Tr<|Tr<|have H:=D7 H c; Br<|Tr<|have H:=J5 H d; ?_
    obtain rfl:=Option.some.inj H
    exact T.F5 Tryz.results272 (Rv z) Li ⟨z,z⟩
   refine T.skip<|Bn<|Th<|Rg<|Mv z ?_
   obtain ⟨m,n,H⟩:=bnd H
   refine Vv (V.L8 z z n)<|Ag z<|Nt<|T.again (i,m) Li (Nat.lt_succ_self _) (G8 H c) (A9.app ⟨z,trivial⟩ ⟨z,trivial⟩) z
  refine T.exit<|Te<|Te<|have H:=D7 H c; Be<|Th<|T.met () Li H (A9.app trivial ⟨z,trivial⟩) z
 rintro _ u w o
 have H:=J5 o d
 refine T.norm [0] z<|T.fl ?_
 refine Sr<|Mv z<|Vv (V.A3T Tryz.underlying9 z)<|Vv (V.ge z z)<|Mv z<|T.bH 23 H z (fun H=>?_) (fun H=>?_)
 ·refine Mv z<|Vv (V.A3T Tryz.underlying9 z)<|Vv (V.le z z)<|Vv (V.M0 z z)<|Ag z<|Nt<|T.ret ?_
  obtain rfl:=Option.some.inj H
  exact T.F5 Tryz.results272 (Rv z) Li ⟨z,z⟩
 refine Sk<|Sk<|Sk<|Vv (V.J9 z z)<|Ag z<|Nt<|T.ret ?_
 obtain rfl:=Option.some.inj H
 exact T.F5 Tryz.results272 (Rv z) Li ⟨z,z⟩
theorem B1V {h:PH} {a1:Int} {b2:Int} {r_0:Int} (H:B4Z a1 b2 = some r_0):∀ L,H5 Tryz.prog 329 [.int .i64 a1,.int .i64 b2] h (L) (fun v h' L'=>v = .int .i64 r_0∧L' = L):=by
 intro L
 refine H5.enter Tryz.func329 z Tryz.ntmps329 z<|Sr<|Ag z<|Nt<|Sr<|Mv z<|Mv z<|Vv (V.min2 z z) ?_
 obtain ⟨b,a,H⟩:=bnd H
 refine Vv (V.L8 z z a)<|Ag z<|Nt<|T.ret ?_
 obtain rfl:=Option.some.inj H
 exact T.F5 Tryz.results329 (Rv z) Lr ⟨z,z⟩
theorem B3V {h:PH} {a1:Int} {b2:Int} {r_0:Int} (H:A3C a1 b2 = some r_0):∀ L,H5 Tryz.prog 239 [.int .i64 a1,.int .i64 b2] h (L) (fun v h' L'=>v = .int .i64 r_0∧L' = L):=by
 intro L
 refine H5.enter Tryz.func239 z Tryz.ntmps239 z<|Sr<|Ag z<|Nt<|Sq<|Sr<|Mv z<|Vv (V.lt z z)<|Mv z<|T.bH 7 H z (fun H=>?_) (fun H=>?_)
 ·refine Sk<|Sk<|Vv (V.M0 z z)<|Mv z<|Sk<|Sk<|Vv (V.M0 z z)<|Nt<|Ct z<|Sr<|Ag z<|Nt<|T.ret<|Tr ?_
  obtain rfl:=Option.some.inj H
  exact T.F5 Tryz.results239 (Rv z) Lr ⟨z,z⟩
 refine Mv z<|Vv (V.gt z z)<|Vv (V.J9 z z)<|Mv z<|T.bH 11 H z (fun H=>?_) (fun H=>?_)
 ·refine Sk<|Sk<|Vv (V.M0 z z)<|Nt<|Ct z<|Sr<|Ag z<|Nt<|T.ret<|Tr ?_
  obtain rfl:=Option.some.inj H
  exact T.F5 Tryz.results239 (Rv z) Lr ⟨z,z⟩
 refine Mv z<|Vv (V.ne z z)<|Vv (V.J9 z z)<|Nt<|T.cH H z (fun H=>?_) (fun H=>?_)
 ·refine Sr<|Ag z<|Nt<|T.ret<|Tr ?_
  obtain rfl:=Option.some.inj H
  exact T.F5 Tryz.results239 (Rv z) Lr ⟨z,z⟩
 refine T.skip<|Th<|Sr<|Mv z<|Ag z<|Nt<|T.ret ?_
 obtain rfl:=Option.some.inj H
 exact T.F5 Tryz.results239 (Rv z) Lr ⟨z,z⟩
theorem B5k {h:PH} {a1:Int} {b2:Int} {r_0:Int} (H:A4j a1 b2 = some r_0):∀ L,H5 Tryz.prog 244 [.int .i64 a1,.int .i64 b2] h (L) (fun v h' L'=>v = .int .i64 r_0∧L' = L):=by
 intro L
 refine H5.enter Tryz.func244 z Tryz.ntmps244 z<|Sr<|Ag z<|Nt<|Sq<|Sr<|Mv z<|Vv (V.lt z z)<|Mv z<|T.bH 7 H z (fun H=>?_) (fun H=>?_)
 ·refine Sk<|Sk<|Vv (V.M0 z z)<|Mv z<|Sk<|Sk<|Vv (V.M0 z z)<|Mv z<|Sk<|Sk<|Vv (V.M0 z z)<|Nt<|Ct z<|Sr<|Ag z<|Nt<|T.ret<|Tr ?_
  obtain rfl:=Option.some.inj H
  exact T.F5 Tryz.results244 (Rv z) Lr ⟨z,z⟩
 refine Mv z<|Vv (V.gt z z)<|Vv (V.J9 z z)<|Mv z<|T.bH 11 H z (fun H=>?_) (fun H=>?_)
 ·refine Sk<|Sk<|Vv (V.M0 z z)<|Mv z<|Sk<|Sk<|Vv (V.M0 z z)<|Nt<|Ct z<|Sr<|Ag z<|Nt<|T.ret<|Tr ?_
  obtain rfl:=Option.some.inj H
  exact T.F5 Tryz.results244 (Rv z) Lr ⟨z,z⟩
 refine Mv z<|Vv (V.lt z z)<|Vv (V.J9 z z)<|Mv z<|T.bH 15 H z (fun H=>?_) (fun H=>?_)
 ·refine Sk<|Sk<|Vv (V.M0 z z)<|Nt<|Ct z<|Sr<|Ag z<|Nt<|T.ret<|Tr ?_
  obtain rfl:=Option.some.inj H
  exact T.F5 Tryz.results244 (Rv z) Lr ⟨z,z⟩
 refine Mv z<|Vv (V.gt z z)<|Vv (V.J9 z z)<|Nt<|T.cH H z (fun H=>?_) (fun H=>?_)
 ·refine Sr<|Ag z<|Nt<|T.ret<|Tr ?_
  obtain rfl:=Option.some.inj H
  exact T.F5 Tryz.results244 (Rv z) Lr ⟨z,z⟩
 refine T.skip<|Th<|Sr<|Mv z ?_
 obtain ⟨c,a,H⟩:=bnd H
 refine Vv (V.B2H z z a)<|Mv z ?_
 obtain ⟨d,b,H⟩:=bnd H
 refine Vv (V.L8 z z b)<|Ag z<|Nt<|T.ret ?_
 obtain rfl:=Option.some.inj H
 exact T.F5 Tryz.results244 (Rv z) Lr ⟨z,z⟩
theorem B5A {h:PH} {a1:Int} {b2:Int} {r_0:Int} (H:A4g a1 b2 = some r_0):∀ L,H5 Tryz.prog 249 [.int .i64 a1,.int .i64 b2] h (L) (fun v h' L'=>v = .int .i64 r_0∧L' = L):=by
 intro L
 refine H5.enter Tryz.func249 z Tryz.ntmps249 z<|Sr<|Ag z<|Nt<|Sq<|Sr<|Mv z<|Vv (V.lt z z)<|Mv z<|T.bH 7 H z (fun H=>?_) (fun H=>?_)
 ·refine Sk<|Sk<|Vv (V.M0 z z)<|Mv z<|Sk<|Sk<|Vv (V.M0 z z)<|Mv z<|Sk<|Sk<|Vv (V.M0 z z)<|Nt<|Ct z<|Sr<|Ag z<|Nt<|T.ret<|Tr ?_
  obtain rfl:=Option.some.inj H
  exact T.F5 Tryz.results249 (Rv z) Lr ⟨z,z⟩
 refine Mv z<|Vv (V.gt z z)<|Vv (V.J9 z z)<|Mv z<|T.bH 11 H z (fun H=>?_) (fun H=>?_)
 ·refine Sk<|Sk<|Vv (V.M0 z z)<|Mv z<|Sk<|Sk<|Vv (V.M0 z z)<|Nt<|Ct z<|Sr<|Ag z<|Nt<|T.ret<|Tr ?_
  obtain rfl:=Option.some.inj H
  exact T.F5 Tryz.results249 (Rv z) Lr ⟨z,z⟩
 refine Mv z<|Vv (V.lt z z)<|Vv (V.J9 z z)<|Mv z<|T.bH 15 H z (fun H=>?_) (fun H=>?_)
 ·refine Sk<|Sk<|Vv (V.M0 z z)<|Nt<|Ct z<|Sr<|Ag z<|Nt<|T.ret<|Tr ?_
  obtain rfl:=Option.some.inj H
  exact T.F5 Tryz.results249 (Rv z) Lr ⟨z,z⟩
 refine Mv z<|Vv (V.gt z z)<|Vv (V.J9 z z)<|Nt<|T.cH H z (fun H=>?_) (fun H=>?_)
 ·refine Sr<|Ag z<|Nt<|T.ret<|Tr ?_
  obtain rfl:=Option.some.inj H
  exact T.F5 Tryz.results249 (Rv z) Lr ⟨z,z⟩
 refine T.skip<|Th<|Sr<|Mv z<|Mv z ?_
 obtain ⟨c,a,H⟩:=bnd H
 refine Vv (V.B2H z z a) ?_
 obtain ⟨d,b,H⟩:=bnd H
 refine Vv (V.L8 z z b)<|Ag z<|Nt<|T.ret ?_
 obtain rfl:=Option.some.inj H
 exact T.F5 Tryz.results249 (Rv z) Lr ⟨z,z⟩
theorem B5H {h:PH} {a1:Int} {b2:Int} {r_0:Int} (H:A5b a1 b2 = some r_0):∀ L,H5 Tryz.prog 254 [.int .i64 a1,.int .i64 b2] h (L) (fun v h' L'=>v = .int .i64 r_0∧L' = L):=by
 intro L
 refine H5.enter Tryz.func254 z Tryz.ntmps254 z<|Sr<|Ag z<|Nt<|Sq<|Sr<|Mv z<|Vv (V.lt z z)<|Mv z<|T.bH 7 H z (fun H=>?_) (fun H=>?_)
 ·refine Sk<|Sk<|Vv (V.M0 z z)<|Mv z<|Sk<|Sk<|Vv (V.M0 z z)<|Mv z<|Sk<|Sk<|Sk<|Vv (V.M0 z z)<|Nt<|Ct z<|Sr<|Ag z<|Nt<|T.ret<|Tr ?_
  obtain rfl:=Option.some.inj H
  exact T.F5 Tryz.results254 (Rv z) Lr ⟨z,z⟩
 refine Mv z<|Vv (V.gt z z)<|Vv (V.J9 z z)<|Mv z<|T.bH 11 H z (fun H=>?_) (fun H=>?_)
 ·refine Sk<|Sk<|Vv (V.M0 z z)<|Mv z<|Sk<|Sk<|Sk<|Vv (V.M0 z z)<|Nt<|Ct z<|Sr<|Ag z<|Nt<|T.ret<|Tr ?_
  obtain rfl:=Option.some.inj H
  exact T.F5 Tryz.results254 (Rv z) Lr ⟨z,z⟩
 refine Mv z<|Vv (V.lt z z)<|Vv (V.J9 z z)<|Mv z<|T.bH 15 H z (fun H=>?_) (fun H=>?_)
 ·refine Sk<|Sk<|Sk<|Vv (V.M0 z z)<|Nt<|Ct z<|Sr<|Ag z<|Nt<|T.ret<|Tr ?_
  obtain rfl:=Option.some.inj H
  exact T.F5 Tryz.results254 (Rv z) Lr ⟨z,z⟩
 refine Mv z<|Mv z<|Vv (V.gt z z)<|Vv (V.J9 z z)<|Nt<|T.cH H z (fun H=>?_) (fun H=>?_)
 ·refine Sr<|Ag z<|Nt<|T.ret<|Tr ?_
  obtain rfl:=Option.some.inj H
  exact T.F5 Tryz.results254 (Rv z) Lr ⟨z,z⟩
 refine T.skip<|Th<|Sr<|Mv z<|Ag z<|Nt<|T.ret ?_
 obtain rfl:=Option.some.inj H
 exact T.F5 Tryz.results254 (Rv z) Lr ⟨z,z⟩
theorem B2S {h:PH} {a1:Int} {b2:Int} {x3:Int} {y4:Int} {r_0:Bool} (H:A8T a1 b2 x3 y4 = some r_0):∀ L,H5 Tryz.prog 240 [.int .i64 a1,.int .i64 b2,.int .i64 x3,.int .i64 y4] h (L) (fun v h' L'=>v = .bool r_0∧L' = L):=by
 intro L
 refine H5.enter Tryz.func240 z Tryz.ntmps240 z<|Sr<|Ag z<|Nt<|Sr<|Mv z<|Mv z ?_
 obtain ⟨d,a,H⟩:=bnd H
 refine Vv (V.A0M z z a)<|Vv (V.eq z z)<|Mv z<|T.bH 13 H z (fun H=>?_) (fun H=>?_)
 ·refine Sk<|Sk<|Sk<|Sk<|Sk<|Sk<|Vv (V.M0 z z)<|Ag z<|Nt<|T.ret ?_
  obtain rfl:=Option.some.inj H
  exact T.F5 Tryz.results240 (Rv z) Lr ⟨z,z⟩
 refine Mv z<|Mv z ?_
 obtain ⟨e,b,H⟩:=bnd H
 refine Vv (V.A0M z z b)<|Mv z ?_
 obtain ⟨f,c,H⟩:=bnd H
 refine Vv (V.A0M z z c)<|Vv (V.eq z z)<|Vv (V.J9 z z)<|Ag z<|Nt<|T.ret ?_
 obtain rfl:=Option.some.inj H
 exact T.F5 Tryz.results240 (Rv z) Lr ⟨z,z⟩
theorem B2L {h:PH} {a1:Int} {b2:Int} {x3:Int} {y4:Int} {r_0:Bool} (H:A8u a1 b2 x3 y4 = some r_0):∀ L,H5 Tryz.prog 241 [.int .i64 a1,.int .i64 b2,.int .i64 x3,.int .i64 y4] h (L) (fun v h' L'=>v = .bool r_0∧L' = L):=by
 intro L
 refine H5.enter Tryz.func241 z Tryz.ntmps241 z<|Sr<|Ag z<|Nt<|Sr<|Mv z ?_
 obtain ⟨d,a,H⟩:=bnd H
 refine Vv (V.C6P z z a)<|Vv (V.eq z z)<|Mv z<|T.bH 12 H z (fun H=>?_) (fun H=>?_)
 ·refine Mv z<|Mv z ?_
  obtain ⟨e,b,H⟩:=bnd H
  refine Vv (V.A0M z z b)<|Mv z ?_
  obtain ⟨f,c,H⟩:=bnd H
  refine Vv (V.C6l z z c)<|Vv (V.eq z z)<|Vv (V.M0 z z)<|Ag z<|Nt<|T.ret ?_
  obtain rfl:=Option.some.inj H
  exact T.F5 Tryz.results241 (Rv z) Lr ⟨z,z⟩
 refine Sk<|Sk<|Sk<|Sk<|Sk<|Sk<|Vv (V.J9 z z)<|Ag z<|Nt<|T.ret ?_
 obtain rfl:=Option.some.inj H
 exact T.F5 Tryz.results241 (Rv z) Lr ⟨z,z⟩
theorem B4b {h:PH} {a1:Int} {b2:Int} {x3:Int} {y4:Int} {r_0:Bool} (H:A9Y a1 b2 x3 y4 = some r_0):∀ L,H5 Tryz.prog 245 [.int .i64 a1,.int .i64 b2,.int .i64 x3,.int .i64 y4] h (L) (fun v h' L'=>v = .bool r_0∧L' = L):=by
 intro L
 refine H5.enter Tryz.func245 z Tryz.ntmps245 z<|Sr<|Ag z<|Nt<|Sr<|Mv z<|Mv z ?_
 obtain ⟨D,d,H⟩:=bnd H
 refine To (O.C8 z (B1V d _) z fun E G I J e=>?_)
 obtain ⟨rfl,f⟩:=e
 refine I9 _ f<|Ag z<|Nt<|Sq<|Bl<|Sq ?_
 obtain ⟨g,i,j⟩:=N7 H
 refine T.O5 (α:=Bool) [0,1,2,3,9] z (fun a=>[(13,.bool a)]) (fun a=>L) (fun a hh=>g = a) ?_ ?_
 ·have H:=i
  refine Rg<|Mv z<|Vv (V.eq z z)<|Mv z<|T.bH 16 H z (fun H=>?_) (fun H=>?_)
  ·refine Mv z<|Mv z ?_
   obtain ⟨K,k,H⟩:=bnd H
   refine Vv (V.B2H z z k) ?_
   obtain ⟨m,n,H⟩:=bnd H
   refine Vv (V.L8 z z n)<|Vv (V.eq z z)<|Vv (V.M0 z z)<|Ag z<|Nt<|T.met (decide (y4 = m)) Lr (K4 H) (A9.app ⟨z,trivial⟩ ⟨z,z,z,z,z,trivial⟩) z
  refine Sk<|Sk<|Sk<|Sk<|Sk<|Vv (V.J9 z z)<|Ag z<|Nt<|T.met false Lr (K4 H) (A9.app ⟨z,trivial⟩ ⟨z,z,z,z,z,trivial⟩) z
 rintro a M N o
 have H:=J5 o j
 refine T.norm [13,0,1,2,3,9] z<|T.fl ?_
 refine T.cH H z (fun H=>?_) (fun H=>?_)
 ·refine Sq ?_
  obtain ⟨p,q,r⟩:=N7 H
  refine T.O5 (α:=Bool) [] z (fun b=>[(8,.bool b)]) (fun b=>L) (fun b hh=>p = b) ?_ ?_
  ·have H:=q
   refine Rg<|Mv z<|Vv (V.eq z z)<|Mv z<|T.bH 25 H z (fun H=>?_) (fun H=>?_)
   ·refine Sk<|Sk<|Sk<|Sk<|Vv (V.M0 z z)<|Ag z<|Nt<|T.met true Lr (K4 H) (A9.app ⟨z,trivial⟩ trivial) z
   refine Mv z<|Mv z ?_
   obtain ⟨s,t,H⟩:=bnd H
   refine Vv (V.A0M z z t)<|Vv (V.eq z z)<|Vv (V.J9 z z)<|Ag z<|Nt<|T.met (decide (x3 = s)) Lr (K4 H) (A9.app ⟨z,trivial⟩ trivial) z
  rintro b P S u
  have H:=J5 u r
  refine T.norm [8] z<|T.fl ?_
  refine T.ret<|Br<|Tr ?_
  obtain rfl:=Option.some.inj H
  exact T.F5 Tryz.results245 (Rv z) Li ⟨z,z⟩
 refine Sq ?_
 obtain ⟨w,x,y⟩:=N7 H
 refine T.O5 (α:=Bool) [0,2,3,9] z (fun c=>[(31,.bool c)]) (fun c=>L) (fun c hh=>w = c) ?_ ?_
 ·have H:=x
  refine Rg<|Mv z<|Vv (V.gt z z)<|Mv z<|T.bH 34 H z (fun H=>?_) (fun H=>?_)
  ·refine Mv z<|Mv z<|Vv (V.eq z z)<|Mv z<|T.bH 38 H z (fun H=>?_) (fun H=>?_)
   ·refine Sk<|Sk<|Sk<|Vv (V.M0 z z)<|Vv (V.M0 z z)<|Ag z<|Nt<|T.met true Lr (K4 H) (A9.app ⟨z,trivial⟩ ⟨z,z,z,z,trivial⟩) z
   refine Mv z<|Mv z<|Vv (V.eq z z)<|Vv (V.J9 z z)<|Vv (V.M0 z z)<|Ag z<|Nt<|T.met (decide (y4 = a1)) Lr (K4 H) (A9.app ⟨z,trivial⟩ ⟨z,z,z,z,trivial⟩) z
  refine Sk<|Sk<|Sk<|Sk<|Sk<|Sk<|Sk<|Sk<|Vv (V.J9 z z)<|Ag z<|Nt<|T.met false Lr (K4 H) (A9.app ⟨z,trivial⟩ ⟨z,z,z,z,trivial⟩) z
 rintro c U W A
 have H:=J5 A y
 refine T.norm [31,0,2,3,9] z<|T.fl ?_
 refine T.cH H z (fun H=>?_) (fun H=>?_)
 ·refine Sr<|Mv z<|Mv z ?_
  obtain ⟨X,B,H⟩:=bnd H
  refine Vv (V.A0M z z B)<|Vv (V.eq z z)<|Ag z<|Nt<|T.ret<|Br<|Tr ?_
  obtain rfl:=Option.some.inj H
  exact T.F5 Tryz.results245 (Rv z) Li ⟨z,z⟩
 refine T.skip<|Bn<|Th<|Sr<|Mv z<|Mv z ?_
 obtain ⟨Y,C,H⟩:=bnd H
 refine Vv (V.A0M z z C)<|Vv (V.eq z z)<|Mv z<|T.bH 52 H z (fun H=>?_) (fun H=>?_)
 ·refine Mv z<|Mv z<|Vv (V.lt z z)<|Mv z<|T.bH 56 H z (fun H=>?_) (fun H=>?_)
  ·refine Sk<|Sk<|Sk<|Vv (V.M0 z z)<|Vv (V.M0 z z)<|Ag z<|Nt<|T.ret ?_
   obtain rfl:=Option.some.inj H
   exact T.F5 Tryz.results245 (Rv z) Li ⟨z,z⟩
  refine Mv z<|Mv z<|Vv (V.ge z z)<|Vv (V.J9 z z)<|Vv (V.M0 z z)<|Ag z<|Nt<|T.ret ?_
  obtain rfl:=Option.some.inj H
  exact T.F5 Tryz.results245 (Rv z) Li ⟨z,z⟩
 refine Sk<|Sk<|Sk<|Sk<|Sk<|Sk<|Sk<|Sk<|Vv (V.J9 z z)<|Ag z<|Nt<|T.ret ?_
 obtain rfl:=Option.some.inj H
 exact T.F5 Tryz.results245 (Rv z) Li ⟨z,z⟩
theorem B4i {h:PH} {a1:Int} {b2:Int} {x3:Int} {y4:Int} {r_0:Bool} (H:B0f a1 b2 x3 y4 = some r_0):∀ L,H5 Tryz.prog 246 [.int .i64 a1,.int .i64 b2,.int .i64 x3,.int .i64 y4] h (L) (fun v h' L'=>v = .bool r_0∧L' = L):=by
 intro L
 refine H5.enter Tryz.func246 z Tryz.ntmps246 z<|Sr<|Ag z<|Nt<|Sq<|Sq ?_
 obtain ⟨b,c,d⟩:=N7 H
 refine T.O5 (α:=Bool) [0,1,2,3] z (fun a=>[(17,.bool a)]) (fun a=>L) (fun a hh=>b = a) ?_ ?_
 ·have H:=c
  refine Rg<|Mv z<|Vv (V.eq z z)<|Mv z<|T.bH 11 H z (fun H=>?_) (fun H=>?_)
  ·refine Mv z<|Mv z ?_
   obtain ⟨q,e,H⟩:=bnd H
   refine Vv (V.B2H z z e) ?_
   obtain ⟨f,g,H⟩:=bnd H
   refine Vv (V.L8 z z g)<|Vv (V.eq z z)<|Vv (V.M0 z z)<|Nt<|T.met (decide (y4 = f)) Lr (K4 H) (A9.app ⟨z,trivial⟩ ⟨z,z,z,z,trivial⟩) z
  refine Sk<|Sk<|Sk<|Sk<|Sk<|Vv (V.J9 z z)<|Nt<|T.met false Lr (K4 H) (A9.app ⟨z,trivial⟩ ⟨z,z,z,z,trivial⟩) z
 rintro a r s i
 have H:=J5 i d
 refine T.norm [17,0,1,2,3] z<|T.fl ?_
 refine T.cH H z (fun H=>?_) (fun H=>?_)
 ·refine Sr<|Mv z<|Mv z<|Vv (V.eq z z)<|Ag z<|Nt<|T.ret<|Tr ?_
  obtain rfl:=Option.some.inj H
  exact T.F5 Tryz.results246 (Rv z) Li ⟨z,z⟩
 refine T.skip<|Th<|Sr<|Mv z<|Mv z<|Vv (V.lt z z)<|Mv z<|T.bH 24 H z (fun H=>?_) (fun H=>?_)
 ·refine Mv z<|Mv z ?_
  obtain ⟨t,j,H⟩:=bnd H
  refine Vv (V.L8 z z j)<|Mv z<|Mv z ?_
  obtain ⟨u,k,H⟩:=bnd H
  refine To (O.C8 z (B1V k _) z fun w x y A m=>?_)
  obtain ⟨rfl,n⟩:=m
  refine I9 _ n<|Mv z ?_
  obtain ⟨B,o,H⟩:=bnd H
  refine Vv (V.L8 z z o) ?_
  obtain ⟨C,p,H⟩:=bnd H
  refine Vv (V.A0M z z p)<|Vv (V.eq z z)<|Vv (V.M0 z z)<|Ag z<|Nt<|T.ret ?_
  obtain rfl:=Option.some.inj H
  exact T.F5 Tryz.results246 (Rv z) Li ⟨z,z⟩
 refine Sk<|Sk<|Sk<|Sk<|Sk<|Sk<|Sk<|Sk<|Sk<|Sk<|Vv (V.J9 z z)<|Ag z<|Nt<|T.ret ?_
 obtain rfl:=Option.some.inj H
 exact T.F5 Tryz.results246 (Rv z) Li ⟨z,z⟩
theorem B4g {h:PH} {a1:Int} {b2:Int} {r_0:Int} (H:B0d a1 b2 = some r_0):∀ L,H5 Tryz.prog 247 [.int .i64 a1,.int .i64 b2] h (L) (fun v h' L'=>v = .int .i64 r_0∧L' = L):=by
 intro L
 refine H5.enter Tryz.func247 z Tryz.ntmps247 z<|Sr<|Ag z<|Nt<|Sq<|Sr<|Mv z<|Vv (V.gt z z)<|Nt<|T.cH H z (fun H=>?_) (fun H=>?_)
 ·refine Sr<|Mv z<|Ag z<|Nt<|T.ret<|Tr ?_
  obtain rfl:=Option.some.inj H
  exact T.F5 Tryz.results247 (Rv z) Lr ⟨z,z⟩
 refine T.skip<|Th<|Sr<|Mv z ?_
 obtain ⟨b,a,H⟩:=bnd H
 refine Vv (V.C6l z z a)<|Ag z<|Nt<|T.ret ?_
 obtain rfl:=Option.some.inj H
 exact T.F5 Tryz.results247 (Rv z) Lr ⟨z,z⟩
theorem B4r {h:PH} {a1:Int} {b2:Int} {x3:Int} {y4:Int} {r_0:Bool} (H:A9S a1 b2 x3 y4 = some r_0):∀ L,H5 Tryz.prog 250 [.int .i64 a1,.int .i64 b2,.int .i64 x3,.int .i64 y4] h (L) (fun v h' L'=>v = .bool r_0∧L' = L):=by
 intro L
 refine H5.enter Tryz.func250 z Tryz.ntmps250 z<|Sr<|Ag z<|Nt<|Sr<|Mv z<|Mv z ?_
 obtain ⟨b,a,H⟩:=bnd H
 refine Vv (V.A0M z z a)<|Vv (V.eq z z)<|Ag z<|Nt<|T.ret ?_
 obtain rfl:=Option.some.inj H
 exact T.F5 Tryz.results250 (Rv z) Lr ⟨z,z⟩
theorem B4l {h:PH} {a1:Int} {b2:Int} {x3:Int} {y4:Int} {r_0:Bool} (H:A9U a1 b2 x3 y4 = some r_0):∀ L,H5 Tryz.prog 251 [.int .i64 a1,.int .i64 b2,.int .i64 x3,.int .i64 y4] h (L) (fun v h' L'=>v = .bool r_0∧L' = L):=by
 intro L
 refine H5.enter Tryz.func251 z Tryz.ntmps251 z<|Sr<|Ag z<|Nt<|Sr<|Mv z<|Mv z<|Vv (V.lt z z)<|Mv z<|T.bH 12 H z (fun H=>?_) (fun H=>?_)
 ·refine Mv z<|Mv z ?_
  obtain ⟨e,a,H⟩:=bnd H
  refine Vv (V.L8 z z a)<|Mv z<|Mv z ?_
  obtain ⟨f,b,H⟩:=bnd H
  refine Vv (V.B2H z z b) ?_
  obtain ⟨g,c,H⟩:=bnd H
  refine Vv (V.L8 z z c) ?_
  obtain ⟨i,d,H⟩:=bnd H
  refine Vv (V.A0M z z d)<|Vv (V.eq z z)<|Vv (V.M0 z z)<|Ag z<|Nt<|T.ret ?_
  obtain rfl:=Option.some.inj H
  exact T.F5 Tryz.results251 (Rv z) Lr ⟨z,z⟩
 refine Sk<|Sk<|Sk<|Sk<|Sk<|Sk<|Sk<|Sk<|Sk<|Vv (V.J9 z z)<|Ag z<|Nt<|T.ret ?_
 obtain rfl:=Option.some.inj H
 exact T.F5 Tryz.results251 (Rv z) Lr ⟨z,z⟩
theorem B5i {h:PH} {a1:Int} {b2:Int} {x3:Int} {y4:Int} {r_0:Bool} (H:B1K a1 b2 x3 y4 = some r_0):∀ L,H5 Tryz.prog 255 [.int .i64 a1,.int .i64 b2,.int .i64 x3,.int .i64 y4] h (L) (fun v h' L'=>v = .bool r_0∧L' = L):=by
 intro L
 refine H5.enter Tryz.func255 z Tryz.ntmps255 z<|Sr<|Ag z<|Nt<|Sr<|Mv z<|Mv z ?_
 obtain ⟨c,a,H⟩:=bnd H
 refine Vv (V.A0M z z a)<|Vv (V.eq z z)<|Mv z<|T.bH 13 H z (fun H=>?_) (fun H=>?_)
 ·refine Mv z<|Vv (V.eq z z)<|Mv z<|T.bH 16 H z (fun H=>?_) (fun H=>?_)
  ·refine Sk<|Sk<|Sk<|Sk<|Vv (V.M0 z z)<|Vv (V.M0 z z)<|Ag z<|Nt<|T.ret ?_
   obtain rfl:=Option.some.inj H
   exact T.F5 Tryz.results255 (Rv z) Lr ⟨z,z⟩
  refine Mv z<|Mv z ?_
  obtain ⟨d,b,H⟩:=bnd H
  refine Vv (V.C6P z z b)<|Vv (V.ne z z)<|Vv (V.J9 z z)<|Vv (V.M0 z z)<|Ag z<|Nt<|T.ret ?_
  obtain rfl:=Option.some.inj H
  exact T.F5 Tryz.results255 (Rv z) Lr ⟨z,z⟩
 refine Sk<|Sk<|Sk<|Sk<|Sk<|Sk<|Sk<|Sk<|Vv (V.J9 z z)<|Ag z<|Nt<|T.ret ?_
 obtain rfl:=Option.some.inj H
 exact T.F5 Tryz.results255 (Rv z) Lr ⟨z,z⟩
theorem A9f {h:PH} {k1:Int} {r_0:Int} (H:A3X k1 = some r_0):∀ L,H5 Tryz.prog 333 [.int .i64 k1] h (L) (fun v h' L'=>v = .int .i64 r_0∧L' = L):=by
 intro L
 refine H5.enter Tryz.func333 z Tryz.ntmps333 z<|Sr<|Ag z<|Nt<|Sr<|Mv z<|Ag z<|Nt<|T.ret ?_
 obtain rfl:=Option.some.inj H
 exact T.F5 Tryz.results333 (Rv z) Lr ⟨z,z⟩
theorem C1F {h:PH} {a1:Int} {b2:Int} {r_0:Int} (H:C1a a1 b2 = some r_0):∀ L,H5 Tryz.prog 242 [.int .i64 a1,.int .i64 b2] h (L) (fun v h' L'=>v = .int .i64 r_0∧L' = L):=by
 intro L
 refine H5.enter Tryz.func242 z Tryz.ntmps242 z<|Sr<|Ag z<|Nt<|Sr<|Ag z<|Nt<|T.ret ?_
 obtain rfl:=Option.some.inj H
 exact T.F5 Tryz.results242 (Rv z) Lr ⟨z,z⟩
theorem C1X {h:PH} {a1:Int} {b2:Int} {r_0:Int} (H:C0N a1 b2 = some r_0):∀ L,H5 Tryz.prog 252 [.int .i64 a1,.int .i64 b2] h (L) (fun v h' L'=>v = .int .i64 r_0∧L' = L):=by
 intro L
 refine H5.enter Tryz.func252 z Tryz.ntmps252 z<|Sr<|Ag z<|Nt<|Sr<|Mv z<|Mv z ?_
 obtain ⟨c,a,H⟩:=bnd H
 refine Vv (V.C6l z z a) ?_
 obtain ⟨d,b,H⟩:=bnd H
 refine Vv (V.L8 z z b)<|Ag z<|Nt<|T.ret ?_
 obtain rfl:=Option.some.inj H
 exact T.F5 Tryz.results252 (Rv z) Lr ⟨z,z⟩
theorem C2h {h:PH} {a1:Int} {b2:Int} {x3:Int} {y4:Int} {r_0:Bool} (H:C1b a1 b2 x3 y4 = some r_0):∀ L,H5 Tryz.prog 256 [.int .i64 a1,.int .i64 b2,.int .i64 x3,.int .i64 y4] h (L) (fun v h' L'=>v = .bool r_0∧L' = L):=by
 intro L
 refine H5.enter Tryz.func256 z Tryz.ntmps256 z<|Sr<|Ag z<|Nt<|Sr<|Ag z<|Nt<|T.ret ?_
 obtain rfl:=Option.some.inj H
 exact T.F5 Tryz.results256 (Rv z) Lr ⟨z,z⟩
theorem C2u {h:PH} {a1:Int} {b2:Int} {r_0:Int} (H:C0M a1 b2 = some r_0):∀ L,H5 Tryz.prog 257 [.int .i64 a1,.int .i64 b2] h (L) (fun v h' L'=>v = .int .i64 r_0∧L' = L):=by
 intro L
 refine H5.enter Tryz.func257 z Tryz.ntmps257 z<|Sr<|Ag z<|Nt<|Sr<|Mv z ?_
 obtain ⟨b,a,H⟩:=bnd H
 refine Vv (V.C6l z z a)<|Ag z<|Nt<|T.ret ?_
 obtain rfl:=Option.some.inj H
 exact T.F5 Tryz.results257 (Rv z) Lr ⟨z,z⟩
theorem B2O {h:PH} {k1:Int} {pp1:Addr} {pc1:List Value} {t2:Int} (pa1:AtC h pp1 pc1) (pr1:(VI .i64) h pc1 t2) {pp2:Addr} {pc2:List Value} {t3:Int} (pa2:AtC h pp2 pc2) (pr2:(VI .i64) h pc2 t3) {r_0:Int} (H:A4L k1 t2 t3 = some r_0):∀ L,H5 Tryz.prog 327 [.int .i64 k1,.pointer (some pp1),.pointer (some pp2)] h (L) (fun v h' L'=>v = .int .i64 r_0∧L' = L):=by
 intro L
 obtain rfl:=pr1
 obtain rfl:=pr2
 refine H5.enter Tryz.func327 z Tryz.ntmps327 z<|Sr<|Ag z<|Nt<|Sr<|Mv z<|Vv (V.ld0 D9 z pa1 z) ?_
 obtain ⟨c,a,H⟩:=bnd H
 refine Vv (V.L8 z z a)<|Vv (V.ld0 D9 z pa2 z) ?_
 obtain ⟨d,b,H⟩:=bnd H
 refine Vv (V.C6P z z b)<|Ag z<|Nt<|T.ret ?_
 obtain rfl:=Option.some.inj H
 exact T.F5 Tryz.results327 (Rv z) Lr ⟨z,z⟩
theorem B2N {h:PH} {k1:Int} {pp1:Addr} {pc1:List Value} {t2:Int} (pa1:AtC h pp1 pc1) (pr1:(VI .i64) h pc1 t2) {pp2:Addr} {pc2:List Value} {t3:Int} (pa2:AtC h pp2 pc2) (pr2:(VI .i64) h pc2 t3) {r_0:Int} (H:A4R k1 t2 t3 = some r_0):∀ L,H5 Tryz.prog 328 [.int .i64 k1,.pointer (some pp1),.pointer (some pp2)] h (L) (fun v h' L'=>v = .int .i64 r_0∧L' = L):=by
 intro L
 obtain rfl:=pr1
 obtain rfl:=pr2
 refine H5.enter Tryz.func328 z Tryz.ntmps328 z<|Sr<|Ag z<|Nt<|Sr<|Vv (V.ld0 D9 z pa1 z)<|Mv z ?_
 obtain ⟨d,a,H⟩:=bnd H
 refine Vv (V.A0M z z a)<|Vv (V.ld0 D9 z pa2 z) ?_
 obtain ⟨e,b,H⟩:=bnd H
 refine Vv (V.L8 z z b)<|Vv (V.ld0 D9 z pa2 z) ?_
 obtain ⟨f,c,H⟩:=bnd H
 refine Vv (V.C6P z z c)<|Ag z<|Nt<|T.ret ?_
 obtain rfl:=Option.some.inj H
 exact T.F5 Tryz.results328 (Rv z) Lr ⟨z,z⟩
theorem B4u {h:PH} {a1:Int} {b2:Int} {r_0:List (Int→Option Int)} (H:B0b a1 b2 = some r_0):∀ L,H5 Tryz.prog 243 [.int .i64 a1,.int .i64 b2] h (L) (fun v h' L'=>L' = L∧G9 A2e 1 h' v r_0):=by
 intro L
 refine H5.enter Tryz.func243 z Tryz.ntmps243 z<|Sr<|To (O.V3 z z z fun b D ae o=>Ag z<|Nt<|Sr<|Ag z<|Nt<|Sq<|Sr<|Vv (V.ld0 D9 z o z)<|Mv z<|Nt ?_)
 obtain ⟨s,E,G⟩:=N7 H
 refine T.O5 (α:=(List (Int→Option Int))×Value×(List (List Value))) [] z (fun ⟨k,m,n⟩=>[(5,m)]) (fun ⟨k,m,n⟩=>D8 102 1 m n::L) (fun ⟨k,m,n⟩ hh=>s = k∧A7 A2e hh n k) ?_ ?_
 ·have H:=E
  refine Bl<|T.A0n 102 1<|have I:A7 A2e D [] ([]:List (Int→Option Int)):=A7.nil; T.N8 (α:=Nat×(List (Int→Option Int))×Int×Value×(List (List Value))) [2,7] z (fun ⟨i,f,a,g,d⟩=>[(5,g),(8,.int .i64 a)]) (fun ⟨i,f,a,g,d⟩=>D8 102 1 g d::L) (fun ⟨i,f,a,g,d⟩ hh=>iter (A6u a1) i (f,a) = some s∧A7 A2e hh d f) (fun ⟨i,f,a,g,d⟩=>i) (FUEL,([]:List (Int→Option Int)),(0:Int),(.slice none 0 0),[]) ⟨z,z,trivial⟩ z ⟨H,I⟩ ?_
  rintro ⟨i,f,a,g,d⟩ af ag ⟨J,p⟩
  obtain ⟨K,ai,rfl,H,t⟩:=I4 J
  refine T.norm [5,8,2,7] z<|T.fl ?_
  refine Sr<|Vv (V.lt z z)<|Nt<|Sq<|T.cH H z (fun H=>?_) (fun H=>?_)
  ·refine T.skip<|Th<|Sq<|Bl<|Sr<|Mv z<|To (O.alloc Q4 z z fun c=>To (O.stF (vs:=[.int .i64 a]) D9 z z (j:=0) z z z z<|T.freeze fun w aj M=>have x:=AtC.of M; Nt<|Rg<|Mv z<|Vv (V.mkf z z)<|Vv (V.mkf z z)<|To (O.bs A1E A2w z (e:=z) (hk:=z) (xs:=[.tmp 12,.tmp 13]) (hv:=CO.eq (CO.cons z (CO.cons z CO.nil))) (hw:=O7.of z) (hd:=z) fun ak=>have q:A7 A2e w [[.func (.func 327) #[] #[.pointer (some ⟨c,0,none⟩),.pointer (some ⟨b,0,none⟩)]],[.func (.func 328) #[] #[.pointer (some ⟨c,0,none⟩),.pointer (some ⟨b,0,none⟩)]]] ([(fun r=>A4L r a a1),(fun r=>A4R r a a1)]:List (Int→Option Int)):=(A7.cons ⟨(.func (.func 327) #[] #[.pointer (some ⟨c,0,none⟩),.pointer (some ⟨b,0,none⟩)]),z,⟨⟨z,z⟩,.inr ⟨327,[],[.pointer (some ⟨c,0,none⟩),.pointer (some ⟨b,0,none⟩)],z,fun y am an ao N P=>B2O x.u (show (VI .i64) y [.int .i64 a] a from z) o.u (show (VI .i64) y [.int .i64 a1] a1 from z) N P⟩⟩⟩ (A7.cons ⟨(.func (.func 328) #[] #[.pointer (some ⟨c,0,none⟩),.pointer (some ⟨b,0,none⟩)]),z,⟨⟨z,z⟩,.inr ⟨328,[],[.pointer (some ⟨c,0,none⟩),.pointer (some ⟨b,0,none⟩)],z,fun A aq ar au S U=>B2N x.u (show (VI .i64) A [.int .i64 a] a from z) o.u (show (VI .i64) A [.int .i64 a1] a1 from z) S U⟩⟩⟩ A7.nil)); ?_)))
   obtain ⟨B,C,H⟩:=bnd H
   refine To (O.apX A1E A1E A2w z z z (j:=1) z (Src.row (j:=0) z) (O7.of z) (A7.ones A2e.plain q) p.u q C z fun W aw ax=>have X:A7 A2e w (d ++ [[.func (.func 327) #[] #[.pointer (some ⟨c,0,none⟩),.pointer (some ⟨b,0,none⟩)]],[.func (.func 328) #[] #[.pointer (some ⟨c,0,none⟩),.pointer (some ⟨b,0,none⟩)]]]) B:=A7.ap p.u q C; I7 1 z<|T.drop<|Ag z<|Ni<|Bn<|Th<|Rg ?_)
   obtain ⟨Y,Z,H⟩:=bnd H
   refine Vv (V.L8 z z Z)<|Mv z<|Nt<|T.again (K,B,Y,W,(d ++ [[.func (.func 327) #[] #[.pointer (some ⟨c,0,none⟩),.pointer (some ⟨b,0,none⟩)]],[.func (.func 328) #[] #[.pointer (some ⟨c,0,none⟩),.pointer (some ⟨b,0,none⟩)]]])) Li (Nat.lt_succ_self _) ⟨(G8 H t),X⟩ (A9.app ⟨z,z,trivial⟩ ⟨z,z,trivial⟩) z
  refine T.exit<|Te<|Te<|have H:=D7 H t; Be<|Th<|T.met (f,g,d) Li ⟨H,p⟩ (A9.app ⟨z,trivial⟩ trivial) z
 rintro ⟨k,m,n⟩ ay aA ⟨aa,ab⟩
 have H:=J5 aa G
 refine T.norm [5] z<|T.fl ?_
 refine Sr<|Mv z<|Ag z<|Nt<|T.ret<|T.K8 fun aB aC ac=>have ad:=A7.slc ac ab.u; ?_
 obtain rfl:=Option.some.inj H
 exact T.F5 Tryz.results243 (Rv z) Li ⟨z,ad⟩
theorem A2r {h:PH} {k1:Int} {pp1:Addr} {pc1:List Value} {t2:Int} (pa1:AtC h pp1 pc1) (pr1:(VI .i64) h pc1 t2) {pp2:Addr} {pc2:List Value} {t3:Int} (pa2:AtC h pp2 pc2) (pr2:(VI .i64) h pc2 t3) {r_0:Bool} (H:O1 k1 t2 t3 = some r_0):∀ L,H5 Tryz.prog 330 [.int .i64 k1,.pointer (some pp1),.pointer (some pp2)] h (L) (fun v h' L'=>v = .bool r_0∧L' = L):=by
 intro L
 obtain rfl:=pr1
 obtain rfl:=pr2
 refine H5.enter Tryz.func330 z Tryz.ntmps330 z<|Sr<|Ag z<|Nt<|Sr<|Vv (V.ld0 D9 z pa1 z)<|Vv (V.gt z z)<|Mv z<|T.bH 7 H z (fun H=>?_) (fun H=>?_)
 ·refine Mv z<|Vv (V.ld0 D9 z pa2 z)<|Vv (V.eq z z)<|Vv (V.M0 z z)<|Mv z<|T.bH 12 H z (fun H=>?_) (fun H=>?_)
  ·refine Sk<|Sk<|Sk<|Sk<|Sk<|Sk<|Sk<|Sk<|Sk<|Vv (V.M0 z z)<|Ag z<|Nt<|T.ret ?_
   obtain rfl:=Option.some.inj H
   exact T.F5 Tryz.results330 (Rv z) Lr ⟨z,z⟩
  refine Vv (V.ld0 D9 z pa1 z)<|Vv (V.eq z z)<|Mv z<|T.bH 15 H z (fun H=>?_) (fun H=>?_)
  ·refine Mv z<|Vv (V.ld0 D9 z pa2 z) ?_
   obtain ⟨e,a,H⟩:=bnd H
   refine Vv (V.B2H z z a) ?_
   obtain ⟨f,b,H⟩:=bnd H
   refine Vv (V.L8 z z b)<|Vv (V.eq z z)<|Vv (V.M0 z z)<|Vv (V.J9 z z)<|Ag z<|Nt<|T.ret ?_
   obtain rfl:=Option.some.inj H
   exact T.F5 Tryz.results330 (Rv z) Lr ⟨z,z⟩
  refine Sk<|Sk<|Sk<|Sk<|Sk<|Vv (V.J9 z z)<|Vv (V.J9 z z)<|Ag z<|Nt<|T.ret ?_
  obtain rfl:=Option.some.inj H
  exact T.F5 Tryz.results330 (Rv z) Lr ⟨z,z⟩
 refine Sk<|Sk<|Sk<|Vv (V.J9 z z)<|Mv z<|Vv (V.ld0 D9 z pa1 z)<|Vv (V.eq z z)<|Mv z<|T.bH 15 H z (fun H=>?_) (fun H=>?_)
 ·refine Mv z<|Vv (V.ld0 D9 z pa2 z) ?_
  obtain ⟨g,c,H⟩:=bnd H
  refine Vv (V.B2H z z c) ?_
  obtain ⟨i,d,H⟩:=bnd H
  refine Vv (V.L8 z z d)<|Vv (V.eq z z)<|Vv (V.M0 z z)<|Vv (V.J9 z z)<|Ag z<|Nt<|T.ret ?_
  obtain rfl:=Option.some.inj H
  exact T.F5 Tryz.results330 (Rv z) Lr ⟨z,z⟩
 refine Sk<|Sk<|Sk<|Sk<|Sk<|Vv (V.J9 z z)<|Vv (V.J9 z z)<|Ag z<|Nt<|T.ret ?_
 obtain rfl:=Option.some.inj H
 exact T.F5 Tryz.results330 (Rv z) Lr ⟨z,z⟩
theorem A6B {h:PH} {k1:Int} {pp1:Addr} {pc1:List Value} {t2:Int→Option Bool} (pa1:AtC h pp1 pc1) (pr1:B3A h pc1 t2) {pp2:Addr} {pc2:List Value} {t5:Int} (pa2:AtC h pp2 pc2) (pr2:(VI .i64) h pc2 t5) {pp3:Addr} {pc3:List Value} {t6:Int} (pa3:AtC h pp3 pc3) (pr3:(VI .i64) h pc3 t6) {r_0:Int} (H:A0Q k1 t2 t5 t6 = some r_0):∀ L,H5 Tryz.prog 331 [.int .i64 k1,.pointer (some pp1),.pointer (some pp2),.pointer (some pp3)] h (L) (fun v h' L'=>v = .int .i64 r_0∧L' = L):=by
 intro L
 obtain ⟨k,rfl,a⟩:=pr1
 obtain rfl:=pr2
 obtain rfl:=pr3
 refine H5.enter Tryz.func331 z Tryz.ntmps331 z<|Sr<|Ag z<|Nt<|Sq<|Sr<|Vv (V.ld0 B4e z pa1 z)<|Mv z ?_
 obtain ⟨m,b,H⟩:=bnd H
 obtain ⟨n,o,p,c,d⟩:=A1S.call a b
 refine To (O.A1m z c z (d _) z fun q r s t e=>?_)
 obtain ⟨rfl,f⟩:=e
 refine I9 _ f<|Nt<|T.cH H z (fun H=>?_) (fun H=>?_)
 ·refine Sr<|Mv z<|Ag z<|Nt<|T.ret<|Tr ?_
  obtain rfl:=Option.some.inj H
  exact T.F5 Tryz.results331 (Rv z) Li ⟨z,z⟩
 refine T.skip<|Th<|Sr<|Vv (V.ld0 D9 z pa2.u z)<|Vv (V.ld0 D9 z pa3.u z) ?_
 obtain ⟨w,g,H⟩:=bnd H
 refine Vv (V.L8 z z g) ?_
 obtain ⟨x,i,H⟩:=bnd H
 refine Vv (V.A0M z z i)<|Mv z ?_
 obtain ⟨y,j,H⟩:=bnd H
 refine Vv (V.A0M z z j)<|Ag z<|Nt<|T.ret ?_
 obtain rfl:=Option.some.inj H
 exact T.F5 Tryz.results331 (Rv z) Li ⟨z,z⟩
theorem A6A {h:PH} {k1:Int} {pp1:Addr} {pc1:List Value} {t2:Int→Option Bool} (pa1:AtC h pp1 pc1) (pr1:B3A h pc1 t2) {pp2:Addr} {pc2:List Value} {t5:Int} (pa2:AtC h pp2 pc2) (pr2:(VI .i64) h pc2 t5) {pp3:Addr} {pc3:List Value} {t6:Int} (pa3:AtC h pp3 pc3) (pr3:(VI .i64) h pc3 t6) {r_0:Int} (H:A1i k1 t2 t5 t6 = some r_0):∀ L,H5 Tryz.prog 332 [.int .i64 k1,.pointer (some pp1),.pointer (some pp2),.pointer (some pp3)] h (L) (fun v h' L'=>v = .int .i64 r_0∧L' = L):=by
 intro L
 obtain ⟨r,rfl,a⟩:=pr1
 obtain rfl:=pr2
 obtain rfl:=pr3
 refine H5.enter Tryz.func332 z Tryz.ntmps332 z<|Sr<|Ag z<|Nt<|Sq<|Bl<|Sr<|Vv (V.ld0 B4e z pa1 z)<|Mv z ?_
 obtain ⟨s,b,H⟩:=bnd H
 obtain ⟨t,w,x,c,d⟩:=A1S.call a b
 refine To (O.A1m z c z (d _) z fun y A B C e=>?_)
 obtain ⟨rfl,f⟩:=e
 refine I9 _ f<|Ag z<|Nt<|T.cH H z (fun H=>?_) (fun H=>?_)
 ·refine Sr<|Vv (V.ld0 D9 z pa2.u z) ?_
  obtain ⟨D,g,H⟩:=bnd H
  refine Vv (V.B2H z z g) ?_
  obtain ⟨E,i,H⟩:=bnd H
  refine Vv (V.L8 z z i)<|Mv z ?_
  obtain ⟨G,j,H⟩:=bnd H
  refine Vv (V.A0M z z j)<|Ag z<|Nt<|T.ret<|Br<|Tr ?_
  obtain rfl:=Option.some.inj H
  exact T.F5 Tryz.results332 (Rv z) Li ⟨z,z⟩
 refine Sr<|Mv z<|Vv (V.ld0 D9 z pa2.u z)<|Vv (V.lt z z)<|Ag z<|Nt<|T.cH H z (fun H=>?_) (fun H=>?_)
 ·refine Sr<|Vv (V.ld0 D9 z pa2.u z) ?_
  obtain ⟨I,k,H⟩:=bnd H
  refine Vv (V.A0M z z k)<|Mv z ?_
  obtain ⟨J,m,H⟩:=bnd H
  refine Vv (V.A0M z z m)<|Ag z<|Nt<|T.ret<|Br<|Tr ?_
  obtain rfl:=Option.some.inj H
  exact T.F5 Tryz.results332 (Rv z) Li ⟨z,z⟩
 refine T.skip<|Bn<|Th<|Sr<|Vv (V.ld0 D9 z pa3.u z) ?_
 obtain ⟨K,n,H⟩:=bnd H
 refine Vv (V.B2H z z n)<|Vv (V.ld0 D9 z pa2.u z) ?_
 obtain ⟨M,o,H⟩:=bnd H
 refine Vv (V.L8 z z o) ?_
 obtain ⟨N,p,H⟩:=bnd H
 refine Vv (V.A0M z z p)<|Mv z ?_
 obtain ⟨P,q,H⟩:=bnd H
 refine Vv (V.A0M z z q)<|Ag z<|Nt<|T.ret ?_
 obtain rfl:=Option.some.inj H
 exact T.F5 Tryz.results332 (Rv z) Li ⟨z,z⟩
theorem B4c {h:PH} {k1:Int} {pp1:Addr} {pc1:List Value} {t2:Int→Option Int} (pa1:AtC h pp1 pc1) (pr1:A2e h pc1 t2) {pp2:Addr} {pc2:List Value} {t5:Int→Option Int} (pa2:AtC h pp2 pc2) (pr2:A2e h pc2 t5) {r_0:Int} (H:A5J k1 t2 t5 = some r_0):∀ L,H5 Tryz.prog 334 [.int .i64 k1,.pointer (some pp1),.pointer (some pp2)] h (L) (fun v h' L'=>v = .int .i64 r_0∧L' = L):=by
 intro L
 obtain ⟨q,rfl,a⟩:=pr1
 obtain ⟨r,rfl,b⟩:=pr2
 refine H5.enter Tryz.func334 rfl Tryz.ntmps334 rfl<|Sr<|Ag z<|Nt<|Sq<|T.O8 (t:=(.v 0 (.v 1 (.v 2 (.alt 3 (.alt 4 (.alt 5 .done .no) .no) .no))))) 7 0 0 rfl rfl I8 (by kernel_rfl) ?_
 refine Tv z (V.ld0 A3S z pa1 z)<|Tv z (V.ld0 A3S z pa2 z)<|Tm z z ?_
 obtain ⟨s,c,H⟩:=bnd H
 obtain ⟨w,x,y,d,e⟩:=A5U.call b c
 refine Tp z z (SX.two (XA.fr [] Lr z) (XA.fr [] Lr z)) (O.A1m z d z (e _) z fun A f B C i=>?_) T.Q9
 obtain ⟨rfl,j⟩:=i
 refine I9 _ j ?_
 obtain ⟨D,k,H⟩:=bnd H
 obtain ⟨E,G,I,m,n⟩:=A5U.call (a.u (g:=f)) k
 refine Tp z z (SX.two (XA.fr [] Li z) (XA.fr [] Li z)) (O.A1m z m z (n _) z fun J K M N o=>?_) T.Q9
 obtain ⟨rfl,p⟩:=o
 refine I9 _ p<|Ts z z (SX.two (XA.fr [] Li z) (XA.fr [] Li z)) (V.asg z) z ?_ T.Q9
 refine T.R5 (SX.two (XA.fr [] Li z) (XA.fr [] Li z))<|Th<|T.ret ?_
 obtain rfl:=Option.some.inj H
 exact T.F5 Tryz.results334 (Rv z) Li ⟨z,z⟩
theorem B4M {h:PH} {a1:Int} {b2:Int} {r_0:List (Int→Option Int)} (H:B2e a1 b2 = some r_0):∀ L,H5 Tryz.prog 248 [.int .i64 a1,.int .i64 b2] h (L) (fun v h' L'=>L' = L∧G9 A2e 1 h' v r_0):=by
 intro L
 refine H5.enter Tryz.func248 z Tryz.ntmps248 z<|Sr<|To (O.V3 z z z fun b aM aN i=>To (O.V3 z z z fun f aO aP m=>Ag z<|Nt<|Sr<|Vv (V.ld0 D9 z i.u z)<|Vv (V.ld0 D9 z m z) ?_))
 obtain ⟨g,M,H⟩:=bnd H
 refine To (O.C8 z (B1V M _) z fun aS aU aV aW N=>?_)
 obtain ⟨rfl,P⟩:=N
 refine I9 _ P<|To (O.alloc Q4 z z fun c=>To (O.stF (vs:=[.int .i64 g]) D9 z z (j:=0) z z z z<|T.freeze fun aX aY S=>have n:=AtC.of S; Nt<|Sr<|Vv (V.mkf z z)<|To (O.alloc C3Z z z fun d=>To (O.stF (vs:=[.func (.func 330) #[] #[.pointer (some ⟨f,0,none⟩),.pointer (some ⟨b,0,none⟩)]]) B4e z z (j:=0) z z z z<|T.freeze fun aZ a0 U=>have o:=AtC.of U; Nt<|Sr<|Vv (V.mkf z z)<|To (O.alloc A2w z z fun p=>To (O.stF (vs:=[.func (.func 331) #[] #[.pointer (some ⟨d,0,none⟩),.pointer (some ⟨c,0,none⟩),.pointer (some ⟨b,0,none⟩)]]) A3S z z (j:=0) z z z z<|T.freeze fun a2 a3 W=>have A:=AtC.of W; Nt<|Sr<|Vv (V.mkf z z)<|To (O.alloc A2w z z fun q=>To (O.stF (vs:=[.func (.func 332) #[] #[.pointer (some ⟨d,0,none⟩),.pointer (some ⟨b,0,none⟩),.pointer (some ⟨c,0,none⟩)]]) A3S z z (j:=0) z z z z<|T.freeze fun k a4 X=>have B:=AtC.of X; Nt<|Sr<|Vv (V.ld0 A3S z A.u z)<|To (O.bs A1E A2w z (e:=z) (hk:=z) (xs:=[.func 333,.tmp 16]) (hv:=CO.eq (CO.cons z (CO.cons z CO.nil))) (hw:=O7.of z) (hd:=z) fun a5=>have r:A7 A2e k [[.func (.func 333) #[] #[]],[.func (.func 331) #[] #[.pointer (some ⟨d,0,none⟩),.pointer (some ⟨c,0,none⟩),.pointer (some ⟨b,0,none⟩)]]] ([A3X,(fun a=>A0Q a (fun a=>O1 a b2 a1) g a1)]:List (Int→Option Int)):=(A7.cons ⟨(.func (.func 333) #[] #[]),z,⟨⟨z,z⟩,.inr ⟨333,[],[],z,fun a6 a7 a8 a9 Y Z=>A9f Y Z⟩⟩⟩ (A7.cons ⟨(.func (.func 331) #[] #[.pointer (some ⟨d,0,none⟩),.pointer (some ⟨c,0,none⟩),.pointer (some ⟨b,0,none⟩)]),z,⟨⟨z,z⟩,.inr ⟨331,[],[.pointer (some ⟨d,0,none⟩),.pointer (some ⟨c,0,none⟩),.pointer (some ⟨b,0,none⟩)],z,fun s aa ah al ab ac=>A6B o.u (show B3A s [.func (.func 330) #[] #[.pointer (some ⟨f,0,none⟩),.pointer (some ⟨b,0,none⟩)]] (fun a=>O1 a b2 a1) from ⟨(.func (.func 330) #[] #[.pointer (some ⟨f,0,none⟩),.pointer (some ⟨b,0,none⟩)]),z,(A1S.mono (show A1S k (.func (.func 330) #[] #[.pointer (some ⟨f,0,none⟩),.pointer (some ⟨b,0,none⟩)]) (fun a=>O1 a b2 a1) from ⟨⟨z,z⟩,.inr ⟨330,[],[.pointer (some ⟨f,0,none⟩),.pointer (some ⟨b,0,none⟩)],z,fun C av az ba ad ae=>A2r m.u (show (VI .i64) C [.int .i64 b2] b2 from z) i.u (show (VI .i64) C [.int .i64 a1] a1 from z) ad ae⟩⟩) aa)⟩) n.u (show (VI .i64) s [.int .i64 g] g from z) i.u (show (VI .i64) s [.int .i64 a1] a1 from z) ab ac⟩⟩⟩ A7.nil)); Ag z<|Nt<|Sq<|Sr<|Vv (V.ld0 D9 z m.u z)<|Vv (V.ne z z)<|Nt<|T.cH H z (fun H=>?_) (fun H=>?_))))))))))
 ·refine Rg<|Mv z<|Vv (V.ld0 A3S z B z)<|Vv (V.mkf z z)<|To (O.bs A1E A2w z (e:=z) (hk:=z) (xs:=[.tmp 21,.tmp 22]) (hv:=CO.eq (CO.cons z (CO.cons z CO.nil))) (hw:=O7.of z) (hd:=z) fun bb=>have t:A7 A2e k [[.func (.func 332) #[] #[.pointer (some ⟨d,0,none⟩),.pointer (some ⟨b,0,none⟩),.pointer (some ⟨c,0,none⟩)]],[.func (.func 334) #[] #[.pointer (some ⟨p,0,none⟩),.pointer (some ⟨q,0,none⟩)]]] ([(fun a=>A1i a (fun a=>O1 a b2 a1) a1 g),(fun a=>A5J a (fun a=>A0Q a (fun a=>O1 a b2 a1) g a1) (fun a=>A1i a (fun a=>O1 a b2 a1) a1 g))]:List (Int→Option Int)):=(A7.cons ⟨(.func (.func 332) #[] #[.pointer (some ⟨d,0,none⟩),.pointer (some ⟨b,0,none⟩),.pointer (some ⟨c,0,none⟩)]),z,⟨⟨z,z⟩,.inr ⟨332,[],[.pointer (some ⟨d,0,none⟩),.pointer (some ⟨b,0,none⟩),.pointer (some ⟨c,0,none⟩)],z,fun w af bc bd ag ai=>A6A o.u (show B3A w [.func (.func 330) #[] #[.pointer (some ⟨f,0,none⟩),.pointer (some ⟨b,0,none⟩)]] (fun a=>O1 a b2 a1) from ⟨(.func (.func 330) #[] #[.pointer (some ⟨f,0,none⟩),.pointer (some ⟨b,0,none⟩)]),z,(A1S.mono (show A1S k (.func (.func 330) #[] #[.pointer (some ⟨f,0,none⟩),.pointer (some ⟨b,0,none⟩)]) (fun a=>O1 a b2 a1) from ⟨⟨z,z⟩,.inr ⟨330,[],[.pointer (some ⟨f,0,none⟩),.pointer (some ⟨b,0,none⟩)],z,fun D be bf bg aj ak=>A2r m.u (show (VI .i64) D [.int .i64 b2] b2 from z) i.u (show (VI .i64) D [.int .i64 a1] a1 from z) aj ak⟩⟩) af)⟩) i.u (show (VI .i64) w [.int .i64 a1] a1 from z) n.u (show (VI .i64) w [.int .i64 g] g from z) ag ai⟩⟩⟩ (A7.cons ⟨(.func (.func 334) #[] #[.pointer (some ⟨p,0,none⟩),.pointer (some ⟨q,0,none⟩)]),z,⟨⟨z,z⟩,.inr ⟨334,[],[.pointer (some ⟨p,0,none⟩),.pointer (some ⟨q,0,none⟩)],z,fun E G bi bj am an=>B4c A.u (show A2e E [.func (.func 331) #[] #[.pointer (some ⟨d,0,none⟩),.pointer (some ⟨c,0,none⟩),.pointer (some ⟨b,0,none⟩)]] (fun a=>A0Q a (fun a=>O1 a b2 a1) g a1) from ⟨(.func (.func 331) #[] #[.pointer (some ⟨d,0,none⟩),.pointer (some ⟨c,0,none⟩),.pointer (some ⟨b,0,none⟩)]),z,(A5U.mono (show A5U k (.func (.func 331) #[] #[.pointer (some ⟨d,0,none⟩),.pointer (some ⟨c,0,none⟩),.pointer (some ⟨b,0,none⟩)]) (fun a=>A0Q a (fun a=>O1 a b2 a1) g a1) from ⟨⟨z,z⟩,.inr ⟨331,[],[.pointer (some ⟨d,0,none⟩),.pointer (some ⟨c,0,none⟩),.pointer (some ⟨b,0,none⟩)],z,fun x ao bk bm aq ar=>A6B o.u (show B3A x [.func (.func 330) #[] #[.pointer (some ⟨f,0,none⟩),.pointer (some ⟨b,0,none⟩)]] (fun a=>O1 a b2 a1) from ⟨(.func (.func 330) #[] #[.pointer (some ⟨f,0,none⟩),.pointer (some ⟨b,0,none⟩)]),z,(A1S.mono (show A1S k (.func (.func 330) #[] #[.pointer (some ⟨f,0,none⟩),.pointer (some ⟨b,0,none⟩)]) (fun a=>O1 a b2 a1) from ⟨⟨z,z⟩,.inr ⟨330,[],[.pointer (some ⟨f,0,none⟩),.pointer (some ⟨b,0,none⟩)],z,fun I bn bo bp au aw=>A2r m.u (show (VI .i64) I [.int .i64 b2] b2 from z) i.u (show (VI .i64) I [.int .i64 a1] a1 from z) au aw⟩⟩) ao)⟩) n.u (show (VI .i64) x [.int .i64 g] g from z) i.u (show (VI .i64) x [.int .i64 a1] a1 from z) aq ar⟩⟩) G)⟩) B.u (show A2e E [.func (.func 332) #[] #[.pointer (some ⟨d,0,none⟩),.pointer (some ⟨b,0,none⟩),.pointer (some ⟨c,0,none⟩)]] (fun a=>A1i a (fun a=>O1 a b2 a1) a1 g) from ⟨(.func (.func 332) #[] #[.pointer (some ⟨d,0,none⟩),.pointer (some ⟨b,0,none⟩),.pointer (some ⟨c,0,none⟩)]),z,(A5U.mono (show A5U k (.func (.func 332) #[] #[.pointer (some ⟨d,0,none⟩),.pointer (some ⟨b,0,none⟩),.pointer (some ⟨c,0,none⟩)]) (fun a=>A1i a (fun a=>O1 a b2 a1) a1 g) from ⟨⟨z,z⟩,.inr ⟨332,[],[.pointer (some ⟨d,0,none⟩),.pointer (some ⟨b,0,none⟩),.pointer (some ⟨c,0,none⟩)],z,fun y ax bq br ay aA=>A6A o.u (show B3A y [.func (.func 330) #[] #[.pointer (some ⟨f,0,none⟩),.pointer (some ⟨b,0,none⟩)]] (fun a=>O1 a b2 a1) from ⟨(.func (.func 330) #[] #[.pointer (some ⟨f,0,none⟩),.pointer (some ⟨b,0,none⟩)]),z,(A1S.mono (show A1S k (.func (.func 330) #[] #[.pointer (some ⟨f,0,none⟩),.pointer (some ⟨b,0,none⟩)]) (fun a=>O1 a b2 a1) from ⟨⟨z,z⟩,.inr ⟨330,[],[.pointer (some ⟨f,0,none⟩),.pointer (some ⟨b,0,none⟩)],z,fun J bt bu bw aB aC=>A2r m.u (show (VI .i64) J [.int .i64 b2] b2 from z) i.u (show (VI .i64) J [.int .i64 a1] a1 from z) aB aC⟩⟩) ax)⟩) i.u (show (VI .i64) y [.int .i64 a1] a1 from z) n.u (show (VI .i64) y [.int .i64 g] g from z) ay aA⟩⟩) G)⟩) am an⟩⟩⟩ A7.nil)); ?_)
  obtain ⟨aD,K,H⟩:=bnd H
  refine To (O.apX A1E A1E A2w z z z (j:=1) z (Src.row (j:=0) z) (O7.of z) (A7.ones A2e.plain t) r t K z fun bx bA bB=>have aE:A7 A2e k ([[.func (.func 333) #[] #[]],[.func (.func 331) #[] #[.pointer (some ⟨d,0,none⟩),.pointer (some ⟨c,0,none⟩),.pointer (some ⟨b,0,none⟩)]]] ++ [[.func (.func 332) #[] #[.pointer (some ⟨d,0,none⟩),.pointer (some ⟨b,0,none⟩),.pointer (some ⟨c,0,none⟩)]],[.func (.func 334) #[] #[.pointer (some ⟨p,0,none⟩),.pointer (some ⟨q,0,none⟩)]]]) aD:=A7.ap r t K; I7 1 z<|T.drop<|Ag z<|Nt<|Sr<|Mv z<|Ag z<|Nt<|T.ret<|T.K8 fun bC bD aG=>have aI:=A7.slc aG aE.u; ?_)
  obtain rfl:=Option.some.inj H
  exact T.F5 Tryz.results248 (Rv z) Li ⟨z,aI⟩
 refine T.skip<|Th<|Sr<|Mv z<|Ag z<|Nt<|T.ret<|T.K8 fun bE bG aJ=>have aK:=A7.slc aJ r.u; ?_
 obtain rfl:=Option.some.inj H
 exact T.F5 Tryz.results248 (Rv z) Li ⟨z,aK⟩
theorem B4o {h:PH} {k1:Int} {pp1:Addr} {pc1:List Value} {t2:Int} (pa1:AtC h pp1 pc1) (pr1:(VI .i64) h pc1 t2) {pp2:Addr} {pc2:List Value} {t3:Int} (pa2:AtC h pp2 pc2) (pr2:(VI .i64) h pc2 t3) {r_0:Int} (H:A5P k1 t2 t3 = some r_0):∀ L,H5 Tryz.prog 335 [.int .i64 k1,.pointer (some pp1),.pointer (some pp2)] h (L) (fun v h' L'=>v = .int .i64 r_0∧L' = L):=by
 intro L
 obtain rfl:=pr1
 obtain rfl:=pr2
 refine H5.enter Tryz.func335 z Tryz.ntmps335 z<|Sr<|Ag z<|Nt<|Sr<|Vv (V.ld0 D9 z pa1 z)<|Vv (V.ld0 D9 z pa2 z) ?_
 obtain ⟨e,a,H⟩:=bnd H
 refine Vv (V.B2H z z a) ?_
 obtain ⟨f,b,H⟩:=bnd H
 refine Vv (V.L8 z z b) ?_
 obtain ⟨g,c,H⟩:=bnd H
 refine Vv (V.A0M z z c)<|Mv z ?_
 obtain ⟨i,d,H⟩:=bnd H
 refine Vv (V.A0M z z d)<|Ag z<|Nt<|T.ret ?_
 obtain rfl:=Option.some.inj H
 exact T.F5 Tryz.results335 (Rv z) Lr ⟨z,z⟩
theorem B5g {h:PH} {a1:Int} {b2:Int} {r_0:List (Int→Option Int)} (H:B1S a1 b2 = some r_0):∀ L,H5 Tryz.prog 253 [.int .i64 a1,.int .i64 b2] h (L) (fun v h' L'=>L' = L∧G9 A2e 1 h' v r_0):=by
 intro L
 refine H5.enter Tryz.func253 z Tryz.ntmps253 z<|Sr<|To (O.V3 z z z fun a r s d=>To (O.V3 z z z fun b f t g=>Ag z<|Nt<|Sr<|Vv (V.mkf z z)<|To (O.bs A1E A2w z (e:=z) (hk:=z) (xs:=[.func 333,.tmp 5]) (hv:=CO.eq (CO.cons z (CO.cons z CO.nil))) (hw:=O7.of z) (hd:=z) fun w=>have i:A7 A2e f [[.func (.func 333) #[] #[]],[.func (.func 335) #[] #[.pointer (some ⟨a,0,none⟩),.pointer (some ⟨b,0,none⟩)]]] ([A3X,(fun j=>A5P j a1 b2)]:List (Int→Option Int)):=(A7.cons ⟨(.func (.func 333) #[] #[]),z,⟨⟨z,z⟩,.inr ⟨333,[],[],z,fun x y A B k m=>A9f k m⟩⟩⟩ (A7.cons ⟨(.func (.func 335) #[] #[.pointer (some ⟨a,0,none⟩),.pointer (some ⟨b,0,none⟩)]),z,⟨⟨z,z⟩,.inr ⟨335,[],[.pointer (some ⟨a,0,none⟩),.pointer (some ⟨b,0,none⟩)],z,fun c C D E n o=>B4o d.u (show (VI .i64) c [.int .i64 a1] a1 from z) g.u (show (VI .i64) c [.int .i64 b2] b2 from z) n o⟩⟩⟩ A7.nil)); Ag z<|Nt<|T.ret<|T.K8 fun G I p=>have q:=A7.slc p i.u; ?_)))
 obtain rfl:=Option.some.inj H
 exact T.F5 Tryz.results253 (Rv z) Li ⟨z,q⟩
theorem B4V {h:PH} {k1:Int} {pp1:Addr} {pc1:List Value} {t2:Int} (pa1:AtC h pp1 pc1) (pr1:(VI .i64) h pc1 t2) {r_0:Int} (H:A6C k1 t2 = some r_0):∀ L,H5 Tryz.prog 336 [.int .i64 k1,.pointer (some pp1)] h (L) (fun v h' L'=>v = .int .i64 r_0∧L' = L):=by
 intro L
 obtain rfl:=pr1
 refine H5.enter Tryz.func336 z Tryz.ntmps336 z<|Sr<|Ag z<|Nt<|Sr<|Vv (V.ld0 D9 z pa1 z) ?_
 obtain ⟨c,a,H⟩:=bnd H
 refine Vv (V.A0M z z a)<|Mv z ?_
 obtain ⟨d,b,H⟩:=bnd H
 refine Vv (V.A0M z z b)<|Ag z<|Nt<|T.ret ?_
 obtain rfl:=Option.some.inj H
 exact T.F5 Tryz.results336 (Rv z) Lr ⟨z,z⟩
theorem B5X {h:PH} {a1:Int} {b2:Int} {r_0:List (Int→Option Int)} (H:B3Q a1 b2 = some r_0):∀ L,H5 Tryz.prog 258 [.int .i64 a1,.int .i64 b2] h (L) (fun v h' L'=>L' = L∧G9 A2e 1 h' v r_0):=by
 intro L
 refine H5.enter Tryz.func258 z Tryz.ntmps258 z<|Sr<|To (O.V3 z z z fun a b p c=>Ag z<|Nt<|Sr<|Vv (V.mkf z z)<|To (O.bs A1E A2w z (e:=z) (hk:=z) (xs:=[.func 333,.tmp 5]) (hv:=CO.eq (CO.cons z (CO.cons z CO.nil))) (hw:=O7.of z) (hd:=z) fun q=>have d:A7 A2e b [[.func (.func 333) #[] #[]],[.func (.func 336) #[] #[.pointer (some ⟨a,0,none⟩)]]] ([A3X,(fun f=>A6C f a1)]:List (Int→Option Int)):=(A7.cons ⟨(.func (.func 333) #[] #[]),z,⟨⟨z,z⟩,.inr ⟨333,[],[],z,fun r s t w g i=>A9f g i⟩⟩⟩ (A7.cons ⟨(.func (.func 336) #[] #[.pointer (some ⟨a,0,none⟩)]),z,⟨⟨z,z⟩,.inr ⟨336,[],[.pointer (some ⟨a,0,none⟩)],z,fun j x y A k m=>B4V c.u (show (VI .i64) j [.int .i64 a1] a1 from z) k m⟩⟩⟩ A7.nil)); Ag z<|Nt<|T.ret<|T.K8 fun B C n=>have o:=A7.slc n d.u; ?_))
 obtain rfl:=Option.some.inj H
 exact T.F5 Tryz.results258 (Rv z) Li ⟨z,o⟩
theorem A2i {h:PH} {s1:Int} {r_0:A2v} {r_1:Bool} (H:A2c s1 = some (r_0,r_1)):∀ L,H5 Tryz.prog 164 [.int .u8 s1] h (L) (fun v h' L'=>∃ v0_1 v0_3 v0_5 v0_7 v0_9,v = .tuple #[.agg #[.string r_0.A5E,v0_1,v0_3,v0_5,v0_7,v0_9],.bool r_1]∧L' = L∧A5x h' v0_1 r_0.V5∧A5v h' v0_3 r_0.B2s∧A5v h' v0_5 r_0.B2A∧A5x h' v0_7 r_0.C1x∧A8U h' v0_9 r_0.C4i):=by
 intro L
 refine H5.enter Tryz.func164 z Tryz.ntmps164 z<|Sr<|To (O.alloc A4I z z fun ab=>Ag z<|Nt<|Sq<|Sr<|Mv z<|Nt<|Bl<|Sr<|Vv (V.eq z z)<|Ag z<|Nt<|T.cH H z (fun H=>?_) (fun H=>?_))
 ·refine Sr<|Vv (V.bld (xs:=[(0,.const (.string ⟨#[114,111,117,110,100]⟩)),(1,.func 239),(2,.func 240),(3,.func 241),(4,.func 242),(5,.func 243)]) (cs:=[_,_,_,_,_,_]) A6V A6H z (F8.cons z z z (F8.cons z z z (F8.cons z z z (F8.cons z z z (F8.cons z z z (F8.cons z z z F8.nil)))))))<|To (O.stF (vs:=[.string (⟨#[114,111,117,110,100]⟩:ByteArray),.func (.func 239) #[] #[],.func (.func 240) #[] #[],.func (.func 241) #[] #[],.func (.func 242) #[] #[],.func (.func 243) #[] #[]]) A0y z z (j:=0) z z z z<|Ag z<|Nt<|T.ret<|Br<|Tr ?_)
  obtain ⟨rfl,rfl⟩:=inj2 H
  exact T.A6Z (L':=L) Tryz.results164 (RVs.cons (RV.cellS z (j:=0) z A0y) (Rv z)) Lr (fun _ iv=>iv.drop) ⟨_,_,_,_,_,z,z,⟨⟨z,z⟩,.inr ⟨239,[],[],z,fun ac ad ae af ag a b=>B3V a b⟩⟩,⟨⟨z,z⟩,.inr ⟨240,[],[],z,fun ai aj ak am an ao ap c d=>B2S c d⟩⟩,⟨⟨z,z⟩,.inr ⟨241,[],[],z,fun aq ar au aw ax ay aA e f=>B2L e f⟩⟩,⟨⟨z,z⟩,.inr ⟨242,[],[],z,fun aB aC aD aE aG g i=>C1F g i⟩⟩,⟨⟨z,z⟩,.inr ⟨243,[],[],z,fun aI aJ aK aM aN k m=>B4u k m⟩⟩⟩
 refine Sr<|Vv (V.eq z z)<|Ag z<|Nt<|T.cH H z (fun H=>?_) (fun H=>?_)
 ·refine Sr<|Vv (V.bld (xs:=[(0,.const (.string ⟨#[108,111,110,103]⟩)),(1,.func 244),(2,.func 245),(3,.func 246),(4,.func 247),(5,.func 248)]) (cs:=[_,_,_,_,_,_]) A6V A6H z (F8.cons z z z (F8.cons z z z (F8.cons z z z (F8.cons z z z (F8.cons z z z (F8.cons z z z F8.nil)))))))<|To (O.stF (vs:=[.string (⟨#[108,111,110,103]⟩:ByteArray),.func (.func 244) #[] #[],.func (.func 245) #[] #[],.func (.func 246) #[] #[],.func (.func 247) #[] #[],.func (.func 248) #[] #[]]) A0y z z (j:=0) z z z z<|Ag z<|Nt<|T.ret<|Br<|Tr ?_)
  obtain ⟨rfl,rfl⟩:=inj2 H
  exact T.A6Z (L':=L) Tryz.results164 (RVs.cons (RV.cellS z (j:=0) z A0y) (Rv z)) Lr (fun _ iv=>iv.drop) ⟨_,_,_,_,_,z,z,⟨⟨z,z⟩,.inr ⟨244,[],[],z,fun aO aP aS aU aV n o=>B5k n o⟩⟩,⟨⟨z,z⟩,.inr ⟨245,[],[],z,fun aW aX aY aZ a0 a1 a2 p q=>B4b p q⟩⟩,⟨⟨z,z⟩,.inr ⟨246,[],[],z,fun a3 a4 a5 a6 a7 a8 a9 r s=>B4i r s⟩⟩,⟨⟨z,z⟩,.inr ⟨247,[],[],z,fun ah al av az ba t u=>B4g t u⟩⟩,⟨⟨z,z⟩,.inr ⟨248,[],[],z,fun bb bc bd be bf w x=>B4M w x⟩⟩⟩
 refine Sr<|Vv (V.eq z z)<|Ag z<|Nt<|T.cH H z (fun H=>?_) (fun H=>?_)
 ·refine Sr<|Vv (V.bld (xs:=[(0,.const (.string ⟨#[104,111,114,115,101,115,104,111,101]⟩)),(1,.func 249),(2,.func 250),(3,.func 251),(4,.func 252),(5,.func 253)]) (cs:=[_,_,_,_,_,_]) A6V A6H z (F8.cons z z z (F8.cons z z z (F8.cons z z z (F8.cons z z z (F8.cons z z z (F8.cons z z z F8.nil)))))))<|To (O.stF (vs:=[.string (⟨#[104,111,114,115,101,115,104,111,101]⟩:ByteArray),.func (.func 249) #[] #[],.func (.func 250) #[] #[],.func (.func 251) #[] #[],.func (.func 252) #[] #[],.func (.func 253) #[] #[]]) A0y z z (j:=0) z z z z<|Ag z<|Nt<|T.ret<|Br<|Tr ?_)
  obtain ⟨rfl,rfl⟩:=inj2 H
  exact T.A6Z (L':=L) Tryz.results164 (RVs.cons (RV.cellS z (j:=0) z A0y) (Rv z)) Lr (fun _ iv=>iv.drop) ⟨_,_,_,_,_,z,z,⟨⟨z,z⟩,.inr ⟨249,[],[],z,fun bg bi bj bk bm y A=>B5A y A⟩⟩,⟨⟨z,z⟩,.inr ⟨250,[],[],z,fun bn bo bp bq br bs bt B C=>B4r B C⟩⟩,⟨⟨z,z⟩,.inr ⟨251,[],[],z,fun bu bw bx bA bB bC bD D E=>B4l D E⟩⟩,⟨⟨z,z⟩,.inr ⟨252,[],[],z,fun bE bG bI bJ bK G I=>C1X G I⟩⟩,⟨⟨z,z⟩,.inr ⟨253,[],[],z,fun bM bN bO bP bS J K=>B5g J K⟩⟩⟩
 refine Sr<|Vv (V.eq z z)<|Ag z<|Nt<|T.cH H z (fun H=>?_) (fun H=>?_)
 ·refine Sr<|Vv (V.bld (xs:=[(0,.const (.string ⟨#[114,111,119]⟩)),(1,.func 254),(2,.func 255),(3,.func 256),(4,.func 257),(5,.func 258)]) (cs:=[_,_,_,_,_,_]) A6V A6H z (F8.cons z z z (F8.cons z z z (F8.cons z z z (F8.cons z z z (F8.cons z z z (F8.cons z z z F8.nil)))))))<|To (O.stF (vs:=[.string (⟨#[114,111,119]⟩:ByteArray),.func (.func 254) #[] #[],.func (.func 255) #[] #[],.func (.func 256) #[] #[],.func (.func 257) #[] #[],.func (.func 258) #[] #[]]) A0y z z (j:=0) z z z z<|Ag z<|Nt<|T.ret<|Br<|Tr ?_)
  obtain ⟨rfl,rfl⟩:=inj2 H
  exact T.A6Z (L':=L) Tryz.results164 (RVs.cons (RV.cellS z (j:=0) z A0y) (Rv z)) Lr (fun _ iv=>iv.drop) ⟨_,_,_,_,_,z,z,⟨⟨z,z⟩,.inr ⟨254,[],[],z,fun bU bV bW bX bY M N=>B5H M N⟩⟩,⟨⟨z,z⟩,.inr ⟨255,[],[],z,fun bZ b0 b1 b2 b3 b4 b5 P S=>B5i P S⟩⟩,⟨⟨z,z⟩,.inr ⟨256,[],[],z,fun b6 b7 b8 b9 bh bl bv U W=>C2h U W⟩⟩,⟨⟨z,z⟩,.inr ⟨257,[],[],z,fun bz ca cb cc cd X Y=>C2u X Y⟩⟩,⟨⟨z,z⟩,.inr ⟨258,[],[],z,fun ce cf cg ci cj Z aa=>B5X Z aa⟩⟩⟩
 refine T.skip<|Bn<|Th<|Sr<|Vv (V.bld (xs:=[]) (cs:=[_,_,_,_,_,_]) A6V A6H z F8.nil)<|To (O.stF (vs:=[.string (⟨#[]⟩:ByteArray),.nilFunc,.nilFunc,.nilFunc,.nilFunc,.nilFunc]) A0y z z (j:=0) z z z z<|Ag z<|Nt<|T.ret ?_)
 obtain ⟨rfl,rfl⟩:=inj2 H
 exact T.A6Z (L':=L) Tryz.results164 (RVs.cons (RV.cellS z (j:=0) z A0y) (Rv z)) Lr (fun _ iv=>iv.drop) ⟨_,_,_,_,_,z,z,⟨⟨z,z⟩,.inl fun _ _=>z⟩,⟨⟨z,z⟩,.inl fun _ _ _ _=>z⟩,⟨⟨z,z⟩,.inl fun _ _ _ _=>z⟩,⟨⟨z,z⟩,.inl fun _ _=>z⟩,⟨⟨z,z⟩,.inl fun _ _=>z⟩⟩
theorem A1N {h:PH} {pc0:List Value} {t1:D5} (pr0:E8 h pc0 t1) {r_0:Int} (H:A2j t1 = some r_0):∀ L,H5 Tryz.prog 90 [.agg pc0.toArray] h (L) (fun v h' L'=>v = .int .i64 r_0∧L' = L):=by
 intro L
 obtain ⟨G,rfl,I⟩:=pr0
 refine H5.enter Tryz.func90 z Tryz.ntmps90 z<|Sr<|To (O.V3 z z z fun J K M a=>Ag z<|Nt<|Sr<|Vv (V.fa A3W z)<|Vv (V.I6 (k:=1) A6l z a z) ?_)
 obtain ⟨⟨c,N⟩,d,H⟩:=bnd H
 refine To (O.C8 z (A2i d _) z fun P S U W e=>?_)
 obtain ⟨f,i,m,n,o,rfl,p,b,q,r,s,t⟩:=e
 refine I9 _ p<|Mv z<|Vv (V.ext rfl rfl)<|Vv (V.ext rfl rfl)<|To (O.alloc A4I rfl rfl fun X=>To (O.stF (vs:=[.string c.A5E,f,i,m,n,o]) A0y rfl rfl (j:=0) rfl rfl (by (simp only [Sl.ones,b.1.1,q.1.1,r.1.1,s.1.1,t.1.1,Bool.and_true,Bool.true_and]) <;> rfl) rfl ?_))
 refine T.freeze fun w Y x=>have y:=AtC.of x; Ag z<|Nt<|Sq<|Sr<|Mv z<|Vv (V.not z)<|Nt<|T.cH H z (fun H=>?_) (fun H=>?_)
 ·refine Sr<|Ag z<|Nt<|T.ret<|Tr ?_
  obtain rfl:=Option.some.inj H
  exact T.F5 Tryz.results90 (Rv z) Li ⟨z,z⟩
 refine T.skip<|Th<|Sr<|Vv (V.fa C2r z)<|Vv (V.I6 (k:=1) B8f z y z)<|Vv (V.fa A0q z)<|Vv (V.I6 (k:=2) D9 z a.u z)<|Vv (V.fa A1c z)<|Vv (V.I6 (k:=3) D9 z a.u z) ?_
 obtain ⟨Z,A,H⟩:=bnd H
 obtain ⟨aa,ab,ac,B,C⟩:=A5x.call (b.u (g:=w)) A
 refine To (O.A1m z B z (C _) z fun ad ae af ag D=>?_)
 obtain ⟨rfl,E⟩:=D
 refine I9 _ E<|Ag z<|Nt<|T.ret ?_
 obtain rfl:=Option.some.inj H
 exact T.F5 Tryz.results90 (Rv z) Li ⟨z,z⟩
theorem A4s {h:PH} {pc0:List Value} {t1:D5} (pr0:E8 h pc0 t1) {x4:Int} {y5:Int} {r_0:Bool} (H:A5G t1 x4 y5 = some r_0):∀ L,H5 Tryz.prog 199 [.agg pc0.toArray,.int .i64 x4,.int .i64 y5] h (L) (fun v h' L'=>v = .bool r_0∧L' = L):=by
 intro L
 obtain ⟨G,rfl,I⟩:=pr0
 refine H5.enter Tryz.func199 z Tryz.ntmps199 z<|Sr<|To (O.V3 z z z fun J K M a=>Ag z<|Nt<|Sr<|Vv (V.fa A3W z)<|Vv (V.I6 (k:=1) A6l z a z) ?_)
 obtain ⟨⟨c,N⟩,d,H⟩:=bnd H
 refine To (O.C8 z (A2i d _) z fun P S U W e=>?_)
 obtain ⟨f,i,m,n,o,rfl,p,q,b,r,s,t⟩:=e
 refine I9 _ p<|Mv z<|Vv (V.ext rfl rfl)<|Vv (V.ext rfl rfl)<|To (O.alloc A4I rfl rfl fun X=>To (O.stF (vs:=[.string c.A5E,f,i,m,n,o]) A0y rfl rfl (j:=0) rfl rfl (by (simp only [Sl.ones,q.1.1,b.1.1,r.1.1,s.1.1,t.1.1,Bool.and_true,Bool.true_and]) <;> rfl) rfl ?_))
 refine T.freeze fun w Y x=>have y:=AtC.of x; Ag z<|Nt<|Sr<|Mv z<|Mv z<|Vv (V.ne z z)<|Mv z<|T.bH 18 H z (fun H=>?_) (fun H=>?_)
 ·refine Vv (V.fa C2D z)<|Vv (V.I6 (k:=2) B8G z y z)<|Vv (V.fa A0q z)<|Vv (V.I6 (k:=2) D9 z a.u z)<|Vv (V.fa A1c z)<|Vv (V.I6 (k:=3) D9 z a.u z)<|Mv z<|Mv z<|Vv (V.min2 z z)<|Mv z<|Mv z<|Vv (V.max2 z z) ?_
  obtain ⟨Z,A,H⟩:=bnd H
  obtain ⟨aa,ab,ac,B,C⟩:=A5v.call (b.u (g:=w)) A
  refine To (O.A1m z B z (C _) z fun ad ae af ag D=>?_)
  obtain ⟨rfl,E⟩:=D
  refine I9 _ E<|Vv (V.M0 z z)<|Ag z<|Nt<|T.ret ?_
  obtain rfl:=Option.some.inj H
  exact T.F5 Tryz.results199 (Rv z) Li ⟨z,z⟩
 refine Sk<|Sk<|Sk<|Sk<|Sk<|Sk<|Sk<|Sk<|Sk<|Sk<|Sk<|Sk<|Sk<|Vv (V.J9 z z)<|Ag z<|Nt<|T.ret ?_
 obtain rfl:=Option.some.inj H
 exact T.F5 Tryz.results199 (Rv z) Li ⟨z,z⟩
theorem A4B {h:PH} {pc0:List Value} {t1:D5} (pr0:E8 h pc0 t1) {x4:Int} {y5:Int} {r_0:Bool} (H:A5y t1 x4 y5 = some r_0):∀ L,H5 Tryz.prog 200 [.agg pc0.toArray,.int .i64 x4,.int .i64 y5] h (L) (fun v h' L'=>v = .bool r_0∧L' = L):=by
 intro L
 obtain ⟨G,rfl,I⟩:=pr0
 refine H5.enter Tryz.func200 z Tryz.ntmps200 z<|Sr<|To (O.V3 z z z fun J K M a=>Ag z<|Nt<|Sr<|Vv (V.fa A3W z)<|Vv (V.I6 (k:=1) A6l z a z) ?_)
 obtain ⟨⟨c,N⟩,d,H⟩:=bnd H
 refine To (O.C8 z (A2i d _) z fun P S U W e=>?_)
 obtain ⟨f,i,m,n,o,rfl,p,q,r,b,s,t⟩:=e
 refine I9 _ p<|Mv z<|Vv (V.ext rfl rfl)<|Vv (V.ext rfl rfl)<|To (O.alloc A4I rfl rfl fun X=>To (O.stF (vs:=[.string c.A5E,f,i,m,n,o]) A0y rfl rfl (j:=0) rfl rfl (by (simp only [Sl.ones,q.1.1,r.1.1,b.1.1,s.1.1,t.1.1,Bool.and_true,Bool.true_and]) <;> rfl) rfl ?_))
 refine T.freeze fun w Y x=>have y:=AtC.of x; Ag z<|Nt<|Sr<|Mv z<|Mv z<|Vv (V.ne z z)<|Mv z<|T.bH 18 H z (fun H=>?_) (fun H=>?_)
 ·refine Vv (V.fa C2E z)<|Vv (V.I6 (k:=3) B8G z y z)<|Vv (V.fa A0q z)<|Vv (V.I6 (k:=2) D9 z a.u z)<|Vv (V.fa A1c z)<|Vv (V.I6 (k:=3) D9 z a.u z)<|Mv z<|Mv z<|Vv (V.min2 z z)<|Mv z<|Mv z<|Vv (V.max2 z z) ?_
  obtain ⟨Z,A,H⟩:=bnd H
  obtain ⟨aa,ab,ac,B,C⟩:=A5v.call (b.u (g:=w)) A
  refine To (O.A1m z B z (C _) z fun ad ae af ag D=>?_)
  obtain ⟨rfl,E⟩:=D
  refine I9 _ E<|Vv (V.M0 z z)<|Ag z<|Nt<|T.ret ?_
  obtain rfl:=Option.some.inj H
  exact T.F5 Tryz.results200 (Rv z) Li ⟨z,z⟩
 refine Sk<|Sk<|Sk<|Sk<|Sk<|Sk<|Sk<|Sk<|Sk<|Sk<|Sk<|Sk<|Sk<|Vv (V.J9 z z)<|Ag z<|Nt<|T.ret ?_
 obtain rfl:=Option.some.inj H
 exact T.F5 Tryz.results200 (Rv z) Li ⟨z,z⟩
theorem C2n {h:PH} {pc0:List Value} {t1:D5} (pr0:E8 h pc0 t1) {x4:Int} {y5:Int} {r_0:Bool} (H:C1j t1 x4 y5 = some r_0):∀ L,H5 Tryz.prog 353 [.agg pc0.toArray,.int .i64 x4,.int .i64 y5] h (L) (fun v h' L'=>v = .bool r_0∧L' = L):=by
 intro L
 obtain ⟨a,rfl,b⟩:=pr0
 refine H5.enter Tryz.func353 rfl Tryz.ntmps353 rfl<|Sr<|To (O.V3 rfl rfl rfl fun n d o c=>Ag z<|Nt<|Sr<|Vv (V.Z9 rfl c (by exact U4)) ?_)
 refine Mv z<|Mv z ?_
 obtain ⟨p,e,H⟩:=bnd H
 refine To (O.C8 z (A4s (show E8 d [.string t1.H7,.int .u8 t1.N9,.int .i64 t1.fA,.int .i64 t1.fB,a,.int .i64 t1.fX,.int .i64 t1.fY] t1 from ⟨a,z,b.u⟩) e _) z fun q f r s g=>?_)
 obtain ⟨rfl,i⟩:=g
 refine I9 _ i<|Mv z<|T.bH 11 H z (fun H=>?_) (fun H=>?_)
 ·refine Sk<|Sk<|Sk<|Sk<|Vv (V.M0 z z)<|Ag z<|Nt<|T.ret ?_
  obtain rfl:=Option.some.inj H
  exact T.F5 Tryz.results353 (Rv z) Li ⟨z,z⟩
 refine Vv (V.Z9 rfl c.u (by exact U4)) ?_
 refine Mv z<|Mv z ?_
 obtain ⟨t,j,H⟩:=bnd H
 refine To (O.C8 z (A4B (show E8 f [.string t1.H7,.int .u8 t1.N9,.int .i64 t1.fA,.int .i64 t1.fB,a,.int .i64 t1.fX,.int .i64 t1.fY] t1 from ⟨a,z,b.u⟩) j _) z fun w x y A k=>?_)
 obtain ⟨rfl,m⟩:=k
 refine I9 _ m<|Vv (V.J9 z z)<|Ag z<|Nt<|T.ret ?_
 obtain rfl:=Option.some.inj H
 exact T.F5 Tryz.results353 (Rv z) Li ⟨z,z⟩
theorem C0j {h:PH} {pc0:List Value} {t1:D5} (pr0:E8 h pc0 t1) {from4:Int} {r_0:List Int} (H:B8m t1 from4 = some r_0):∀ L,H5 Tryz.prog 292 [.agg pc0.toArray,.int .i64 from4] h (L) (fun v h' L'=>∃ cs0,L' = D8 3 1 v cs0::L∧A7 (VI .i64) h' cs0 r_0):=by
 intro L
 obtain ⟨S,rfl,ai⟩:=pr0
 refine H5.enter Tryz.func292 rfl Tryz.ntmps292 rfl<|Sr<|To (O.V3 rfl rfl rfl fun bP aM bS aj=>Ag z<|Nt<|Sr<|Vv (V.Z9 rfl aj (by exact U4)) ?_)
 obtain ⟨aN,aO,H⟩:=bnd H
 refine To (O.C8 z (A1N (show E8 aM [.string t1.H7,.int .u8 t1.N9,.int .i64 t1.fA,.int .i64 t1.fB,S,.int .i64 t1.fX,.int .i64 t1.fY] t1 from ⟨S,z,ai.u⟩) aO _) z fun bU aP bV bW aS=>?_)
 obtain ⟨rfl,aU⟩:=aS
 refine I9 _ aU ?_
 obtain ⟨Z,ak,H⟩:=bnd H
 refine To (O.mkX D6 Q4 z z z z ak z fun a bX bY=>have am:A7 (VI .i64) aP _ Z:=A7.rep z ak; Ag z<|Nt<|Sq<|Sr<|Mv z<|Vv (V.A2E D6 z (j:=0) z am.len)<|Mv z<|Nt ?_)
 obtain ⟨an,aV,aW⟩:=N7 H
 refine T.O5 (α:=(List Int)×(List (List Value))) [1,2] z (fun ⟨I,r⟩=>[(5,a)]) (fun ⟨I,r⟩=>D8 3 1 a r::L) (fun ⟨I,r⟩ hh=>an = I∧A7 (VI .i64) hh r I) ?_ ?_
 ·have H:=aV
  refine Bl<|T.N8 (α:=Nat×Int×(List Int)×(List (List Value))) [1,2,15] z (fun ⟨t,m,s,g⟩=>[(16,.int .i64 m),(5,a)]) (fun ⟨t,m,s,g⟩=>D8 3 1 a g::L) (fun ⟨t,m,s,g⟩ hh=>iter (B3P Z) t (m,s) = some an∧A7 (VI .i64) hh g s) (fun ⟨t,m,s,g⟩=>t) (FUEL,(0:Int),Z,(List.replicate aN.toNat [.int .i64 (0:Int)])) ⟨z,z,trivial⟩ z ⟨H,am⟩ ?_
  rintro ⟨t,m,s,g⟩ ao bZ ⟨aX,J⟩
  obtain ⟨aY,b0,rfl,H,aq⟩:=I4 aX
  refine T.norm [16,5,1,2,15] z<|T.fl ?_
  refine Sr<|Vv (V.lt z z)<|Nt<|Sq<|T.cH H z (fun H=>?_) (fun H=>?_)
  ·refine T.skip<|Th<|Sq<|Bl<|Sr<|Mv z<|Ag z<|Nt<|Rg<|Mv z<|Mv z ?_
   obtain ⟨b1,aa,H⟩:=bnd H
   obtain ⟨b2,b3,rfl⟩:=A7.get J aa
   refine Vv (V.ixR D6 z z (j:=0) z (A7.bd J aa)) ?_
   obtain ⟨ar,aZ,H⟩:=bnd H
   refine To (O.stR D9 z z (j:=0) z (A7.bdN J aa) z<|have a0:A7 (VI .i64) ao (g.set m.toNat [.int .i64 (-1:Int)]) ar:=A7.set J (show (VI .i64) ao [.int .i64 (-1:Int)] (-1:Int) from z) aZ; Ni<|Bn<|Th<|Rg ?_)
   obtain ⟨a1,a2,H⟩:=bnd H
   refine Vv (V.L8 z z a2)<|Mv z<|Nt<|T.again (aY,a1,ar,(g.set m.toNat [.int .i64 (-1:Int)])) Li (Nat.lt_succ_self _) ⟨(G8 H aq),a0⟩ (A9.app ⟨z,z,trivial⟩ ⟨z,z,z,trivial⟩) z
  refine T.exit<|Te<|Te<|have H:=D7 H aq; Be<|Th<|T.met (s,g) Li ⟨H,J⟩ (A9.app ⟨z,trivial⟩ ⟨z,z,trivial⟩) z
 rintro ⟨I,r⟩ ab b4 ⟨a3,U⟩
 have H:=J5 a3 aW
 refine T.norm [5,1,2] z<|T.fl ?_
 refine Sr<|Mv z<|Mv z ?_
 obtain ⟨b5,ac,H⟩:=bnd H
 obtain ⟨b6,b7,rfl⟩:=A7.get U ac
 refine Vv (V.ixR D6 z z (j:=0) z (A7.bd U ac)) ?_
 obtain ⟨au,a4,H⟩:=bnd H
 refine To (O.stR D9 z z (j:=0) z (A7.bdN U ac) z<|have a5:A7 (VI .i64) ab (r.set from4.toNat [.int .i64 (0:Int)]) au:=A7.set U (show (VI .i64) ab [.int .i64 (0:Int)] (0:Int) from z) a4; Nt<|Sr<|Mv z<|To (O.bs D6 Q4 z (e:=z) (hk:=z) (xs:=[.tmp 26]) (hv:=CO.eq (CO.cons z CO.nil)) (hw:=O7.of z) (hd:=z) fun a6=>have a7:A7 (VI .i64) ab [[.int .i64 from4]] ([from4]:List Int):=(A7.cons z A7.nil); Ag z<|Nt<|Sq ?_))
 obtain ⟨aw,a8,a9⟩:=N7 H
 refine T.O5 (α:=(List Int)×(List (List Value))) [] z (fun ⟨K,M⟩=>[(5,a)]) (fun ⟨K,M⟩=>D8 3 1 a M::L) (fun ⟨K,M⟩ hh=>aw = K∧A7 (VI .i64) hh M K) ?_ ?_
 ·have H:=a8
  refine Bl<|I7 1 z<|T.N8 (α:=Nat×(List Int)×(List Int)×(List (List Value))×Value×(List (List Value))) [2] z (fun ⟨w,i,x,n,y,o⟩=>[(5,a),(7,y)]) (fun ⟨w,i,x,n,y,o⟩=>D8 3 1 a n::D8 3 1 y o::L) (fun ⟨w,i,x,n,y,o⟩ hh=>iter (B3j t1) w (i,x) = some aw∧A7 (VI .i64) hh n i∧A7 (VI .i64) hh o x) (fun ⟨w,i,x,n,y,o⟩=>w) (FUEL,au,[from4],(r.set from4.toNat [.int .i64 (0:Int)]),(.slice (some ⟨a6,0,none⟩) 1 1),[[.int .i64 from4]]) ⟨z,z,trivial⟩ z ⟨H,a5,a7⟩ ?_
  rintro ⟨w,i,x,n,y,o⟩ ah b8 ⟨al,ad,N⟩
  obtain ⟨av,b9,rfl,H,ax⟩:=I4 al
  refine T.norm [5,7,2] z<|T.fl ?_
  refine Sq<|Sr<|Mv z<|Vv (V.A2E D6 z (j:=1) z N.len)<|Vv (V.gt z z)<|Nt<|T.cH H z (fun H=>?_) (fun H=>?_)
  ·refine T.skip<|Th<|Bl<|Sr<|Mv z ?_
   obtain ⟨az,ay,H⟩:=bnd H
   obtain ⟨bh,ba,rfl⟩:=A7.get N ay
   refine Vv (V.ixR D6 z z (j:=1) z (A7.bd N ay))<|Vv (V.ldR D9 z (j:=1) z ba z)<|Ag z<|Nt<|Sr<|Mv z ?_
   obtain ⟨aA,aB,H⟩:=bnd H
   refine To (O.slR D6 z z (j:=1) z (A7.slb N aB) z fun bb=>have bc:A7 (VI .i64) ah (List.drop (1:Int).toNat o) aA:=A7.sl N aB; Ag z<|Nt<|Sr<|Mv z<|Vv (V.A2E D6 z (j:=1) z ad.len)<|Mv z<|Nt<|T.A4J ?_)
   obtain ⟨aC,be,bf⟩:=N7 H
   refine T.O5 (α:=(List Int)×(List Int)×(List (List Value))×Value×(List (List Value))) [2] z (fun ⟨A,B,C,D,E⟩=>[(5,a),(7,D)]) (fun ⟨A,B,C,D,E⟩=>D8 3 1 a C::D8 3 1 D E::L) (fun ⟨A,B,C,D,E⟩ hh=>aC = (A,B)∧A7 (VI .i64) hh C A∧A7 (VI .i64) hh E B) ?_ ?_
   ·have H:=be
    refine Bl<|I7 1 z<|T.N8 (α:=Nat×(List Int)×Int×(List Int)×(List (List Value))×Value×(List (List Value))) [2,8,37] z (fun ⟨G,p,b,q,c,k,d⟩=>[(36,a),(38,.int .i64 b),(5,a),(7,k)]) (fun ⟨G,p,b,q,c,k,d⟩=>D8 3 1 a c::D8 3 1 k d::L) (fun ⟨G,p,b,q,c,k,d⟩ hh=>iter (B3i t1 i az) G (p,b,q) = some aC∧A7 (VI .i64) hh c p∧A7 (VI .i64) hh d q) (fun ⟨G,p,b,q,c,k,d⟩=>G) (FUEL,i,(0:Int),aA,n,bb,(List.drop (1:Int).toNat o)) ⟨z,z,z,z,trivial⟩ z ⟨H,ad,bc⟩ ?_
    rintro ⟨G,p,b,q,c,k,d⟩ bg bl ⟨bi,f,W⟩
    obtain ⟨aD,bv,rfl,H,ae⟩:=I4 bi
    refine T.norm [36,38,5,7,2,8,37] z<|T.fl ?_
    refine Sr<|Vv (V.lt z z)<|Nt<|Sq<|T.cH H z (fun H=>?_) (fun H=>?_)
    ·refine T.skip<|Th<|Sq<|Bl<|Sr<|Mv z ?_
     obtain ⟨bz,aE,H⟩:=bnd H
     obtain ⟨ca,bj,rfl⟩:=A7.get f aE
     refine Vv (V.ixR D6 z z (j:=0) z (A7.bd f aE))<|Vv (V.ldR D9 z (j:=0) z bj z)<|Ag z<|Ag z<|Nt<|Sq ?_
     obtain ⟨bk,bm,bn⟩:=N7 H
     refine T.O5 (α:=Bool) [2,5,7,8,9,36,37,38] z (fun P=>[(50,.bool P)]) (fun P=>D8 3 1 a c::D8 3 1 k d::L) (fun P hh=>bk = P) ?_ ?_
     ·have H:=bm
      refine Rg<|Mv z<|Vv (V.lt z z)<|Mv z<|T.bH 45 H z (fun H=>?_) (fun H=>?_)
      ·refine Vv (V.Z9 rfl aj.u (by exact U4)) ?_
       refine Mv z<|Mv z ?_
       obtain ⟨bo,bp,H⟩:=bnd H
       refine To (O.C8 z (C2n (show E8 bg [.string t1.H7,.int .u8 t1.N9,.int .i64 t1.fA,.int .i64 t1.fB,S,.int .i64 t1.fX,.int .i64 t1.fY] t1 from ⟨S,z,ai.u⟩) bp _) z fun cb cc cd ce bq=>?_)
       obtain ⟨rfl,br⟩:=bq
       refine I9 _ br<|Vv (V.M0 z z)<|Nt<|T.met bo Li (K4 H) (A9.app ⟨z,trivial⟩ ⟨z,z,z,z,z,z,z,z,trivial⟩) z
      refine Sk<|Sk<|Sk<|Sk<|Vv (V.J9 z z)<|Nt<|T.met false Lr (K4 H) (A9.app ⟨z,trivial⟩ ⟨z,z,z,z,z,z,z,z,trivial⟩) z
     rintro P X cf bt
     have H:=J5 bt bn
     refine T.norm [50,2,5,7,8,9,36,37,38] z<|T.fl ?_
     refine T.cH H z (fun H=>?_) (fun H=>?_)
     ·refine Sr<|Mv z<|Mv z<|Mv z<|Mv z ?_
      obtain ⟨cg,aG,H⟩:=bnd H
      obtain ⟨ci,bu,rfl⟩:=A7.get f aG
      refine Vv (V.ixR D6 z z (j:=0) z (A7.bd f aG))<|Vv (V.ldR D9 z (j:=0) z bu z) ?_
      obtain ⟨Y,bw,H⟩:=bnd H
      refine Vv (V.L8 z z bw) ?_
      obtain ⟨cj,af,H⟩:=bnd H
      obtain ⟨ck,cm,rfl⟩:=A7.get f af
      refine Vv (V.ixR D6 z z (j:=0) z (A7.bd f af)) ?_
      obtain ⟨aI,bx,H⟩:=bnd H
      refine To (O.stR D9 z z (j:=0) z (A7.bdN f af) z<|have bA:A7 (VI .i64) X (c.set b.toNat [.int .i64 Y]) aI:=A7.set f.u (show (VI .i64) X [.int .i64 Y] Y from z) bx; Nt<|Rg<|Mv z<|Mv z<|To (O.bs D6 Q4 z (e:=z) (hk:=z) (xs:=[.tmp 60]) (hv:=CO.eq (CO.cons z CO.nil)) (hw:=O7.of z) (hd:=z) fun cn=>have ag:A7 (VI .i64) X [[.int .i64 b]] ([b]:List Int):=(A7.cons z A7.nil); ?_))
      obtain ⟨aJ,aK,H⟩:=bnd H
      refine To (O.apX D6 D6 Q4 z z z (j:=2) z (Src.row (j:=0) z) (O7.of z) (A7.ones VI.plain ag) W.u ag aK z fun bB co cp=>have bC:A7 (VI .i64) X (d ++ [[.int .i64 b]]) aJ:=A7.ap W.u ag aK; T.fl ?_)
      refine I7 1 z<|T.fl ?_
      refine T.drop<|Ag z<|Ni<|Bn<|Th<|Rg ?_
      obtain ⟨bD,bE,H⟩:=bnd H
      refine Vv (V.L8 z z bE)<|Mv z<|Nt<|I7 1 z<|T.again (aD,aI,bD,aJ,(c.set b.toNat [.int .i64 Y]),bB,(d ++ [[.int .i64 b]])) Li (Nat.lt_succ_self _) ⟨(G8 H ae),bA,bC⟩ (A9.app ⟨z,z,z,z,trivial⟩ ⟨z,z,z,trivial⟩) z
     refine T.skip<|Bn<|Th<|Rg ?_
     obtain ⟨bG,bI,H⟩:=bnd H
     refine Vv (V.L8 z z bI)<|Mv z<|Nt<|T.again (aD,p,bG,q,c,k,d) Li (Nat.lt_succ_self _) ⟨(G8 H ae),f.u,W.u⟩ (A9.app ⟨z,z,z,z,trivial⟩ ⟨z,z,z,trivial⟩) z
    refine T.exit<|Te<|Te<|have H:=D7 H ae; Be<|Th<|T.met (p,q,c,k,d) Li ⟨H,f,W⟩ (A9.app ⟨z,z,trivial⟩ ⟨z,trivial⟩) z
   rintro ⟨A,B,C,D,E⟩ cq cr ⟨bJ,bK,bM⟩
   have H:=J5 bJ bf
   refine T.norm [5,7,2] z<|T.fl ?_
   refine Bn<|Th<|T.again (av,A,B,C,D,E) Li (Nat.lt_succ_self _) ⟨(G8 H ax),bK,bM⟩ (A9.app ⟨z,z,trivial⟩ ⟨z,trivial⟩) z
  refine T.exit<|Te<|Te<|have H:=D7 H ax; Be<|Th<|I7 1 z<|T.drop<|T.met (i,n) Li ⟨H,ad⟩ (A9.app ⟨z,trivial⟩ trivial) z
 rintro ⟨K,M⟩ cs ct ⟨bN,bO⟩
 have H:=J5 bN a9
 refine T.norm [5] z<|T.fl ?_
 refine Sr<|Mv z<|Ag z<|Nt<|T.ret ?_
 obtain rfl:=Option.some.inj H
 exact T.F5 Tryz.results292 (Rv z) Li ⟨_,z,bO⟩
theorem B8F {h:PH} {pc0:List Value} {t1:D5} (pr0:E8 h pc0 t1) {r_0:List Int} (H:B6y t1 = some r_0):∀ L,H5 Tryz.prog 197 [.agg pc0.toArray] h (L) (fun v h' L'=>∃ cs0,L' = D8 3 1 v cs0::L∧A7 (VI .i64) h' cs0 r_0):=by
 intro L
 obtain ⟨e,rfl,q⟩:=pr0
 refine H5.enter Tryz.func197 z Tryz.ntmps197 z<|Sr<|To (O.V3 z z z fun an ao ap c=>Ag z<|Nt<|Sr<|Vv (V.fa A3W z)<|Vv (V.I6 (k:=1) A6l z c z) ?_)
 obtain ⟨⟨r,aq⟩,s,H⟩:=bnd H
 refine To (O.C8 z (A2i s _) z fun ar au aw ax w=>?_)
 obtain ⟨x,y,A,B,C,rfl,D,E,G,I,f,J⟩:=w
 refine I9 _ D<|Mv z<|Vv (V.ext rfl rfl)<|Vv (V.ext rfl rfl)<|To (O.alloc A4I rfl rfl fun ay=>To (O.stF (vs:=[.string r.A5E,x,y,A,B,C]) A0y rfl rfl (j:=0) rfl rfl (by (simp only [Sl.ones,E.1.1,G.1.1,I.1.1,f.1.1,J.1.1,Bool.and_true,Bool.true_and]) <;> rfl) rfl ?_))
 refine T.freeze fun K aA M=>have N:=AtC.of M; Ag z<|Nt<|Sq<|T.O8 (t:=(.v 0 (.v 1 (.v 2 (.v 3 (.v 4 (.v 5 (.v 6 (.alt 7 (.alt 8 (.alt 9 .done .no) .no) .no))))))))) 11 0 0 rfl rfl I8 (by kernel_rfl) ?_
 refine Tv z (V.Z9 rfl c.u (by exact U4)) ?_
 refine Tv z (V.fa C2d z)<|Tv z (V.I6 (k:=4) B8f z N z)<|Tv z (V.fa A0q z)<|Tv z (V.I6 (k:=2) D9 z c.u z)<|Tv z (V.fa A1c z)<|Tv z (V.I6 (k:=3) D9 z c.u z) ?_
 obtain ⟨aB,P,H⟩:=bnd H
 obtain ⟨aC,aD,aE,S,U⟩:=A5x.call (f.u (g:=K)) P
 refine Tp z z (SX.two (XA.fr [] Lr z) (XA.fr [] Lr z)) (O.A1m z S z (U _) z fun aG W aI aJ X=>?_) T.Q9
 obtain ⟨rfl,Y⟩:=X
 refine I9 _ Y ?_
 obtain ⟨Z,aa,H⟩:=bnd H
 refine Tp z z (SX.two (XA.fr [] Li z) (XA.fr [] Li z)) (O.C8 z (C0j (show E8 W [.string t1.H7,.int .u8 t1.N9,.int .i64 t1.fA,.int .i64 t1.fB,e,.int .i64 t1.fX,.int .i64 t1.fY] t1 from ⟨e,z,q.u⟩) aa _) z fun i aK aM aN ab=>?_) T.Q9
 obtain ⟨m,ac,d⟩:=ab
 refine I9 _ ac<|Ts z z (SX.two (XA.fr [] Li z) (XA.fr [] Li z)) (V.asg z) z ?_ T.Q9
 refine T.R5 (SX.two (XA.fr [] Li z) (XA.fr [] Li z))<|Th<|Sq<|Sr<|Mv z<|Vv (V.A2E D6 z (j:=0) z d.len)<|Mv z<|Nt ?_
 obtain ⟨n,ad,ae⟩:=N7 H
 refine T.O5 (α:=Unit) [5] z (fun _u=>[]) (fun _u=>D8 3 1 i m::L) (fun _u hh=>n = ()) ?_ ?_
 ·have H:=ad
  refine Bl<|T.N8 (α:=Nat×Int) [5,23,24] z (fun ⟨a,b⟩=>[(25,.int .i64 b)]) (fun ⟨a,b⟩=>D8 3 1 i m::L) (fun ⟨a,b⟩ hh=>iter (B0u Z) a b = some n) (fun ⟨a,b⟩=>a) (FUEL,(0:Int)) ⟨z,trivial⟩ z H ?_
  rintro ⟨a,b⟩ aO aP af
  obtain ⟨ag,aS,rfl,H,o⟩:=I4 af
  refine T.norm [25,5,23,24] z<|T.fl ?_
  refine Sr<|Vv (V.lt z z)<|Nt<|Sq<|T.cH H z (fun H=>?_) (fun H=>?_)
  ·refine T.skip<|Th<|Sq<|Bl<|Sr<|Mv z ?_
   obtain ⟨aU,p,H⟩:=bnd H
   obtain ⟨aV,ai,rfl⟩:=A7.get d p
   refine Vv (V.ixR D6 z z (j:=0) z (A7.bd d p))<|Vv (V.ldR D9 z (j:=0) z ai z)<|Ag z<|Ag z<|Nt<|Sr<|Mv z<|Vv (V.lt z z)<|Nt<|T.cH H z (fun H=>?_) (fun H=>?_)
   ·exact dead H
   refine T.skip<|Bn<|Th<|Rg ?_
   obtain ⟨aj,ak,H⟩:=bnd H
   refine Vv (V.L8 z z ak)<|Mv z<|Nt<|T.again (ag,aj) Li (Nat.lt_succ_self _) (G8 H o) (A9.app ⟨z,trivial⟩ ⟨z,z,z,trivial⟩) z
  refine T.exit<|Te<|Te<|have H:=D7 H o; Be<|Th<|T.met () Li H (A9.app trivial ⟨z,trivial⟩) z
 rintro _ aW aX am
 have H:=J5 am ae
 refine T.norm [5] z<|T.fl ?_
 refine Sr<|Mv z<|Ag z<|Nt<|T.ret ?_
 obtain rfl:=Option.some.inj H
 exact T.F5 Tryz.results197 (Rv z) Li ⟨_,z,d.u⟩
theorem A7X {h:PH} {pc0:List Value} {t1:D5} (pr0:E8 h pc0 t1) {r_0:Int} (H:A4G t1 = some r_0):∀ L,H5 Tryz.prog 173 [.agg pc0.toArray] h (L) (fun v h' L'=>v = .int .i64 r_0∧L' = L):=by
 intro L
 obtain ⟨i,rfl,e⟩:=pr0
 refine H5.enter Tryz.func173 rfl Tryz.ntmps173 rfl<|Sr<|To (O.V3 rfl rfl rfl fun I n J a=>Ag z<|Nt<|Sr<|Vv (V.Z9 rfl a (by exact U4)) ?_)
 obtain ⟨o,p,H⟩:=bnd H
 refine To (O.C8 z (A1N (show E8 n [.string t1.H7,.int .u8 t1.N9,.int .i64 t1.fA,.int .i64 t1.fB,i,.int .i64 t1.fX,.int .i64 t1.fY] t1 from ⟨i,z,e.u⟩) p _) z fun K M N P q=>?_)
 obtain ⟨rfl,r⟩:=q
 refine I9 _ r<|Ag z<|Nt<|Sr<|Ag z<|Nt<|Sq<|Bl<|Sr<|Vv (V.fa A1b z)<|Vv (V.I6 (k:=0) F6 z a.u z) ?_
 obtain ⟨S,s,H⟩:=bnd H
 refine To (O.C8 z (C1R s _) z fun U W X Y t=>?_)
 obtain ⟨rfl,w⟩:=t
 refine I9 _ w<|Vv (V.not z)<|Ag z<|Nt<|T.cH H z (fun H=>?_) (fun H=>?_)
 ·refine Sr<|Ag z<|Nt<|T.ret<|Br<|Tr ?_
  obtain rfl:=Option.some.inj H
  exact T.F5 Tryz.results173 (Rv z) Li ⟨z,z⟩
 refine Sr<|Mv z<|Vv (V.eq z z)<|Ag z<|Nt<|T.cH H z (fun H=>?_) (fun H=>?_)
 ·refine Sr<|Ag z<|Nt<|T.ret<|Br<|Tr ?_
  obtain rfl:=Option.some.inj H
  exact T.F5 Tryz.results173 (Rv z) Li ⟨z,z⟩
 refine T.skip<|Bn<|Th<|Sq<|Sr<|Vv (V.fa A0P z)<|Vv (V.I6 (k:=4) F4 z a.u z)<|Vv (V.P6 D6 z e)<|Mv z<|Nt ?_
 obtain ⟨j,x,g⟩:=N7 H
 refine T.O5 (α:=Unit) [1] z (fun _u=>[]) (fun _u=>L) (fun _u hh=>j = (Sum.inl ())) ?_ ?_
 ·have H:=x
  refine Bl<|T.N8 (α:=Nat×Int×Int) [1,3,18,19] z (fun ⟨b,c,d⟩=>[(20,.int .i64 c),(4,.int .i64 d)]) (fun ⟨b,c,d⟩=>L) (fun ⟨b,c,d⟩ hh=>iter (A1r t1 o) b (c,d) = some j) (fun ⟨b,c,d⟩=>b) (FUEL,(0:Int),(-1:Int)) ⟨z,z,trivial⟩ z H ?_
  rintro ⟨b,c,d⟩ Z aa y
  obtain ⟨A,ab,rfl,H,f⟩:=I4 y
  refine T.norm [20,4,1,3,18,19] z<|T.fl ?_
  refine Sr<|Vv (V.lt z z)<|Nt<|Sq<|T.cH H z (fun H=>?_) (fun H=>?_)
  ·refine T.skip<|Th<|Sq<|Bl<|Sr ?_
   obtain ⟨B,m,H⟩:=bnd H
   obtain ⟨ac,C,rfl⟩:=G9.at e m
   refine Vv (V.ix D6 z z e (H6 m))<|Vv (V.ld0 D9 z C.u z)<|Ag z<|Nt<|Sq<|Sr<|Mv z<|Mv z<|Vv (V.le z z)<|Mv z<|T.bH 27 H z (fun H=>?_) (fun H=>?_)
   ·refine Sk<|Sk<|Sk<|Vv (V.M0 z z)<|Nt<|Ct z<|Sr<|Ag z<|Nt<|T.ret<|Tr<|Br<|Tr<|Tr<|have H:=D7 H f; Br<|Tr<|have H:=J5 H g; ?_
    obtain rfl:=Option.some.inj H
    exact T.F5 Tryz.results173 (Rv z) Li ⟨z,z⟩
   refine Mv z<|Mv z<|Vv (V.ge z z)<|Vv (V.J9 z z)<|Nt<|T.cH H z (fun H=>?_) (fun H=>?_)
   ·refine Sr<|Ag z<|Nt<|T.ret<|Tr<|Br<|Tr<|Tr<|have H:=D7 H f; Br<|Tr<|have H:=J5 H g; ?_
    obtain rfl:=Option.some.inj H
    exact T.F5 Tryz.results173 (Rv z) Li ⟨z,z⟩
   refine T.skip<|Th<|Rg<|Mv z<|Ag z<|Ni<|Bn<|Th<|Rg ?_
   obtain ⟨D,E,H⟩:=bnd H
   refine Vv (V.L8 z z E)<|Mv z<|Nt<|T.again (A,D,B) Li (Nat.lt_succ_self _) (G8 H f) (A9.app ⟨z,z,trivial⟩ ⟨z,z,z,z,trivial⟩) z
  refine T.exit<|Te<|Te<|have H:=D7 H f; Be<|Th<|T.met () Li H (A9.app trivial ⟨z,trivial⟩) z
 rintro _ ad ae G
 have H:=J5 G g
 refine T.norm [1] z<|T.fl ?_
 refine Sq<|Sr<|Vv (V.fa B0W z)<|Vv (V.I6 (k:=5) D9 z a.u z)<|Vv (V.lt z z)<|Mv z<|T.bH 37 H z (fun H=>?_) (fun H=>?_)
 ·refine Sk<|Sk<|Sk<|Vv (V.M0 z z)<|Mv z<|Sk<|Sk<|Sk<|Vv (V.M0 z z)<|Mv z<|Sk<|Sk<|Sk<|Vv (V.M0 z z)<|Nt<|Ct z<|Sr<|Ag z<|Nt<|T.ret<|Tr ?_
  obtain rfl:=Option.some.inj H
  exact T.F5 Tryz.results173 (Rv z) Li ⟨z,z⟩
 refine Vv (V.fa B0W z)<|Vv (V.I6 (k:=5) D9 z a.u z)<|Vv (V.gt z z)<|Vv (V.J9 z z)<|Mv z<|T.bH 42 H z (fun H=>?_) (fun H=>?_)
 ·refine Sk<|Sk<|Sk<|Vv (V.M0 z z)<|Mv z<|Sk<|Sk<|Sk<|Vv (V.M0 z z)<|Nt<|Ct z<|Sr<|Ag z<|Nt<|T.ret<|Tr ?_
  obtain rfl:=Option.some.inj H
  exact T.F5 Tryz.results173 (Rv z) Li ⟨z,z⟩
 refine Vv (V.fa B0H z)<|Vv (V.I6 (k:=6) D9 z a.u z)<|Vv (V.lt z z)<|Vv (V.J9 z z)<|Mv z<|T.bH 47 H z (fun H=>?_) (fun H=>?_)
 ·refine Sk<|Sk<|Sk<|Vv (V.M0 z z)<|Nt<|Ct z<|Sr<|Ag z<|Nt<|T.ret<|Tr ?_
  obtain rfl:=Option.some.inj H
  exact T.F5 Tryz.results173 (Rv z) Li ⟨z,z⟩
 refine Vv (V.fa B0H z)<|Vv (V.I6 (k:=6) D9 z a.u z)<|Vv (V.gt z z)<|Vv (V.J9 z z)<|Nt<|T.cH H z (fun H=>?_) (fun H=>?_)
 ·refine Sr<|Ag z<|Nt<|T.ret<|Tr ?_
  obtain rfl:=Option.some.inj H
  exact T.F5 Tryz.results173 (Rv z) Li ⟨z,z⟩
 refine T.skip<|Th<|Sr<|Ag z<|Nt<|T.ret ?_
 obtain rfl:=Option.some.inj H
 exact T.F5 Tryz.results173 (Rv z) Li ⟨z,z⟩
theorem B5w {h:PH} {pc0:List Value} {x1:D5} (pr0:E8 h pc0 x1) {pp1:Addr} {pc1:List Value} {t4:D5} (pa1:AtC h pp1 pc1) (pr1:E8 h pc1 t4) {r_0:Bool} (H:A4p x1 t4 = some r_0):∀ L,H5 Tryz.prog 238 [.agg pc0.toArray,.pointer (some pp1)] h (L) (fun v h' L'=>v = .bool r_0∧L' = L):=by
 intro L
 obtain ⟨b,rfl,c⟩:=pr0
 obtain ⟨d,rfl,e⟩:=pr1
 refine H5.enter Tryz.func238 z Tryz.ntmps238 z<|Sr<|To (O.V3 z z z fun f g i a=>Ag z<|Nt<|Sr<|Vv (V.fa A1b z)<|Vv (V.I6 (k:=0) F6 z a z)<|Vv (V.fa A1b z)<|Vv (V.I6 (k:=0) F6 z pa1.u z)<|Vv (V.seq z z)<|Ag z<|Nt<|T.ret ?_)
 obtain rfl:=Option.some.inj H
 exact T.F5 Tryz.results238 (Rv z) Li ⟨z,z⟩
theorem A8z {h:PH} {pv0:Value} {l1:List D5} (pr0:G9 E8 7 h pv0 l1) {r_0:Int} {r_1:Int} (H:A3r l1 = some (r_0,r_1)):∀ L,H5 Tryz.prog 163 [pv0] h (L) (fun v h' L'=>v = .tuple #[.int .i64 r_0,.int .i64 r_1]∧L' = L):=by
 intro L
 refine H5.enter Tryz.func163 z Tryz.ntmps163 z<|Sr<|Ag z<|Ag z<|Nt<|Sq<|Sr<|Mv z<|Vv (V.P6 O0 z pr0)<|Vv (V.gt z z)<|Nt<|T.cH H z (fun H=>?_) (fun H=>?_)
 ·refine Sr<|Ag z<|Ag z<|Nt<|T.ret<|Tr ?_
  obtain ⟨rfl,rfl⟩:=inj2 H
  exact T.F5 Tryz.results163 (RVs.cons (RV.tmp z) (Rv z)) Lr ⟨z,z⟩
 refine T.skip<|Th<|Sq<|Sr<|Mv z<|Vv (V.P6 O0 z pr0)<|Mv z<|Nt ?_
 obtain ⟨i,q,f⟩:=N7 H
 refine T.O5 (α:=Unit) [] z (fun _u=>[]) (fun _u=>L) (fun _u hh=>i = (Sum.inl ())) ?_ ?_
 ·have H:=q
  refine Bl<|T.N8 (α:=Nat×Int) [0,10,11] z (fun ⟨b,c⟩=>[(12,.int .i64 c)]) (fun ⟨b,c⟩=>L) (fun ⟨b,c⟩ hh=>iter (A3i l1) b c = some i) (fun ⟨b,c⟩=>b) (FUEL,(0:Int)) ⟨z,trivial⟩ z H ?_
  rintro ⟨b,c⟩ Z aa r
  obtain ⟨s,ab,rfl,H,e⟩:=I4 r
  refine T.norm [12,0,10,11] z<|T.fl ?_
  refine Sr<|Vv (V.lt z z)<|Nt<|Sq<|T.cH H z (fun H=>?_) (fun H=>?_)
  ·refine T.skip<|Th<|Sq<|Bl<|Sr<|Mv z ?_
   obtain ⟨a,k,H⟩:=bnd H
   obtain ⟨ac,t,⟨d,rfl,g⟩⟩:=G9.at pr0 k
   refine Vv (V.ix O0 rfl rfl pr0 (H6 k))<|Vv (V.Z9 rfl t.u (by exact U4)) ?_
   refine To (O.alloc A5c rfl rfl fun m=>Ag z<|To (O.stF (vs:=[.string a.H7,.int .u8 a.N9,.int .i64 a.fA,.int .i64 a.fB,d,.int .i64 a.fX,.int .i64 a.fY]) U4 rfl rfl (j:=0) rfl rfl (by (simp only [Sl.ones,G9.one g,Bool.and_true,Bool.true_and]) <;> rfl) rfl ?_))
   refine T.freeze fun w ad x=>have n:=AtC.of x; Nt<|Sq<|Sr<|Vv (V.Z9 rfl n (by exact U4)) ?_
   obtain ⟨ae,y,H⟩:=bnd H
   refine To (O.C8 z (A7X (show E8 w [.string a.H7,.int .u8 a.N9,.int .i64 a.fA,.int .i64 a.fB,d,.int .i64 a.fX,.int .i64 a.fY] a from ⟨d,z,g.u⟩) y _) z fun af o ag ai A=>?_)
   obtain ⟨rfl,B⟩:=A
   refine I9 _ B<|Ag z<|Nt<|Sr<|Mv z<|Vv (V.ne z z)<|Nt<|T.cH H z (fun H=>?_) (fun H=>?_)
   ·refine Sr<|Mv z<|Mv z<|Ag z<|Ag z<|Nt<|T.ret<|Tr<|Br<|Tr<|Tr<|have H:=D7 H e; Br<|Tr<|have H:=J5 H f; ?_
    obtain ⟨rfl,rfl⟩:=inj2 H
    exact T.F5 Tryz.results163 (RVs.cons (RV.tmp z) (Rv z)) Li ⟨z,z⟩
   refine T.skip<|Th<|Sr<|Mv z<|Mv z ?_
   obtain ⟨C,p,H⟩:=bnd H
   refine T.slM z O0 z pr0.u (.inl ⟨z,z⟩) (.inr ⟨_,_,z,z⟩) (A4m p).2 z fun D E aj=>?_
   have G:G9 E8 7 o D C:=by rw [(A4m p).1]; exact E
   refine Vv (V.mkf z z) ?_
   obtain ⟨ak,I,H⟩:=bnd H
   refine To (O.C8 z (A8J G (show A7t o (.func (.func 238) #[] #[.pointer (some ⟨m,0,none⟩)]) (fun J=>A4p J a) from ⟨⟨z,z⟩,.inr ⟨238,[],[.pointer (some ⟨m,0,none⟩)],z,fun K am an ao M ap N P=>B5w M n.u (show E8 K [.string a.H7,.int .u8 a.N9,.int .i64 a.fA,.int .i64 a.fB,d,.int .i64 a.fX,.int .i64 a.fY] a from ⟨d,z,g.u⟩) N P⟩⟩) I _) z fun aq ar au aw S=>?_)
   obtain ⟨rfl,U⟩:=S
   refine I9 _ U<|Nt<|T.cH H z (fun H=>?_) (fun H=>?_)
   ·refine Sr<|Mv z<|Ag z<|Ag z<|Nt<|T.ret<|Br<|Tr<|Tr<|have H:=D7 H e; Br<|Tr<|have H:=J5 H f; ?_
    obtain ⟨rfl,rfl⟩:=inj2 H
    exact T.F5 Tryz.results163 (RVs.cons (RV.tmp z) (Rv z)) Li ⟨z,z⟩
   refine T.skip<|Bn<|Th<|Rg ?_
   obtain ⟨W,X,H⟩:=bnd H
   refine Vv (V.L8 z z X)<|Mv z<|Nt<|T.again (s,W) Li (Nat.lt_succ_self _) (G8 H e) (A9.app ⟨z,trivial⟩ ⟨z,z,z,trivial⟩) z
  refine T.exit<|Te<|Te<|have H:=D7 H e; Be<|Th<|T.met () Li H (A9.app trivial trivial) z
 rintro _ ax ay Y
 have H:=J5 Y f
 refine T.norm [] z<|T.fl ?_
 refine Sr<|Ag z<|Ag z<|Nt<|T.ret ?_
 obtain ⟨rfl,rfl⟩:=inj2 H
 exact T.F5 Tryz.results163 (RVs.cons (RV.tmp z) (Rv z)) Li ⟨z,z⟩
theorem C0A {h:PH} {pc0:List Value} {x1:D5} (pr0:E8 h pc0 x1) {pp1:Addr} {pc1:List Value} {t4:ByteArray} (pa1:AtC h pp1 pc1) (pr1:VS h pc1 t4) {r_0:Bool} (H:A9x x1 t4 = some r_0):∀ L,H5 Tryz.prog 232 [.agg pc0.toArray,.pointer (some pp1)] h (L) (fun v h' L'=>v = .bool r_0∧L' = L):=by
 intro L
 obtain ⟨b,rfl,c⟩:=pr0
 obtain rfl:=pr1
 refine H5.enter Tryz.func232 z Tryz.ntmps232 z<|Sr<|To (O.V3 z z z fun d e f a=>Ag z<|Nt<|Sr<|Vv (V.fa A1b z)<|Vv (V.I6 (k:=0) F6 z a z)<|Vv (V.ld0 F6 z pa1.u z)<|Vv (V.seq z z)<|Ag z<|Nt<|T.ret ?_)
 obtain rfl:=Option.some.inj H
 exact T.F5 Tryz.results232 (Rv z) Li ⟨z,z⟩
theorem A5a {h:PH} {pv0:Value} {l1:List D5} (pr0:G9 E8 7 h pv0 l1) {r_0:Bool} (H:A3P l1 = some r_0):∀ L,H5 Tryz.prog 89 [pv0] h (L) (fun v h' L'=>v = .bool r_0∧L' = L):=by
 intro L
 refine H5.enter Tryz.func89 z Tryz.ntmps89 z<|Sr<|Ag z<|Nt<|Sr<|Mv z ?_
 obtain ⟨⟨d,e⟩,a,H⟩:=bnd H
 refine To (O.C8 z (A8z pr0 a _) z fun f g i j b=>?_)
 obtain ⟨rfl,c⟩:=b
 refine I9 _ c<|Mv z<|Vv (V.ext z z)<|Vv (V.ext z z)<|Ag z<|Ag z<|Nt<|Sr<|Mv z<|Vv (V.eq z z)<|Ag z<|Nt<|T.ret ?_
 obtain rfl:=Option.some.inj H
 exact T.F5 Tryz.results89 (Rv z) Li ⟨z,z⟩
theorem A5n {h:PH} {pv0:Value} {l1:List D5} (pr0:G9 E8 7 h pv0 l1) {t2:Int} {r_0:Int} (H:A3O l1 t2 = some r_0):∀ L,H5 Tryz.prog 117 [pv0,.int .i64 t2] h (L) (fun v h' L'=>v = .int .i64 r_0∧L' = L):=by
 intro L
 refine H5.enter Tryz.func117 z Tryz.ntmps117 z<|Sr<|Ag z<|Nt<|Sq<|Sq ?_
 obtain ⟨r,s,t⟩:=N7 H
 refine T.O5 (α:=Bool) [0,1] z (fun e=>[(20,.bool e)]) (fun e=>L) (fun e hh=>r = e) ?_ ?_
 ·have H:=s
  refine Rg<|Mv z<|Vv (V.lt z z)<|Mv z<|T.bH 10 H z (fun H=>?_) (fun H=>?_)
  ·refine Sk<|Sk<|Sk<|Sk<|Vv (V.M0 z z)<|Mv z<|Sk<|Sk<|Sk<|Vv (V.M0 z z)<|Nt<|T.met true Lr (K4 H) (A9.app ⟨z,trivial⟩ ⟨z,z,trivial⟩) z
  refine Mv z<|Mv z<|Vv (V.P6 O0 z pr0)<|Vv (V.ge z z)<|Vv (V.J9 z z)<|Mv z<|T.bH 16 H z (fun H=>?_) (fun H=>?_)
  ·refine Sk<|Sk<|Sk<|Vv (V.M0 z z)<|Nt<|T.met true Lr (K4 H) (A9.app ⟨z,trivial⟩ ⟨z,z,trivial⟩) z
  refine Mv z ?_
  obtain ⟨w,x,H⟩:=bnd H
  refine To (O.C8 z (A5a pr0 x _) z fun ad ae af ag y=>?_)
  obtain ⟨rfl,A⟩:=y
  refine I9 _ A<|Vv (V.not z)<|Vv (V.J9 z z)<|Nt<|T.met (!w) Li (K4 H) (A9.app ⟨z,trivial⟩ ⟨z,z,trivial⟩) z
 rintro e B ai C
 have H:=J5 C t
 refine T.norm [20,0,1] z<|T.fl ?_
 refine T.cH H z (fun H=>?_) (fun H=>?_)
 ·refine Sr<|Ag z<|Nt<|T.ret<|Tr ?_
  obtain rfl:=Option.some.inj H
  exact T.F5 Tryz.results117 (Rv z) Li ⟨z,z⟩
 refine T.skip<|Th<|Sr<|Ag z<|Nt<|Sq<|Sr<|Mv z<|Mv z ?_
 obtain ⟨k,m,H⟩:=bnd H
 refine T.slM z O0 z pr0.u (.inl ⟨z,z⟩) (.inr ⟨_,_,z,z⟩) (A4m m).2 z fun D E aj=>?_
 have g:G9 E8 7 B D k:=by rw [(A4m m).1]; exact E
 refine Vv (V.P6 O0 z g)<|Mv z<|Nt ?_
 obtain ⟨n,G,I⟩:=N7 H
 refine T.O5 (α:=Int) [] z (fun f=>[(5,.int .i64 f)]) (fun f=>L) (fun f hh=>n = f) ?_ ?_
 ·have H:=G
  refine Bl<|T.N8 (α:=Nat×Int×Int) [23,24] z (fun ⟨c,d,b⟩=>[(25,.int .i64 d),(5,.int .i64 b)]) (fun ⟨c,d,b⟩=>L) (fun ⟨c,d,b⟩ hh=>iter (A2J k) c (d,b) = some n) (fun ⟨c,d,b⟩=>c) (FUEL,(0:Int),(0:Int)) ⟨z,z,trivial⟩ z H ?_
  rintro ⟨c,d,b⟩ ak am J
  obtain ⟨K,an,rfl,H,o⟩:=I4 J
  refine T.norm [25,5,23,24] z<|T.fl ?_
  refine Sr<|Vv (V.lt z z)<|Nt<|Sq<|T.cH H z (fun H=>?_) (fun H=>?_)
  ·refine T.skip<|Th<|Sq<|Bl<|Sr ?_
   obtain ⟨a,p,H⟩:=bnd H
   obtain ⟨ao,M,⟨i,rfl,q⟩⟩:=G9.at g p
   refine Vv (V.ix O0 rfl rfl g (H6 p))<|Vv (V.Z9 rfl M.u (by exact U4)) ?_
   refine To (O.alloc A5c rfl rfl fun ap=>To (O.stF (vs:=[.string a.H7,.int .u8 a.N9,.int .i64 a.fA,.int .i64 a.fB,i,.int .i64 a.fX,.int .i64 a.fY]) U4 rfl rfl (j:=0) rfl rfl (by (simp only [Sl.ones,G9.one q,Bool.and_true,Bool.true_and]) <;> rfl) rfl ?_))
   refine T.freeze fun N aq P=>have S:=AtC.of P; Nt<|Rg<|Mv z<|Vv (V.Z9 rfl S (by exact U4)) ?_
   obtain ⟨ar,U,H⟩:=bnd H
   refine To (O.C8 z (A1N (show E8 N [.string a.H7,.int .u8 a.N9,.int .i64 a.fA,.int .i64 a.fB,i,.int .i64 a.fX,.int .i64 a.fY] a from ⟨i,z,q.u⟩) U _) z fun au aw ax ay W=>?_)
   obtain ⟨rfl,X⟩:=W
   refine I9 _ X ?_
   obtain ⟨Y,Z,H⟩:=bnd H
   refine Vv (V.L8 z z Z)<|Ag z<|Ni<|Bn<|Th<|Rg ?_
   obtain ⟨aa,ab,H⟩:=bnd H
   refine Vv (V.L8 z z ab)<|Mv z<|Nt<|T.again (K,aa,Y) Li (Nat.lt_succ_self _) (G8 H o) (A9.app ⟨z,z,trivial⟩ ⟨z,z,trivial⟩) z
  refine T.exit<|Te<|Te<|have H:=D7 H o; Be<|Th<|T.met b Li H (A9.app ⟨z,trivial⟩ trivial) z
 rintro f aA aB ac
 have H:=J5 ac I
 refine T.norm [5] z<|T.fl ?_
 refine Sr<|Mv z<|Ag z<|Nt<|T.ret ?_
 obtain rfl:=Option.some.inj H
 exact T.F5 Tryz.results117 (Rv z) Li ⟨z,z⟩
theorem B5P {h:PH} {pv0:Value} {l1:List D5} (pr0:G9 E8 7 h pv0 l1) {r_0:Int} (H:A5e l1 = some r_0):∀ L,H5 Tryz.prog 130 [pv0] h (L) (fun v h' L'=>v = .int .i64 r_0∧L' = L):=by
 intro L
 refine H5.enter Tryz.func130 z Tryz.ntmps130 z<|Sr<|Ag z<|Nt<|Sq<|Sr<|Mv z<|Vv (V.P6 O0 z pr0)<|Vv (V.eq z z)<|Nt<|T.cH H z (fun H=>?_) (fun H=>?_)
 ·refine Sr<|Ag z<|Nt<|T.ret<|Tr ?_
  obtain rfl:=Option.some.inj H
  exact T.F5 Tryz.results130 (Rv z) Lr ⟨z,z⟩
 refine T.skip<|Th<|Sr<|Mv z<|Mv z<|Vv (V.P6 O0 z pr0) ?_
 obtain ⟨k,d,H⟩:=bnd H
 refine Vv (V.A0M z z d) ?_
 obtain ⟨a,b,H⟩:=bnd H
 obtain ⟨m,e,⟨c,rfl,f⟩⟩:=G9.at pr0 b
 refine Vv (V.ix O0 rfl rfl pr0 (H6 b))<|Vv (V.Z9 rfl e (by exact U4)) ?_
 obtain ⟨n,g,H⟩:=bnd H
 refine To (O.C8 z (A1N (show E8 h [.string a.H7,.int .u8 a.N9,.int .i64 a.fA,.int .i64 a.fB,c,.int .i64 a.fX,.int .i64 a.fY] a from ⟨c,z,f⟩) g _) z fun o p q r i=>?_)
 obtain ⟨rfl,j⟩:=i
 refine I9 _ j<|Ag z<|Nt<|T.ret ?_
 obtain rfl:=Option.some.inj H
 exact T.F5 Tryz.results130 (Rv z) Li ⟨z,z⟩
theorem A3x {h:PH} {pv0:Value} {l1:List D5} (pr0:G9 E8 7 h pv0 l1) {r_0:Int} (H:A1Y l1 = some r_0):∀ L,H5 Tryz.prog 63 [pv0] h (L) (fun v h' L'=>v = .int .i64 r_0∧L' = L):=by
 intro L
 refine H5.enter Tryz.func63 z Tryz.ntmps63 z<|Sr<|Ag z<|Nt<|Sq<|Sr<|Mv z ?_
 obtain ⟨n,a,H⟩:=bnd H
 refine To (O.C8 z (A5a pr0 a _) z fun o p q r b=>?_)
 obtain ⟨rfl,c⟩:=b
 refine I9 _ c<|Vv (V.not z)<|Nt<|T.cH H z (fun H=>?_) (fun H=>?_)
 ·refine Sr<|Ag z<|Nt<|T.ret<|Tr ?_
  obtain rfl:=Option.some.inj H
  exact T.F5 Tryz.results63 (Rv z) Li ⟨z,z⟩
 refine T.skip<|Th<|Sr<|Mv z<|Mv z<|Vv (V.P6 O0 z pr0) ?_
 obtain ⟨s,d,H⟩:=bnd H
 refine Vv (V.A0M z z d) ?_
 obtain ⟨t,e,H⟩:=bnd H
 refine To (O.C8 z (A5n pr0.u e _) z fun w x y A f=>?_)
 obtain ⟨rfl,g⟩:=f
 refine I9 _ g<|Mv z ?_
 obtain ⟨B,i,H⟩:=bnd H
 refine To (O.C8 z (B5P pr0.u i _) z fun C D E G j=>?_)
 obtain ⟨rfl,k⟩:=j
 refine I9 _ k ?_
 obtain ⟨I,m,H⟩:=bnd H
 refine Vv (V.L8 z z m)<|Ag z<|Nt<|T.ret ?_
 obtain rfl:=Option.some.inj H
 exact T.F5 Tryz.results63 (Rv z) Li ⟨z,z⟩
theorem A3s {h:PH} {pv0:Value} {l1:List D5} (pr0:G9 E8 7 h pv0 l1) {seat2:Int} {r_0:Int} {r_1:Int} {r_2:Bool} (H:A4E l1 seat2 = some (r_0,r_1,r_2)):∀ L,H5 Tryz.prog 32 [pv0,.int .i64 seat2] h (L) (fun v h' L'=>v = .tuple #[.int .i64 r_0,.int .i64 r_1,.bool r_2]∧L' = L):=by
 intro L
 refine H5.enter Tryz.func32 z Tryz.ntmps32 z<|Sr<|Ag z<|Ag z<|Ag z<|Nt<|Sq<|Sr<|Mv z<|Vv (V.lt z z)<|Mv z<|T.bH 12 H z (fun H=>?_) (fun H=>?_)
 ·exact dead H
 refine Mv z ?_
 obtain ⟨J,k,H⟩:=bnd H
 refine To (O.C8 z (A5a pr0 k _) z fun K M N P m=>?_)
 obtain ⟨rfl,n⟩:=m
 refine I9 _ n<|Vv (V.not z)<|Vv (V.J9 z z)<|Nt<|T.cH H z (fun H=>?_) (fun H=>?_)
 ·exact dead H
 refine T.skip<|Th<|Sq<|Sr<|Mv z<|Vv (V.P6 O0 z pr0)<|Mv z<|Nt ?_
 obtain ⟨o,p,q⟩:=N7 H
 have H:=p
 refine Bl<|T.N8 (α:=Nat×Int×Int) [17,18] z (fun ⟨b,c,d⟩=>[(1,.int .i64 c),(19,.int .i64 d)]) (fun ⟨b,c,d⟩=>L) (fun ⟨b,c,d⟩ hh=>iter (B3G l1) b (c,d) = some o) (fun ⟨b,c,d⟩=>b) (FUEL,seat2,(0:Int)) ⟨z,z,trivial⟩ z H ?_
 rintro ⟨b,c,d⟩ S U r
 obtain ⟨s,W,rfl,H,f⟩:=I4 r
 refine T.norm [1,19,17,18] z<|T.fl ?_
 refine Sr<|Vv (V.lt z z)<|Nt<|Sq<|T.cH H z (fun H=>?_) (fun H=>?_)
 ·refine T.skip<|Th<|Sq<|Bl<|Sr<|Mv z ?_
  obtain ⟨a,g,H⟩:=bnd H
  obtain ⟨X,t,⟨e,rfl,i⟩⟩:=G9.at pr0 g
  refine Vv (V.ix O0 rfl rfl pr0 (H6 g))<|Vv (V.Z9 rfl t.u (by exact U4)) ?_
  refine To (O.alloc A5c rfl rfl fun Y=>Ag z<|To (O.stF (vs:=[.string a.H7,.int .u8 a.N9,.int .i64 a.fA,.int .i64 a.fB,e,.int .i64 a.fX,.int .i64 a.fY]) U4 rfl rfl (j:=0) rfl rfl (by (simp only [Sl.ones,G9.one i,Bool.and_true,Bool.true_and]) <;> rfl) rfl ?_))
  refine T.freeze fun w Z x=>have y:=AtC.of x; Nt<|Sr<|Vv (V.Z9 rfl y (by exact U4)) ?_
  obtain ⟨aa,A,H⟩:=bnd H
  refine To (O.C8 z (A1N (show E8 w [.string a.H7,.int .u8 a.N9,.int .i64 a.fA,.int .i64 a.fB,e,.int .i64 a.fX,.int .i64 a.fY] a from ⟨e,z,i.u⟩) A _) z fun ab ac ad ae B=>?_)
  obtain ⟨rfl,C⟩:=B
  refine I9 _ C<|Ag z<|Nt<|Sq<|Sr<|Mv z<|Mv z<|Vv (V.lt z z)<|Nt<|T.cH H z (fun H=>?_) (fun H=>?_)
  ·refine Sr<|Mv z<|Mv z<|Ag z<|Ag z<|Ag z<|Nt<|T.ret<|Tr<|Br<|Tr<|Tr<|have H:=D7 H f; Br<|have H:=J5 H q; Tr ?_
   obtain ⟨rfl,rfl,rfl⟩:=B2G H
   exact T.F5 Tryz.results32 (RVs.cons (RV.tmp z) (RVs.cons (RV.tmp z) (Rv z))) Li ⟨z,z⟩
  refine T.skip<|Th<|Rg<|Mv z<|Mv z ?_
  obtain ⟨D,E,H⟩:=bnd H
  refine Vv (V.A0M z z E)<|Ag z<|Ni<|Bn<|Th<|Rg ?_
  obtain ⟨G,I,H⟩:=bnd H
  refine Vv (V.L8 z z I)<|Mv z<|Nt<|T.again (s,D,G) Li (Nat.lt_succ_self _) (G8 H f) (A9.app ⟨z,z,trivial⟩ ⟨z,z,trivial⟩) z
 exact dead H
theorem C1V {h:PH} {pv0:Value} {l1:List D5} (pr0:G9 E8 7 h pv0 l1) {name2:ByteArray} {r_0:Int} {r_1:Bool} (H:B2B l1 name2 = some (r_0,r_1)):∀ L,H5 Tryz.prog 151 [pv0,.string name2] h (L) (fun v h' L'=>v = .tuple #[.int .i64 r_0,.bool r_1]∧L' = L):=by
 intro L
 refine H5.enter Tryz.func151 z Tryz.ntmps151 z<|Sr<|To (O.V3 z z z fun a b q c=>Ag z<|Ag z<|Nt<|Sr<|Mv z<|Vv (V.mkf z z) ?_)
 obtain ⟨r,d,H⟩:=bnd H
 refine To (O.C8 z (A5w pr0.u (show A7t b (.func (.func 232) #[] #[.pointer (some ⟨a,0,none⟩)]) (fun e=>A9x e name2) from ⟨⟨z,z⟩,.inr ⟨232,[],[.pointer (some ⟨a,0,none⟩)],z,fun f s t w g x i j=>C0A g c.u (show VS f [.string name2] name2 from z) i j⟩⟩) d _) z fun y A B C k=>?_)
 obtain ⟨rfl,m⟩:=k
 refine I9 _ m<|Ag z<|Nt<|Sq<|Sr<|Mv z<|Vv (V.lt z z)<|Mv z<|T.bH 12 H z (fun H=>?_) (fun H=>?_)
 ·refine Sk<|Sk<|Sk<|Vv (V.M0 z z)<|Nt<|Ct z<|Sr<|Ag z<|Ag z<|Nt<|T.ret<|Tr ?_
  obtain ⟨rfl,rfl⟩:=inj2 H
  exact T.F5 Tryz.results151 (RVs.cons (RV.tmp z) (Rv z)) Li ⟨z,z⟩
 refine Mv z ?_
 obtain ⟨D,n,H⟩:=bnd H
 refine To (O.C8 z (A5a pr0.u n _) z fun E G I J o=>?_)
 obtain ⟨rfl,p⟩:=o
 refine I9 _ p<|Vv (V.not z)<|Vv (V.J9 z z)<|Nt<|T.cH H z (fun H=>?_) (fun H=>?_)
 ·refine Sr<|Ag z<|Ag z<|Nt<|T.ret<|Tr ?_
  obtain ⟨rfl,rfl⟩:=inj2 H
  exact T.F5 Tryz.results151 (RVs.cons (RV.tmp z) (Rv z)) Li ⟨z,z⟩
 refine T.skip<|Th<|Sr<|Mv z<|Ag z<|Ag z<|Nt<|T.ret ?_
 obtain ⟨rfl,rfl⟩:=inj2 H
 exact T.F5 Tryz.results151 (RVs.cons (RV.tmp z) (Rv z)) Li ⟨z,z⟩
theorem B3e {h:PH} {pc0:List Value} {t1:D5} (pr0:E8 h pc0 t1) {r_0:Int} (H:B9j t1 = some r_0):∀ L,H5 Tryz.prog 106 [.agg pc0.toArray] h (L) (fun v h' L'=>v = .int .i64 r_0∧L' = L):=by
 intro L
 obtain ⟨a,rfl,b⟩:=pr0
 refine H5.enter Tryz.func106 rfl Tryz.ntmps106 rfl<|Sr<|To (O.V3 rfl rfl rfl fun n d o c=>Ag z<|Nt<|Sq<|Sr<|Vv (V.Z9 rfl c (by exact U4)) ?_)
 obtain ⟨p,e,H⟩:=bnd H
 refine To (O.C8 z (A7X (show E8 d [.string t1.H7,.int .u8 t1.N9,.int .i64 t1.fA,.int .i64 t1.fB,a,.int .i64 t1.fX,.int .i64 t1.fY] t1 from ⟨a,z,b.u⟩) e _) z fun q f r s g=>?_)
 obtain ⟨rfl,i⟩:=g
 refine I9 _ i<|Vv (V.ne z z)<|Nt<|T.cH H z (fun H=>?_) (fun H=>?_)
 ·exact dead H
 refine T.skip<|Th<|Sr<|Vv (V.Z9 rfl c.u (by exact U4)) ?_
 obtain ⟨t,j,H⟩:=bnd H
 refine To (O.C8 z (A1N (show E8 f [.string t1.H7,.int .u8 t1.N9,.int .i64 t1.fA,.int .i64 t1.fB,a,.int .i64 t1.fX,.int .i64 t1.fY] t1 from ⟨a,z,b.u⟩) j _) z fun w x y A k=>?_)
 obtain ⟨rfl,m⟩:=k
 refine I9 _ m<|Ag z<|Nt<|T.ret ?_
 obtain rfl:=Option.some.inj H
 exact T.F5 Tryz.results106 (Rv z) Li ⟨z,z⟩
theorem C1I {h:PH} {pv0:Value} {l1:List D5} (pr0:G9 E8 7 h pv0 l1) {a2:Int} {r_0:Bool} (H:C1k l1 a2 = some r_0):∀ L,H5 Tryz.prog 119 [pv0,.int .i64 a2] h (L) (fun v h' L'=>v = .bool r_0∧L' = L):=by
 intro L
 refine H5.enter Tryz.func119 z Tryz.ntmps119 z<|Sr<|Ag z<|Nt<|Sr<|Mv z<|Mv z ?_
 obtain ⟨⟨m,n,o⟩,b,H⟩:=bnd H
 refine To (O.C8 z (A3s pr0 b _) z fun p q r s c=>?_)
 obtain ⟨rfl,d⟩:=c
 refine I9 _ d<|Mv z<|Vv (V.ext z z)<|Vv (V.ext z z)<|Vv (V.ext z z)<|Ag z<|Ag z<|Ag z<|Nt<|Sr<|Mv z<|Mv z<|T.bH 16 H z (fun H=>?_) (fun H=>?_)
 ·refine Mv z<|Mv z ?_
  obtain ⟨t,a,H⟩:=bnd H
  obtain ⟨w,e,⟨x,rfl,f⟩⟩:=G9.at pr0 a
  refine Vv (V.ix O0 z z pr0 (H6 a))<|Vv (V.fa A0P z)<|Vv (V.I6 (k:=4) F4 z e.u z)<|Mv z ?_
  obtain ⟨y,g,H⟩:=bnd H
  refine To (O.C8 z (A1f f.u g _) z fun A B C D i=>?_)
  obtain ⟨rfl,j⟩:=i
  refine I9 _ j<|Vv (V.M0 z z)<|Ag z<|Nt<|T.ret ?_
  obtain rfl:=Option.some.inj H
  exact T.F5 Tryz.results119 (Rv z) Li ⟨z,z⟩
 exact dead H
theorem B9K {h:PH} {pv0:Value} {l1:List D5} (pr0:G9 E8 7 h pv0 l1) {a2:Int} {r_0:Int} (H:B9a l1 a2 = some r_0):∀ L,H5 Tryz.prog 118 [pv0,.int .i64 a2] h (L) (fun v h' L'=>v = .int .i64 r_0∧L' = L):=by
 intro L
 refine H5.enter Tryz.func118 z Tryz.ntmps118 z<|Sr<|Ag z<|Nt<|Sr<|Mv z<|Mv z ?_
 obtain ⟨⟨s,t,w⟩,f,H⟩:=bnd H
 refine To (O.C8 z (A3s pr0 f _) z fun x g y A i=>?_)
 obtain ⟨rfl,k⟩:=i
 refine I9 _ k<|Mv z<|Vv (V.ext z z)<|Vv (V.ext z z)<|Vv (V.ext z z)<|Ag z<|Ag z<|Ag z<|Nt<|Sq<|Sr<|Mv z<|Vv (V.not z)<|Nt<|T.cH H z (fun H=>?_) (fun H=>?_)
 ·exact dead H
 refine T.skip<|Th<|Sr<|Mv z<|Mv z ?_
 obtain ⟨a,b,H⟩:=bnd H
 obtain ⟨B,m,⟨c,rfl,n⟩⟩:=G9.at pr0 b
 refine Vv (V.ix O0 rfl rfl pr0 (H6 b))<|Vv (V.Z9 rfl m.u (by exact U4)) ?_
 obtain ⟨C,o,H⟩:=bnd H
 refine To (O.C8 z (B8F (show E8 g [.string a.H7,.int .u8 a.N9,.int .i64 a.fA,.int .i64 a.fB,c,.int .i64 a.fX,.int .i64 a.fY] a from ⟨c,z,n.u⟩) o _) z fun D E G I p=>?_)
 obtain ⟨J,q,d⟩:=p
 refine I9 _ q<|Mv z ?_
 obtain ⟨K,e,H⟩:=bnd H
 obtain ⟨M,r,rfl⟩:=A7.get d e
 refine Vv (V.ixR D6 z z (j:=0) z (A7.bd d e))<|Vv (V.ldR D9 z (j:=0) z r z)<|Ag z<|Nt<|T.ret<|T.drop ?_
 obtain rfl:=Option.some.inj H
 exact T.F5 Tryz.results118 (Rv z) Li ⟨z,z⟩
theorem B5c {h:PH} {pv0:Value} {l1:List D5} (pr0:G9 E8 7 h pv0 l1) {a2:Int} {b3:Int} {r_0:D5} {r_1:Int} {r_2:Int} {r_3:Bool} (H:B6h l1 a2 b3 = some (r_0,r_1,r_2,r_3)):∀ L,H5 Tryz.prog 198 [pv0,.int .i64 a2,.int .i64 b3] h (L) (fun v h' L'=>∃ v0_1,v = .tuple #[.agg #[.string r_0.H7,.int .u8 r_0.N9,.int .i64 r_0.fA,.int .i64 r_0.fB,v0_1,.int .i64 r_0.fX,.int .i64 r_0.fY],.int .i64 r_1,.int .i64 r_2,.bool r_3]∧L' = L∧G9 (VI .i64) 1 h' v0_1 r_0.A0N):=by
 intro L
 refine H5.enter Tryz.func198 z Tryz.ntmps198 z<|Sr<|To (O.alloc A5c z z fun o=>Ag z<|Ag z<|Ag z<|Nt<|Sr<|Mv z<|Mv z ?_)
 obtain ⟨⟨p,q,r⟩,d,H⟩:=bnd H
 refine To (O.C8 z (A3s pr0 d _) z fun s t w x e=>?_)
 obtain ⟨rfl,f⟩:=e
 refine I9 _ f<|Mv z<|Vv (V.ext z z)<|Vv (V.ext z z)<|Vv (V.ext z z)<|Ag z<|Ag z<|Ag z<|Nt<|Sr<|Mv z<|Mv z ?_
 obtain ⟨⟨y,A,B⟩,g,H⟩:=bnd H
 refine To (O.C8 z (A3s pr0.u g _) z fun C D E G i=>?_)
 obtain ⟨rfl,k⟩:=i
 refine I9 _ k<|Mv z<|Vv (V.ext z z)<|Vv (V.ext z z)<|Vv (V.ext z z)<|Ag z<|Ag z<|Ag z<|Nt<|Sq<|Sr<|Mv z<|Vv (V.not z)<|Mv z<|T.bH 30 H z (fun H=>?_) (fun H=>?_)
 ·exact dead H
 refine Mv z<|Vv (V.not z)<|Vv (V.J9 z z)<|Mv z<|T.bH 34 H z (fun H=>?_) (fun H=>?_)
 ·exact dead H
 refine Mv z<|Mv z<|Vv (V.ne z z)<|Vv (V.J9 z z)<|Nt<|T.cH H z (fun H=>?_) (fun H=>?_)
 ·exact dead H
 refine T.skip<|Th<|Sq<|T.norm [0,6,7,8,10] z<|T.fl ?_
 refine Rg<|Mv z<|Mv z ?_
 obtain ⟨a,b,H⟩:=bnd H
 obtain ⟨I,m,⟨n,rfl,c⟩⟩:=G9.at pr0 b
 refine Vv (V.ix O0 rfl rfl pr0 (H6 b))<|Vv (V.Z9 rfl m.u (by exact U4)) ?_
 refine Mv z<|Mv z<|To (O.stF (vs:=[.string a.H7,.int .u8 a.N9,.int .i64 a.fA,.int .i64 a.fB,n,.int .i64 a.fX,.int .i64 a.fY]) U4 rfl rfl (j:=0) rfl rfl (by (simp only [Sl.ones,G9.one c,Bool.and_true,Bool.true_and]) <;> rfl) rfl ?_)
 refine Ag z<|Ag z<|Ag z<|Nt<|T.ret ?_
 obtain ⟨rfl,rfl,rfl,rfl⟩:=C8I H
 exact T.A6Z (L':=L) Tryz.results198 (RVs.cons (RV.cellS z (j:=0) z U4) (RVs.cons (RV.tmp z) (RVs.cons (RV.tmp z) (Rv z)))) Li (fun _ iv=>iv.drop) ⟨_,z,z,c.u⟩
theorem B8c {h:PH} {pv0:Value} {l1:List D5} (pr0:G9 E8 7 h pv0 l1) {a2:Int} {b3:Int} {r_0:Bool} (H:B6H l1 a2 b3 = some r_0):∀ L,H5 Tryz.prog 122 [pv0,.int .i64 a2,.int .i64 b3] h (L) (fun v h' L'=>v = .bool r_0∧L' = L):=by
 intro L
 refine H5.enter Tryz.func122 z Tryz.ntmps122 z<|Sr<|Ag z<|Nt<|Sr<|Mv z<|Mv z<|Mv z ?_
 obtain ⟨⟨a,p,q,r⟩,d,H⟩:=bnd H
 refine To (O.C8 z (B5c pr0 d _) z fun s t w x e=>?_)
 obtain ⟨b,rfl,f,c⟩:=e
 refine I9 _ f<|Mv z<|Vv (V.ext rfl rfl)<|Vv (V.ext rfl rfl)<|Vv (V.ext rfl rfl)<|Vv (V.ext rfl rfl)<|To (O.alloc A5c rfl rfl fun y=>To (O.stF (vs:=[.string a.H7,.int .u8 a.N9,.int .i64 a.fA,.int .i64 a.fB,b,.int .i64 a.fX,.int .i64 a.fY]) U4 rfl rfl (j:=0) rfl rfl (by (simp only [Sl.ones,G9.one c,Bool.and_true,Bool.true_and]) <;> rfl) rfl ?_))
 refine T.freeze fun g A i=>have k:=AtC.of i; Ag z<|Ag z<|Ag z<|Nt<|Sr<|Mv z<|Mv z<|T.bH 21 H z (fun H=>?_) (fun H=>?_)
 ·refine Vv (V.Z9 rfl k (by exact U4)) ?_
  refine Mv z<|Mv z ?_
  obtain ⟨B,m,H⟩:=bnd H
  refine To (O.C8 z (A4s (show E8 g [.string a.H7,.int .u8 a.N9,.int .i64 a.fA,.int .i64 a.fB,b,.int .i64 a.fX,.int .i64 a.fY] a from ⟨b,z,c.u⟩) m _) z fun C D E G n=>?_)
  obtain ⟨rfl,o⟩:=n
  refine I9 _ o<|Vv (V.M0 z z)<|Ag z<|Nt<|T.ret ?_
  obtain rfl:=Option.some.inj H
  exact T.F5 Tryz.results122 (Rv z) Li ⟨z,z⟩
 exact dead H
theorem B8A {h:PH} {pv0:Value} {l1:List D5} (pr0:G9 E8 7 h pv0 l1) {a2:Int} {b3:Int} {r_0:Bool} (H:B7e l1 a2 b3 = some r_0):∀ L,H5 Tryz.prog 124 [pv0,.int .i64 a2,.int .i64 b3] h (L) (fun v h' L'=>v = .bool r_0∧L' = L):=by
 intro L
 refine H5.enter Tryz.func124 z Tryz.ntmps124 z<|Sr<|Ag z<|Nt<|Sr<|Mv z<|Mv z<|Mv z ?_
 obtain ⟨⟨a,p,q,r⟩,d,H⟩:=bnd H
 refine To (O.C8 z (B5c pr0 d _) z fun s t w x e=>?_)
 obtain ⟨b,rfl,f,c⟩:=e
 refine I9 _ f<|Mv z<|Vv (V.ext rfl rfl)<|Vv (V.ext rfl rfl)<|Vv (V.ext rfl rfl)<|Vv (V.ext rfl rfl)<|To (O.alloc A5c rfl rfl fun y=>To (O.stF (vs:=[.string a.H7,.int .u8 a.N9,.int .i64 a.fA,.int .i64 a.fB,b,.int .i64 a.fX,.int .i64 a.fY]) U4 rfl rfl (j:=0) rfl rfl (by (simp only [Sl.ones,G9.one c,Bool.and_true,Bool.true_and]) <;> rfl) rfl ?_))
 refine T.freeze fun g A i=>have k:=AtC.of i; Ag z<|Ag z<|Ag z<|Nt<|Sr<|Mv z<|Mv z<|T.bH 21 H z (fun H=>?_) (fun H=>?_)
 ·refine Vv (V.Z9 rfl k (by exact U4)) ?_
  refine Mv z<|Mv z ?_
  obtain ⟨B,m,H⟩:=bnd H
  refine To (O.C8 z (A4B (show E8 g [.string a.H7,.int .u8 a.N9,.int .i64 a.fA,.int .i64 a.fB,b,.int .i64 a.fX,.int .i64 a.fY] a from ⟨b,z,c.u⟩) m _) z fun C D E G n=>?_)
  obtain ⟨rfl,o⟩:=n
  refine I9 _ o<|Vv (V.M0 z z)<|Ag z<|Nt<|T.ret ?_
  obtain rfl:=Option.some.inj H
  exact T.F5 Tryz.results124 (Rv z) Li ⟨z,z⟩
 exact dead H
end Go.Proofs.X
open Go Go.Proofs Go.Sl Go.Dm
namespace Go.Proofs.X
theorem B6I : A2Y Tryz.prog 174 = some ([.string ⟨#[]⟩,.string ⟨#[]⟩,.int .u8 (0)],[(0,1),(1,1),(2,1)]):=by kernel_rfl
theorem C2O : A2Y Tryz.prog 263 = some ([.slice none 0 0,.slice none 0 0,.map none],[(0,2),(2,1)]):=by kernel_rfl
theorem B6F : A0m Tryz.prog 174 = true:=by kernel_rfl
theorem C3B : A0m Tryz.prog 263 = true:=by kernel_rfl
theorem A0H : O3 Tryz.prog 120 0 = some 0:=by kernel_rfl
theorem A1W : O3 Tryz.prog 120 1 = some 1:=by kernel_rfl
theorem A0s : O3 Tryz.prog 174 0 = some 0:=by kernel_rfl
theorem A0W : O3 Tryz.prog 174 1 = some 1:=by kernel_rfl
theorem A3w : O3 Tryz.prog 174 2 = some 2:=by kernel_rfl
theorem A3u : O3 Tryz.prog 260 0 = some 0:=by kernel_rfl
theorem A3p : O3 Tryz.prog 260 1 = some 1:=by kernel_rfl
theorem A0I : O3 Tryz.prog 263 0 = some 0:=by kernel_rfl
theorem A3v : O3 Tryz.prog 263 1 = some 2:=by kernel_rfl
theorem A0a : O3 Tryz.prog 39 0 = some 0:=by kernel_rfl
theorem A9e : O3 Tryz.prog 39 1 = some 1:=by kernel_rfl
theorem A4w : O3 Tryz.prog 39 2 = some 2:=by kernel_rfl
theorem A5Y : O3 Tryz.prog 39 3 = some 3:=by kernel_rfl
theorem A4x : O3 Tryz.prog 39 4 = some 4:=by kernel_rfl
theorem A1l : O3 Tryz.prog 39 5 = some 5:=by kernel_rfl
theorem V4 : O3 Tryz.prog 39 8 = some 8:=by kernel_rfl
theorem C3h : X9 Tryz.prog 120 = some (true,2):=by kernel_rfl
theorem A5z : X9 Tryz.prog 172 = some (false,1):=by kernel_rfl
theorem Y1 : X9 Tryz.prog 174 = some (true,3):=by kernel_rfl
theorem J3 : X9 Tryz.prog 23 = some (false,1):=by kernel_rfl
theorem Q0 : X9 Tryz.prog 24 = some (false,1):=by kernel_rfl
theorem A5H : X9 Tryz.prog 261 = some (false,1):=by kernel_rfl
theorem Z4 : X9 Tryz.prog 37 = some (false,1):=by kernel_rfl
theorem A7L {h:PH} {s1:ByteArray} {r_0:Bool} (H:A4S s1 = some r_0):∀ L,H5 Tryz.prog 212 [.string s1] h (L) (fun v h' L'=>v = .bool r_0∧L' = L):=by
 intro L
 refine H5.enter Tryz.func212 z Tryz.ntmps212 z<|Sr<|Ag z<|Nt<|Sq<|Sq ?_
 obtain ⟨g,i,j⟩:=N7 H
 refine T.O5 (α:=Bool) [0] z (fun c=>[(11,.bool c)]) (fun c=>L) (fun c hh=>g = c) ?_ ?_
 ·have H:=i
  refine Rg<|Mv z<|Vv (V.A3T Tryz.underlying9 z)<|Vv (V.eq z z)<|Mv z<|T.bH 7 H z (fun H=>?_) (fun H=>?_)
  ·refine Sk<|Sk<|Sk<|Vv (V.M0 z z)<|Nt<|T.met true Lr (K4 H) (A9.app ⟨z,trivial⟩ ⟨z,trivial⟩) z
  refine Mv z<|Vv (V.A3T Tryz.underlying9 z)<|Vv (V.gt z z)<|Vv (V.J9 z z)<|Nt<|T.met (decide ((12:Int) < (s1.size:Int))) Lr (K4 H) (A9.app ⟨z,trivial⟩ ⟨z,trivial⟩) z
 rintro c u w k
 have H:=J5 k j
 refine T.norm [11,0] z<|T.fl ?_
 refine T.cH H z (fun H=>?_) (fun H=>?_)
 ·refine Sr<|Ag z<|Nt<|T.ret<|Tr ?_
  obtain rfl:=Option.some.inj H
  exact T.F5 Tryz.results212 (Rv z) Li ⟨z,z⟩
 refine T.skip<|Th<|Sq<|Sr<|Mv z<|Vv (V.A3T Tryz.underlying9 z)<|Mv z<|Nt ?_
 obtain ⟨f,m,e⟩:=N7 H
 refine T.O5 (α:=Unit) [] z (fun _u=>[]) (fun _u=>L) (fun _u hh=>f = (Sum.inl ())) ?_ ?_
 ·have H:=m
  refine Bl<|T.N8 (α:=Nat×Int) [0,13] z (fun ⟨a,b⟩=>[(14,.int .i64 b)]) (fun ⟨a,b⟩=>L) (fun ⟨a,b⟩ hh=>iter (A7R s1) a b = some f) (fun ⟨a,b⟩=>a) (FUEL,(0:Int)) ⟨z,trivial⟩ z H ?_
  rintro ⟨a,b⟩ x y n
  obtain ⟨o,A,rfl,H,d⟩:=I4 n
  refine T.norm [14,0,13] z<|T.fl ?_
  refine Sr<|Vv (V.lt z z)<|Nt<|Sq<|T.cH H z (fun H=>?_) (fun H=>?_)
  ·refine T.skip<|Th<|Sq<|Bl<|Sr<|Mv z<|Ag z<|Nt<|Sr<|Mv z<|Mv z ?_
   obtain ⟨B,p,H⟩:=bnd H
   refine Vv (V.B8j Tryz.underlying9 z z p)<|Vv (V.lt z z)<|Mv z<|T.bH 21 H z (fun H=>?_) (fun H=>?_)
   ·refine Sk<|Sk<|Sk<|Sk<|Vv (V.M0 z z)<|Nt<|Ct z<|Sr<|Ag z<|Nt<|T.ret<|Br<|Tr<|Tr<|have H:=D7 H d; Br<|Tr<|have H:=J5 H e; ?_
    obtain rfl:=Option.some.inj H
    exact T.F5 Tryz.results212 (Rv z) Li ⟨z,z⟩
   refine Mv z<|Mv z ?_
   obtain ⟨C,q,H⟩:=bnd H
   refine Vv (V.B8j Tryz.underlying9 z z q)<|Vv (V.gt z z)<|Vv (V.J9 z z)<|Nt<|T.cH H z (fun H=>?_) (fun H=>?_)
   ·refine Sr<|Ag z<|Nt<|T.ret<|Br<|Tr<|Tr<|have H:=D7 H d; Br<|Tr<|have H:=J5 H e; ?_
    obtain rfl:=Option.some.inj H
    exact T.F5 Tryz.results212 (Rv z) Li ⟨z,z⟩
   refine T.skip<|Bn<|Th<|Rg ?_
   obtain ⟨r,s,H⟩:=bnd H
   refine Vv (V.L8 z z s)<|Mv z<|Nt<|T.again (o,r) Li (Nat.lt_succ_self _) (G8 H d) (A9.app ⟨z,trivial⟩ ⟨z,z,trivial⟩) z
  refine T.exit<|Te<|Te<|have H:=D7 H d; Be<|Th<|T.met () Li H (A9.app trivial trivial) z
 rintro _ D E t
 have H:=J5 t e
 refine T.norm [] z<|T.fl ?_
 refine Sr<|Ag z<|Nt<|T.ret ?_
 obtain rfl:=Option.some.inj H
 exact T.F5 Tryz.results212 (Rv z) Li ⟨z,z⟩
theorem A8s {h:PH} {s1:ByteArray} {r_0:Bool} (H:A4K s1 = some r_0):∀ L,H5 Tryz.prog 213 [.string s1] h (L) (fun v h' L'=>v = .bool r_0∧L' = L):=by
 intro L
 refine H5.enter Tryz.func213 z Tryz.ntmps213 z<|Sr<|Ag z<|Nt<|Sr<|Mv z<|Vv (V.seq z z)<|Mv z<|T.bH 5 H z (fun H=>?_) (fun H=>?_)
 ·refine Sk<|Sk<|Vv (V.M0 z z)<|Ag z<|Nt<|T.ret ?_
  obtain rfl:=Option.some.inj H
  exact T.F5 Tryz.results213 (Rv z) Lr ⟨z,z⟩
 refine Mv z ?_
 obtain ⟨d,a,H⟩:=bnd H
 refine To (O.C8 z (A7L a _) z fun e f g i b=>?_)
 obtain ⟨rfl,c⟩:=b
 refine I9 _ c<|Vv (V.J9 z z)<|Ag z<|Nt<|T.ret ?_
 obtain rfl:=Option.some.inj H
 exact T.F5 Tryz.results213 (Rv z) Li ⟨z,z⟩
theorem B1G {h:PH} {pc0:List Value} {g1:E5} (pr0:G7 h pc0 g1) {r_0:Int} (H:A5D g1 = some r_0):∀ L,H5 Tryz.prog 131 [.agg pc0.toArray] h (L) (fun v h' L'=>v = .int .i64 r_0∧L' = L):=by
 intro L
 obtain ⟨ap,rfl,b⟩:=pr0
 refine H5.enter Tryz.func131 z Tryz.ntmps131 z<|Sr<|To (O.V3 z z z fun aq ar au a=>Ag z<|Nt<|Sq<|Bl<|Sq ?_)
 obtain ⟨q,r,s⟩:=N7 H
 refine T.O5 (α:=Bool) [1] z (fun e=>[(5,.bool e)]) (fun e=>L) (fun e hh=>q = e) ?_ ?_
 ·have H:=r
  refine Rg<|Vv (V.fa A0a z)<|Vv (V.I6 (k:=0) F6 z a z) ?_
  obtain ⟨aw,t,H⟩:=bnd H
  refine To (O.C8 z (A7L t _) z fun ax ay aA aB w=>?_)
  obtain ⟨rfl,x⟩:=w
  refine I9 _ x<|Vv (V.not z)<|Mv z<|T.bH 10 H z (fun H=>?_) (fun H=>?_)
  ·refine Sk<|Sk<|Sk<|Sk<|Vv (V.M0 z z)<|Mv z<|Sk<|Sk<|Sk<|Sk<|Vv (V.M0 z z)<|Mv z<|Sk<|Sk<|Sk<|Sk<|Vv (V.M0 z z)<|Ag z<|Nt<|T.met true Li (K4 H) (A9.app ⟨z,trivial⟩ ⟨z,trivial⟩) z
  refine Vv (V.fa A9e z)<|Vv (V.I6 (k:=1) F6 z a.u z) ?_
  obtain ⟨aC,y,H⟩:=bnd H
  refine To (O.C8 z (A8s y _) z fun aD aE aG aI A=>?_)
  obtain ⟨rfl,B⟩:=A
  refine I9 _ B<|Vv (V.not z)<|Vv (V.J9 z z)<|Mv z<|T.bH 16 H z (fun H=>?_) (fun H=>?_)
  ·refine Sk<|Sk<|Sk<|Sk<|Vv (V.M0 z z)<|Mv z<|Sk<|Sk<|Sk<|Sk<|Vv (V.M0 z z)<|Ag z<|Nt<|T.met true Li (K4 H) (A9.app ⟨z,trivial⟩ ⟨z,trivial⟩) z
  refine Vv (V.fa A4w z)<|Vv (V.I6 (k:=2) F6 z a.u z) ?_
  obtain ⟨aJ,C,H⟩:=bnd H
  refine To (O.C8 z (A8s C _) z fun aK aM aN aO D=>?_)
  obtain ⟨rfl,E⟩:=D
  refine I9 _ E<|Vv (V.not z)<|Vv (V.J9 z z)<|Mv z<|T.bH 22 H z (fun H=>?_) (fun H=>?_)
  ·refine Sk<|Sk<|Sk<|Sk<|Vv (V.M0 z z)<|Ag z<|Nt<|T.met true Li (K4 H) (A9.app ⟨z,trivial⟩ ⟨z,trivial⟩) z
  refine Vv (V.fa A1l z)<|Vv (V.I6 (k:=5) F6 z a.u z) ?_
  obtain ⟨G,I,H⟩:=bnd H
  refine To (O.C8 z (A8s I _) z fun aP aS aU aV J=>?_)
  obtain ⟨rfl,K⟩:=J
  refine I9 _ K<|Vv (V.not z)<|Vv (V.J9 z z)<|Ag z<|Nt<|T.met (!G) Li (K4 H) (A9.app ⟨z,trivial⟩ ⟨z,trivial⟩) z
 rintro e aW aX M
 have H:=J5 M s
 refine T.norm [5,1] z<|T.fl ?_
 refine T.cH H z (fun H=>?_) (fun H=>?_)
 ·refine Sr<|Ag z<|Nt<|T.ret<|Br<|Tr ?_
  obtain rfl:=Option.some.inj H
  exact T.F5 Tryz.results131 (Rv z) Li ⟨z,z⟩
 refine Sq ?_
 obtain ⟨N,P,S⟩:=N7 H
 refine T.O5 (α:=Bool) [1] z (fun f=>[(28,.bool f)]) (fun f=>L) (fun f hh=>N = f) ?_ ?_
 ·have H:=P
  refine Rg<|Vv (V.fa A5Y z)<|Vv (V.I6 (k:=3) D9 z a.u z)<|Vv (V.lt z z)<|Mv z<|T.bH 32 H z (fun H=>?_) (fun H=>?_)
  ·refine Sk<|Sk<|Sk<|Vv (V.M0 z z)<|Ag z<|Nt<|T.met true Lr (K4 H) (A9.app ⟨z,trivial⟩ ⟨z,trivial⟩) z
  refine Vv (V.fa A5Y z)<|Vv (V.I6 (k:=3) D9 z a.u z)<|Vv (V.gt z z)<|Vv (V.J9 z z)<|Ag z<|Nt<|T.met (decide ((9999:Int) < g1.Q6)) Lr (K4 H) (A9.app ⟨z,trivial⟩ ⟨z,trivial⟩) z
 rintro f aY aZ U
 have H:=J5 U S
 refine T.norm [28,1] z<|T.fl ?_
 refine T.cH H z (fun H=>?_) (fun H=>?_)
 ·refine Sr<|Ag z<|Nt<|T.ret<|Br<|Tr ?_
  obtain rfl:=Option.some.inj H
  exact T.F5 Tryz.results131 (Rv z) Li ⟨z,z⟩
 refine Sq ?_
 obtain ⟨W,X,Y⟩:=N7 H
 refine T.O5 (α:=Bool) [1] z (fun g=>[(37,.bool g)]) (fun g=>L) (fun g hh=>W = g) ?_ ?_
 ·have H:=X
  refine Rg<|Vv (V.fa A4x z)<|Vv (V.I6 (k:=4) D9 z a.u z)<|Vv (V.lt z z)<|Mv z<|T.bH 41 H z (fun H=>?_) (fun H=>?_)
  ·refine Sk<|Sk<|Sk<|Vv (V.M0 z z)<|Ag z<|Nt<|T.met true Lr (K4 H) (A9.app ⟨z,trivial⟩ ⟨z,trivial⟩) z
  refine Vv (V.fa A4x z)<|Vv (V.I6 (k:=4) D9 z a.u z)<|Vv (V.gt z z)<|Vv (V.J9 z z)<|Ag z<|Nt<|T.met (decide ((2:Int) < g1.U5)) Lr (K4 H) (A9.app ⟨z,trivial⟩ ⟨z,trivial⟩) z
 rintro g a0 a1 Z
 have H:=J5 Z Y
 refine T.norm [37,1] z<|T.fl ?_
 refine T.cH H z (fun H=>?_) (fun H=>?_)
 ·refine Sr<|Ag z<|Nt<|T.ret<|Br<|Tr ?_
  obtain rfl:=Option.some.inj H
  exact T.F5 Tryz.results131 (Rv z) Li ⟨z,z⟩
 refine Sr<|Vv (V.fa V4 z)<|Vv (V.I6 (k:=8) Z4 z a.u z)<|Vv (V.P6 A0U z b)<|Vv (V.gt z z)<|Ag z<|Nt<|T.cH H z (fun H=>?_) (fun H=>?_)
 ·refine Sr<|Ag z<|Nt<|T.ret<|Br<|Tr ?_
  obtain rfl:=Option.some.inj H
  exact T.F5 Tryz.results131 (Rv z) Li ⟨z,z⟩
 refine T.skip<|Bn<|Th<|Sq<|Sr<|Vv (V.fa V4 z)<|Vv (V.I6 (k:=8) Z4 z a.u z)<|Vv (V.P6 A0U z b)<|Mv z<|Nt ?_
 obtain ⟨m,aa,j⟩:=N7 H
 refine T.O5 (α:=Unit) [] z (fun _u=>[]) (fun _u=>L) (fun _u hh=>m = (Sum.inl ())) ?_ ?_
 ·have H:=aa
  refine Bl<|T.N8 (α:=Nat×Int) [1,52,53] z (fun ⟨c,d⟩=>[(54,.int .i64 d)]) (fun ⟨c,d⟩=>L) (fun ⟨c,d⟩ hh=>iter (A2V g1) c d = some m) (fun ⟨c,d⟩=>c) (FUEL,(0:Int)) ⟨z,trivial⟩ z H ?_
  rintro ⟨c,d⟩ a2 a3 ab
  obtain ⟨n,a4,rfl,H,i⟩:=I4 ab
  refine T.norm [54,1,52,53] z<|T.fl ?_
  refine Sr<|Vv (V.lt z z)<|Nt<|Sq<|T.cH H z (fun H=>?_) (fun H=>?_)
  ·refine T.skip<|Th<|Sq<|Bl<|Sr<|Mv z ?_
   obtain ⟨a5,o,H⟩:=bnd H
   obtain ⟨a6,ac,rfl⟩:=G9.at b o
   refine Vv (V.ix A0U z z b (H6 o))<|Vv (V.ld0 F6 z ac.u z)<|Ag z<|Ag z<|Nt<|Sr<|Mv z ?_
   obtain ⟨a7,ad,H⟩:=bnd H
   refine To (O.C8 z (A7L ad _) z fun a8 a9 ah al ae=>?_)
   obtain ⟨rfl,af⟩:=ae
   refine I9 _ af<|Vv (V.not z)<|Mv z<|T.bH 62 H z (fun H=>?_) (fun H=>?_)
   ·refine Sk<|Sk<|Sk<|Sk<|Sk<|Sk<|Sk<|Sk<|Sk<|Sk<|Sk<|Sk<|Vv (V.M0 z z)<|Nt<|Ct z<|Sr<|Ag z<|Nt<|T.ret<|Br<|Tr<|Tr<|have H:=D7 H i; Br<|Tr<|have H:=J5 H j; ?_
    obtain rfl:=Option.some.inj H
    exact T.F5 Tryz.results131 (Rv z) Li ⟨z,z⟩
   refine Mv z<|Vv (V.gt z z)<|Mv z<|T.bH 65 H z (fun H=>?_) (fun H=>?_)
   ·refine Vv (V.fa V4 z)<|Vv (V.I6 (k:=8) Z4 z a.u z)<|Mv z ?_
    obtain ⟨av,ag,H⟩:=bnd H
    refine Vv (V.A0M z z ag) ?_
    obtain ⟨az,p,H⟩:=bnd H
    obtain ⟨ba,ai,rfl⟩:=G9.at b p
    refine Vv (V.ix A0U z z b (H6 p))<|Vv (V.ld0 F6 z ai.u z)<|Mv z<|Vv (V.sge z z)<|Vv (V.M0 z z)<|Vv (V.J9 z z)<|Nt<|T.cH H z (fun H=>?_) (fun H=>?_)
    ·refine Sr<|Ag z<|Nt<|T.ret<|Br<|Tr<|Tr<|have H:=D7 H i; Br<|Tr<|have H:=J5 H j; ?_
     obtain rfl:=Option.some.inj H
     exact T.F5 Tryz.results131 (Rv z) Li ⟨z,z⟩
    refine T.skip<|Bn<|Th<|Rg ?_
    obtain ⟨aj,ak,H⟩:=bnd H
    refine Vv (V.L8 z z ak)<|Mv z<|Nt<|T.again (n,aj) Li (Nat.lt_succ_self _) (G8 H i) (A9.app ⟨z,trivial⟩ ⟨z,z,z,trivial⟩) z
   refine Sk<|Sk<|Sk<|Sk<|Sk<|Sk<|Sk<|Sk<|Vv (V.J9 z z)<|Vv (V.J9 z z)<|Nt<|Cf z<|T.skip<|Bn<|Th<|Rg ?_
   obtain ⟨am,an,H⟩:=bnd H
   refine Vv (V.L8 z z an)<|Mv z<|Nt<|T.again (n,am) Li (Nat.lt_succ_self _) (G8 H i) (A9.app ⟨z,trivial⟩ ⟨z,z,z,trivial⟩) z
  refine T.exit<|Te<|Te<|have H:=D7 H i; Be<|Th<|T.met () Li H (A9.app trivial trivial) z
 rintro _ bb bc ao
 have H:=J5 ao j
 refine T.norm [] z<|T.fl ?_
 refine Sr<|Ag z<|Nt<|T.ret ?_
 obtain rfl:=Option.some.inj H
 exact T.F5 Tryz.results131 (Rv z) Li ⟨z,z⟩
theorem B7D {h:PH} {pc0:List Value} {g1:E5} (pr0:G7 h pc0 g1) {r_0:E5} (H:A6e g1 = some r_0):∀ L,H5 Tryz.prog 293 [.agg pc0.toArray] h (L) (fun v h' L'=>∃ v0_1,v = .agg #[.string r_0.H7,.string r_0.Y0,.string r_0.Q5,.int .i64 r_0.Q6,.int .i64 r_0.U5,.string r_0.V8,.bool r_0.A0e,.bool r_0.Q3,v0_1]∧L' = L∧G9 VS 1 h' v0_1 r_0.M4):=by
 intro L
 obtain ⟨q,rfl,c⟩:=pr0
 refine H5.enter Tryz.func293 z Tryz.ntmps293 z<|Sr<|To (O.box z z z fun r=>To (O.alloc A2s z z fun s=>Nt<|Sr<|Vv (V.fa V4 z)<|Vv (V.ldO (k:=8) Z4 z (j:=1) z z) ?_))
 obtain ⟨t,d,H⟩:=bnd H
 refine To (O.C8 z (A3a c d _) z fun a w x y e=>?_)
 obtain ⟨A,f,g⟩:=e
 refine I9 _ f<|Vv (V.fa V4 rfl)<|T.M5 0 rfl fun i m=>To (O.st (vs:=[a]) (k:=8) Z4 rfl rfl (j:=2) rfl m (by (simp only [Sl.ones,i,Bool.and_true,Bool.true_and]) <;> rfl) ?_)
 refine T.fl ?_
 refine Nt<|Sr<|Vv (V.C0D (j:=0) (by exact A0p) rfl rfl) ?_
 refine I7 1 z<|T.fl ?_
 refine T.K8 fun B C n=>have b:=A7.slc n g.u; To (O.stF (vs:=[.string g1.H7,.string g1.Y0,.string g1.Q5,.int .i64 g1.Q6,.int .i64 g1.U5,.string g1.V8,.bool g1.A0e,.bool g1.Q3,a]) A0p rfl rfl (j:=1) rfl rfl (by (simp only [Sl.ones,G9.one b,Bool.and_true,Bool.true_and]) <;> rfl) rfl ?_)
 refine T.freeze fun D E o=>have p:=AtC.of o; Nt<|T.ret<|T.drop ?_
 obtain rfl:=Option.some.inj H
 exact T.F5 Tryz.results293 (RVs.cons (RV.C1r z p A0p) RVs.nil) Li ⟨_,z,z,b.u⟩
theorem A8j {h:PH} {a1:ByteArray} {b2:ByteArray} {r_0:Int} (H:bytealg_CompareString a1 b2 = some r_0):∀ L,H5 Tryz.prog 230 [.string a1,.string b2] h (L) (fun v h' L'=>v = .int .i64 r_0∧L' = L):=by
 intro L
 refine H5.enter Tryz.func230 rfl Tryz.ntmps230 rfl<|Sr<|Ag z<|Nt<|Sr<|Mv z<|Mv z<|Vv (V.C8z Tryz.func316 (by kernel_rfl) rfl (by kernel_rfl) (by kernel_rfl) rfl rfl) ?_
 refine Ag z<|Nt<|T.ret ?_
 obtain rfl:=Option.some.inj H
 exact T.F5 Tryz.results230 (Rv z) Lr ⟨z,z⟩
theorem A6E {h:PH} {a1:ByteArray} {b2:ByteArray} {r_0:Int} (H:strings_Compare a1 b2 = some r_0):∀ L,H5 Tryz.prog 150 [.string a1,.string b2] h (L) (fun v h' L'=>v = .int .i64 r_0∧L' = L):=by
 intro L
 refine H5.enter Tryz.func150 z Tryz.ntmps150 z<|Sr<|Ag z<|Nt<|Sr<|Mv z<|Mv z ?_
 obtain ⟨d,a,H⟩:=bnd H
 refine To (O.C8 z (A8j a _) z fun e f g i b=>?_)
 obtain ⟨rfl,c⟩:=b
 refine I9 _ c<|Ag z<|Nt<|T.ret ?_
 obtain rfl:=Option.some.inj H
 exact T.F5 Tryz.results150 (Rv z) Li ⟨z,z⟩
theorem B1p {h:PH} {pc0:List Value} {a1:G6} (pr0:I1 h pc0 a1) {pc1:List Value} {b2:G6} (pr1:I1 h pc1 b2) {r_0:Int} (H:A1Q a1 b2 = some r_0):∀ L,H5 Tryz.prog 203 [.agg pc0.toArray,.agg pc1.toArray] h (L) (fun v h' L'=>v = .int .i64 r_0∧L' = L):=by
 intro L
 obtain rfl:=pr0
 obtain rfl:=pr1
 refine H5.enter Tryz.func203 z Tryz.ntmps203 z<|Sr<|To (O.V3 z z z fun j m n a=>To (O.V3 z z z fun o p q b=>Ag z<|Nt<|Sq<|Sr<|Vv (V.fa A0s z)<|Vv (V.I6 (k:=0) F6 z a.u z)<|Vv (V.fa A0s z)<|Vv (V.I6 (k:=0) F6 z b z) ?_))
 obtain ⟨r,c,H⟩:=bnd H
 refine To (O.C8 z (A6E c _) z fun s t w x d=>?_)
 obtain ⟨rfl,e⟩:=d
 refine I9 _ e<|Ag z<|Nt<|Sr<|Mv z<|Vv (V.ne z z)<|Nt<|T.cH H z (fun H=>?_) (fun H=>?_)
 ·refine Sr<|Mv z<|Ag z<|Nt<|T.ret<|Tr ?_
  obtain rfl:=Option.some.inj H
  exact T.F5 Tryz.results203 (Rv z) Li ⟨z,z⟩
 refine T.skip<|Th<|Sr<|Vv (V.fa A0W z)<|Vv (V.I6 (k:=1) F6 z a.u z)<|Vv (V.fa A0W z)<|Vv (V.I6 (k:=1) F6 z b.u z) ?_
 obtain ⟨y,f,H⟩:=bnd H
 refine To (O.C8 z (A6E f _) z fun A B C D g=>?_)
 obtain ⟨rfl,i⟩:=g
 refine I9 _ i<|Ag z<|Nt<|T.ret ?_
 obtain rfl:=Option.some.inj H
 exact T.F5 Tryz.results203 (Rv z) Li ⟨z,z⟩
theorem B3y {h:PH} {one1:ByteArray} {other2:ByteArray} {kind3:Int} {r_0:G6} (H:A6x one1 other2 kind3 = some r_0):∀ L,H5 Tryz.prog 295 [.string one1,.string other2,.int .u8 kind3] h (L) (fun v h' L'=>v = .agg #[.string r_0.fA,.string r_0.fB,.int .u8 r_0.J4]∧L' = L):=by
 intro L
 refine H5.enter Tryz.func295 z Tryz.ntmps295 z<|Sr<|To (O.alloc A5p z z fun c=>Nt<|Sr<|Mv z<|Mv z<|Vv (V.minS z z)<|Mv z<|Mv z<|Vv (V.maxS z z)<|Mv z<|Vv (V.bld (xs:=[(0,.tmp 9),(1,.tmp 12),(2,.tmp 13)]) (cs:=[_,_,_]) B6I B6F z (F8.cons z z z (F8.cons z z z (F8.cons z z z F8.nil))))<|To (O.stF (vs:=[.string (minS one1 other2),.string (maxS one1 other2),.int .u8 kind3]) Y1 z z (j:=0) z z z z<|T.freeze fun d e a=>have b:=AtC.of a; Nt<|T.ret ?_))
 obtain rfl:=Option.some.inj H
 exact T.F5 Tryz.results295 (RVs.cons (RV.C1r z b Y1) RVs.nil) Li ⟨z,z⟩
theorem C2p {h:PH}  {r_0:J2} (H:B6i  = some r_0):∀ L,H5 Tryz.prog 201 [] h (L) (fun v h' L'=>∃ b0 vo0_1 csso0_2 vo0_4 csso0_5 mbo0_7 eso0_8,v = .pointer (some ⟨b0,0,none⟩)∧L' = blk b0 (.cells [vo0_1,vo0_4,.map (some mbo0_7)].toArray 263)::D8 39 9 vo0_1 csso0_2::D8 174 3 vo0_4 csso0_5::blk mbo0_7 (.map eso0_8.toArray eso0_8.length)::L∧A7 G7 h' csso0_2 r_0.J7.X4∧A7 I1 h' csso0_5 r_0.J7.A1d∧Z6 Value.string false (VI .i64) h' 0 eso0_8 r_0.fat):=by
 intro L
 refine H5.enter Tryz.func201 z Tryz.ntmps201 z<|Sr<|Ag z<|Nt<|Sr<|To (O.mkM z fun d=>have a:Z6 Value.string false (VI .i64) h 0 ([]:List MapEntry) ([]:List (ByteArray×Int)):=trivial; Vv (V.bld (xs:=[(1,.tmp 1)]) (cs:=[_,_,_]) C2O C3B z (F8.cons z z z F8.nil))<|To (O.box z z z fun e=>Ag z<|Nt<|T.ret<|T.A0n 39 9<|have b:A7 G7 h [] ([]:List E5):=A7.nil; T.A0n 174 3<|have c:A7 I1 h [] ([]:List G6):=A7.nil; I7 3 z<|T.fl ?_))
 refine I7 1 z<|T.fl ?_
 refine I7 2 z<|T.fl ?_
 refine I7 3 z<|T.fl ?_
 obtain rfl:=Option.some.inj H
 exact T.F5 Tryz.results201 (Rv z) Lr ⟨_,_,_,_,_,_,_,z,z,b,c,a⟩
theorem A5X {h:PH} {pv0:Value} {b1:J2} (pr0:Pt A0g h pv0 b1) {r_0:Bool} (H:A4O b1 = some r_0):∀ L,H5 Tryz.prog 209 [pv0] h (L) (fun v h' L'=>v = .bool r_0∧L' = L):=by
 intro L
 refine H5.enter Tryz.func209 z Tryz.ntmps209 z<|Sr<|Ag z<|Nt<|Sr<|Mv z<|have a:=pr0; ?_
 obtain ⟨e,_,rfl,b,⟨f,g,i,rfl,j,m,c⟩⟩:=a
 refine Vv (V.C4S Tryz.underlying194 z)<|Mv z<|Mv z<|Vv (V.U9 z)<|Vv (V.fa A3v z)<|Vv (V.I6 (k:=2) A5H z b z)<|have d:=c; ?_
 obtain ⟨n,_,rfl,_⟩:=d
 refine Vv (V.C7Q Tryz.underlying261 z)<|Vv (V.J9 z z)<|Ag z<|Nt<|T.ret ?_
 obtain rfl:=Option.some.inj H
 exact T.F5 Tryz.results209 (Rv z) Lr ⟨z,z⟩
theorem C2k {h:PH} {pv0:Value} {x1:List G6} (pr0:G9 I1 3 h pv0 x1) {pc1:List Value} {target2:G6} (pr1:I1 h pc1 target2) {pv2:Value} {cmp3:G6→G6→Option Int} (pr2:A5A h pv2 cmp3) {r_0:Int} {r_1:Bool} (H:B2w x1 target2 cmp3 = some (r_0,r_1)):∀ L,H5 Tryz.prog 298 [pv0,.agg pc1.toArray,pv2] h (L) (fun v h' L'=>v = .tuple #[.int .i64 r_0,.bool r_1]∧L' = L):=by
 intro L
 obtain rfl:=pr1
 refine H5.enter Tryz.func298 z Tryz.ntmps298 z<|Sr<|To (O.V3 z z z fun aa ab ac m=>Ag z<|Ag z<|Nt<|Sr<|Mv z<|Vv (V.P6 X5 z pr0)<|Ag z<|Nt<|Sr<|Mv z<|Ag z<|Ag z<|Nt<|Sq ?_)
 obtain ⟨n,r,s⟩:=N7 H
 refine T.O5 (α:=Int) [0,2,4,8] z (fun d=>[(9,.int .i64 d)]) (fun d=>L) (fun d hh=>n = d) ?_ ?_
 ·have H:=r
  refine Bl<|T.N8 (α:=Nat×Int×Int) [0,2,4,8] z (fun ⟨c,b,a⟩=>[(10,.int .i64 b),(9,.int .i64 a)]) (fun ⟨c,b,a⟩=>L) (fun ⟨c,b,a⟩ hh=>iter (A3j x1 target2 cmp3) c (b,a) = some n) (fun ⟨c,b,a⟩=>c) (FUEL,(x1.length:Int),(0:Int)) ⟨z,z,trivial⟩ z H ?_
  rintro ⟨c,b,a⟩ i ad w
  obtain ⟨o,ae,rfl,H,j⟩:=I4 w
  refine T.norm [10,9,0,2,4,8] z<|T.fl ?_
  refine Sq<|Sr<|Mv z<|Mv z<|Vv (V.lt z z)<|Nt<|T.cH H z (fun H=>?_) (fun H=>?_)
  ·refine T.skip<|Th<|Bl<|Sr<|Mv z<|Mv z ?_
   obtain ⟨af,x,H⟩:=bnd H
   refine Vv (V.L8 z z x) ?_
   obtain ⟨ag,y,H⟩:=bnd H
   refine Vv (V.A9Z Tryz.underlying3 Tryz.underlying240 z y) ?_
   obtain ⟨ai,A,H⟩:=bnd H
   refine Vv (V.B2U z z A) ?_
   obtain ⟨B,C,H⟩:=bnd H
   refine Vv (V.A9Z Tryz.underlying240 Tryz.underlying3 rfl C)<|Ag z<|Nt<|Sq<|T.O8 (t:=(.v 0 (.v 1 (.v 2 (.v 3 (.v 4 (.v 5 (.alt 6 (.g (.v 7 .done)) .no)))))))) 9 0 0 rfl rfl I8 (by kernel_rfl) ?_
   refine Tm z z<|Tm z z<|Tm z z ?_
   obtain ⟨e,p,H⟩:=bnd H
   obtain ⟨aj,D,rfl⟩:=G9.at pr0 p
   refine Tv z (V.ix X5 rfl rfl pr0 (H6 p))<|Tv z (V.Z9 rfl D.u (by exact Y1)) ?_
   refine Tv z (V.Z9 rfl m.u (by exact Y1)) ?_
   obtain ⟨ak,E,H⟩:=bnd H
   obtain ⟨am,an,ao,G,I⟩:=A5A.call (pr2.u (g:=i)) (show I1 i [.string e.fA,.string e.fB,.int .u8 e.J4] e from rfl) (show I1 i [.string target2.fA,.string target2.fB,.int .u8 target2.J4] target2 from rfl) E
   refine Tp z z (SX.two (XA.fr [] Lr z) (XA.fr [] Lr z)) (O.A1m z G z (I _) z fun ap aq ar au J=>?_) T.Q9
   obtain ⟨rfl,K⟩:=J
   refine I9 _ K<|T.M6 Li<|Tv z (V.lt z z)<|T.R5 (SX.two (XA.fr [] Lr z) (XA.fr [] Lr z))<|Th<|T.cH H z (fun H=>?_) (fun H=>?_)
   ·refine Rg<|Mv z ?_
    obtain ⟨M,N,H⟩:=bnd H
    refine Vv (V.L8 z z N)<|Ag z<|Ni<|Bn<|Th<|T.again (o,b,M) Li (Nat.lt_succ_self _) (G8 H j) (A9.app ⟨z,z,trivial⟩ ⟨z,z,z,z,trivial⟩) z
   refine Rg<|Mv z<|Ag z<|Ni<|Bn<|Th<|T.again (o,B,a) Li (Nat.lt_succ_self _) (G8 H j) (A9.app ⟨z,z,trivial⟩ ⟨z,z,z,z,trivial⟩) z
  refine T.exit<|Te<|Te<|have H:=D7 H j; Be<|Th<|T.met a Li H (A9.app ⟨z,trivial⟩ ⟨z,z,z,z,trivial⟩) z
 rintro d k aw P
 have H:=J5 P s
 refine T.norm [9,0,2,4,8] z<|T.fl ?_
 refine Sq<|T.O8 (t:=(.v 0 (.v 1 (.v 2 (.v 3 (.v 4 (.v 5 (.v 6 (.v 7 (.v 8 (.v 9 (.v 10 (.alt 11 (.g (.v 12 (.v 13 (.alt 14 (.alt 15 .done .no) .no)))) .no))))))))))))) 17 0 0 rfl rfl I8 (by kernel_rfl) ?_
 refine Tm z z<|Tm z z<|Tm z z<|Tv z (V.lt z z)<|Tm z z<|T.bH 39 H z (fun H=>?_) (fun H=>?_)
 ·refine Tm z z<|Tm z z<|Tm z z ?_
  obtain ⟨f,q,H⟩:=bnd H
  obtain ⟨ax,S,rfl⟩:=G9.at pr0 q
  refine Tv z (V.ix X5 rfl rfl pr0 (H6 q))<|Tv z (V.Z9 rfl S.u (by exact Y1)) ?_
  refine Tv z (V.Z9 rfl m.u (by exact Y1)) ?_
  obtain ⟨ay,U,H⟩:=bnd H
  obtain ⟨aA,aB,aC,W,X⟩:=A5A.call (pr2.u (g:=k)) (show I1 k [.string f.fA,.string f.fB,.int .u8 f.J4] f from rfl) (show I1 k [.string target2.fA,.string target2.fB,.int .u8 target2.J4] target2 from rfl) U
  refine Tp z z (SX.two (XA.fr [] Lr z) (XA.fr [] Lr z)) (O.A1m z W z (X _) z fun aD aE aG aI Y=>?_) T.Q9
  obtain ⟨rfl,Z⟩:=Y
  refine I9 _ Z<|T.M6 Li<|Tv z (V.eq z z)<|Tv z (V.M0 z z)<|Ts z z (SX.two (XA.fr [] Lr z) (XA.fr [] Lr z)) (V.asg z) z ?_ T.Q9
  refine Ts z z (SX.two (XA.fr [] Lr z) (XA.fr [] Lr z)) (V.asg z) z ?_ T.Q9
  refine T.R5 (SX.two (XA.fr [] Lr z) (XA.fr [] Lr z))<|Th<|T.ret ?_
  obtain ⟨rfl,rfl⟩:=inj2 H
  exact T.F5 Tryz.results298 (RVs.cons (RV.tmp z) (Rv z)) Li ⟨z,z⟩
 refine Tk z<|Tk z<|Tk z<|Tk z<|Tk z<|Tk z<|T.A4N z z (SX.two (XA.fr [] Lr z) (XA.fr [] Lr z)) z ?_ T.Q9
 refine T.M6 Lr<|Tk z<|Tv z (V.J9 z z)<|Ts z z (SX.two (XA.fr [] Lr z) (XA.fr [] Lr z)) (V.asg z) z ?_ T.Q9
 refine Ts z z (SX.two (XA.fr [] Lr z) (XA.fr [] Lr z)) (V.asg z) z ?_ T.Q9
 refine T.R5 (SX.two (XA.fr [] Lr z) (XA.fr [] Lr z))<|Th<|T.ret ?_
 obtain ⟨rfl,rfl⟩:=inj2 H
 exact T.F5 Tryz.results298 (RVs.cons (RV.tmp z) (Rv z)) Li ⟨z,z⟩
theorem C1C {h:PH} {pv0:Value} {pcs0:List (List Value)} {s1:List G6} (pr0:A7 I1 h pcs0 s1) {i3:Int} {pv2:Value} {v4:List G6} (pr2:G9 I1 3 h pv2 v4) {r_0:List G6} (H:B5Q s1 i3 v4 = some r_0):∀ L,H5 Tryz.prog 294 [pv0,.int .i64 i3,pv2] h (D8 174 3 pv0 pcs0::L) (fun v h' L'=>∃ cs0,L' = D8 174 3 v cs0::L∧A7 I1 h' cs0 r_0):=by
 intro L
 refine H5.enter Tryz.func294 z Tryz.ntmps294 z<|Sr<|Ag z<|Nt<|Sr<|Mv z<|Mv z ?_
 obtain ⟨k,d,H⟩:=bnd H
 refine Vv (V.C6e X5 z (j:=0) z pr0.len (.inr ⟨_,_,z,z⟩) (.inl ⟨z,z⟩) (A9z d))<|Nt<|Sr<|Mv z<|Vv (V.P6 X5 z pr2)<|Ag z<|Nt<|Sq<|Sr<|Mv z<|Vv (V.eq z z)<|Nt<|T.cH H z (fun H=>?_) (fun H=>?_)
 ·refine Sr<|Mv z<|Ag z<|Nt<|T.ret<|Tr ?_
  obtain rfl:=Option.some.inj H
  exact T.F5 Tryz.results294 (Rv z) Lr ⟨_,z,pr0⟩
 refine T.skip<|Th<|Sr<|Mv z<|Vv (V.A2E X5 z (j:=0) z pr0.len)<|Ag z<|Nt<|Sq<|Sr<|Mv z<|Mv z<|Vv (V.eq z z)<|Nt<|T.cH H z (fun H=>?_) (fun H=>?_)
 ·refine Sr<|Mv z<|Mv z ?_
  obtain ⟨e,b,a⟩:=G9.row pr2
  obtain ⟨f,c,H⟩:=bnd H
  refine To (O.apX X5 X5 A5p z z z (j:=0) z (Src.fix b) b.wide (A7.ones I1.plain a) pr0 a c z fun m n o=>have g:A7 I1 h (pcs0 ++ e) f:=A7.ap pr0 a c; Ag z<|Nt<|T.ret<|Tr ?_)
  obtain rfl:=Option.some.inj H
  exact T.F5 Tryz.results294 (Rv z) Lr ⟨_,z,g⟩
 refine T.skip<|Th<|Sq<|Sr<|Mv z<|Mv z ?_
 obtain ⟨p,i,H⟩:=bnd H
 refine Vv (V.L8 z z i)<|Mv z<|dead H
theorem B3l {h:PH} {pv0:Value} {b1:J2} (pr0:Pt A0g h pv0 b1) {one2:ByteArray} {other3:ByteArray} {r_0:Int} {r_1:Bool} (H:A2t b1 one2 other3 = some (r_0,r_1)):∀ L,H5 Tryz.prog 210 [pv0,.string one2,.string other3] h (L) (fun v h' L'=>v = .tuple #[.int .i64 r_0,.bool r_1]∧L' = L):=by
 intro L
 refine H5.enter Tryz.func210 rfl Tryz.ntmps210 rfl<|Sr<|Ag z<|Ag z<|Nt<|Sq<|T.O8 (t:=(.v 0 (.v 1 (.v 2 (.v 3 (.v 4 (.v 5 (.v 6 (.alt 7 (.g (.alt 8 (.g (.v 9 (.v 10 (.alt 11 (.alt 12 .done .no) .no)))) .no)) .no))))))))) 14 0 0 rfl rfl I8 (by kernel_rfl) ?_
 refine Tm z z<|have c:=pr0; ?_
 obtain ⟨w,_,rfl,d,⟨x,y,A,rfl,B,e,C⟩⟩:=c
 refine Tv z (V.U9 z)<|Tv z (V.fa A0I z)<|Tv z (V.fa A3p z)<|Tv z (V.I6 (k:=1) Q0 z d z)<|Tm z z<|Tm z z ?_
 obtain ⟨a,f,H⟩:=bnd H
 refine Tp z z (SX.two (XA.fr [] Lr z) (XA.fr [] Lr z)) (O.C8 z (B3y f _) z fun D b E G i=>?_) T.Q9
 obtain ⟨rfl,j⟩:=i
 refine I9 _ j<|T.M6 Li ?_
 obtain ⟨⟨I,J⟩,m,H⟩:=bnd H
 refine Tp z z (SX.two (XA.fr [] Lr z) (XA.fr [] Lr z)) (O.C8 z (C2k e.u (show I1 b [.string a.fA,.string a.fB,.int .u8 a.J4] a from z) (show A5A b (.func (.func 203) #[] #[]) A1Q from ⟨⟨z,z⟩,.inr ⟨203,[],[],z,fun K M N P n S U o W p q=>B1p n o p q⟩⟩) m _) z fun X Y Z aa r=>?_) T.Q9
 obtain ⟨rfl,s⟩:=r
 refine I9 _ s<|T.M6 Li<|Tv z (V.ext z z)<|Tv z (V.ext z z)<|Ts z z (SX.two (XA.fr [] Lr z) (XA.fr [] Lr z)) (V.asg z) z ?_ T.Q9
 refine Ts z z (SX.two (XA.fr [] Lr z) (XA.fr [] Lr z)) (V.asg z) z ?_ T.Q9
 refine T.R5 (SX.two (XA.fr [] Lr z) (XA.fr [] Lr z))<|Th<|T.ret ?_
 obtain ⟨rfl,rfl⟩:=inj2 H
 exact T.F5 Tryz.results210 (RVs.cons (RV.tmp z) (Rv z)) Li ⟨z,z⟩
theorem C2Z {h:PH} {pb0:Nat} {b1:J2} {v0_1:Value} {css0_2:List (List Value)} {v0_4:Value} {css0_5:List (List Value)} {mb0_7:Nat} {es0_8:List MapEntry} (hR0_3:A7 G7 h css0_2 b1.J7.X4) (hR0_6:A7 I1 h css0_5 b1.J7.A1d) (hM0_9:Z6 Value.string false (VI .i64) h 0 es0_8 b1.fat) {pc1:List Value} {g2:E5} (pr1:G7 h pc1 g2) {r_0:Int} {q_0:J2} (H:B9f b1 g2 = some (r_0,q_0)):∀ L,H5 Tryz.prog 202 [.pointer (some ⟨pb0,0,none⟩),.agg pc1.toArray] h (blk pb0 (.cells [v0_1,v0_4,.map (some mb0_7)].toArray 263)::D8 39 9 v0_1 css0_2::D8 174 3 v0_4 css0_5::blk mb0_7 (.map es0_8.toArray es0_8.length)::L) (fun v h' L'=>∃ vl0_1 cssl0_2 vl0_4 cssl0_5 mbl0_7 esl0_8,v = .int .i64 r_0∧L' = blk pb0 (.cells [vl0_1,vl0_4,.map (some mbl0_7)].toArray 263)::D8 39 9 vl0_1 cssl0_2::D8 174 3 vl0_4 cssl0_5::blk mbl0_7 (.map esl0_8.toArray esl0_8.length)::L∧A7 G7 h' cssl0_2 q_0.J7.X4∧A7 I1 h' cssl0_5 q_0.J7.A1d∧Z6 Value.string false (VI .i64) h' 0 esl0_8 q_0.fat):=by
 intro L
 obtain ⟨b,rfl,o⟩:=pr1
 refine H5.enter Tryz.func202 z Tryz.ntmps202 z<|Sr<|To (O.V3 z z z fun aj ak am c=>Ag z<|Nt<|Sq<|Sr<|Mv z ?_)
 obtain ⟨d,y,H⟩:=bnd H
 refine To (O.C8 z (H5.A1v (val:=.bool d) Tryz.func209 z B2W fun an ao A=>H5.A1v (val:=.bool d) Tryz.func209 z Y4 fun aq ar B=>H5.A1v (val:=.bool d) Tryz.func209 z Y4 fun au aw C=>H5.A1v (val:=.bool d) Tryz.func209 z C5G fun p ax D=>?_) z fun ay G aA aB I=>?_)
 ·have J:=A7.slc B hR0_3.u
  have K:=A7.slc C hR0_6.u
  have M:Mp Value.string false (VI .i64) p (.map (some mb0_7)) b1.fat:=⟨_,_,z,D,hM0_9.u⟩
  exact A5X (Pt.mk A.u (show A0g p [v0_1,v0_4,(.map (some mb0_7))] (J2.mk (P9.mk b1.J7.X4 b1.J7.A1d) b1.fat) from ⟨v0_1,v0_4,(.map (some mb0_7)),z,J.u,K.u,M⟩)) y _
 obtain ⟨rfl,N⟩:=I
 refine I9 _ N<|Nt<|T.cH H z (fun H=>?_) (fun H=>?_)
 ·refine Sr<|Ag z<|Nt<|T.ret<|Tr ?_
  obtain ⟨rfl,rfl⟩:=inj2 H
  exact T.F5 Tryz.results202 (Rv z) Li ⟨_,_,_,_,_,_,z,z,hR0_3.u,hR0_6.u,hM0_9.u⟩
 refine T.skip<|Th<|Sq<|Sr<|Vv (V.Z9 rfl c.u (by exact A0p)) ?_
 obtain ⟨aC,P,H⟩:=bnd H
 refine To (O.C8 z (B1G (show G7 G [.string g2.H7,.string g2.Y0,.string g2.Q5,.int .i64 g2.Q6,.int .i64 g2.U5,.string g2.V8,.bool g2.A0e,.bool g2.Q3,b] g2 from ⟨b,z,o.u⟩) P _) z fun aD f aE aG S=>?_)
 obtain ⟨rfl,U⟩:=S
 refine I9 _ U<|Ag z<|Nt<|Sr<|Mv z<|Vv (V.ne z z)<|Nt<|T.cH H z (fun H=>?_) (fun H=>?_)
 ·refine Sr<|Mv z<|Ag z<|Nt<|T.ret<|Tr ?_
  obtain ⟨rfl,rfl⟩:=inj2 H
  exact T.F5 Tryz.results202 (Rv z) Li ⟨_,_,_,_,_,_,z,z,hR0_3.u,hR0_6.u,hM0_9.u⟩
 refine T.skip<|Th<|Sq<|Sq<|I7 3 z<|T.fl ?_
 refine I7 1 z<|T.fl ?_
 refine T.O8 (t:=(.v 0 (.v 1 (.v 2 (.v 3 (.v 4 (.v 5 (.v 6 (.v 7 (.v 8 (.v 9 (.alt 10 (.alt 11 .done .no) .no)))))))))))) 13 2 2 rfl rfl I8 (by kernel_rfl) ?_
 refine Tm z z<|Tv z (V.U9 z)<|Tv z (V.fa A3v z)<|Tv z (Val.XA fun _ _ _=>V.ldO (k:=2) A5H z (j:=0) z z)<|Tv z (V.fa A0a z)<|Tv z (V.I6 (k:=0) F6 z c.u z) ?_
 obtain ⟨⟨aI,aJ⟩,W,H⟩:=bnd H
 obtain ⟨_,X,rfl⟩:=Z6.lookO (r:=mb0_7) (zc:=[.int .i64 (0:Int)]) (agg:=false) Tryz.underlying261 (A0G.str Tryz.underlying9) Q4 (show (VI .i64) f [.int .i64 (0:Int)] (0:Int) from rfl) hM0_9.u W
 refine Tv z (Val.XA fun _ _ _=>V.lkO z z (j:=1) z X)<|Tm z z<|Tv z (V.ext z z)<|Tv z (V.ext z z)<|Ts z z (SX.two (XA.fr [1,1] Lr z) (XA.fr [1,1] Lr z)) (V.asg z) z ?_ T.Q9
 refine Ts z z (SX.two (XA.fr [1,1] Lr z) (XA.fr [1,1] Lr z)) (V.asg z) z ?_ T.Q9
 refine T.R5 (SX.two (XA.fr [1,1] Lr z) (XA.fr [1,1] Lr z))<|Th<|Sr<|Mv z<|Nt<|T.cH H z (fun H=>?_) (fun H=>?_)
 ·refine Sr<|Ag z<|Nt<|T.ret<|Tr<|I7 1 z<|T.fl ?_
  refine I7 3 z<|T.fl ?_
  refine I7 3 z<|T.fl ?_
  refine I7 3 z<|T.fl ?_
  obtain ⟨rfl,rfl⟩:=inj2 H
  exact T.F5 Tryz.results202 (Rv z) Li ⟨_,_,_,_,_,_,z,z,hR0_3.u,hR0_6.u,hM0_9.u⟩
 refine T.skip<|Th<|Sq<|Sr<|Mv z<|Vv (V.U9 z)<|Vv (V.fa A0I z)<|Vv (V.fa A3u z)<|Vv (V.ldO (k:=0) J3 z (j:=0) z z)<|Vv (V.A2E O9 z (j:=2) z hR0_3.len)<|Vv (V.eq z z)<|Nt<|T.cH H z (fun H=>?_) (fun H=>?_)
 ·refine Sr<|Ag z<|Nt<|T.ret<|Tr<|I7 1 z<|T.fl ?_
  refine I7 3 z<|T.fl ?_
  refine I7 3 z<|T.fl ?_
  refine I7 3 z<|T.fl ?_
  obtain ⟨rfl,rfl⟩:=inj2 H
  exact T.F5 Tryz.results202 (Rv z) Li ⟨_,_,_,_,_,_,z,z,hR0_3.u,hR0_6.u,hM0_9.u⟩
 refine T.skip<|Th<|Sq<|I7 1 z<|T.fl ?_
 refine I7 2 z<|T.fl ?_
 refine I7 2 z<|T.fl ?_
 refine T.O8 (t:=(.v 0 (.v 1 (.v 2 (.v 3 (.v 4 (.v 5 (.v 6 (.v 7 (.v 8 (.v 9 (.v 10 (.v 11 (.alt 12 .done .no)))))))))))))) 12 3 2 rfl rfl I8 (by kernel_rfl) ?_
 refine Tm z z<|Tv z (V.U9 z)<|Tv z (V.fa A3v z)<|Tv z (Val.XA fun _ _ _=>V.ldO (k:=2) A5H z (j:=0) z z)<|Tv z (V.fa A0a z)<|Tv z (V.I6 (k:=0) F6 z c.u z)<|Tm z z<|Tv z (V.U9 z)<|Tv z (V.fa A0I z)<|Tv z (V.fa A3u z)<|Tv z (Val.XA fun _ _ _=>V.ldO (k:=0) J3 z (j:=0) z z)<|Tv z (Val.XA fun _ _ _=>V.A2E O9 z (j:=1) z hR0_3.len) ?_
 obtain ⟨aK,Y,H⟩:=bnd H
 refine Tp z z (SX.two (XA.fr [1,1] Lr z) (XA.fr [2,2,2] Lr z)) (O.A8h (agg:=false) (E:=(VI .i64)) (cs:=[.int .i64 (b1.J7.X4.length:Int)]) Tryz.underlying261 (A0G.str Tryz.underlying9) z z z (j:=2) z hM0_9.u (show (VI .i64) f [.int .i64 (b1.J7.X4.length:Int)] (b1.J7.X4.length:Int) from z) _ (.inl z) fun aM q=>?_) T.Q9
 rw [Option.some.inj Y] at q
 refine T.fl ?_
 refine T.R5 (SX.one (XA.fr [2,2] Lr z) z)<|Th<|Sq<|T.norm [0,3] z<|T.fl ?_
 refine I7 2 z<|T.fl ?_
 refine I7 2 z<|T.fl ?_
 refine T.O8 (t:=(.v 0 (.v 1 (.v 2 (.v 3 (.v 4 (.x 5 (.v 6 (.alt 7 (.g (.alt 8 (.alt 9 (.g (.v 10 (.v 11 (.v 12 (.alt 13 .done .no))))) .no) .no)) .no))))))))) 9 2 0 rfl rfl I8 (by kernel_rfl) ?_
 refine Tm z z<|Tm z z<|Tv z (V.U9 rfl)<|Tv z (V.fa A0I rfl)<|Tv z (V.fa A3u rfl)<|T.tx rfl rfl (Val.XA fun _ _ _=>V.ldO (k:=0) J3 rfl (j:=0) rfl rfl) rfl Calm.i<|Tv z (V.Z9 rfl c.u (by exact A0p)) ?_
 obtain ⟨a,Z,H⟩:=bnd H
 refine Tp z z (SX.two (XA.fr [] Lr z) (XA.fr [1,1] Lr z)) (O.C8 z (B7D (show G7 f [.string g2.H7,.string g2.Y0,.string g2.Q5,.int .i64 g2.Q6,.int .i64 g2.U5,.string g2.V8,.bool g2.A0e,.bool g2.Q3,b] g2 from ⟨b,z,o.u⟩) Z _) z fun aN s aO aP aa=>?_) T.Q9
 obtain ⟨m,rfl,ab,ac⟩:=aa
 refine I9 _ ab<|T.M6 Li<|Tp z z (SX.two (XA.fr [] Lr z) (XA.fr [1,1] Lr z)) (O.bs O9 A2s z (e:=z) (hk:=z) (xs:=[.tmp 52]) (hv:=CO.eq (CO.cons z CO.nil)) (hw:=O7.of z) (hd:=z) fun aS=>?_) T.Q9
 have n:A7 G7 s [[.string a.H7,.string a.Y0,.string a.Q5,.int .i64 a.Q6,.int .i64 a.U5,.string a.V8,.bool a.A0e,.bool a.Q3,m]] ([a]:List E5):=(A7.cons ⟨m,z,ac⟩ A7.nil)
 obtain ⟨ad,w,H⟩:=bnd H
 refine Tp z z (SX.two (XA.fr [] Lr z) (XA.fr [2,2] Lr z)) (O.apX O9 O9 A2s z z z (j:=2) z (Src.row (j:=0) z) (O7.of z) (A7.ones G7.plain n) hR0_3.u n w z fun ae aU aV=>?_) T.Q9
 have af:A7 G7 s (css0_2 ++ [[.string a.H7,.string a.Y0,.string a.Q5,.int .i64 a.Q6,.int .i64 a.U5,.string a.V8,.bool a.A0e,.bool a.Q3,m]]) ad:=A7.ap hR0_3.u n w
 refine T.fl ?_
 refine I7 1 z<|T.fl ?_
 refine T.drop<|T.M6 Lr<|Tv z (V.U9 rfl)<|Tv z (V.fa A0I rfl)<|Tv z (V.fa A3u rfl)<|T.M5 0 rfl fun ag ai=>Tp z z (SX.one (XA.fr [] Lr rfl) rfl) (O.st (vs:=[ae]) (k:=0) J3 rfl rfl (j:=1) rfl ai (by (simp only [Sl.ones,ag,Bool.and_true,Bool.true_and]) <;> rfl) ?_) T.Q9
 refine T.fl ?_
 refine T.R5 (SX.one (XA.fr [] Lr z) z)<|Th<|Sr<|Ag z<|Nt<|T.ret<|I7 2 z<|T.fl ?_
 refine I7 3 z<|T.fl ?_
 refine I7 3 z<|T.fl ?_
 refine I7 3 z<|T.fl ?_
 obtain ⟨rfl,rfl⟩:=inj2 H
 exact T.F5 Tryz.results202 (Rv z) Li ⟨_,_,_,_,_,_,z,z,af,hR0_6.u,q.u⟩
theorem C2K {h:PH} {pb0:Nat} {b1:J2} {v0_1:Value} {css0_2:List (List Value)} {v0_4:Value} {css0_5:List (List Value)} {mb0_7:Nat} {es0_8:List MapEntry} (hR0_3:A7 G7 h css0_2 b1.J7.X4) (hR0_6:A7 I1 h css0_5 b1.J7.A1d) (hM0_9:Z6 Value.string false (VI .i64) h 0 es0_8 b1.fat) {one2:ByteArray} {other3:ByteArray} {kind4:Int} {r_0:Int} {q_0:J2} (H:B4J b1 one2 other3 kind4 = some (r_0,q_0)):∀ L,H5 Tryz.prog 204 [.pointer (some ⟨pb0,0,none⟩),.string one2,.string other3,.int .u8 kind4] h (blk pb0 (.cells [v0_1,v0_4,.map (some mb0_7)].toArray 263)::D8 39 9 v0_1 css0_2::D8 174 3 v0_4 css0_5::blk mb0_7 (.map es0_8.toArray es0_8.length)::L) (fun v h' L'=>∃ vl0_1 cssl0_2 vl0_4 cssl0_5 mbl0_7 esl0_8,v = .int .i64 r_0∧L' = blk pb0 (.cells [vl0_1,vl0_4,.map (some mbl0_7)].toArray 263)::D8 39 9 vl0_1 cssl0_2::D8 174 3 vl0_4 cssl0_5::blk mbl0_7 (.map esl0_8.toArray esl0_8.length)::L∧A7 G7 h' cssl0_2 q_0.J7.X4∧A7 I1 h' cssl0_5 q_0.J7.A1d∧Z6 Value.string false (VI .i64) h' 0 esl0_8 q_0.fat):=by
 intro L
 refine H5.enter Tryz.func204 z Tryz.ntmps204 z<|Sr<|Ag z<|Nt<|Sq<|Sr<|Mv z ?_
 obtain ⟨d,B,H⟩:=bnd H
 refine To (O.C8 z (H5.A1v (val:=.bool d) Tryz.func209 z B2W fun aS aU C=>H5.A1v (val:=.bool d) Tryz.func209 z Y4 fun aV aW D=>H5.A1v (val:=.bool d) Tryz.func209 z Y4 fun aX aY E=>H5.A1v (val:=.bool d) Tryz.func209 z C5G fun q aZ G=>?_) z fun a0 a1 a2 a3 I=>?_)
 ·have J:=A7.slc D hR0_3.u
  have K:=A7.slc E hR0_6.u
  have M:Mp Value.string false (VI .i64) q (.map (some mb0_7)) b1.fat:=⟨_,_,z,G,hM0_9.u⟩
  exact A5X (Pt.mk C.u (show A0g q [v0_1,v0_4,(.map (some mb0_7))] (J2.mk (P9.mk b1.J7.X4 b1.J7.A1d) b1.fat) from ⟨v0_1,v0_4,(.map (some mb0_7)),z,J.u,K.u,M⟩)) B _
 obtain ⟨rfl,N⟩:=I
 refine I9 _ N<|Nt<|T.cH H z (fun H=>?_) (fun H=>?_)
 ·refine Sr<|Ag z<|Nt<|T.ret<|Tr ?_
  obtain ⟨rfl,rfl⟩:=inj2 H
  exact T.F5 Tryz.results204 (Rv z) Li ⟨_,_,_,_,_,_,z,z,hR0_3.u,hR0_6.u,hM0_9.u⟩
 refine T.skip<|Th<|Sq<|Sq ?_
 obtain ⟨P,S,U⟩:=N7 H
 refine T.O5 (α:=Bool) [0,1,2,3] z (fun c=>[(27,.bool c)]) (fun c=>blk pb0 (.cells [v0_1,v0_4,.map (some mb0_7)].toArray 263)::D8 39 9 v0_1 css0_2::D8 174 3 v0_4 css0_5::blk mb0_7 (.map es0_8.toArray es0_8.length)::L) (fun c hh=>P = c) ?_ ?_
 ·have H:=S
  refine Rg<|Mv z<|Vv (V.ne z z)<|Mv z<|T.bH 19 H z (fun H=>?_) (fun H=>?_)
  ·refine Mv z<|Vv (V.ne z z)<|Vv (V.M0 z z)<|Mv z<|T.bH 23 H z (fun H=>?_) (fun H=>?_)
   ·refine Sk<|Sk<|Sk<|Vv (V.M0 z z)<|Nt<|T.met true Lr (K4 H) (A9.app ⟨z,trivial⟩ ⟨z,z,z,z,trivial⟩) z
   refine Mv z<|Mv z<|Vv (V.seq z z)<|Vv (V.J9 z z)<|Nt<|T.met (decide (one2 = other3)) Lr (K4 H) (A9.app ⟨z,trivial⟩ ⟨z,z,z,z,trivial⟩) z
  refine Sk<|Sk<|Vv (V.J9 z z)<|Mv z<|Mv z<|Mv z<|Vv (V.seq z z)<|Vv (V.J9 z z)<|Nt<|T.met (decide (one2 = other3)) Lr (K4 H) (A9.app ⟨z,trivial⟩ ⟨z,z,z,z,trivial⟩) z
 rintro c W a4 X
 have H:=J5 X U
 refine T.norm [27,0,1,2,3] z<|T.fl ?_
 refine T.cH H z (fun H=>?_) (fun H=>?_)
 ·refine Sr<|Ag z<|Nt<|T.ret<|Tr ?_
  obtain ⟨rfl,rfl⟩:=inj2 H
  exact T.F5 Tryz.results204 (Rv z) Li ⟨_,_,_,_,_,_,z,z,hR0_3.u,hR0_6.u,hM0_9.u⟩
 refine T.skip<|Th<|Sq<|Sr<|Mv z<|Mv z<|To (O.bs A0U C4l z (e:=z) (hk:=z) (xs:=[.tmp 28,.tmp 29]) (hv:=CO.eq (CO.cons z (CO.cons z CO.nil))) (hw:=O7.of z) (hd:=z) fun Y=>have o:A7 VS W [[.string one2],[.string other3]] ([one2,other3]:List ByteArray):=(A7.cons z (A7.cons z A7.nil)); Vv (V.A2E A0U z (j:=0) z o.len)<|Mv z<|Nt ?_)
 obtain ⟨s,Z,w⟩:=N7 H
 refine T.O5 (α:=Unit) [0,1,2,3] z (fun _u=>[]) (fun _u=>blk pb0 (.cells [v0_1,v0_4,.map (some mb0_7)].toArray 263)::D8 39 9 v0_1 css0_2::D8 174 3 v0_4 css0_5::blk mb0_7 (.map es0_8.toArray es0_8.length)::L) (fun _u hh=>s = (Sum.inl ())) ?_ ?_
 ·have H:=Z
  refine Bl<|T.N8 (α:=Nat×Int) [0,1,2,3,30,31] z (fun ⟨a,b⟩=>[(32,.int .i64 b)]) (fun ⟨a,b⟩=>D8 9 1 (.slice (some ⟨Y,0,none⟩) 2 2) [[.string one2],[.string other3]]::blk pb0 (.cells [v0_1,v0_4,.map (some mb0_7)].toArray 263)::D8 39 9 v0_1 css0_2::D8 174 3 v0_4 css0_5::blk mb0_7 (.map es0_8.toArray es0_8.length)::L) (fun ⟨a,b⟩ hh=>iter (A5u b1 one2 other3) a b = some s) (fun ⟨a,b⟩=>a) (FUEL,(0:Int)) ⟨z,trivial⟩ z H ?_
  rintro ⟨a,b⟩ aa a5 ab
  obtain ⟨ac,a6,rfl,H,p⟩:=I4 ab
  refine T.norm [32,0,1,2,3,30,31] z<|T.fl ?_
  refine Sr<|Vv (V.lt z z)<|Nt<|Sq<|T.cH H z (fun H=>?_) (fun H=>?_)
  ·refine T.skip<|Th<|Sq<|Bl<|Sr ?_
   obtain ⟨a7,y,H⟩:=bnd H
   obtain ⟨a8,ad,rfl⟩:=A7.get o y
   refine Vv (V.ixR A0U z z (j:=0) z (A7.bd o y))<|Vv (V.ldR F6 z (j:=0) z ad z)<|Ag z<|Nt<|Sr<|Mv z<|Vv (V.U9 z)<|Vv (V.fa A3v z)<|Vv (V.ldO (k:=2) A5H z (j:=1) z z)<|Mv z ?_
   obtain ⟨⟨a9,ah⟩,ae,H⟩:=bnd H
   obtain ⟨_,af,rfl⟩:=Z6.lookO (r:=mb0_7) (zc:=[.int .i64 (0:Int)]) (agg:=false) Tryz.underlying261 (A0G.str Tryz.underlying9) Q4 (show (VI .i64) aa [.int .i64 (0:Int)] (0:Int) from rfl) hM0_9.u ae
   refine Vv (V.lkO z z (j:=4) z af)<|Mv z<|Vv (V.ext z z)<|Vv (V.ext z z)<|Ag z<|Ag z<|Nt<|Sr<|Mv z<|Vv (V.not z)<|Nt<|T.cH H z (fun H=>?_) (fun H=>?_)
   ·refine Sr<|Ag z<|Nt<|T.ret<|Br<|Tr<|Tr<|have H:=D7 H p; Br<|Tr<|have H:=J5 H w; T.drop ?_
    obtain ⟨rfl,rfl⟩:=inj2 H
    exact T.F5 Tryz.results204 (Rv z) Li ⟨_,_,_,_,_,_,z,z,hR0_3.u,hR0_6.u,hM0_9.u⟩
   refine T.skip<|Bn<|Th<|Rg ?_
   obtain ⟨ag,ai,H⟩:=bnd H
   refine Vv (V.L8 z z ai)<|Mv z<|Nt<|T.again (ac,ag) Li (Nat.lt_succ_self _) (G8 H p) (A9.app ⟨z,trivial⟩ ⟨z,z,z,z,z,z,trivial⟩) z
  refine T.exit<|Te<|Te<|have H:=D7 H p; Be<|Th<|T.drop<|T.met () Li H (A9.app trivial ⟨z,z,z,z,trivial⟩) z
 rintro _ al av aj
 have H:=J5 aj w
 refine T.norm [0,1,2,3] z<|T.fl ?_
 refine Sr<|Mv z<|Mv z<|Mv z ?_
 obtain ⟨⟨f,m⟩,ak,H⟩:=bnd H
 refine To (O.C8 z (H5.A1v (val:=.tuple #[.int .i64 f,.bool m]) Tryz.func210 z B2W fun az ba am=>H5.A1v (val:=.tuple #[.int .i64 f,.bool m]) Tryz.func210 z Y4 fun bb bc an=>H5.A1v (val:=.tuple #[.int .i64 f,.bool m]) Tryz.func210 z Y4 fun be bf ao=>H5.A1v (val:=.tuple #[.int .i64 f,.bool m]) Tryz.func210 z C5G fun A bg ap=>?_) z fun bi bj bk bm aq=>?_)
 ·have ar:=A7.slc an hR0_3.u
  have au:=A7.slc ao hR0_6.u
  have aw:Mp Value.string false (VI .i64) A (.map (some mb0_7)) b1.fat:=⟨_,_,z,ap,hM0_9.u⟩
  exact B3l (Pt.mk am.u (show A0g A [v0_1,v0_4,(.map (some mb0_7))] (J2.mk (P9.mk b1.J7.X4 b1.J7.A1d) b1.fat) from ⟨v0_1,v0_4,(.map (some mb0_7)),z,ar.u,au.u,aw⟩)) ak _
 obtain ⟨rfl,ax⟩:=aq
 refine I9 _ ax<|Mv z<|Vv (V.ext z z)<|Vv (V.ext z z)<|Ag z<|Ag z<|Nt<|Sq<|Sr<|Mv z<|Nt<|T.cH H z (fun H=>?_) (fun H=>?_)
 ·refine Sr<|Ag z<|Nt<|T.ret<|Tr ?_
  obtain ⟨rfl,rfl⟩:=inj2 H
  exact T.F5 Tryz.results204 (Rv z) Li ⟨_,_,_,_,_,_,z,z,hR0_3.u,hR0_6.u,hM0_9.u⟩
 refine T.skip<|Th<|Sq<|Sr<|Mv z<|Vv (V.U9 z)<|Vv (V.fa A0I z)<|Vv (V.fa A3p z)<|Vv (V.ldO (k:=1) Q0 z (j:=0) z z)<|Vv (V.A2E X5 z (j:=2) z hR0_6.len)<|Vv (V.eq z z)<|Nt<|T.cH H z (fun H=>?_) (fun H=>?_)
 ·refine Sr<|Ag z<|Nt<|T.ret<|Tr ?_
  obtain ⟨rfl,rfl⟩:=inj2 H
  exact T.F5 Tryz.results204 (Rv z) Li ⟨_,_,_,_,_,_,z,z,hR0_3.u,hR0_6.u,hM0_9.u⟩
 refine T.skip<|Th<|Sq<|I7 2 z<|T.fl ?_
 refine I7 1 z<|T.fl ?_
 refine T.O8 (t:=(.v 0 (.v 1 (.v 2 (.v 3 (.v 4 (.x 5 (.v 6 (.v 7 (.v 8 (.v 9 (.alt 10 (.g (.alt 11 (.alt 12 (.g (.v 13 (.v 14 (.v 15 (.alt 16 .done .no))))) .no) .no)) .no)))))))))))) 12 2 0 rfl rfl I8 (by kernel_rfl) ?_
 refine Tm z z<|Tm z z<|Tv z (V.U9 z)<|Tv z (V.fa A0I z)<|Tv z (V.fa A3p z)<|T.tx z z (Val.XA fun _ _ _=>V.ldO (k:=1) Q0 z (j:=0) z z) z Calm.i<|Tm z z<|Tm z z<|Tm z z<|Tm z z ?_
 obtain ⟨n,ay,H⟩:=bnd H
 refine Tp z z (SX.two (XA.fr [] Lr z) (XA.fr [1,1] Lr z)) (O.C8 z (B3y ay _) z fun bn aA bo bp aB=>?_) T.Q9
 obtain ⟨rfl,aC⟩:=aB
 refine I9 _ aC<|T.M6 Li<|Tp z z (SX.two (XA.fr [] Lr z) (XA.fr [1,1] Lr z)) (O.bs X5 A5p z (e:=z) (hk:=z) (xs:=[.tmp 73]) (hv:=CO.eq (CO.cons z CO.nil)) (hw:=O7.of z) (hd:=z) fun bq=>?_) T.Q9
 have aD:A7 I1 aA [[.string n.fA,.string n.fB,.int .u8 n.J4]] ([n]:List G6):=(A7.cons z A7.nil)
 refine T.K8 fun br bt aE=>have aG:=A7.slc aE aD.u; I7 1 z<|T.fl ?_
 obtain ⟨bu,aI,H⟩:=bnd H
 refine Tp z z (SX.two (XA.fr [] Li z) (XA.fr [0,1] Li z)) (O.C8 z (C1C hR0_6.u aG aI _) z fun aJ bw bx bA aK=>?_) T.Q9
 obtain ⟨bB,aM,aN⟩:=aK
 refine I9 _ aM<|T.M6 Li<|Tv z (V.U9 rfl)<|Tv z (V.fa A0I rfl)<|Tv z (V.fa A3p rfl)<|T.M5 0 rfl fun aO aP=>Tp z z (SX.one (XA.fr [] Lr rfl) rfl) (O.st (vs:=[aJ]) (k:=1) Q0 rfl rfl (j:=1) rfl aP (by (simp only [Sl.ones,aO,Bool.and_true,Bool.true_and]) <;> rfl) ?_) T.Q9
 refine T.fl ?_
 refine T.R5 (SX.one (XA.fr [] Lr z) z)<|Th<|Sq<|T.norm [0] z<|T.fl ?_
 refine Rg<|Ag z<|Nt<|T.ret<|I7 3 z<|T.fl ?_
 refine I7 2 z<|T.fl ?_
 refine I7 3 z<|T.fl ?_
 refine I7 3 z<|T.fl ?_
 obtain ⟨rfl,rfl⟩:=inj2 H
 exact T.F5 Tryz.results204 (Rv z) Li ⟨_,_,_,_,_,_,z,z,hR0_3.u,aN,hM0_9.u⟩
theorem B3H {h:PH} {pc0:List Value} {r1:V6} (pr0:A2X h pc0 r1) {r_0:Option J2} {r_1:Int} {r_2:Int} (H:A8Y r1 = some (r_0,r_1,r_2)):∀ L,H5 Tryz.prog 126 [.agg pc0.toArray] h (L) (fun v h' L'=>∃ w0,v = .tuple #[w0,.int .i64 r_1,.int .i64 r_2]∧L' = L∧OPt A0g h' w0 r_0):=by
 intro L
 obtain ⟨ci,cj,rfl,ag,ai⟩:=pr0
 refine H5.enter Tryz.func126 z Tryz.ntmps126 z<|Sr<|To (O.V3 z z z fun ck cm cn aj=>Ag z<|Ag z<|Ag z<|Nt<|Sr ?_)
 obtain ⟨ar,aW,H⟩:=bnd H
 refine To (O.C8 z (C2p aW _) z fun co cp cq cr aX=>?_)
 obtain ⟨ak,aY,aZ,a0,a1,a2,a3,rfl,a4,a5,a6,a7⟩:=aX
 refine I9 _ a4<|Ag z<|Nt<|Sq<|Sr<|Vv (V.fa A0H z)<|Vv (V.I6 (k:=0) J3 z aj.u z)<|Vv (V.P6 O9 z ag)<|Mv z<|Nt ?_
 obtain ⟨aE,a8,aG⟩:=N7 H
 refine T.O5 (α:=(List E5)×(List G6)×(List (ByteArray×Int))×Value×(List (List Value))×Value×(List (List Value))×Nat×(List MapEntry)) [1,5] z (fun ⟨J,K,M,N,P,S,U,W,q⟩=>[]) (fun ⟨J,K,M,N,P,S,U,W,q⟩=>blk ak (.cells [N,S,.map (some W)].toArray 263)::D8 39 9 N P::D8 174 3 S U::blk W (.map q.toArray q.length)::L) (fun ⟨J,K,M,N,P,S,U,W,q⟩ hh=>aE = (Sum.inl (J,K,M))∧A7 G7 hh P J∧A7 I1 hh U K∧Z6 Value.string false (VI .i64) hh 0 q M) ?_ ?_
 ·have H:=a8
  refine Bl<|T.N8 (α:=Nat×(List E5)×(List G6)×(List (ByteArray×Int))×Int×Value×(List (List Value))×Value×(List (List Value))×Nat×(List MapEntry)) [1,5,14,15] z (fun ⟨X,r,s,w,Y,x,y,A,B,C,m⟩=>[(16,.int .i64 Y)]) (fun ⟨X,r,s,w,Y,x,y,A,B,C,m⟩=>blk ak (.cells [x,A,.map (some C)].toArray 263)::D8 39 9 x y::D8 174 3 A B::blk C (.map m.toArray m.length)::L) (fun ⟨X,r,s,w,Y,x,y,A,B,C,m⟩ hh=>iter (A2b r1) X (r,s,w,Y) = some aE∧A7 G7 hh y r∧A7 I1 hh B s∧Z6 Value.string false (VI .i64) hh 0 m w) (fun ⟨X,r,s,w,Y,x,y,A,B,C,m⟩=>X) (FUEL,ar.J7.X4,ar.J7.A1d,ar.fat,(0:Int),aY,aZ,a0,a1,a2,a3) ⟨z,trivial⟩ z ⟨H,a5,a6,a7⟩ ?_
  rintro ⟨X,r,s,w,Y,x,y,A,B,C,m⟩ cs ct ⟨a9,aI,aJ,aK⟩
  obtain ⟨ah,cu,rfl,H,au⟩:=I4 a9
  refine T.norm [16,1,5,14,15] z<|T.fl ?_
  refine Sr<|Vv (V.lt z z)<|Nt<|Sq<|T.cH H z (fun H=>?_) (fun H=>?_)
  ·refine T.skip<|Th<|Sq<|Bl<|Sr<|Mv z ?_
   obtain ⟨a,aM,H⟩:=bnd H
   obtain ⟨cw,al,⟨aw,rfl,aN⟩⟩:=G9.at ag aM
   refine Vv (V.ix O9 rfl rfl ag (H6 aM))<|Vv (V.Z9 rfl al.u (by exact A0p)) ?_
   refine To (O.alloc A2s rfl rfl fun cx=>Ag z<|To (O.stF (vs:=[.string a.H7,.string a.Y0,.string a.Q5,.int .i64 a.Q6,.int .i64 a.U5,.string a.V8,.bool a.A0e,.bool a.Q3,aw]) A0p rfl rfl (j:=0) rfl rfl (by (simp only [Sl.ones,G9.one aN,Bool.and_true,Bool.true_and]) <;> rfl) rfl ?_))
   refine T.fl ?_
   refine T.freeze fun av cy az=>have ba:=AtC.of az; Nt<|Sr<|Mv z<|Vv (V.Z9 rfl ba (by exact A0p)) ?_
   obtain ⟨⟨cA,ax⟩,bb,H⟩:=bnd H
   refine To (O.C8 z (C2Z aI.u aJ.u aK.u (show G7 av [.string a.H7,.string a.Y0,.string a.Q5,.int .i64 a.Q6,.int .i64 a.U5,.string a.V8,.bool a.A0e,.bool a.Q3,aw] a from ⟨aw,z,aN.u⟩) bb _) z fun cB cC cD cE bc=>?_)
   obtain ⟨bd,be,bf,bg,bi,bj,rfl,bk,bm,bn,bo⟩:=bc
   refine I9 _ bk<|Ag z<|Nt<|Sr<|Mv z<|Vv (V.ne z z)<|Nt<|T.cH H z (fun H=>?_) (fun H=>?_)
   ·refine Sr<|Mv z<|Mv z<|Ag z<|Ag z<|Ag z<|Nt<|T.ret<|Br<|Tr<|Tr<|have H:=D7 H au; Br<|Tr<|have H:=J5 H aG; T.drop<|T.drop<|T.drop<|T.drop ?_
    obtain ⟨rfl,rfl,rfl⟩:=B2G H
    exact T.F5 Tryz.results126 (RVs.cons (RV.tmp z) (RVs.cons (RV.tmp z) (Rv z))) Li ⟨_,z,z,OPt.nil⟩
   refine T.skip<|Bn<|Th<|Rg ?_
   obtain ⟨bp,bq,H⟩:=bnd H
   refine Vv (V.L8 z z bq)<|Mv z<|Nt<|T.again (ah,ax.J7.X4,ax.J7.A1d,ax.fat,bp,bd,be,bf,bg,bi,bj) Li (Nat.lt_succ_self _) ⟨(G8 H au),bm,bn,bo⟩ (A9.app ⟨z,trivial⟩ ⟨z,z,z,z,trivial⟩) z
  refine T.exit<|Te<|Te<|have H:=D7 H au; Be<|Th<|T.met (r,s,w,x,y,A,B,C,m) Li ⟨H,aI,aJ,aK⟩ (A9.app trivial ⟨z,z,trivial⟩) z
 rintro ⟨J,K,M,N,P,S,U,W,q⟩ cG cI ⟨br,bs,bt,bu⟩
 have H:=J5 br aG
 refine T.norm [1,5] z<|T.fl ?_
 refine Sq<|Sr<|Vv (V.fa A1W z)<|Vv (V.I6 (k:=1) Q0 z aj.u z)<|Vv (V.P6 X5 z ai)<|Mv z<|Nt ?_
 obtain ⟨aO,bw,ay⟩:=N7 H
 refine T.O5 (α:=(List E5)×(List G6)×(List (ByteArray×Int))×Value×(List (List Value))×Value×(List (List Value))×Nat×(List MapEntry)) [5] z (fun ⟨Z,aa,ab,D,am,E,an,G,ac⟩=>[]) (fun ⟨Z,aa,ab,D,am,E,an,G,ac⟩=>blk ak (.cells [D,E,.map (some G)].toArray 263)::D8 39 9 D am::D8 174 3 E an::blk G (.map ac.toArray ac.length)::L) (fun ⟨Z,aa,ab,D,am,E,an,G,ac⟩ hh=>aO = (Sum.inl (Z,aa,ab))∧A7 G7 hh am Z∧A7 I1 hh an aa∧Z6 Value.string false (VI .i64) hh 0 ac ab) ?_ ?_
 ·have H:=bw
  refine Bl<|T.N8 (α:=Nat×(List E5)×(List G6)×(List (ByteArray×Int))×Int×Value×(List (List Value))×Value×(List (List Value))×Nat×(List MapEntry)) [1,5,30,31] z (fun ⟨ad,n,o,p,ae,c,f,d,i,e,b⟩=>[(32,.int .i64 ae)]) (fun ⟨ad,n,o,p,ae,c,f,d,i,e,b⟩=>blk ak (.cells [c,d,.map (some e)].toArray 263)::D8 39 9 c f::D8 174 3 d i::blk e (.map b.toArray b.length)::L) (fun ⟨ad,n,o,p,ae,c,f,d,i,e,b⟩ hh=>iter (A1Z r1) ad (n,o,p,ae) = some aO∧A7 G7 hh f n∧A7 I1 hh i o∧Z6 Value.string false (VI .i64) hh 0 b p) (fun ⟨ad,n,o,p,ae,c,f,d,i,e,b⟩=>ad) (FUEL,J,K,M,(0:Int),N,P,S,U,W,q) ⟨z,trivial⟩ z ⟨H,bs,bt,bu⟩ ?_
  rintro ⟨ad,n,o,p,ae,c,f,d,i,e,b⟩ cJ cK ⟨bx,aA,aB,aC⟩
  obtain ⟨aP,cM,rfl,H,ao⟩:=I4 bx
  refine T.norm [32,1,5,30,31] z<|T.fl ?_
  refine Sr<|Vv (V.lt z z)<|Nt<|Sq<|T.cH H z (fun H=>?_) (fun H=>?_)
  ·refine T.skip<|Th<|Sq<|Bl<|Sr<|Mv z ?_
   obtain ⟨I,aS,H⟩:=bnd H
   obtain ⟨cN,bA,rfl⟩:=G9.at ai aS
   refine Vv (V.ix X5 rfl rfl ai (H6 aS))<|Vv (V.Z9 rfl bA.u (by exact Y1)) ?_
   refine To (O.alloc A5p z z fun cO=>Ag z<|To (O.stF (vs:=[.string I.fA,.string I.fB,.int .u8 I.J4]) Y1 z z (j:=0) z z z z<|T.fl ?_))
   refine T.freeze fun aU cP bB=>have af:=AtC.of bB; Nt<|Sr<|Ag z<|Nt<|Sq<|Sq ?_
   obtain ⟨bC,bD,bE⟩:=N7 H
   refine T.O5 (α:=Bool) [1,5,9,10,11,30,31,32] z (fun ap=>[(56,.bool ap)]) (fun ap=>blk ak (.cells [c,d,.map (some e)].toArray 263)::D8 39 9 c f::D8 174 3 d i::blk e (.map b.toArray b.length)::L) (fun ap hh=>bC = ap) ?_ ?_
   ·have H:=bD
    refine T.O8 (t:=(.v 0 (.v 1 (.v 2 (.v 3 (.v 4 (.v 5 (.v 6 (.v 7 (.v 8 (.v 9 (.v 10 (.v 11 (.v 12 (.v 13 (.v 14 (.v 15 (.alt 16 (.g (.v 17 (.v 18 (.v 19 .done)))) .no)))))))))))))))))) 21 0 0 rfl rfl I8 (by kernel_rfl) ?_
    refine Tv z (V.fa A0s z)<|Tv z (V.I6 (k:=0) F6 z af z)<|Tv z (V.fa A0W z)<|Tv z (V.I6 (k:=1) F6 z af z)<|Tv z (V.slt z z)<|Tm z z<|T.bH 42 H z (fun H=>?_) (fun H=>?_)
    ·refine Tm z z<|Tv z (V.eq z z)<|Tm z z<|T.bH 45 H z (fun H=>?_) (fun H=>?_)
     ·refine Tk z<|Tk z<|Tk z<|Tk z<|Tk z<|Tk z<|Tk z<|T.A4N z z (SX.two (XA.fr [] Lr z) (XA.fr [] Lr z)) z ?_ T.Q9
      refine T.M6 Lr<|Tk z<|Tv z (V.M0 z z)<|Tv z (V.M0 z z)<|T.R5 (SX.two (XA.fr [] Lr z) (XA.fr [] Lr z))<|Th<|T.met true Lr (K4 H) (A9.app ⟨z,trivial⟩ ⟨z,z,z,z,z,z,z,z,trivial⟩) z
     refine Tv z (V.fa A1W z)<|Tv z (V.I6 (k:=1) Q0 z aj.u z)<|Tm z z ?_
     obtain ⟨cS,bG,H⟩:=bnd H
     refine Tv z (V.A0M z z bG) ?_
     obtain ⟨aq,aV,H⟩:=bnd H
     obtain ⟨cU,bI,rfl⟩:=G9.at ai aV
     refine Tv z (V.ix X5 rfl rfl ai (H6 aV))<|Tv z (V.Z9 rfl bI.u (by exact Y1)) ?_
     refine Tv z (V.Z9 rfl af (by exact Y1)) ?_
     obtain ⟨bJ,bK,H⟩:=bnd H
     refine Tp z z (SX.two (XA.fr [] Lr z) (XA.fr [] Lr z)) (O.C8 z (B1p (show I1 aU [.string aq.fA,.string aq.fB,.int .u8 aq.J4] aq from z) (show I1 aU [.string I.fA,.string I.fB,.int .u8 I.J4] I from z) bK _) z fun cV cW cX cY bM=>?_) T.Q9
     obtain ⟨rfl,bN⟩:=bM
     refine I9 _ bN<|T.M6 Li<|Tv z (V.le z z)<|Tv z (V.J9 z z)<|Tv z (V.M0 z z)<|T.R5 (SX.two (XA.fr [] Lr z) (XA.fr [] Lr z))<|Th<|T.met (decide (bJ≤(0:Int))) Li (K4 H) (A9.app ⟨z,trivial⟩ ⟨z,z,z,z,z,z,z,z,trivial⟩) z
    refine Tk z<|Tk z<|Tk z<|Tk z<|Tk z<|Tk z<|Tk z<|Tk z<|Tk z<|Tk z<|T.A4N z z (SX.two (XA.fr [] Lr z) (XA.fr [] Lr z)) z ?_ T.Q9
    refine T.M6 Lr<|Tk z<|Tk z<|Tv z (V.J9 z z)<|T.R5 (SX.two (XA.fr [] Lr z) (XA.fr [] Lr z))<|Th<|T.met false Lr (K4 H) (A9.app ⟨z,trivial⟩ ⟨z,z,z,z,z,z,z,z,trivial⟩) z
   rintro ap cZ c0 bO
   have H:=J5 bO bE
   refine T.norm [56,1,5,9,10,11,30,31,32] z<|T.fl ?_
   refine T.cH H z (fun H=>?_) (fun H=>?_)
   ·refine Rg<|Mv z<|Vv (V.fa A0s z)<|Vv (V.I6 (k:=0) F6 z af.u z)<|Vv (V.fa A0W z)<|Vv (V.I6 (k:=1) F6 z af.u z)<|Vv (V.fa A3w z)<|Vv (V.I6 (k:=2) A5z z af.u z) ?_
    obtain ⟨⟨c1,aD⟩,bP,H⟩:=bnd H
    refine To (O.C8 z (C2K aA.u aB.u aC.u bP _) z fun c2 c3 c4 c5 bS=>?_)
    obtain ⟨bU,bV,bW,bX,bY,bZ,rfl,b0,b1,b2,b3⟩:=bS
    refine I9 _ b0<|Ag z<|Nt<|Sr<|Mv z<|Vv (V.ne z z)<|Nt<|T.cH H z (fun H=>?_) (fun H=>?_)
    ·refine Sq<|T.O8 (t:=(.v 0 (.v 1 (.v 2 (.v 3 (.v 4 (.v 5 (.alt 6 (.alt 7 (.alt 8 .done .no) .no) .no)))))))) 10 0 0 rfl rfl I8 (by kernel_rfl) ?_
     refine Tv z (V.fa A0H z)<|Tv z (V.I6 (k:=0) J3 z aj.u z)<|Tv z (V.P6 O9 z ag)<|Tm z z ?_
     obtain ⟨c6,b4,H⟩:=bnd H
     refine Tv z (V.L8 z z b4)<|Tm z z<|Ts z z (SX.two (XA.fr [] Lr z) (XA.fr [] Lr z)) (V.asg z) z ?_ T.Q9
     refine Ts z z (SX.two (XA.fr [] Lr z) (XA.fr [] Lr z)) (V.asg z) z ?_ T.Q9
     refine Ts z z (SX.two (XA.fr [] Lr z) (XA.fr [] Lr z)) (V.asg z) z ?_ T.Q9
     refine T.R5 (SX.two (XA.fr [] Lr z) (XA.fr [] Lr z))<|Th<|T.ret<|Br<|Tr<|Tr<|have H:=D7 H ao; Br<|Tr<|have H:=J5 H ay; T.drop<|T.drop<|T.drop<|T.drop ?_
     obtain ⟨rfl,rfl,rfl⟩:=B2G H
     exact T.F5 Tryz.results126 (RVs.cons (RV.tmp z) (RVs.cons (RV.tmp z) (Rv z))) Li ⟨_,z,z,OPt.nil⟩
    refine T.skip<|Bn<|Th<|Rg ?_
    obtain ⟨b5,b6,H⟩:=bnd H
    refine Vv (V.L8 z z b6)<|Mv z<|Nt<|T.again (aP,aD.J7.X4,aD.J7.A1d,aD.fat,b5,bU,bV,bW,bX,bY,bZ) Li (Nat.lt_succ_self _) ⟨(G8 H ao),b1,b2,b3⟩ (A9.app ⟨z,trivial⟩ ⟨z,z,z,z,trivial⟩) z
   refine T.skip<|Th<|Sr<|Mv z<|Vv (V.ne z z)<|Nt<|T.cH H z (fun H=>?_) (fun H=>?_)
   ·refine Sq<|T.O8 (t:=(.v 0 (.v 1 (.v 2 (.v 3 (.v 4 (.v 5 (.alt 6 (.alt 7 (.alt 8 .done .no) .no) .no)))))))) 10 0 0 rfl rfl I8 (by kernel_rfl) ?_
    refine Tv z (V.fa A0H z)<|Tv z (V.I6 (k:=0) J3 z aj.u z)<|Tv z (V.P6 O9 z ag)<|Tm z z ?_
    obtain ⟨c7,b7,H⟩:=bnd H
    refine Tv z (V.L8 z z b7)<|Tm z z<|Ts z z (SX.two (XA.fr [] Lr z) (XA.fr [] Lr z)) (V.asg z) z ?_ T.Q9
    refine Ts z z (SX.two (XA.fr [] Lr z) (XA.fr [] Lr z)) (V.asg z) z ?_ T.Q9
    refine Ts z z (SX.two (XA.fr [] Lr z) (XA.fr [] Lr z)) (V.asg z) z ?_ T.Q9
    refine T.R5 (SX.two (XA.fr [] Lr z) (XA.fr [] Lr z))<|Th<|T.ret<|Br<|Tr<|Tr<|have H:=D7 H ao; Br<|Tr<|have H:=J5 H ay; T.drop<|T.drop<|T.drop<|T.drop ?_
    obtain ⟨rfl,rfl,rfl⟩:=B2G H
    exact T.F5 Tryz.results126 (RVs.cons (RV.tmp z) (RVs.cons (RV.tmp z) (Rv z))) Li ⟨_,z,z,OPt.nil⟩
   refine T.skip<|Bn<|Th<|Rg ?_
   obtain ⟨b8,b9,H⟩:=bnd H
   refine Vv (V.L8 z z b9)<|Mv z<|Nt<|T.again (aP,n,o,p,b8,c,f,d,i,e,b) Li (Nat.lt_succ_self _) ⟨(G8 H ao),aA.u,aB.u,aC.u⟩ (A9.app ⟨z,trivial⟩ ⟨z,z,z,z,trivial⟩) z
  refine T.exit<|Te<|Te<|have H:=D7 H ao; Be<|Th<|T.met (n,o,p,c,f,d,i,e,b) Li ⟨H,aA,aB,aC⟩ (A9.app trivial ⟨z,trivial⟩) z
 rintro ⟨Z,aa,ab,D,am,E,an,G,ac⟩ c8 c9 ⟨bh,bl,bv,bz⟩
 have H:=J5 bh ay
 refine T.norm [5] z<|T.fl ?_
 refine Sr<|Mv z<|Ag z<|Ag z<|Ag z<|Nt<|T.ret<|I7 1 z<|T.fl ?_
 refine T.K8 fun ch cl ca=>have cb:=A7.slc ca bl.u; I7 1 z<|T.fl ?_
 refine T.K8 fun cv cz cc=>have cd:=A7.slc cc bv.u; I7 1 z<|T.C3Y VI.mono bz.u fun da db ce=>T.B4x fun cf dc cg=>?_
 obtain ⟨rfl,rfl,rfl⟩:=B2G H
 exact T.F5 Tryz.results126 (RVs.cons (RV.tmp z) (RVs.cons (RV.tmp z) (Rv z))) Li ⟨_,z,z,(OPt.some (Pt.mk cg (show A0g cf [D,E,(.map (some G))] (J2.mk (P9.mk Z aa) ab) from ⟨D,E,(.map (some G)),z,cb.u,cd.u,ce.u⟩)))⟩
theorem B4h {h:PH} {pc0:List Value} {r1:V6} (pr0:A2X h pc0 r1) {r_0:Int} {r_1:Int} (H:A3G r1 = some (r_0,r_1)):∀ L,H5 Tryz.prog 224 [.agg pc0.toArray] h (L) (fun v h' L'=>v = .tuple #[.int .i64 r_0,.int .i64 r_1]∧L' = L):=by
 intro L
 obtain ⟨a,b,rfl,c,d⟩:=pr0
 refine H5.enter Tryz.func224 rfl Tryz.ntmps224 rfl<|Sr<|To (O.V3 rfl rfl rfl fun k e m f=>Ag z<|Ag z<|Nt<|Sr<|Vv (V.Z9 rfl f (by exact C3h)) ?_)
 obtain ⟨⟨n,o,p⟩,g,H⟩:=bnd H
 refine To (O.C8 z (B3H (show A2X e [a,b] r1 from ⟨a,b,z,c.u,d.u⟩) g _) z fun q r s t i=>?_)
 obtain ⟨w,rfl,j,x⟩:=i
 refine I9 _ j<|Mv z<|Vv (V.ext z z)<|Vv (V.ext z z)<|Vv (V.ext z z)<|Ag z<|Ag z<|Ag z<|Nt<|Sr<|Mv z<|Mv z<|Ag z<|Ag z<|Nt<|T.ret ?_
 obtain ⟨rfl,rfl⟩:=inj2 H
 exact T.F5 Tryz.results224 (RVs.cons (RV.tmp z) (Rv z)) Li ⟨z,z⟩
end Go.Proofs.X
open Go Go.Proofs Go.Sl Go.Dm
namespace Go.Proofs.X
theorem B6u {h:PH} {pc0:List Value} {g1:E5} (pr0:G7 h pc0 g1) {r_0:E5} (H:B3r g1 = some r_0):∀ L,H5 Tryz.prog 293 [.agg pc0.toArray] h (L) (fun v h' L'=>∃ vo0_1 csso0_2,v = .agg #[.string r_0.H7,.string r_0.Y0,.string r_0.Q5,.int .i64 r_0.Q6,.int .i64 r_0.U5,.string r_0.V8,.bool r_0.A0e,.bool r_0.Q3,vo0_1]∧L' = D8 9 1 vo0_1 csso0_2::L∧A7 VS h' csso0_2 r_0.M4):=by
 intro L
 obtain ⟨o,rfl,b⟩:=pr0
 refine H5.enter Tryz.func293 z Tryz.ntmps293 z<|Sr<|To (O.box z z z fun p=>To (O.alloc A2s z z fun q=>Nt<|Sr<|Vv (V.fa V4 z)<|Vv (V.ldO (k:=8) Z4 z (j:=1) z z) ?_))
 obtain ⟨r,c,H⟩:=bnd H
 refine To (O.C8 z (A3a b c _) z fun a s t u d=>?_)
 obtain ⟨e,f,g⟩:=d
 refine I9 _ f<|Vv (V.fa V4 rfl)<|T.M5 0 rfl fun i m=>To (O.st (vs:=[a]) (k:=8) Z4 rfl rfl (j:=2) rfl m (by (simp only [Sl.ones,i,Bool.and_true,Bool.true_and]) <;> rfl) ?_)
 refine T.fl ?_
 refine Nt<|Sr<|Vv (V.C0D (j:=0) (by exact A0p) rfl rfl) ?_
 refine T.M5 1 rfl fun n w=>To (O.stF (vs:=[.string g1.H7,.string g1.Y0,.string g1.Q5,.int .i64 g1.Q6,.int .i64 g1.U5,.string g1.V8,.bool g1.A0e,.bool g1.Q3,a]) A0p rfl rfl (j:=2) rfl rfl (by (simp only [Sl.ones,n,Bool.and_true,Bool.true_and]) <;> rfl) rfl ?_)
 refine T.fl ?_
 refine Nt<|T.ret<|I7 1 z<|T.fl ?_
 refine T.drop ?_
 obtain rfl:=Option.some.inj H
 exact T.A6Z (L':=D8 9 1 a e::L) Tryz.results293 (RVs.cons (RV.cellS z (j:=0) z A0p) RVs.nil) Li (fun _ iv=>iv.drop) ⟨_,_,z,z,g⟩
theorem B4G {h:PH} {pv0:Value} {b1:J2} (pr0:Pt A0g h pv0 b1) {name2:ByteArray} {r_0:E5} {r_1:Bool} (H:B5O b1 name2 = some (r_0,r_1)):∀ L,H5 Tryz.prog 205 [pv0,.string name2] h (L) (fun v h' L'=>∃ vo0_1 csso0_2,v = .tuple #[.agg #[.string r_0.H7,.string r_0.Y0,.string r_0.Q5,.int .i64 r_0.Q6,.int .i64 r_0.U5,.string r_0.V8,.bool r_0.A0e,.bool r_0.Q3,vo0_1],.bool r_1]∧L' = D8 9 1 vo0_1 csso0_2::L∧A7 VS h' csso0_2 r_0.M4):=by
 intro L
 refine H5.enter Tryz.func205 z Tryz.ntmps205 z<|Sr<|To (O.alloc A2s z z fun E=>Ag z<|Nt<|Sq<|Sr<|Mv z ?_)
 obtain ⟨G,m,H⟩:=bnd H
 refine To (O.C8 z (A5X pr0 m _) z fun I c J K n=>?_)
 obtain ⟨rfl,o⟩:=n
 refine I9 _ o<|Nt<|T.cH H z (fun H=>?_) (fun H=>?_)
 ·exact dead H
 refine T.skip<|Th<|Sr<|Mv z<|have p:=pr0; ?_
 obtain ⟨M,_,rfl,d,⟨N,P,S,rfl,e,U,q⟩⟩:=p
 refine Vv (V.U9 z)<|Vv (V.fa A3v z)<|Vv (V.I6 (k:=2) A5H z d.u z)<|Mv z ?_
 obtain ⟨⟨W,X⟩,r,H⟩:=bnd H
 obtain ⟨_,s,rfl⟩:=Mp.look (zc:=[.int .i64 (0:Int)]) (agg:=false) Tryz.underlying261 (A0G.str Tryz.underlying9) Q4 (show (VI .i64) c [.int .i64 (0:Int)] (0:Int) from rfl) q.u r
 refine Vv (V.lkF z z s)<|Mv z<|Vv (V.ext z z)<|Vv (V.ext z z)<|Ag z<|Ag z<|Nt<|Sq<|Sr<|Mv z<|Vv (V.not z)<|Nt<|T.cH H z (fun H=>?_) (fun H=>?_)
 ·exact dead H
 refine T.skip<|Th<|Sr<|Mv z<|Vv (V.U9 z)<|Vv (V.fa A0I z)<|Vv (V.fa A3u z)<|Vv (V.I6 (k:=0) J3 z d.u z)<|Mv z ?_
 obtain ⟨a,f,H⟩:=bnd H
 obtain ⟨Y,t,⟨g,rfl,w⟩⟩:=G9.at e f
 refine Vv (V.ix O9 rfl rfl e (H6 f))<|Vv (V.Z9 rfl t.u (by exact A0p)) ?_
 obtain ⟨b,x,H⟩:=bnd H
 refine To (O.C8 z (B6u (show G7 c [.string a.H7,.string a.Y0,.string a.Q5,.int .i64 a.Q6,.int .i64 a.U5,.string a.V8,.bool a.A0e,.bool a.Q3,g] a from ⟨g,z,w.u⟩) x _) z fun Z aa ab ac y=>?_)
 obtain ⟨i,A,rfl,B,C⟩:=y
 refine I9 _ B<|T.M5 0 rfl fun D ad=>To (O.stF (vs:=[.string b.H7,.string b.Y0,.string b.Q5,.int .i64 b.Q6,.int .i64 b.U5,.string b.V8,.bool b.A0e,.bool b.Q3,i]) A0p rfl rfl (j:=1) rfl rfl (by (simp only [Sl.ones,D,Bool.and_true,Bool.true_and]) <;> rfl) rfl ?_)
 refine Ag z<|Nt<|T.ret ?_
 obtain ⟨rfl,rfl⟩:=inj2 H
 exact T.A6Z (L':=D8 9 1 i A::L) Tryz.results205 (RVs.cons (RV.cellS z (j:=0) z A0p) (Rv z)) Li (fun _ iv=>iv.drop) ⟨_,_,z,z,C⟩
theorem B7q {h:PH} {t1:ByteArray} {pp1:Addr} {pc1:List Value} {t2:E5} (pa1:AtC h pp1 pc1) (pr1:G7 h pc1 t2) {r_0:Bool} (H:A9q t1 t2 = some r_0):∀ L,H5 Tryz.prog 207 [.string t1,.pointer (some pp1)] h (L) (fun v h' L'=>v = .bool r_0∧L' = L):=by
 intro L
 exact dead H
theorem B8p {h:PH} {pv0:Value} {b1:J2} (pr0:Pt A0g h pv0 b1) {one2:ByteArray} {other3:ByteArray} {r_0:List ByteArray} (H:B6R b1 one2 other3 = some r_0):∀ L,H5 Tryz.prog 127 [pv0,.string one2,.string other3] h (L) (fun v h' L'=>∃ cs0,L' = D8 9 1 v cs0::L∧A7 VS h' cs0 r_0):=by
 intro L
 refine H5.enter Tryz.func127 z Tryz.ntmps127 z<|Sr<|Ag z<|Nt<|Sr<|Mv z<|Mv z ?_
 obtain ⟨⟨b,K⟩,f,H⟩:=bnd H
 refine To (O.C8 z (B4G pr0 f _) z fun M N P S g=>?_)
 obtain ⟨i,U,rfl,m,n⟩:=g
 refine I9 _ m<|Mv z<|Vv (V.ext rfl rfl)<|Vv (V.ext rfl rfl)<|To (O.alloc A2s rfl rfl fun W=>T.M5 1 rfl fun o X=>To (O.stF (vs:=[.string b.H7,.string b.Y0,.string b.Q5,.int .i64 b.Q6,.int .i64 b.U5,.string b.V8,.bool b.A0e,.bool b.Q3,i]) A0p rfl rfl (j:=0) rfl rfl (by (simp only [Sl.ones,o,Bool.and_true,Bool.true_and]) <;> rfl) rfl ?_))
 refine Ag z<|Nt<|Sr<|Mv z<|Mv z ?_
 obtain ⟨⟨a,Y⟩,p,H⟩:=bnd H
 refine To (O.C8 z (B4G pr0.u p _) z fun Z aa ab ac q=>?_)
 obtain ⟨c,ad,rfl,r,s⟩:=q
 refine I9 _ r<|Mv z<|Vv (V.ext z z)<|Vv (V.ext z z)<|To (O.alloc A2s z z fun d=>I7 1 z<|T.fl ?_)
 refine T.K8 fun ae af t=>have e:=A7.slc t s.u; To (O.stF (vs:=[.string a.H7,.string a.Y0,.string a.Q5,.int .i64 a.Q6,.int .i64 a.U5,.string a.V8,.bool a.A0e,.bool a.Q3,c]) A0p rfl rfl (j:=0) rfl rfl (by (simp only [Sl.ones,G9.one e,Bool.and_true,Bool.true_and]) <;> rfl) rfl ?_)
 refine T.fl ?_
 refine T.freeze fun w ag x=>have y:=AtC.of x; Ag z<|Nt<|Sq<|Sr<|Mv z<|Vv (V.not z)<|Mv z<|T.bH 25 H z (fun H=>?_) (fun H=>?_)
 ·exact dead H
 refine Mv z<|Vv (V.not z)<|Vv (V.J9 z z)<|Nt<|T.cH H z (fun H=>?_) (fun H=>?_)
 ·exact dead H
 refine T.skip<|Th<|Sr<|Vv (V.fa V4 z)<|Vv (V.ldO (k:=8) Z4 z (j:=0) z z)<|Vv (V.mkf z z)<|I7 1 z ?_
 obtain ⟨ai,A,H⟩:=bnd H
 refine To (O.C8 z (B2E n.u (show A9M w (.func (.func 207) #[] #[.pointer (some ⟨d,0,none⟩)]) (fun B=>A9q B (E5.mk a.H7 a.Y0 a.Q5 a.Q6 a.U5 a.V8 a.A0e a.Q3 a.M4)) from ⟨⟨z,z⟩,.inr ⟨207,[],[.pointer (some ⟨d,0,none⟩)],z,fun C aj ak am D E=>B7q y.u (show G7 C [.string a.H7,.string a.Y0,.string a.Q5,.int .i64 a.Q6,.int .i64 a.U5,.string a.V8,.bool a.A0e,.bool a.Q3,c] (E5.mk a.H7 a.Y0 a.Q5 a.Q6 a.U5 a.V8 a.A0e a.Q3 a.M4) from ⟨c,z,e.u⟩) D E⟩⟩) A _) z fun an ao ap aq G=>?_)
 obtain ⟨ar,I,J⟩:=G
 refine I9 _ I<|Ag z<|Nt<|T.ret<|I7 1 z<|T.drop ?_
 obtain rfl:=Option.some.inj H
 exact T.F5 Tryz.results127 (Rv z) Li ⟨_,z,J⟩
theorem C2o {h:PH} {pv0:Value} {b1:J2} (pr0:Pt A0g h pv0 b1) {one2:ByteArray} {other3:ByteArray} {r_0:Int} {r_1:Bool} (H:C0T b1 one2 other3 = some (r_0,r_1)):∀ L,H5 Tryz.prog 128 [pv0,.string one2,.string other3] h (L) (fun v h' L'=>v = .tuple #[.int .u8 r_0,.bool r_1]∧L' = L):=by
 intro L
 refine H5.enter Tryz.func128 z Tryz.ntmps128 z<|Sr<|Ag z<|Ag z<|Nt<|Sq<|Sr<|Mv z ?_
 obtain ⟨o,c,H⟩:=bnd H
 refine To (O.C8 z (A5X pr0 c _) z fun p q r s d=>?_)
 obtain ⟨rfl,e⟩:=d
 refine I9 _ e<|Nt<|T.cH H z (fun H=>?_) (fun H=>?_)
 ·exact dead H
 refine T.skip<|Th<|Sr<|Mv z<|Mv z<|Mv z ?_
 obtain ⟨⟨t,w⟩,f,H⟩:=bnd H
 refine To (O.C8 z (B3l pr0.u f _) z fun x y A B g=>?_)
 obtain ⟨rfl,i⟩:=g
 refine I9 _ i<|Mv z<|Vv (V.ext z z)<|Vv (V.ext z z)<|Ag z<|Ag z<|Nt<|Sq<|Sr<|Mv z<|Vv (V.not z)<|Nt<|T.cH H z (fun H=>?_) (fun H=>?_)
 ·refine Sr<|Ag z<|Ag z<|Nt<|T.ret<|Tr ?_
  obtain ⟨rfl,rfl⟩:=inj2 H
  exact T.F5 Tryz.results128 (RVs.cons (RV.tmp z) (Rv z)) Li ⟨z,z⟩
 refine T.skip<|Th<|Sr<|Mv z<|have j:=pr0; ?_
 obtain ⟨C,_,rfl,m,⟨D,E,G,rfl,I,a,J⟩⟩:=j
 refine Vv (V.U9 z)<|Vv (V.fa A0I z)<|Vv (V.fa A3p z)<|Vv (V.I6 (k:=1) Q0 z m.u z)<|Mv z ?_
 obtain ⟨K,b,H⟩:=bnd H
 obtain ⟨M,n,rfl⟩:=G9.at a b
 refine Vv (V.ix X5 z z a (H6 b))<|Vv (V.fa A3w z)<|Vv (V.I6 (k:=2) A5z z n.u z)<|Ag z<|Ag z<|Nt<|T.ret ?_
 obtain ⟨rfl,rfl⟩:=inj2 H
 exact T.F5 Tryz.results128 (RVs.cons (RV.tmp z) (Rv z)) Li ⟨z,z⟩
end Go.Proofs.X
open Go Go.Proofs Go.Sl Go.Dm
namespace Go.Proofs.X
theorem A9y : A1j Tryz.prog 145 = some (192,1,8):=by kernel_rfl
theorem C1S : O3 Tryz.prog 141 0 = some 0:=by kernel_rfl
theorem X6 : O3 Tryz.prog 149 0 = some 0:=by kernel_rfl
theorem A0Z : O3 Tryz.prog 149 2 = some 6:=by kernel_rfl
theorem A9p : O3 Tryz.prog 149 7 = some 11:=by kernel_rfl
theorem R9 : O3 Tryz.prog 161 0 = some 0:=by kernel_rfl
theorem A1I : O3 Tryz.prog 161 1 = some 1:=by kernel_rfl
theorem K3 : O3 Tryz.prog 28 0 = some 0:=by kernel_rfl
theorem M3 : O3 Tryz.prog 28 1 = some 1:=by kernel_rfl
theorem Y3 : O3 Tryz.prog 28 2 = some 2:=by kernel_rfl
theorem Y7 : O3 Tryz.prog 28 3 = some 3:=by kernel_rfl
theorem T9 : O3 Tryz.prog 28 4 = some 4:=by kernel_rfl
theorem Y8 : O3 Tryz.prog 42 2 = some 2:=by kernel_rfl
theorem A0C : O3 Tryz.prog 42 3 = some 3:=by kernel_rfl
theorem X3 : O3 Tryz.prog 42 4 = some 4:=by kernel_rfl
theorem O4 : O3 Tryz.prog 42 5 = some 5:=by kernel_rfl
theorem A6p : X9 Tryz.prog 141 = some (true,5):=by kernel_rfl
theorem B4s : X9 Tryz.prog 145 = some (false,1):=by kernel_rfl
theorem C3R : X9 Tryz.prog 192 = some (false,1):=by kernel_rfl
theorem M9 : X9 Tryz.prog 22 = some (false,1):=by kernel_rfl
theorem Q8 : X9 Tryz.prog 26 = some (false,1):=by kernel_rfl
theorem F9 : X9 Tryz.prog 28 = some (true,5):=by kernel_rfl
theorem A0k : X9 Tryz.prog 42 = some (true,6):=by kernel_rfl
theorem R7 : X9 Tryz.prog 84 = some (false,1):=by kernel_rfl
theorem A0l : zer Tryz.prog 28 = some (.agg #[.slice none 0 0,.slice none 0 0,.slice none 0 0,.slice none 0 0,.slice none 0 0]):=by kernel_rfl
theorem C2z {h:PH} {s1:ByteArray} {r_0:Bool} (H:B6c s1 = some r_0):∀ L,H5 Tryz.prog 277 [.string s1] h (L) (fun v h' L'=>v = .bool r_0∧L' = L):=by
 intro L
 refine H5.enter Tryz.func277 z Tryz.ntmps277 z<|Sr<|Ag z<|Nt<|Sq<|Sq ?_
 obtain ⟨g,i,j⟩:=N7 H
 refine T.O5 (α:=Bool) [0] z (fun c=>[(11,.bool c)]) (fun c=>L) (fun c hh=>g = c) ?_ ?_
 ·have H:=i
  refine Rg<|Mv z<|Vv (V.A3T Tryz.underlying9 z)<|Vv (V.eq z z)<|Mv z<|T.bH 7 H z (fun H=>?_) (fun H=>?_)
  ·refine Sk<|Sk<|Sk<|Vv (V.M0 z z)<|Nt<|T.met true Lr (K4 H) (A9.app ⟨z,trivial⟩ ⟨z,trivial⟩) z
  refine Mv z<|Vv (V.A3T Tryz.underlying9 z)<|Vv (V.gt z z)<|Vv (V.J9 z z)<|Nt<|T.met (decide ((12:Int) < (s1.size:Int))) Lr (K4 H) (A9.app ⟨z,trivial⟩ ⟨z,trivial⟩) z
 rintro c u w k
 have H:=J5 k j
 refine T.norm [11,0] z<|T.fl ?_
 refine T.cH H z (fun H=>?_) (fun H=>?_)
 ·refine Sr<|Ag z<|Nt<|T.ret<|Tr ?_
  obtain rfl:=Option.some.inj H
  exact T.F5 Tryz.results277 (Rv z) Li ⟨z,z⟩
 refine T.skip<|Th<|Sq<|Sr<|Mv z<|Vv (V.A3T Tryz.underlying9 z)<|Mv z<|Nt ?_
 obtain ⟨f,m,e⟩:=N7 H
 refine T.O5 (α:=Unit) [] z (fun _u=>[]) (fun _u=>L) (fun _u hh=>f = (Sum.inl ())) ?_ ?_
 ·have H:=m
  refine Bl<|T.N8 (α:=Nat×Int) [0,13] z (fun ⟨a,b⟩=>[(14,.int .i64 b)]) (fun ⟨a,b⟩=>L) (fun ⟨a,b⟩ hh=>iter (B5t s1) a b = some f) (fun ⟨a,b⟩=>a) (FUEL,(0:Int)) ⟨z,trivial⟩ z H ?_
  rintro ⟨a,b⟩ x y n
  obtain ⟨o,A,rfl,H,d⟩:=I4 n
  refine T.norm [14,0,13] z<|T.fl ?_
  refine Sr<|Vv (V.lt z z)<|Nt<|Sq<|T.cH H z (fun H=>?_) (fun H=>?_)
  ·refine T.skip<|Th<|Sq<|Bl<|Sr<|Mv z<|Ag z<|Nt<|Sr<|Mv z<|Mv z ?_
   obtain ⟨B,p,H⟩:=bnd H
   refine Vv (V.B8j Tryz.underlying9 z z p)<|Vv (V.lt z z)<|Mv z<|T.bH 21 H z (fun H=>?_) (fun H=>?_)
   ·refine Sk<|Sk<|Sk<|Sk<|Vv (V.M0 z z)<|Nt<|Ct z<|Sr<|Ag z<|Nt<|T.ret<|Br<|Tr<|Tr<|have H:=D7 H d; Br<|Tr<|have H:=J5 H e; ?_
    obtain rfl:=Option.some.inj H
    exact T.F5 Tryz.results277 (Rv z) Li ⟨z,z⟩
   refine Mv z<|Mv z ?_
   obtain ⟨C,q,H⟩:=bnd H
   refine Vv (V.B8j Tryz.underlying9 z z q)<|Vv (V.gt z z)<|Vv (V.J9 z z)<|Nt<|T.cH H z (fun H=>?_) (fun H=>?_)
   ·refine Sr<|Ag z<|Nt<|T.ret<|Br<|Tr<|Tr<|have H:=D7 H d; Br<|Tr<|have H:=J5 H e; ?_
    obtain rfl:=Option.some.inj H
    exact T.F5 Tryz.results277 (Rv z) Li ⟨z,z⟩
   refine T.skip<|Bn<|Th<|Rg ?_
   obtain ⟨r,s,H⟩:=bnd H
   refine Vv (V.L8 z z s)<|Mv z<|Nt<|T.again (o,r) Li (Nat.lt_succ_self _) (G8 H d) (A9.app ⟨z,trivial⟩ ⟨z,z,trivial⟩) z
  refine T.exit<|Te<|Te<|have H:=D7 H d; Be<|Th<|T.met () Li H (A9.app trivial trivial) z
 rintro _ D E t
 have H:=J5 t e
 refine T.norm [] z<|T.fl ?_
 refine Sr<|Ag z<|Nt<|T.ret ?_
 obtain rfl:=Option.some.inj H
 exact T.F5 Tryz.results277 (Rv z) Li ⟨z,z⟩
theorem C0r {h:PH} {pc0:List Value} {g1:E5} (pr0:G7 h pc0 g1) {pp1:Addr} {pc1:List Value} {t4:ByteArray} (pa1:AtC h pp1 pc1) (pr1:VS h pc1 t4) {r_0:Bool} (H:A9b g1 t4 = some r_0):∀ L,H5 Tryz.prog 352 [.agg pc0.toArray,.pointer (some pp1)] h (L) (fun v h' L'=>v = .bool r_0∧L' = L):=by
 intro L
 obtain ⟨b,rfl,c⟩:=pr0
 obtain rfl:=pr1
 refine H5.enter Tryz.func352 z Tryz.ntmps352 z<|Sr<|To (O.V3 z z z fun d e f a=>Ag z<|Nt<|Sr<|Vv (V.fa A0a z)<|Vv (V.I6 (k:=0) F6 z a z)<|Vv (V.ld0 F6 z pa1.u z)<|Vv (V.seq z z)<|Ag z<|Nt<|T.ret ?_)
 obtain rfl:=Option.some.inj H
 exact T.F5 Tryz.results352 (Rv z) Li ⟨z,z⟩
theorem A2p {h:PH} {pc0:List Value} {p1:A8} (pr0:C9 h pc0 p1) {name12:ByteArray} {r_0:Int} (H:A2C p1 name12 = some r_0):∀ L,H5 Tryz.prog 276 [.agg pc0.toArray,.string name12] h (L) (fun v h' L'=>v = .int .i64 r_0∧L' = L):=by
 intro L
 obtain ⟨q,r,s,t,w,rfl,x,b,y,A,B⟩:=pr0
 refine H5.enter Tryz.func276 z Tryz.ntmps276 z<|Sr<|To (O.V3 z z z fun C D E c=>To (O.V3 z z z fun a d G e=>Ag z<|Nt<|Sr<|Vv (V.fa M3 z)<|Vv (V.I6 (k:=1) J3 z c.u z)<|Vv (V.mkf z z) ?_))
 obtain ⟨I,f,H⟩:=bnd H
 refine To (O.C8 z (A5r b.u (show A8W d (.func (.func 352) #[] #[.pointer (some ⟨a,0,none⟩)]) (fun g=>A9b g name12) from ⟨⟨z,z⟩,.inr ⟨352,[],[.pointer (some ⟨a,0,none⟩)],z,fun i J K M j N m n=>C0r j e.u (show VS i [.string name12] name12 from z) m n⟩⟩) f _) z fun P S U W o=>?_)
 obtain ⟨rfl,p⟩:=o
 refine I9 _ p<|Ag z<|Nt<|T.ret ?_
 obtain rfl:=Option.some.inj H
 exact T.F5 Tryz.results276 (Rv z) Li ⟨z,z⟩
theorem B3J {h:PH} {first1:Int} {n2:Int} {pv2:Value} {so3:Int→Option Bool} (pr2:A1S h pv2 so3) {r_0:List Int} (H:B4a first1 n2 so3 = some r_0):∀ L,H5 Tryz.prog 120 [.int .i64 first1,.int .i64 n2,pv2] h (L) (fun v h' L'=>∃ cs0,L' = D8 3 1 v cs0::L∧A7 (VI .i64) h' cs0 r_0):=by
 intro L
 refine H5.enter Tryz.func120 z Tryz.ntmps120 z<|Sr<|Ag z<|Nt<|Sr<|Ag z<|Nt<|Sq<|Sr<|Mv z<|Ag z<|Nt ?_
 obtain ⟨q,x,y⟩:=N7 H
 refine T.O5 (α:=(List Int)×Value×(List (List Value))) [] z (fun ⟨i,k,m⟩=>[(7,k)]) (fun ⟨i,k,m⟩=>D8 3 1 k m::L) (fun ⟨i,k,m⟩ hh=>q = i∧A7 (VI .i64) hh m i) ?_ ?_
 ·have H:=x
  refine Bl<|T.A0n 3 1<|have A:A7 (VI .i64) h [] ([]:List Int):=A7.nil; T.N8 (α:=Nat×(List Int)×Int×Value×(List (List Value))) [0,1,2] z (fun ⟨f,c,a,d,b⟩=>[(7,d),(8,.int .i64 a)]) (fun ⟨f,c,a,d,b⟩=>D8 3 1 d b::L) (fun ⟨f,c,a,d,b⟩ hh=>iter (B3p first1 n2 so3) f (c,a) = some q∧A7 (VI .i64) hh b c) (fun ⟨f,c,a,d,b⟩=>f) (FUEL,([]:List Int),first1,(.slice none 0 0),[]) ⟨z,z,trivial⟩ z ⟨H,A⟩ ?_
  rintro ⟨f,c,a,d,b⟩ B Z ⟨C,n⟩
  obtain ⟨r,aa,rfl,H,o⟩:=I4 C
  refine T.norm [7,8,0,1,2] z<|T.fl ?_
  refine Sq<|Sr<|Mv z<|Mv z<|Mv z ?_
  obtain ⟨ab,D,H⟩:=bnd H
  refine Vv (V.L8 z z D)<|Vv (V.lt z z)<|Nt<|T.cH H z (fun H=>?_) (fun H=>?_)
  ·refine T.skip<|Th<|Sq<|Bl<|Sr<|Mv z<|Mv z ?_
   obtain ⟨ac,E,H⟩:=bnd H
   obtain ⟨ad,ae,af,G,I⟩:=A1S.call (pr2.u (g:=B)) E
   refine To (O.A1m z G z (I _) z fun ag s ai aj J=>?_)
   obtain ⟨rfl,K⟩:=J
   refine I9 _ K<|Nt<|T.cH H z (fun H=>?_) (fun H=>?_)
   ·refine Rg<|Mv z<|Mv z<|To (O.bs D6 Q4 z (e:=z) (hk:=z) (xs:=[.tmp 21]) (hv:=CO.eq (CO.cons z CO.nil)) (hw:=O7.of z) (hd:=z) fun ak=>have p:A7 (VI .i64) s [[.int .i64 a]] ([a]:List Int):=(A7.cons z A7.nil); ?_)
    obtain ⟨t,w,H⟩:=bnd H
    refine To (O.apX D6 D6 Q4 z z z (j:=1) z (Src.row (j:=0) z) (O7.of z) (A7.ones VI.plain p) n.u p w z fun M am an=>have N:A7 (VI .i64) s (b ++ [[.int .i64 a]]) t:=A7.ap n.u p w; I7 1 z<|T.drop<|Ag z<|Ni<|Bn<|Th<|Rg<|Mv z ?_)
    obtain ⟨P,S,H⟩:=bnd H
    refine Vv (V.L8 z z S)<|Ag z<|Nt<|T.again (r,t,P,M,(b ++ [[.int .i64 a]])) Li (Nat.lt_succ_self _) ⟨(G8 H o),N⟩ (A9.app ⟨z,z,trivial⟩ ⟨z,z,z,trivial⟩) z
   refine T.skip<|Bn<|Th<|Rg<|Mv z ?_
   obtain ⟨U,W,H⟩:=bnd H
   refine Vv (V.L8 z z W)<|Ag z<|Nt<|T.again (r,c,U,d,b) Li (Nat.lt_succ_self _) ⟨(G8 H o),n.u⟩ (A9.app ⟨z,z,trivial⟩ ⟨z,z,z,trivial⟩) z
  refine T.exit<|Te<|Te<|have H:=D7 H o; Be<|Th<|T.met (c,d,b) Li ⟨H,n⟩ (A9.app ⟨z,trivial⟩ trivial) z
 rintro ⟨i,k,m⟩ ao aq ⟨X,Y⟩
 have H:=J5 X y
 refine T.norm [7] z<|T.fl ?_
 refine Sr<|Mv z<|Ag z<|Nt<|T.ret ?_
 obtain rfl:=Option.some.inj H
 exact T.F5 Tryz.results120 (Rv z) Li ⟨_,z,Y⟩
theorem B1M {h:PH} {pc0:List Value} {p1:A8} (pr0:C9 h pc0 p1) {r_0:A8} (H:B1k p1 = some r_0):∀ L,H5 Tryz.prog 87 [.agg pc0.toArray] h (L) (fun v h' L'=>∃ v0_1 v0_3 v0_5 v0_7 v0_9,v = .agg #[v0_1,v0_3,v0_5,v0_7,v0_9]∧L' = L∧G9 E8 7 h' v0_1 r_0.H8∧G9 G7 9 h' v0_3 r_0.F3∧G9 I1 3 h' v0_5 r_0.J8∧G9 (VI .i64) 1 h' v0_7 r_0.K5∧G9 H9 6 h' v0_9 r_0.K9):=by
 intro L
 obtain ⟨b7,W,D,E,G,rfl,aB,aC,aD,aE,aG⟩:=pr0
 refine H5.enter Tryz.func87 z Tryz.ntmps87 z<|Sr<|To (O.box z z z fun I=>To (O.alloc A0l z z fun J=>Nt<|Sr<|Vv (V.fa K3 z)<|Vv (V.ldO (k:=0) M9 z (j:=1) z z) ?_))
 obtain ⟨X,aI,H⟩:=bnd H
 refine To (O.C8 z (A8I aB aI _) z fun c b8 b9 bh aJ=>?_)
 obtain ⟨aK,aM,Y⟩:=aJ
 refine I9 _ aM<|Vv (V.fa K3 rfl)<|T.M5 0 rfl fun aN aO=>To (O.st (vs:=[c]) (k:=0) M9 rfl rfl (j:=2) rfl aO (by (simp only [Sl.ones,aN,Bool.and_true,Bool.true_and]) <;> rfl) ?_)
 refine T.fl ?_
 refine Nt<|Sq<|Sr<|Vv (V.fa K3 z)<|Vv (V.ldO (k:=0) M9 z (j:=0) z z)<|Vv (V.A2E O0 z (j:=1) z Y.len)<|Mv z<|Nt ?_
 obtain ⟨Z,aP,aS⟩:=N7 H
 refine T.O5 (α:=(List D5)×(List (List Value))) [1,2] z (fun ⟨A,n⟩=>[]) (fun ⟨A,n⟩=>blk I (.cells [c,W,D,E,G].toArray 28)::blk J (.cells [.slice none 0 0,.slice none 0 0,.slice none 0 0,.slice none 0 0,.slice none 0 0].toArray 28)::D8 95 7 c n::L) (fun ⟨A,n⟩ hh=>Z = A∧A7 E8 hh n A) ?_ ?_
 ·have H:=aP
  refine Bl<|I7 1 z<|T.fl ?_
  refine I7 2 z<|T.fl ?_
  refine I7 2 z<|T.fl ?_
  refine T.N8 (α:=Nat×(List D5)×Int×(List (List Value))) [1,2,11] z (fun ⟨q,o,f,d⟩=>[(12,.int .i64 f)]) (fun ⟨q,o,f,d⟩=>blk I (.cells [c,W,D,E,G].toArray 28)::blk J (.cells [.slice none 0 0,.slice none 0 0,.slice none 0 0,.slice none 0 0,.slice none 0 0].toArray 28)::D8 95 7 c d::L) (fun ⟨q,o,f,d⟩ hh=>iter (B1j X) q (o,f) = some Z∧A7 E8 hh d o) (fun ⟨q,o,f,d⟩=>q) (FUEL,X,(0:Int),aK) ⟨z,trivial⟩ z ⟨H,Y⟩ ?_
  rintro ⟨q,o,f,d⟩ bl bv ⟨aU,r⟩
  obtain ⟨aV,bz,rfl,H,aa⟩:=I4 aU
  refine T.norm [12,1,2,11] z<|T.fl ?_
  refine Sr<|Vv (V.lt z z)<|Nt<|Sq<|T.cH H z (fun H=>?_) (fun H=>?_)
  ·refine T.skip<|Th<|Sq<|Bl<|Sr<|Mv z<|Ag z<|Nt<|I7 2 z<|T.fl ?_
   refine I7 1 z<|T.fl ?_
   refine T.O8 (t:=(.v 0 (.v 1 (.v 2 (.v 3 (.v 4 (.v 5 (.x 6 (.v 7 (.x 8 (.alt 9 (.g (.alt 10 (.v 11 (.alt 12 .done .no)) .no)) .no))))))))))) 12 2 1 rfl rfl I8 (by kernel_rfl) ?_
   refine Tv z (V.fa K3 z)<|Tv z (Val.XA fun _ _ _=>V.ldO (k:=0) M9 z (j:=0) z z)<|Tm z z<|Tv z (V.fa K3 z)<|Tv z (Val.XA fun _ _ _=>V.ldO (k:=0) M9 z (j:=0) z z)<|Tm z z ?_
   obtain ⟨ca,ab,H⟩:=bnd H
   obtain ⟨cb,aW,⟨cc,rfl,aX⟩⟩:=A7.get r ab
   refine T.tx z z (Val.XA fun _ _ _=>V.ixR O0 z z (j:=1) z (A7.bd r ab)) z Calm.i<|Tv z (V.fa A0P z)<|T.tx z z (Val.XA fun _ _ _=>V.C5s (k:=4) F4 z (j:=1) z aW z) z Calm.i ?_
   obtain ⟨aY,aZ,H⟩:=bnd H
   refine Tp z z (SX.two (XA.fr [0] Lr z) (XA.fr [1,1] Lr z)) (O.C8 z (A2f aX aZ _) z fun K cd ce cf a0=>?_) T.Q9
   obtain ⟨cg,a1,a2⟩:=a0
   refine I9 _ a1<|T.M6 Li ?_
   obtain ⟨b,ac,H⟩:=bnd H
   obtain ⟨ci,a3,⟨N,rfl,cj⟩⟩:=A7.get r ac
   refine Ts z z (SX.two (XA.fr [1] Lr z) (XA.fr [2,2] Lr z)) (V.ixR O0 z z (j:=2) z (A7.bd r ac)) z ?_ T.Q9
   refine Tv z (V.fa A0P z)<|T.K8 fun ad ck a4=>have P:=A7.slc a4 a2.u; ?_
   obtain ⟨ae,a5,H⟩:=bnd H
   refine Tp z z (SX.two (XA.fr [0] Li rfl) (XA.fr [1,1] Li rfl)) (O.C6g (k:=4) F4 rfl rfl (j:=1) rfl (G9.cells P) (by (simp only [Sl.ones,G9.one P,Bool.and_true,Bool.true_and]) <;> rfl) rfl a3 ?_) T.Q9
   have a6:A7 E8 ad (d.set f.toNat (over [.string b.H7,.int .u8 b.N9,.int .i64 b.fA,.int .i64 b.fB,N,.int .i64 b.fX,.int .i64 b.fY] [K] 4)) ae:=A7.set r.u (show E8 ad (over [.string b.H7,.int .u8 b.N9,.int .i64 b.fA,.int .i64 b.fB,N,.int .i64 b.fX,.int .i64 b.fY] [K] 4) (D5.mk b.H7 b.N9 b.fA b.fB aY b.fX b.fY) from ⟨K,z,P⟩) a5
   refine T.R5 (SX.one (XA.fr [1] Li z) z)<|Bn<|Th<|Rg ?_
   obtain ⟨a7,a8,H⟩:=bnd H
   refine Vv (V.L8 z z a8)<|Mv z<|Nt<|I7 2 z<|T.fl ?_
   refine I7 2 z<|T.fl ?_
   exact T.again (aV,ae,a7,(d.set f.toNat (over [.string b.H7,.int .u8 b.N9,.int .i64 b.fA,.int .i64 b.fB,N,.int .i64 b.fX,.int .i64 b.fY] [K] 4))) Li (Nat.lt_succ_self _) ⟨(G8 H aa),a6⟩ (A9.app ⟨z,trivial⟩ ⟨z,z,z,trivial⟩) z
  refine T.exit<|Te<|Te<|have H:=D7 H aa; Be<|Th<|T.met (o,d) Li ⟨H,r⟩ (A9.app trivial ⟨z,z,trivial⟩) z
 rintro ⟨A,n⟩ cm cn ⟨a9,ah⟩
 have H:=J5 a9 aS
 refine T.norm [1,2] z<|T.fl ?_
 refine Sr<|Vv (V.fa M3 z)<|Vv (V.ldO (k:=1) J3 z (j:=0) z z) ?_
 obtain ⟨af,al,H⟩:=bnd H
 refine To (O.C8 z (A8X aC.u al _) z fun s co cp cq av=>?_)
 obtain ⟨az,ba,ag⟩:=av
 refine I9 _ ba<|Vv (V.fa M3 rfl)<|T.M5 0 rfl fun bb bc=>To (O.st (vs:=[s]) (k:=1) J3 rfl rfl (j:=1) rfl bc (by (simp only [Sl.ones,bb,Bool.and_true,Bool.true_and]) <;> rfl) ?_)
 refine T.fl ?_
 refine Nt<|Sq<|Sr<|Vv (V.fa M3 z)<|Vv (V.ldO (k:=1) J3 z (j:=0) z z)<|Vv (V.A2E O9 z (j:=1) z ag.len)<|Mv z<|Nt ?_
 obtain ⟨ai,be,bf⟩:=N7 H
 refine T.O5 (α:=(List E5)×(List (List Value))) [1,2] z (fun ⟨B,C⟩=>[]) (fun ⟨B,C⟩=>blk I (.cells [c,s,D,E,G].toArray 28)::blk J (.cells [.slice none 0 0,.slice none 0 0,.slice none 0 0,.slice none 0 0,.slice none 0 0].toArray 28)::D8 95 7 c n::D8 39 9 s C::L) (fun ⟨B,C⟩ hh=>ai = B∧A7 G7 hh C B) ?_ ?_
 ·have H:=be
  refine Bl<|I7 1 z<|T.fl ?_
  refine I7 3 z<|T.fl ?_
  refine I7 3 z<|T.fl ?_
  refine I7 3 z<|T.fl ?_
  refine T.N8 (α:=Nat×(List E5)×Int×(List (List Value))) [1,2,34] z (fun ⟨w,p,m,e⟩=>[(35,.int .i64 m)]) (fun ⟨w,p,m,e⟩=>blk I (.cells [c,s,D,E,G].toArray 28)::blk J (.cells [.slice none 0 0,.slice none 0 0,.slice none 0 0,.slice none 0 0,.slice none 0 0].toArray 28)::D8 95 7 c n::D8 39 9 s e::L) (fun ⟨w,p,m,e⟩ hh=>iter (B2l af) w (p,m) = some ai∧A7 G7 hh e p) (fun ⟨w,p,m,e⟩=>w) (FUEL,af,(0:Int),az) ⟨z,trivial⟩ z ⟨H,ag⟩ ?_
  rintro ⟨w,p,m,e⟩ cr cs ⟨bg,y⟩
  obtain ⟨bi,ct,rfl,H,aj⟩:=I4 bg
  refine T.norm [35,1,2,34] z<|T.fl ?_
  refine Sr<|Vv (V.lt z z)<|Nt<|Sq<|T.cH H z (fun H=>?_) (fun H=>?_)
  ·refine T.skip<|Th<|Sq<|Bl<|Sr<|Mv z<|Ag z<|Nt<|I7 3 z<|T.fl ?_
   refine I7 1 z<|T.fl ?_
   refine T.O8 (t:=(.v 0 (.v 1 (.v 2 (.v 3 (.v 4 (.v 5 (.x 6 (.v 7 (.x 8 (.alt 9 (.g (.alt 10 (.v 11 (.alt 12 .done .no)) .no)) .no))))))))))) 12 2 1 rfl rfl I8 (by kernel_rfl) ?_
   refine Tv z (V.fa M3 z)<|Tv z (Val.XA fun _ _ _=>V.ldO (k:=1) J3 z (j:=0) z z)<|Tm z z<|Tv z (V.fa M3 z)<|Tv z (Val.XA fun _ _ _=>V.ldO (k:=1) J3 z (j:=0) z z)<|Tm z z ?_
   obtain ⟨cu,ak,H⟩:=bnd H
   obtain ⟨cw,bj,⟨cx,rfl,bk⟩⟩:=A7.get y ak
   refine T.tx z z (Val.XA fun _ _ _=>V.ixR O9 z z (j:=1) z (A7.bd y ak)) z Calm.i<|Tv z (V.fa V4 z)<|T.tx z z (Val.XA fun _ _ _=>V.C5s (k:=8) Z4 z (j:=1) z bj z) z Calm.i ?_
   obtain ⟨bm,bn,H⟩:=bnd H
   refine Tp z z (SX.two (XA.fr [0] Lr z) (XA.fr [1,1] Lr z)) (O.C8 z (A3a bk bn _) z fun M cy cA cB bo=>?_) T.Q9
   obtain ⟨cC,bp,bq⟩:=bo
   refine I9 _ bp<|T.M6 Li ?_
   obtain ⟨a,am,H⟩:=bnd H
   obtain ⟨cD,br,⟨S,rfl,cE⟩⟩:=A7.get y am
   refine Ts z z (SX.two (XA.fr [1] Lr z) (XA.fr [2,2] Lr z)) (V.ixR O9 z z (j:=2) z (A7.bd y am)) z ?_ T.Q9
   refine Tv z (V.fa V4 z)<|T.K8 fun an cG bs=>have U:=A7.slc bs bq.u; ?_
   obtain ⟨ao,bt,H⟩:=bnd H
   refine Tp z z (SX.two (XA.fr [0] Li rfl) (XA.fr [1,1] Li rfl)) (O.C6g (k:=8) Z4 rfl rfl (j:=1) rfl (G9.cells U) (by (simp only [Sl.ones,G9.one U,Bool.and_true,Bool.true_and]) <;> rfl) rfl br ?_) T.Q9
   have bu:A7 G7 an (e.set m.toNat (over [.string a.H7,.string a.Y0,.string a.Q5,.int .i64 a.Q6,.int .i64 a.U5,.string a.V8,.bool a.A0e,.bool a.Q3,S] [M] 8)) ao:=A7.set y.u (show G7 an (over [.string a.H7,.string a.Y0,.string a.Q5,.int .i64 a.Q6,.int .i64 a.U5,.string a.V8,.bool a.A0e,.bool a.Q3,S] [M] 8) (E5.mk a.H7 a.Y0 a.Q5 a.Q6 a.U5 a.V8 a.A0e a.Q3 bm) from ⟨M,z,U⟩) bt
   refine T.R5 (SX.one (XA.fr [1] Li z) z)<|Bn<|Th<|Rg ?_
   obtain ⟨bw,bx,H⟩:=bnd H
   refine Vv (V.L8 z z bx)<|Mv z<|Nt<|I7 3 z<|T.fl ?_
   refine I7 3 z<|T.fl ?_
   refine I7 3 z<|T.fl ?_
   exact T.again (bi,ao,bw,(e.set m.toNat (over [.string a.H7,.string a.Y0,.string a.Q5,.int .i64 a.Q6,.int .i64 a.U5,.string a.V8,.bool a.A0e,.bool a.Q3,S] [M] 8))) Li (Nat.lt_succ_self _) ⟨(G8 H aj),bu⟩ (A9.app ⟨z,trivial⟩ ⟨z,z,z,trivial⟩) z
  refine T.exit<|Te<|Te<|have H:=D7 H aj; Be<|Th<|T.met (p,e) Li ⟨H,y⟩ (A9.app trivial ⟨z,z,trivial⟩) z
 rintro ⟨B,C⟩ cI cJ ⟨bA,bB⟩
 have H:=J5 bA bf
 refine T.norm [1,2] z<|T.fl ?_
 refine Sq<|T.O8 (t:=(.v 0 (.x 1 (.v 3 (.x 4 (.v 6 (.x 7 (.alt 2 (.g (.v 9 (.alt 5 (.g (.alt 8 (.g (.alt 10 (.g (.v 11 (.alt 12 (.g (.v 13 (.alt 14 .done .no))) .no))) .no)) .no)) .no))) .no)))))))) 10 1 0 rfl rfl I8 (by kernel_rfl) ?_
 refine Tv z (V.fa Y3 z)<|T.tx z z (Val.XA fun _ _ _=>V.ldO (k:=2) Q0 z (j:=0) z z) z Calm.i<|Tv z (V.fa Y7 z)<|T.tx z z (Val.XA fun _ _ _=>V.ldO (k:=3) F4 z (j:=0) z z) z Calm.i<|Tv z (V.fa T9 z)<|T.tx z z (Val.XA fun _ _ _=>V.ldO (k:=4) Q8 z (j:=0) z z) z Calm.i ?_
 obtain ⟨cK,bC,H⟩:=bnd H
 refine Tp z z (SX.two (XA.fr [] Lr z) (XA.fr [0] Lr z)) (O.C8 z (B1a aD.u bC _) z fun ap cM cN cO bD=>?_) T.Q9
 obtain ⟨cP,bE,bG⟩:=bD
 refine I9 _ bE<|T.M6 Li<|Tv z (V.fa Y3 z) ?_
 obtain ⟨cS,bI,H⟩:=bnd H
 refine Tp z z (SX.two (XA.fr [] Lr z) (XA.fr [1] Lr z)) (O.C8 z (A2f aE.u bI _) z fun aq cU cV cW bJ=>?_) T.Q9
 obtain ⟨cX,bK,bM⟩:=bJ
 refine I9 _ bK<|T.M6 Li ?_
 obtain ⟨cY,bN,H⟩:=bnd H
 refine Tp z z (SX.two (XA.fr [] Lr z) (XA.fr [2] Lr z)) (O.C8 z (A9J aG.u bN _) z fun ar cZ c0 c1 bO=>?_) T.Q9
 obtain ⟨c2,bP,bS⟩:=bO
 refine I9 _ bP<|T.M6 Li<|T.M5 2 rfl fun bU bV=>Tp z z (SX.two (XA.fr [] Lr rfl) (XA.fr [3] Lr rfl)) (O.st (vs:=[ap]) (k:=2) Q0 rfl rfl (j:=3) rfl bV (by (simp only [Sl.ones,bU,Bool.and_true,Bool.true_and]) <;> rfl) ?_) T.Q9
 refine T.fl ?_
 refine T.M6 Lr<|Tv z (V.fa Y7 rfl)<|T.M5 2 rfl fun bW bX=>Tp z z (SX.one (XA.fr [] Lr rfl) rfl) (O.st (vs:=[aq]) (k:=3) F4 rfl rfl (j:=0) rfl bX (by (simp only [Sl.ones,bW,Bool.and_true,Bool.true_and]) <;> rfl) ?_) T.Q9
 refine T.fl ?_
 refine T.M6 Lr<|Tv z (V.fa T9 rfl)<|T.M5 1 rfl fun bY bZ=>Tp z z (SX.one (XA.fr [] Lr rfl) rfl) (O.st (vs:=[ar]) (k:=4) Q8 rfl rfl (j:=0) rfl bZ (by (simp only [Sl.ones,bY,Bool.and_true,Bool.true_and]) <;> rfl) ?_) T.Q9
 refine T.fl ?_
 refine T.R5 (SX.one (XA.fr [] Lr rfl) rfl)<|Th<|Sr<|Vv (V.C0D (j:=0) (by exact F9) rfl rfl) ?_
 refine I7 5 z<|T.fl ?_
 refine T.K8 fun c3 c4 b0=>have au:=A7.slc b0 ah.u; I7 5 z<|T.fl ?_
 refine T.K8 fun c5 c6 b1=>have aw:=A7.slc b1 bB.u; I7 3 z<|T.fl ?_
 refine T.K8 fun c7 c8 b2=>have ax:=A7.slc b2 bG.u; I7 2 z<|T.fl ?_
 refine T.K8 fun c9 ch b3=>have ay:=A7.slc b3 bM.u; I7 1 z<|T.fl ?_
 refine T.K8 fun cl cv b4=>have aA:=A7.slc b4 bS.u; To (O.stF (vs:=[c,s,ap,aq,ar]) F9 rfl rfl (j:=1) rfl rfl (by (simp only [Sl.ones,G9.one au,G9.one aw,G9.one ax,G9.one ay,G9.one aA,Bool.and_true,Bool.true_and]) <;> rfl) rfl ?_)
 refine T.freeze fun cz da b5=>have b6:=AtC.of b5; Nt<|T.ret<|T.drop ?_
 obtain rfl:=Option.some.inj H
 exact T.F5 Tryz.results87 (RVs.cons (RV.C1r z b6 F9) RVs.nil) Li ⟨_,_,_,_,_,z,z,au.u,aw.u,ax.u,ay.u,aA.u⟩
theorem C2a {h:PH} {pv0:Value} {v1:J6} (pr0:Pt P7 h pv0 v1) {pc1:List Value} {r2:G5} (pr1:H9 h pc1 r2) {r_0:Int} {r_1:Int} {r_2:Bool} (H:C1v v1 r2 = some (r_0,r_1,r_2)):∀ L,H5 Tryz.prog 278 [pv0,.agg pc1.toArray] h (L) (fun v h' L'=>v = .tuple #[.int .i64 r_0,.int .i64 r_1,.bool r_2]∧L' = L):=by
 intro L
 obtain rfl:=pr1
 refine H5.enter Tryz.func278 rfl Tryz.ntmps278 rfl<|Sr<|To (O.V3 rfl rfl rfl fun N w P i=>Ag z<|Ag z<|Ag z<|Nt<|Sq<|T.O8 (t:=(.v 0 (.v 1 (.v 2 (.v 3 (.v 4 (.v 5 (.v 6 (.v 7 (.v 8 (.v 10 (.v 11 (.v 12 (.v 13 (.v 14 (.v 15 (.v 16 (.v 17 (.v 18 (.alt 9 (.alt 19 (.alt 20 (.alt 21 .done .no) .no) .no) .no)))))))))))))))))))) 23 0 0 rfl rfl I8 (by kernel_rfl) ?_)
 refine Tm z z<|have x:=pr0; ?_
 obtain ⟨S,_,rfl,a,⟨U,W,X,rfl,y,b,Y⟩⟩:=x
 refine Tv z (V.U9 z)<|Tv z (V.fa R9 z)<|Tv z (V.I6 (k:=0) R7 z a.u z)<|have A:=y; ?_
 obtain ⟨Z,_,rfl,j,⟨c,d,e,f,g,aa,ab,ac,ad,ae,af,ag,ai,aj,rfl,m,n,o,p,q,ak,am,an,ao,ap,aq,ar,au,aw⟩⟩:=A
 refine Tv z (V.U9 z)<|Tv z (V.fa X6 z)<|Tv z (V.B9v (k:=0) A6p z j.u (Nat.le_of_ble_eq_true z))<|Tv z (V.fa Y8 z)<|Tv z (V.I6 (k:=2) F6 z i z)<|Tm z z<|Tv z (V.U9 z)<|Tv z (V.fa R9 z)<|Tv z (V.I6 (k:=0) R7 z a.u z)<|Tv z (V.U9 z)<|Tv z (V.fa X6 z)<|Tv z (V.B9v (k:=0) A6p z j.u (Nat.le_of_ble_eq_true z))<|Tv z (V.fa A0C z)<|Tv z (V.I6 (k:=3) F6 z i z) ?_
 obtain ⟨ax,B,H⟩:=bnd H
 refine Tp z z (SX.two (XA.fr [] Lr z) (XA.fr [] Lr z)) (O.C8 z (A2p (show C9 w [c,d,e,f,g] v1.O6.A0J from ⟨c,d,e,f,g,z,m.u,n.u,o.u,p.u,q.u⟩) B _) z fun ay C aA aB D=>?_) T.Q9
 obtain ⟨rfl,E⟩:=D
 refine I9 _ E ?_
 obtain ⟨aC,G,H⟩:=bnd H
 refine Tp z z (SX.two (XA.fr [] Li z) (XA.fr [] Li z)) (O.C8 z (A2p (show C9 C [c,d,e,f,g] v1.O6.A0J from ⟨c,d,e,f,g,z,m.u,n.u,o.u,p.u,q.u⟩) G _) z fun aD aE aG aI I=>?_) T.Q9
 obtain ⟨rfl,J⟩:=I
 refine I9 _ J<|Ts z z (SX.two (XA.fr [] Li z) (XA.fr [] Li z)) (V.asg z) z ?_ T.Q9
 refine Ts z z (SX.two (XA.fr [] Li z) (XA.fr [] Li z)) (V.asg z) z ?_ T.Q9
 refine T.R5 (SX.two (XA.fr [] Li rfl) (XA.fr [] Li rfl))<|Th<|Sq<|T.O8 (t:=(.v 0 (.v 1 (.v 2 (.v 3 (.v 4 (.v 5 (.v 6 (.v 7 (.v 8 (.v 9 (.v 10 (.v 11 (.v 12 (.v 13 (.v 14 (.v 15 (.v 16 (.v 17 (.v 18 (.v 19 (.alt 20 (.alt 21 (.alt 22 .done .no) .no) .no)))))))))))))))))))))) 24 0 0 rfl rfl I8 (by kernel_rfl) ?_
 refine Tm z z<|Tm z z<|Tm z z<|Tv z (V.U9 z)<|Tv z (V.fa A1I z)<|Tv z (V.I6 (k:=1) F4 z a.u z)<|Tm z z ?_
 obtain ⟨aJ,r,H⟩:=bnd H
 obtain ⟨aK,K,rfl⟩:=G9.at b r
 refine Tv z (V.ix D6 z z b (H6 r))<|Tv z (V.ld0 D9 z K.u z)<|Tv z (V.ge z z)<|Tm z z<|T.bH 39 H z (fun H=>?_) (fun H=>?_)
 ·refine Tm z z<|Tv z (V.U9 z)<|Tv z (V.fa A1I z)<|Tv z (V.I6 (k:=1) F4 z a.u z)<|Tm z z ?_
  obtain ⟨aM,s,H⟩:=bnd H
  obtain ⟨aN,M,rfl⟩:=G9.at b s
  refine Tv z (V.ix D6 z z b (H6 s))<|Tv z (V.ld0 D9 z M.u z)<|Tv z (V.ge z z)<|Tv z (V.M0 z z)<|Ts z z (SX.two (XA.fr [] Lr z) (XA.fr [] Lr z)) (V.asg z) z ?_ T.Q9
  refine Ts z z (SX.two (XA.fr [] Lr z) (XA.fr [] Lr z)) (V.asg z) z ?_ T.Q9
  refine Ts z z (SX.two (XA.fr [] Lr z) (XA.fr [] Lr z)) (V.asg z) z ?_ T.Q9
  refine T.R5 (SX.two (XA.fr [] Lr z) (XA.fr [] Lr z))<|Th<|T.ret ?_
  obtain ⟨rfl,rfl,rfl⟩:=B2G H
  exact T.F5 Tryz.results278 (RVs.cons (RV.tmp z) (RVs.cons (RV.tmp z) (Rv z))) Li ⟨z,z⟩
 refine Tk z<|Tk z<|Tk z<|Tk z<|Tk z<|Tk z<|Tk z<|Tk z<|Tv z (V.J9 z z)<|Ts z z (SX.two (XA.fr [] Lr z) (XA.fr [] Lr z)) (V.asg z) z ?_ T.Q9
 refine Ts z z (SX.two (XA.fr [] Lr z) (XA.fr [] Lr z)) (V.asg z) z ?_ T.Q9
 refine Ts z z (SX.two (XA.fr [] Lr z) (XA.fr [] Lr z)) (V.asg z) z ?_ T.Q9
 refine T.R5 (SX.two (XA.fr [] Lr z) (XA.fr [] Lr z))<|Th<|T.ret ?_
 obtain ⟨rfl,rfl,rfl⟩:=B2G H
 exact T.F5 Tryz.results278 (RVs.cons (RV.tmp z) (RVs.cons (RV.tmp z) (Rv z))) Li ⟨z,z⟩
theorem C3k {h:PH} {pv0:Value} {v1:J6} (pr0:Pt P7 h pv0 v1) {a2:Int} {b3:Int} {r_0:Int} {r_1:Bool} (H:C2P v1 a2 b3 = some (r_0,r_1)):∀ L,H5 Tryz.prog 279 [pv0,.int .i64 a2,.int .i64 b3] h (L) (fun v h' L'=>v = .tuple #[.int .i64 r_0,.bool r_1]∧L' = L):=by
 intro L
 refine H5.enter Tryz.func279 rfl Tryz.ntmps279 rfl<|Sr<|Ag z<|Ag z<|Nt<|Sq<|T.O8 (t:=(.v 0 (.v 1 (.v 2 (.v 3 (.v 4 (.v 5 (.v 6 (.v 7 (.v 8 (.v 9 (.v 10 (.v 11 (.v 12 (.v 13 (.v 14 (.v 15 (.v 16 (.v 17 (.v 18 (.v 19 (.v 20 (.v 21 (.v 22 (.v 23 (.v 24 (.v 25 (.v 26 (.alt 27 (.alt 28 .done .no) .no))))))))))))))))))))))))))))) 30 0 0 rfl rfl I8 (by kernel_rfl) ?_
 refine Tm z z<|have g:=pr0; ?_
 obtain ⟨u,_,rfl,b,⟨w,x,y,rfl,i,a,A⟩⟩:=g
 refine Tv z (V.U9 z)<|Tv z (V.fa R9 z)<|Tv z (V.I6 (k:=0) R7 z b z)<|have j:=i; ?_
 obtain ⟨B,_,rfl,m,⟨C,D,E,G,I,J,K,M,N,O,P,S,U,W,rfl,X,Y,Z,aa,ab,ac,ad,ae,af,ag,ai,c,aj,ak⟩⟩:=j
 refine Tv z (V.U9 z)<|Tv z (V.fa A9p z)<|Tv z (V.I6 (k:=11) B4s z m z)<|Tm z z<|Tv z (V.U9 z)<|Tv z (V.fa A1I z)<|Tv z (V.I6 (k:=1) F4 z b z)<|Tm z z ?_
 obtain ⟨am,d,H⟩:=bnd H
 obtain ⟨an,n,rfl⟩:=G9.at a d
 refine Tv z (V.ix D6 z z a (H6 d))<|Tv z (V.ld0 D9 z n z) ?_
 obtain ⟨ao,e,H⟩:=bnd H
 obtain ⟨ap,o,⟨aq,rfl,p⟩⟩:=G9.at c e
 refine Tv z (V.ix A9y z z c (H6 e))<|Tv z (V.ld0 C3R z o z)<|Tm z z<|Tv z (V.U9 z)<|Tv z (V.fa A1I z)<|Tv z (V.I6 (k:=1) F4 z b z)<|Tm z z ?_
 obtain ⟨ar,f,H⟩:=bnd H
 obtain ⟨au,q,rfl⟩:=G9.at a f
 refine Tv z (V.ix D6 z z a (H6 f))<|Tv z (V.ld0 D9 z q z) ?_
 obtain ⟨⟨aw,ax⟩,r,H⟩:=bnd H
 obtain ⟨_,s,rfl⟩:=Mp.look (zc:=[.int .i64 (0:Int)]) (agg:=false) Tryz.underlying192 (A0G.int Tryz.underlying3) Q4 (show (VI .i64) h [.int .i64 (0:Int)] (0:Int) from rfl) p r
 refine Tv z (V.lkF z z s)<|Tm z z<|Tv z (V.ext z z)<|Tv z (V.ext z z)<|Ts z z (SX.two (XA.fr [] Lr z) (XA.fr [] Lr z)) (V.asg z) z ?_ T.Q9
 refine Ts z z (SX.two (XA.fr [] Lr z) (XA.fr [] Lr z)) (V.asg z) z ?_ T.Q9
 refine T.R5 (SX.two (XA.fr [] Lr z) (XA.fr [] Lr z))<|Th<|Sq<|T.norm [8,9] z<|Rg<|Mv z<|Mv z<|Ag z<|Ag z<|Nt<|T.ret ?_
 obtain ⟨rfl,rfl⟩:=inj2 H
 exact T.F5 Tryz.results279 (RVs.cons (RV.tmp z) (Rv z)) Lr ⟨z,z⟩
theorem C0E {h:PH} {σ:Type} {R:σ→PH→List E9→Prop} {pv0:Value} {v1:J6} (pr0:Pt P7 h pv0 v1) {pc1:List Value} {r2:G5} (pr1:H9 h pc1 r2) {pv2:Value} {f3:σ→Int→(List Int)→Option σ} (pr2:A1p R h pv2 f3) {s0:σ} {La:List E9} (hRa:R s0 h La) {q_s:σ} (H:B8T v1 r2 f3 s0 = some q_s):∀ As L,H5 Tryz.prog 179 [pv0,.agg pc1.toArray,pv2] h ((As ++ (La ++ L))) (fun v h' L'=>∃ La',v = .tuple #[]∧L' = (As ++ (La' ++ L))∧R q_s h' La'):=by
 intro As L
 obtain rfl:=pr1
 refine H5.enter Tryz.func179 rfl Tryz.ntmps179 rfl<|Sr<|To (O.V3 rfl rfl rfl fun aq x g f=>Nt<|Sr<|Mv z<|Vv (V.Z9 rfl f (by exact A0k)) ?_)
 obtain ⟨⟨i,j,ar⟩,y,H⟩:=bnd H
 refine To (O.C8 z (C2a pr0.u (show H9 x [.int .u8 r2.J4,.int .i64 r2.Y6,.string r2.fA,.string r2.fB,.string r2.V7,.int .i64 r2.fN] r2 from z) y _) z fun au aw ax m A=>?_)
 obtain ⟨rfl,B⟩:=A
 refine I9 _ B<|Mv z<|Vv (V.ext z z)<|Vv (V.ext z z)<|Vv (V.ext z z)<|Ag z<|Ag z<|Ag z<|Nt<|Sq<|Sq ?_
 obtain ⟨C,D,E⟩:=N7 H
 refine T.O5 (α:=Bool) [0,2,4,6,7] z (fun a=>[(54,.bool a)]) (fun a=>(As ++ (La ++ L))) (fun a hh=>C = a) ?_ ?_
 ·have H:=D
  refine T.O8 (t:=(.v 0 (.v 1 (.v 2 (.v 3 (.v 4 (.v 5 (.v 6 (.v 7 (.v 8 (.v 9 (.v 10 (.v 11 (.v 12 (.v 13 (.v 14 (.v 15 (.v 16 (.v 17 (.v 18 (.v 19 (.v 20 (.v 21 (.v 22 (.v 23 (.v 24 (.v 25 (.v 26 (.v 27 (.v 28 (.v 29 (.v 30 (.v 31 (.v 32 (.v 33 (.v 34 (.v 35 (.v 36 .done)))))))))))))))))))))))))))))))))))))) 38 0 0 rfl rfl I8 (by kernel_rfl) ?_
  refine Tm z z<|Tv z (V.not z)<|Tm z z<|T.bH 20 H z (fun H=>?_) (fun H=>?_)
  ·refine Tk z<|Tk z<|Tk z<|Tk z<|Tk z<|Tk z<|Tk z<|Tk z<|Tk z<|Tk z<|Tk z<|Tk z<|Tk z<|Tk z<|Tk z<|Tk z<|Tk z<|Tk z<|Tk z<|Tk z<|Tk z<|Tk z<|Tk z<|Tk z<|Tk z<|Tk z<|Tk z<|Tk z<|Tk z<|Tk z<|Tk z<|Tk z<|Tk z<|Tv z (V.M0 z z)<|T.R5 (SX.two (XA.fr [] Lr z) (XA.fr [] Lr z))<|Th<|T.met true Lr (K4 H) (A9.app ⟨z,trivial⟩ ⟨z,z,z,z,z,trivial⟩) z
  refine Tm z z<|have G:=pr0; ?_
  obtain ⟨ay,_,rfl,b,⟨aA,aB,aC,rfl,I,c,aD⟩⟩:=G
  refine Tv z (V.U9 z)<|Tv z (V.fa R9 z)<|Tv z (V.I6 (k:=0) R7 z b.u z)<|have J:=I; ?_
  obtain ⟨aE,_,rfl,n,⟨aG,aI,aJ,aK,aM,aN,aO,aP,aS,aU,aV,aW,aX,aY,rfl,aZ,a0,a1,a2,a3,a4,d,a5,a6,a7,a8,a9,ah,al⟩⟩:=J
  refine Tv z (V.U9 z)<|Tv z (V.fa A0Z z)<|Tv z (V.I6 (k:=6) F4 z n.u z)<|Tm z z<|Tv z (V.U9 z)<|Tv z (V.fa A1I z)<|Tv z (V.I6 (k:=1) F4 z b.u z)<|Tm z z ?_
  obtain ⟨av,o,H⟩:=bnd H
  obtain ⟨az,K,rfl⟩:=G9.at c o
  refine Tv z (V.ix D6 z z c (H6 o))<|Tv z (V.ld0 D9 z K.u z) ?_
  obtain ⟨M,p,H⟩:=bnd H
  obtain ⟨ba,N,rfl⟩:=G9.at d p
  refine Tv z (V.ix D6 z z d (H6 p))<|Tv z (V.ld0 D9 z N.u z)<|Tm z z<|Tv z (V.U9 z)<|Tv z (V.fa R9 z)<|Tv z (V.I6 (k:=0) R7 z b.u z)<|Tv z (V.U9 z)<|Tv z (V.fa A0Z z)<|Tv z (V.I6 (k:=6) F4 z n.u z)<|Tm z z<|Tv z (V.U9 z)<|Tv z (V.fa A1I z)<|Tv z (V.I6 (k:=1) F4 z b.u z)<|Tm z z ?_
  obtain ⟨bb,q,H⟩:=bnd H
  obtain ⟨bc,P,rfl⟩:=G9.at c q
  refine Tv z (V.ix D6 z z c (H6 q))<|Tv z (V.ld0 D9 z P.u z) ?_
  obtain ⟨S,r,H⟩:=bnd H
  obtain ⟨bd,U,rfl⟩:=G9.at d r
  refine Tv z (V.ix D6 z z d (H6 r))<|Tv z (V.ld0 D9 z U.u z)<|Tv z (V.ne z z)<|Tv z (V.J9 z z)<|T.R5 (SX.two (XA.fr [] Lr z) (XA.fr [] Lr z))<|Th<|T.met (!decide (M = S)) Lr (K4 H) (A9.app ⟨z,trivial⟩ ⟨z,z,z,z,z,trivial⟩) z
 rintro a be s W
 have H:=J5 W E
 refine T.norm [54,0,2,4,6,7] z<|I9 ((As ++ (La ++ L))) z<|T.cH H z (fun H=>?_) (fun H=>?_)
 ·refine T.ret<|Tr<|have X:=((g.trans m).trans s); have Y:=pr2.2.1 _ _ _ _ X hRa; ?_
  obtain rfl:=Option.some.inj H
  exact T.C3J Tryz.results179 Li ⟨La,z,z,Y⟩
 refine T.skip<|Th<|Sr<|Mv z<|Mv z<|Mv z ?_
 obtain ⟨⟨bf,bg⟩,Z,H⟩:=bnd H
 refine To (O.C8 z (C3k pr0.u Z _) z fun bi aa bj ab ac=>?_)
 obtain ⟨rfl,ad⟩:=ac
 refine I9 _ ad<|Mv z<|Vv (V.ext z z)<|Vv (V.ext z z)<|Ag z<|Ag z<|Nt<|Sr<|Vv (V.fa O4 z)<|Vv (V.I6 (k:=5) D9 z f.u z)<|Vv (V.eq z z)<|Mv z<|T.bH 65 H z (fun H=>?_) (fun H=>?_)
 ·exact dead H
 refine Mv z<|Mv z<|T.bH 67 H z (fun H=>?_) (fun H=>?_)
 ·refine Mv z<|Vv (V.fa O4 z)<|Vv (V.I6 (k:=5) D9 z f.u z)<|Vv (V.lt z z)<|Vv (V.M0 z z)<|Vv (V.J9 z z)<|Nt<|T.cH H z (fun H=>?_) (fun H=>?_)
  ·refine Rg<|Mv z<|Mv z<|Mv z<|To (O.bs D6 Q4 z (e:=z) (hk:=z) (xs:=[.tmp 75,.tmp 76]) (hv:=CO.eq (CO.cons z (CO.cons z CO.nil))) (hw:=O7.of z) (hd:=z) fun bk=>have ae:A7 (VI .i64) aa [[.int .i64 i],[.int .i64 j]] ([i,j]:List Int):=(A7.cons z (A7.cons z A7.nil)); T.K8 fun bm af ag=>have ai:=A7.slc ag ae.u; ?_)
   obtain ⟨bn,aj,H⟩:=bnd H
   have ak:=((((g.trans m).trans s).trans ab).trans af)
   have am:=pr2.2.1 _ _ _ _ ak hRa
   refine To (O.C4x z z (A1p.call pr2.u ai am aj As _) z fun bo bp bq br an=>?_)
   obtain ⟨w,rfl,ao,ap⟩:=an
   refine I9 ((As ++ (w ++ L))) ao<|Ni ?_
   obtain rfl:=Option.some.inj H
   exact T.B2D Tryz.results179 Li ⟨w,z,z,ap⟩
  exact dead H
 exact dead H
theorem B4d {h:PH} {σ:Type} {R:σ→PH→List E9→Prop} {pv0:Value} {v1:J6} (pr0:Pt P7 h pv0 v1) {pc1:List Value} {r2:G5} (pr1:H9 h pc1 r2) {pv2:Value} {f3:σ→Int→(List Int)→Option σ} (pr2:A1p R h pv2 f3) {s0:σ} {La:List E9} (hRa:R s0 h La) {q_s:σ} (H:B0k v1 r2 f3 s0 = some q_s):∀ As L,H5 Tryz.prog 180 [pv0,.agg pc1.toArray,pv2] h ((As ++ (La ++ L))) (fun v h' L'=>∃ La',v = .tuple #[]∧L' = (As ++ (La' ++ L))∧R q_s h' La'):=by
 intro As L
 exact dead H
theorem B4y {h:PH} {σ:Type} {R:σ→PH→List E9→Prop} {pv0:Value} {v1:J6} (pr0:Pt P7 h pv0 v1) {pc1:List Value} {r2:G5} (pr1:H9 h pc1 r2) {pv2:Value} {f3:σ→Int→(List Int)→Option σ} (pr2:A1p R h pv2 f3) {s0:σ} {La:List E9} (hRa:R s0 h La) {q_s:σ} (H:B0i v1 r2 f3 s0 = some q_s):∀ As L,H5 Tryz.prog 181 [pv0,.agg pc1.toArray,pv2] h ((As ++ (La ++ L))) (fun v h' L'=>∃ La',v = .tuple #[]∧L' = (As ++ (La' ++ L))∧R q_s h' La'):=by
 intro As L
 exact dead H
theorem B7S {h:PH} {σ:Type} {R:σ→PH→List E9→Prop} {pv0:Value} {v1:J6} (pr0:Pt P7 h pv0 v1) {pc1:List Value} {r2:G5} (pr1:H9 h pc1 r2) {pv2:Value} {f3:σ→Int→(List Int)→Option σ} (pr2:A1p R h pv2 f3) {s0:σ} {La:List E9} (hRa:R s0 h La) {q_s:σ} (H:B6J v1 r2 f3 s0 = some q_s):∀ As L,H5 Tryz.prog 182 [pv0,.agg pc1.toArray,pv2] h ((As ++ (La ++ L))) (fun v h' L'=>∃ La',v = .tuple #[]∧L' = (As ++ (La' ++ L))∧R q_s h' La'):=by
 intro As L
 exact dead H
theorem B5N {h:PH} {σ:Type} {R:σ→PH→List E9→Prop} {pv0:Value} {v1:J6} (pr0:Pt P7 h pv0 v1) {pc1:List Value} {r2:G5} (pr1:H9 h pc1 r2) {pv2:Value} {f3:σ→Int→(List Int)→Option σ} (pr2:A1p R h pv2 f3) {s0:σ} {La:List E9} (hRa:R s0 h La) {q_s:σ} (H:B3N v1 r2 f3 s0 = some q_s):∀ As L,H5 Tryz.prog 183 [pv0,.agg pc1.toArray,pv2] h ((As ++ (La ++ L))) (fun v h' L'=>∃ La',v = .tuple #[]∧L' = (As ++ (La' ++ L))∧R q_s h' La'):=by
 intro As L
 exact dead H
theorem C3P {h:PH} {σ:Type} {R:σ→PH→List E9→Prop} {pv0:Value} {v1:J6} (pr0:Pt P7 h pv0 v1) {pc1:List Value} {r2:G5} (pr1:H9 h pc1 r2) {pv2:Value} {f3:σ→Int→(List Int)→Option σ} (pr2:A1p R h pv2 f3) {s0:σ} {La:List E9} (hRa:R s0 h La) {q_s:σ} (H:C4o v1 r2 f3 s0 = some q_s):∀ As L,H5 Tryz.prog 184 [pv0,.agg pc1.toArray,pv2] h ((As ++ (La ++ L))) (fun v h' L'=>∃ La',v = .tuple #[]∧L' = (As ++ (La' ++ L))∧R q_s h' La'):=by
 intro As L
 exact dead H
theorem C1B {h:PH} {σ:Type} {R:σ→PH→List E9→Prop} {pv0:Value} {v1:J6} (pr0:Pt P7 h pv0 v1) {pc1:List Value} {r2:G5} (pr1:H9 h pc1 r2) {pv2:Value} {f3:σ→Int→(List Int)→Option σ} (pr2:A1p R h pv2 f3) {s0:σ} {La:List E9} (hRa:R s0 h La) {q_s:σ} (H:C0V v1 r2 f3 s0 = some q_s):∀ As L,H5 Tryz.prog 185 [pv0,.agg pc1.toArray,pv2] h ((As ++ (La ++ L))) (fun v h' L'=>∃ La',v = .tuple #[]∧L' = (As ++ (La' ++ L))∧R q_s h' La'):=by
 intro As L
 obtain rfl:=pr1
 refine H5.enter Tryz.func185 rfl Tryz.ntmps185 rfl<|Sr<|To (O.V3 rfl rfl rfl fun a2 P i n=>Nt<|Sq<|T.O8 (t:=(.v 0 (.v 1 (.v 2 (.v 3 (.v 4 (.v 5 (.v 6 (.v 7 (.v 8 (.alt 9 (.alt 10 .done .no) .no))))))))))) 12 0 0 rfl rfl I8 (by kernel_rfl) ?_)
 refine Tm z z<|have S:=pr0; ?_
 obtain ⟨a3,_,rfl,b,⟨a4,a5,a6,rfl,U,r,a7⟩⟩:=S
 refine Tv z (V.U9 z)<|Tv z (V.fa R9 z)<|Tv z (V.I6 (k:=0) R7 z b.u z)<|have W:=U; ?_
 obtain ⟨a8,_,rfl,f,⟨s,w,x,y,A,a9,ah,al,av,az,ba,bb,bc,bd,rfl,o,X,Y,Z,aa,be,c,bf,bg,bi,bj,bk,bm,bn⟩⟩:=W
 refine Tv z (V.U9 z)<|Tv z (V.fa X6 z)<|Tv z (V.B9v (k:=0) A6p z f.u (Nat.le_of_ble_eq_true z))<|Tv z (V.fa Y8 z)<|Tv z (V.I6 (k:=2) F6 z n z) ?_
 obtain ⟨j,ab,H⟩:=bnd H
 refine Tp z z (SX.two (XA.fr [] Lr z) (XA.fr [] Lr z)) (O.C8 z (A2p (show C9 P [s,w,x,y,A] v1.O6.A0J from ⟨s,w,x,y,A,z,o.u,X.u,Y.u,Z.u,aa.u⟩) ab _) z fun bo bp bq m ac=>?_) T.Q9
 obtain ⟨rfl,ad⟩:=ac
 refine I9 _ ad<|Ts z z (SX.two (XA.fr [] Li z) (XA.fr [] Li z)) (V.asg z) z ?_ T.Q9
 refine T.R5 (SX.two (XA.fr [] Li z) (XA.fr [] Li z))<|Th<|Sr<|Mv z<|Vv (V.U9 z)<|Vv (V.fa A1I z)<|Vv (V.I6 (k:=1) F4 z b.u z)<|Mv z ?_
 obtain ⟨B,C,H⟩:=bnd H
 obtain ⟨br,ae,rfl⟩:=G9.at r C
 refine Vv (V.ix D6 z z r (H6 C))<|Vv (V.ld0 D9 z ae.u z)<|Ag z<|Nt<|Sq<|Sr<|Mv z<|Vv (V.lt z z)<|Nt<|T.cH H z (fun H=>?_) (fun H=>?_)
 ·refine T.ret<|Tr<|have af:=(i.trans m); have ag:=pr2.2.1 _ _ _ _ af hRa; ?_
  obtain rfl:=Option.some.inj H
  exact T.C3J Tryz.results185 Li ⟨La,z,z,ag⟩
 refine T.skip<|Th<|Sr<|Mv z<|Ag z<|Nt<|Sq ?_
 obtain ⟨D,ai,aj⟩:=N7 H
 refine T.O5 (α:=Int) [0,2,4,6,7] z (fun g=>[(8,.int .i64 g)]) (fun g=>(As ++ (La ++ L))) (fun g hh=>D = g) ?_ ?_
 ·have H:=ai
  refine Bl<|T.N8 (α:=Nat×Int) [0,2,4,6,7] z (fun ⟨d,a⟩=>[(8,.int .i64 a)]) (fun ⟨d,a⟩=>(As ++ (La ++ L))) (fun ⟨d,a⟩ hh=>iter (B5a v1 B) d a = some D) (fun ⟨d,a⟩=>d) (FUEL,B) ⟨z,trivial⟩ z H ?_
  rintro ⟨d,a⟩ bt bu ak
  obtain ⟨am,bw,rfl,H,p⟩:=I4 ak
  refine T.norm [8,0,2,4,6,7] rfl<|I9 ((As ++ (La ++ L))) rfl<|Sq<|Sq<|T.O8 (t:=(.v 0 (.v 1 (.v 2 (.v 3 (.v 4 (.v 5 (.v 6 (.v 7 (.v 8 (.v 9 (.v 10 (.v 11 (.v 12 (.v 13 (.v 14 (.v 15 (.v 16 (.v 17 (.v 18 (.v 19 (.v 20 (.v 21 (.v 22 (.v 23 (.v 24 (.v 25 .done))))))))))))))))))))))))))) 27 0 0 rfl rfl I8 (by kernel_rfl) ?_
  refine Tm z z<|Tv z (V.gt z z)<|Tm z z<|T.bH 31 H z (fun H=>?_) (fun H=>?_)
  ·refine Tm z z<|Tv z (V.U9 z)<|Tv z (V.fa R9 z)<|Tv z (V.I6 (k:=0) R7 z b.u z)<|Tv z (V.U9 z)<|Tv z (V.fa A0Z z)<|Tv z (V.I6 (k:=6) F4 z f.u z)<|Tm z z ?_
   obtain ⟨bx,an,H⟩:=bnd H
   refine Tv z (V.A0M z z an) ?_
   obtain ⟨bA,E,H⟩:=bnd H
   obtain ⟨bB,ao,rfl⟩:=G9.at c E
   refine Tv z (V.ix D6 z z c (H6 E))<|Tv z (V.ld0 D9 z ao.u z)<|Tm z z<|Tv z (V.U9 z)<|Tv z (V.fa R9 z)<|Tv z (V.I6 (k:=0) R7 z b.u z)<|Tv z (V.U9 z)<|Tv z (V.fa A0Z z)<|Tv z (V.I6 (k:=6) F4 z f.u z)<|Tm z z ?_
   obtain ⟨bC,G,H⟩:=bnd H
   obtain ⟨bD,ap,rfl⟩:=G9.at c G
   refine Tv z (V.ix D6 z z c (H6 G))<|Tv z (V.ld0 D9 z ap.u z)<|Tv z (V.eq z z)<|Tv z (V.M0 z z)<|T.R5 (SX.two (XA.fr [] Lr z) (XA.fr [] Lr z))<|Th<|T.cH H z (fun H=>?_) (fun H=>?_)
   ·refine T.skip<|Th<|Bl<|Rg<|Mv z ?_
    obtain ⟨aq,ar,H⟩:=bnd H
    refine Vv (V.A0M z z ar)<|Ag z<|Ni<|Bn<|Th<|T.again (am,aq) Li (Nat.lt_succ_self _) (G8 H p) (A9.app ⟨z,trivial⟩ ⟨z,z,z,z,z,trivial⟩) z
   refine T.exit<|Te<|Te<|have H:=D7 H p; Be<|Th<|T.met a Li H (A9.app ⟨z,trivial⟩ ⟨z,z,z,z,z,trivial⟩) z
  refine Tk z<|Tk z<|Tk z<|Tk z<|Tk z<|Tk z<|Tk z<|Tk z<|Tk z<|Tk z<|Tk z<|Tk z<|Tk z<|Tk z<|Tk z<|Tk z<|Tk z<|Tk z<|Tk z<|Tk z<|Tk z<|Tk z<|Tv z (V.J9 z z)<|T.R5 (SX.two (XA.fr [] Lr z) (XA.fr [] Lr z))<|Th<|Cf z<|T.exit<|Te<|Te<|have H:=D7 H p; Be<|Th<|T.met a Li H (A9.app ⟨z,trivial⟩ ⟨z,z,z,z,z,trivial⟩) z
 rintro g I q au
 have H:=J5 au aj
 refine T.norm [8,0,2,4,6,7] rfl<|I9 ((As ++ (La ++ L))) rfl<|Sq<|T.O8 (t:=(.v 0 (.v 1 (.v 2 (.v 3 (.v 4 (.v 5 (.v 6 (.v 7 (.v 8 (.v 9 (.v 10 (.v 11 (.v 12 (.v 13 (.v 14 (.v 15 (.v 16 (.v 17 (.v 18 (.v 19 (.v 20 (.v 21 (.v 22 (.v 23 (.v 24 (.v 25 (.v 26 (.v 27 (.v 28 (.v 29 (.v 30 (.v 31 .done))))))))))))))))))))))))))))))))) 33 0 0 rfl rfl I8 (by kernel_rfl) ?_
 refine Tm z z<|Tv z (V.U9 z)<|Tv z (V.fa R9 z)<|Tv z (V.I6 (k:=0) R7 z b.u z)<|Tv z (V.U9 z)<|Tv z (V.fa X6 z)<|Tv z (V.fa C1S z)<|Tv z (V.I6 (k:=0) M9 z f.u z)<|Tm z z<|Tv z (V.U9 z)<|Tv z (V.fa R9 z)<|Tv z (V.I6 (k:=0) R7 z b.u z)<|Tv z (V.U9 z)<|Tv z (V.fa A0Z z)<|Tv z (V.I6 (k:=6) F4 z f.u z)<|Tm z z ?_
 obtain ⟨bE,J,H⟩:=bnd H
 obtain ⟨bG,aw,rfl⟩:=G9.at c J
 refine Tv z (V.ix D6 z z c (H6 J))<|Tv z (V.ld0 D9 z aw.u z) ?_
 obtain ⟨bI,K,H⟩:=bnd H
 obtain ⟨bJ,ax,⟨bK,rfl,bM⟩⟩:=G9.at o K
 refine Tv z (V.ix O0 z z o (H6 K))<|Tv z (V.fa A1b z)<|Tv z (V.I6 (k:=0) F6 z ax.u z)<|Tv z (V.fa X3 z)<|Tv z (V.I6 (k:=4) F6 z n.u z)<|Tv z (V.sne z z)<|Tm z z<|T.bH 81 H z (fun H=>?_) (fun H=>?_)
 ·refine Tk z<|Tk z<|Tk z<|Tk z<|Tk z<|Tk z<|Tv z (V.M0 z z)<|T.R5 (SX.two (XA.fr [] Lr z) (XA.fr [] Lr z))<|Th<|Ct z<|Rg<|Mv z<|Mv z<|To (O.bs D6 Q4 z (e:=z) (hk:=z) (xs:=[.tmp 90]) (hv:=CO.eq (CO.cons z CO.nil)) (hw:=O7.of z) (hd:=z) fun bN=>have ay:A7 (VI .i64) I [[.int .i64 j]] ([j]:List Int):=(A7.cons z A7.nil); T.K8 fun bO aA aB=>have aC:=A7.slc aB ay.u; ?_)
  obtain ⟨bP,aD,H⟩:=bnd H
  have aE:=(((i.trans m).trans q).trans aA)
  have aG:=pr2.2.1 _ _ _ _ aE hRa
  refine To (O.C4x z z (A1p.call pr2.u aC aG aD As _) z fun bS bU bV bW aI=>?_)
  obtain ⟨M,rfl,aJ,aK⟩:=aI
  refine I9 ((As ++ (M ++ L))) aJ<|Ni ?_
  obtain rfl:=Option.some.inj H
  exact T.B2D Tryz.results185 Li ⟨M,z,z,aK⟩
 refine Tm z z<|Tm z z ?_
 obtain ⟨bX,aM,H⟩:=bnd H
 refine Tv z (V.A0M z z aM)<|Tv z (V.fa O4 z)<|Tv z (V.I6 (k:=5) D9 z n.u z)<|Tv z (V.ne z z)<|Tv z (V.J9 z z)<|T.R5 (SX.two (XA.fr [] Lr z) (XA.fr [] Lr z))<|Th<|T.cH H z (fun H=>?_) (fun H=>?_)
 ·refine T.norm [2,6] z<|Rg<|Mv z<|Mv z<|To (O.bs D6 Q4 z (e:=z) (hk:=z) (xs:=[.tmp 90]) (hv:=CO.eq (CO.cons z CO.nil)) (hw:=O7.of z) (hd:=z) fun bY=>have aN:A7 (VI .i64) I [[.int .i64 j]] ([j]:List Int):=(A7.cons z A7.nil); T.K8 fun bZ aO aP=>have aS:=A7.slc aP aN.u; ?_)
  obtain ⟨b0,aU,H⟩:=bnd H
  have aV:=(((i.trans m).trans q).trans aO)
  have aW:=pr2.2.1 _ _ _ _ aV hRa
  refine To (O.C4x z z (A1p.call pr2.u aS aW aU As _) z fun b1 b2 b3 b4 aX=>?_)
  obtain ⟨N,rfl,aY,aZ⟩:=aX
  refine I9 ((As ++ (N ++ L))) aY<|Ni ?_
  obtain rfl:=Option.some.inj H
  exact T.B2D Tryz.results185 Li ⟨N,z,z,aZ⟩
 refine T.skip<|have a0:=((i.trans m).trans q); have a1:=pr2.2.1 _ _ _ _ a0 hRa; ?_
 obtain rfl:=Option.some.inj H
 exact T.B2D Tryz.results185 Li ⟨La,z,z,a1⟩
theorem B9U {h:PH} {σ:Type} {R:σ→PH→List E9→Prop} {pv0:Value} {v1:J6} (pr0:Pt P7 h pv0 v1) {pc1:List Value} {r2:G5} (pr1:H9 h pc1 r2) {pv2:Value} {f3:σ→Int→(List Int)→Option σ} (pr2:A1p R h pv2 f3) {s0:σ} {La:List E9} (hRa:R s0 h La) {q_s:σ} (H:B9e v1 r2 f3 s0 = some q_s):∀ As L,H5 Tryz.prog 188 [pv0,.agg pc1.toArray,pv2] h ((As ++ (La ++ L))) (fun v h' L'=>∃ La',v = .tuple #[]∧L' = (As ++ (La' ++ L))∧R q_s h' La'):=by
 intro As L
 exact dead H
theorem C0u {h:PH} {σ:Type} {R:σ→PH→List E9→Prop} {pv0:Value} {v1:J6} (pr0:Pt P7 h pv0 v1) {pc1:List Value} {r2:G5} (pr1:H9 h pc1 r2) {pv2:Value} {f3:σ→Int→(List Int)→Option σ} (pr2:A1p R h pv2 f3) {s0:σ} {La:List E9} (hRa:R s0 h La) {q_s:σ} (H:B8S v1 r2 f3 s0 = some q_s):∀ As L,H5 Tryz.prog 189 [pv0,.agg pc1.toArray,pv2] h ((As ++ (La ++ L))) (fun v h' L'=>∃ La',v = .tuple #[]∧L' = (As ++ (La' ++ L))∧R q_s h' La'):=by
 intro As L
 exact dead H
theorem B7C {h:PH} {σ:Type} {R:σ→PH→List E9→Prop} {pv0:Value} {v1:J6} (pr0:Pt P7 h pv0 v1) {pc1:List Value} {r2:G5} (pr1:H9 h pc1 r2) {pv2:Value} {f3:σ→Int→(List Int)→Option σ} (pr2:A1p R h pv2 f3) {s0:σ} {La:List E9} (hRa:R s0 h La) {q_s:σ} (H:B5b v1 r2 f3 s0 = some q_s):∀ As L,H5 Tryz.prog 191 [pv0,.agg pc1.toArray,pv2] h ((As ++ (La ++ L))) (fun v h' L'=>∃ La',v = .tuple #[]∧L' = (As ++ (La' ++ L))∧R q_s h' La'):=by
 intro As L
 exact dead H
theorem B7r {h:PH} {σ:Type} {R:σ→PH→List E9→Prop} {pv0:Value} {v1:J6} (pr0:Pt P7 h pv0 v1) {pc1:List Value} {r2:G5} (pr1:H9 h pc1 r2) {pv2:Value} {f3:σ→Int→(List Int)→Option σ} (pr2:A1p R h pv2 f3) {s0:σ} {La:List E9} (hRa:R s0 h La) {q_s:σ} (H:B4K v1 r2 f3 s0 = some q_s):∀ As L,H5 Tryz.prog 195 [pv0,.agg pc1.toArray,pv2] h ((As ++ (La ++ L))) (fun v h' L'=>∃ La',v = .tuple #[]∧L' = (As ++ (La' ++ L))∧R q_s h' La'):=by
 intro As L
 exact dead H
theorem B4E {h:PH} {σ:Type} {R:σ→PH→List E9→Prop} {pv0:Value} {v1:J6} (pr0:Pt P7 h pv0 v1) {pc1:List Value} {r2:G5} (pr1:H9 h pc1 r2) {pv2:Value} {f3:σ→Int→(List Int)→Option σ} (pr2:A1p R h pv2 f3) {s0:σ} {La:List E9} (hRa:R s0 h La) {q_s:σ} (H:B1l v1 r2 f3 s0 = some q_s):∀ As L,H5 Tryz.prog 186 [pv0,.agg pc1.toArray,pv2] h ((As ++ (La ++ L))) (fun v h' L'=>∃ La',v = .tuple #[]∧L' = (As ++ (La' ++ L))∧R q_s h' La'):=by
 intro As L
 exact dead H
theorem C2S {h:PH} {σ:Type} {R:σ→PH→List E9→Prop} {pv0:Value} {v1:J6} (pr0:Pt P7 h pv0 v1) {pc1:List Value} {r2:G5} (pr1:H9 h pc1 r2) {pv2:Value} {f3:σ→Int→(List Int)→Option σ} (pr2:A1p R h pv2 f3) {s0:σ} {La:List E9} (hRa:R s0 h La) {q_s:σ} (H:C3y v1 r2 f3 s0 = some q_s):∀ As L,H5 Tryz.prog 196 [pv0,.agg pc1.toArray,pv2] h ((As ++ (La ++ L))) (fun v h' L'=>∃ La',v = .tuple #[]∧L' = (As ++ (La' ++ L))∧R q_s h' La'):=by
 intro As L
 exact dead H
theorem C0C {h:PH} {σ:Type} {R:σ→PH→List E9→Prop} {pv0:Value} {v1:J6} (pr0:Pt P7 h pv0 v1) {pc1:List Value} {r2:G5} (pr1:H9 h pc1 r2) {pv2:Value} {f3:σ→Int→(List Int)→Option σ} (pr2:A1p R h pv2 f3) {s0:σ} {La:List E9} (hRa:R s0 h La) {q_s:σ} (H:B9z v1 r2 f3 s0 = some q_s):∀ As L,H5 Tryz.prog 190 [pv0,.agg pc1.toArray,pv2] h ((As ++ (La ++ L))) (fun v h' L'=>∃ La',v = .tuple #[]∧L' = (As ++ (La' ++ L))∧R q_s h' La'):=by
 intro As L
 exact dead H
theorem B9k {h:PH} {σ:Type} {R:σ→PH→List E9→Prop} {pv0:Value} {v1:J6} (pr0:Pt P7 h pv0 v1) {pc1:List Value} {r2:G5} (pr1:H9 h pc1 r2) {pv2:Value} {f3:σ→Int→(List Int)→Option σ} (pr2:A1p R h pv2 f3) {s0:σ} {La:List E9} (hRa:R s0 h La) {q_s:σ} (H:B7i v1 r2 f3 s0 = some q_s):∀ As L,H5 Tryz.prog 192 [pv0,.agg pc1.toArray,pv2] h ((As ++ (La ++ L))) (fun v h' L'=>∃ La',v = .tuple #[]∧L' = (As ++ (La' ++ L))∧R q_s h' La'):=by
 intro As L
 exact dead H
theorem C2s {h:PH} {σ:Type} {R:σ→PH→List E9→Prop} {pv0:Value} {v1:J6} (pr0:Pt P7 h pv0 v1) {pc1:List Value} {r2:G5} (pr1:H9 h pc1 r2) {pv2:Value} {f3:σ→Int→(List Int)→Option σ} (pr2:A1p R h pv2 f3) {s0:σ} {La:List E9} (hRa:R s0 h La) {q_s:σ} (H:C1u v1 r2 f3 s0 = some q_s):∀ As L,H5 Tryz.prog 187 [pv0,.agg pc1.toArray,pv2] h ((As ++ (La ++ L))) (fun v h' L'=>∃ La',v = .tuple #[]∧L' = (As ++ (La' ++ L))∧R q_s h' La'):=by
 intro As L
 exact dead H
theorem C2y {h:PH} {σ:Type} {R:σ→PH→List E9→Prop} {pv0:Value} {v1:J6} (pr0:Pt P7 h pv0 v1) {pc1:List Value} {r2:G5} (pr1:H9 h pc1 r2) {pv2:Value} {f3:σ→Int→(List Int)→Option σ} (pr2:A1p R h pv2 f3) {s0:σ} {La:List E9} (hRa:R s0 h La) {q_s:σ} (H:C0W v1 r2 f3 s0 = some q_s):∀ As L,H5 Tryz.prog 193 [pv0,.agg pc1.toArray,pv2] h ((As ++ (La ++ L))) (fun v h' L'=>∃ La',v = .tuple #[]∧L' = (As ++ (La' ++ L))∧R q_s h' La'):=by
 intro As L
 exact dead H
theorem C0o {h:PH} {σ:Type} {R:σ→PH→List E9→Prop} {pv0:Value} {v1:J6} (pr0:Pt P7 h pv0 v1) {pc1:List Value} {r2:G5} (pr1:H9 h pc1 r2) {pv2:Value} {f3:σ→Int→(List Int)→Option σ} (pr2:A1p R h pv2 f3) {s0:σ} {La:List E9} (hRa:R s0 h La) {q_s:σ} (H:B8L v1 r2 f3 s0 = some q_s):∀ As L,H5 Tryz.prog 194 [pv0,.agg pc1.toArray,pv2] h ((As ++ (La ++ L))) (fun v h' L'=>∃ La',v = .tuple #[]∧L' = (As ++ (La' ++ L))∧R q_s h' La'):=by
 intro As L
 exact dead H
end Go.Proofs.X
