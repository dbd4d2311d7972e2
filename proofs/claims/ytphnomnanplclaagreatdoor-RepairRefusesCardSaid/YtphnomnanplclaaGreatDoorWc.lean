import Derived.Test.YtphnomnanplclaaGreatDoorChecked
import Derived.KernelRfl
import Derived.Test.YtphnomnanplclaaGreatDoorV
import Derived.Test.YtphnomnanplclaaGreatDoorL10
import Derived.Test.YtphnomnanplclaaGreatDoorDa
import Derived.Test.YtphnomnanplclaaGreatDoorWb
/- The walks: each function computes what its Lean function says. -/
set_option maxRecDepth 1000000
set_option maxHeartbeats 40000000
set_option linter.unusedVariables false
set_option linter.unusedSimpArgs false
set_option linter.unnecessarySimpa false
open Go Go.Proofs Go.Sl Go.Dm
namespace Go.Proofs.X
theorem B1X : A2Y Tryz.prog 28 = some ([.slice none 0 0,.slice none 0 0,.slice none 0 0,.slice none 0 0,.slice none 0 0],[(0,1),(1,1),(2,1),(3,1),(4,1)]):=by kernel_rfl
theorem A7m : A2Y Tryz.prog 39 = some ([.string ⟨#[]⟩,.string ⟨#[]⟩,.string ⟨#[]⟩,.int .i64 (0),.int .i64 (0),.string ⟨#[]⟩,.bool false,.bool false,.slice none 0 0],[(0,1),(1,1),(2,1),(3,1),(4,1),(5,1),(6,1),(7,1),(8,1)]):=by kernel_rfl
theorem A7k : A2Y Tryz.prog 42 = some ([.int .u8 (0),.int .i64 (0),.string ⟨#[]⟩,.string ⟨#[]⟩,.string ⟨#[]⟩,.int .i64 (0)],[(0,1),(1,1),(2,1),(3,1),(4,1),(5,1)]):=by kernel_rfl
theorem A3Y : A2Y Tryz.prog 81 = some ([.string ⟨#[]⟩,.nilFunc,.nilFunc,.nilFunc,.nilFunc],[(0,1),(1,1),(2,1),(3,1),(4,1)]):=by kernel_rfl
theorem C3c : A2Y Tryz.prog 86 = some ([.pointer none,.slice none 0 0,.slice none 0 0,.slice none 0 0,.slice none 0 0,.slice none 0 0,.slice none 0 0,.int .i64 (0)],[(0,1),(1,5),(6,1),(7,1)]):=by kernel_rfl
theorem B6X : A2Y Tryz.prog 95 = some ([.string ⟨#[]⟩,.int .u8 (0),.int .i64 (0),.int .i64 (0),.slice none 0 0,.int .i64 (0),.int .i64 (0)],[(0,1),(1,1),(2,1),(3,1),(4,1),(5,1),(6,1)]):=by kernel_rfl
theorem B0y : A0m Tryz.prog 28 = true:=by kernel_rfl
theorem A7l : A0m Tryz.prog 39 = true:=by kernel_rfl
theorem A7A : A0m Tryz.prog 42 = true:=by kernel_rfl
theorem A4c : A0m Tryz.prog 81 = true:=by kernel_rfl
theorem C3r : A0m Tryz.prog 86 = true:=by kernel_rfl
theorem B7h : A0m Tryz.prog 95 = true:=by kernel_rfl
theorem B3b : O3 Tryz.prog 44 0 = some 0:=by kernel_rfl
theorem A7N : O3 Tryz.prog 44 1 = some 1:=by kernel_rfl
theorem A2I : O3 Tryz.prog 44 2 = some 10:=by kernel_rfl
theorem A2K : O3 Tryz.prog 44 3 = some 11:=by kernel_rfl
theorem B2X : O3 Tryz.prog 44 5 = some 13:=by kernel_rfl
theorem C0i : O3 Tryz.prog 81 1 = some 1:=by kernel_rfl
theorem B9V : O3 Tryz.prog 81 2 = some 2:=by kernel_rfl
theorem R8 : O3 Tryz.prog 86 1 = some 1:=by kernel_rfl
theorem Z8 : O3 Tryz.prog 86 2 = some 6:=by kernel_rfl
theorem A8b : O3 Tryz.prog 86 3 = some 7:=by kernel_rfl
theorem C1D : X9 Tryz.prog 135 = some (true,30):=by kernel_rfl
theorem B6W : X9 Tryz.prog 36 = some (false,1):=by kernel_rfl
theorem B2m : X9 Tryz.prog 44 = some (true,20):=by kernel_rfl
theorem C3d : X9 Tryz.prog 76 = some (false,1):=by kernel_rfl
theorem C2V : X9 Tryz.prog 77 = some (false,1):=by kernel_rfl
theorem A2l : X9 Tryz.prog 81 = some (true,5):=by kernel_rfl
theorem C1M : zer Tryz.prog 135 = some (.agg #[.string ⟨#[]⟩,.nilFunc,.nilFunc,.nilFunc,.nilFunc,.string ⟨#[]⟩,.nilFunc,.nilFunc,.nilFunc,.nilFunc,.string ⟨#[]⟩,.nilFunc,.nilFunc,.nilFunc,.nilFunc,.string ⟨#[]⟩,.nilFunc,.nilFunc,.nilFunc,.nilFunc,.string ⟨#[]⟩,.nilFunc,.nilFunc,.nilFunc,.nilFunc,.string ⟨#[]⟩,.nilFunc,.nilFunc,.nilFunc,.nilFunc]):=by kernel_rfl
theorem B0v : zer Tryz.prog 81 = some (.agg #[.string ⟨#[]⟩,.nilFunc,.nilFunc,.nilFunc,.nilFunc]):=by kernel_rfl
theorem C3z : C6L Tryz.prog 42 = some [(0,.i .u8),(1,.i .i64),(2,.s),(3,.s),(4,.s),(5,.i .i64)]:=by kernel_rfl
theorem A9g : C5R Tryz.prog 135 = some ([.string ⟨#[]⟩,.nilFunc,.nilFunc,.nilFunc,.nilFunc,.string ⟨#[]⟩,.nilFunc,.nilFunc,.nilFunc,.nilFunc,.string ⟨#[]⟩,.nilFunc,.nilFunc,.nilFunc,.nilFunc,.string ⟨#[]⟩,.nilFunc,.nilFunc,.nilFunc,.nilFunc,.string ⟨#[]⟩,.nilFunc,.nilFunc,.nilFunc,.nilFunc,.string ⟨#[]⟩,.nilFunc,.nilFunc,.nilFunc,.nilFunc],6,5):=by kernel_rfl
theorem A0O {h:PH} {pv0:Value} {a1:List Int} (pr0:G9 (VI .i64) 1 h pv0 a1) {pv1:Value} {b2:List Int} (pr1:G9 (VI .i64) 1 h pv1 b2) {r_0:Bool} (H:A1n a1 b2 = some r_0):∀ L,H5 Tryz.prog 20 [pv0,pv1] h (L) (fun v h' L'=>v = .bool r_0∧L' = L):=by
 intro L
 refine H5.enter Tryz.func20 z Tryz.ntmps20 z<|Sr<|Ag z<|Nt<|Sq<|Sr<|Mv z<|Vv (V.P6 D6 z pr0)<|Mv z<|Vv (V.P6 D6 z pr1)<|Vv (V.ne z z)<|Nt<|T.cH H z (fun H=>?_) (fun H=>?_)
 ·exact dead H
 refine T.skip<|Th<|Sq<|Sr<|Ag z<|Nt ?_
 obtain ⟨c,g,i⟩:=N7 H
 refine T.O5 (α:=Unit) [] z (fun _u=>[]) (fun _u=>L) (fun _u hh=>c = ()) ?_ ?_
 ·have H:=g
  refine Bl<|T.N8 (α:=Nat×Int) [0,1] z (fun ⟨a,b⟩=>[(5,.int .i64 b)]) (fun ⟨a,b⟩=>L) (fun ⟨a,b⟩ hh=>iter (A9Q a1 b2) a b = some c) (fun ⟨a,b⟩=>a) (FUEL,(0:Int)) ⟨z,trivial⟩ z H ?_
  rintro ⟨a,b⟩ r s j
  obtain ⟨k,w,rfl,H,d⟩:=I4 j
  refine T.norm [5,0,1] z<|T.fl ?_
  refine Sq<|Sr<|Mv z<|Mv z<|Vv (V.P6 D6 z pr0)<|Vv (V.lt z z)<|Nt<|T.cH H z (fun H=>?_) (fun H=>?_)
  ·refine T.skip<|Th<|Sq<|Bl<|Sq<|T.O8 (t:=(.v 0 (.v 1 (.v 2 (.v 3 (.v 4 (.v 5 (.v 6 (.v 7 (.v 8 .done)))))))))) 10 0 0 rfl rfl I8 (by kernel_rfl) ?_
   refine Tm z z<|Tm z z ?_
   obtain ⟨x,e,H⟩:=bnd H
   obtain ⟨y,m,rfl⟩:=G9.at pr0 e
   refine Tv z (V.ix D6 z z pr0 (H6 e))<|Tv z (V.ld0 D9 z m.u z)<|Tm z z<|Tm z z ?_
   obtain ⟨A,f,H⟩:=bnd H
   obtain ⟨B,n,rfl⟩:=G9.at pr1 f
   refine Tv z (V.ix D6 z z pr1 (H6 f))<|Tv z (V.ld0 D9 z n.u z)<|Tv z (V.ne z z)<|T.R5 (SX.two (XA.fr [] Lr z) (XA.fr [] Lr z))<|Th<|T.cH H z (fun H=>?_) (fun H=>?_)
   ·exact dead H
   refine T.skip<|Bn<|Th<|Rg<|Mv z ?_
   obtain ⟨o,p,H⟩:=bnd H
   refine Vv (V.L8 z z p)<|Ag z<|Nt<|T.again (k,o) Li (Nat.lt_succ_self _) (G8 H d) (A9.app ⟨z,trivial⟩ ⟨z,z,trivial⟩) z
  refine T.exit<|Te<|Te<|have H:=D7 H d; Be<|Th<|T.met () Li H (A9.app trivial trivial) z
 rintro _ C D q
 have H:=J5 q i
 refine T.norm [] z<|T.fl ?_
 refine Sr<|Ag z<|Nt<|T.ret ?_
 obtain rfl:=Option.some.inj H
 exact T.F5 Tryz.results20 (Rv z) Li ⟨z,z⟩
theorem A8D {h:PH} {pv0:Value} {a1:List G5} (pr0:G9 H9 6 h pv0 a1) {pv1:Value} {b2:List G5} (pr1:G9 H9 6 h pv1 b2) {r_0:Bool} (H:A8p a1 b2 = some r_0):∀ L,H5 Tryz.prog 21 [pv0,pv1] h (L) (fun v h' L'=>v = .bool r_0∧L' = L):=by
 intro L
 refine H5.enter Tryz.func21 z Tryz.ntmps21 z<|Sr<|Ag z<|Nt<|Sq<|Sr<|Mv z<|Vv (V.P6 S9 z pr0)<|Mv z<|Vv (V.P6 S9 z pr1)<|Vv (V.ne z z)<|Nt<|T.cH H z (fun H=>?_) (fun H=>?_)
 ·exact dead H
 refine T.skip<|Th<|Sq<|Sr<|Ag z<|Nt ?_
 obtain ⟨e,j,k⟩:=N7 H
 refine T.O5 (α:=Unit) [] z (fun _u=>[]) (fun _u=>L) (fun _u hh=>e = ()) ?_ ?_
 ·have H:=j
  refine Bl<|T.N8 (α:=Nat×Int) [0,1] z (fun ⟨a,b⟩=>[(5,.int .i64 b)]) (fun ⟨a,b⟩=>L) (fun ⟨a,b⟩ hh=>iter (A8G a1 b2) a b = some e) (fun ⟨a,b⟩=>a) (FUEL,(0:Int)) ⟨z,trivial⟩ z H ?_
  rintro ⟨a,b⟩ x y m
  obtain ⟨n,A,rfl,H,f⟩:=I4 m
  refine T.norm [5,0,1] z<|T.fl ?_
  refine Sq<|Sr<|Mv z<|Mv z<|Vv (V.P6 S9 z pr0)<|Vv (V.lt z z)<|Nt<|T.cH H z (fun H=>?_) (fun H=>?_)
  ·refine T.skip<|Th<|Sq<|Bl<|Sq<|T.O8 (t:=(.v 0 (.v 1 (.v 2 (.v 3 (.v 4 (.v 5 (.v 6 (.v 7 (.v 8 .done)))))))))) 10 0 0 rfl rfl I8 (by kernel_rfl) ?_
   refine Tm z z<|Tm z z ?_
   obtain ⟨c,g,H⟩:=bnd H
   obtain ⟨B,o,rfl⟩:=G9.at pr0 g
   refine Tv z (V.ix S9 rfl rfl pr0 (H6 g))<|Tv z (V.Z9 rfl o.u (by exact A0k)) ?_
   refine Tm z z<|Tm z z ?_
   obtain ⟨d,i,H⟩:=bnd H
   obtain ⟨C,p,rfl⟩:=G9.at pr1 i
   refine Tv z (V.ix S9 rfl rfl pr1 (H6 i))<|Tv z (V.Z9 rfl p.u (by exact A0k)) ?_
   refine Tv z (V.C8P C3z z z (r:=(decide (c.J4 = d.J4) && (decide (c.Y6 = d.Y6) && (decide (c.fA = d.fA) && (decide (c.fB = d.fB) && (decide (c.V7 = d.V7) && (decide (c.fN = d.fN) && true))))))) z)<|T.R5 (SX.two (XA.fr [] Lr z) (XA.fr [] Lr z))<|Th<|T.cH H z (fun H=>?_) (fun H=>?_)
   ·exact dead H
   refine T.skip<|Bn<|Th<|Rg<|Mv z ?_
   obtain ⟨q,s,H⟩:=bnd H
   refine Vv (V.L8 z z s)<|Ag z<|Nt<|T.again (n,q) Li (Nat.lt_succ_self _) (G8 H f) (A9.app ⟨z,trivial⟩ ⟨z,z,trivial⟩) z
  refine T.exit<|Te<|Te<|have H:=D7 H f; Be<|Th<|T.met () Li H (A9.app trivial trivial) z
 rintro _ D E w
 have H:=J5 w k
 refine T.norm [] z<|T.fl ?_
 refine Sr<|Ag z<|Nt<|T.ret ?_
 obtain rfl:=Option.some.inj H
 exact T.F5 Tryz.results21 (Rv z) Li ⟨z,z⟩
theorem A5j {h:PH} {second1:Bool} {pv1:Value} {rules2:List G5} (pr1:G9 H9 6 h pv1 rules2) {r_0:A8} (H:A6m second1 rules2 = some r_0):∀ L,H5 Tryz.prog 19 [.bool second1,pv1] h (L) (fun v h' L'=>∃ v0_1 v0_3 v0_5 v0_7 v0_9,v = .agg #[v0_1,v0_3,v0_5,v0_7,v0_9]∧L' = L∧G9 E8 7 h' v0_1 r_0.H8∧G9 G7 9 h' v0_3 r_0.F3∧G9 I1 3 h' v0_5 r_0.J8∧G9 (VI .i64) 1 h' v0_7 r_0.K5∧G9 H9 6 h' v0_9 r_0.K9):=by
 intro L
 refine H5.enter Tryz.func19 rfl Tryz.ntmps19 rfl<|Sr<|To (O.alloc A0l rfl rfl fun M=>Nt<|Sr<|Vv (V.bld (xs:=[(0,.const (.string ⟨#[114]⟩)),(1,.const (.int .u8 (1))),(2,.const (.int .i64 (4)))]) (cs:=[_,_,_,_,_,_,_]) B6X B7h rfl (F8.cons rfl rfl rfl (F8.cons rfl rfl rfl (F8.cons rfl rfl rfl F8.nil))))<|To (O.bs O0 A5c rfl (e:=rfl) (hk:=rfl) (xs:=[.tmp 7]) (hv:=CO.eq (CO.cons rfl CO.nil)) (hw:=O7.of rfl) (hd:=rfl) fun d=>have a:A7 E8 h [[.string (⟨#[114]⟩:ByteArray),.int .u8 (1:Int),.int .i64 (4:Int),.int .i64 (0:Int),.slice none 0 0,.int .i64 (0:Int),.int .i64 (0:Int)]] ([(D5.mk (⟨#[114]⟩:ByteArray) (1:Int) (4:Int) (0:Int) ([]:List Int) (0:Int) (0:Int))]:List D5):=(A7.cons ⟨(.slice none 0 0),rfl,G9.nil⟩ A7.nil); Vv (V.bld (xs:=[(0,.const (.string ⟨#[97,110,110,97]⟩))]) (cs:=[_,_,_,_,_,_,_,_,_]) A7m A7l rfl (F8.cons rfl rfl rfl F8.nil))<|Vv (V.bld (xs:=[(0,.const (.string ⟨#[98,111,114,105,115]⟩))]) (cs:=[_,_,_,_,_,_,_,_,_]) A7m A7l rfl (F8.cons rfl rfl rfl F8.nil))<|Vv (V.bld (xs:=[(0,.const (.string ⟨#[99,97,114,108]⟩))]) (cs:=[_,_,_,_,_,_,_,_,_]) A7m A7l rfl (F8.cons rfl rfl rfl F8.nil))<|To (O.bs O9 A2s rfl (e:=rfl) (hk:=rfl) (xs:=[.tmp 9,.tmp 10,.tmp 11]) (hv:=CO.eq (CO.cons rfl (CO.cons rfl (CO.cons rfl CO.nil)))) (hw:=O7.of rfl) (hd:=rfl) fun b=>have f:A7 G7 h [[.string (⟨#[97,110,110,97]⟩:ByteArray),.string (⟨#[]⟩:ByteArray),.string (⟨#[]⟩:ByteArray),.int .i64 (0:Int),.int .i64 (0:Int),.string (⟨#[]⟩:ByteArray),.bool false,.bool false,.slice none 0 0],[.string (⟨#[98,111,114,105,115]⟩:ByteArray),.string (⟨#[]⟩:ByteArray),.string (⟨#[]⟩:ByteArray),.int .i64 (0:Int),.int .i64 (0:Int),.string (⟨#[]⟩:ByteArray),.bool false,.bool false,.slice none 0 0],[.string (⟨#[99,97,114,108]⟩:ByteArray),.string (⟨#[]⟩:ByteArray),.string (⟨#[]⟩:ByteArray),.int .i64 (0:Int),.int .i64 (0:Int),.string (⟨#[]⟩:ByteArray),.bool false,.bool false,.slice none 0 0]] ([(E5.mk (⟨#[97,110,110,97]⟩:ByteArray) (⟨#[]⟩:ByteArray) (⟨#[]⟩:ByteArray) (0:Int) (0:Int) (⟨#[]⟩:ByteArray) false false ([]:List ByteArray)),(E5.mk (⟨#[98,111,114,105,115]⟩:ByteArray) (⟨#[]⟩:ByteArray) (⟨#[]⟩:ByteArray) (0:Int) (0:Int) (⟨#[]⟩:ByteArray) false false ([]:List ByteArray)),(E5.mk (⟨#[99,97,114,108]⟩:ByteArray) (⟨#[]⟩:ByteArray) (⟨#[]⟩:ByteArray) (0:Int) (0:Int) (⟨#[]⟩:ByteArray) false false ([]:List ByteArray))]:List E5):=(A7.cons ⟨(.slice none 0 0),rfl,G9.nil⟩ (A7.cons ⟨(.slice none 0 0),rfl,G9.nil⟩ (A7.cons ⟨(.slice none 0 0),rfl,G9.nil⟩ A7.nil))); Mv z<|T.M5 0 rfl fun N q=>T.M5 1 rfl fun P r=>Vv (V.bld (xs:=[(0,.tmp 8),(1,.tmp 12),(4,.tmp 13)]) (cs:=[_,_,_,_,_]) B1X B0y rfl (F8.cons rfl r rfl (F8.cons rfl q rfl (F8.cons rfl (G9.cells pr1) rfl F8.nil))))<|To (O.alloc A0l rfl rfl fun S=>T.M5 2 rfl fun s U=>T.M5 1 rfl fun t W=>To (O.stF (vs:=[(.slice (some ⟨d,0,none⟩) 1 1),(.slice (some ⟨b,0,none⟩) 3 3),.slice none 0 0,.slice none 0 0,pv1]) F9 rfl rfl (j:=0) rfl rfl (by (simp only [Sl.ones,s,t,G9.one pr1,Bool.and_true,Bool.true_and]) <;> rfl) rfl ?_)))))
 refine T.fl ?_
 refine Nt<|Sq<|Sr<|Mv z<|Nt<|T.cH H z (fun H=>?_) (fun H=>?_)
 ·refine Sr<|Vv (V.fa K3 z)<|Vv (V.ldO (k:=0) M9 z (j:=0) z z)<|Ag z<|Nt<|Rg<|Mv z<|Vv (V.bld (xs:=[(0,.const (.string ⟨#[119]⟩)),(1,.const (.int .u8 (4))),(2,.const (.int .i64 (1)))]) (cs:=[_,_,_,_,_,_,_]) B6X B7h z (F8.cons z z z (F8.cons z z z (F8.cons z z z F8.nil))))<|To (O.bs O0 A5c z (e:=z) (hk:=z) (xs:=[.tmp 19]) (hv:=CO.eq (CO.cons z CO.nil)) (hw:=O7.of z) (hd:=z) fun X=>have c:A7 E8 h [[.string (⟨#[119]⟩:ByteArray),.int .u8 (4:Int),.int .i64 (1:Int),.int .i64 (0:Int),.slice none 0 0,.int .i64 (0:Int),.int .i64 (0:Int)]] ([(D5.mk (⟨#[119]⟩:ByteArray) (4:Int) (1:Int) (0:Int) ([]:List Int) (0:Int) (0:Int))]:List D5):=(A7.cons ⟨(.slice none 0 0),z,G9.nil⟩ A7.nil); ?_)
  obtain ⟨w,g,H⟩:=bnd H
  refine To (O.apX O0 O0 A5c z z z (j:=3) z (Src.row (j:=0) z) (O7.of z) (A7.ones E8.plain c) a c g z fun i Y Z=>have x:A7 E8 h ([[.string (⟨#[114]⟩:ByteArray),.int .u8 (1:Int),.int .i64 (4:Int),.int .i64 (0:Int),.slice none 0 0,.int .i64 (0:Int),.int .i64 (0:Int)]] ++ [[.string (⟨#[119]⟩:ByteArray),.int .u8 (4:Int),.int .i64 (1:Int),.int .i64 (0:Int),.slice none 0 0,.int .i64 (0:Int),.int .i64 (0:Int)]]) w:=A7.ap a c g; T.fl ?_)
  refine I7 1 z<|T.fl ?_
  refine T.drop<|Vv (V.fa K3 rfl)<|T.M5 0 rfl fun y A=>To (O.st (vs:=[i]) (k:=0) M9 rfl rfl (j:=1) rfl A (by (simp only [Sl.ones,y,Bool.and_true,Bool.true_and]) <;> rfl) ?_)
  refine T.fl ?_
  refine Nt<|Sr<|Vv (V.C0D (j:=0) (by exact F9) rfl rfl) ?_
  refine I7 1 z<|T.fl ?_
  refine T.K8 fun aa ab B=>have m:=A7.slc B x.u; I7 1 z<|T.fl ?_
  refine T.K8 fun ac ad C=>have n:=A7.slc C f.u; To (O.stF (vs:=[i,(.slice (some ⟨b,0,none⟩) 3 3),.slice none 0 0,.slice none 0 0,pv1]) F9 rfl rfl (j:=1) rfl rfl (by (simp only [Sl.ones,G9.one m,G9.one n,G9.one pr1,Bool.and_true,Bool.true_and]) <;> rfl) rfl ?_)
  refine T.freeze fun ae af D=>have E:=AtC.of D; Nt<|T.ret<|T.drop ?_
  obtain rfl:=Option.some.inj H
  exact T.F5 Tryz.results19 (RVs.cons (RV.C1r z E F9) RVs.nil) Li ⟨_,_,_,_,_,z,z,m.u,n.u,G9.nil,G9.nil,pr1.u⟩
 refine T.skip<|Th<|Sr<|Vv (V.C0D (j:=0) (by exact F9) rfl rfl) ?_
 refine I7 2 z<|T.fl ?_
 refine T.K8 fun ag ai G=>have o:=A7.slc G a.u; I7 1 z<|T.fl ?_
 refine T.K8 fun aj ak I=>have p:=A7.slc I f.u; To (O.stF (vs:=[(.slice (some ⟨d,0,none⟩) 1 1),(.slice (some ⟨b,0,none⟩) 3 3),.slice none 0 0,.slice none 0 0,pv1]) F9 rfl rfl (j:=1) rfl rfl (by (simp only [Sl.ones,G9.one o,G9.one p,G9.one pr1,Bool.and_true,Bool.true_and]) <;> rfl) rfl ?_)
 refine T.freeze fun am an J=>have K:=AtC.of J; Nt<|T.ret<|T.drop ?_
 obtain rfl:=Option.some.inj H
 exact T.F5 Tryz.results19 (RVs.cons (RV.C1r z K F9) RVs.nil) Li ⟨_,_,_,_,_,z,z,o.u,p.u,G9.nil,G9.nil,pr1.u⟩
theorem B7E {h:PH} {pc0:List Value} {p1:A8} (pr0:C9 h pc0 p1) {r_0:A8} (H:B5h p1 = some r_0):∀ L,H5 Tryz.prog 87 [.agg pc0.toArray] h (L) (fun v h' L'=>∃ vo0_1 csso0_2 vo0_4 csso0_5 vo0_7 csso0_8 vo0_10 csso0_11 vo0_13 csso0_14,v = .agg #[vo0_1,vo0_4,vo0_7,vo0_10,vo0_13]∧L' = D8 95 7 vo0_1 csso0_2::D8 39 9 vo0_4 csso0_5::D8 174 3 vo0_7 csso0_8::D8 3 1 vo0_10 csso0_11::D8 42 6 vo0_13 csso0_14::L∧A7 E8 h' csso0_2 r_0.H8∧A7 G7 h' csso0_5 r_0.F3∧A7 I1 h' csso0_8 r_0.J8∧A7 (VI .i64) h' csso0_11 r_0.K5∧A7 H9 h' csso0_14 r_0.K9):=by
 intro L
 obtain ⟨b3,Z,D,E,G,rfl,au,aw,ax,ay,aA⟩:=pr0
 refine H5.enter Tryz.func87 z Tryz.ntmps87 z<|Sr<|To (O.box z z z fun I=>To (O.alloc A0l z z fun J=>Nt<|Sr<|Vv (V.fa K3 z)<|Vv (V.ldO (k:=0) M9 z (j:=1) z z) ?_))
 obtain ⟨aa,aB,H⟩:=bnd H
 refine To (O.C8 z (A8I au aB _) z fun c b4 b5 b6 aC=>?_)
 obtain ⟨aD,aE,ab⟩:=aC
 refine I9 _ aE<|Vv (V.fa K3 rfl)<|T.M5 0 rfl fun aG aI=>To (O.st (vs:=[c]) (k:=0) M9 rfl rfl (j:=2) rfl aI (by (simp only [Sl.ones,aG,Bool.and_true,Bool.true_and]) <;> rfl) ?_)
 refine T.fl ?_
 refine Nt<|Sq<|Sr<|Vv (V.fa K3 z)<|Vv (V.ldO (k:=0) M9 z (j:=0) z z)<|Vv (V.A2E O0 z (j:=1) z ab.len)<|Mv z<|Nt ?_
 obtain ⟨ac,aJ,aK⟩:=N7 H
 refine T.O5 (α:=(List D5)×(List (List Value))) [1,2] z (fun ⟨B,f⟩=>[]) (fun ⟨B,f⟩=>blk I (.cells [c,Z,D,E,G].toArray 28)::blk J (.cells [.slice none 0 0,.slice none 0 0,.slice none 0 0,.slice none 0 0,.slice none 0 0].toArray 28)::D8 95 7 c f::L) (fun ⟨B,f⟩ hh=>ac = B∧A7 E8 hh f B) ?_ ?_
 ·have H:=aJ
  refine Bl<|I7 1 z<|T.fl ?_
  refine I7 2 z<|T.fl ?_
  refine I7 2 z<|T.fl ?_
  refine T.N8 (α:=Nat×(List D5)×Int×(List (List Value))) [1,2,11] z (fun ⟨r,o,m,d⟩=>[(12,.int .i64 m)]) (fun ⟨r,o,m,d⟩=>blk I (.cells [c,Z,D,E,G].toArray 28)::blk J (.cells [.slice none 0 0,.slice none 0 0,.slice none 0 0,.slice none 0 0,.slice none 0 0].toArray 28)::D8 95 7 c d::L) (fun ⟨r,o,m,d⟩ hh=>iter (B0m aa) r (o,m) = some ac∧A7 E8 hh d o) (fun ⟨r,o,m,d⟩=>r) (FUEL,aa,(0:Int),aD) ⟨z,trivial⟩ z ⟨H,ab⟩ ?_
  rintro ⟨r,o,m,d⟩ b7 b8 ⟨aM,s⟩
  obtain ⟨aN,b9,rfl,H,ad⟩:=I4 aM
  refine T.norm [12,1,2,11] z<|T.fl ?_
  refine Sr<|Vv (V.lt z z)<|Nt<|Sq<|T.cH H z (fun H=>?_) (fun H=>?_)
  ·refine T.skip<|Th<|Sq<|Bl<|Sr<|Mv z<|Ag z<|Nt<|I7 2 z<|T.fl ?_
   refine I7 1 z<|T.fl ?_
   refine T.O8 (t:=(.v 0 (.v 1 (.v 2 (.v 3 (.v 4 (.v 5 (.x 6 (.v 7 (.x 8 (.alt 9 (.g (.alt 10 (.v 11 (.alt 12 .done .no)) .no)) .no))))))))))) 12 2 1 rfl rfl I8 (by kernel_rfl) ?_
   refine Tv z (V.fa K3 z)<|Tv z (Val.XA fun _ _ _=>V.ldO (k:=0) M9 z (j:=0) z z)<|Tm z z<|Tv z (V.fa K3 z)<|Tv z (Val.XA fun _ _ _=>V.ldO (k:=0) M9 z (j:=0) z z)<|Tm z z ?_
   obtain ⟨bh,ae,H⟩:=bnd H
   obtain ⟨bl,aO,⟨bv,rfl,aP⟩⟩:=A7.get s ae
   refine T.tx z z (Val.XA fun _ _ _=>V.ixR O0 z z (j:=1) z (A7.bd s ae)) z Calm.i<|Tv z (V.fa A0P z)<|T.tx z z (Val.XA fun _ _ _=>V.C5s (k:=4) F4 z (j:=1) z aO z) z Calm.i ?_
   obtain ⟨aS,aU,H⟩:=bnd H
   refine Tp z z (SX.two (XA.fr [0] Lr z) (XA.fr [1,1] Lr z)) (O.C8 z (A2f aP aU _) z fun K bz ca cb aV=>?_) T.Q9
   obtain ⟨cc,aW,aX⟩:=aV
   refine I9 _ aW<|T.M6 Li ?_
   obtain ⟨b,af,H⟩:=bnd H
   obtain ⟨cd,aY,⟨N,rfl,ce⟩⟩:=A7.get s af
   refine Ts z z (SX.two (XA.fr [1] Lr z) (XA.fr [2,2] Lr z)) (V.ixR O0 z z (j:=2) z (A7.bd s af)) z ?_ T.Q9
   refine Tv z (V.fa A0P z)<|T.K8 fun ag cf aZ=>have P:=A7.slc aZ aX.u; ?_
   obtain ⟨ai,a0,H⟩:=bnd H
   refine Tp z z (SX.two (XA.fr [0] Li rfl) (XA.fr [1,1] Li rfl)) (O.C6g (k:=4) F4 rfl rfl (j:=1) rfl (G9.cells P) (by (simp only [Sl.ones,G9.one P,Bool.and_true,Bool.true_and]) <;> rfl) rfl aY ?_) T.Q9
   have a1:A7 E8 ag (d.set m.toNat (over [.string b.H7,.int .u8 b.N9,.int .i64 b.fA,.int .i64 b.fB,N,.int .i64 b.fX,.int .i64 b.fY] [K] 4)) ai:=A7.set s.u (show E8 ag (over [.string b.H7,.int .u8 b.N9,.int .i64 b.fA,.int .i64 b.fB,N,.int .i64 b.fX,.int .i64 b.fY] [K] 4) (D5.mk b.H7 b.N9 b.fA b.fB aS b.fX b.fY) from ⟨K,z,P⟩) a0
   refine T.R5 (SX.one (XA.fr [1] Li z) z)<|Bn<|Th<|Rg ?_
   obtain ⟨a2,a3,H⟩:=bnd H
   refine Vv (V.L8 z z a3)<|Mv z<|Nt<|I7 2 z<|T.fl ?_
   refine I7 2 z<|T.fl ?_
   exact T.again (aN,ai,a2,(d.set m.toNat (over [.string b.H7,.int .u8 b.N9,.int .i64 b.fA,.int .i64 b.fB,N,.int .i64 b.fX,.int .i64 b.fY] [K] 4))) Li (Nat.lt_succ_self _) ⟨(G8 H ad),a1⟩ (A9.app ⟨z,trivial⟩ ⟨z,z,z,trivial⟩) z
  refine T.exit<|Te<|Te<|have H:=D7 H ad; Be<|Th<|T.met (o,d) Li ⟨H,s⟩ (A9.app trivial ⟨z,z,trivial⟩) z
 rintro ⟨B,f⟩ cg ci ⟨a4,a5⟩
 have H:=J5 a4 aK
 refine T.norm [1,2] z<|T.fl ?_
 refine Sr<|Vv (V.fa M3 z)<|Vv (V.ldO (k:=1) J3 z (j:=0) z z) ?_
 obtain ⟨aj,a6,H⟩:=bnd H
 refine To (O.C8 z (A8X aw.u a6 _) z fun p cj ck cm a7=>?_)
 obtain ⟨a8,a9,ak⟩:=a7
 refine I9 _ a9<|Vv (V.fa M3 rfl)<|T.M5 0 rfl fun ah al=>To (O.st (vs:=[p]) (k:=1) J3 rfl rfl (j:=1) rfl al (by (simp only [Sl.ones,ah,Bool.and_true,Bool.true_and]) <;> rfl) ?_)
 refine T.fl ?_
 refine Nt<|Sq<|Sr<|Vv (V.fa M3 z)<|Vv (V.ldO (k:=1) J3 z (j:=0) z z)<|Vv (V.A2E O9 z (j:=1) z ak.len)<|Mv z<|Nt ?_
 obtain ⟨am,av,az⟩:=N7 H
 refine T.O5 (α:=(List E5)×(List (List Value))) [1,2] z (fun ⟨C,w⟩=>[]) (fun ⟨C,w⟩=>blk I (.cells [c,p,D,E,G].toArray 28)::blk J (.cells [.slice none 0 0,.slice none 0 0,.slice none 0 0,.slice none 0 0,.slice none 0 0].toArray 28)::D8 95 7 c f::D8 39 9 p w::L) (fun ⟨C,w⟩ hh=>am = C∧A7 G7 hh w C) ?_ ?_
 ·have H:=av
  refine Bl<|I7 1 z<|T.fl ?_
  refine I7 3 z<|T.fl ?_
  refine I7 3 z<|T.fl ?_
  refine I7 3 z<|T.fl ?_
  refine T.N8 (α:=Nat×(List E5)×Int×(List (List Value))) [1,2,34] z (fun ⟨y,q,n,e⟩=>[(35,.int .i64 n)]) (fun ⟨y,q,n,e⟩=>blk I (.cells [c,p,D,E,G].toArray 28)::blk J (.cells [.slice none 0 0,.slice none 0 0,.slice none 0 0,.slice none 0 0,.slice none 0 0].toArray 28)::D8 95 7 c f::D8 39 9 p e::L) (fun ⟨y,q,n,e⟩ hh=>iter (B0l aj) y (q,n) = some am∧A7 G7 hh e q) (fun ⟨y,q,n,e⟩=>y) (FUEL,aj,(0:Int),a8) ⟨z,trivial⟩ z ⟨H,ak⟩ ?_
  rintro ⟨y,q,n,e⟩ cn co ⟨ba,A⟩
  obtain ⟨bb,cp,rfl,H,an⟩:=I4 ba
  refine T.norm [35,1,2,34] z<|T.fl ?_
  refine Sr<|Vv (V.lt z z)<|Nt<|Sq<|T.cH H z (fun H=>?_) (fun H=>?_)
  ·refine T.skip<|Th<|Sq<|Bl<|Sr<|Mv z<|Ag z<|Nt<|I7 3 z<|T.fl ?_
   refine I7 1 z<|T.fl ?_
   refine T.O8 (t:=(.v 0 (.v 1 (.v 2 (.v 3 (.v 4 (.v 5 (.x 6 (.v 7 (.x 8 (.alt 9 (.g (.alt 10 (.v 11 (.alt 12 .done .no)) .no)) .no))))))))))) 12 2 1 rfl rfl I8 (by kernel_rfl) ?_
   refine Tv z (V.fa M3 z)<|Tv z (Val.XA fun _ _ _=>V.ldO (k:=1) J3 z (j:=0) z z)<|Tm z z<|Tv z (V.fa M3 z)<|Tv z (Val.XA fun _ _ _=>V.ldO (k:=1) J3 z (j:=0) z z)<|Tm z z ?_
   obtain ⟨cq,ao,H⟩:=bnd H
   obtain ⟨cr,bc,⟨cs,rfl,be⟩⟩:=A7.get A ao
   refine T.tx z z (Val.XA fun _ _ _=>V.ixR O9 z z (j:=1) z (A7.bd A ao)) z Calm.i<|Tv z (V.fa V4 z)<|T.tx z z (Val.XA fun _ _ _=>V.C5s (k:=8) Z4 z (j:=1) z bc z) z Calm.i ?_
   obtain ⟨bf,bg,H⟩:=bnd H
   refine Tp z z (SX.two (XA.fr [0] Lr z) (XA.fr [1,1] Lr z)) (O.C8 z (A3a be bg _) z fun M ct cu cw bi=>?_) T.Q9
   obtain ⟨cx,bj,bk⟩:=bi
   refine I9 _ bj<|T.M6 Li ?_
   obtain ⟨a,ap,H⟩:=bnd H
   obtain ⟨cy,bm,⟨S,rfl,cA⟩⟩:=A7.get A ap
   refine Ts z z (SX.two (XA.fr [1] Lr z) (XA.fr [2,2] Lr z)) (V.ixR O9 z z (j:=2) z (A7.bd A ap)) z ?_ T.Q9
   refine Tv z (V.fa V4 z)<|T.K8 fun aq cB bn=>have U:=A7.slc bn bk.u; ?_
   obtain ⟨ar,bo,H⟩:=bnd H
   refine Tp z z (SX.two (XA.fr [0] Li rfl) (XA.fr [1,1] Li rfl)) (O.C6g (k:=8) Z4 rfl rfl (j:=1) rfl (G9.cells U) (by (simp only [Sl.ones,G9.one U,Bool.and_true,Bool.true_and]) <;> rfl) rfl bm ?_) T.Q9
   have bp:A7 G7 aq (e.set n.toNat (over [.string a.H7,.string a.Y0,.string a.Q5,.int .i64 a.Q6,.int .i64 a.U5,.string a.V8,.bool a.A0e,.bool a.Q3,S] [M] 8)) ar:=A7.set A.u (show G7 aq (over [.string a.H7,.string a.Y0,.string a.Q5,.int .i64 a.Q6,.int .i64 a.U5,.string a.V8,.bool a.A0e,.bool a.Q3,S] [M] 8) (E5.mk a.H7 a.Y0 a.Q5 a.Q6 a.U5 a.V8 a.A0e a.Q3 bf) from ⟨M,z,U⟩) bo
   refine T.R5 (SX.one (XA.fr [1] Li z) z)<|Bn<|Th<|Rg ?_
   obtain ⟨bq,br,H⟩:=bnd H
   refine Vv (V.L8 z z br)<|Mv z<|Nt<|I7 3 z<|T.fl ?_
   refine I7 3 z<|T.fl ?_
   refine I7 3 z<|T.fl ?_
   exact T.again (bb,ar,bq,(e.set n.toNat (over [.string a.H7,.string a.Y0,.string a.Q5,.int .i64 a.Q6,.int .i64 a.U5,.string a.V8,.bool a.A0e,.bool a.Q3,S] [M] 8))) Li (Nat.lt_succ_self _) ⟨(G8 H an),bp⟩ (A9.app ⟨z,trivial⟩ ⟨z,z,z,trivial⟩) z
  refine T.exit<|Te<|Te<|have H:=D7 H an; Be<|Th<|T.met (q,e) Li ⟨H,A⟩ (A9.app trivial ⟨z,z,trivial⟩) z
 rintro ⟨C,w⟩ cC cD ⟨bs,bt⟩
 have H:=J5 bs az
 refine T.norm [1,2] z<|T.fl ?_
 refine Sq<|T.O8 (t:=(.v 0 (.x 1 (.v 3 (.x 4 (.v 6 (.x 7 (.alt 2 (.g (.v 9 (.alt 5 (.g (.alt 8 (.g (.alt 10 (.g (.v 11 (.alt 12 (.g (.v 13 (.alt 14 .done .no))) .no))) .no)) .no)) .no))) .no)))))))) 10 1 0 rfl rfl I8 (by kernel_rfl) ?_
 refine Tv z (V.fa Y3 z)<|T.tx z z (Val.XA fun _ _ _=>V.ldO (k:=2) Q0 z (j:=0) z z) z Calm.i<|Tv z (V.fa Y7 z)<|T.tx z z (Val.XA fun _ _ _=>V.ldO (k:=3) F4 z (j:=0) z z) z Calm.i<|Tv z (V.fa T9 z)<|T.tx z z (Val.XA fun _ _ _=>V.ldO (k:=4) Q8 z (j:=0) z z) z Calm.i ?_
 obtain ⟨cE,bu,H⟩:=bnd H
 refine Tp z z (SX.two (XA.fr [] Lr z) (XA.fr [0] Lr z)) (O.C8 z (B1a ax.u bu _) z fun W cG cI cJ bw=>?_) T.Q9
 obtain ⟨bx,bA,bB⟩:=bw
 refine I9 _ bA<|T.M6 Li<|Tv z (V.fa Y3 z) ?_
 obtain ⟨cK,bC,H⟩:=bnd H
 refine Tp z z (SX.two (XA.fr [] Lr z) (XA.fr [1] Lr z)) (O.C8 z (A2f ay.u bC _) z fun X cM cN cO bD=>?_) T.Q9
 obtain ⟨bE,bG,bI⟩:=bD
 refine I9 _ bG<|T.M6 Li ?_
 obtain ⟨cP,bJ,H⟩:=bnd H
 refine Tp z z (SX.two (XA.fr [] Lr z) (XA.fr [2] Lr z)) (O.C8 z (A9J aA.u bJ _) z fun Y cS cU cV bK=>?_) T.Q9
 obtain ⟨bM,bN,bO⟩:=bK
 refine I9 _ bN<|T.M6 Li<|T.M5 2 rfl fun bP bS=>Tp z z (SX.two (XA.fr [] Lr rfl) (XA.fr [3] Lr rfl)) (O.st (vs:=[W]) (k:=2) Q0 rfl rfl (j:=3) rfl bS (by (simp only [Sl.ones,bP,Bool.and_true,Bool.true_and]) <;> rfl) ?_) T.Q9
 refine T.fl ?_
 refine T.M6 Lr<|Tv z (V.fa Y7 rfl)<|T.M5 2 rfl fun bU bV=>Tp z z (SX.one (XA.fr [] Lr rfl) rfl) (O.st (vs:=[X]) (k:=3) F4 rfl rfl (j:=0) rfl bV (by (simp only [Sl.ones,bU,Bool.and_true,Bool.true_and]) <;> rfl) ?_) T.Q9
 refine T.fl ?_
 refine T.M6 Lr<|Tv z (V.fa T9 rfl)<|T.M5 1 rfl fun bW bX=>Tp z z (SX.one (XA.fr [] Lr rfl) rfl) (O.st (vs:=[Y]) (k:=4) Q8 rfl rfl (j:=0) rfl bX (by (simp only [Sl.ones,bW,Bool.and_true,Bool.true_and]) <;> rfl) ?_) T.Q9
 refine T.fl ?_
 refine T.R5 (SX.one (XA.fr [] Lr rfl) rfl)<|Th<|Sr<|Vv (V.C0D (j:=0) (by exact F9) rfl rfl) ?_
 refine T.M5 5 rfl fun bY cW=>T.M5 6 rfl fun bZ cX=>T.M5 3 rfl fun b0 cY=>T.M5 2 rfl fun b1 cZ=>T.M5 1 rfl fun b2 c0=>To (O.stF (vs:=[c,p,W,X,Y]) F9 rfl rfl (j:=4) rfl rfl (by (simp only [Sl.ones,bY,bZ,b0,b1,b2,Bool.and_true,Bool.true_and]) <;> rfl) rfl ?_)
 refine T.fl ?_
 refine Nt<|T.ret<|I7 1 z<|T.fl ?_
 refine T.drop<|I7 1 z<|T.fl ?_
 refine I7 2 z<|T.fl ?_
 refine I7 3 z<|T.fl ?_
 refine I7 5 z<|T.fl ?_
 refine I7 5 z<|T.fl ?_
 refine I7 5 z<|T.fl ?_
 obtain rfl:=Option.some.inj H
 exact T.A6Z (L':=D8 95 7 c f::D8 39 9 p w::D8 174 3 W bx::D8 3 1 X bE::D8 42 6 Y bM::L) Tryz.results87 (RVs.cons (RV.cellS z (j:=0) z F9) RVs.nil) Li (fun _ iv=>iv.drop) ⟨_,_,_,_,_,_,_,_,_,_,z,z,a5.u,bt.u,bB.u,bI.u,bO⟩
theorem A7p {h:PH} {pv0:Value} {j1:P8} (pr0:Pt M8 h pv0 j1) {r_0:A8} (H:A6I j1 = some r_0):∀ L,H5 Tryz.prog 29 [pv0] h (L) (fun v h' L'=>∃ vo0_1 csso0_2 vo0_4 csso0_5 vo0_7 csso0_8 vo0_10 csso0_11 vo0_13 csso0_14,v = .agg #[vo0_1,vo0_4,vo0_7,vo0_10,vo0_13]∧L' = D8 95 7 vo0_1 csso0_2::D8 39 9 vo0_4 csso0_5::D8 174 3 vo0_7 csso0_8::D8 3 1 vo0_10 csso0_11::D8 42 6 vo0_13 csso0_14::L∧A7 E8 h' csso0_2 r_0.H8∧A7 G7 h' csso0_5 r_0.F3∧A7 I1 h' csso0_8 r_0.J8∧A7 (VI .i64) h' csso0_11 r_0.K5∧A7 H9 h' csso0_14 r_0.K9):=by
 intro L
 refine H5.enter Tryz.func29 z Tryz.ntmps29 z<|Sr<|To (O.alloc A0l z z fun ac=>Nt<|Sq<|Sr<|Mv z ?_)
 obtain ⟨ad,o,H⟩:=bnd H
 refine To (O.C8 z (A8d pr0 o _) z fun ae p af ag q=>?_)
 obtain ⟨rfl,r⟩:=q
 refine I9 _ r<|Nt<|T.cH H z (fun H=>?_) (fun H=>?_)
 ·exact dead H
 refine T.skip<|Th<|Sr<|Mv z<|have s:=pr0; ?_
 obtain ⟨ai,_,rfl,t,⟨a,b,c,d,e,aj,ak,am,an,ao,ap,aq,ar,au,rfl,w,x,y,A,B,aw,ax,ay,aA,aB,aC,aD,aE,aG⟩⟩:=s
 refine Vv (V.U9 z)<|Vv (V.fa X6 z)<|Vv (V.B9v (k:=0) A6p z t.u (Nat.le_of_ble_eq_true z)) ?_
 obtain ⟨aI,C,H⟩:=bnd H
 refine To (O.C8 z (B7E (show C9 p [a,b,c,d,e] j1.A0J from ⟨a,b,c,d,e,z,w.u,x.u,y.u,A.u,B.u⟩) C _) z fun aJ aK aM aN D=>?_)
 obtain ⟨f,E,g,G,i,I,m,J,n,K,rfl,M,N,P,S,U,W⟩:=D
 refine I9 _ M<|T.M5 0 rfl fun X aO=>T.M5 1 rfl fun Y aP=>T.M5 2 rfl fun Z aS=>T.M5 3 rfl fun aa aU=>T.M5 4 rfl fun ab aV=>To (O.stF (vs:=[f,g,i,m,n]) F9 rfl rfl (j:=5) rfl rfl (by (simp only [Sl.ones,X,Y,Z,aa,ab,Bool.and_true,Bool.true_and]) <;> rfl) rfl ?_)
 refine T.fl ?_
 refine Nt<|T.ret ?_
 obtain rfl:=Option.some.inj H
 exact T.A6Z (L':=D8 95 7 f E::D8 39 9 g G::D8 174 3 i I::D8 3 1 m J::D8 42 6 n K::L) Tryz.results29 (RVs.cons (RV.cellS z (j:=0) z F9) RVs.nil) Li (fun _ iv=>iv.drop) ⟨_,_,_,_,_,_,_,_,_,_,z,z,N,P,S,U,W⟩
theorem A1x {h:PH} {pc0:List Value} {p1:A8} (pr0:C9 h pc0 p1) {pv1:Value} {part12:List Int} (pr1:G9 (VI .i64) 1 h pv1 part12) {r_0:F7} {r_1:Int} (H:A2o p1 part12 = some (r_0,r_1)):∀ L,H5 Tryz.prog 25 [.agg pc0.toArray,pv1] h (L) (fun v h' L'=>∃ b0 vo0_1 vo0_3 csso0_4 vo0_6 csso0_7 vo0_9 csso0_10 vo0_12 csso0_13 vo0_15 csso0_16 vo0_18 csso0_19,v = .tuple #[.pointer (some ⟨b0,0,none⟩),.int .i64 r_1]∧L' = blk b0 (.cells [vo0_1,vo0_3,vo0_6,vo0_9,vo0_12,vo0_15,vo0_18,.int .i64 r_0.V5].toArray 86)::D8 95 7 vo0_3 csso0_4::D8 39 9 vo0_6 csso0_7::D8 174 3 vo0_9 csso0_10::D8 3 1 vo0_12 csso0_13::D8 42 6 vo0_15 csso0_16::D8 3 1 vo0_18 csso0_19::L∧Pt M8 h' vo0_1 r_0.O6∧A7 E8 h' csso0_4 r_0.fp.H8∧A7 G7 h' csso0_7 r_0.fp.F3∧A7 I1 h' csso0_10 r_0.fp.J8∧A7 (VI .i64) h' csso0_13 r_0.fp.K5∧A7 H9 h' csso0_16 r_0.fp.K9∧A7 (VI .i64) h' csso0_19 r_0.R6):=by
 intro L
 obtain ⟨a,b,c,d,e,rfl,f,m,n,o,p⟩:=pr0
 refine H5.enter Tryz.func25 rfl Tryz.ntmps25 rfl<|Sr<|To (O.V3 rfl rfl rfl fun ac q ad i=>Ag z<|Ag z<|Nt<|Sr<|Vv (V.Z9 rfl i (by exact F9)) ?_)
 obtain ⟨⟨ae,af,ag⟩,r,H⟩:=bnd H
 refine To (O.C8 z (B0O (show C9 q [a,b,c,d,e] p1 from ⟨a,b,c,d,e,z,f.u,m.u,n.u,o.u,p.u⟩) r _) z fun ai s aj ak w=>?_)
 obtain ⟨am,rfl,x,y⟩:=w
 refine I9 _ x<|Mv z<|Vv (V.ext z z)<|Vv (V.ext z z)<|Vv (V.ext z z)<|Ag z<|Ag z<|Ag z<|Nt<|Sq<|Sr<|Mv z<|Vv (V.ne z z)<|Nt<|T.cH H z (fun H=>?_) (fun H=>?_)
 ·exact dead H
 refine T.skip<|Th<|Sq<|Sr<|Vv (V.Z9 rfl i.u (by exact F9)) ?_
 refine Mv z ?_
 obtain ⟨⟨an,ao⟩,A,H⟩:=bnd H
 refine To (O.C8 z (B5n (show C9 s [a,b,c,d,e] p1 from ⟨a,b,c,d,e,z,f.u,m.u,n.u,o.u,p.u⟩) pr1.u A _) z fun ap aq ar au B=>?_)
 obtain ⟨rfl,C⟩:=B
 refine I9 _ C<|Mv z<|Vv (V.ext z z)<|Vv (V.ext z z)<|Ag z<|Ag z<|Nt<|Sr<|Mv z<|Vv (V.ne z z)<|Nt<|T.cH H z (fun H=>?_) (fun H=>?_)
 ·exact dead H
 refine T.skip<|Th<|Sq<|T.O8 (t:=(.v 0 (.v 1 (.v 3 (.v 5 (.v 6 (.alt 2 (.g (.alt 4 (.g (.alt 7 (.g (.v 8 (.alt 9 (.alt 10 (.alt 11 .done .no) .no) .no))) .no)) .no)) .no))))))) 13 0 0 rfl rfl I8 (by kernel_rfl) ?_
 refine Tm z z<|Tm z z<|Tm z z<|Tv z (V.fa K3 z)<|Tv z (V.I6 (k:=0) M9 z i.u z) ?_
 obtain ⟨aw,D,H⟩:=bnd H
 have j:=OPt.get y D
 obtain ⟨ax,E,H⟩:=bnd H
 refine Tp z z (SX.two (XA.fr [] Lr z) (XA.fr [] Lr z)) (O.C8 z (A7p j.u E _) z fun ay aA aB aC G=>?_) T.Q9
 obtain ⟨aD,aE,aG,aI,aJ,aK,aM,aN,aO,aP,rfl,I,J,K,M,N,P⟩:=G
 refine I9 _ I<|T.M6 Li ?_
 obtain ⟨aS,S,H⟩:=bnd H
 refine Tp z z (SX.two (XA.fr [] Lr z) (XA.fr [] Lr z)) (O.C8 z (A2f pr1.u S _) z fun aU aV aW aX U=>?_) T.Q9
 obtain ⟨aY,W,X⟩:=U
 refine I9 _ W<|T.M6 Li ?_
 obtain ⟨aZ,Y,H⟩:=bnd H
 refine Tp z z (SX.two (XA.fr [] Lr z) (XA.fr [] Lr z)) (O.C8 z (A3x f.u Y _) z fun a0 a1 a2 a3 Z=>?_) T.Q9
 obtain ⟨rfl,aa⟩:=Z
 refine I9 _ aa<|T.M6 Li<|T.M5 0 z fun a4 ab=>Tv z (V.bld (xs:=[(0,.tmp 29),(1,.tmp 31),(2,.tmp 33),(3,.tmp 36)]) (cs:=[_,_,_,_,_,_,_,_]) C3c C3r z (F8.cons z (Pt.cells j) z (F8.cons z z z (F8.cons z ab z (F8.cons z z z F8.nil)))))<|Tp z z (SX.two (XA.fr [] Lr z) (XA.fr [] Lr z)) (O.box z z z fun a5=>?_) T.Q9
 refine Ts z z (SX.two (XA.fr [] Lr z) (XA.fr [] Lr z)) (V.asg z) z ?_ T.Q9
 refine Ts z z (SX.two (XA.fr [] Lr z) (XA.fr [] Lr z)) (V.asg z) z ?_ T.Q9
 refine T.R5 (SX.two (XA.fr [] Lr z) (XA.fr [] Lr z))<|Th<|T.ret<|I7 1 z<|T.fl ?_
 refine I7 6 z<|T.fl ?_
 refine I7 6 z<|T.fl ?_
 refine I7 6 z<|T.fl ?_
 refine I7 6 z<|T.fl ?_
 refine I7 6 z<|T.fl ?_
 refine I7 6 z<|T.fl ?_
 obtain ⟨rfl,rfl⟩:=inj2 H
 exact T.F5 Tryz.results25 (RVs.cons (RV.tmp z) (Rv z)) Li ⟨_,_,_,_,_,_,_,_,_,_,_,_,_,_,z,z,j.u,J.u,K.u,M.u,N.u,P.u,X.u⟩
theorem B4p {h:PH} {pv0:Value} {s1:List G6} (pr0:G9 I1 3 h pv0 s1) {pv1:Value} {f2:G6→Option Bool} (pr1:B1m h pv1 f2) {r_0:Int} (H:A9R s1 f2 = some r_0):∀ L,H5 Tryz.prog 226 [pv0,pv1] h (L) (fun v h' L'=>v = .int .i64 r_0∧L' = L):=by
 intro L
 refine H5.enter Tryz.func226 z Tryz.ntmps226 z<|Sr<|Ag z<|Nt<|Sq<|Sr<|Mv z<|Vv (V.P6 X5 z pr0)<|Mv z<|Nt ?_
 obtain ⟨b,c,d⟩:=N7 H
 refine T.O5 (α:=Unit) [] z (fun _u=>[]) (fun _u=>L) (fun _u hh=>b = ()) ?_ ?_
 ·have H:=c
  refine Bl<|T.N8 (α:=Nat) [7,8] z (fun a=>[]) (fun a=>L) (fun a hh=>iter (A6o s1) a () = some b) (fun a=>a) FUEL trivial z H ?_
  rintro a i j e
  obtain ⟨k,m,rfl,H,f⟩:=I4 e
  refine T.norm [7,8] z<|T.fl ?_
  refine Sr<|Vv (V.lt z z)<|Nt<|Sq<|T.cH H z (fun H=>?_) (fun H=>?_)
  ·exact dead H
  refine T.exit<|Te<|Te<|have H:=D7 H f; Be<|Th<|T.met () Li H (A9.app trivial trivial) z
 rintro _ n o g
 have H:=J5 g d
 refine T.norm [] z<|T.fl ?_
 refine Sr<|Ag z<|Nt<|T.ret ?_
 obtain rfl:=Option.some.inj H
 exact T.F5 Tryz.results226 (Rv z) Li ⟨z,z⟩
theorem B1h {h:PH} {pv0:Value} {pcs0:List (List Value)} {s1:List G5} (pr0:A7 H9 h pcs0 s1) {pv1:Value} {f3:G5→Option Bool} (pr1:B6f h pv1 f3) {r_0:Int} {q_0:List G5} (H:A7G s1 f3 = some (r_0,q_0)):∀ L,H5 Tryz.prog 88 [pv0,pv1] h (D8 42 6 pv0 pcs0::L) (fun v h' L'=>∃ ls0,v = .int .i64 r_0∧L' = D8 42 6 pv0 ls0::L∧A7 H9 h' ls0 q_0):=by
 intro L
 refine H5.enter Tryz.func88 z Tryz.ntmps88 z<|Sr<|Ag z<|Nt<|Sq<|Sr<|Mv z<|Vv (V.A2E S9 z (j:=0) z pr0.len)<|Mv z<|Nt ?_
 obtain ⟨d,k,m⟩:=N7 H
 refine T.O5 (α:=Unit) [0] z (fun _u=>[]) (fun _u=>D8 42 6 pv0 pcs0::L) (fun _u hh=>d = ()) ?_ ?_
 ·have H:=k
  refine Bl<|T.N8 (α:=Nat×Int) [0,1,7] z (fun ⟨b,c⟩=>[(8,.int .i64 c)]) (fun ⟨b,c⟩=>D8 42 6 pv0 pcs0::L) (fun ⟨b,c⟩ hh=>iter (A5s s1 f3) b c = some d) (fun ⟨b,c⟩=>b) (FUEL,(0:Int)) ⟨z,trivial⟩ z H ?_
  rintro ⟨b,c⟩ e B n
  obtain ⟨o,C,rfl,H,f⟩:=I4 n
  refine T.norm [8,0,1,7] z<|T.fl ?_
  refine Sr<|Vv (V.lt z z)<|Nt<|Sq<|T.cH H z (fun H=>?_) (fun H=>?_)
  ·refine T.skip<|Th<|Sq<|Bl<|Sr<|Mv z<|Ag z<|Nt<|Sr<|Mv z<|Mv z<|Mv z ?_
   obtain ⟨a,i,H⟩:=bnd H
   obtain ⟨D,p,rfl⟩:=A7.get pr0 i
   refine Vv (V.ixR S9 z z (j:=0) z (A7.bd pr0 i))<|Vv (V.C8N z (j:=0) z p A0k) ?_
   obtain ⟨E,q,H⟩:=bnd H
   obtain ⟨G,I,J,r,s⟩:=B6f.call (pr1.u (g:=e)) (show H9 e [.int .u8 a.J4,.int .i64 a.Y6,.string a.fA,.string a.fB,.string a.V7,.int .i64 a.fN] a from rfl) q
   refine To (O.A1m z r z (s _) z fun K M N P t=>?_)
   obtain ⟨rfl,w⟩:=t
   refine I9 _ w<|Nt<|T.cH H z (fun H=>?_) (fun H=>?_)
   ·exact dead H
   refine T.skip<|Bn<|Th<|Rg ?_
   obtain ⟨x,y,H⟩:=bnd H
   refine Vv (V.L8 z z y)<|Mv z<|Nt<|T.again (o,x) Li (Nat.lt_succ_self _) (G8 H f) (A9.app ⟨z,trivial⟩ ⟨z,z,z,trivial⟩) z
  refine T.exit<|Te<|Te<|have H:=D7 H f; Be<|Th<|T.met () Li H (A9.app trivial ⟨z,trivial⟩) z
 rintro _ S U A
 have H:=J5 A m
 refine T.norm [0] z<|T.fl ?_
 refine Sr<|Ag z<|Nt<|T.ret ?_
 obtain ⟨rfl,rfl⟩:=inj2 H
 exact T.F5 Tryz.results88 (Rv z) Li ⟨_,z,z,pr0.u⟩
theorem B2n {h:PH} {pv0:Value} {pcs0:List (List Value)} {s1:List G5} (pr0:A7 H9 h pcs0 s1) {pv1:Value} {del3:G5→Option Bool} (pr1:B6f h pv1 del3) {r_0:List G5} (H:A7n s1 del3 = some r_0):∀ L,H5 Tryz.prog 30 [pv0,pv1] h (D8 42 6 pv0 pcs0::L) (fun v h' L'=>∃ cs0,L' = D8 42 6 v cs0::L∧A7 H9 h' cs0 r_0):=by
 intro L
 refine H5.enter Tryz.func30 z Tryz.ntmps30 z<|Sr<|Ag z<|Nt<|Sr<|Mv z<|Mv z ?_
 obtain ⟨⟨e,f⟩,a,H⟩:=bnd H
 refine To (O.C8 z (B1h pr0 pr1 a _) z fun g i j k b=>?_)
 obtain ⟨m,rfl,c,d⟩:=b
 refine I9 _ c<|Ag z<|Nt<|Sq<|Sr<|Mv z<|Vv (V.eq z z)<|Nt<|T.cH H z (fun H=>?_) (fun H=>?_)
 ·refine Sr<|Mv z<|Ag z<|Nt<|T.ret<|Tr ?_
  obtain rfl:=Option.some.inj H
  exact T.F5 Tryz.results30 (Rv z) Li ⟨_,z,d⟩
 exact dead H
theorem B8e {h:PH} {pc0:List Value} {g1:E5} (pr0:G7 h pc0 g1) {pp1:Addr} {pc1:List Value} {t4:ByteArray} (pa1:AtC h pp1 pc1) (pr1:VS h pc1 t4) {r_0:Bool} (H:B1u g1 t4 = some r_0):∀ L,H5 Tryz.prog 215 [.agg pc0.toArray,.pointer (some pp1)] h (L) (fun v h' L'=>v = .bool r_0∧L' = L):=by
 intro L
 obtain ⟨b,rfl,c⟩:=pr0
 obtain rfl:=pr1
 refine H5.enter Tryz.func215 z Tryz.ntmps215 z<|Sr<|To (O.V3 z z z fun d e f a=>Ag z<|Nt<|Sr<|Vv (V.fa A0a z)<|Vv (V.I6 (k:=0) F6 z a z)<|Vv (V.ld0 F6 z pa1.u z)<|Vv (V.seq z z)<|Ag z<|Nt<|T.ret ?_)
 obtain rfl:=Option.some.inj H
 exact T.F5 Tryz.results215 (Rv z) Li ⟨z,z⟩
theorem A9a {h:PH} {pv0:Value} {s1:F7} (pr0:Pt L6 h pv0 s1) {name2:ByteArray} {r_0:Int} (H:B2C s1 name2 = some r_0):∀ L,H5 Tryz.prog 132 [pv0,.string name2] h (L) (fun v h' L'=>v = .int .i64 r_0∧L' = L):=by
 intro L
 refine H5.enter Tryz.func132 z Tryz.ntmps132 z<|Sr<|To (O.V3 z z z fun a b r c=>Ag z<|Nt<|Sr<|Mv z<|have d:=pr0; ?_)
 obtain ⟨s,_,rfl,e,⟨t,w,x,y,A,B,C,rfl,D,E,f,G,I,J,K⟩⟩:=d
 refine Vv (V.U9 z)<|Vv (V.fa R8 z)<|Vv (V.fa M3 z)<|Vv (V.I6 (k:=2) J3 z e.u z)<|Vv (V.mkf z z) ?_
 obtain ⟨M,g,H⟩:=bnd H
 refine To (O.C8 z (A5r f.u (show A8W b (.func (.func 215) #[] #[.pointer (some ⟨a,0,none⟩)]) (fun i=>B1u i name2) from ⟨⟨z,z⟩,.inr ⟨215,[],[.pointer (some ⟨a,0,none⟩)],z,fun j N P S m U n o=>B8e m c.u (show VS j [.string name2] name2 from z) n o⟩⟩) g _) z fun W X Y Z p=>?_)
 obtain ⟨rfl,q⟩:=p
 refine I9 _ q<|Ag z<|Nt<|T.ret ?_
 obtain rfl:=Option.some.inj H
 exact T.F5 Tryz.results132 (Rv z) Li ⟨z,z⟩
theorem C0c {h:PH} {pv0:Value} {s1:F7} (pr0:Pt L6 h pv0 s1) {r_0:Bool} (H:B8g s1 = some r_0):∀ L,H5 Tryz.prog 146 [pv0] h (L) (fun v h' L'=>v = .bool r_0∧L' = L):=by
 intro L
 refine H5.enter Tryz.func146 z Tryz.ntmps146 z<|Sr<|Ag z<|Nt<|Sr<|Mv z<|have a:=pr0; ?_
 obtain ⟨d,_,rfl,b,⟨e,f,g,i,j,m,n,rfl,o,p,q,r,s,c,t⟩⟩:=a
 refine Vv (V.U9 z)<|Vv (V.fa R8 z)<|Vv (V.fa T9 z)<|Vv (V.I6 (k:=5) Q8 z b z)<|Vv (V.P6 S9 z c)<|Vv (V.eq z z)<|Ag z<|Nt<|T.ret ?_
 obtain rfl:=Option.some.inj H
 exact T.F5 Tryz.results146 (Rv z) Lr ⟨z,z⟩
theorem B8q {h:PH} {pc0:List Value} {t1:G6} (pr0:I1 h pc0 t1) {pp1:Addr} {pc1:List Value} {t2:ByteArray} (pa1:AtC h pp1 pc1) (pr1:VS h pc1 t2) {pp2:Addr} {pc2:List Value} {t3:ByteArray} (pa2:AtC h pp2 pc2) (pr2:VS h pc2 t3) {r_0:Bool} (H:B1W t1 t2 t3 = some r_0):∀ L,H5 Tryz.prog 228 [.agg pc0.toArray,.pointer (some pp1),.pointer (some pp2)] h (L) (fun v h' L'=>v = .bool r_0∧L' = L):=by
 intro L
 exact dead H
theorem C2j {h:PH} {pv0:Value} {s1:F7} (pr0:Pt L6 h pv0 s1) {a2:ByteArray} {b3:ByteArray} {r_0:Int} (H:C1q s1 a2 b3 = some r_0):∀ L,H5 Tryz.prog 147 [pv0,.string a2,.string b3] h (L) (fun v h' L'=>v = .int .i64 r_0∧L' = L):=by
 intro L
 refine H5.enter Tryz.func147 z Tryz.ntmps147 z<|Sr<|To (O.V3 z z z fun a t w d=>To (O.V3 z z z fun b e x f=>Ag z<|Nt<|Sr<|Mv z<|have g:=pr0; ?_))
 obtain ⟨y,_,rfl,i,⟨A,B,C,D,E,G,I,rfl,J,K,M,j,N,P,S⟩⟩:=g
 refine Vv (V.U9 z)<|Vv (V.fa R8 z)<|Vv (V.fa Y3 z)<|Vv (V.I6 (k:=3) Q0 z i.u z)<|Vv (V.mkf z z) ?_
 obtain ⟨U,m,H⟩:=bnd H
 refine To (O.C8 z (B4p j.u (show B1m e (.func (.func 228) #[] #[.pointer (some ⟨a,0,none⟩),.pointer (some ⟨b,0,none⟩)]) (fun n=>B1W n a2 b3) from ⟨⟨z,z⟩,.inr ⟨228,[],[.pointer (some ⟨a,0,none⟩),.pointer (some ⟨b,0,none⟩)],z,fun c W X Y o Z p q=>B8q o d.u (show VS c [.string a2] a2 from z) f.u (show VS c [.string b3] b3 from z) p q⟩⟩) m _) z fun aa ab ac ad r=>?_)
 obtain ⟨rfl,s⟩:=r
 refine I9 _ s<|Ag z<|Nt<|T.ret ?_
 obtain rfl:=Option.some.inj H
 exact T.F5 Tryz.results147 (Rv z) Li ⟨z,z⟩
theorem B4v {h:PH} {pv0:Value} {s1:F7} (pr0:Pt L6 h pv0 s1) {pc1:List Value} {c2:M7} (pr1:U0 h pc1 c2) {r_0:Int} (H:A9G s1 c2 = some r_0):∀ L,H5 Tryz.prog 64 [pv0,.agg pc1.toArray] h (L) (fun v h' L'=>v = .int .i64 r_0∧L' = L):=by
 intro L
 obtain ⟨d,rfl,p⟩:=pr1
 refine H5.enter Tryz.func64 z Tryz.ntmps64 z<|Sr<|To (O.V3 z z z fun K q M b=>Ag z<|Nt<|Sr<|Ag z<|Nt<|Sq<|Sr<|Mv z<|have r:=pr0; ?_)
 obtain ⟨N,_,rfl,a,⟨e,f,g,i,j,m,n,rfl,s,w,c,x,o,y,A⟩⟩:=r
 refine Vv (V.U9 z)<|Vv (V.fa R8 z)<|Vv (V.fa Y7 z)<|Vv (V.I6 (k:=4) F4 z a.u z)<|Vv (V.P6 D6 z o)<|Vv (V.eq z z)<|Nt<|T.cH H z (fun H=>?_) (fun H=>?_)
 ·refine Rg<|Ag z<|Nt<|Sq<|Sr<|Vv (V.fa A7N z)<|Vv (V.B9v (k:=1) A0p z b (Nat.le_of_ble_eq_true z)) ?_
  obtain ⟨P,B,H⟩:=bnd H
  refine To (O.C8 z (B1G (show G7 q [.string c2.L9.H7,.string c2.L9.Y0,.string c2.L9.Q5,.int .i64 c2.L9.Q6,.int .i64 c2.L9.U5,.string c2.L9.V8,.bool c2.L9.A0e,.bool c2.L9.Q3,d] c2.L9 from ⟨d,z,p.u⟩) B _) z fun S C U W D=>?_)
  obtain ⟨rfl,E⟩:=D
  refine I9 _ E<|Ag z<|Nt<|Bl<|Sr<|Mv z<|Vv (V.ne z z)<|Ag z<|Nt<|T.cH H z (fun H=>?_) (fun H=>?_)
  ·exact dead H
  refine Sr<|Mv z<|Vv (V.fa A7N z)<|Vv (V.fa A0a z)<|Vv (V.I6 (k:=1) F6 z b.u z) ?_
  obtain ⟨X,G,H⟩:=bnd H
  refine To (O.C8 z (A9a (Pt.mk a.u (show L6 C [e,f,g,i,j,m,n,.int .i64 s1.V5] s1 from ⟨e,f,g,i,j,m,n,z,s.u,w.u,c.u,x.u,o.u,y.u,A.u⟩)) G _) z fun Y Z aa ab I=>?_)
  obtain ⟨rfl,J⟩:=I
  refine I9 _ J<|Vv (V.ge z z)<|Ag z<|Nt<|T.cH H z (fun H=>?_) (fun H=>?_)
  ·exact dead H
  refine Sr<|Mv z<|Vv (V.U9 z)<|Vv (V.fa R8 z)<|Vv (V.fa M3 z)<|Vv (V.I6 (k:=2) J3 z a.u z)<|Vv (V.P6 O9 z c)<|Vv (V.eq z z)<|Ag z<|Nt<|T.cH H z (fun H=>?_) (fun H=>?_)
  ·exact dead H
  refine Sq<|T.norm [0,3,5] rfl<|T.O8 (t:=(.v 0 (.v 1 (.v 2 (.v 3 (.v 4 (.v 5 (.v 6 (.v 7 (.v 8 (.v 9 (.v 10 (.alt 11 .done .no))))))))))))) 13 0 0 rfl rfl I8 (by kernel_rfl) ?_
  refine Tm z z<|Tv z (V.U9 z)<|Tv z (V.fa R8 z)<|Tv z (V.fa M3 z)<|Tv z (V.I6 (k:=2) J3 z a.u z)<|Tv z (V.P6 O9 z c)<|Tm z z<|Tv z (V.U9 z)<|Tv z (V.fa A8b z)<|Tv z (V.I6 (k:=7) D9 z a.u z)<|Tv z (V.eq z z)<|Ts z z (SX.two (XA.fr [] Lr z) (XA.fr [] Lr z)) (V.asg z) z ?_ T.Q9
  refine T.R5 (SX.two (XA.fr [] Lr z) (XA.fr [] Lr z))<|Th<|T.cH H z (fun H=>?_) (fun H=>?_)
  ·exact dead H
  refine Sr<|Vv (V.fa B2X z)<|Vv (V.I6 (k:=13) D9 z b.u z)<|Vv (V.lt z z)<|Mv z<|T.bH 52 H z (fun H=>?_) (fun H=>?_)
  ·exact dead H
  refine Vv (V.fa B2X z)<|Vv (V.I6 (k:=13) D9 z b.u z)<|Mv z<|Vv (V.gt z z)<|Vv (V.J9 z z)<|Ag z<|Nt<|T.cH H z (fun H=>?_) (fun H=>?_)
  ·exact dead H
  refine T.skip<|Bn<|Th<|Sr<|Ag z<|Nt<|T.ret ?_
  obtain rfl:=Option.some.inj H
  exact T.F5 Tryz.results64 (Rv z) Li ⟨z,z⟩
 exact dead H
theorem B1O {h:PH} {pv0:Value} {s1:F7} (pr0:Pt L6 h pv0 s1) {pc1:List Value} {c2:M7} (pr1:U0 h pc1 c2) {r_0:Int} (H:A7g s1 c2 = some r_0):∀ L,H5 Tryz.prog 68 [pv0,.agg pc1.toArray] h (L) (fun v h' L'=>v = .int .i64 r_0∧L' = L):=by
 intro L
 exact dead H
theorem B0n {h:PH} {pv0:Value} {s1:F7} (pr0:Pt L6 h pv0 s1) {pc1:List Value} {c2:M7} (pr1:U0 h pc1 c2) {r_0:Int} (H:A6w s1 c2 = some r_0):∀ L,H5 Tryz.prog 72 [pv0,.agg pc1.toArray] h (L) (fun v h' L'=>v = .int .i64 r_0∧L' = L):=by
 intro L
 obtain ⟨q,rfl,r⟩:=pr1
 refine H5.enter Tryz.func72 z Tryz.ntmps72 z<|Sr<|To (O.V3 z z z fun s t w a=>Ag z<|Nt<|Sq<|Bl<|Sr<|Mv z<|Vv (V.fa A2I z)<|Vv (V.I6 (k:=10) F6 z a z) ?_)
 obtain ⟨x,b,H⟩:=bnd H
 refine To (O.C8 z (A9a pr0.u b _) z fun y A B C c=>?_)
 obtain ⟨rfl,d⟩:=c
 refine I9 _ d<|Vv (V.lt z z)<|Mv z<|T.bH 11 H z (fun H=>?_) (fun H=>?_)
 ·exact dead H
 refine Mv z<|Vv (V.fa A2K z)<|Vv (V.I6 (k:=11) F6 z a.u z) ?_
 obtain ⟨D,e,H⟩:=bnd H
 refine To (O.C8 z (A9a pr0.u e _) z fun E G I J f=>?_)
 obtain ⟨rfl,g⟩:=f
 refine I9 _ g<|Vv (V.lt z z)<|Vv (V.J9 z z)<|Ag z<|Nt<|T.cH H z (fun H=>?_) (fun H=>?_)
 ·exact dead H
 refine Sr<|Vv (V.fa A2I z)<|Vv (V.I6 (k:=10) F6 z a.u z)<|Vv (V.fa A2K z)<|Vv (V.I6 (k:=11) F6 z a.u z)<|Vv (V.seq z z)<|Ag z<|Nt<|T.cH H z (fun H=>?_) (fun H=>?_)
 ·exact dead H
 refine Sr<|Mv z ?_
 obtain ⟨K,i,H⟩:=bnd H
 refine To (O.C8 z (C0c pr0.u i _) z fun M N P S j=>?_)
 obtain ⟨rfl,m⟩:=j
 refine I9 _ m<|Mv z<|T.bH 27 H z (fun H=>?_) (fun H=>?_)
 ·exact dead H
 refine Mv z<|have n:=pr0; ?_
 obtain ⟨U,_,rfl,o,⟨W,X,Y,Z,aa,ab,ac,rfl,ad,ae,af,p,ag,ai,aj⟩⟩:=n
 refine Vv (V.U9 z)<|Vv (V.fa R8 z)<|Vv (V.fa Y3 z)<|Vv (V.I6 (k:=3) Q0 z o.u z)<|Vv (V.P6 X5 z p)<|Vv (V.eq z z)<|Mv z<|T.bH 35 H z (fun H=>?_) (fun H=>?_)
 ·exact dead H
 refine Sk<|Sk<|Sk<|Sk<|Sk<|Sk<|Sk<|Vv (V.J9 z z)<|Vv (V.J9 z z)<|Ag z<|Nt<|Cf z<|T.skip<|Bn<|Th<|Sq<|T.norm [] z<|Rg<|Ag z<|Nt<|T.ret ?_
 obtain rfl:=Option.some.inj H
 exact T.F5 Tryz.results72 (Rv z) Li ⟨z,z⟩
theorem B2K {h:PH} {pv0:Value} {s1:F7} (pr0:Pt L6 h pv0 s1) {pc1:List Value} {c2:M7} (pr1:U0 h pc1 c2) {r_0:Int} (H:A8M s1 c2 = some r_0):∀ L,H5 Tryz.prog 76 [pv0,.agg pc1.toArray] h (L) (fun v h' L'=>v = .int .i64 r_0∧L' = L):=by
 intro L
 exact dead H
theorem B2h {h:PH} {pv0:Value} {s1:F7} (pr0:Pt L6 h pv0 s1) {pc1:List Value} {c2:M7} (pr1:U0 h pc1 c2) {r_0:Int} (H:A7u s1 c2 = some r_0):∀ L,H5 Tryz.prog 81 [pv0,.agg pc1.toArray] h (L) (fun v h' L'=>v = .int .i64 r_0∧L' = L):=by
 intro L
 exact dead H
theorem B8C {h : PH} {n : Nat} {pv0 : Value} {s1 : F7} (pr0 : Pt L6 h pv0 s1) {pc1 : List Value} {c2 : M7} (pr1 : U0 h pc1 c2) {r_0 : Int} (H : B5J n s1 c2 = some r_0) :
    ∃ fid us vs,fnV n = .func (.func fid) us.toArray vs.toArray∧∀ L,H5 Tryz.prog fid (us ++ [pv0,.agg pc1.toArray] ++ vs) h (L) (fun v h' L'=>v = .int .i64 r_0∧L' = L):=by
  unfold B5J at H
  refine rfE H (fun e H=>?_) (fun _ H=>?_)
  · subst e; exact ⟨64,[],[],rfl,B4v pr0 pr1 H⟩
  refine rfE H (fun e H=>?_) (fun _ H=>?_)
  · subst e; exact ⟨68,[],[],rfl,B1O pr0 pr1 H⟩
  refine rfE H (fun e H=>?_) (fun _ H=>?_)
  · subst e; exact ⟨72,[],[],rfl,B0n pr0 pr1 H⟩
  refine rfE H (fun e H=>?_) (fun _ H=>?_)
  · subst e; exact ⟨76,[],[],rfl,B2K pr0 pr1 H⟩
  refine rfE H (fun e H=>?_) (fun _ H=>?_)
  · subst e; exact ⟨81,[],[],rfl,B2h pr0 pr1 H⟩
  cases H
theorem B4B {h:PH} {pc0:List Value} {x1:G6} (pr0:I1 h pc0 x1) {pc1:List Value} {y2:G6} (pr1:I1 h pc1 y2) {r_0:Int} (H:A5R x1 y2 = some r_0):∀ L,H5 Tryz.prog 149 [.agg pc0.toArray,.agg pc1.toArray] h (L) (fun v h' L'=>v = .int .i64 r_0∧L' = L):=by
 intro L
 exact dead H
theorem C1E {h:PH} {pv0:Value} {pcs0:List (List Value)} {data1:List G6} (pr0:A7 I1 h pcs0 data1) {a3:Int} {b4:Int} {pv3:Value} {cmp5:G6→G6→Option Int} (pr3:A5A h pv3 cmp5) {q_0:List G6} (H:C1m data1 a3 b4 cmp5 = some q_0):∀ L,H5 Tryz.prog 308 [pv0,.int .i64 a3,.int .i64 b4,pv3] h (D8 174 3 pv0 pcs0::L) (fun v h' L'=>∃ ls0,v = .tuple #[]∧L' = D8 174 3 pv0 ls0::L∧A7 I1 h' ls0 q_0):=by
 intro L
 refine H5.enter Tryz.func308 z Tryz.ntmps308 z<|Sr<|Mv z ?_
 obtain ⟨c,d,H⟩:=bnd H
 refine Vv (V.L8 z z d)<|Ag z<|Nt<|T.A4J ?_
 obtain ⟨b,e,f⟩:=N7 H
 refine T.O5 (α:=Unit) [0] z (fun _u=>[]) (fun _u=>D8 174 3 pv0 pcs0::L) (fun _u hh=>b = ()) ?_ ?_
 ·have H:=e
  refine Bl<|T.N8 (α:=Nat) [0,2,8] z (fun a=>[]) (fun a=>D8 174 3 pv0 pcs0::L) (fun a hh=>iter (B5y b4 c) a () = some b) (fun a=>a) FUEL trivial z H ?_
  rintro a k m g
  obtain ⟨n,o,rfl,H,i⟩:=I4 g
  refine T.norm [0,2,8] z<|T.fl ?_
  refine Sq<|Sr<|Mv z<|Mv z<|Vv (V.lt z z)<|Nt<|T.cH H z (fun H=>?_) (fun H=>?_)
  ·exact dead H
  refine T.exit<|Te<|Te<|have H:=D7 H i; Be<|Th<|T.met () Li H (A9.app trivial ⟨z,trivial⟩) z
 rintro _ p q j
 have H:=J5 j f
 refine T.norm [0] z<|T.fl ?_
 obtain rfl:=Option.some.inj H
 exact T.B2D Tryz.results308 Li ⟨_,z,z,pr0.u⟩
theorem C2m (n:Nat):∀ {h:PH} {pv0:Value} {pcs0:List (List Value)} {data1:List G6} (pr0:A7 I1 h pcs0 data1) {a3:Int} {b4:Int} {limit5:Int} {pv4:Value} {cmp6:G6→G6→Option Int} (pr4:A5A h pv4 cmp6) {q_0:List G6} (H:C1h n data1 a3 b4 limit5 cmp6 = some q_0) (L:List E9),H5 Tryz.prog 229 [pv0,.int .i64 a3,.int .i64 b4,.int .i64 limit5,pv4] h (D8 174 3 pv0 pcs0::L) (fun v h' L'=>∃ ls0,v = .tuple #[]∧L' = D8 174 3 pv0 ls0::L∧A7 I1 h' ls0 q_0):=by
  induction n with
  | zero=>intros; rename_i H _; cases H
  | succ n self=>
    intro h pv0 pcs0 data1 pr0 a3 b4 limit5 pv4 cmp6 pr4 q_0 H L
    refine H5.enter Tryz.func229 z Tryz.ntmps229 z<|Sr<|Ag z<|Nt<|Sr<|Ag z<|Nt ?_
    obtain ⟨b,c,d⟩:=N7 H
    have H:=c
    refine Bl<|T.N8 (α:=Nat) [0,1,2,4] z (fun a=>[]) (fun a=>D8 174 3 pv0 pcs0::L) (fun a hh=>iter (B5e data1 a3 b4 cmp6) a () = some b) (fun a=>a) FUEL trivial z H ?_
    rintro a o p e
    obtain ⟨q,r,rfl,H,f⟩:=I4 e
    refine T.norm [0,1,2,4] z<|T.fl ?_
    refine Bl<|Sr<|Mv z<|Mv z ?_
    obtain ⟨s,g,H⟩:=bnd H
    refine Vv (V.A0M z z g)<|Ag z<|Nt<|Sq<|Sr<|Mv z<|Vv (V.le z z)<|Nt<|T.cH H z (fun H=>?_) (fun H=>?_)
    ·refine Sr<|Mv z<|Mv z<|Mv z<|Mv z ?_
     obtain ⟨t,i,H⟩:=bnd H
     refine To (O.C8 z (C1E pr0.u pr4.u i _) z fun w x y A j=>?_)
     obtain ⟨B,rfl,k,m⟩:=j
     refine I9 _ k<|Nt<|T.ret<|Tr<|Br<|Tr<|have H:=D7 H f; Br<|have H:=J5 H d; ?_
     obtain rfl:=Option.some.inj H
     exact T.C3J Tryz.results229 Li ⟨_,z,z,m⟩
    exact dead H
theorem B4S {h:PH} {pv0:Value} {pcs0:List (List Value)} {x1:List G6} (pr0:A7 I1 h pcs0 x1) {pv1:Value} {cmp3:G6→G6→Option Int} (pr1:A5A h pv1 cmp3) {q_0:List G6} (H:B1x x1 cmp3 = some q_0):∀ L,H5 Tryz.prog 148 [pv0,pv1] h (D8 174 3 pv0 pcs0::L) (fun v h' L'=>∃ ls0,v = .tuple #[]∧L' = D8 174 3 pv0 ls0::L∧A7 I1 h' ls0 q_0):=by
 intro L
 refine H5.enter Tryz.func148 z Tryz.ntmps148 z<|Sr<|Mv z<|Vv (V.A2E X5 z (j:=0) z pr0.len)<|Ag z<|Nt<|Rg<|Mv z<|Mv z<|Mv z ?_
 obtain ⟨k,a,H⟩:=bnd H
 refine Vv (V.A9Z Tryz.underlying3 Tryz.underlying240 z a) ?_
 obtain ⟨m,b,H⟩:=bnd H
 refine To (O.C8 z (B1U b _) z fun n o p q c=>?_)
 obtain ⟨rfl,d⟩:=c
 refine I9 _ d<|Mv z ?_
 obtain ⟨r,e,H⟩:=bnd H
 refine To (O.C8 z (C2m _ pr0.u pr1.u e _) z fun s t w x f=>?_)
 obtain ⟨y,rfl,g,i⟩:=f
 refine I9 _ g<|Ni ?_
 obtain rfl:=Option.some.inj H
 exact T.B2D Tryz.results148 Li ⟨_,z,z,i⟩
theorem B9E {h:PH} {pb0:Nat} {s1:F7} {v0_1:Value} {v0_3:Value} {css0_4:List (List Value)} {v0_6:Value} {css0_7:List (List Value)} {v0_9:Value} {css0_10:List (List Value)} {v0_12:Value} {css0_13:List (List Value)} {v0_15:Value} {css0_16:List (List Value)} {v0_18:Value} {css0_19:List (List Value)} (hP0_2:Pt M8 h v0_1 s1.O6) (hR0_5:A7 E8 h css0_4 s1.fp.H8) (hR0_8:A7 G7 h css0_7 s1.fp.F3) (hR0_11:A7 I1 h css0_10 s1.fp.J8) (hR0_14:A7 (VI .i64) h css0_13 s1.fp.K5) (hR0_17:A7 H9 h css0_16 s1.fp.K9) (hR0_20:A7 (VI .i64) h css0_19 s1.R6) {pc1:List Value} {c2:M7} (pr1:U0 h pc1 c2) {q_0:F7} (H:B7Z s1 c2 = some q_0):∀ L,H5 Tryz.prog 65 [.pointer (some ⟨pb0,0,none⟩),.agg pc1.toArray] h (blk pb0 (.cells [v0_1,v0_3,v0_6,v0_9,v0_12,v0_15,v0_18,.int .i64 s1.V5].toArray 86)::D8 95 7 v0_3 css0_4::D8 39 9 v0_6 css0_7::D8 174 3 v0_9 css0_10::D8 3 1 v0_12 css0_13::D8 42 6 v0_15 css0_16::D8 3 1 v0_18 css0_19::L) (fun v h' L'=>∃ vl0_1 vl0_3 cssl0_4 vl0_6 cssl0_7 vl0_9 cssl0_10 vl0_12 cssl0_13 vl0_15 cssl0_16 vl0_18 cssl0_19,v = .tuple #[]∧L' = blk pb0 (.cells [vl0_1,vl0_3,vl0_6,vl0_9,vl0_12,vl0_15,vl0_18,.int .i64 q_0.V5].toArray 86)::D8 95 7 vl0_3 cssl0_4::D8 39 9 vl0_6 cssl0_7::D8 174 3 vl0_9 cssl0_10::D8 3 1 vl0_12 cssl0_13::D8 42 6 vl0_15 cssl0_16::D8 3 1 vl0_18 cssl0_19::L∧Pt M8 h' vl0_1 q_0.O6∧A7 E8 h' cssl0_4 q_0.fp.H8∧A7 G7 h' cssl0_7 q_0.fp.F3∧A7 I1 h' cssl0_10 q_0.fp.J8∧A7 (VI .i64) h' cssl0_13 q_0.fp.K5∧A7 H9 h' cssl0_16 q_0.fp.K9∧A7 (VI .i64) h' cssl0_19 q_0.R6):=by
 intro L
 obtain ⟨o,rfl,f⟩:=pr1
 refine H5.enter Tryz.func65 rfl Tryz.ntmps65 rfl<|Sr<|To (O.V3 rfl rfl rfl fun W X Y p=>Nt<|Sr<|Vv (V.fa A7N rfl)<|Vv (V.B9v (k:=1) A0p rfl p (Nat.le_of_ble_eq_true rfl))<|To (O.alloc A2s rfl rfl fun Z=>To (O.stF (vs:=[.string c2.L9.H7,.string c2.L9.Y0,.string c2.L9.Q5,.int .i64 c2.L9.Q6,.int .i64 c2.L9.U5,.string c2.L9.V8,.bool c2.L9.A0e,.bool c2.L9.Q3,o]) A0p rfl rfl (j:=0) rfl rfl (by (simp only [Sl.ones,G9.one f,Bool.and_true,Bool.true_and]) <;> rfl) rfl ?_)))
 refine T.fl ?_
 refine Nt<|Sr<|Vv (V.fa V4 z)<|Vv (V.ldO (k:=8) Z4 z (j:=0) z z) ?_
 obtain ⟨q,r,H⟩:=bnd H
 refine To (O.C8 z (A3a f.u r _) z fun a aa ab ac s=>?_)
 obtain ⟨ad,w,y⟩:=s
 refine I9 _ w<|Vv (V.fa V4 rfl)<|T.M5 0 rfl fun A B=>To (O.st (vs:=[a]) (k:=8) Z4 rfl rfl (j:=1) rfl B (by (simp only [Sl.ones,A,Bool.and_true,Bool.true_and]) <;> rfl) ?_)
 refine T.fl ?_
 refine Nt<|Sq<|Sr<|Mv z<|Vv (V.U9 z)<|Vv (V.fa R8 z)<|Vv (V.fa Y7 z)<|Vv (V.ldO (k:=4) F4 z (j:=2) z z)<|Vv (V.A2E D6 z (j:=6) z hR0_14.len)<|Vv (V.gt z z)<|Nt<|T.cH H z (fun H=>?_) (fun H=>?_)
 ·exact dead H
 refine T.skip<|Th<|Sq<|I7 1 z<|T.fl ?_
 refine T.K8 fun b ae C=>have D:=A7.slc C y.u; I7 3 z<|T.fl ?_
 refine I7 2 z<|T.fl ?_
 refine I7 2 z<|T.fl ?_
 refine T.O8 (t:=(.v 0 (.v 1 (.v 2 (.v 3 (.v 4 (.x 5 (.v 6 (.alt 7 (.alt 8 (.g (.v 9 (.v 10 (.v 11 (.alt 12 .done .no))))) .no) .no))))))))) 8 3 1 rfl rfl I8 (by kernel_rfl) ?_
 refine Tm z z<|Tm z z<|Tv z (V.U9 rfl)<|Tv z (V.fa R8 rfl)<|Tv z (V.fa M3 rfl)<|T.tx rfl rfl (Val.XA fun _ _ _=>V.ldO (k:=2) J3 rfl (j:=1) rfl rfl) rfl Calm.i<|Tv z (Val.XA fun _ _ _=>V.C0D (j:=0) (by exact A0p) rfl rfl) ?_
 refine Tp z z (SX.two (XA.fr [0] Lr z) (XA.fr [2,2,2] Lr z)) (O.bs O9 A2s z (e:=z) (hk:=z) (xs:=[.tmp 37]) (hv:=CO.eq (CO.cons z CO.nil)) (hw:=O7.of z) (hd:=z) fun af=>?_) T.Q9
 have c:A7 G7 b [[.string c2.L9.H7,.string c2.L9.Y0,.string c2.L9.Q5,.int .i64 c2.L9.Q6,.int .i64 c2.L9.U5,.string c2.L9.V8,.bool c2.L9.A0e,.bool c2.L9.Q3,a]] ([(E5.mk c2.L9.H7 c2.L9.Y0 c2.L9.Q5 c2.L9.Q6 c2.L9.U5 c2.L9.V8 c2.L9.A0e c2.L9.Q3 q)]:List E5):=(A7.cons ⟨a,z,D⟩ A7.nil)
 obtain ⟨E,m,H⟩:=bnd H
 refine Tp z z (SX.two (XA.fr [1] Lr z) (XA.fr [3,3,3] Lr z)) (O.apX O9 O9 A2s z z z (j:=3) z (Src.row (j:=0) z) (O7.of z) (A7.ones G7.plain c) hR0_8.u c m z fun G ag ai=>?_) T.Q9
 have I:A7 G7 b (css0_7 ++ [[.string c2.L9.H7,.string c2.L9.Y0,.string c2.L9.Q5,.int .i64 c2.L9.Q6,.int .i64 c2.L9.U5,.string c2.L9.V8,.bool c2.L9.A0e,.bool c2.L9.Q3,a]]) E:=A7.ap hR0_8.u c m
 refine T.fl ?_
 refine I7 1 z<|T.fl ?_
 refine T.drop<|T.M6 Lr<|Tv z (V.U9 rfl)<|Tv z (V.fa R8 rfl)<|Tv z (V.fa M3 rfl)<|T.M5 0 rfl fun J K=>Tp z z (SX.one (XA.fr [1] Lr rfl) rfl) (O.st (vs:=[G]) (k:=2) J3 rfl rfl (j:=2) rfl K (by (simp only [Sl.ones,J,Bool.and_true,Bool.true_and]) <;> rfl) ?_) T.Q9
 refine T.fl ?_
 refine T.R5 (SX.one (XA.fr [2] Lr z) z)<|Th<|Rg<|Mv z<|Mv z<|Vv (V.U9 z)<|Vv (V.fa Z8 z)<|Vv (V.ldO (k:=6) F4 z (j:=0) z z)<|To (O.bs D6 Q4 z (e:=z) (hk:=z) (xs:=[.const (.int .i64 (-1))]) (hv:=CO.eq (CO.cons z CO.nil)) (hw:=O7.of z) (hd:=z) fun aj=>have d:A7 (VI .i64) b [[.int .i64 (-1:Int)]] ([(-1:Int)]:List Int):=(A7.cons z A7.nil); ?_)
 obtain ⟨M,n,H⟩:=bnd H
 refine To (O.apX D6 D6 Q4 z z z (j:=8) z (Src.row (j:=0) z) (O7.of z) (A7.ones VI.plain d) hR0_20.u d n z fun N ak am=>have P:A7 (VI .i64) b (css0_19 ++ [[.int .i64 (-1:Int)]]) M:=A7.ap hR0_20.u d n; T.fl ?_)
 refine I7 1 z<|T.fl ?_
 refine T.drop<|Vv (V.U9 rfl)<|Vv (V.fa Z8 rfl)<|T.M5 0 rfl fun S U=>To (O.st (vs:=[N]) (k:=6) F4 rfl rfl (j:=1) rfl U (by (simp only [Sl.ones,S,Bool.and_true,Bool.true_and]) <;> rfl) ?_)
 refine T.fl ?_
 refine Ni<|I7 3 z<|T.fl ?_
 refine T.drop<|I7 1 z<|T.fl ?_
 refine I7 6 z<|T.fl ?_
 refine I7 6 z<|T.fl ?_
 refine I7 6 z<|T.fl ?_
 refine I7 5 z<|T.fl ?_
 refine I7 6 z<|T.fl ?_
 refine I7 6 z<|T.fl ?_
 obtain rfl:=Option.some.inj H
 exact T.B2D Tryz.results65 Li ⟨_,_,_,_,_,_,_,_,_,_,_,_,_,z,z,hP0_2.u,hR0_5.u,I,hR0_11.u,hR0_14.u,hR0_17.u,P⟩
theorem B7H {h:PH} {pb0:Nat} {s1:F7} {v0_1:Value} {v0_3:Value} {css0_4:List (List Value)} {v0_6:Value} {css0_7:List (List Value)} {v0_9:Value} {css0_10:List (List Value)} {v0_12:Value} {css0_13:List (List Value)} {v0_15:Value} {css0_16:List (List Value)} {v0_18:Value} {css0_19:List (List Value)} (hP0_2:Pt M8 h v0_1 s1.O6) (hR0_5:A7 E8 h css0_4 s1.fp.H8) (hR0_8:A7 G7 h css0_7 s1.fp.F3) (hR0_11:A7 I1 h css0_10 s1.fp.J8) (hR0_14:A7 (VI .i64) h css0_13 s1.fp.K5) (hR0_17:A7 H9 h css0_16 s1.fp.K9) (hR0_20:A7 (VI .i64) h css0_19 s1.R6) {pc1:List Value} {c2:M7} (pr1:U0 h pc1 c2) {q_0:F7} (H:B4P s1 c2 = some q_0):∀ L,H5 Tryz.prog 69 [.pointer (some ⟨pb0,0,none⟩),.agg pc1.toArray] h (blk pb0 (.cells [v0_1,v0_3,v0_6,v0_9,v0_12,v0_15,v0_18,.int .i64 s1.V5].toArray 86)::D8 95 7 v0_3 css0_4::D8 39 9 v0_6 css0_7::D8 174 3 v0_9 css0_10::D8 3 1 v0_12 css0_13::D8 42 6 v0_15 css0_16::D8 3 1 v0_18 css0_19::L) (fun v h' L'=>∃ vl0_1 vl0_3 cssl0_4 vl0_6 cssl0_7 vl0_9 cssl0_10 vl0_12 cssl0_13 vl0_15 cssl0_16 vl0_18 cssl0_19,v = .tuple #[]∧L' = blk pb0 (.cells [vl0_1,vl0_3,vl0_6,vl0_9,vl0_12,vl0_15,vl0_18,.int .i64 q_0.V5].toArray 86)::D8 95 7 vl0_3 cssl0_4::D8 39 9 vl0_6 cssl0_7::D8 174 3 vl0_9 cssl0_10::D8 3 1 vl0_12 cssl0_13::D8 42 6 vl0_15 cssl0_16::D8 3 1 vl0_18 cssl0_19::L∧Pt M8 h' vl0_1 q_0.O6∧A7 E8 h' cssl0_4 q_0.fp.H8∧A7 G7 h' cssl0_7 q_0.fp.F3∧A7 I1 h' cssl0_10 q_0.fp.J8∧A7 (VI .i64) h' cssl0_13 q_0.fp.K5∧A7 H9 h' cssl0_16 q_0.fp.K9∧A7 (VI .i64) h' cssl0_19 q_0.R6):=by
 intro L
 exact dead H
theorem B6b {h:PH} {pb0:Nat} {s1:F7} {v0_1:Value} {v0_3:Value} {css0_4:List (List Value)} {v0_6:Value} {css0_7:List (List Value)} {v0_9:Value} {css0_10:List (List Value)} {v0_12:Value} {css0_13:List (List Value)} {v0_15:Value} {css0_16:List (List Value)} {v0_18:Value} {css0_19:List (List Value)} (hP0_2:Pt M8 h v0_1 s1.O6) (hR0_5:A7 E8 h css0_4 s1.fp.H8) (hR0_8:A7 G7 h css0_7 s1.fp.F3) (hR0_11:A7 I1 h css0_10 s1.fp.J8) (hR0_14:A7 (VI .i64) h css0_13 s1.fp.K5) (hR0_17:A7 H9 h css0_16 s1.fp.K9) (hR0_20:A7 (VI .i64) h css0_19 s1.R6) {pc1:List Value} {c2:M7} (pr1:U0 h pc1 c2) {q_0:F7} (H:B3w s1 c2 = some q_0):∀ L,H5 Tryz.prog 73 [.pointer (some ⟨pb0,0,none⟩),.agg pc1.toArray] h (blk pb0 (.cells [v0_1,v0_3,v0_6,v0_9,v0_12,v0_15,v0_18,.int .i64 s1.V5].toArray 86)::D8 95 7 v0_3 css0_4::D8 39 9 v0_6 css0_7::D8 174 3 v0_9 css0_10::D8 3 1 v0_12 css0_13::D8 42 6 v0_15 css0_16::D8 3 1 v0_18 css0_19::L) (fun v h' L'=>∃ vl0_1 vl0_3 cssl0_4 vl0_6 cssl0_7 vl0_9 cssl0_10 vl0_12 cssl0_13 vl0_15 cssl0_16 vl0_18 cssl0_19,v = .tuple #[]∧L' = blk pb0 (.cells [vl0_1,vl0_3,vl0_6,vl0_9,vl0_12,vl0_15,vl0_18,.int .i64 q_0.V5].toArray 86)::D8 95 7 vl0_3 cssl0_4::D8 39 9 vl0_6 cssl0_7::D8 174 3 vl0_9 cssl0_10::D8 3 1 vl0_12 cssl0_13::D8 42 6 vl0_15 cssl0_16::D8 3 1 vl0_18 cssl0_19::L∧Pt M8 h' vl0_1 q_0.O6∧A7 E8 h' cssl0_4 q_0.fp.H8∧A7 G7 h' cssl0_7 q_0.fp.F3∧A7 I1 h' cssl0_10 q_0.fp.J8∧A7 (VI .i64) h' cssl0_13 q_0.fp.K5∧A7 H9 h' cssl0_16 q_0.fp.K9∧A7 (VI .i64) h' cssl0_19 q_0.R6):=by
 intro L
 obtain ⟨ax,rfl,ay⟩:=pr1
 refine H5.enter Tryz.func73 z Tryz.ntmps73 z<|Sr<|To (O.V3 z z z fun aA aB aC a=>Nt<|Sr<|Mv z<|Vv (V.fa A2I z)<|Vv (V.I6 (k:=10) F6 z a z)<|Vv (V.fa A2K z)<|Vv (V.I6 (k:=11) F6 z a z) ?_)
 obtain ⟨c,s,H⟩:=bnd H
 refine To (O.C8 z (H5.A1v (val:=.int .i64 c) Tryz.func147 z B2W fun aD aE w=>H5.A1v (val:=.int .i64 c) Tryz.func147 z Y4 fun aG aI y=>H5.A1v (val:=.int .i64 c) Tryz.func147 z Y4 fun aJ aK A=>H5.A1v (val:=.int .i64 c) Tryz.func147 z Y4 fun aM aN B=>H5.A1v (val:=.int .i64 c) Tryz.func147 z Y4 fun aO aP C=>H5.A1v (val:=.int .i64 c) Tryz.func147 z Y4 fun aS aU D=>H5.A1v (val:=.int .i64 c) Tryz.func147 z Y4 fun E aV G=>?_) z fun aW d aX aY I=>?_)
 ·have J:=A7.slc y hR0_5.u
  have K:=A7.slc A hR0_8.u
  have M:=A7.slc B hR0_11.u
  have N:=A7.slc C hR0_14.u
  have P:=A7.slc D hR0_17.u
  have S:=A7.slc G hR0_20.u
  exact C2j (Pt.mk w.u (show L6 E [v0_1,v0_3,v0_6,v0_9,v0_12,v0_15,v0_18,.int .i64 s1.V5] (F7.mk s1.O6 (A8.mk s1.fp.H8 s1.fp.F3 s1.fp.J8 s1.fp.K5 s1.fp.K9) s1.R6 s1.V5) from ⟨v0_1,v0_3,v0_6,v0_9,v0_12,v0_15,v0_18,z,hP0_2.u,J.u,K.u,M.u,N.u,P.u,S⟩)) s _
 obtain ⟨rfl,U⟩:=I
 refine I9 _ U<|Ag z<|Nt<|Sq<|Sr<|Mv z<|Vv (V.lt z z)<|Nt<|T.cH H z (fun H=>?_) (fun H=>?_)
 ·refine Sr<|Mv z<|Vv (V.U9 z)<|Vv (V.fa R8 z)<|Vv (V.fa Y3 z)<|Vv (V.ldO (k:=3) Q0 z (j:=0) z z)<|Vv (V.A2E X5 z (j:=3) z hR0_11.len)<|Ag z<|Nt<|I7 3 z<|T.fl ?_
  refine I7 1 z<|T.fl ?_
  refine T.O8 (t:=(.v 0 (.v 1 (.v 2 (.v 3 (.v 4 (.x 5 (.v 6 (.v 7 (.v 8 (.v 9 (.v 10 (.v 11 (.v 12 (.v 13 (.v 14 (.v 15 (.v 16 (.alt 17 (.alt 18 (.g (.v 19 (.v 20 (.v 21 (.alt 22 .done .no))))) .no) .no))))))))))))))))))) 18 2 0 rfl rfl I8 (by kernel_rfl) ?_
  refine Tm z z<|Tm z z<|Tv z (V.U9 z)<|Tv z (V.fa R8 z)<|Tv z (V.fa Y3 z)<|T.tx z z (Val.XA fun _ _ _=>V.ldO (k:=3) Q0 z (j:=0) z z) z Calm.i<|Tv z (V.fa A2I z)<|Tv z (V.I6 (k:=10) F6 z a.u z)<|Tv z (V.fa A2K z)<|Tv z (V.I6 (k:=11) F6 z a.u z)<|Tv z (V.minS z z)<|Tv z (V.fa A2I z)<|Tv z (V.I6 (k:=10) F6 z a.u z)<|Tv z (V.fa A2K z)<|Tv z (V.I6 (k:=11) F6 z a.u z)<|Tv z (V.maxS z z)<|Tv z (V.bld (xs:=[(0,.tmp 29),(1,.tmp 34)]) (cs:=[_,_,_]) B6I B6F z (F8.cons z z z (F8.cons z z z F8.nil)))<|Tp z z (SX.two (XA.fr [] Lr z) (XA.fr [1,1] Lr z)) (O.bs X5 A5p z (e:=z) (hk:=z) (xs:=[.tmp 35]) (hv:=CO.eq (CO.cons z CO.nil)) (hw:=O7.of z) (hd:=z) fun aZ=>?_) T.Q9
  have f:A7 I1 d [[.string (minS c2.fA c2.fB),.string (maxS c2.fA c2.fB),.int .u8 (0:Int)]] ([(G6.mk (minS c2.fA c2.fB) (maxS c2.fA c2.fB) (0:Int))]:List G6):=(A7.cons z A7.nil)
  obtain ⟨W,o,H⟩:=bnd H
  refine Tp z z (SX.two (XA.fr [] Lr z) (XA.fr [2,2] Lr z)) (O.apX X5 X5 A5p z z z (j:=2) z (Src.row (j:=0) z) (O7.of z) (A7.ones I1.plain f) hR0_11.u f o z fun X a0 a1=>?_) T.Q9
  have m:A7 I1 d (css0_10 ++ [[.string (minS c2.fA c2.fB),.string (maxS c2.fA c2.fB),.int .u8 (0:Int)]]) W:=A7.ap hR0_11.u f o
  refine T.fl ?_
  refine I7 1 z<|T.fl ?_
  refine T.drop<|T.M6 Lr<|Tv z (V.U9 rfl)<|Tv z (V.fa R8 rfl)<|Tv z (V.fa Y3 rfl)<|T.M5 0 rfl fun Y Z=>Tp z z (SX.one (XA.fr [] Lr rfl) rfl) (O.st (vs:=[X]) (k:=3) Q0 rfl rfl (j:=1) rfl Z (by (simp only [Sl.ones,Y,Bool.and_true,Bool.true_and]) <;> rfl) ?_) T.Q9
  refine T.fl ?_
  refine T.R5 (SX.one (XA.fr [] Lr z) z)<|Th<|Sq<|T.norm [0,3,4] z<|T.fl ?_
  refine Rg<|Mv z<|Vv (V.U9 z)<|Vv (V.fa R8 z)<|Vv (V.fa Y3 z)<|Vv (V.ldO (k:=3) Q0 z (j:=0) z z)<|Mv z ?_
  obtain ⟨b,p,H⟩:=bnd H
  obtain ⟨a2,aa,rfl⟩:=A7.get m p
  refine Vv (V.ixR X5 z z (j:=1) z (A7.bd m p))<|Vv (V.fa A3w z) ?_
  obtain ⟨ab,ac,H⟩:=bnd H
  refine To (O.C6g (k:=2) A5z z z (j:=1) z z z z aa<|have ad:A7 I1 d (List.set (css0_10 ++ [[.string (minS c2.fA c2.fB),.string (maxS c2.fA c2.fB),.int .u8 (0:Int)]]) (s1.fp.J8.length:Int).toNat (over [.string b.fA,.string b.fB,.int .u8 b.J4] [.int .u8 (2:Int)] 2)) ab:=A7.set m (show I1 d (over [.string b.fA,.string b.fB,.int .u8 b.J4] [.int .u8 (2:Int)] 2) (G6.mk b.fA b.fB (2:Int)) from z) ac; Nt<|Sr<|Mv z<|Vv (V.U9 z)<|Vv (V.fa R8 z)<|Vv (V.fa Y3 z)<|Vv (V.ldO (k:=3) Q0 z (j:=1) z z) ?_)
  obtain ⟨a3,ae,H⟩:=bnd H
  refine To (O.C8 z (B4S ad (show A5A d (.func (.func 149) #[] #[]) A5R from ⟨⟨z,z⟩,.inr ⟨149,[],[],z,fun a4 a5 a6 a7 af a8 a9 ag ah ai aj=>B4B af ag ai aj⟩⟩) ae _) z fun al q av az ak=>?_)
  obtain ⟨ba,rfl,am,an⟩:=ak
  refine I9 _ am<|Nt<|I7 5 z<|T.fl ?_
  refine I7 2 z<|T.fl ?_
  refine T.O8 (t:=(.v 0 (.v 1 (.v 2 (.v 3 (.v 4 (.x 5 (.v 6 (.v 7 (.v 8 (.v 9 (.v 10 (.alt 11 (.alt 12 (.g (.v 13 (.v 14 (.v 15 (.alt 16 .done .no))))) .no) .no))))))))))))) 12 2 0 rfl rfl I8 (by kernel_rfl) ?_
  refine Tm z z<|Tm z z<|Tv z (V.U9 z)<|Tv z (V.fa R8 z)<|Tv z (V.fa T9 z)<|T.tx z z (Val.XA fun _ _ _=>V.ldO (k:=5) Q8 z (j:=0) z z) z Calm.i<|Tv z (V.fa A2I z)<|Tv z (V.I6 (k:=10) F6 z a.u z)<|Tv z (V.fa A2K z)<|Tv z (V.I6 (k:=11) F6 z a.u z)<|Tv z (V.bld (xs:=[(0,.const (.int .u8 (1))),(2,.tmp 62),(3,.tmp 64),(5,.const (.int .i64 (2)))]) (cs:=[_,_,_,_,_,_]) A7k A7A z (F8.cons z z z (F8.cons z z z (F8.cons z z z (F8.cons z z z F8.nil)))))<|Tp z z (SX.two (XA.fr [] Lr z) (XA.fr [1,1] Lr z)) (O.bs S9 A3H z (e:=z) (hk:=z) (xs:=[.tmp 65]) (hv:=CO.eq (CO.cons z CO.nil)) (hw:=O7.of z) (hd:=z) fun bb=>?_) T.Q9
  have n:A7 H9 q [[.int .u8 (1:Int),.int .i64 (0:Int),.string c2.fA,.string c2.fB,.string (⟨#[]⟩:ByteArray),.int .i64 (2:Int)]] ([(G5.mk (1:Int) (0:Int) c2.fA c2.fB (⟨#[]⟩:ByteArray) (2:Int))]:List G5):=(A7.cons z A7.nil)
  obtain ⟨ao,r,H⟩:=bnd H
  refine Tp z z (SX.two (XA.fr [] Lr z) (XA.fr [2,2] Lr z)) (O.apX S9 S9 A3H z z z (j:=2) z (Src.row (j:=0) z) (O7.of z) (A7.ones H9.plain n) hR0_17.u n r z fun aq bc be=>?_) T.Q9
  have ar:A7 H9 q (css0_16 ++ [[.int .u8 (1:Int),.int .i64 (0:Int),.string c2.fA,.string c2.fB,.string (⟨#[]⟩:ByteArray),.int .i64 (2:Int)]]) ao:=A7.ap hR0_17.u n r
  refine T.fl ?_
  refine I7 1 z<|T.fl ?_
  refine T.drop<|T.M6 Lr<|Tv z (V.U9 rfl)<|Tv z (V.fa R8 rfl)<|Tv z (V.fa T9 rfl)<|T.M5 0 rfl fun au aw=>Tp z z (SX.one (XA.fr [] Lr rfl) rfl) (O.st (vs:=[aq]) (k:=5) Q8 rfl rfl (j:=1) rfl aw (by (simp only [Sl.ones,au,Bool.and_true,Bool.true_and]) <;> rfl) ?_) T.Q9
  refine T.fl ?_
  refine T.R5 (SX.one (XA.fr [] Lr z) z)<|I7 6 z<|T.fl ?_
  refine I7 2 z<|T.fl ?_
  refine I7 6 z<|T.fl ?_
  refine I7 4 z<|T.fl ?_
  refine I7 6 z<|T.fl ?_
  refine I7 6 z<|T.fl ?_
  refine I7 6 z<|T.fl ?_
  obtain rfl:=Option.some.inj H
  exact T.B2D Tryz.results73 Li ⟨_,_,_,_,_,_,_,_,_,_,_,_,_,z,z,hP0_2.u,hR0_5.u,hR0_8.u,an,hR0_14.u,ar,hR0_20.u⟩
 exact dead H
theorem B7Q {h : PH} {n : Nat} {pb0 : Nat} {s1 : F7} {v0_1 : Value} {v0_3 : Value} {css0_4 : List (List Value)} {v0_6 : Value} {css0_7 : List (List Value)} {v0_9 : Value} {css0_10 : List (List Value)} {v0_12 : Value} {css0_13 : List (List Value)} {v0_15 : Value} {css0_16 : List (List Value)} {v0_18 : Value} {css0_19 : List (List Value)} (hP0_2 : Pt M8 h v0_1 s1.O6) (hR0_5 : A7 E8 h css0_4 s1.fp.H8) (hR0_8 : A7 G7 h css0_7 s1.fp.F3) (hR0_11 : A7 I1 h css0_10 s1.fp.J8) (hR0_14 : A7 (VI .i64) h css0_13 s1.fp.K5) (hR0_17 : A7 H9 h css0_16 s1.fp.K9) (hR0_20 : A7 (VI .i64) h css0_19 s1.R6) {pc1 : List Value} {c2 : M7} (pr1 : U0 h pc1 c2) {q_0 : F7} (H : B5U n s1 c2 = some q_0) :
    ∃ fid us vs,fnV n = .func (.func fid) us.toArray vs.toArray∧∀ L,H5 Tryz.prog fid (us ++ [.pointer (some ⟨pb0,0,none⟩),.agg pc1.toArray] ++ vs) h (blk pb0 (.cells [v0_1,v0_3,v0_6,v0_9,v0_12,v0_15,v0_18,.int .i64 s1.V5].toArray 86)::D8 95 7 v0_3 css0_4::D8 39 9 v0_6 css0_7::D8 174 3 v0_9 css0_10::D8 3 1 v0_12 css0_13::D8 42 6 v0_15 css0_16::D8 3 1 v0_18 css0_19::L) (fun v h' L'=>∃ vl0_1 vl0_3 cssl0_4 vl0_6 cssl0_7 vl0_9 cssl0_10 vl0_12 cssl0_13 vl0_15 cssl0_16 vl0_18 cssl0_19,v = .tuple #[]∧L' = blk pb0 (.cells [vl0_1,vl0_3,vl0_6,vl0_9,vl0_12,vl0_15,vl0_18,.int .i64 q_0.V5].toArray 86)::D8 95 7 vl0_3 cssl0_4::D8 39 9 vl0_6 cssl0_7::D8 174 3 vl0_9 cssl0_10::D8 3 1 vl0_12 cssl0_13::D8 42 6 vl0_15 cssl0_16::D8 3 1 vl0_18 cssl0_19::L∧Pt M8 h' vl0_1 q_0.O6∧A7 E8 h' cssl0_4 q_0.fp.H8∧A7 G7 h' cssl0_7 q_0.fp.F3∧A7 I1 h' cssl0_10 q_0.fp.J8∧A7 (VI .i64) h' cssl0_13 q_0.fp.K5∧A7 H9 h' cssl0_16 q_0.fp.K9∧A7 (VI .i64) h' cssl0_19 q_0.R6):=by
  unfold B5U at H
  refine rfE H (fun e H=>?_) (fun _ H=>?_)
  · subst e; exact ⟨65,[],[],rfl,B9E hP0_2 hR0_5 hR0_8 hR0_11 hR0_14 hR0_17 hR0_20 pr1 H⟩
  refine rfE H (fun e H=>?_) (fun _ H=>?_)
  · subst e; exact ⟨69,[],[],rfl,B7H hP0_2 hR0_5 hR0_8 hR0_11 hR0_14 hR0_17 hR0_20 pr1 H⟩
  refine rfE H (fun e H=>?_) (fun _ H=>?_)
  · subst e; exact ⟨73,[],[],rfl,B6b hP0_2 hR0_5 hR0_8 hR0_11 hR0_14 hR0_17 hR0_20 pr1 H⟩
  cases H
theorem A9H {h:PH} {k1:Int} {r_0:A8H} {r_1:Bool} (H:A9c k1 = some (r_0,r_1)):∀ L,H5 Tryz.prog 27 [.int .u8 k1] h (L) (fun v h' L'=>v = .tuple #[.agg #[.string r_0.A5E,(fnV r_0.B8o),(fnV r_0.B8z),(fnV r_0.C4t),(fnV r_0.C2x)],.bool r_1]∧L' = L):=by
 intro L
 refine H5.enter Tryz.func27 rfl Tryz.ntmps27 rfl<|Sr<|To (O.alloc B0v rfl rfl fun f=>Ag z<|Nt<|Sr<|Vv (V.bld (xs:=[]) (cs:=[_,_,_,_,_]) A3Y A4c rfl F8.nil)<|Vv (V.bld (xs:=[(0,.const (.string ⟨#[108,97,116,101]⟩)),(1,.func 64),(2,.func 65),(3,.func 66),(4,.func 67)]) (cs:=[_,_,_,_,_]) A3Y A4c rfl (F8.cons rfl rfl rfl (F8.cons rfl rfl rfl (F8.cons rfl rfl rfl (F8.cons rfl rfl rfl (F8.cons rfl rfl rfl F8.nil))))))<|Vv (V.bld (xs:=[(0,.const (.string ⟨#[99,97,110,99,101,108]⟩)),(1,.func 68),(2,.func 69),(3,.func 70),(4,.func 71)]) (cs:=[_,_,_,_,_]) A3Y A4c rfl (F8.cons rfl rfl rfl (F8.cons rfl rfl rfl (F8.cons rfl rfl rfl (F8.cons rfl rfl rfl (F8.cons rfl rfl rfl F8.nil))))))<|Vv (V.bld (xs:=[(0,.const (.string ⟨#[113,117,97,114,114,101,108]⟩)),(1,.func 72),(2,.func 73),(3,.func 74),(4,.func 75)]) (cs:=[_,_,_,_,_]) A3Y A4c rfl (F8.cons rfl rfl rfl (F8.cons rfl rfl rfl (F8.cons rfl rfl rfl (F8.cons rfl rfl rfl (F8.cons rfl rfl rfl F8.nil))))))<|Vv (V.bld (xs:=[(0,.const (.string ⟨#[99,108,111,115,101]⟩)),(1,.func 76),(2,.func 77),(3,.func 78),(4,.func 79)]) (cs:=[_,_,_,_,_]) A3Y A4c rfl (F8.cons rfl rfl rfl (F8.cons rfl rfl rfl (F8.cons rfl rfl rfl (F8.cons rfl rfl rfl (F8.cons rfl rfl rfl F8.nil))))))<|Vv (V.bld (xs:=[(0,.const (.string ⟨#[100,101,109,97,110,100]⟩)),(1,.func 81),(2,.func 82),(3,.func 83),(4,.func 84)]) (cs:=[_,_,_,_,_]) A3Y A4c rfl (F8.cons rfl rfl rfl (F8.cons rfl rfl rfl (F8.cons rfl rfl rfl (F8.cons rfl rfl rfl (F8.cons rfl rfl rfl F8.nil))))))<|Vv (V.C8O (xs:=[(0,.tmp 5),(1,.tmp 6),(2,.tmp 7),(3,.tmp 8),(4,.tmp 9),(5,.tmp 10)]) (cs:=[_,_,_,_,_,_,_,_,_,_,_,_,_,_,_,_,_,_,_,_,_,_,_,_,_,_,_,_,_,_]) A9g rfl (A4Q.cons rfl rfl (A4Q.cons rfl rfl (A4Q.cons rfl rfl (A4Q.cons rfl rfl (A4Q.cons rfl rfl (A4Q.cons rfl rfl A4Q.nil)))))))<|To (O.alloc C1M rfl rfl fun g=>To (O.stF (vs:=[.string (⟨#[]⟩:ByteArray),(fnV (0:Nat)),(fnV (0:Nat)),(fnV (0:Nat)),(fnV (0:Nat)),.string (⟨#[108,97,116,101]⟩:ByteArray),(fnV (65:Nat)),(fnV (66:Nat)),(fnV (67:Nat)),(fnV (68:Nat)),.string (⟨#[99,97,110,99,101,108]⟩:ByteArray),(fnV (69:Nat)),(fnV (70:Nat)),(fnV (71:Nat)),(fnV (72:Nat)),.string (⟨#[113,117,97,114,114,101,108]⟩:ByteArray),(fnV (73:Nat)),(fnV (74:Nat)),(fnV (75:Nat)),(fnV (76:Nat)),.string (⟨#[99,108,111,115,101]⟩:ByteArray),(fnV (77:Nat)),(fnV (78:Nat)),(fnV (79:Nat)),(fnV (80:Nat)),.string (⟨#[100,101,109,97,110,100]⟩:ByteArray),(fnV (82:Nat)),(fnV (83:Nat)),(fnV (84:Nat)),(fnV (85:Nat))]) C1D rfl rfl (j:=0) rfl rfl (by (simp only [Sl.ones,U2,U2,U2,U2,U2,U2,U2,U2,U2,U2,U2,U2,U2,U2,U2,U2,U2,U2,U2,U2,U2,U2,U2,U2,Bool.and_true,Bool.true_and]) <;> rfl) rfl ?_)))
 refine T.freeze fun m n b=>have a:=AtC.of b; Nt<|Sq<|Sr<|Mv z<|Vv (V.eq z z)<|Mv z<|T.bH 14 H z (fun H=>?_) (fun H=>?_)
 ·exact dead H
 refine Mv z ?_
 obtain ⟨o,c,H⟩:=bnd H
 refine Vv (V.A9Z Tryz.underlying36 Tryz.underlying3 z c)<|Vv (V.ge z z)<|Vv (V.J9 z z)<|Nt<|T.cH H z (fun H=>?_) (fun H=>?_)
 ·exact dead H
 refine T.skip<|Th<|Sr<|Mv z ?_
 rcases C7b H with ⟨d,H⟩ | H
 ·subst d
  refine Vv (V.ixA (i:=1) A9g rfl rfl rfl)<|Vv (V.B9v (k:=5) A2l rfl a (Nat.le_of_ble_eq_true rfl))<|To (O.stF (vs:=[.string (⟨#[108,97,116,101]⟩:ByteArray),(fnV (65:Nat)),(fnV (66:Nat)),(fnV (67:Nat)),(fnV (68:Nat))]) A2l rfl rfl (j:=0) rfl rfl (by (simp only [Sl.ones,U2,U2,U2,U2,Bool.and_true,Bool.true_and]) <;> rfl) rfl ?_)
  refine Ag z<|Nt<|T.ret ?_
  obtain ⟨rfl,rfl⟩:=inj2 H
  exact T.A6Z (L':=L) Tryz.results27 (RVs.cons (RV.cellS z (j:=0) z A2l) (Rv z)) Li (fun _ iv=>iv.drop) ⟨z,z⟩
 rcases C7b H with ⟨e,H⟩ | H
 ·subst e
  refine Vv (V.ixA (i:=3) A9g rfl rfl rfl)<|Vv (V.B9v (k:=15) A2l rfl a (Nat.le_of_ble_eq_true rfl))<|To (O.stF (vs:=[.string (⟨#[113,117,97,114,114,101,108]⟩:ByteArray),(fnV (73:Nat)),(fnV (74:Nat)),(fnV (75:Nat)),(fnV (76:Nat))]) A2l rfl rfl (j:=0) rfl rfl (by (simp only [Sl.ones,U2,U2,U2,U2,Bool.and_true,Bool.true_and]) <;> rfl) rfl ?_)
  refine Ag z<|Nt<|T.ret ?_
  obtain ⟨rfl,rfl⟩:=inj2 H
  exact T.A6Z (L':=L) Tryz.results27 (RVs.cons (RV.cellS z (j:=0) z A2l) (Rv z)) Li (fun _ iv=>iv.drop) ⟨z,z⟩
 exact dead H
theorem B8k {h:PH} {pv0:Value} {s1:F7} (pr0:Pt L6 h pv0 s1) {pc1:List Value} {c2:M7} (pr1:U0 h pc1 c2) {r_0:Int} (H:B6Z s1 c2 = some r_0):∀ L,H5 Tryz.prog 26 [pv0,.agg pc1.toArray] h (L) (fun v h' L'=>v = .int .i64 r_0∧L' = L):=by
 intro L
 obtain ⟨b,rfl,d⟩:=pr1
 refine H5.enter Tryz.func26 z Tryz.ntmps26 z<|Sr<|To (O.V3 z z z fun t w x c=>Ag z<|Nt<|Sr<|Vv (V.fa B3b z)<|Vv (V.I6 (k:=0) B6W z c z) ?_)
 obtain ⟨⟨a,y⟩,e,H⟩:=bnd H
 refine To (O.C8 z (A9H e _) z fun A B C D f=>?_)
 obtain ⟨rfl,g⟩:=f
 refine I9 _ g<|Mv z<|Vv (V.ext rfl rfl)<|Vv (V.ext rfl rfl)<|To (O.alloc B0v rfl rfl fun E=>To (O.stF (vs:=[.string a.A5E,(fnV a.B8o),(fnV a.B8z),(fnV a.C4t),(fnV a.C2x)]) A2l rfl rfl (j:=0) rfl rfl (by (simp only [Sl.ones,U2,U2,U2,U2,Bool.and_true,Bool.true_and]) <;> rfl) rfl ?_))
 refine T.freeze fun i G m=>have n:=AtC.of m; Ag z<|Nt<|Sq<|Sr<|Mv z<|Vv (V.not z)<|Nt<|T.cH H z (fun H=>?_) (fun H=>?_)
 ·exact dead H
 refine T.skip<|Th<|Sr<|Vv (V.fa C0i rfl)<|Vv (V.I6 (k:=1) C3d rfl n rfl)<|Mv z<|Vv (V.Z9 rfl c.u (by exact B2m)) ?_
 obtain ⟨I,o,H⟩:=bnd H
 obtain ⟨J,K,M,p,q⟩:=B8C pr0.u (show U0 i [.int .u8 c2.J4,.string c2.L9.H7,.string c2.L9.Y0,.string c2.L9.Q5,.int .i64 c2.L9.Q6,.int .i64 c2.L9.U5,.string c2.L9.V8,.bool c2.L9.A0e,.bool c2.L9.Q3,b,.string c2.fA,.string c2.fB,.string c2.V7,.int .i64 c2.fN,.int .u8 c2.A2M.J4,.int .i64 c2.A2M.Y6,.string c2.A2M.fA,.string c2.A2M.fB,.string c2.A2M.V7,.int .i64 c2.A2M.fN] c2 from ⟨b,rfl,d.u⟩) o
 refine To (O.A1m z p z (q _) z fun N P S U r=>?_)
 obtain ⟨rfl,s⟩:=r
 refine I9 _ s<|Ag z<|Nt<|T.ret ?_
 obtain rfl:=Option.some.inj H
 exact T.F5 Tryz.results26 (Rv z) Li ⟨z,z⟩
theorem A9I {h:PH} {pc0:List Value} {p1:A8} (pr0:C9 h pc0 p1) {pv1:Value} {part12:List Int} (pr1:G9 (VI .i64) 1 h pv1 part12) {pc2:List Value} {c13:M7} (pr2:U0 h pc2 c13) {r_0:A8} {r_1:List Int} {r_2:Int} (H:A9m p1 part12 c13 = some (r_0,r_1,r_2)):∀ L,H5 Tryz.prog 7 [.agg pc0.toArray,pv1,.agg pc2.toArray] h (L) (fun v h' L'=>∃ v0_1 v0_3 v0_5 v0_7 v0_9 w1 cs1,v = .tuple #[.agg #[v0_1,v0_3,v0_5,v0_7,v0_9],w1,.int .i64 r_2]∧L' = D8 3 1 w1 cs1::L∧G9 E8 7 h' v0_1 r_0.H8∧G9 G7 9 h' v0_3 r_0.F3∧G9 I1 3 h' v0_5 r_0.J8∧G9 (VI .i64) 1 h' v0_7 r_0.K5∧G9 H9 6 h' v0_9 r_0.K9∧A7 (VI .i64) h' cs1 r_1):=by
 intro L
 obtain ⟨f,g,i,m,n,rfl,K,M,N,P,S⟩:=pr0
 obtain ⟨d,rfl,o⟩:=pr2
 refine H5.enter Tryz.func7 rfl Tryz.ntmps7 rfl<|Sr<|To (O.V3 rfl rfl rfl fun bb bc bd U=>To (O.V3 rfl rfl rfl fun be W bf e=>To (O.alloc A0l rfl rfl fun bg=>Ag z<|Ag z<|Nt<|Sr<|Vv (V.Z9 rfl U.u (by exact F9)) ?_)))
 refine Mv z ?_
 obtain ⟨⟨a,bi⟩,X,H⟩:=bnd H
 refine To (O.C8 z (A1x (show C9 W [f,g,i,m,n] p1 from ⟨f,g,i,m,n,z,K.u,M.u,N.u,P.u,S.u⟩) pr1.u X _) z fun bj bk bm bn Y=>?_)
 obtain ⟨bo,p,q,bp,r,bq,s,br,w,bs,x,bt,y,bu,rfl,Z,A,B,C,D,E,G,I⟩:=Y
 refine I9 _ Z<|Mv z<|Vv (V.ext z z)<|Vv (V.ext z z)<|Ag z<|Ag z<|Nt<|Sq<|Sr<|Mv z<|Vv (V.ne z z)<|Nt<|T.cH H z (fun H=>?_) (fun H=>?_)
 ·exact dead H
 refine T.skip<|Th<|Sq<|Sr<|Mv z<|Vv (V.Z9 rfl e.u (by exact B2m)) ?_
 obtain ⟨b,aa,H⟩:=bnd H
 refine To (O.C8 z (H5.A1v (val:=.int .i64 b) Tryz.func26 z B2W fun bw bx ab=>H5.A1v (val:=.int .i64 b) Tryz.func26 z Y4 fun bA bB ac=>H5.A1v (val:=.int .i64 b) Tryz.func26 z Y4 fun bC bD ad=>H5.A1v (val:=.int .i64 b) Tryz.func26 z Y4 fun bE bG ae=>H5.A1v (val:=.int .i64 b) Tryz.func26 z Y4 fun bI bJ af=>H5.A1v (val:=.int .i64 b) Tryz.func26 z Y4 fun bK bM ag=>H5.A1v (val:=.int .i64 b) Tryz.func26 z Y4 fun J bN ai=>?_) z fun bO bP bS bU aj=>?_)
 ·have ak:=A7.slc ac B.u
  have am:=A7.slc ad C.u
  have an:=A7.slc ae D.u
  have ao:=A7.slc af E.u
  have ap:=A7.slc ag G.u
  have aq:=A7.slc ai I.u
  exact B8k (Pt.mk ab.u (show L6 J [p,q,r,s,w,x,y,.int .i64 a.V5] (F7.mk a.O6 (A8.mk a.fp.H8 a.fp.F3 a.fp.J8 a.fp.K5 a.fp.K9) a.R6 a.V5) from ⟨p,q,r,s,w,x,y,z,A.u,ak.u,am.u,an.u,ao.u,ap.u,aq⟩)) (show U0 J [.int .u8 c13.J4,.string c13.L9.H7,.string c13.L9.Y0,.string c13.L9.Q5,.int .i64 c13.L9.Q6,.int .i64 c13.L9.U5,.string c13.L9.V8,.bool c13.L9.A0e,.bool c13.L9.Q3,d,.string c13.fA,.string c13.fB,.string c13.V7,.int .i64 c13.fN,.int .u8 c13.A2M.J4,.int .i64 c13.A2M.Y6,.string c13.A2M.fA,.string c13.A2M.fB,.string c13.A2M.V7,.int .i64 c13.A2M.fN] c13 from ⟨d,z,o.u⟩) aa _
 obtain ⟨rfl,ar⟩:=aj
 refine I9 _ ar<|Ag z<|Nt<|Sr<|Mv z<|Vv (V.ne z z)<|Nt<|T.cH H z (fun H=>?_) (fun H=>?_)
 ·exact dead H
 refine T.skip<|Th<|Sr<|Vv (V.fa B3b z)<|Vv (V.I6 (k:=0) B6W z e.u z) ?_
 obtain ⟨⟨c,bV⟩,au,H⟩:=bnd H
 refine To (O.C8 z (A9H au _) z fun bW bX bY bZ aw=>?_)
 obtain ⟨rfl,ax⟩:=aw
 refine I9 _ ax<|Mv z<|Vv (V.ext rfl rfl)<|Vv (V.ext rfl rfl)<|To (O.alloc B0v rfl rfl fun b0=>To (O.stF (vs:=[.string c.A5E,(fnV c.B8o),(fnV c.B8z),(fnV c.C4t),(fnV c.C2x)]) A2l rfl rfl (j:=0) rfl rfl (by (simp only [Sl.ones,U2,U2,U2,U2,Bool.and_true,Bool.true_and]) <;> rfl) rfl ?_))
 refine T.fl ?_
 refine T.freeze fun ay b1 aA=>have aB:=AtC.of aA; Ag z<|Nt<|Sr<|Vv (V.fa B9V rfl)<|Vv (V.I6 (k:=2) C2V rfl aB rfl)<|Mv z<|Vv (V.Z9 rfl e.u (by exact B2m)) ?_
 obtain ⟨b2,aC,H⟩:=bnd H
 obtain ⟨b3,b4,b5,aD,aE⟩:=B7Q A.u B.u C.u D.u E.u G.u I.u (show U0 ay [.int .u8 c13.J4,.string c13.L9.H7,.string c13.L9.Y0,.string c13.L9.Q5,.int .i64 c13.L9.Q6,.int .i64 c13.L9.U5,.string c13.L9.V8,.bool c13.L9.A0e,.bool c13.L9.Q3,d,.string c13.fA,.string c13.fB,.string c13.V7,.int .i64 c13.fN,.int .u8 c13.A2M.J4,.int .i64 c13.A2M.Y6,.string c13.A2M.fA,.string c13.A2M.fB,.string c13.A2M.V7,.int .i64 c13.A2M.fN] c13 from ⟨d,rfl,o.u⟩) aC
 refine To (O.A1m z aD z (aE _) z fun b6 b7 b8 b9 aG=>?_)
 obtain ⟨bh,aI,bl,aJ,bv,aK,bz,aM,ca,aN,cb,aO,aP,rfl,aS,cc,aU,aV,aW,aX,aY,aZ⟩:=aG
 refine I9 _ aS<|Nt<|Sq<|T.norm [6,9] z<|T.fl ?_
 refine I7 7 z<|T.fl ?_
 refine I7 1 z<|T.fl ?_
 refine T.O8 (t:=(.v 0 (.v 1 (.v 2 (.v 3 (.v 4 (.v 5 (.v 6 (.v 7 (.alt 8 (.alt 9 (.alt 10 .done .no) .no) .no)))))))))) 8 2 1 rfl rfl I8 (by kernel_rfl) ?_
 refine Tm z z<|Tv z (V.U9 rfl)<|Tv z (V.fa R8 rfl)<|Tv z (Val.XA fun _ _ _=>V.C8d (k:=1) F9 rfl (j:=0) rfl (Nat.le_of_ble_eq_true rfl))<|Tm z z<|Tv z (V.U9 rfl)<|Tv z (V.fa Z8 rfl)<|Tv z (Val.XA fun _ _ _=>V.ldO (k:=6) F4 rfl (j:=0) rfl rfl)<|T.M5 2 rfl fun a0 cd=>T.M5 3 rfl fun a1 ce=>T.M5 4 rfl fun a2 cf=>T.M5 5 rfl fun a3 cg=>T.M5 6 rfl fun a4 ci=>Tp z z (SX.two (XA.fr [0] Lr rfl) (XA.fr [1,1] Lr rfl)) (O.stF (vs:=[aI,aJ,aK,aM,aN]) F9 rfl rfl (j:=1) rfl rfl (by (simp only [Sl.ones,a0,a1,a2,a3,a4,Bool.and_true,Bool.true_and]) <;> rfl) rfl ?_) T.Q9
 refine T.fl ?_
 refine Ts z z (SX.one (XA.fr [1] Lr z) z) (V.asg z) z ?_ T.Q9
 refine Ts z z (SX.one (XA.fr [1] Lr z) z) (V.asg z) z ?_ T.Q9
 refine T.R5 (SX.one (XA.fr [1] Lr z) z)<|Th<|T.ret<|I7 2 z<|T.fl ?_
 refine T.K8 fun cj ck a5=>have a6:=A7.slc a5 aU.u; I7 2 z<|T.fl ?_
 refine T.K8 fun cm cn a7=>have a8:=A7.slc a7 aV.u; I7 2 z<|T.fl ?_
 refine T.K8 fun co cp a9=>have ah:=A7.slc a9 aW.u; I7 2 z<|T.fl ?_
 refine T.K8 fun cq cr al=>have av:=A7.slc al aX.u; I7 2 z<|T.fl ?_
 refine T.K8 fun cs ct az=>have ba:=A7.slc az aY.u; I7 1 z<|T.fl ?_
 refine T.drop ?_
 obtain ⟨rfl,rfl,rfl⟩:=B2G H
 exact T.A6Z (L':=D8 3 1 aO aP::L) Tryz.results7 (RVs.cons (RV.cellS z (j:=0) z F9) (RVs.cons (RV.tmp z) (Rv z))) Li (fun _ iv=>iv.drop) ⟨_,_,_,_,_,_,_,z,z,a6.u,a8.u,ah.u,av.u,ba,aZ.u⟩
end Go.Proofs.X
open Go Go.Proofs Go.Sl Go.Dm
namespace Go.Proofs.X
theorem B9J : A2Y Tryz.prog 137 = some ([.slice none 0 0,.int .i64 (0)],[(0,1),(1,1)]):=by kernel_rfl
theorem A4h : A2Y Tryz.prog 44 = some ([.int .u8 (0),.string ⟨#[]⟩,.string ⟨#[]⟩,.string ⟨#[]⟩,.int .i64 (0),.int .i64 (0),.string ⟨#[]⟩,.bool false,.bool false,.slice none 0 0,.string ⟨#[]⟩,.string ⟨#[]⟩,.string ⟨#[]⟩,.int .i64 (0),.int .u8 (0),.int .i64 (0),.string ⟨#[]⟩,.string ⟨#[]⟩,.string ⟨#[]⟩,.int .i64 (0)],[(0,1),(1,9),(10,1),(11,1),(12,1),(13,1),(14,6)]):=by kernel_rfl
theorem A6b : A2Y Tryz.prog 46 = some ([.slice none 0 0,.slice none 0 0,.slice none 0 0,.slice none 0 0,.slice none 0 0,.slice none 0 0,.int .i64 (0),.int .i64 (0)],[(0,5),(5,1),(6,1),(7,1)]):=by kernel_rfl
theorem C0m : A0m Tryz.prog 137 = true:=by kernel_rfl
theorem A4y : A0m Tryz.prog 44 = true:=by kernel_rfl
theorem A6c : A0m Tryz.prog 46 = true:=by kernel_rfl
theorem B7o : O3 Tryz.prog 137 0 = some 0:=by kernel_rfl
theorem A9W : O3 Tryz.prog 137 1 = some 1:=by kernel_rfl
theorem A1C : O3 Tryz.prog 46 1 = some 5:=by kernel_rfl
theorem A2U : O3 Tryz.prog 46 2 = some 6:=by kernel_rfl
theorem A2h : O3 Tryz.prog 86 0 = some 0:=by kernel_rfl
theorem A3A : X9 Tryz.prog 137 = some (true,2):=by kernel_rfl
theorem A4Z : X9 Tryz.prog 224 = some (false,1):=by kernel_rfl
theorem U7 : X9 Tryz.prog 46 = some (true,8):=by kernel_rfl
theorem A1K : X9 Tryz.prog 72 = some (false,1):=by kernel_rfl
theorem A7V : zer Tryz.prog 137 = some (.agg #[.slice none 0 0,.int .i64 (0)]):=by kernel_rfl
theorem B9G : zer Tryz.prog 224 = some (.nilFunc):=by kernel_rfl
theorem A0L : zer Tryz.prog 46 = some (.agg #[.slice none 0 0,.slice none 0 0,.slice none 0 0,.slice none 0 0,.slice none 0 0,.slice none 0 0,.int .i64 (0),.int .i64 (0)]):=by kernel_rfl
theorem A9P {h:PH} {pv0:Value} {l1:List Int} (pr0:G9 (VI .i64) 1 h pv0 l1) {r_0:Int} (H:A9v l1 = some r_0):∀ L,H5 Tryz.prog 100 [pv0] h (L) (fun v h' L'=>v = .int .i64 r_0∧L' = L):=by
 intro L
 refine H5.enter Tryz.func100 z Tryz.ntmps100 z<|Sr<|Ag z<|Nt<|Sr<|Ag z<|Nt<|Sq<|Sr<|Mv z<|Vv (V.P6 D6 z pr0)<|Mv z<|Nt ?_
 obtain ⟨e,i,j⟩:=N7 H
 refine T.O5 (α:=Int) [] z (fun d=>[(3,.int .i64 d)]) (fun d=>L) (fun d hh=>e = d) ?_ ?_
 ·have H:=i
  refine Bl<|T.N8 (α:=Nat×Int×Int) [6,7] z (fun ⟨b,a,c⟩=>[(3,.int .i64 a),(8,.int .i64 c)]) (fun ⟨b,a,c⟩=>L) (fun ⟨b,a,c⟩ hh=>iter (A9F l1) b (a,c) = some e) (fun ⟨b,a,c⟩=>b) (FUEL,(1:Int),(0:Int)) ⟨z,z,trivial⟩ z H ?_
  rintro ⟨b,a,c⟩ t w k
  obtain ⟨m,x,rfl,H,f⟩:=I4 k
  refine T.norm [3,8,6,7] z<|T.fl ?_
  refine Sr<|Vv (V.lt z z)<|Nt<|Sq<|T.cH H z (fun H=>?_) (fun H=>?_)
  ·refine T.skip<|Th<|Sq<|Bl<|Sr ?_
   obtain ⟨y,g,H⟩:=bnd H
   obtain ⟨A,n,rfl⟩:=G9.at pr0 g
   refine Vv (V.ix D6 z z pr0 (H6 g))<|Vv (V.ld0 D9 z n.u z)<|Ag z<|Nt<|Rg<|Mv z<|Mv z ?_
   obtain ⟨o,p,H⟩:=bnd H
   refine Vv (V.B2H z z p)<|Vv (V.min2 z z)<|Ag z<|Ni<|Bn<|Th<|Rg ?_
   obtain ⟨q,r,H⟩:=bnd H
   refine Vv (V.L8 z z r)<|Mv z<|Nt<|T.again (m,(min o (20001:Int)),q) Li (Nat.lt_succ_self _) (G8 H f) (A9.app ⟨z,z,trivial⟩ ⟨z,z,trivial⟩) z
  refine T.exit<|Te<|Te<|have H:=D7 H f; Be<|Th<|T.met a Li H (A9.app ⟨z,trivial⟩ trivial) z
 rintro d B C s
 have H:=J5 s j
 refine T.norm [3] z<|T.fl ?_
 refine Sr<|Mv z<|Ag z<|Nt<|T.ret ?_
 obtain rfl:=Option.some.inj H
 exact T.F5 Tryz.results100 (Rv z) Li ⟨z,z⟩
theorem B8b {h:PH} {free1:Int} {guests2:Int} {r_0:Int} (H:B6A free1 guests2 = some r_0):∀ L,H5 Tryz.prog 102 [.int .i64 free1,.int .i64 guests2] h (L) (fun v h' L'=>v = .int .i64 r_0∧L' = L):=by
 intro L
 refine H5.enter Tryz.func102 z Tryz.ntmps102 z<|Sr<|Ag z<|Nt<|Sr<|Ag z<|Nt<|Sq<|Sr<|Mv z<|Mv z<|Nt ?_
 obtain ⟨p,w,x⟩:=N7 H
 refine T.O5 (α:=(List Int)×Value×(List (List Value))) [] z (fun ⟨g,i,k⟩=>[(5,i)]) (fun ⟨g,i,k⟩=>D8 3 1 i k::L) (fun ⟨g,i,k⟩ hh=>p = g∧A7 (VI .i64) hh k g) ?_ ?_
 ·have H:=w
  refine Bl<|T.A0n 3 1<|have y:A7 (VI .i64) h [] ([]:List Int):=A7.nil; T.N8 (α:=Nat×(List Int)×Int×Value×(List (List Value))) [0,7] z (fun ⟨d,b,f,c,a⟩=>[(5,c),(8,.int .i64 f)]) (fun ⟨d,b,f,c,a⟩=>D8 3 1 c a::L) (fun ⟨d,b,f,c,a⟩ hh=>iter (B2c free1 guests2) d (b,f) = some p∧A7 (VI .i64) hh a b) (fun ⟨d,b,f,c,a⟩=>d) (FUEL,([]:List Int),(0:Int),(.slice none 0 0),[]) ⟨z,z,trivial⟩ z ⟨H,y⟩ ?_
  rintro ⟨d,b,f,c,a⟩ q W ⟨A,n⟩
  obtain ⟨B,X,rfl,H,r⟩:=I4 A
  refine T.norm [5,8,0,7] z<|T.fl ?_
  refine Sr<|Vv (V.lt z z)<|Nt<|Sq<|T.cH H z (fun H=>?_) (fun H=>?_)
  ·refine T.skip<|Th<|Sq<|Bl<|Sr<|Mv z<|Ag z<|Nt<|Rg<|Mv z<|Mv z<|Mv z ?_
   obtain ⟨m,C,H⟩:=bnd H
   refine Vv (V.A0M z z C)<|To (O.bs D6 Q4 z (e:=z) (hk:=z) (xs:=[.tmp 14]) (hv:=CO.eq (CO.cons z CO.nil)) (hw:=O7.of z) (hd:=z) fun Y=>have o:A7 (VI .i64) q [[.int .i64 m]] ([m]:List Int):=(A7.cons z A7.nil); ?_)
   obtain ⟨s,t,H⟩:=bnd H
   refine To (O.apX D6 D6 Q4 z z z (j:=1) z (Src.row (j:=0) z) (O7.of z) (A7.ones VI.plain o) n o t z fun D Z aa=>have E:A7 (VI .i64) q (a ++ [[.int .i64 m]]) s:=A7.ap n o t; I7 1 z<|T.drop<|Ag z<|Ni<|Bn<|Th<|Rg ?_)
   obtain ⟨G,I,H⟩:=bnd H
   refine Vv (V.L8 z z I)<|Mv z<|Nt<|T.again (B,s,G,D,(a ++ [[.int .i64 m]])) Li (Nat.lt_succ_self _) ⟨(G8 H r),E⟩ (A9.app ⟨z,z,trivial⟩ ⟨z,z,trivial⟩) z
  refine T.exit<|Te<|Te<|have H:=D7 H r; Be<|Th<|T.met (b,c,a) Li ⟨H,n⟩ (A9.app ⟨z,trivial⟩ trivial) z
 rintro ⟨g,i,k⟩ ab ac ⟨J,K⟩
 have H:=J5 J x
 refine T.norm [5] z<|T.fl ?_
 refine Sr<|Mv z<|T.K8 fun ad ae M=>have N:=A7.slc M K.u; ?_
 obtain ⟨af,P,H⟩:=bnd H
 refine To (O.C8 z (A9P N P _) z fun ag ai aj ak S=>?_)
 obtain ⟨rfl,U⟩:=S
 refine I9 _ U<|Ag z<|Nt<|T.ret ?_
 obtain rfl:=Option.some.inj H
 exact T.F5 Tryz.results102 (Rv z) Li ⟨z,z⟩
theorem B9p {h:PH} {m1:Int} {k2:Int} {r_0:Int} (H:B6Y m1 k2 = some r_0):∀ L,H5 Tryz.prog 101 [.int .i64 m1,.int .i64 k2] h (L) (fun v h' L'=>v = .int .i64 r_0∧L' = L):=by
 intro L
 refine H5.enter Tryz.func101 z Tryz.ntmps101 z<|Sr<|Ag z<|Nt<|Sr<|Ag z<|Nt<|Sq<|Sr<|Mv z<|Mv z<|Nt ?_
 obtain ⟨e,g,i⟩:=N7 H
 refine T.O5 (α:=Int) [] z (fun d=>[(5,.int .i64 d)]) (fun d=>L) (fun d hh=>e = d) ?_ ?_
 ·have H:=g
  refine Bl<|T.N8 (α:=Nat×Int×Int) [0,7] z (fun ⟨b,a,c⟩=>[(5,.int .i64 a),(8,.int .i64 c)]) (fun ⟨b,a,c⟩=>L) (fun ⟨b,a,c⟩ hh=>iter (B0X m1 k2) b (a,c) = some e) (fun ⟨b,a,c⟩=>b) (FUEL,(1:Int),(0:Int)) ⟨z,z,trivial⟩ z H ?_
  rintro ⟨b,a,c⟩ u w j
  obtain ⟨k,x,rfl,H,f⟩:=I4 j
  refine T.norm [5,8,0,7] z<|T.fl ?_
  refine Sr<|Vv (V.lt z z)<|Nt<|Sq<|T.cH H z (fun H=>?_) (fun H=>?_)
  ·refine T.skip<|Th<|Sq<|Bl<|Sr<|Mv z<|Ag z<|Nt<|Sr<|Mv z<|Mv z<|Mv z ?_
   obtain ⟨y,m,H⟩:=bnd H
   refine Vv (V.A0M z z m) ?_
   obtain ⟨A,n,H⟩:=bnd H
   refine Vv (V.B2H z z n)<|Mv z ?_
   obtain ⟨B,o,H⟩:=bnd H
   refine Vv (V.L8 z z o) ?_
   obtain ⟨p,q,H⟩:=bnd H
   refine Vv (V.C6l z z q)<|Ag z<|Nt<|Sr<|Mv z<|Vv (V.gt z z)<|Nt<|T.cH H z (fun H=>?_) (fun H=>?_)
   ·exact dead H
   refine T.skip<|Bn<|Th<|Rg ?_
   obtain ⟨r,s,H⟩:=bnd H
   refine Vv (V.L8 z z s)<|Mv z<|Nt<|T.again (k,p,r) Li (Nat.lt_succ_self _) (G8 H f) (A9.app ⟨z,z,trivial⟩ ⟨z,z,trivial⟩) z
  refine T.exit<|Te<|Te<|have H:=D7 H f; Be<|Th<|T.met a Li H (A9.app ⟨z,trivial⟩ trivial) z
 rintro d C D t
 have H:=J5 t i
 refine T.norm [5] z<|T.fl ?_
 refine Sr<|Mv z<|Ag z<|Nt<|T.ret ?_
 obtain rfl:=Option.some.inj H
 exact T.F5 Tryz.results101 (Rv z) Li ⟨z,z⟩
theorem B0L {h:PH} {pv0:Value} {s1:F7} (pr0:Pt L6 h pv0 s1) {most2:Int} {r_0:Int} (H:B1I s1 most2 = some r_0):∀ L,H5 Tryz.prog 39 [pv0,.int .i64 most2] h (L) (fun v h' L'=>v = .int .i64 r_0∧L' = L):=by
 intro L
 refine H5.enter Tryz.func39 z Tryz.ntmps39 z<|Sr<|Ag z<|Nt<|Sr<|Ag z<|Nt<|Sq<|Sr<|Mv z<|have C:=pr0; ?_
 obtain ⟨aJ,_,rfl,p,⟨aK,aM,aN,aO,aP,aS,aU,rfl,aV,aW,aX,aY,aZ,a0,o⟩⟩:=C
 refine Vv (V.U9 z)<|Vv (V.fa Z8 z)<|Vv (V.I6 (k:=6) F4 z p z)<|Vv (V.P6 D6 z o)<|Mv z<|Nt ?_
 obtain ⟨r,D,E⟩:=N7 H
 refine T.O5 (α:=Int) [0,1] z (fun c=>[(5,.int .i64 c)]) (fun c=>L) (fun c hh=>r = c) ?_ ?_
 ·have H:=D
  refine Bl<|T.N8 (α:=Nat×Int×Int) [0,1,13,14] z (fun ⟨d,f,a⟩=>[(15,.int .i64 f),(5,.int .i64 a)]) (fun ⟨d,f,a⟩=>L) (fun ⟨d,f,a⟩ hh=>iter (B0R s1) d (f,a) = some r) (fun ⟨d,f,a⟩=>d) (FUEL,(0:Int),(0:Int)) ⟨z,z,trivial⟩ z H ?_
  rintro ⟨d,f,a⟩ a1 a2 G
  obtain ⟨s,a3,rfl,H,q⟩:=I4 G
  refine T.norm [15,5,0,1,13,14] z<|T.fl ?_
  refine Sr<|Vv (V.lt z z)<|Nt<|Sq<|T.cH H z (fun H=>?_) (fun H=>?_)
  ·refine T.skip<|Th<|Sq<|Bl<|Sr ?_
   obtain ⟨a4,w,H⟩:=bnd H
   obtain ⟨a5,I,rfl⟩:=G9.at o w
   refine Vv (V.ix D6 z z o (H6 w))<|Vv (V.ld0 D9 z I.u z)<|Ag z<|Nt<|Sr<|Mv z<|Vv (V.ge z z)<|Nt<|T.cH H z (fun H=>?_) (fun H=>?_)
   ·refine Rg<|Mv z ?_
    obtain ⟨J,K,H⟩:=bnd H
    refine Vv (V.L8 z z K)<|Ag z<|Ni<|Bn<|Th<|Rg ?_
    obtain ⟨M,N,H⟩:=bnd H
    refine Vv (V.L8 z z N)<|Mv z<|Nt<|T.again (s,M,J) Li (Nat.lt_succ_self _) (G8 H q) (A9.app ⟨z,z,trivial⟩ ⟨z,z,z,z,trivial⟩) z
   refine T.skip<|Bn<|Th<|Rg ?_
   obtain ⟨P,S,H⟩:=bnd H
   refine Vv (V.L8 z z S)<|Mv z<|Nt<|T.again (s,P,a) Li (Nat.lt_succ_self _) (G8 H q) (A9.app ⟨z,z,trivial⟩ ⟨z,z,z,z,trivial⟩) z
  refine T.exit<|Te<|Te<|have H:=D7 H q; Be<|Th<|T.met a Li H (A9.app ⟨z,trivial⟩ ⟨z,z,trivial⟩) z
 rintro c a6 a7 U
 have H:=J5 U E
 refine T.norm [5,0,1] z<|T.fl ?_
 refine Sr<|Ag z<|Nt<|Sq<|Sr<|Ag z<|Nt ?_
 obtain ⟨x,W,X⟩:=N7 H
 refine T.O5 (α:=Int) [] z (fun m=>[(8,.int .i64 m)]) (fun m=>L) (fun m hh=>x = m) ?_ ?_
 ·have H:=W
  refine Bl<|T.N8 (α:=Nat×Int×Int) [0,1,5] z (fun ⟨i,b,j⟩=>[(8,.int .i64 b),(9,.int .i64 j)]) (fun ⟨i,b,j⟩=>L) (fun ⟨i,b,j⟩ hh=>iter (B1A s1 most2 c) i (b,j) = some x) (fun ⟨i,b,j⟩=>i) (FUEL,(0:Int),(0:Int)) ⟨z,z,trivial⟩ z H ?_
  rintro ⟨i,b,j⟩ a8 a9 Y
  obtain ⟨Z,ah,rfl,H,y⟩:=I4 Y
  refine T.norm [8,9,0,1,5] z<|T.fl ?_
  refine Sq<|Sq ?_
  obtain ⟨aa,ab,ac⟩:=N7 H
  refine T.O5 (α:=Bool) [0,1,5,8,9] z (fun n=>[(33,.bool n)]) (fun n=>L) (fun n hh=>aa = n) ?_ ?_
  ·have H:=ab
   refine Rg<|Mv z<|Mv z<|Vv (V.max2 z z)<|Mv z<|Vv (V.min2 z z)<|Vv (V.le z z)<|Mv z<|T.bH 30 H z (fun H=>?_) (fun H=>?_)
   ·refine Mv z<|Vv (V.le z z)<|Vv (V.M0 z z)<|Nt<|T.met (decide (b≤(20000:Int))) Lr (K4 H) (A9.app ⟨z,trivial⟩ ⟨z,z,z,z,z,trivial⟩) z
   refine Sk<|Sk<|Vv (V.J9 z z)<|Nt<|T.met false Lr (K4 H) (A9.app ⟨z,trivial⟩ ⟨z,z,z,z,z,trivial⟩) z
  rintro n al av ad
  have H:=J5 ad ac
  refine T.norm [33,0,1,5,8,9] z<|T.fl ?_
  refine T.cH H z (fun H=>?_) (fun H=>?_)
  ·refine T.skip<|Th<|Sq<|Bl<|T.O8 (t:=(.v 0 (.v 1 (.v 2 (.v 3 (.v 4 (.v 5 (.v 6 (.v 8 (.v 9 (.v 10 (.v 11 (.v 12 (.v 13 (.v 14 (.v 15 (.v 16 (.v 17 (.v 18 (.v 19 (.v 20 (.v 21 (.v 22 (.v 23 (.v 24 (.alt 7 (.g (.alt 25 (.g (.alt 26 (.alt 27 (.g (.v 28 (.alt 29 .done .no))) .no) .no)) .no)) .no)))))))))))))))))))))))))) 31 0 0 rfl rfl I8 (by kernel_rfl) ?_
   refine Tm z z<|Tm z z<|Tm z z<|Tm z z<|Tm z z ?_
   obtain ⟨az,ae,H⟩:=bnd H
   refine Tv z (V.A0M z z ae)<|Tv z (V.min2 z z)<|Tm z z<|Tv z (V.U9 z)<|Tv z (V.fa A8b z)<|Tv z (V.I6 (k:=7) D9 z p.u z)<|Tm z z ?_
   obtain ⟨ba,af,H⟩:=bnd H
   refine Tv z (V.A0M z z af)<|Tm z z ?_
   obtain ⟨bb,ag,H⟩:=bnd H
   refine Tv z (V.L8 z z ag)<|Tm z z<|Tv z (V.U9 z)<|Tv z (V.fa Z8 z)<|Tv z (V.I6 (k:=6) F4 z p.u z)<|Tv z (V.P6 D6 z o)<|Tm z z ?_
   obtain ⟨bc,ai,H⟩:=bnd H
   refine Tv z (V.A0M z z ai)<|Tm z z ?_
   obtain ⟨bd,aj,H⟩:=bnd H
   refine Tv z (V.L8 z z aj) ?_
   obtain ⟨A,ak,H⟩:=bnd H
   refine Tp z z (SX.two (XA.fr [] Lr z) (XA.fr [] Lr z)) (O.C8 z (B9p ak _) z fun be bf bg bi am=>?_) T.Q9
   obtain ⟨rfl,an⟩:=am
   refine I9 _ an<|T.M6 Li ?_
   obtain ⟨B,ao,H⟩:=bnd H
   refine Tp z z (SX.two (XA.fr [] Lr z) (XA.fr [] Lr z)) (O.C8 z (B8b ao _) z fun bj ap bk bm aq=>?_) T.Q9
   obtain ⟨rfl,ar⟩:=aq
   refine I9 _ ar<|T.M6 Li<|Tp z z (SX.two (XA.fr [] Lr z) (XA.fr [] Lr z)) (O.bs D6 Q4 z (e:=z) (hk:=z) (xs:=[.tmp 43,.tmp 61]) (hv:=CO.eq (CO.cons z (CO.cons z CO.nil))) (hw:=O7.of z) (hd:=z) fun bn=>?_) T.Q9
   have au:A7 (VI .i64) ap [[.int .i64 A],[.int .i64 B]] ([A,B]:List Int):=(A7.cons z (A7.cons z A7.nil))
   refine T.K8 fun bo bp aw=>have ax:=A7.slc aw au.u; ?_
   obtain ⟨bq,ay,H⟩:=bnd H
   refine Tp z z (SX.two (XA.fr [] Li z) (XA.fr [] Li z)) (O.C8 z (A9P ax ay _) z fun br bt bu bw aA=>?_) T.Q9
   obtain ⟨rfl,aB⟩:=aA
   refine I9 _ aB<|T.M6 Li ?_
   obtain ⟨aC,aD,H⟩:=bnd H
   refine Tv z (V.L8 z z aD)<|Ts z z (SX.two (XA.fr [] Lr z) (XA.fr [] Lr z)) (V.asg z) z ?_ T.Q9
   refine T.R5 (SX.two (XA.fr [] Lr z) (XA.fr [] Lr z))<|Bn<|Th<|Rg<|Mv z ?_
   obtain ⟨aE,aG,H⟩:=bnd H
   refine Vv (V.L8 z z aG)<|Ag z<|Nt<|T.again (Z,aC,aE) Li (Nat.lt_succ_self _) (G8 H y) (A9.app ⟨z,z,trivial⟩ ⟨z,z,z,trivial⟩) z
  refine T.exit<|Te<|Te<|have H:=D7 H y; Be<|Th<|T.met b Li H (A9.app ⟨z,trivial⟩ trivial) z
 rintro m bx bA aI
 have H:=J5 aI X
 refine T.norm [8] z<|T.fl ?_
 refine Sr<|Mv z<|Vv (V.min2 z z)<|Ag z<|Nt<|T.ret ?_
 obtain rfl:=Option.some.inj H
 exact T.F5 Tryz.results39 (Rv z) Li ⟨z,z⟩
theorem A9N {h:PH} {pc0:List Value} {p1:A8} (pr0:C9 h pc0 p1) {pv1:Value} {part12:List Int} (pr1:G9 (VI .i64) 1 h pv1 part12) {most13:Int} {r_0:Int} (H:A9k p1 part12 most13 = some r_0):∀ L,H5 Tryz.prog 15 [.agg pc0.toArray,pv1,.int .i64 most13] h (L) (fun v h' L'=>v = .int .i64 r_0∧L' = L):=by
 intro L
 obtain ⟨c,d,e,f,g,rfl,q,r,s,t,w⟩:=pr0
 refine H5.enter Tryz.func15 rfl Tryz.ntmps15 rfl<|Sr<|To (O.V3 rfl rfl rfl fun ak x am y=>Ag z<|Nt<|Sr<|Vv (V.Z9 rfl y (by exact F9)) ?_)
 refine Mv z ?_
 obtain ⟨⟨a,an⟩,A,H⟩:=bnd H
 refine To (O.C8 z (A1x (show C9 x [c,d,e,f,g] p1 from ⟨c,d,e,f,g,z,q.u,r.u,s.u,t.u,w.u⟩) pr1.u A _) z fun ao ap aq ar B=>?_)
 obtain ⟨au,i,j,aw,k,ax,m,ay,n,aA,o,aB,p,aC,rfl,C,D,E,G,I,J,K,M⟩:=B
 refine I9 _ C<|Mv z<|Vv (V.ext z z)<|Vv (V.ext z z)<|Ag z<|Ag z<|Nt<|Sq<|Sr<|Mv z<|Vv (V.ne z z)<|Nt<|T.cH H z (fun H=>?_) (fun H=>?_)
 ·exact dead H
 refine T.skip<|Th<|Sr<|Mv z<|Mv z ?_
 obtain ⟨b,N,H⟩:=bnd H
 refine To (O.C8 z (H5.A1v (val:=.int .i64 b) Tryz.func39 z B2W fun aD aE P=>H5.A1v (val:=.int .i64 b) Tryz.func39 z Y4 fun aG aI S=>H5.A1v (val:=.int .i64 b) Tryz.func39 z Y4 fun aJ aK U=>H5.A1v (val:=.int .i64 b) Tryz.func39 z Y4 fun aM aN W=>H5.A1v (val:=.int .i64 b) Tryz.func39 z Y4 fun aO aP X=>H5.A1v (val:=.int .i64 b) Tryz.func39 z Y4 fun aS aU Y=>H5.A1v (val:=.int .i64 b) Tryz.func39 z Y4 fun Z aV aa=>?_) z fun aW aX aY aZ ab=>?_)
 ·have ac:=A7.slc S E.u
  have ad:=A7.slc U G.u
  have ae:=A7.slc W I.u
  have af:=A7.slc X J.u
  have ag:=A7.slc Y K.u
  have ai:=A7.slc aa M.u
  exact B0L (Pt.mk P.u (show L6 Z [i,j,k,m,n,o,p,.int .i64 a.V5] (F7.mk a.O6 (A8.mk a.fp.H8 a.fp.F3 a.fp.J8 a.fp.K5 a.fp.K9) a.R6 a.V5) from ⟨i,j,k,m,n,o,p,z,D.u,ac.u,ad.u,ae.u,af.u,ag.u,ai⟩)) N _
 obtain ⟨rfl,aj⟩:=ab
 refine I9 _ aj<|Ag z<|Nt<|T.ret<|T.drop<|T.drop<|T.drop<|T.drop<|T.drop<|T.drop<|T.drop ?_
 obtain rfl:=Option.some.inj H
 exact T.F5 Tryz.results15 (Rv z) Li ⟨z,z⟩
theorem B7z (n:Nat):∀ {h:PH} {g1:Int} {left2:Int} {pp2:Addr} {pc2:List Value} {t3:F7} (pa2:AtC h pp2 pc2) (pr2:(VPt L6) h pc2 t3) {pb3:Nat} {t6:List Int} {v3_1:Value} {css3_2:List (List Value)} (hR3_3:A7 (VI .i64) h css3_2 t6) {pb4:Nat} {t8:Bool}  {pb5:Nat} {t9:X7} {v5_1:Value} {css5_2:List (List Value)} (hR5_3:A7 (VI .i64) h css5_2 t9.A1H) {pp6:Addr} {pc6:List Value} {t11:Int} (pa6:AtC h pp6 pc6) (pr6:(VI .i64) h pc6 t11) {pp7:Addr} (pa7:AtC h pp7 [.func (.func 156) #[] #[.pointer (some pp2),.pointer (some ⟨pb3,0,none⟩),.pointer (some ⟨pb4,0,none⟩),.pointer (some ⟨pb5,0,none⟩),.pointer (some pp6),.pointer (some pp7)]]) {q_3:List Int} {q_4:Bool} {q_5:X7} (H:A6d n g1 left2 t3 t6 t8 t9 t11 = some (q_3,q_4,q_5)) (L:List E9),H5 Tryz.prog 156 [.int .i64 g1,.int .i64 left2,.pointer (some pp2),.pointer (some ⟨pb3,0,none⟩),.pointer (some ⟨pb4,0,none⟩),.pointer (some ⟨pb5,0,none⟩),.pointer (some pp6),.pointer (some pp7)] h (blk pb3 (.cells [v3_1].toArray 25)::D8 3 1 v3_1 css3_2::blk pb4 (.cells [.bool t8].toArray 4)::blk pb5 (.cells [v5_1,.int .i64 t9.A0B].toArray 137)::D8 3 1 v5_1 css5_2::L) (fun v h' L'=>∃ vl0_1 cssl0_2 vl2_1 cssl2_2,v = .tuple #[]∧L' = blk pb3 (.cells [vl0_1].toArray 25)::D8 3 1 vl0_1 cssl0_2::blk pb4 (.cells [.bool q_4].toArray 4)::blk pb5 (.cells [vl2_1,.int .i64 q_5.A0B].toArray 137)::D8 3 1 vl2_1 cssl2_2::L∧A7 (VI .i64) h' cssl0_2 q_3∧A7 (VI .i64) h' cssl2_2 q_5.A1H):=by
  induction n with
  | zero=>intros; rename_i H _; cases H
  | succ n self=>
    intro h g1 left2 pp2 pc2 t3 pa2 pr2 pb3 t6 v3_1 css3_2 hR3_3 pb4 t8 pb5 t9 v5_1 css5_2 hR5_3 pp6 pc6 t11 pa6 pr6 pp7 pa7 q_3 q_4 q_5 H L
    obtain ⟨cS,rfl,a9⟩:=pr2
    obtain rfl:=pr6
    refine H5.enter Tryz.func156 rfl Tryz.ntmps156 rfl<|T.scope<|Sq<|Sq<|T.O8 (t:=(.v 0 (.v 1 (.v 2 (.v 3 (.v 4 (.alt 5 (.g (.v 6 (.v 7 (.v 8 (.alt 9 (.alt 10 .done .no) .no))))) .no))))))) 12 2 2 rfl rfl I8 (by kernel_rfl) ?_
    refine Tv z (V.ld0 A1K z pa2 z)<|have ah:=a9; ?_
    obtain ⟨ai,_,rfl,r,⟨aj,ak,am,an,ao,ap,aq,rfl,ar,aD,aE,aG,aI,aJ,m⟩⟩:=ah
    refine Tv z (V.U9 z)<|Tv z (V.fa A2h z)<|Tv z (V.I6 (k:=0) R7 z r z)<|Tv z (Val.XA fun _ _ _=>V.A6h F4 z (j:=0) z z)<|I7 1 z<|T.fl ?_
    obtain ⟨⟨al,av⟩,az,H⟩:=bnd H
    refine Tp z z (SX.two (XA.fr [0,1] Lr z) (XA.fr [0,1] Lr z)) (O.C8 z (H5.A1v (val:=.tuple #[.int .i64 al,.bool av]) Tryz.func157 z Y4 fun cU cV ba=>?_) z fun cW cX cY cZ bb=>?_) T.Q9
    ·have bc:=A7.slc ba hR3_3.u
     exact B3h ar.u bc az _
    obtain ⟨rfl,be⟩:=bb
    refine I9 _ be<|T.M6 Li<|Tm z z<|Tv z (V.ext z z)<|Tv z (V.ext z z)<|Ts z z (SX.two (XA.fr [0,1] Lr z) (XA.fr [0,1] Lr z)) (V.asg z) z ?_ T.Q9
    refine Ts z z (SX.two (XA.fr [0,1] Lr z) (XA.fr [0,1] Lr z)) (V.asg z) z ?_ T.Q9
    refine T.R5 (SX.two (XA.fr [0,1] Lr z) (XA.fr [0,1] Lr z))<|Th<|Sr<|Mv z<|Nt<|T.cH H z (fun H=>?_) (fun H=>?_)
    ·refine T.ret<|Tr<|T.sgR<|I7 4 z<|T.fl ?_
     refine I7 4 z<|T.fl ?_
     refine I7 4 z<|T.fl ?_
     refine I7 3 z<|T.fl ?_
     refine I7 4 z<|T.fl ?_
     obtain ⟨rfl,rfl,rfl⟩:=B2G H
     exact T.C3J Tryz.results156 Li ⟨_,_,_,_,z,z,hR3_3.u,hR5_3.u⟩
    refine T.skip<|Th<|Sq<|Sr<|Mv z<|Vv (V.A6h F4 z (j:=1) z z)<|Vv (V.A2E D6 z (j:=0) z hR3_3.len)<|Vv (V.eq z z)<|Nt<|T.cH H z (fun H=>?_) (fun H=>?_)
    ·refine Sq<|Sq<|T.O8 (t:=(.v 0 (.v 1 (.v 2 (.v 3 (.v 4 (.alt 5 (.alt 6 .done .no) .no))))))) 8 2 2 rfl rfl I8 (by kernel_rfl) ?_
     refine Tv z (V.ld0 A1K z pa2.u z)<|Tv z (V.U9 z)<|Tv z (V.fa A2h z)<|Tv z (V.I6 (k:=0) R7 z r.u z)<|Tv z (Val.XA fun _ _ _=>V.A6h F4 z (j:=1) z z) ?_
     obtain ⟨au,bf,H⟩:=bnd H
     refine Tp z z (SX.two (XA.fr [1,1] Lr z) (XA.fr [1,1] Lr z)) (O.C8 z (H5.A1v (val:=.int .i64 au) Tryz.func158 z Y4 fun c0 c1 bg=>?_) z fun c2 c3 c4 c5 bi=>?_) T.Q9
     ·have bj:=A7.slc bg hR3_3.u
      exact C0t ar.u bj bf _
     obtain ⟨rfl,bk⟩:=bi
     refine I9 _ bk<|Ts z z (SX.two (XA.fr [1,1] Li z) (XA.fr [1,1] Li z)) (V.asg z) z ?_ T.Q9
     refine T.R5 (SX.two (XA.fr [1,1] Li z) (XA.fr [1,1] Li z))<|Th<|Sq ?_
     obtain ⟨bm,bn,bo⟩:=N7 H
     refine T.O5 (α:=Bool) [3,4,5,12] z (fun K=>[(48,.bool K)]) (fun K=>D8 3 1 v3_1 css3_2::blk pb3 (.cells [v3_1].toArray 25)::blk pb4 (.cells [.bool t8].toArray 4)::blk pb5 (.cells [v5_1,.int .i64 t9.A0B].toArray 137)::D8 3 1 v5_1 css5_2::L) (fun K hh=>bm = K) ?_ ?_
     ·have H:=bn
      refine Rg<|Mv z<|Vv (V.eq z z)<|Mv z<|T.bH 39 H z (fun H=>?_) (fun H=>?_)
      ·refine Vv (V.A6h X8 z (j:=2) z z)<|Vv (V.not z)<|Mv z<|T.bH 42 H z (fun H=>?_) (fun H=>?_)
       ·refine Sk<|Sk<|Sk<|Sk<|Vv (V.M0 z z)<|Vv (V.M0 z z)<|Nt<|T.met true Lr (K4 H) (A9.app ⟨z,trivial⟩ ⟨z,z,z,z,trivial⟩) z
       refine Mv z<|Vv (V.fa A9W z)<|Vv (V.ldO (k:=1) D9 z (j:=3) z z)<|Vv (V.lt z z)<|Vv (V.J9 z z)<|Vv (V.M0 z z)<|Nt<|T.met (decide (au < t9.A0B)) Lr (K4 H) (A9.app ⟨z,trivial⟩ ⟨z,z,z,z,trivial⟩) z
      exact dead H
     rintro K c6 c7 bp
     have H:=J5 bp bo
     refine T.norm [48,3,4,5,12] z<|T.fl ?_
     obtain ⟨bq,br,bs⟩:=N7 H
     refine T.O5 (α:=Bool×(List Int)×Int×Value×(List (List Value))) [3,4,5] z (fun ⟨M,N,P,S,U⟩=>[]) (fun ⟨M,N,P,S,U⟩=>D8 3 1 v3_1 css3_2::blk pb3 (.cells [v3_1].toArray 25)::blk pb4 (.cells [.bool M].toArray 4)::blk pb5 (.cells [S,.int .i64 P].toArray 137)::D8 3 1 S U::L) (fun ⟨M,N,P,S,U⟩ hh=>bq = (M,N,P)∧A7 (VI .i64) hh U N) ?_ ?_
     ·have H:=br
      refine T.cH H z (fun H=>?_) (fun H=>?_)
      ·refine Rg<|Vv (V.A6h F4 z (j:=1) z z) ?_
       obtain ⟨aK,bt,H⟩:=bnd H
       refine To (O.C8 z (H5.A2F (R:=fun v h' L'=>∃ (aM:List (List Value)),L' = D8 3 1 v aM::blk pb3 (.cells [v3_1].toArray 25)::blk pb4 (.cells [.bool t8].toArray 4)::blk pb5 (.cells [v5_1,.int .i64 t9.A0B].toArray 137)::D8 3 1 v5_1 css5_2::L∧A7 (VI .i64) h' aM aK) Tryz.func62 z (fun _ _ _ _ ⟨e_0,l_,f_0⟩=>⟨e_0,l_,(A7.free VI.free f_0)⟩) Y4 fun c8 c9 bu=>?_) z fun aN ch cl cv bw=>?_)
       ·have bx:=A7.slc bu hR3_3.u
        exact A2f bx bt _
       obtain ⟨_,rfl,⟨bA,rfl,bB⟩⟩:=bw
       refine T.fl ?_
       refine Mv z<|T.M5 1 rfl fun cz bC=>Vv (V.bld (xs:=[(0,.tmp 50),(1,.tmp 51)]) (cs:=[_,_]) B9J C0m rfl (F8.cons rfl bC rfl (F8.cons rfl rfl rfl F8.nil)))<|T.M5 1 rfl fun bD da=>To (O.stF (vs:=[aN,.int .i64 au]) A3A rfl rfl (j:=4) rfl rfl (by (simp only [Sl.ones,bD,Bool.and_true,Bool.true_and]) <;> rfl) rfl ?_)
       refine T.fl ?_
       refine To (O.stF (vs:=[.bool true]) X8 z z (j:=4) z z z z<|T.fl ?_)
       refine Nt<|I7 5 z<|T.fl ?_
       refine T.drop<|I7 3 z<|T.fl ?_
       refine I7 2 z<|T.fl ?_
       refine I7 2 z<|T.fl ?_
       refine I7 4 z<|T.fl ?_
       refine I7 4 z<|T.fl ?_
       exact T.met (true,aK,au,aN,bA) Li ⟨(K4 H),bB⟩ (A9.app trivial ⟨z,z,z,trivial⟩) z
      refine T.skip<|Th<|T.met (t8,t9.A1H,t9.A0B,v5_1,css5_2) Lr ⟨(K4 H),hR5_3.u⟩ (A9.app trivial ⟨z,z,z,trivial⟩) z
     rintro ⟨M,N,P,S,U⟩ db dc ⟨bE,bG⟩
     have H:=J5 bE bs
     refine T.norm [3,4,5] z<|T.fl ?_
     refine T.ret<|Tr<|T.sgR<|I7 4 z<|T.fl ?_
     refine I7 4 z<|T.fl ?_
     refine I7 4 z<|T.fl ?_
     refine I7 3 z<|T.fl ?_
     refine I7 4 z<|T.fl ?_
     obtain ⟨rfl,rfl,rfl⟩:=B2G H
     exact T.C3J Tryz.results156 Li ⟨_,_,_,_,z,z,hR3_3.u,bG⟩
    refine T.skip<|Th<|Sq<|T.label<|Th<|Sr<|Vv (V.ld0 A1K z pa2.u z)<|Vv (V.U9 z)<|Vv (V.fa A8b z)<|Vv (V.I6 (k:=7) D9 z r.u z)<|Mv z<|Nt<|T.A4J ?_
    obtain ⟨aO,bI,bJ⟩:=N7 H
    refine T.O5 (α:=(List Int)×Bool×(List Int)×Int×Value×(List (List Value))×Value×(List (List Value))) [3,4,5] z (fun ⟨W,X,Y,Z,aa,ab,ac,ad⟩=>[]) (fun ⟨W,X,Y,Z,aa,ab,ac,ad⟩=>blk pb3 (.cells [aa].toArray 25)::blk pb4 (.cells [.bool X].toArray 4)::blk pb5 (.cells [ac,.int .i64 Z].toArray 137)::D8 3 1 aa ab::D8 3 1 ac ad::L) (fun ⟨W,X,Y,Z,aa,ab,ac,ad⟩ hh=>aO = (W,X,Y,Z)∧A7 (VI .i64) hh ab W∧A7 (VI .i64) hh ad Y) ?_ ?_
    ·have H:=bI
     refine Bl<|I7 4 z<|T.fl ?_
     refine I7 1 z<|T.fl ?_
     refine I7 4 z<|T.fl ?_
     refine I7 4 z<|T.fl ?_
     refine I7 4 z<|T.fl ?_
     refine T.N8 (α:=Nat×(List Int)×Bool×(List Int)×Int×Int×Value×(List (List Value))×Value×(List (List Value))) [0,1,2,3,4,5,6,7,56] z (fun ⟨w,o,c,p,d,f,a,e,b,i⟩=>[(57,.int .i64 f)]) (fun ⟨w,o,c,p,d,f,a,e,b,i⟩=>blk pb3 (.cells [a].toArray 25)::blk pb4 (.cells [.bool c].toArray 4)::blk pb5 (.cells [b,.int .i64 d].toArray 137)::D8 3 1 a e::D8 3 1 b i::L) (fun ⟨w,o,c,p,d,f,a,e,b,i⟩ hh=>iter (B0e (A6d n) g1 left2 t3 t11) w (o,c,p,d,f) = some aO∧A7 (VI .i64) hh e o∧A7 (VI .i64) hh i p) (fun ⟨w,o,c,p,d,f,a,e,b,i⟩=>w) (FUEL,t6,t8,t9.A1H,t9.A0B,(0:Int),v3_1,css3_2,v5_1,css5_2) ⟨z,trivial⟩ z ⟨H,hR3_3.u,hR5_3.u⟩ ?_
     rintro ⟨w,o,c,p,d,f,a,e,b,i⟩ dd de ⟨bK,q,ae⟩
     obtain ⟨bM,df,rfl,H,aP⟩:=I4 bK
     refine T.norm [57,0,1,2,3,4,5,6,7,56] z<|T.fl ?_
     refine Sr<|Vv (V.lt z z)<|Nt<|Sq<|T.cH H z (fun H=>?_) (fun H=>?_)
     ·refine T.skip<|Th<|Sq ?_
      obtain ⟨bN,bO,bP⟩:=N7 H
      refine T.O5 (α:=(List Int)×Bool×(List Int)×Int×Value×(List (List Value))×Value×(List (List Value))) [0,1,2,3,4,5,6,7,56,57] z (fun ⟨x,y,A,B,C,D,E,G⟩=>[]) (fun ⟨x,y,A,B,C,D,E,G⟩=>blk pb3 (.cells [C].toArray 25)::blk pb4 (.cells [.bool y].toArray 4)::blk pb5 (.cells [E,.int .i64 B].toArray 137)::D8 3 1 C D::D8 3 1 E G::L) (fun ⟨x,y,A,B,C,D,E,G⟩ hh=>bN = (x,y,A,B)∧A7 (VI .i64) hh D x∧A7 (VI .i64) hh G A) ?_ ?_
      ·have H:=bO
       refine Bl<|Sr<|Mv z<|Ag z<|Nt<|Sq ?_
       obtain ⟨bS,bU,bV⟩:=N7 H
       refine T.O5 (α:=Bool) [0,1,2,3,4,5,6,7,13,56,57] z (fun af=>[(14,.bool af)]) (fun af=>blk pb3 (.cells [a].toArray 25)::blk pb4 (.cells [.bool c].toArray 4)::blk pb5 (.cells [b,.int .i64 d].toArray 137)::D8 3 1 a e::D8 3 1 b i::L) (fun af hh=>bS = af) ?_ ?_
       ·have H:=bU
        refine Rg<|Vv (V.ld0 A1K z pa2.u z)<|Vv (V.U9 z)<|Vv (V.fa Z8 z)<|Vv (V.I6 (k:=6) F4 z r.u z)<|Mv z ?_
        obtain ⟨dg,aS,H⟩:=bnd H
        obtain ⟨di,bW,rfl⟩:=G9.at m aS
        refine Vv (V.ix D6 z z m (H6 aS))<|Vv (V.ld0 D9 z bW.u z)<|Vv (V.ge z z)<|Mv z<|T.bH 68 H z (fun H=>?_) (fun H=>?_)
        ·refine Vv (V.ld0 A1K z pa2.u z)<|Vv (V.U9 z)<|Vv (V.fa Z8 z)<|Vv (V.I6 (k:=6) F4 z r.u z)<|Mv z ?_
         obtain ⟨bX,aU,H⟩:=bnd H
         obtain ⟨dj,bY,rfl⟩:=G9.at m aU
         refine Vv (V.ix D6 z z m (H6 aU))<|Vv (V.ld0 D9 z bY.u z)<|Mv z<|Vv (V.ne z z)<|Vv (V.M0 z z)<|Ag z<|Nt<|T.met (!decide (bX = f)) Lr (K4 H) (A9.app ⟨z,trivial⟩ ⟨z,z,z,z,z,z,z,z,z,z,z,trivial⟩) z
        refine Sk<|Sk<|Sk<|Sk<|Sk<|Sk<|Sk<|Sk<|Sk<|Vv (V.J9 z z)<|Ag z<|Nt<|T.met false Lr (K4 H) (A9.app ⟨z,trivial⟩ ⟨z,z,z,z,z,z,z,z,z,z,z,trivial⟩) z
       rintro af dk dm bZ
       have H:=J5 bZ bV
       refine T.norm [14,0,1,2,3,4,5,6,7,13,56,57] z<|T.fl ?_
       refine Sq<|Sq ?_
       obtain ⟨b0,b1,b2⟩:=N7 H
       refine T.O5 (α:=Bool) [0,1,2,3,4,5,6,7,13,14,56,57] z (fun ag=>[(99,.bool ag)]) (fun ag=>blk pb3 (.cells [a].toArray 25)::blk pb4 (.cells [.bool c].toArray 4)::blk pb5 (.cells [b,.int .i64 d].toArray 137)::D8 3 1 a e::D8 3 1 b i::L) (fun ag hh=>b0 = ag) ?_ ?_
       ·have H:=b1
        refine Rg<|Mv z<|Mv z<|T.bH 80 H z (fun H=>?_) (fun H=>?_)
        ·refine Mv z<|Vv (V.eq z z)<|Vv (V.M0 z z)<|Mv z<|T.bH 84 H z (fun H=>?_) (fun H=>?_)
         ·refine Sk<|Sk<|Sk<|Sk<|Sk<|Sk<|Sk<|Sk<|Sk<|Sk<|Sk<|Sk<|Sk<|Sk<|Vv (V.M0 z z)<|Nt<|T.met true Lr (K4 H) (A9.app ⟨z,trivial⟩ ⟨z,z,z,z,z,z,z,z,z,z,z,z,trivial⟩) z
         refine Mv z<|Vv (V.ld0 D9 z pa6.u z)<|Vv (V.eq z z)<|Mv z<|T.bH 88 H z (fun H=>?_) (fun H=>?_)
         ·refine Vv (V.ld0 A1K z pa2.u z)<|Vv (V.U9 z)<|Vv (V.fa Z8 z)<|Vv (V.I6 (k:=6) F4 z r.u z)<|Mv z ?_
          obtain ⟨b3,aV,H⟩:=bnd H
          obtain ⟨dn,b4,rfl⟩:=G9.at m aV
          refine Vv (V.ix D6 z z m (H6 aV))<|Vv (V.ld0 D9 z b4.u z)<|Mv z<|Vv (V.eq z z)<|Vv (V.M0 z z)<|Vv (V.J9 z z)<|Nt<|T.met (decide (b3 = f)) Lr (K4 H) (A9.app ⟨z,trivial⟩ ⟨z,z,z,z,z,z,z,z,z,z,z,z,trivial⟩) z
         refine Sk<|Sk<|Sk<|Sk<|Sk<|Sk<|Sk<|Sk<|Sk<|Vv (V.J9 z z)<|Vv (V.J9 z z)<|Nt<|T.met false Lr (K4 H) (A9.app ⟨z,trivial⟩ ⟨z,z,z,z,z,z,z,z,z,z,z,z,trivial⟩) z
        refine Sk<|Sk<|Vv (V.J9 z z)<|Mv z<|Mv z<|Vv (V.ld0 D9 z pa6.u z)<|Vv (V.eq z z)<|Mv z<|T.bH 88 H z (fun H=>?_) (fun H=>?_)
        ·refine Vv (V.ld0 A1K z pa2.u z)<|Vv (V.U9 z)<|Vv (V.fa Z8 z)<|Vv (V.I6 (k:=6) F4 z r.u z)<|Mv z ?_
         obtain ⟨b5,aW,H⟩:=bnd H
         obtain ⟨dp,b6,rfl⟩:=G9.at m aW
         refine Vv (V.ix D6 z z m (H6 aW))<|Vv (V.ld0 D9 z b6.u z)<|Mv z<|Vv (V.eq z z)<|Vv (V.M0 z z)<|Vv (V.J9 z z)<|Nt<|T.met (decide (b5 = f)) Lr (K4 H) (A9.app ⟨z,trivial⟩ ⟨z,z,z,z,z,z,z,z,z,z,z,z,trivial⟩) z
        refine Sk<|Sk<|Sk<|Sk<|Sk<|Sk<|Sk<|Sk<|Sk<|Vv (V.J9 z z)<|Vv (V.J9 z z)<|Nt<|T.met false Lr (K4 H) (A9.app ⟨z,trivial⟩ ⟨z,z,z,z,z,z,z,z,z,z,z,z,trivial⟩) z
       rintro ag dq dr b7
       have H:=J5 b7 b2
       refine T.norm [99,0,1,2,3,4,5,6,7,13,14,56,57] z<|T.fl ?_
       refine T.cH H z (fun H=>?_) (fun H=>?_)
       ·refine T.exit<|Te<|Be<|Th<|T.met (o,c,p,d,a,e,b,i) Li ⟨(K4 H),q.u,ae.u⟩ (A9.app trivial ⟨z,z,z,z,z,z,z,z,z,z,trivial⟩) z
       refine T.skip<|Th<|Sq<|Sr<|Vv (V.A6h F4 z (j:=0) z z)<|Vv (V.A2E D6 z (j:=3) z q.len)<|Mv z<|Nt ?_
       obtain ⟨aX,b8,aY⟩:=N7 H
       refine T.O5 (α:=Unit) [0,1,2,3,4,5,6,7,13,14,56,57] z (fun _u=>[]) (fun _u=>blk pb3 (.cells [a].toArray 25)::blk pb4 (.cells [.bool c].toArray 4)::blk pb5 (.cells [b,.int .i64 d].toArray 137)::D8 3 1 a e::D8 3 1 b i::L) (fun _u hh=>aX = (Sum.inl ())) ?_ ?_
       ·have H:=b8
        refine Bl<|T.N8 (α:=Nat×Int) [0,1,2,3,4,5,6,7,13,14,56,57,100,101] z (fun ⟨I,J⟩=>[(102,.int .i64 J)]) (fun ⟨I,J⟩=>blk pb3 (.cells [a].toArray 25)::blk pb4 (.cells [.bool c].toArray 4)::blk pb5 (.cells [b,.int .i64 d].toArray 137)::D8 3 1 a e::D8 3 1 b i::L) (fun ⟨I,J⟩ hh=>iter (B0h o c p d f) I J = some aX) (fun ⟨I,J⟩=>I) (FUEL,(0:Int)) ⟨z,trivial⟩ z H ?_
        rintro ⟨I,J⟩ ds dt b9
        obtain ⟨bh,du,rfl,H,ay⟩:=I4 b9
        refine T.norm [102,0,1,2,3,4,5,6,7,13,14,56,57,100,101] z<|T.fl ?_
        refine Sr<|Vv (V.lt z z)<|Nt<|Sq<|T.cH H z (fun H=>?_) (fun H=>?_)
        ·refine T.skip<|Th<|Sq<|Bl<|Sr ?_
         obtain ⟨dw,aZ,H⟩:=bnd H
         obtain ⟨dx,bl,rfl⟩:=A7.get q aZ
         refine Vv (V.ixR D6 z z (j:=3) z (A7.bd q aZ))<|Vv (V.ldR D9 z (j:=3) z bl z)<|Ag z<|Nt<|Sr<|Mv z<|Mv z<|Vv (V.eq z z)<|Nt<|T.cH H z (fun H=>?_) (fun H=>?_)
         ·refine T.exit<|T.blX z<|Te<|Te<|have H:=D7 H ay; T.blX z<|Te<|have H:=J5 H aY; Be<|Th<|T.met (o,c,p,d,a,e,b,i) Li ⟨(K4 H),q.u,ae.u⟩ (A9.app trivial ⟨z,z,z,z,z,z,z,z,z,z,trivial⟩) z
         refine T.skip<|Bn<|Th<|Rg ?_
         obtain ⟨bv,bz,H⟩:=bnd H
         refine Vv (V.L8 z z bz)<|Mv z<|Nt<|T.again (bh,bv) Li (Nat.lt_succ_self _) (G8 H ay) (A9.app ⟨z,trivial⟩ ⟨z,z,z,z,z,z,z,z,z,z,z,z,z,z,trivial⟩) z
        refine T.exit<|Te<|Te<|have H:=D7 H ay; Be<|Th<|T.met () Li H (A9.app trivial ⟨z,z,z,z,z,z,z,z,z,z,z,z,trivial⟩) z
       rintro _ s dy ca
       have H:=J5 ca aY
       refine T.norm [0,1,2,3,4,5,6,7,13,14,56,57] z<|T.fl ?_
       refine Sr<|Vv (V.A6h F4 z (j:=0) z z)<|Mv z<|Mv z ?_
       obtain ⟨dA,aA,H⟩:=bnd H
       obtain ⟨dB,dC,rfl⟩:=A7.get q aA
       refine Vv (V.ixR D6 z z (j:=3) z (A7.bd q aA)) ?_
       obtain ⟨cb,cc,H⟩:=bnd H
       refine To (O.stR D9 z z (j:=3) z (A7.bdN q aA) z<|have a0:A7 (VI .i64) s (e.set g1.toNat [.int .i64 f]) cb:=A7.set q.u (show (VI .i64) s [.int .i64 f] f from z) cc; Nt<|Sq<|Sr<|Mv z<|Nt<|T.cH H z (fun H=>?_) (fun H=>?_))
       ·refine Rg<|Vv (V.ld0 A4Z z pa7.u z)<|Mv z ?_
        obtain ⟨dD,cd,H⟩:=bnd H
        refine Vv (V.L8 z z cd)<|Mv z ?_
        obtain ⟨dE,ce,H⟩:=bnd H
        refine Vv (V.A0M z z ce)<|I7 4 z<|T.fl ?_
        refine I7 4 z<|T.fl ?_
        refine I7 4 z<|T.fl ?_
        refine I7 3 z<|T.fl ?_
        refine I7 4 z<|T.fl ?_
        obtain ⟨⟨dG,cf,a1⟩,cg,H⟩:=bnd H
        refine To (O.C1P z z (self pa2.u (show (VPt L6) s [.pointer (some ai)] t3 from ⟨(.pointer (some ai)),z,(Pt.mk r.u (show L6 s [aj,ak,am,an,ao,ap,aq,.int .i64 t3.V5] t3 from ⟨aj,ak,am,an,ao,ap,aq,z,ar.u,aD.u,aE.u,aG.u,aI.u,aJ.u,m.u⟩))⟩) a0 ae.u pa6.u (show (VI .i64) s [.int .i64 t11] t11 from z) pa7.u cg _) z fun dI a2 dJ dK ci=>?_)
        obtain ⟨cj,a3,ck,cm,rfl,cn,aw,co⟩:=ci
        refine I9 _ cn<|Nt<|Rg<|Vv (V.A6h F4 z (j:=0) z z)<|Mv z ?_
        obtain ⟨dM,aB,H⟩:=bnd H
        obtain ⟨dN,dO,rfl⟩:=A7.get aw aB
        refine Vv (V.ixR D6 z z (j:=1) z (A7.bd aw aB)) ?_
        obtain ⟨a4,cp,H⟩:=bnd H
        refine To (O.stR D9 z z (j:=1) z (A7.bdN aw aB) z<|have cq:A7 (VI .i64) a2 (a3.set g1.toNat [.int .i64 (-1:Int)]) a4:=A7.set aw (show (VI .i64) a2 [.int .i64 (-1:Int)] (-1:Int) from z) cp; Ni<|Bn<|Th<|I7 4 z<|T.fl ?_)
        refine I7 1 z<|T.fl ?_
        refine I7 4 z<|T.fl ?_
        refine I7 4 z<|T.fl ?_
        refine I7 4 z<|T.fl ?_
        exact T.met (a4,cf,a1.A1H,a1.A0B,cj,(a3.set g1.toNat [.int .i64 (-1:Int)]),ck,cm) Li ⟨(K4 H),cq,co⟩ (A9.app trivial ⟨z,z,z,z,z,z,z,z,z,z,trivial⟩) z
       refine Rg<|Vv (V.ld0 A4Z z pa7.u z)<|Mv z ?_
       obtain ⟨dP,cr,H⟩:=bnd H
       refine Vv (V.L8 z z cr)<|Mv z<|I7 4 z<|T.fl ?_
       refine I7 4 z<|T.fl ?_
       refine I7 4 z<|T.fl ?_
       refine I7 3 z<|T.fl ?_
       refine I7 4 z<|T.fl ?_
       obtain ⟨⟨dS,ct,a5⟩,cu,H⟩:=bnd H
       refine To (O.C1P z z (self pa2.u (show (VPt L6) s [.pointer (some ai)] t3 from ⟨(.pointer (some ai)),z,(Pt.mk r.u (show L6 s [aj,ak,am,an,ao,ap,aq,.int .i64 t3.V5] t3 from ⟨aj,ak,am,an,ao,ap,aq,z,ar.u,aD.u,aE.u,aG.u,aI.u,aJ.u,m.u⟩))⟩) a0 ae.u pa6.u (show (VI .i64) s [.int .i64 t11] t11 from z) pa7.u cu _) z fun dU a6 dV dW cw=>?_)
       obtain ⟨cx,a7,cy,cA,rfl,cB,ax,cC⟩:=cw
       refine I9 _ cB<|Nt<|Rg<|Vv (V.A6h F4 z (j:=0) z z)<|Mv z ?_
       obtain ⟨dX,aC,H⟩:=bnd H
       obtain ⟨dY,dZ,rfl⟩:=A7.get ax aC
       refine Vv (V.ixR D6 z z (j:=1) z (A7.bd ax aC)) ?_
       obtain ⟨a8,cD,H⟩:=bnd H
       refine To (O.stR D9 z z (j:=1) z (A7.bdN ax aC) z<|have cE:A7 (VI .i64) a6 (a7.set g1.toNat [.int .i64 (-1:Int)]) a8:=A7.set ax (show (VI .i64) a6 [.int .i64 (-1:Int)] (-1:Int) from z) cD; Ni<|Bn<|Th<|I7 4 z<|T.fl ?_)
       refine I7 1 z<|T.fl ?_
       refine I7 4 z<|T.fl ?_
       refine I7 4 z<|T.fl ?_
       refine I7 4 z<|T.fl ?_
       exact T.met (a8,ct,a5.A1H,a5.A0B,cx,(a7.set g1.toNat [.int .i64 (-1:Int)]),cy,cA) Li ⟨(K4 H),cE,cC⟩ (A9.app trivial ⟨z,z,z,z,z,z,z,z,z,z,trivial⟩) z
      rintro ⟨x,y,A,B,C,D,E,G⟩ d0 d1 ⟨cG,cI,cJ⟩
      have H:=J5 cG bP
      refine T.norm [0,1,2,3,4,5,6,7,56,57] z<|T.fl ?_
      refine Rg ?_
      obtain ⟨cK,cM,H⟩:=bnd H
      refine Vv (V.L8 z z cM)<|Mv z<|Nt<|T.again (bM,x,y,A,B,cK,C,D,E,G) Li (Nat.lt_succ_self _) ⟨(G8 H aP),cI,cJ⟩ (A9.app ⟨z,trivial⟩ ⟨z,z,z,z,z,z,z,z,z,trivial⟩) z
     refine T.exit<|Te<|Te<|have H:=D7 H aP; Be<|Th<|T.met (o,c,p,d,a,e,b,i) Li ⟨H,q,ae⟩ (A9.app trivial ⟨z,z,z,trivial⟩) z
    rintro ⟨W,X,Y,Z,aa,ab,ac,ad⟩ d2 d3 ⟨cN,cO,cP⟩
    have H:=J5 cN bJ
    refine T.norm [3,4,5] z<|T.fl ?_
    refine T.sgN<|I7 4 z<|T.fl ?_
    refine I7 3 z<|T.fl ?_
    refine I7 3 z<|T.fl ?_
    refine I7 4 z<|T.fl ?_
    refine I7 4 z<|T.fl ?_
    obtain ⟨rfl,rfl,rfl⟩:=B2G H
    exact T.B2D Tryz.results156 Li ⟨_,_,_,_,z,z,cO,cP⟩
theorem C0K {h:PH} {pv0:Value} {s1:F7} (pr0:Pt L6 h pv0 s1) {moves2:Int} {oust3:Int} {r_0:X7} {r_1:Bool} (H:B8Y s1 moves2 oust3 = some (r_0,r_1)):∀ L,H5 Tryz.prog 85 [pv0,.int .i64 moves2,.int .i64 oust3] h (L) (fun v h' L'=>∃ v0_1,v = .tuple #[.agg #[v0_1,.int .i64 r_0.A0B],.bool r_1]∧L' = L∧G9 (VI .i64) 1 h' v0_1 r_0.A1H):=by
 intro L
 refine H5.enter Tryz.func85 z Tryz.ntmps85 z<|Sr<|To (O.V3 z (Pt.cells pr0) z fun w ar au b=>To (O.V3 z z z fun x y aw A=>To (O.alloc A7V z z fun ax=>Ag z<|Nt<|Sr<|To (O.bs D6 Q4 z (e:=z) (hk:=z) (xs:=[.const (.int .i64 (-1))]) (hv:=CO.eq (CO.cons z CO.nil)) (hw:=O7.of z) (hd:=z) fun ay=>have B:A7 (VI .i64) y [[.int .i64 (-1:Int)]] ([(-1:Int)]:List Int):=(A7.cons z A7.nil); Vv (V.ld0 A1K z b.u z)<|have C:=pr0; ?_))))
 obtain ⟨c,_,rfl,d,⟨f,g,i,m,n,o,p,rfl,D,E,G,I,J,K,q⟩⟩:=C
 refine Vv (V.U9 z)<|Vv (V.fa Z8 z)<|Vv (V.I6 (k:=6) F4 z d.u z)<|Vv (V.P6 D6 z q)<|T.K8 fun aA aB M=>have N:=A7.slc M B.u; ?_
 obtain ⟨aC,P,H⟩:=bnd H
 refine To (O.C8 z (A4r N P _) z fun S aD aE aG U=>?_)
 obtain ⟨aI,W,X⟩:=U
 refine I9 _ W<|To (O.alloc A2z rfl rfl fun Y=>T.M5 1 rfl fun Z aa=>To (O.stF (vs:=[S]) F4 rfl rfl (j:=0) rfl aa (by (simp only [Sl.ones,Z,Bool.and_true,Bool.true_and]) <;> rfl) rfl ?_))
 refine T.fl ?_
 refine Nt<|Sr<|To (O.alloc A7V z z fun ab=>Nt<|Sr<|To (O.alloc A6i z z fun ac=>To (O.stF (vs:=[.bool false]) X8 z z (j:=0) z z z z<|T.fl ?_)))
 refine Nt<|Sr<|To (O.alloc B9G z z fun ad=>Nt<|Sr<|Vv (V.mkf z z)<|To (O.stF (vs:=[.func (.func 156) #[] #[.pointer (some ⟨w,0,none⟩),.pointer (some ⟨Y,0,none⟩),.pointer (some ⟨ac,0,none⟩),.pointer (some ⟨ab,0,none⟩),.pointer (some ⟨x,0,none⟩),.pointer (some ⟨ad,0,none⟩)]]) A4Z z z (j:=0) z z z z<|T.fl ?_))
 refine T.freeze fun a aJ ae=>have r:=AtC.of ae; Nt<|Sr<|Vv (V.ld0 A4Z z r z)<|Mv z<|T.A0n 3 1<|have af:A7 (VI .i64) a [] ([]:List Int):=A7.nil; I7 2 z<|T.fl ?_
 refine I7 2 z<|T.fl ?_
 refine I7 4 z<|T.fl ?_
 refine I7 4 z<|T.fl ?_
 obtain ⟨⟨aK,aM,ag⟩,ai,H⟩:=bnd H
 refine To (O.C1P z z (B7z _ b.u (show (VPt L6) a [.pointer (some c)] s1 from ⟨(.pointer (some c)),z,(Pt.mk d.u (show L6 a [f,g,i,m,n,o,p,.int .i64 s1.V5] s1 from ⟨f,g,i,m,n,o,p,z,D.u,E.u,G.u,I.u,J.u,K.u,q.u⟩))⟩) X.u af A.u (show (VI .i64) a [.int .i64 oust3] oust3 from z) r ai _) z fun aN aO aP aS aj=>?_)
 obtain ⟨aU,aV,ak,aW,rfl,am,aX,an⟩:=aj
 refine I9 _ am<|Nt<|Sq<|I7 4 z<|T.fl ?_
 refine T.K8 fun aY aZ ao=>have s:=A7.slc ao an.u; I7 4 z<|T.fl ?_
 refine I7 4 z<|T.fl ?_
 refine I7 4 z<|T.fl ?_
 refine T.O8 (t:=(.v 0 (.v 1 (.alt 2 (.alt 3 .done .no) .no)))) 2 3 2 rfl rfl I8 (by kernel_rfl) ?_
 refine Tv z (Val.XA fun _ _ _=>V.C0D (j:=1) (by exact A3A) rfl rfl) ?_
 refine Tv z (Val.XA fun _ _ _=>V.A6h X8 rfl (j:=0) rfl rfl)<|Tp z z (SX.two (XA.fr [1,1] Lr rfl) (XA.fr [2,2,2] Lr rfl)) (O.stF (vs:=[ak,.int .i64 ag.A0B]) A3A rfl rfl (j:=2) rfl rfl (by (simp only [Sl.ones,G9.one s,Bool.and_true,Bool.true_and]) <;> rfl) rfl ?_) T.Q9
 refine T.fl ?_
 refine T.freeze fun a0 a1 ap=>have aq:=AtC.of ap; Ts z z (SX.one (XA.fr [1,1] Li z) z) (V.asg z) z ?_ T.Q9
 refine T.R5 (SX.one (XA.fr [1,1] Li z) z)<|Th<|T.ret<|T.drop<|T.drop<|T.drop<|T.drop ?_
 obtain ⟨rfl,rfl⟩:=inj2 H
 exact T.F5 Tryz.results85 (RVs.cons (RV.C1r z aq A3A) (Rv z)) Li ⟨_,z,z,s.u⟩
theorem B1g {h:PH} {pv0:Value} {s1:F7} (pr0:Pt L6 h pv0 s1) {most2:Int} {oust3:Int} {r_0:U6} {r_1:Int} (H:B1v s1 most2 oust3 = some (r_0,r_1)):∀ L,H5 Tryz.prog 28 [pv0,.int .i64 most2,.int .i64 oust3] h (L) (fun v h' L'=>∃ v0_1 v0_3 v0_5 v0_7 v0_9 v0_11,v = .tuple #[.agg #[v0_1,v0_3,v0_5,v0_7,v0_9,v0_11,.int .i64 r_0.A1X,.int .i64 r_0.A0B],.int .i64 r_1]∧L' = L∧G9 E8 7 h' v0_1 r_0.U8.H8∧G9 G7 9 h' v0_3 r_0.U8.F3∧G9 I1 3 h' v0_5 r_0.U8.J8∧G9 (VI .i64) 1 h' v0_7 r_0.U8.K5∧G9 H9 6 h' v0_9 r_0.U8.K9∧G9 (VI .i64) 1 h' v0_11 r_0.A1H):=by
 intro L
 refine H5.enter Tryz.func28 z Tryz.ntmps28 z<|Sr<|To (O.alloc A0L z z fun f=>Ag z<|Nt<|Sq<|Sr<|Mv z<|Mv z ?_)
 obtain ⟨ax,K,H⟩:=bnd H
 refine To (O.C8 z (B0L pr0 K _) z fun ay aA aB aC M=>?_)
 obtain ⟨rfl,N⟩:=M
 refine I9 _ N<|Vv (V.gt z z)<|Nt<|T.cH H z (fun H=>?_) (fun H=>?_)
 ·exact dead H
 refine T.skip<|Th<|Sq<|Sr<|Ag z<|Nt ?_
 obtain ⟨i,P,m⟩:=N7 H
 refine T.O5 (α:=Unit) [6] z (fun _u=>[]) (fun _u=>blk f (.cells [.slice none 0 0,.slice none 0 0,.slice none 0 0,.slice none 0 0,.slice none 0 0,.slice none 0 0,.int .i64 (0:Int),.int .i64 (0:Int)].toArray 46)::L) (fun _u hh=>i = (Sum.inl ())) ?_ ?_
 ·have H:=P
  refine Bl<|T.N8 (α:=Nat×Int) [0,1,2,6] z (fun ⟨b,a⟩=>[(8,.int .i64 a)]) (fun ⟨b,a⟩=>blk f (.cells [.slice none 0 0,.slice none 0 0,.slice none 0 0,.slice none 0 0,.slice none 0 0,.slice none 0 0,.int .i64 (0:Int),.int .i64 (0:Int)].toArray 46)::L) (fun ⟨b,a⟩ hh=>iter (B1b s1 most2 oust3) b a = some i) (fun ⟨b,a⟩=>b) (FUEL,(0:Int)) ⟨z,trivial⟩ z H ?_
  rintro ⟨b,a⟩ S aD U
  obtain ⟨W,aE,rfl,H,d⟩:=I4 U
  refine T.norm [8,0,1,2,6] z<|T.fl ?_
  refine Sq<|Sr<|Mv z<|Mv z<|Mv z<|have X:=pr0; ?_
  obtain ⟨aG,_,rfl,e,⟨n,o,p,q,r,s,w,rfl,x,Y,Z,aa,ab,ac,y⟩⟩:=X
  refine Vv (V.U9 z)<|Vv (V.fa Z8 z)<|Vv (V.I6 (k:=6) F4 z e.u z)<|Vv (V.P6 D6 z y)<|Vv (V.min2 z z)<|Vv (V.le z z)<|Nt<|T.cH H z (fun H=>?_) (fun H=>?_)
  ·refine T.skip<|Th<|Sq<|Bl<|Sr<|Mv z<|Mv z<|Mv z ?_
   obtain ⟨⟨A,aI⟩,ad,H⟩:=bnd H
   refine To (O.C8 z (C0K (Pt.mk e.u (show L6 S [n,o,p,q,r,s,w,.int .i64 s1.V5] s1 from ⟨n,o,p,q,r,s,w,z,x.u,Y.u,Z.u,aa.u,ab.u,ac.u,y.u⟩)) ad _) z fun aJ aK aM aN ae=>?_)
   obtain ⟨B,rfl,af,c⟩:=ae
   refine I9 _ af<|Mv z<|Vv (V.ext rfl rfl)<|Vv (V.ext rfl rfl)<|To (O.alloc A7V rfl rfl fun aO=>To (O.stF (vs:=[B,.int .i64 A.A0B]) A3A rfl rfl (j:=0) rfl rfl (by (simp only [Sl.ones,G9.one c,Bool.and_true,Bool.true_and]) <;> rfl) rfl ?_))
   refine T.freeze fun aP aS ag=>have C:=AtC.of ag; Ag z<|Nt<|Sr<|Mv z<|Nt<|T.cH H z (fun H=>?_) (fun H=>?_)
   ·refine Sq<|T.O8 (t:=(.v 0 (.v 1 (.v 2 (.v 3 (.v 5 (.v 6 (.v 7 (.v 8 (.v 9 (.alt 4 (.g (.v 10 (.alt 11 (.alt 12 .done .no) .no))) .no))))))))))) 11 1 0 rfl rfl I8 (by kernel_rfl) ?_
    refine Tm z z<|Tv z (V.U9 z)<|Tv z (V.fa A2h z)<|Tv z (V.I6 (k:=0) R7 z e.u z)<|Tv z (V.fa B7o z)<|Tv z (V.I6 (k:=0) F4 z C z)<|Tm z z<|Tv z (V.fa A9W z)<|Tv z (V.I6 (k:=1) D9 z C z) ?_
    obtain ⟨aU,ai,H⟩:=bnd H
    refine Tp z z (SX.two (XA.fr [] Lr z) (XA.fr [0] Lr z)) (O.C8 z (A8O x.u ai _) z fun aV aW aX aY aj=>?_) T.Q9
    obtain ⟨ak,am,an,ao,ap,rfl,aq,D,E,G,I,J⟩:=aj
    refine I9 _ aq<|T.M6 Li<|Tv z (V.bld (xs:=[(0,.tmp 39),(1,.tmp 41),(2,.tmp 42),(3,.tmp 44)]) (cs:=[_,_,_,_,_,_,_,_]) A6b A6c rfl (F8.cons rfl rfl rfl (F8.cons rfl (G9.cells c) rfl (F8.cons rfl rfl rfl (F8.cons rfl rfl rfl F8.nil)))))<|Tp z z (SX.two (XA.fr [] Lr rfl) (XA.fr [0] Lr rfl)) (O.stF (vs:=[ak,am,an,ao,ap,B,.int .i64 a,.int .i64 A.A0B]) U7 rfl rfl (j:=0) rfl rfl (by (simp only [Sl.ones,G9.one D,G9.one E,G9.one G,G9.one I,G9.one J,G9.one c,Bool.and_true,Bool.true_and]) <;> rfl) rfl ?_) T.Q9
    refine Ts z z (SX.one (XA.fr [] Lr z) z) (V.asg z) z ?_ T.Q9
    refine T.R5 (SX.one (XA.fr [] Lr z) z)<|Th<|T.ret<|Br<|Tr<|Tr<|have H:=D7 H d; Br<|Tr<|have H:=J5 H m; ?_
    obtain ⟨rfl,rfl⟩:=inj2 H
    exact T.A6Z (L':=L) Tryz.results28 (RVs.cons (RV.cellS z (j:=0) z U7) (Rv z)) Li (fun _ iv=>iv.drop) ⟨_,_,_,_,_,_,z,z,D,E,G,I,J,c.u⟩
   refine T.skip<|Bn<|Th<|Rg<|Mv z ?_
   obtain ⟨ar,au,H⟩:=bnd H
   refine Vv (V.L8 z z au)<|Ag z<|Nt<|T.again (W,ar) Li (Nat.lt_succ_self _) (G8 H d) (A9.app ⟨z,trivial⟩ ⟨z,z,z,z,trivial⟩) z
  refine T.exit<|Te<|Te<|have H:=D7 H d; Be<|Th<|T.met () Li H (A9.app trivial ⟨z,trivial⟩) z
 rintro _ aZ a0 aw
 have H:=J5 aw m
 refine T.norm [6] z<|T.fl ?_
 refine Sr<|Vv (V.bld (xs:=[]) (cs:=[_,_,_,_,_,_,_,_]) A6b A6c z F8.nil)<|To (O.stF (vs:=[.slice none 0 0,.slice none 0 0,.slice none 0 0,.slice none 0 0,.slice none 0 0,.slice none 0 0,.int .i64 (0:Int),.int .i64 (0:Int)]) U7 z z (j:=0) z z z z<|Ag z<|Nt<|T.ret ?_)
 obtain ⟨rfl,rfl⟩:=inj2 H
 exact T.A6Z (L':=L) Tryz.results28 (RVs.cons (RV.cellS z (j:=0) z U7) (Rv z)) Li (fun _ iv=>iv.drop) ⟨_,_,_,_,_,_,z,z,G9.nil,G9.nil,G9.nil,G9.nil,G9.nil,G9.nil⟩
theorem A5g {h:PH} {pc0:List Value} {p1:A8} (pr0:C9 h pc0 p1) {pv1:Value} {part12:List Int} (pr1:G9 (VI .i64) 1 h pv1 part12) {most13:Int} {r_0:U6} {r_1:Int} (H:A6Y p1 part12 most13 = some (r_0,r_1)):∀ L,H5 Tryz.prog 8 [.agg pc0.toArray,pv1,.int .i64 most13] h (L) (fun v h' L'=>∃ v0_1 v0_3 v0_5 v0_7 v0_9 v0_11,v = .tuple #[.agg #[v0_1,v0_3,v0_5,v0_7,v0_9,v0_11,.int .i64 r_0.A1X,.int .i64 r_0.A0B],.int .i64 r_1]∧L' = L∧G9 E8 7 h' v0_1 r_0.U8.H8∧G9 G7 9 h' v0_3 r_0.U8.F3∧G9 I1 3 h' v0_5 r_0.U8.J8∧G9 (VI .i64) 1 h' v0_7 r_0.U8.K5∧G9 H9 6 h' v0_9 r_0.U8.K9∧G9 (VI .i64) 1 h' v0_11 r_0.A1H):=by
 intro L
 obtain ⟨b,c,d,e,f,rfl,A,B,C,D,E⟩:=pr0
 refine H5.enter Tryz.func8 rfl Tryz.ntmps8 rfl<|Sr<|To (O.V3 rfl rfl rfl fun aC G aD I=>To (O.alloc A0L rfl rfl fun aE=>Ag z<|Nt<|Sr<|Vv (V.Z9 rfl I (by exact F9)) ?_))
 refine Mv z ?_
 obtain ⟨⟨a,aG⟩,J,H⟩:=bnd H
 refine To (O.C8 z (A1x (show C9 G [b,c,d,e,f] p1 from ⟨b,c,d,e,f,z,A.u,B.u,C.u,D.u,E.u⟩) pr1.u J _) z fun aI aJ aK aM K=>?_)
 obtain ⟨aN,g,i,aO,k,aP,m,aS,n,aU,o,aV,p,aW,rfl,M,N,P,S,U,W,X,Y⟩:=K
 refine I9 _ M<|Mv z<|Vv (V.ext z z)<|Vv (V.ext z z)<|Ag z<|Ag z<|Nt<|Sq<|Sr<|Mv z<|Vv (V.ne z z)<|Nt<|T.cH H z (fun H=>?_) (fun H=>?_)
 ·exact dead H
 refine T.skip<|Th<|Sr<|Mv z<|Mv z<|Vv (V.max2 z z)<|I7 1 z<|T.fl ?_
 refine T.K8 fun aX aY Z=>have aa:=A7.slc Z P.u; I7 1 z<|T.fl ?_
 refine T.K8 fun aZ a0 ab=>have ac:=A7.slc ab S.u; I7 1 z<|T.fl ?_
 refine T.K8 fun a1 a2 ad=>have ae:=A7.slc ad U.u; I7 1 z<|T.fl ?_
 refine T.K8 fun a3 a4 af=>have ag:=A7.slc af W.u; I7 1 z<|T.fl ?_
 refine T.K8 fun a5 a6 ai=>have aj:=A7.slc ai X.u; I7 1 z<|T.fl ?_
 refine T.K8 fun a7 a8 ak=>have am:=A7.slc ak Y.u; T.B4x fun an a9 ao=>?_
 obtain ⟨⟨q,ah⟩,ap,H⟩:=bnd H
 refine To (O.C8 z (B1g (Pt.mk ao (show L6 an [g,i,k,m,n,o,p,.int .i64 a.V5] (F7.mk a.O6 (A8.mk a.fp.H8 a.fp.F3 a.fp.J8 a.fp.K5 a.fp.K9) a.R6 a.V5) from ⟨g,i,k,m,n,o,p,z,N.u,aa.u,ac.u,ae.u,ag.u,aj.u,am.u⟩)) ap _) z fun al av az ba aq=>?_)
 obtain ⟨ar,au,aw,ax,ay,aA,rfl,aB,r,s,t,w,x,y⟩:=aq
 refine I9 _ aB<|Vv (V.ext rfl rfl)<|Vv (V.ext rfl rfl)<|To (O.stF (vs:=[ar,au,aw,ax,ay,aA,.int .i64 q.A1X,.int .i64 q.A0B]) U7 rfl rfl (j:=0) rfl rfl (by (simp only [Sl.ones,G9.one r,G9.one s,G9.one t,G9.one w,G9.one x,G9.one y,Bool.and_true,Bool.true_and]) <;> rfl) rfl ?_)
 refine Ag z<|Nt<|T.ret ?_
 obtain ⟨rfl,rfl⟩:=inj2 H
 exact T.A6Z (L':=L) Tryz.results8 (RVs.cons (RV.cellS z (j:=0) z U7) (Rv z)) Li (fun _ iv=>iv.drop) ⟨_,_,_,_,_,_,z,z,r,s,t,w,x,y⟩
theorem B8V {h:PH} {pc0:List Value} {p1:A8} (pr0:C9 h pc0 p1) {pv1:Value} {part12:List Int} (pr1:G9 (VI .i64) 1 h pv1 part12) {g13:Int} {most14:Int} {r_0:U6} {r_1:Int} (H:B6C p1 part12 g13 most14 = some (r_0,r_1)):∀ L,H5 Tryz.prog 9 [.agg pc0.toArray,pv1,.int .i64 g13,.int .i64 most14] h (L) (fun v h' L'=>∃ v0_1 v0_3 v0_5 v0_7 v0_9 v0_11,v = .tuple #[.agg #[v0_1,v0_3,v0_5,v0_7,v0_9,v0_11,.int .i64 r_0.A1X,.int .i64 r_0.A0B],.int .i64 r_1]∧L' = L∧G9 E8 7 h' v0_1 r_0.U8.H8∧G9 G7 9 h' v0_3 r_0.U8.F3∧G9 I1 3 h' v0_5 r_0.U8.J8∧G9 (VI .i64) 1 h' v0_7 r_0.U8.K5∧G9 H9 6 h' v0_9 r_0.U8.K9∧G9 (VI .i64) 1 h' v0_11 r_0.A1H):=by
 intro L
 obtain ⟨b,c,d,e,f,rfl,B,C,D,E,G⟩:=pr0
 refine H5.enter Tryz.func9 rfl Tryz.ntmps9 rfl<|Sr<|To (O.V3 rfl rfl rfl fun aE I aG J=>To (O.alloc A0L rfl rfl fun aI=>Ag z<|Nt<|Sr<|Vv (V.Z9 rfl J (by exact F9)) ?_))
 refine Mv z ?_
 obtain ⟨⟨a,aJ⟩,K,H⟩:=bnd H
 refine To (O.C8 z (A1x (show C9 I [b,c,d,e,f] p1 from ⟨b,c,d,e,f,z,B.u,C.u,D.u,E.u,G.u⟩) pr1.u K _) z fun aK aM aN aO M=>?_)
 obtain ⟨aP,g,i,aS,k,aU,m,aV,n,aW,o,aX,p,aY,rfl,N,P,S,U,W,X,Y,Z⟩:=M
 refine I9 _ N<|Mv z<|Vv (V.ext z z)<|Vv (V.ext z z)<|Ag z<|Ag z<|Nt<|Sq<|Sr<|Mv z<|Vv (V.ne z z)<|Nt<|T.cH H z (fun H=>?_) (fun H=>?_)
 ·exact dead H
 refine T.skip<|Th<|Sq<|Sr<|Mv z<|Vv (V.lt z z)<|Mv z<|T.bH 24 H z (fun H=>?_) (fun H=>?_)
 ·exact dead H
 refine Mv z<|Mv z<|Vv (V.P6 D6 z pr1)<|Vv (V.ge z z)<|Vv (V.J9 z z)<|Mv z<|T.bH 30 H z (fun H=>?_) (fun H=>?_)
 ·exact dead H
 refine Mv z<|Mv z ?_
 obtain ⟨aZ,q,H⟩:=bnd H
 obtain ⟨a0,aa,rfl⟩:=G9.at pr1 q
 refine Vv (V.ix D6 z z pr1 (H6 q))<|Vv (V.ld0 D9 z aa.u z)<|Vv (V.lt z z)<|Vv (V.J9 z z)<|Nt<|T.cH H z (fun H=>?_) (fun H=>?_)
 ·exact dead H
 refine T.skip<|Th<|Sr<|Mv z<|Mv z<|Vv (V.max2 z z)<|Mv z<|I7 1 z<|T.fl ?_
 refine T.K8 fun a1 a2 ab=>have ac:=A7.slc ab S.u; I7 1 z<|T.fl ?_
 refine T.K8 fun a3 a4 ad=>have ae:=A7.slc ad U.u; I7 1 z<|T.fl ?_
 refine T.K8 fun a5 a6 af=>have ag:=A7.slc af W.u; I7 1 z<|T.fl ?_
 refine T.K8 fun a7 a8 ai=>have aj:=A7.slc ai X.u; I7 1 z<|T.fl ?_
 refine T.K8 fun a9 ah ak=>have am:=A7.slc ak Y.u; I7 1 z<|T.fl ?_
 refine T.K8 fun al av an=>have ao:=A7.slc an Z.u; T.B4x fun ap az aq=>?_
 obtain ⟨⟨r,ba⟩,ar,H⟩:=bnd H
 refine To (O.C8 z (B1g (Pt.mk aq (show L6 ap [g,i,k,m,n,o,p,.int .i64 a.V5] (F7.mk a.O6 (A8.mk a.fp.H8 a.fp.F3 a.fp.J8 a.fp.K5 a.fp.K9) a.R6 a.V5) from ⟨g,i,k,m,n,o,p,z,P.u,ac.u,ae.u,ag.u,aj.u,am.u,ao.u⟩)) ar _) z fun bb bc bd be au=>?_)
 obtain ⟨aw,ax,ay,aA,aB,aC,rfl,aD,s,t,w,x,y,A⟩:=au
 refine I9 _ aD<|Vv (V.ext rfl rfl)<|Vv (V.ext rfl rfl)<|To (O.stF (vs:=[aw,ax,ay,aA,aB,aC,.int .i64 r.A1X,.int .i64 r.A0B]) U7 rfl rfl (j:=0) rfl rfl (by (simp only [Sl.ones,G9.one s,G9.one t,G9.one w,G9.one x,G9.one y,G9.one A,Bool.and_true,Bool.true_and]) <;> rfl) rfl ?_)
 refine Ag z<|Nt<|T.ret ?_
 obtain ⟨rfl,rfl⟩:=inj2 H
 exact T.A6Z (L':=L) Tryz.results9 (RVs.cons (RV.cellS z (j:=0) z U7) (Rv z)) Li (fun _ iv=>iv.drop) ⟨_,_,_,_,_,_,z,z,s,t,w,x,y,A⟩
theorem B6l {h:PH} {pc0:List Value} {r1:G5} (pr0:H9 h pc0 r1) {r_0:Bool} (H:A8c r1 = some r_0):∀ L,H5 Tryz.prog 31 [.agg pc0.toArray] h (L) (fun v h' L'=>v = .bool r_0∧L' = L):=by
 intro L
 obtain rfl:=pr0
 refine H5.enter Tryz.func31 z Tryz.ntmps31 z<|Sr<|To (O.V3 z z z fun b c d a=>Ag z<|Nt<|Sr<|Vv (V.fa A1a z)<|Vv (V.I6 (k:=1) D9 z a z)<|Vv (V.gt z z)<|Ag z<|Nt<|T.ret ?_)
 obtain rfl:=Option.some.inj H
 exact T.F5 Tryz.results31 (Rv z) Li ⟨z,z⟩
theorem B1R {h:PH} {pc0:List Value} {p1:A8} (pr0:C9 h pc0 p1) {pv1:Value} {part12:List Int} (pr1:G9 (VI .i64) 1 h pv1 part12) {r_0:A8} {r_1:Int} (H:B1n p1 part12 = some (r_0,r_1)):∀ L,H5 Tryz.prog 10 [.agg pc0.toArray,pv1] h (L) (fun v h' L'=>∃ v0_1 v0_3 v0_5 v0_7 v0_9,v = .tuple #[.agg #[v0_1,v0_3,v0_5,v0_7,v0_9],.int .i64 r_1]∧L' = L∧G9 E8 7 h' v0_1 r_0.H8∧G9 G7 9 h' v0_3 r_0.F3∧G9 I1 3 h' v0_5 r_0.J8∧G9 (VI .i64) 1 h' v0_7 r_0.K5∧G9 H9 6 h' v0_9 r_0.K9):=by
 intro L
 obtain ⟨I,J,K,M,N,rfl,w,D,am,an,ao⟩:=pr0
 refine H5.enter Tryz.func10 rfl Tryz.ntmps10 rfl<|Sr<|To (O.V3 rfl rfl rfl fun bC aq bD y=>To (O.alloc A0l rfl rfl fun P=>Ag z<|Nt<|Sr<|Vv (V.Z9 rfl y (by exact F9)) ?_))
 refine Mv z ?_
 obtain ⟨⟨bE,bG⟩,ar,H⟩:=bnd H
 refine To (O.C8 z (A1x (show C9 aq [I,J,K,M,N] p1 from ⟨I,J,K,M,N,z,w.u,D.u,am.u,an.u,ao.u⟩) pr1.u ar _) z fun bI bJ bK bM au=>?_)
 obtain ⟨bN,bO,bP,bS,bU,bV,bW,bX,bY,bZ,b0,b1,b2,b3,rfl,aw,ax,b4,b5,b6,b7,b8,b9⟩:=au
 refine I9 _ aw<|Mv z<|Vv (V.ext z z)<|Vv (V.ext z z)<|Ag z<|Ag z<|Nt<|Sq<|Sr<|Mv z<|Vv (V.ne z z)<|Nt<|T.cH H z (fun H=>?_) (fun H=>?_)
 ·exact dead H
 refine T.skip<|Th<|Sr<|Mv z<|Vv (V.U9 z)<|Vv (V.fa A2h z)<|Vv (V.ldO (k:=0) R7 z (j:=0) z z) ?_
 obtain ⟨bh,ay,H⟩:=bnd H
 refine To (O.C8 z (A7p ax ay _) z fun bl aA bv bz aB=>?_)
 obtain ⟨d,S,f,U,m,W,n,X,aC,ca,rfl,aD,aE,aG,aI,aJ,aK⟩:=aB
 refine I9 _ aD<|To (O.alloc A0l rfl rfl fun Y=>T.M5 1 rfl fun aM cb=>T.M5 2 rfl fun aN cc=>T.M5 3 rfl fun aO cd=>T.M5 4 rfl fun aP ce=>T.M5 5 rfl fun aS cf=>To (O.stF (vs:=[d,f,m,n,aC]) F9 rfl rfl (j:=0) rfl rfl (by (simp only [Sl.ones,aM,aN,aO,aP,aS,Bool.and_true,Bool.true_and]) <;> rfl) rfl ?_))
 refine T.fl ?_
 refine Nt<|Sr<|Vv (V.fa T9 z)<|Vv (V.ldO (k:=4) Q8 z (j:=0) z z)<|I7 5 z<|T.fl ?_
 obtain ⟨aU,aV,H⟩:=bnd H
 refine To (O.C8 z (B2n aK (show B6f aA (.func (.func 31) #[] #[]) A8c from ⟨⟨z,z⟩,.inr ⟨31,[],[],z,fun cg ci cj ck aW cm aX aY=>B6l aW aX aY⟩⟩) aV _) z fun Z cn co cp aZ=>?_)
 obtain ⟨a0,a1,a2⟩:=aZ
 refine I9 _ a1<|Vv (V.fa T9 rfl)<|T.M5 0 rfl fun a3 a4=>To (O.st (vs:=[Z]) (k:=4) Q8 rfl rfl (j:=1) rfl a4 (by (simp only [Sl.ones,a3,Bool.and_true,Bool.true_and]) <;> rfl) ?_)
 refine T.fl ?_
 refine Nt<|Sq<|Sr<|Mv z<|Vv (V.P6 D6 z pr1)<|Mv z<|Nt ?_
 obtain ⟨aa,a5,a6⟩:=N7 H
 refine T.O5 (α:=(List G5)×Value×(List (List Value))) [4,8] z (fun ⟨r,o,s⟩=>[]) (fun ⟨r,o,s⟩=>blk Y (.cells [d,f,m,n,o].toArray 28)::D8 95 7 d S::D8 39 9 f U::D8 174 3 m W::D8 3 1 n X::blk P (.cells [.slice none 0 0,.slice none 0 0,.slice none 0 0,.slice none 0 0,.slice none 0 0].toArray 28)::D8 42 6 o s::L) (fun ⟨r,o,s⟩ hh=>aa = r∧A7 H9 hh s r) ?_ ?_
 ·have H:=a5
  refine Bl<|I7 6 z<|T.fl ?_
  refine T.drop<|I7 6 z<|T.fl ?_
  refine T.drop<|I7 6 z<|T.fl ?_
  refine T.drop<|I7 6 z<|T.fl ?_
  refine T.drop<|I7 6 z<|T.fl ?_
  refine T.drop<|I7 6 z<|T.fl ?_
  refine T.drop<|I7 6 z<|T.fl ?_
  refine T.drop<|I7 1 z<|T.fl ?_
  refine I7 6 z<|T.fl ?_
  refine I7 6 z<|T.fl ?_
  refine I7 6 z<|T.fl ?_
  refine I7 6 z<|T.fl ?_
  refine I7 6 z<|T.fl ?_
  refine I7 6 z<|T.fl ?_
  refine T.N8 (α:=Nat×(List G5)×Int×Value×(List (List Value))) [2,4,8,33,34] z (fun ⟨p,b,q,c,a⟩=>[(35,.int .i64 q)]) (fun ⟨p,b,q,c,a⟩=>blk Y (.cells [d,f,m,n,c].toArray 28)::D8 95 7 d S::D8 39 9 f U::D8 174 3 m W::D8 3 1 n X::blk P (.cells [.slice none 0 0,.slice none 0 0,.slice none 0 0,.slice none 0 0,.slice none 0 0].toArray 28)::D8 42 6 c a::L) (fun ⟨p,b,q,c,a⟩ hh=>iter (B0K p1 part12) p (b,q) = some aa∧A7 H9 hh a b) (fun ⟨p,b,q,c,a⟩=>p) (FUEL,aU,(0:Int),Z,a0) ⟨z,trivial⟩ z ⟨H,a2⟩ ?_
  rintro ⟨p,b,q,c,a⟩ cq cr ⟨a7,E⟩
  obtain ⟨a8,ct,rfl,H,ab⟩:=I4 a7
  refine T.norm [35,2,4,8,33,34] z<|T.fl ?_
  refine Sr<|Vv (V.lt z z)<|Nt<|Sq<|T.cH H z (fun H=>?_) (fun H=>?_)
  ·refine T.skip<|Th<|Sq<|Bl<|Sr<|Mv z ?_
   obtain ⟨cu,ac,H⟩:=bnd H
   obtain ⟨cw,a9,rfl⟩:=G9.at pr1 ac
   refine Vv (V.ix D6 z z pr1 (H6 ac))<|Vv (V.ld0 D9 z a9.u z)<|Ag z<|Ag z<|Nt<|Sr<|Mv z<|Vv (V.ge z z)<|Nt<|T.cH H z (fun H=>?_) (fun H=>?_)
   ·refine Sr<|Vv (V.fa K3 z)<|Vv (V.I6 (k:=0) M9 z y.u z)<|Mv z ?_
    obtain ⟨⟨cx,A,cy⟩,ah,H⟩:=bnd H
    refine To (O.C8 z (A3s w.u ah _) z fun cA ad cB cC al=>?_)
    obtain ⟨rfl,av⟩:=al
    refine I9 _ av<|Mv z<|Vv (V.ext z z)<|Vv (V.ext z z)<|Vv (V.ext z z)<|Ag z<|Ag z<|Ag z<|Nt<|I7 6 z<|T.fl ?_
    refine I7 1 z<|T.fl ?_
    refine T.O8 (t:=(.v 0 (.x 1 (.v 2 (.v 3 (.v 4 (.v 5 (.v 6 (.v 7 (.v 8 (.v 9 (.v 10 (.v 11 (.v 12 (.v 13 (.v 14 (.v 15 (.alt 16 (.alt 17 (.g (.v 18 (.alt 19 .done .no))) .no) .no)))))))))))))))))) 17 2 0 rfl rfl I8 (by kernel_rfl) ?_
    refine Tv z (V.fa T9 z)<|T.tx z z (Val.XA fun _ _ _=>V.ldO (k:=4) Q8 z (j:=0) z z) z Calm.i<|Tv z (V.fa M3 z)<|Tv z (V.I6 (k:=1) J3 z y.u z)<|Tm z z ?_
    obtain ⟨B,ae,H⟩:=bnd H
    obtain ⟨cD,az,⟨cE,rfl,cG⟩⟩:=G9.at D ae
    refine Tv z (V.ix O9 z z D (H6 ae))<|Tv z (V.fa A0a z)<|Tv z (V.I6 (k:=0) F6 z az.u z)<|Tv z (V.fa K3 z)<|Tv z (V.I6 (k:=0) M9 z y.u z)<|Tm z z ?_
    obtain ⟨C,af,H⟩:=bnd H
    obtain ⟨cI,ba,⟨cJ,rfl,cK⟩⟩:=G9.at w af
    refine Tv z (V.ix O0 z z w (H6 af))<|Tv z (V.fa A1b z)<|Tv z (V.I6 (k:=0) F6 z ba.u z)<|Tm z z<|Tv z (V.bld (xs:=[(0,.const (.int .u8 (7))),(1,.const (.int .i64 (1))),(2,.tmp 57),(4,.tmp 63),(5,.tmp 64)]) (cs:=[_,_,_,_,_,_]) A7k A7A z (F8.cons z z z (F8.cons z z z (F8.cons z z z (F8.cons z z z (F8.cons z z z F8.nil))))))<|Tp z z (SX.two (XA.fr [] Lr z) (XA.fr [1,1] Lr z)) (O.bs S9 A3H z (e:=z) (hk:=z) (xs:=[.tmp 65]) (hv:=CO.eq (CO.cons z CO.nil)) (hw:=O7.of z) (hd:=z) fun cM=>?_) T.Q9
    have G:A7 H9 ad [[.int .u8 (7:Int),.int .i64 (1:Int),.string B.H7,.string (⟨#[]⟩:ByteArray),.string C.H7,.int .i64 A]] ([(G5.mk (7:Int) (1:Int) B.H7 (⟨#[]⟩:ByteArray) C.H7 A)]:List G5):=(A7.cons z A7.nil)
    obtain ⟨ag,ai,H⟩:=bnd H
    refine Tp z z (SX.two (XA.fr [] Lr z) (XA.fr [2,2] Lr z)) (O.apX S9 S9 A3H z z z (j:=2) z (Src.row (j:=0) z) (O7.of z) (A7.ones H9.plain G) E.u G ai z fun aj cN cO=>?_) T.Q9
    have bb:A7 H9 ad (a ++ [[.int .u8 (7:Int),.int .i64 (1:Int),.string B.H7,.string (⟨#[]⟩:ByteArray),.string C.H7,.int .i64 A]]) ag:=A7.ap E.u G ai
    refine T.fl ?_
    refine I7 1 z<|T.fl ?_
    refine T.drop<|T.M6 Lr<|Tv z (V.fa T9 rfl)<|T.M5 0 rfl fun bc bd=>Tp z z (SX.one (XA.fr [] Lr rfl) rfl) (O.st (vs:=[aj]) (k:=4) Q8 rfl rfl (j:=1) rfl bd (by (simp only [Sl.ones,bc,Bool.and_true,Bool.true_and]) <;> rfl) ?_) T.Q9
    refine T.fl ?_
    refine T.R5 (SX.one (XA.fr [] Lr z) z)<|Bn<|Th<|T.norm [2,4,8,33,34,35] z<|T.fl ?_
    refine Rg ?_
    obtain ⟨be,bf,H⟩:=bnd H
    refine Vv (V.L8 z z bf)<|Mv z<|Nt<|I7 1 z<|T.fl ?_
    refine I7 6 z<|T.fl ?_
    refine I7 6 z<|T.fl ?_
    refine I7 6 z<|T.fl ?_
    refine I7 6 z<|T.fl ?_
    refine I7 6 z<|T.fl ?_
    refine I7 6 z<|T.fl ?_
    exact T.again (a8,ag,be,aj,(a ++ [[.int .u8 (7:Int),.int .i64 (1:Int),.string B.H7,.string (⟨#[]⟩:ByteArray),.string C.H7,.int .i64 A]])) Li (Nat.lt_succ_self _) ⟨(G8 H ab),bb⟩ (A9.app ⟨z,trivial⟩ ⟨z,z,z,z,z,trivial⟩) z
   exact dead H
  refine T.exit<|Te<|Te<|have H:=D7 H ab; Be<|Th<|T.met (b,c,a) Li ⟨H,E⟩ (A9.app trivial ⟨z,z,trivial⟩) z
 rintro ⟨r,o,s⟩ cP cS ⟨bg,ak⟩
 have H:=J5 bg a6
 refine T.norm [4,8] z<|T.fl ?_
 refine Sq<|Sr<|Vv (V.fa T9 z)<|Vv (V.ldO (k:=4) Q8 z (j:=0) z z)<|Vv (V.A2E S9 z (j:=6) z ak.len)<|Vv (V.gt z z)<|Nt<|T.cH H z (fun H=>?_) (fun H=>?_)
 ·exact dead H
 refine T.skip<|Th<|Sr<|Vv (V.C0D (j:=0) (by exact F9) rfl rfl) ?_
 refine T.M5 1 rfl fun bi cU=>T.M5 2 rfl fun bj cV=>T.M5 3 rfl fun bk cW=>T.M5 4 rfl fun bm cX=>T.M5 6 rfl fun bn cY=>To (O.stF (vs:=[d,f,m,n,o]) F9 rfl rfl (j:=5) rfl rfl (by (simp only [Sl.ones,bi,bj,bk,bm,bn,Bool.and_true,Bool.true_and]) <;> rfl) rfl ?_)
 refine T.fl ?_
 refine Ag z<|Nt<|T.ret<|I7 2 z<|T.fl ?_
 refine T.K8 fun cZ c0 bo=>have bp:=A7.slc bo aE.u; I7 2 z<|T.fl ?_
 refine T.K8 fun c1 c2 bq=>have br:=A7.slc bq aG.u; I7 2 z<|T.fl ?_
 refine T.K8 fun c3 c4 bt=>have bu:=A7.slc bt aI.u; I7 2 z<|T.fl ?_
 refine T.K8 fun c5 c6 bw=>have bx:=A7.slc bw aJ.u; I7 2 z<|T.fl ?_
 refine T.K8 fun c7 c8 bA=>have bB:=A7.slc bA ak.u; I7 1 z<|T.drop ?_
 obtain ⟨rfl,rfl⟩:=inj2 H
 exact T.A6Z (L':=L) Tryz.results10 (RVs.cons (RV.cellS z (j:=0) z F9) (Rv z)) Li (fun _ iv=>iv.drop) ⟨_,_,_,_,_,z,z,bp.u,br.u,bu.u,bx.u,bB⟩
theorem A9V {h:PH} {pc0:List Value} {p1:A8} (pr0:C9 h pc0 p1) {pv1:Value} {part12:List Int} (pr1:G9 (VI .i64) 1 h pv1 part12) {moved13:Int} {r_0:List U1} {r_1:Int} (H:A9B p1 part12 moved13 = some (r_0,r_1)):∀ L,H5 Tryz.prog 11 [.agg pc0.toArray,pv1,.int .i64 moved13] h (L) (fun v h' L'=>∃ w0 cs0,v = .tuple #[w0,.int .i64 r_1]∧L' = D8 181 2 w0 cs0::L∧A7 Y9 h' cs0 r_0):=by
 intro L
 obtain ⟨f,g,i,k,m,rfl,s,t,w,x,y⟩:=pr0
 refine H5.enter Tryz.func11 rfl Tryz.ntmps11 rfl<|Sr<|To (O.V3 rfl rfl rfl fun U A W B=>Ag z<|Ag z<|Nt<|Sr<|Vv (V.Z9 rfl B (by exact F9)) ?_)
 refine Mv z ?_
 obtain ⟨⟨C,X⟩,D,H⟩:=bnd H
 refine To (O.C8 z (B1R (show C9 A [f,g,i,k,m] p1 from ⟨f,g,i,k,m,z,s.u,t.u,w.u,x.u,y.u⟩) pr1.u D _) z fun Y Z aa ab E=>?_)
 obtain ⟨a,b,c,d,e,rfl,G,n,o,p,q,r⟩:=E
 refine I9 _ G<|Mv z<|Vv (V.ext rfl rfl)<|Vv (V.ext rfl rfl)<|To (O.alloc A0l rfl rfl fun ac=>To (O.stF (vs:=[a,b,c,d,e]) F9 rfl rfl (j:=0) rfl rfl (by (simp only [Sl.ones,G9.one n,G9.one o,G9.one p,G9.one q,G9.one r,Bool.and_true,Bool.true_and]) <;> rfl) rfl ?_))
 refine T.freeze fun I ad J=>have K:=AtC.of J; Ag z<|Nt<|Sq<|Sr<|Mv z<|Vv (V.ne z z)<|Nt<|T.cH H z (fun H=>?_) (fun H=>?_)
 ·exact dead H
 refine T.skip<|Th<|Sr<|Vv (V.Z9 rfl K (by exact F9)) ?_
 refine Mv z ?_
 obtain ⟨⟨ae,af⟩,M,H⟩:=bnd H
 refine To (O.C8 z (B7x (show C9 I [a,b,c,d,e] C from ⟨a,b,c,d,e,z,n.u,o.u,p.u,q.u,r.u⟩) M _) z fun ag ai aj ak N=>?_)
 obtain ⟨am,an,rfl,P,S⟩:=N
 refine I9 _ P<|Vv (V.ext z z)<|Vv (V.ext z z)<|Ag z<|Ag z<|Nt<|T.ret ?_
 obtain ⟨rfl,rfl⟩:=inj2 H
 exact T.F5 Tryz.results11 (RVs.cons (RV.tmp z) (Rv z)) Li ⟨_,_,z,z,S⟩
theorem B2g {h:PH} {pv0:Value} {s1:F7} (pr0:Pt L6 h pv0 s1) {r_0:List Int} (H:B2d s1 = some r_0):∀ L,H5 Tryz.prog 34 [pv0] h (L) (fun v h' L'=>∃ cs0,L' = D8 3 1 v cs0::L∧A7 (VI .i64) h' cs0 r_0):=by
 intro L
 refine H5.enter Tryz.func34 z Tryz.ntmps34 z<|Sr<|Ag z<|Nt<|Sr<|Ag z<|Nt<|Sq<|Sr<|Mv z<|have D:=pr0; ?_
 obtain ⟨af,_,rfl,p,⟨ag,ai,aj,ak,am,an,ao,rfl,E,aq,ar,au,aw,q,G⟩⟩:=D
 refine Vv (V.U9 z)<|Vv (V.fa R8 z)<|Vv (V.fa T9 z)<|Vv (V.I6 (k:=5) Q8 z p z)<|Vv (V.P6 S9 z q)<|Mv z<|Nt ?_
 obtain ⟨w,I,J⟩:=N7 H
 refine T.O5 (α:=(List Int)×Value×(List (List Value))) [] z (fun ⟨m,n,o⟩=>[(3,n)]) (fun ⟨m,n,o⟩=>D8 3 1 n o::L) (fun ⟨m,n,o⟩ hh=>w = m∧A7 (VI .i64) hh o m) ?_ ?_
 ·have H:=I
  refine Bl<|T.A0n 3 1<|have K:A7 (VI .i64) h [] ([]:List Int):=A7.nil; T.N8 (α:=Nat×Int×(List Int)×Value×(List (List Value))) [0,10,11] z (fun ⟨f,a,c,d,b⟩=>[(12,.int .i64 a),(3,d)]) (fun ⟨f,a,c,d,b⟩=>D8 3 1 d b::L) (fun ⟨f,a,c,d,b⟩ hh=>iter (B0x s1) f (a,c) = some w∧A7 (VI .i64) hh b c) (fun ⟨f,a,c,d,b⟩=>f) (FUEL,(0:Int),([]:List Int),(.slice none 0 0),[]) ⟨z,z,trivial⟩ z ⟨H,K⟩ ?_
  rintro ⟨f,a,c,d,b⟩ ax ay ⟨M,r⟩
  obtain ⟨N,aA,rfl,H,x⟩:=I4 M
  refine T.norm [12,3,0,10,11] z<|T.fl ?_
  refine Sr<|Vv (V.lt z z)<|Nt<|Sq<|T.cH H z (fun H=>?_) (fun H=>?_)
  ·refine T.skip<|Th<|Sq<|Bl<|Sr<|Mv z ?_
   obtain ⟨i,y,H⟩:=bnd H
   obtain ⟨aB,P,rfl⟩:=G9.at q y
   refine Vv (V.ix S9 rfl rfl q (H6 y))<|Vv (V.Z9 rfl P.u (by exact A0k)) ?_
   refine To (O.alloc A3H rfl rfl fun aC=>Ag z<|To (O.stF (vs:=[.int .u8 i.J4,.int .i64 i.Y6,.string i.fA,.string i.fB,.string i.V7,.int .i64 i.fN]) A0k rfl rfl (j:=0) rfl rfl rfl rfl<|T.freeze fun aD aE S=>have U:=AtC.of S; Nt<|Sq<|T.O8 (t:=(.v 0 (.v 1 (.v 2 (.v 3 (.v 4 (.v 5 (.v 6 (.v 7 (.v 8 (.v 9 (.v 10 (.v 11 (.v 12 (.alt 13 (.g (.v 14 (.v 15 .done))) .no))))))))))))))) 17 0 0 rfl rfl I8 (by kernel_rfl) ?_))
   refine Tv z (V.fa A1a z)<|Tv z (V.I6 (k:=1) D9 z U z)<|Tv z (V.eq z z)<|Tm z z<|T.bH 20 H z (fun H=>?_) (fun H=>?_)
   ·refine Tm z z<|Tv z (V.U9 z)<|Tv z (V.fa A2h z)<|Tv z (V.I6 (k:=0) R7 z p.u z)<|Tm z z<|Tv z (V.U9 z)<|Tv z (V.fa Z8 z)<|Tv z (V.I6 (k:=6) F4 z p.u z)<|Tm z z ?_
    obtain ⟨aG,W,H⟩:=bnd H
    refine Tp z z (SX.two (XA.fr [] Lr z) (XA.fr [] Lr z)) (O.C8 z (B1f E.u G.u W _) z fun aI A aJ aK X=>?_) T.Q9
    obtain ⟨rfl,Y⟩:=X
    refine I9 _ Y<|T.M6 Li<|Tv z (V.gt z z)<|Tv z (V.M0 z z)<|T.R5 (SX.two (XA.fr [] Lr z) (XA.fr [] Lr z))<|Th<|T.cH H z (fun H=>?_) (fun H=>?_)
    ·refine Rg<|Mv z<|Mv z<|To (O.bs D6 Q4 z (e:=z) (hk:=z) (xs:=[.tmp 34]) (hv:=CO.eq (CO.cons z CO.nil)) (hw:=O7.of z) (hd:=z) fun aM=>have s:A7 (VI .i64) A [[.int .i64 a]] ([a]:List Int):=(A7.cons z A7.nil); ?_)
     obtain ⟨B,C,H⟩:=bnd H
     refine To (O.apX D6 D6 Q4 z z z (j:=1) z (Src.row (j:=0) z) (O7.of z) (A7.ones VI.plain s) r.u s C z fun Z aN aO=>have aa:A7 (VI .i64) A (b ++ [[.int .i64 a]]) B:=A7.ap r.u s C; I7 1 z<|T.drop<|Ag z<|Ni<|Bn<|Th<|Rg ?_)
     obtain ⟨ab,ac,H⟩:=bnd H
     refine Vv (V.L8 z z ac)<|Mv z<|Nt<|T.again (N,ab,B,Z,(b ++ [[.int .i64 a]])) Li (Nat.lt_succ_self _) ⟨(G8 H x),aa⟩ (A9.app ⟨z,z,trivial⟩ ⟨z,z,z,trivial⟩) z
    exact dead H
   exact dead H
  refine T.exit<|Te<|Te<|have H:=D7 H x; Be<|Th<|T.met (c,d,b) Li ⟨H,r⟩ (A9.app ⟨z,trivial⟩ trivial) z
 rintro ⟨m,n,o⟩ aP aS ⟨ad,ae⟩
 have H:=J5 ad J
 refine T.norm [3] z<|T.fl ?_
 refine Sr<|Mv z<|Ag z<|Nt<|T.ret ?_
 obtain rfl:=Option.some.inj H
 exact T.F5 Tryz.results34 (Rv z) Li ⟨_,z,ae⟩
theorem B7B {h:PH} {pc0:List Value} {p1:A8} (pr0:C9 h pc0 p1) {pv1:Value} {part12:List Int} (pr1:G9 (VI .i64) 1 h pv1 part12) {r_0:List Int} (H:B5m p1 part12 = some r_0):∀ L,H5 Tryz.prog 13 [.agg pc0.toArray,pv1] h (L) (fun v h' L'=>∃ cs0,L' = D8 3 1 v cs0::L∧A7 (VI .i64) h' cs0 r_0):=by
 intro L
 obtain ⟨o,p,q,r,s,rfl,x,y,A,B,C⟩:=pr0
 refine H5.enter Tryz.func13 rfl Tryz.ntmps13 rfl<|Sr<|To (O.V3 rfl rfl rfl fun ar D au E=>Ag z<|Nt<|Sr<|Vv (V.Z9 rfl E (by exact F9)) ?_)
 refine Mv z ?_
 obtain ⟨⟨a,aw⟩,G,H⟩:=bnd H
 refine To (O.C8 z (A1x (show C9 D [o,p,q,r,s] p1 from ⟨o,p,q,r,s,z,x.u,y.u,A.u,B.u,C.u⟩) pr1.u G _) z fun ax ay aA aB I=>?_)
 obtain ⟨aC,t,m,J,j,w,g,n,e,k,c,i,b,f,rfl,K,M,N,P,S,U,W,X⟩:=I
 refine I9 _ K<|Mv z<|Vv (V.ext z z)<|Vv (V.ext z z)<|Ag z<|Ag z<|Nt<|Sq<|Sr<|Mv z<|Vv (V.ne z z)<|Nt<|T.cH H z (fun H=>?_) (fun H=>?_)
 ·exact dead H
 refine T.skip<|Th<|Sr<|Mv z ?_
 obtain ⟨d,Y,H⟩:=bnd H
 refine To (O.C8 z (H5.A2F (R:=fun v h' L'=>∃ L1_,L' = D8 95 7 m J::L1_∧(∃ L2_,L1_ = D8 39 9 j w::L2_∧(∃ L3_,L2_ = D8 174 3 g n::L3_∧(∃ L4_,L3_ = D8 3 1 e k::L4_∧(∃ L5_,L4_ = D8 42 6 c i::L5_∧(∃ L6_,L5_ = D8 3 1 b f::L6_∧(∃ (cs0:List (List Value)),L6_ = D8 3 1 v cs0::L∧A7 (VI .i64) h' cs0 d))))))) Tryz.func34 z (fun _ _ _ _ ⟨a5_,b5_,⟨a4_,b4_,⟨a3_,b3_,⟨a2_,b2_,⟨a1_,b1_,⟨a0_,b0_,⟨e_0,l_,f_0⟩⟩⟩⟩⟩⟩⟩=>⟨a5_,b5_,⟨a4_,b4_,⟨a3_,b3_,⟨a2_,b2_,⟨a1_,b1_,⟨a0_,b0_,⟨e_0,l_,(A7.free VI.free f_0)⟩⟩⟩⟩⟩⟩⟩) B2W fun aD aE Z=>H5.A2F (R:=fun v h' L'=>∃ L1_,L' = D8 39 9 j w::L1_∧(∃ L2_,L1_ = D8 174 3 g n::L2_∧(∃ L3_,L2_ = D8 3 1 e k::L3_∧(∃ L4_,L3_ = D8 42 6 c i::L4_∧(∃ L5_,L4_ = D8 3 1 b f::L5_∧(∃ (cs0:List (List Value)),L5_ = D8 3 1 v cs0::L∧A7 (VI .i64) h' cs0 d)))))) Tryz.func34 z (fun _ _ _ _ ⟨a4_,b4_,⟨a3_,b3_,⟨a2_,b2_,⟨a1_,b1_,⟨a0_,b0_,⟨e_0,l_,f_0⟩⟩⟩⟩⟩⟩=>⟨a4_,b4_,⟨a3_,b3_,⟨a2_,b2_,⟨a1_,b1_,⟨a0_,b0_,⟨e_0,l_,(A7.free VI.free f_0)⟩⟩⟩⟩⟩⟩) Y4 fun aG aI aa=>H5.A2F (R:=fun v h' L'=>∃ L1_,L' = D8 174 3 g n::L1_∧(∃ L2_,L1_ = D8 3 1 e k::L2_∧(∃ L3_,L2_ = D8 42 6 c i::L3_∧(∃ L4_,L3_ = D8 3 1 b f::L4_∧(∃ (cs0:List (List Value)),L4_ = D8 3 1 v cs0::L∧A7 (VI .i64) h' cs0 d))))) Tryz.func34 z (fun _ _ _ _ ⟨a3_,b3_,⟨a2_,b2_,⟨a1_,b1_,⟨a0_,b0_,⟨e_0,l_,f_0⟩⟩⟩⟩⟩=>⟨a3_,b3_,⟨a2_,b2_,⟨a1_,b1_,⟨a0_,b0_,⟨e_0,l_,(A7.free VI.free f_0)⟩⟩⟩⟩⟩) Y4 fun aJ aK ab=>H5.A2F (R:=fun v h' L'=>∃ L1_,L' = D8 3 1 e k::L1_∧(∃ L2_,L1_ = D8 42 6 c i::L2_∧(∃ L3_,L2_ = D8 3 1 b f::L3_∧(∃ (cs0:List (List Value)),L3_ = D8 3 1 v cs0::L∧A7 (VI .i64) h' cs0 d)))) Tryz.func34 z (fun _ _ _ _ ⟨a2_,b2_,⟨a1_,b1_,⟨a0_,b0_,⟨e_0,l_,f_0⟩⟩⟩⟩=>⟨a2_,b2_,⟨a1_,b1_,⟨a0_,b0_,⟨e_0,l_,(A7.free VI.free f_0)⟩⟩⟩⟩) Y4 fun aM aN ac=>H5.A2F (R:=fun v h' L'=>∃ L1_,L' = D8 42 6 c i::L1_∧(∃ L2_,L1_ = D8 3 1 b f::L2_∧(∃ (cs0:List (List Value)),L2_ = D8 3 1 v cs0::L∧A7 (VI .i64) h' cs0 d))) Tryz.func34 z (fun _ _ _ _ ⟨a1_,b1_,⟨a0_,b0_,⟨e_0,l_,f_0⟩⟩⟩=>⟨a1_,b1_,⟨a0_,b0_,⟨e_0,l_,(A7.free VI.free f_0)⟩⟩⟩) Y4 fun aO aP ad=>H5.A2F (R:=fun v h' L'=>∃ L1_,L' = D8 3 1 b f::L1_∧(∃ (cs0:List (List Value)),L1_ = D8 3 1 v cs0::L∧A7 (VI .i64) h' cs0 d)) Tryz.func34 z (fun _ _ _ _ ⟨a0_,b0_,⟨e_0,l_,f_0⟩⟩=>⟨a0_,b0_,⟨e_0,l_,(A7.free VI.free f_0)⟩⟩) Y4 fun aS aU ae=>H5.A2F (R:=fun v h' L'=>∃ (cs0:List (List Value)),L' = D8 3 1 v cs0::L∧A7 (VI .i64) h' cs0 d) Tryz.func34 z (fun _ _ _ _ ⟨e_0,l_,f_0⟩=>⟨e_0,l_,(A7.free VI.free f_0)⟩) Y4 fun af aV ag=>?_) z fun aW aX aY aZ ai=>?_)
 ·have aj:=A7.slc aa N.u
  have ak:=A7.slc ab P.u
  have am:=A7.slc ac S.u
  have an:=A7.slc ad U.u
  have ao:=A7.slc ae W.u
  have ap:=A7.slc ag X.u
  exact B2g (Pt.mk Z.u (show L6 af [t,m,j,g,e,c,b,.int .i64 a.V5] (F7.mk a.O6 (A8.mk a.fp.H8 a.fp.F3 a.fp.J8 a.fp.K5 a.fp.K9) a.R6 a.V5) from ⟨t,m,j,g,e,c,b,z,M.u,aj.u,ak.u,am.u,an.u,ao.u,ap⟩)) Y _
 obtain ⟨_,rfl,⟨_,rfl,⟨_,rfl,⟨_,rfl,⟨_,rfl,⟨_,rfl,⟨_,rfl,⟨a0,rfl,aq⟩⟩⟩⟩⟩⟩⟩⟩:=ai
 refine T.fl ?_
 refine Ag z<|Nt<|T.ret<|T.drop<|T.drop<|T.drop<|T.drop<|T.drop<|T.drop<|T.drop ?_
 obtain rfl:=Option.some.inj H
 exact T.F5 Tryz.results13 (Rv z) Li ⟨_,z,aq⟩
theorem B5W {h:PH} {u1:Int} {pv1:Value} {who2:List Int} (pr1:G9 (VI .i64) 1 h pv1 who2) {pb2:Nat} {t3:List Int} {v2_1:Value} {css2_2:List (List Value)} (hR2_3:A7 (VI .i64) h css2_2 t3) {q_2:List Int} (H:A7J u1 who2 t3 = some q_2):∀ L,H5 Tryz.prog 95 [.int .i64 u1,pv1,.pointer (some ⟨pb2,0,none⟩)] h (blk pb2 (.cells [v2_1].toArray 25)::D8 3 1 v2_1 css2_2::L) (fun v h' L'=>∃ vl0_1 cssl0_2,v = .tuple #[]∧L' = blk pb2 (.cells [vl0_1].toArray 25)::D8 3 1 vl0_1 cssl0_2::L∧A7 (VI .i64) h' cssl0_2 q_2):=by
 intro L
 refine H5.enter Tryz.func95 z Tryz.ntmps95 z<|Rg<|Vv (V.A6h F4 z (j:=0) z z)<|Mv z ?_
 obtain ⟨d,b,a⟩:=G9.row pr1
 obtain ⟨e,c,H⟩:=bnd H
 refine To (O.apX D6 D6 Q4 rfl rfl rfl (j:=1) rfl (Src.fix b) b.wide (A7.ones VI.plain a) hR2_3 a c rfl fun f m n=>have g:A7 (VI .i64) h (css2_2 ++ d) e:=A7.ap hR2_3 a c; T.M5 0 rfl fun i k=>To (O.stF (vs:=[f]) F4 rfl rfl (j:=1) rfl k (by (simp only [Sl.ones,i,Bool.and_true,Bool.true_and]) <;> rfl) rfl ?_))
 refine Ni ?_
 obtain rfl:=Option.some.inj H
 exact T.B2D Tryz.results95 Lr ⟨_,_,z,z,g⟩
theorem B9d {h:PH} {pv0:Value} {j1:P8} (pr0:Pt M8 h pv0 j1) {pv1:Value} {part2:List Int} (pr1:G9 (VI .i64) 1 h pv1 part2) {i3:Int} {r_0:List Int} (H:B6w j1 part2 i3 = some r_0):∀ L,H5 Tryz.prog 35 [pv0,pv1,.int .i64 i3] h (L) (fun v h' L'=>∃ cs0,L' = D8 3 1 v cs0::L∧A7 (VI .i64) h' cs0 r_0):=by
 intro L
 refine H5.enter Tryz.func35 z Tryz.ntmps35 z<|Sr<|Ag z<|Nt<|Sr<|Mv z<|Mv z ?_
 obtain ⟨g,K,H⟩:=bnd H
 refine To (O.C8 z (A4V pr0 pr1 K _) z fun aX b aY aZ M=>?_)
 obtain ⟨N,P⟩:=M
 refine I9 _ N<|Ag z<|Nt<|Sq<|Sr<|Mv z<|have S:=P; ?_
 obtain ⟨a0,_,rfl,d,⟨a1,i,m,rfl,U,W,X⟩⟩:=S
 refine Vv (V.C4S Tryz.underlying158 z)<|Mv z<|Mv z<|Vv (V.lt z z)<|Vv (V.J9 z z)<|Mv z<|T.bH 18 H z (fun H=>?_) (fun H=>?_)
 ·exact dead H
 refine Mv z<|Mv z<|Vv (V.U9 z)<|Vv (V.fa R9 z)<|Vv (V.I6 (k:=0) R7 z d z)<|have Y:=U; ?_
 obtain ⟨n,_,rfl,e,⟨o,p,q,r,s,u,w,x,y,A,B,C,D,E,rfl,Z,aa,ab,ac,c,G,ad,ae,af,ag,ai,aj,ak,am⟩⟩:=Y
 refine Vv (V.U9 z)<|Vv (V.fa X6 z)<|Vv (V.fa A0V z)<|Vv (V.I6 (k:=4) Q8 z e z)<|Vv (V.P6 S9 z c)<|Vv (V.ge z z)<|Vv (V.J9 z z)<|Nt<|T.cH H z (fun H=>?_) (fun H=>?_)
 ·exact dead H
 refine T.skip<|Th<|Sr<|To (O.alloc A2z rfl rfl fun f=>Nt<|Sq<|T.O8 (t:=(.v 0 (.v 1 (.v 2 (.v 3 (.v 4 (.v 5 (.v 6 (.v 7 (.v 8 (.v 9 (.v 10 (.v 11 (.v 12 (.v 13 (.v 14 (.v 15 (.v 16 (.v 17 (.v 18 (.v 19 (.v 20 (.v 21 (.v 22 (.v 23 (.v 24 (.v 25 (.v 26 (.v 27 (.v 28 (.v 29 (.v 30 (.v 31 (.v 32 (.v 33 (.alt 34 .done .no)))))))))))))))))))))))))))))))))))) 34 1 0 rfl rfl I8 (by kernel_rfl) ?_)
 refine Tm z z<|Tv z (V.U9 z)<|Tv z (V.fa R9 z)<|Tv z (V.I6 (k:=0) R7 z d z)<|Tv z (V.U9 z)<|Tv z (V.fa A8l z)<|Tv z (V.I6 (k:=5) B1o z e z)<|Tm z z<|Tv z (V.U9 z)<|Tv z (V.fa R9 z)<|Tv z (V.I6 (k:=0) R7 z d z)<|Tv z (V.U9 z)<|Tv z (V.fa X6 z)<|Tv z (V.fa A0V z)<|Tv z (V.I6 (k:=4) Q8 z e z)<|Tm z z ?_
 obtain ⟨a2,I,H⟩:=bnd H
 obtain ⟨a3,an,rfl⟩:=G9.at c I
 refine Tv z (V.ix S9 z z c (H6 I))<|Tv z (V.fa A1T z)<|Tv z (V.I6 (k:=0) A2P z an z) ?_
 obtain ⟨⟨a4,a5⟩,ao,H⟩:=bnd H
 obtain ⟨_,ap,rfl⟩:=Mp.look (zc:=[.string (⟨#[]⟩:ByteArray),.int .u8 (0:Int),.bool false,.int .u8 (0:Int),.bool false,.int .i64 (0:Int),.bool false,(fnV (0:Nat))]) (agg:=true) Tryz.underlying142 (A0G.int Tryz.underlying40) B1E (show K7 b [.string (⟨#[]⟩:ByteArray),.int .u8 (0:Int),.bool false,.int .u8 (0:Int),.bool false,.int .i64 (0:Int),.bool false,(fnV (0:Nat))] (I5.mk (⟨#[]⟩:ByteArray) (0:Int) false (0:Int) false (0:Int) false (0:Nat)) from rfl) G ao
 refine Tv z (V.C7C z z ap)<|Tv z (V.fld B2V B7f z z)<|Tm z z<|Tm z z<|Tv z (V.U9 z)<|Tv z (V.fa R9 z)<|Tv z (V.I6 (k:=0) R7 z d z)<|Tv z (V.U9 z)<|Tv z (V.fa X6 z)<|Tv z (V.fa A0V z)<|Tv z (V.I6 (k:=4) Q8 z e z)<|Tm z z ?_
 obtain ⟨a,J,H⟩:=bnd H
 obtain ⟨a6,aq,rfl⟩:=G9.at c J
 refine Tv z (V.ix S9 rfl rfl c (H6 J))<|Tv z (V.Z9 rfl aq (by exact A0k)) ?_
 refine Tv z (V.mkf z z)<|T.A0n 3 1<|have ar:A7 (VI .i64) b [] ([]:List Int):=A7.nil; I7 1 z ?_
 obtain ⟨a7,au,H⟩:=bnd H
 obtain ⟨a8,a9,ah,aw,ax⟩:=B0Q (Pt.mk d (show P7 b [.pointer (some n),i,m] g from ⟨(.pointer (some n)),i,m,rfl,(Pt.mk e (show M8 b [o,p,q,r,s,u,w,x,y,A,B,C,D,E] g.O6 from ⟨o,p,q,r,s,u,w,x,y,A,B,C,D,E,rfl,Z,aa,ab,ac,c,G,ad,ae,af,ag,ai,aj,ak,am⟩)),W,X⟩)) (show H9 b [.int .u8 a.J4,.int .i64 a.Y6,.string a.fA,.string a.fB,.string a.V7,.int .i64 a.fN] a from rfl) (show A1p (fun x_ h_ La_=>∃ v_ c_,La_ = [blk f (.cells [v_].toArray 25),D8 3 1 v_ c_]∧A7 (VI .i64) h_ c_ x_) b (.func (.func 95) #[] #[.pointer (some ⟨f,0,none⟩)]) (fun s_ ay aA=>A7J ay aA s_) from ⟨⟨rfl,rfl⟩,fun _ _ _ _ l_ ⟨v_,c_,e_,f_⟩=>⟨v_,c_,e_,A7.mono VI.mono f_ l_⟩,fun al av=>fun aB=>fun aC aD aE aG=>by obtain ⟨v_,c_,rfl,f_⟩:=aC; exact Yld.two (us:=[]) (cs:=[.pointer (some ⟨f,0,none⟩)]) (B5W aB f_ aD) (fun _ _ _ _ ⟨v_,c_,e_,k_,f_⟩=>⟨e_,_,_,k_,v_,c_,rfl,f_⟩) aE aG⟩) ⟨_,_,rfl,ar⟩ au
 refine Tp z z (SX.two (XA.fr [] Lr z) (XA.fr [0] Lr z)) (O.A1m z aw z (ax ([]:List E9) _) z fun az ba bb bc aI=>?_) T.Q9
 obtain ⟨bd,rfl,aJ,⟨be,bf,rfl,aK⟩⟩:=aI
 refine I9 _ aJ<|T.R5 (SX.one (XA.fr [] Li z) z)<|Th<|Sq<|T.norm [8] z<|T.fl ?_
 refine Rg<|Vv (V.A6h F4 z (j:=0) z z)<|I7 1 z ?_
 obtain ⟨bg,aM,H⟩:=bnd H
 refine To (O.C8 z (B3S aK aM _) z fun bi bj bk bm aN=>?_)
 obtain ⟨bn,rfl,aO,aP⟩:=aN
 refine I9 _ aO<|Nt<|Sr<|Vv (V.A6h F4 z (j:=1) z z) ?_
 obtain ⟨bo,aS,H⟩:=bnd H
 refine To (O.C8 z (A8y aP aS _) z fun bp bq br bs aU=>?_)
 obtain ⟨bt,aV,aW⟩:=aU
 refine I9 _ aV<|Ag z<|Nt<|T.ret<|I7 1 z<|T.drop ?_
 obtain rfl:=Option.some.inj H
 exact T.F5 Tryz.results35 (Rv z) Li ⟨_,z,aW⟩
theorem B2F {h:PH} {g1:Int} {pp1:Addr} {pc1:List Value} {t2:List Int} (pa1:AtC h pp1 pc1) (pr1:(VSl (VI .i64) 1) h pc1 t2) {r_0:Bool} (H:A4F g1 t2 = some r_0):∀ L,H5 Tryz.prog 37 [.int .i64 g1,.pointer (some pp1)] h (L) (fun v h' L'=>v = .bool r_0∧L' = L):=by
 intro L
 obtain ⟨e,rfl,a⟩:=pr1
 refine H5.enter Tryz.func37 z Tryz.ntmps37 z<|Sr<|Ag z<|Nt<|Sr<|Vv (V.ld0 F4 z pa1 z)<|Mv z ?_
 obtain ⟨f,b,H⟩:=bnd H
 refine To (O.C8 z (A1f a b _) z fun g i j k c=>?_)
 obtain ⟨rfl,d⟩:=c
 refine I9 _ d<|Ag z<|Nt<|T.ret ?_
 obtain rfl:=Option.some.inj H
 exact T.F5 Tryz.results37 (Rv z) Li ⟨z,z⟩
theorem B5l {h:PH} {pc0:List Value} {p1:A8} (pr0:C9 h pc0 p1) {pv1:Value} {part12:List Int} (pr1:G9 (VI .i64) 1 h pv1 part12) {r_0:Int} (H:B2b p1 part12 = some r_0):∀ L,H5 Tryz.prog 14 [.agg pc0.toArray,pv1] h (L) (fun v h' L'=>v = .int .i64 r_0∧L' = L):=by
 intro L
 obtain ⟨P,S,U,W,X,rfl,an,ao,aq,ar,au⟩:=pr0
 refine H5.enter Tryz.func14 rfl Tryz.ntmps14 rfl<|Sr<|To (O.V3 rfl rfl rfl fun bE aw bG ax=>Ag z<|Nt<|Sr<|Vv (V.Z9 rfl ax (by exact F9)) ?_)
 refine Mv z ?_
 obtain ⟨⟨b,bI⟩,ay,H⟩:=bnd H
 refine To (O.C8 z (A1x (show C9 aw [P,S,U,W,X] p1 from ⟨P,S,U,W,X,z,an.u,ao.u,aq.u,ar.u,au.u⟩) pr1.u ay _) z fun bJ bK bM bN aA=>?_)
 obtain ⟨Y,D,q,I,n,E,i,B,f,x,c,r,d,s,rfl,aB,Z,aC,aD,aE,aG,J,aa⟩:=aA
 refine I9 _ aB<|Mv z<|Vv (V.ext z z)<|Vv (V.ext z z)<|Ag z<|Ag z<|Nt<|Sq<|Sr<|Mv z<|Vv (V.ne z z)<|Nt<|T.cH H z (fun H=>?_) (fun H=>?_)
 ·exact dead H
 refine T.skip<|Th<|Sr<|Ag z<|Nt<|Sr<|To (O.alloc A2z z z fun e=>Nt<|Sq<|Sr<|Mv z<|I7 7 z<|T.fl ?_)
 refine I7 7 z<|T.fl ?_
 refine I7 7 z<|T.fl ?_
 refine I7 7 z<|T.fl ?_
 refine I7 7 z<|T.fl ?_
 refine I7 7 z<|T.fl ?_
 refine I7 7 z<|T.fl ?_
 obtain ⟨o,aI,H⟩:=bnd H
 refine To (O.C8 z (H5.A2F (R:=fun v h' L'=>∃ L1_,L' = D8 95 7 q I::L1_∧(∃ L2_,L1_ = D8 39 9 n E::L2_∧(∃ L3_,L2_ = D8 174 3 i B::L3_∧(∃ L4_,L3_ = D8 3 1 f x::L4_∧(∃ L5_,L4_ = D8 42 6 c r::L5_∧(∃ L6_,L5_ = D8 3 1 d s::L6_∧(∃ (a:List (List Value)),L6_ = D8 3 1 v a::blk e (.cells [.slice none 0 0].toArray 25)::L∧A7 (VI .i64) h' a o))))))) Tryz.func34 z (fun _ _ _ _ ⟨a5_,b5_,⟨a4_,b4_,⟨a3_,b3_,⟨a2_,b2_,⟨a1_,b1_,⟨a0_,b0_,⟨e_0,l_,f_0⟩⟩⟩⟩⟩⟩⟩=>⟨a5_,b5_,⟨a4_,b4_,⟨a3_,b3_,⟨a2_,b2_,⟨a1_,b1_,⟨a0_,b0_,⟨e_0,l_,(A7.free VI.free f_0)⟩⟩⟩⟩⟩⟩⟩) B2W fun bO bP aJ=>H5.A2F (R:=fun v h' L'=>∃ L1_,L' = D8 39 9 n E::L1_∧(∃ L2_,L1_ = D8 174 3 i B::L2_∧(∃ L3_,L2_ = D8 3 1 f x::L3_∧(∃ L4_,L3_ = D8 42 6 c r::L4_∧(∃ L5_,L4_ = D8 3 1 d s::L5_∧(∃ (a:List (List Value)),L5_ = D8 3 1 v a::blk e (.cells [.slice none 0 0].toArray 25)::L∧A7 (VI .i64) h' a o)))))) Tryz.func34 z (fun _ _ _ _ ⟨a4_,b4_,⟨a3_,b3_,⟨a2_,b2_,⟨a1_,b1_,⟨a0_,b0_,⟨e_0,l_,f_0⟩⟩⟩⟩⟩⟩=>⟨a4_,b4_,⟨a3_,b3_,⟨a2_,b2_,⟨a1_,b1_,⟨a0_,b0_,⟨e_0,l_,(A7.free VI.free f_0)⟩⟩⟩⟩⟩⟩) Y4 fun bS bU aK=>H5.A2F (R:=fun v h' L'=>∃ L1_,L' = D8 174 3 i B::L1_∧(∃ L2_,L1_ = D8 3 1 f x::L2_∧(∃ L3_,L2_ = D8 42 6 c r::L3_∧(∃ L4_,L3_ = D8 3 1 d s::L4_∧(∃ (a:List (List Value)),L4_ = D8 3 1 v a::blk e (.cells [.slice none 0 0].toArray 25)::L∧A7 (VI .i64) h' a o))))) Tryz.func34 z (fun _ _ _ _ ⟨a3_,b3_,⟨a2_,b2_,⟨a1_,b1_,⟨a0_,b0_,⟨e_0,l_,f_0⟩⟩⟩⟩⟩=>⟨a3_,b3_,⟨a2_,b2_,⟨a1_,b1_,⟨a0_,b0_,⟨e_0,l_,(A7.free VI.free f_0)⟩⟩⟩⟩⟩) Y4 fun bV bW aM=>H5.A2F (R:=fun v h' L'=>∃ L1_,L' = D8 3 1 f x::L1_∧(∃ L2_,L1_ = D8 42 6 c r::L2_∧(∃ L3_,L2_ = D8 3 1 d s::L3_∧(∃ (a:List (List Value)),L3_ = D8 3 1 v a::blk e (.cells [.slice none 0 0].toArray 25)::L∧A7 (VI .i64) h' a o)))) Tryz.func34 z (fun _ _ _ _ ⟨a2_,b2_,⟨a1_,b1_,⟨a0_,b0_,⟨e_0,l_,f_0⟩⟩⟩⟩=>⟨a2_,b2_,⟨a1_,b1_,⟨a0_,b0_,⟨e_0,l_,(A7.free VI.free f_0)⟩⟩⟩⟩) Y4 fun bX bY aN=>H5.A2F (R:=fun v h' L'=>∃ L1_,L' = D8 42 6 c r::L1_∧(∃ L2_,L1_ = D8 3 1 d s::L2_∧(∃ (a:List (List Value)),L2_ = D8 3 1 v a::blk e (.cells [.slice none 0 0].toArray 25)::L∧A7 (VI .i64) h' a o))) Tryz.func34 z (fun _ _ _ _ ⟨a1_,b1_,⟨a0_,b0_,⟨e_0,l_,f_0⟩⟩⟩=>⟨a1_,b1_,⟨a0_,b0_,⟨e_0,l_,(A7.free VI.free f_0)⟩⟩⟩) Y4 fun bZ b0 aO=>H5.A2F (R:=fun v h' L'=>∃ L1_,L' = D8 3 1 d s::L1_∧(∃ (a:List (List Value)),L1_ = D8 3 1 v a::blk e (.cells [.slice none 0 0].toArray 25)::L∧A7 (VI .i64) h' a o)) Tryz.func34 z (fun _ _ _ _ ⟨a0_,b0_,⟨e_0,l_,f_0⟩⟩=>⟨a0_,b0_,⟨e_0,l_,(A7.free VI.free f_0)⟩⟩) Y4 fun b1 b2 aP=>H5.A2F (R:=fun v h' L'=>∃ (a:List (List Value)),L' = D8 3 1 v a::blk e (.cells [.slice none 0 0].toArray 25)::L∧A7 (VI .i64) h' a o) Tryz.func34 z (fun _ _ _ _ ⟨e_0,l_,f_0⟩=>⟨e_0,l_,(A7.free VI.free f_0)⟩) Y4 fun aS b3 aU=>?_) z fun ab aV b4 b5 aW=>?_)
 ·have aX:=A7.slc aK aC.u
  have aY:=A7.slc aM aD.u
  have aZ:=A7.slc aN aE.u
  have a0:=A7.slc aO aG.u
  have a1:=A7.slc aP J.u
  have a2:=A7.slc aU aa.u
  exact B2g (Pt.mk aJ.u (show L6 aS [D,q,n,i,f,c,d,.int .i64 b.V5] (F7.mk b.O6 (A8.mk b.fp.H8 b.fp.F3 b.fp.J8 b.fp.K5 b.fp.K9) b.R6 b.V5) from ⟨D,q,n,i,f,c,d,z,Z.u,aX.u,aY.u,aZ.u,a0.u,a1.u,a2⟩)) aI _
 obtain ⟨_,rfl,⟨_,rfl,⟨_,rfl,⟨_,rfl,⟨_,rfl,⟨_,rfl,⟨_,rfl,⟨ac,rfl,K⟩⟩⟩⟩⟩⟩⟩⟩:=aW
 refine T.fl ?_
 refine Vv (V.A2E D6 z (j:=7) z K.len)<|Mv z<|Nt ?_
 obtain ⟨ad,a3,a4⟩:=N7 H
 refine T.O5 (α:=Int) [] z (fun C=>[(7,.int .i64 C)]) (fun C=>L) (fun C hh=>ad = C) ?_ ?_
 ·have H:=a3
  refine Bl<|T.A0n 3 1<|have a5:A7 (VI .i64) aV [] ([]:List Int):=A7.nil; I7 9 z<|T.fl ?_
  refine I7 9 z<|T.fl ?_
  refine I7 9 z<|T.fl ?_
  refine I7 9 z<|T.fl ?_
  refine I7 9 z<|T.fl ?_
  refine I7 9 z<|T.fl ?_
  refine I7 9 z<|T.fl ?_
  refine I7 9 z<|T.fl ?_
  refine I7 9 z<|T.fl ?_
  refine T.N8 (α:=Nat×(List Int)×Int×Int×Value×(List (List Value))) [5,8,21,22] z (fun ⟨y,p,A,w,g,m⟩=>[(23,.int .i64 A),(7,.int .i64 w)]) (fun ⟨y,p,A,w,g,m⟩=>blk Y (.cells [D,q,n,i,f,c,d,.int .i64 b.V5].toArray 86)::D8 95 7 q I::D8 39 9 n E::D8 174 3 i B::D8 3 1 f x::D8 42 6 c r::D8 3 1 d s::D8 3 1 ab ac::blk e (.cells [g].toArray 25)::D8 3 1 g m::L) (fun ⟨y,p,A,w,g,m⟩ hh=>iter (A7o b o) y (p,A,w) = some ad∧A7 (VI .i64) hh m p) (fun ⟨y,p,A,w,g,m⟩=>y) (FUEL,([]:List Int),(0:Int),(0:Int),(.slice none 0 0),[]) ⟨z,z,trivial⟩ z ⟨H,a5⟩ ?_
  rintro ⟨y,p,A,w,g,m⟩ b6 b7 ⟨a6,M⟩
  obtain ⟨a7,b8,rfl,H,ae⟩:=I4 a6
  refine T.norm [23,7,5,8,21,22] z<|T.fl ?_
  refine Sr<|Vv (V.lt z z)<|Nt<|Sq<|T.cH H z (fun H=>?_) (fun H=>?_)
  ·refine T.skip<|Th<|Sq<|Bl<|Sr ?_
   obtain ⟨b9,af,H⟩:=bnd H
   obtain ⟨bh,a8,rfl⟩:=A7.get K af
   refine Vv (V.ixR D6 z z (j:=7) z (A7.bd K af))<|Vv (V.ldR D9 z (j:=7) z a8 z)<|Ag z<|Nt<|Sq<|Sr<|Mv z<|Vv (V.U9 z)<|Vv (V.fa R8 z)<|Vv (V.fa T9 z)<|Vv (V.ldO (k:=5) Q8 z (j:=0) z z)<|Mv z ?_
   obtain ⟨bl,ag,H⟩:=bnd H
   obtain ⟨bv,a9,rfl⟩:=A7.get J ag
   refine Vv (V.ixR S9 z z (j:=5) z (A7.bd J ag))<|Vv (V.fa A1T z)<|Vv (V.C5s (k:=0) A2P z (j:=5) z a9 z)<|Nt<|Bl<|Sq<|Sr<|Vv (V.eq z z)<|Ag z<|Nt<|T.cH H z (fun H=>?_) (fun H=>?_)
   ·exact dead H
   refine Sr<|Vv (V.eq z z)<|Ag z<|Nt<|T.cH H z (fun H=>?_) (fun H=>?_)
   ·exact dead H
   refine Rg<|Vv (V.eq z z)<|Ag z<|Nt<|T.cH H z (fun H=>?_) (fun H=>?_)
   ·exact dead H
   refine T.skip<|Bn<|Th<|Sq<|I7 6 z<|T.fl ?_
   refine I7 1 z<|T.fl ?_
   refine T.O8 (t:=(.v 0 (.v 1 (.v 2 (.v 3 (.v 4 (.v 5 (.v 6 (.v 7 (.v 8 (.alt 9 (.alt 10 .done .no) .no))))))))))) 12 2 2 rfl rfl I8 (by kernel_rfl) ?_
   refine Tm z z<|Tv z (V.U9 z)<|Tv z (V.fa A2h z)<|Tv z (Val.XA fun _ _ _=>V.ldO (k:=0) R7 z (j:=0) z z)<|Tm z z<|Tv z (V.U9 z)<|Tv z (V.fa Z8 z)<|Tv z (Val.XA fun _ _ _=>V.ldO (k:=6) F4 z (j:=0) z z)<|Tm z z<|I7 1 z<|T.fl ?_
   obtain ⟨ah,al,H⟩:=bnd H
   refine Tp z z (SX.two (XA.fr [0,1] Lr z) (XA.fr [0,1] Lr z)) (O.C8 z (H5.A2F (R:=fun v h' L'=>∃ (a:List (List Value)),L' = D8 3 1 v a::blk Y (.cells [D,q,n,i,f,c,d,.int .i64 b.V5].toArray 86)::D8 95 7 q I::D8 39 9 n E::D8 174 3 i B::D8 3 1 f x::D8 42 6 c r::D8 3 1 ab ac::blk e (.cells [g].toArray 25)::D8 3 1 g m::L∧A7 (VI .i64) h' a ah) Tryz.func35 z (fun _ _ _ _ ⟨e_0,l_,f_0⟩=>⟨e_0,l_,(A7.free VI.free f_0)⟩) Y4 fun bz ca av=>?_) z fun cb cc cd ce az=>?_) T.Q9
   ·have ba:=A7.slc av aa.u
    exact B9d Z.u ba al _
   obtain ⟨_,rfl,⟨ai,rfl,G⟩⟩:=az
   refine T.fl ?_
   refine Ts z z (SX.two (XA.fr [0,2] Li z) (XA.fr [0,2] Li z)) (V.asg z) z ?_ T.Q9
   refine T.R5 (SX.two (XA.fr [0,2] Li z) (XA.fr [0,2] Li z))<|Th<|Sr<|Mv z<|Vv (V.mkf z z)<|I7 10 z<|T.fl ?_
   refine I7 10 z<|T.fl ?_
   refine I7 3 z<|T.fl ?_
   obtain ⟨N,bb,H⟩:=bnd H
   refine To (O.C8 z (H5.A1v (val:=.bool N) Tryz.func36 z Y4 fun cf cg bc=>H5.A1v (val:=.bool N) Tryz.func36 z B2W fun ci cj be=>H5.A1v (val:=.bool N) Tryz.func36 z Y4 fun bf ck bg=>?_) z fun cm bi cn co bj=>?_)
   ·have bk:=A7.slc bc G.u
    have bm:=A7.slc bg M.u
    exact A2L bk.u (show A1S bf (.func (.func 37) #[] #[.pointer (some ⟨e,0,none⟩)]) (fun bn=>A4F bn p) from ⟨⟨z,z⟩,.inr ⟨37,[],[.pointer (some ⟨e,0,none⟩)],z,fun bo cp cq cr bp bq=>B2F be.u (show (VSl (VI .i64) 1) bo [g] p from ⟨g,z,bm.u⟩) bp bq⟩⟩) bb _
   obtain ⟨rfl,br⟩:=bj
   refine I9 _ br<|Vv (V.not z)<|Nt<|T.cH H z (fun H=>?_) (fun H=>?_)
   ·refine Sq<|T.norm [5,7,8,11,21,22,23] z<|T.fl ?_
    refine Rg<|Vv (V.A6h F4 z (j:=1) z z)<|Mv z<|T.wide 0 z fun bs=>?_
    obtain ⟨aj,ak,H⟩:=bnd H
    refine To (O.apX D6 D6 Q4 z z z (j:=2) z (Src.row (j:=0) z) bs (A7.ones VI.plain G) M.u G.u ak z fun am cs ct=>have bt:A7 (VI .i64) bi (m ++ ai) aj:=A7.ap M.u G.u ak; T.fl ?_)
    refine T.M5 0 rfl fun bu bw=>To (O.stF (vs:=[am]) F4 rfl rfl (j:=2) rfl bw (by (simp only [Sl.ones,bu,Bool.and_true,Bool.true_and]) <;> rfl) rfl ?_)
    refine T.fl ?_
    refine Nt<|Rg<|Mv z ?_
    obtain ⟨bx,bA,H⟩:=bnd H
    refine Vv (V.L8 z z bA)<|Ag z<|Ni<|Bn<|Th<|Rg ?_
    obtain ⟨bB,bC,H⟩:=bnd H
    refine Vv (V.L8 z z bC)<|Mv z<|Nt<|I7 2 z<|T.fl ?_
    refine T.drop<|I7 1 z<|T.fl ?_
    refine I7 1 z<|T.fl ?_
    refine I7 9 z<|T.fl ?_
    refine I7 3 z<|T.fl ?_
    refine I7 9 z<|T.fl ?_
    refine I7 9 z<|T.fl ?_
    refine I7 9 z<|T.fl ?_
    refine I7 9 z<|T.fl ?_
    refine I7 9 z<|T.fl ?_
    refine I7 9 z<|T.fl ?_
    exact T.again (a7,aj,bB,bx,am,(m ++ ai)) Li (Nat.lt_succ_self _) ⟨(G8 H ae),bt⟩ (A9.app ⟨z,z,trivial⟩ ⟨z,z,z,z,trivial⟩) z
   exact dead H
  refine T.exit<|Te<|Te<|have H:=D7 H ae; Be<|Th<|T.drop<|T.drop<|T.drop<|T.drop<|T.drop<|T.drop<|T.drop<|T.drop<|T.drop<|T.drop<|T.met w Li H (A9.app ⟨z,trivial⟩ trivial) z
 rintro C cu cw bD
 have H:=J5 bD a4
 refine T.norm [7] z<|T.fl ?_
 refine Sr<|Mv z<|Ag z<|Nt<|T.ret ?_
 obtain rfl:=Option.some.inj H
 exact T.F5 Tryz.results14 (Rv z) Li ⟨z,z⟩
theorem A6W {h:PH}  {r_0:Bool} (H:A3V  = some r_0):∀ L,H5 Tryz.prog 5 [] h (L) (fun v h' L'=>v = .bool r_0∧L' = L):=by
 intro L
 refine H5.enter Tryz.func5 z Tryz.ntmps5 z<|Sr<|Ag z<|Nt<|Sr<|To (O.bs D6 Q4 z (e:=z) (hk:=z) (xs:=[.const (.int .i64 (0)),.const (.int .i64 (1)),.const (.int .i64 (2))]) (hv:=CO.eq (CO.cons z (CO.cons z (CO.cons z CO.nil)))) (hw:=O7.of z) (hd:=z) fun eO=>have a1:A7 (VI .i64) h [[.int .i64 (0:Int)],[.int .i64 (1:Int)],[.int .i64 (2:Int)]] ([(0:Int),(1:Int),(2:Int)]:List Int):=(A7.cons z (A7.cons z (A7.cons z A7.nil))); Ag z<|Nt<|Sr ?_)
 obtain ⟨a2,a3,H⟩:=bnd H
 refine To (O.C8 z (A5j G9.nil a3 _) z fun eP eS eU eV a4=>?_)
 obtain ⟨ag,ai,aj,ak,am,rfl,a5,a6,a7,a8,a9,ah⟩:=a4
 refine I9 _ a5<|Mv z<|Vv (V.bld (xs:=[(0,.const (.int .u8 (3))),(2,.const (.string ⟨#[97,110,110,97]⟩)),(3,.const (.string ⟨#[98,111,114,105,115]⟩))]) (cs:=[_,_,_,_,_,_,_,_,_,_,_,_,_,_,_,_,_,_,_,_]) A4h A4y z (F8.cons z z z (F8.cons z z z (F8.cons z z z F8.nil))))<|T.K8 fun an eW al=>have y:=A7.slc al a1.u; ?_
 obtain ⟨⟨A,eX,eY⟩,av,H⟩:=bnd H
 refine To (O.C8 z (A9I (show C9 an [ag,ai,aj,ak,am] a2 from ⟨ag,ai,aj,ak,am,z,a6.u,a7.u,a8.u,a9.u,ah.u⟩) y (show U0 an [.int .u8 (3:Int),.string (⟨#[]⟩:ByteArray),.string (⟨#[]⟩:ByteArray),.string (⟨#[]⟩:ByteArray),.int .i64 (0:Int),.int .i64 (0:Int),.string (⟨#[]⟩:ByteArray),.bool false,.bool false,.slice none 0 0,.string (⟨#[97,110,110,97]⟩:ByteArray),.string (⟨#[98,111,114,105,115]⟩:ByteArray),.string (⟨#[]⟩:ByteArray),.int .i64 (0:Int),.int .u8 (0:Int),.int .i64 (0:Int),.string (⟨#[]⟩:ByteArray),.string (⟨#[]⟩:ByteArray),.string (⟨#[]⟩:ByteArray),.int .i64 (0:Int)] (M7.mk (3:Int) (E5.mk (⟨#[]⟩:ByteArray) (⟨#[]⟩:ByteArray) (⟨#[]⟩:ByteArray) (0:Int) (0:Int) (⟨#[]⟩:ByteArray) false false ([]:List ByteArray)) (⟨#[97,110,110,97]⟩:ByteArray) (⟨#[98,111,114,105,115]⟩:ByteArray) (⟨#[]⟩:ByteArray) (0:Int) (G5.mk (0:Int) (0:Int) (⟨#[]⟩:ByteArray) (⟨#[]⟩:ByteArray) (⟨#[]⟩:ByteArray) (0:Int))) from ⟨(.slice none 0 0),z,G9.nil⟩) av _) z fun eZ e0 e1 e2 az=>?_)
 obtain ⟨a,b,c,d,f,e3,e4,rfl,ba,n,o,g,p,i,bb⟩:=az
 refine I9 _ ba<|Mv z<|Vv (V.ext rfl rfl)<|Vv (V.ext rfl rfl)<|Vv (V.ext rfl rfl)<|To (O.alloc A0l rfl rfl fun e5=>To (O.stF (vs:=[a,b,c,d,f]) F9 rfl rfl (j:=0) rfl rfl (by (simp only [Sl.ones,G9.one n,G9.one o,G9.one g,G9.one p,G9.one i,Bool.and_true,Bool.true_and]) <;> rfl) rfl ?_))
 refine T.freeze fun e6 e7 bc=>have m:=AtC.of bc; Ag z<|Ag z<|Nt<|Sq<|Sr<|Mv z<|Vv (V.ne z z)<|Mv z<|T.bH 30 H z (fun H=>?_) (fun H=>?_)
 ·exact dead H
 refine Mv z<|Mv z<|T.K8 fun e8 e9 bd=>have q:=A7.slc bd bb.u; ?_
 obtain ⟨eh,be,H⟩:=bnd H
 refine To (O.C8 z (A0O q y.u be _) z fun el bf ev ez bg=>?_)
 obtain ⟨rfl,bi⟩:=bg
 refine I9 _ bi<|Vv (V.not z)<|Vv (V.J9 z z)<|Mv z<|T.bH 36 H z (fun H=>?_) (fun H=>?_)
 ·exact dead H
 refine Vv (V.fa T9 z)<|Vv (V.I6 (k:=4) Q8 z m.u z)<|Vv (V.bld (xs:=[(0,.const (.int .u8 (1))),(2,.const (.string ⟨#[97,110,110,97]⟩)),(3,.const (.string ⟨#[98,111,114,105,115]⟩)),(5,.const (.int .i64 (2)))]) (cs:=[_,_,_,_,_,_]) A7k A7A z (F8.cons z z z (F8.cons z z z (F8.cons z z z (F8.cons z z z F8.nil)))))<|To (O.bs S9 A3H z (e:=z) (hk:=z) (xs:=[.tmp 39]) (hv:=CO.eq (CO.cons z CO.nil)) (hw:=O7.of z) (hd:=z) fun fb=>have bj:A7 H9 bf [[.int .u8 (1:Int),.int .i64 (0:Int),.string (⟨#[97,110,110,97]⟩:ByteArray),.string (⟨#[98,111,114,105,115]⟩:ByteArray),.string (⟨#[]⟩:ByteArray),.int .i64 (2:Int)]] ([(G5.mk (1:Int) (0:Int) (⟨#[97,110,110,97]⟩:ByteArray) (⟨#[98,111,114,105,115]⟩:ByteArray) (⟨#[]⟩:ByteArray) (2:Int))]:List G5):=(A7.cons z A7.nil); T.K8 fun fc fd bk=>have bm:=A7.slc bk bj.u; ?_)
 obtain ⟨fe,bn,H⟩:=bnd H
 refine To (O.C8 z (A8D i.u bm bn _) z fun ff bo fg fi bp=>?_)
 obtain ⟨rfl,bq⟩:=bp
 refine I9 _ bq<|Vv (V.not z)<|Vv (V.J9 z z)<|Mv z<|T.bH 44 H z (fun H=>?_) (fun H=>?_)
 ·exact dead H
 refine Vv (V.fa Y3 z)<|Vv (V.I6 (k:=2) Q0 z m.u z)<|Vv (V.P6 X5 z g)<|Vv (V.ne z z)<|Vv (V.J9 z z)<|Nt<|T.cH H z (fun H=>?_) (fun H=>?_)
 ·exact dead H
 refine T.skip<|Th<|Sq<|T.norm [1,2,3] rfl<|Rg<|Vv (V.Z9 rfl m.u (by exact F9)) ?_
 refine Mv z ?_
 obtain ⟨⟨ao,fj⟩,br,H⟩:=bnd H
 refine To (O.C8 z (A5g (show C9 bo [a,b,c,d,f] A from ⟨a,b,c,d,f,z,n.u,o.u,g.u,p.u,i.u⟩) q.u br _) z fun fk fm fn fo bt=>?_)
 obtain ⟨bu,bw,bx,bA,bB,bC,rfl,bD,bE,bG,bI,bJ,bK,ap⟩:=bt
 refine I9 _ bD<|Mv z<|Vv (V.ext rfl rfl)<|Vv (V.ext rfl rfl)<|To (O.alloc A0L rfl rfl fun fp=>To (O.stF (vs:=[bu,bw,bx,bA,bB,bC,.int .i64 ao.A1X,.int .i64 ao.A0B]) U7 rfl rfl (j:=0) rfl rfl (by (simp only [Sl.ones,G9.one bE,G9.one bG,G9.one bI,G9.one bJ,G9.one bK,G9.one ap,Bool.and_true,Bool.true_and]) <;> rfl) rfl ?_))
 refine T.freeze fun bM fq bN=>have aq:=AtC.of bN; Ag z<|Nt<|Sr<|Vv (V.Z9 rfl m.u (by exact F9)) ?_
 refine Mv z ?_
 obtain ⟨⟨fr,fs⟩,bO,H⟩:=bnd H
 refine To (O.C8 z (A9V (show C9 bM [a,b,c,d,f] A from ⟨a,b,c,d,f,z,n.u,o.u,g.u,p.u,i.u⟩) q.u bO _) z fun ft bP fu fw bS=>?_)
 obtain ⟨fx,fy,rfl,bU,bV⟩:=bS
 refine I9 _ bU<|Mv z<|Vv (V.ext rfl rfl)<|Vv (V.ext rfl rfl)<|Ag z<|Ag z<|Nt<|Sr<|Vv (V.Z9 rfl m.u (by exact F9)) ?_
 refine Mv z ?_
 obtain ⟨⟨bW,fA⟩,bX,H⟩:=bnd H
 refine To (O.C8 z (B1R (show C9 bP [a,b,c,d,f] A from ⟨a,b,c,d,f,z,n.u,o.u,g.u,p.u,i.u⟩) q.u bX _) z fun fB fC fD fE bY=>?_)
 obtain ⟨P,S,U,W,X,rfl,bZ,ar,au,aw,ax,ay⟩:=bY
 refine I9 _ bZ<|Mv z<|Vv (V.ext rfl rfl)<|Vv (V.ext rfl rfl)<|To (O.alloc A0l rfl rfl fun fG=>To (O.stF (vs:=[P,S,U,W,X]) F9 rfl rfl (j:=0) rfl rfl (by (simp only [Sl.ones,G9.one ar,G9.one au,G9.one aw,G9.one ax,G9.one ay,Bool.and_true,Bool.true_and]) <;> rfl) rfl ?_))
 refine T.freeze fun fI fJ b0=>have b1:=AtC.of b0; Ag z<|Nt<|Sr<|Vv (V.Z9 rfl b1 (by exact F9)) ?_
 refine Mv z<|T.K8 fun b2 fK b3=>have b4:=A7.slc b3 bV.u; ?_
 obtain ⟨⟨fM,fN⟩,b5,H⟩:=bnd H
 refine To (O.C8 z (B6v (show C9 b2 [P,S,U,W,X] bW from ⟨P,S,U,W,X,z,ar.u,au.u,aw.u,ax.u,ay.u⟩) b4 b5 _) z fun fO b6 fP fS b7=>?_)
 obtain ⟨rfl,b8⟩:=b7
 refine I9 _ b8<|Mv z<|Vv (V.ext rfl rfl)<|Vv (V.ext rfl rfl)<|Ag z<|Ag z<|Nt<|Sq<|T.norm [1,2,3,4,5,7,9,10,11] rfl<|Rg<|Vv (V.Z9 rfl m.u (by exact F9)) ?_
 refine Mv z ?_
 obtain ⟨⟨fU,fV⟩,b9,H⟩:=bnd H
 refine To (O.C8 z (A9V (show C9 b6 [a,b,c,d,f] A from ⟨a,b,c,d,f,z,n.u,o.u,g.u,p.u,i.u⟩) q.u b9 _) z fun fW bh fX fY bl=>?_)
 obtain ⟨fZ,f0,rfl,bv,f1⟩:=bl
 refine I9 _ bv<|Mv z<|Vv (V.ext z z)<|Vv (V.ext z z)<|Ag z<|Ag z<|Nt<|Sq<|Sr<|Mv z<|Mv z ?_
 obtain ⟨f2,bz,H⟩:=bnd H
 refine Vv (V.L8 z z bz)<|Mv z ?_
 obtain ⟨f3,ca,H⟩:=bnd H
 refine Vv (V.L8 z z ca)<|Mv z ?_
 obtain ⟨f4,cb,H⟩:=bnd H
 refine Vv (V.L8 z z cb)<|Vv (V.ne z z)<|Mv z<|T.bH 88 H z (fun H=>?_) (fun H=>?_)
 ·exact dead H
 refine Mv z<|Vv (V.ne z z)<|Vv (V.J9 z z)<|Mv z<|T.bH 92 H z (fun H=>?_) (fun H=>?_)
 ·exact dead H
 refine Mv z<|Vv (V.ne z z)<|Vv (V.J9 z z)<|Mv z<|T.bH 96 H z (fun H=>?_) (fun H=>?_)
 ·exact dead H
 refine Vv (V.fa A2U z)<|Vv (V.I6 (k:=6) D9 z aq.u z)<|Vv (V.ne z z)<|Vv (V.J9 z z)<|Mv z<|T.bH 101 H z (fun H=>?_) (fun H=>?_)
 ·exact dead H
 refine Vv (V.fa A1C z)<|Vv (V.I6 (k:=5) F4 z aq.u z)<|To (O.bs D6 Q4 z (e:=z) (hk:=z) (xs:=[.const (.int .i64 (0)),.const (.int .i64 (4)),.const (.int .i64 (2))]) (hv:=CO.eq (CO.cons z (CO.cons z (CO.cons z CO.nil)))) (hw:=O7.of z) (hd:=z) fun f5=>have cc:A7 (VI .i64) bh [[.int .i64 (0:Int)],[.int .i64 (4:Int)],[.int .i64 (2:Int)]] ([(0:Int),(4:Int),(2:Int)]:List Int):=(A7.cons z (A7.cons z (A7.cons z A7.nil))); T.K8 fun f6 f7 cd=>have ce:=A7.slc cd cc.u; ?_)
 obtain ⟨f8,cf,H⟩:=bnd H
 refine To (O.C8 z (A0O ap.u ce cf _) z fun f9 cg fh fv ci=>?_)
 obtain ⟨rfl,cj⟩:=ci
 refine I9 _ cj<|Vv (V.not z)<|Vv (V.J9 z z)<|Mv z<|T.bH 108 H z (fun H=>?_) (fun H=>?_)
 ·exact dead H
 refine Vv (V.Z9 rfl m.u (by exact F9)) ?_
 refine Mv z ?_
 obtain ⟨fz,ck,H⟩:=bnd H
 refine To (O.C8 z (B5l (show C9 cg [a,b,c,d,f] A from ⟨a,b,c,d,f,z,n.u,o.u,g.u,p.u,i.u⟩) q.u ck _) z fun ga cm gb gc cn=>?_)
 obtain ⟨rfl,co⟩:=cn
 refine I9 _ co<|Vv (V.ne z z)<|Vv (V.J9 z z)<|Mv z<|T.bH 114 H z (fun H=>?_) (fun H=>?_)
 ·exact dead H
 refine Vv (V.Z9 rfl m.u (by exact F9)) ?_
 refine Mv z ?_
 obtain ⟨gd,cp,H⟩:=bnd H
 refine To (O.C8 z (B7B (show C9 cm [a,b,c,d,f] A from ⟨a,b,c,d,f,z,n.u,o.u,g.u,p.u,i.u⟩) q.u cp _) z fun ge cq gf gg cr=>?_)
 obtain ⟨gi,ct,cu⟩:=cr
 refine I9 _ ct<|To (O.bs D6 Q4 z (e:=z) (hk:=z) (xs:=[.const (.int .i64 (0))]) (hv:=CO.eq (CO.cons z CO.nil)) (hw:=O7.of z) (hd:=z) fun gj=>have cw:A7 (VI .i64) cq [[.int .i64 (0:Int)]] ([(0:Int)]:List Int):=(A7.cons z A7.nil); I7 1 z<|T.fl ?_)
 refine T.K8 fun gk gm cx=>have cy:=A7.slc cx cu.u; T.K8 fun gn go cA=>have cB:=A7.slc cA cw.u; ?_
 obtain ⟨gp,cC,H⟩:=bnd H
 refine To (O.C8 z (A0O cy.u cB cC _) z fun gq gr gs gt cD=>?_)
 obtain ⟨rfl,cE⟩:=cD
 refine I9 _ cE<|Vv (V.not z)<|Vv (V.J9 z z)<|Nt<|T.cH H z (fun H=>?_) (fun H=>?_)
 ·exact dead H
 refine T.skip<|Th<|Sq<|T.norm [1] z<|T.fl ?_
 refine Rg ?_
 obtain ⟨cG,cI,H⟩:=bnd H
 refine To (O.C8 z (A5j G9.nil cI _) z fun gu aA gw gx cJ=>?_)
 obtain ⟨aB,aC,aD,aE,aG,rfl,cK,cM,cN,cO,cP,cS⟩:=cJ
 refine I9 _ cK<|Mv z<|Vv (V.bld (xs:=[(0,.const (.string ⟨#[100,111,114,97]⟩))]) (cs:=[_,_,_,_,_,_,_,_,_]) A7m A7l z (F8.cons z z z F8.nil))<|Vv (V.bld (xs:=[(0,.const (.int .u8 (1))),(1,.tmp 125)]) (cs:=[_,_,_,_,_,_,_,_,_,_,_,_,_,_,_,_,_,_,_,_]) A4h A4y z (F8.cons z z z (F8.cons z z z F8.nil))) ?_
 obtain ⟨⟨Y,gy,gA⟩,cU,H⟩:=bnd H
 refine To (O.C8 z (A9I (show C9 aA [aB,aC,aD,aE,aG] cG from ⟨aB,aC,aD,aE,aG,z,cM,cN,cO,cP,cS⟩) y.u (show U0 aA [.int .u8 (1:Int),.string (⟨#[100,111,114,97]⟩:ByteArray),.string (⟨#[]⟩:ByteArray),.string (⟨#[]⟩:ByteArray),.int .i64 (0:Int),.int .i64 (0:Int),.string (⟨#[]⟩:ByteArray),.bool false,.bool false,.slice none 0 0,.string (⟨#[]⟩:ByteArray),.string (⟨#[]⟩:ByteArray),.string (⟨#[]⟩:ByteArray),.int .i64 (0:Int),.int .u8 (0:Int),.int .i64 (0:Int),.string (⟨#[]⟩:ByteArray),.string (⟨#[]⟩:ByteArray),.string (⟨#[]⟩:ByteArray),.int .i64 (0:Int)] (M7.mk (1:Int) (E5.mk (⟨#[100,111,114,97]⟩:ByteArray) (⟨#[]⟩:ByteArray) (⟨#[]⟩:ByteArray) (0:Int) (0:Int) (⟨#[]⟩:ByteArray) false false ([]:List ByteArray)) (⟨#[]⟩:ByteArray) (⟨#[]⟩:ByteArray) (⟨#[]⟩:ByteArray) (0:Int) (G5.mk (0:Int) (0:Int) (⟨#[]⟩:ByteArray) (⟨#[]⟩:ByteArray) (⟨#[]⟩:ByteArray) (0:Int))) from ⟨(.slice none 0 0),z,G9.nil⟩) cU _) z fun gB gC gD gE cV=>?_)
 obtain ⟨r,s,t,w,x,gG,gI,rfl,cW,I,J,K,M,N,cX⟩:=cV
 refine I9 _ cW<|Mv z<|Vv (V.ext rfl rfl)<|Vv (V.ext rfl rfl)<|Vv (V.ext rfl rfl)<|To (O.alloc A0l rfl rfl fun gJ=>To (O.stF (vs:=[r,s,t,w,x]) F9 rfl rfl (j:=0) rfl rfl (by (simp only [Sl.ones,G9.one I,G9.one J,G9.one K,G9.one M,G9.one N,Bool.and_true,Bool.true_and]) <;> rfl) rfl ?_))
 refine T.fl ?_
 refine T.freeze fun gK gM cY=>have Z:=AtC.of cY; Ag z<|Ag z<|Nt<|Sr<|Vv (V.Z9 rfl Z (by exact F9)) ?_
 refine Mv z<|T.K8 fun cZ gN c0=>have aa:=A7.slc c0 cX.u; ?_
 obtain ⟨⟨aI,gO⟩,c1,H⟩:=bnd H
 refine To (O.C8 z (A5g (show C9 cZ [r,s,t,w,x] Y from ⟨r,s,t,w,x,z,I.u,J.u,K.u,M.u,N.u⟩) aa c1 _) z fun gP gS gU gV c2=>?_)
 obtain ⟨c3,c4,c5,c6,c7,c8,rfl,c9,ch,cl,cv,cz,da,aJ⟩:=c2
 refine I9 _ c9<|Mv z<|Vv (V.ext rfl rfl)<|Vv (V.ext rfl rfl)<|To (O.alloc A0L rfl rfl fun gW=>To (O.stF (vs:=[c3,c4,c5,c6,c7,c8,.int .i64 aI.A1X,.int .i64 aI.A0B]) U7 rfl rfl (j:=0) rfl rfl (by (simp only [Sl.ones,G9.one ch,G9.one cl,G9.one cv,G9.one cz,G9.one da,G9.one aJ,Bool.and_true,Bool.true_and]) <;> rfl) rfl ?_))
 refine T.freeze fun db gX dc=>have aK:=AtC.of dc; Ag z<|Nt<|Sq<|Sr<|Mv z<|Mv z ?_
 obtain ⟨gY,dd,H⟩:=bnd H
 refine Vv (V.L8 z z dd)<|Vv (V.ne z z)<|Mv z<|T.bH 141 H z (fun H=>?_) (fun H=>?_)
 ·exact dead H
 refine Vv (V.fa A1C z)<|Vv (V.I6 (k:=5) F4 z aK z)<|To (O.bs D6 Q4 z (e:=z) (hk:=z) (xs:=[.const (.int .i64 (0)),.const (.int .i64 (1)),.const (.int .i64 (2)),.const (.int .i64 (3))]) (hv:=CO.eq (CO.cons z (CO.cons z (CO.cons z (CO.cons z CO.nil))))) (hw:=O7.of z) (hd:=z) fun gZ=>have de:A7 (VI .i64) db [[.int .i64 (0:Int)],[.int .i64 (1:Int)],[.int .i64 (2:Int)],[.int .i64 (3:Int)]] ([(0:Int),(1:Int),(2:Int),(3:Int)]:List Int):=(A7.cons z (A7.cons z (A7.cons z (A7.cons z A7.nil)))); T.K8 fun g0 g1 df=>have dg:=A7.slc df de.u; ?_)
 obtain ⟨g2,di,H⟩:=bnd H
 refine To (O.C8 z (A0O aJ.u dg di _) z fun g3 dj g4 g5 dk=>?_)
 obtain ⟨rfl,dm⟩:=dk
 refine I9 _ dm<|Vv (V.not z)<|Vv (V.J9 z z)<|Mv z<|T.bH 148 H z (fun H=>?_) (fun H=>?_)
 ·exact dead H
 refine Vv (V.fa A2U z)<|Vv (V.I6 (k:=6) D9 z aK.u z)<|Vv (V.ne z z)<|Vv (V.J9 z z)<|Mv z<|T.bH 153 H z (fun H=>?_) (fun H=>?_)
 ·exact dead H
 refine Vv (V.Z9 rfl Z.u (by exact F9)) ?_
 refine Mv z ?_
 obtain ⟨g6,dn,H⟩:=bnd H
 refine To (O.C8 z (A9N (show C9 dj [r,s,t,w,x] Y from ⟨r,s,t,w,x,z,I.u,J.u,K.u,M.u,N.u⟩) aa.u dn _) z fun g7 dp g8 g9 dq=>?_)
 obtain ⟨rfl,dr⟩:=dq
 refine I9 _ dr<|Vv (V.ne z z)<|Vv (V.J9 z z)<|Mv z<|T.bH 159 H z (fun H=>?_) (fun H=>?_)
 ·exact dead H
 refine Vv (V.Z9 rfl Z.u (by exact F9)) ?_
 refine Mv z ?_
 obtain ⟨gh,ds,H⟩:=bnd H
 refine To (O.C8 z (A9N (show C9 dp [r,s,t,w,x] Y from ⟨r,s,t,w,x,z,I.u,J.u,K.u,M.u,N.u⟩) aa.u ds _) z fun gl dt gv gz du=>?_)
 obtain ⟨rfl,dw⟩:=du
 refine I9 _ dw<|Vv (V.ne z z)<|Vv (V.J9 z z)<|Nt<|T.cH H z (fun H=>?_) (fun H=>?_)
 ·exact dead H
 refine T.skip<|Th<|Sq<|T.norm [1] z<|T.fl ?_
 refine Rg<|Vv (V.bld (xs:=[(0,.const (.int .u8 (7))),(2,.const (.string ⟨#[99,97,114,108]⟩)),(4,.const (.string ⟨#[114]⟩))]) (cs:=[_,_,_,_,_,_]) A7k A7A z (F8.cons z z z (F8.cons z z z (F8.cons z z z F8.nil))))<|To (O.bs S9 A3H z (e:=z) (hk:=z) (xs:=[.tmp 165]) (hv:=CO.eq (CO.cons z CO.nil)) (hw:=O7.of z) (hd:=z) fun ia=>have dx:A7 H9 dt [[.int .u8 (7:Int),.int .i64 (0:Int),.string (⟨#[99,97,114,108]⟩:ByteArray),.string (⟨#[]⟩:ByteArray),.string (⟨#[114]⟩:ByteArray),.int .i64 (0:Int)]] ([(G5.mk (7:Int) (0:Int) (⟨#[99,97,114,108]⟩:ByteArray) (⟨#[]⟩:ByteArray) (⟨#[114]⟩:ByteArray) (0:Int))]:List G5):=(A7.cons z A7.nil); T.K8 fun ib ic dy=>have dA:=A7.slc dy dx.u; ?_)
 obtain ⟨aM,dB,H⟩:=bnd H
 refine To (O.C8 z (A5j dA dB _) z fun id ie ig ii dC=>?_)
 obtain ⟨B,C,D,E,G,rfl,dD,ab,ac,ad,ae,af⟩:=dC
 refine I9 _ dD<|To (O.alloc A0l rfl rfl fun ij=>To (O.stF (vs:=[B,C,D,E,G]) F9 rfl rfl (j:=0) rfl rfl (by (simp only [Sl.ones,G9.one ab,G9.one ac,G9.one ad,G9.one ae,G9.one af,Bool.and_true,Bool.true_and]) <;> rfl) rfl ?_))
 refine T.freeze fun dE ik dG=>have aN:=AtC.of dG; Nt<|Sr<|Vv (V.Z9 rfl aN (by exact F9)) ?_
 refine Mv z ?_
 obtain ⟨⟨im,io⟩,dI,H⟩:=bnd H
 refine To (O.C8 z (A5g (show C9 dE [B,C,D,E,G] aM from ⟨B,C,D,E,G,z,ab.u,ac.u,ad.u,ae.u,af.u⟩) y.u dI _) z fun ip dJ iq ir dK=>?_)
 obtain ⟨it,iu,iw,ix,iy,iA,rfl,dM,iB,iC,iD,iE,iG,iI⟩:=dK
 refine I9 _ dM<|Mv z<|Vv (V.ext rfl rfl)<|Vv (V.ext rfl rfl)<|Ag z<|Nt<|Sr<|Vv (V.Z9 rfl aN.u (by exact F9)) ?_
 refine Mv z ?_
 obtain ⟨⟨aO,iJ⟩,dN,H⟩:=bnd H
 refine To (O.C8 z (A5g (show C9 dJ [B,C,D,E,G] aM from ⟨B,C,D,E,G,z,ab.u,ac.u,ad.u,ae.u,af.u⟩) y.u dN _) z fun iK iM iN iO dO=>?_)
 obtain ⟨dP,dS,dU,dV,dW,dX,rfl,dY,dZ,d0,d1,d2,d3,aP⟩:=dO
 refine I9 _ dY<|Mv z<|Vv (V.ext rfl rfl)<|Vv (V.ext rfl rfl)<|To (O.alloc A0L rfl rfl fun iP=>To (O.stF (vs:=[dP,dS,dU,dV,dW,dX,.int .i64 aO.A1X,.int .i64 aO.A0B]) U7 rfl rfl (j:=0) rfl rfl (by (simp only [Sl.ones,G9.one dZ,G9.one d0,G9.one d1,G9.one d2,G9.one d3,G9.one aP,Bool.and_true,Bool.true_and]) <;> rfl) rfl ?_))
 refine T.freeze fun iS iU d4=>have aS:=AtC.of d4; Ag z<|Nt<|Sr ?_
 obtain ⟨d5,d6,H⟩:=bnd H
 refine To (O.C8 z (A5j G9.nil d6 _) z fun iV d7 iW iX d8=>?_)
 obtain ⟨aU,aV,aW,aX,aY,rfl,d9,dh,dl,dv,dz,ea⟩:=d8
 refine I9 _ d9<|Mv z ?_
 obtain ⟨⟨aZ,iY⟩,eb,H⟩:=bnd H
 refine To (O.C8 z (B8V (show C9 d7 [aU,aV,aW,aX,aY] d5 from ⟨aU,aV,aW,aX,aY,z,dh,dl,dv,dz,ea⟩) y.u eb _) z fun iZ i0 i1 i2 ec=>?_)
 obtain ⟨ed,ee,ef,eg,ei,ej,rfl,ek,em,en,eo,ep,er,a0⟩:=ec
 refine I9 _ ek<|Mv z<|Vv (V.ext rfl rfl)<|Vv (V.ext rfl rfl)<|To (O.alloc A0L rfl rfl fun i3=>To (O.stF (vs:=[ed,ee,ef,eg,ei,ej,.int .i64 aZ.A1X,.int .i64 aZ.A0B]) U7 rfl rfl (j:=0) rfl rfl (by (simp only [Sl.ones,G9.one em,G9.one en,G9.one eo,G9.one ep,G9.one er,G9.one a0,Bool.and_true,Bool.true_and]) <;> rfl) rfl ?_))
 refine T.freeze fun es i4 et=>have eu:=AtC.of et; Ag z<|Nt<|Sr<|Mv z<|Vv (V.eq z z)<|Mv z<|T.bH 188 H z (fun H=>?_) (fun H=>?_)
 ·refine Mv z<|Mv z ?_
  obtain ⟨i5,ew,H⟩:=bnd H
  refine Vv (V.L8 z z ew)<|Vv (V.eq z z)<|Vv (V.M0 z z)<|Mv z<|T.bH 194 H z (fun H=>?_) (fun H=>?_)
  ·refine Vv (V.fa A2U z)<|Vv (V.I6 (k:=6) D9 z aS.u z)<|Vv (V.eq z z)<|Vv (V.M0 z z)<|Mv z<|T.bH 199 H z (fun H=>?_) (fun H=>?_)
   ·refine Vv (V.fa A1C z)<|Vv (V.I6 (k:=5) F4 z aS.u z)<|To (O.bs D6 Q4 z (e:=z) (hk:=z) (xs:=[.const (.int .i64 (2)),.const (.int .i64 (1)),.const (.int .i64 (0))]) (hv:=CO.eq (CO.cons z (CO.cons z (CO.cons z CO.nil)))) (hw:=O7.of z) (hd:=z) fun i6=>have ex:A7 (VI .i64) es [[.int .i64 (2:Int)],[.int .i64 (1:Int)],[.int .i64 (0:Int)]] ([(2:Int),(1:Int),(0:Int)]:List Int):=(A7.cons z (A7.cons z (A7.cons z A7.nil))); T.K8 fun i7 i8 ey=>have eA:=A7.slc ey ex.u; ?_)
    obtain ⟨i9,eB,H⟩:=bnd H
    refine To (O.C8 z (A0O aP.u eA eB _) z fun ih eC il iv eD=>?_)
    obtain ⟨rfl,eE⟩:=eD
    refine I9 _ eE<|Vv (V.M0 z z)<|Mv z<|T.bH 205 H z (fun H=>?_) (fun H=>?_)
    ·refine Vv (V.fa A1C z)<|Vv (V.I6 (k:=5) F4 z eu.u z)<|To (O.bs D6 Q4 z (e:=z) (hk:=z) (xs:=[.const (.int .i64 (0)),.const (.int .i64 (3)),.const (.int .i64 (2))]) (hv:=CO.eq (CO.cons z (CO.cons z (CO.cons z CO.nil)))) (hw:=O7.of z) (hd:=z) fun iz=>have eG:A7 (VI .i64) eC [[.int .i64 (0:Int)],[.int .i64 (3:Int)],[.int .i64 (2:Int)]] ([(0:Int),(3:Int),(2:Int)]:List Int):=(A7.cons z (A7.cons z (A7.cons z A7.nil))); T.K8 fun ja jb eI=>have eJ:=A7.slc eI eG.u; ?_)
     obtain ⟨jc,eK,H⟩:=bnd H
     refine To (O.C8 z (A0O a0.u eJ eK _) z fun jd je jf jg eM=>?_)
     obtain ⟨rfl,eN⟩:=eM
     refine I9 _ eN<|Vv (V.M0 z z)<|Ag z<|Nt<|T.ret<|T.drop ?_
     obtain rfl:=Option.some.inj H
     exact T.F5 Tryz.results5 (Rv z) Li ⟨z,z⟩
    exact dead H
   exact dead H
  exact dead H
 exact dead H
end Go.Proofs.X
