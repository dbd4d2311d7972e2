import Derived.Test.YtphnomnanplclaaGreatDoorChecked
import Derived.KernelRfl
import Derived.Test.YtphnomnanplclaaGreatDoorV
import Derived.Test.YtphnomnanplclaaGreatDoorL10
import Derived.Test.YtphnomnanplclaaGreatDoorDa
import Derived.Test.YtphnomnanplclaaGreatDoorWc
/- The walks: each function computes what its Lean function says. -/
set_option maxRecDepth 1000000
set_option maxHeartbeats 40000000
set_option linter.unusedVariables false
set_option linter.unusedSimpArgs false
set_option linter.unnecessarySimpa false
open Go Go.Proofs Go.Sl Go.Dm
namespace Go.Proofs.X
theorem C0w {h:PH} {s1:ByteArray} {r_0:Bool} (H:A6R s1 = some r_0):∀ L,H5 Tryz.prog 176 [.string s1] h (L) (fun v h' L'=>v = .bool r_0∧L' = L):=by
 intro L
 refine H5.enter Tryz.func176 z Tryz.ntmps176 z<|Sr<|Ag z<|Nt<|Sq<|Sq ?_
 obtain ⟨g,i,j⟩:=N7 H
 refine T.O5 (α:=Bool) [0] z (fun c=>[(11,.bool c)]) (fun c=>L) (fun c hh=>g = c) ?_ ?_
 ·have H:=i
  refine Rg<|Mv z<|Vv (V.A3T Tryz.underlying9 z)<|Vv (V.eq z z)<|Mv z<|T.bH 7 H z (fun H=>?_) (fun H=>?_)
  ·refine Sk<|Sk<|Sk<|Vv (V.M0 z z)<|Nt<|T.met true Lr (K4 H) (A9.app ⟨z,trivial⟩ ⟨z,trivial⟩) z
  refine Mv z<|Vv (V.A3T Tryz.underlying9 z)<|Vv (V.gt z z)<|Vv (V.J9 z z)<|Nt<|T.met (decide ((12:Int) < (s1.size:Int))) Lr (K4 H) (A9.app ⟨z,trivial⟩ ⟨z,trivial⟩) z
 rintro c u w k
 have H:=J5 k j
 refine T.norm [11,0] z<|T.fl ?_
 refine T.cH H z (fun H=>?_) (fun H=>?_)
 ·refine Sr<|Ag z<|Nt<|T.ret<|Tr ?_
  obtain rfl:=Option.some.inj H
  exact T.F5 Tryz.results176 (Rv z) Li ⟨z,z⟩
 refine T.skip<|Th<|Sq<|Sr<|Ag z<|Nt ?_
 obtain ⟨f,m,e⟩:=N7 H
 refine T.O5 (α:=Unit) [] z (fun _u=>[]) (fun _u=>L) (fun _u hh=>f = (Sum.inl ())) ?_ ?_
 ·have H:=m
  refine Bl<|T.N8 (α:=Nat×Int) [0] z (fun ⟨a,b⟩=>[(3,.int .i64 b)]) (fun ⟨a,b⟩=>L) (fun ⟨a,b⟩ hh=>iter (A7I s1) a b = some f) (fun ⟨a,b⟩=>a) (FUEL,(0:Int)) ⟨z,trivial⟩ z H ?_
  rintro ⟨a,b⟩ x y n
  obtain ⟨o,A,rfl,H,d⟩:=I4 n
  refine T.norm [3,0] z<|T.fl ?_
  refine Sq<|Sr<|Mv z<|Mv z<|Vv (V.A3T Tryz.underlying9 z)<|Vv (V.lt z z)<|Nt<|T.cH H z (fun H=>?_) (fun H=>?_)
  ·refine T.skip<|Th<|Sq<|Bl<|Sr<|Mv z<|Mv z ?_
   obtain ⟨B,p,H⟩:=bnd H
   refine Vv (V.B8j Tryz.underlying9 z z p)<|Vv (V.lt z z)<|Mv z<|T.bH 22 H z (fun H=>?_) (fun H=>?_)
   ·refine Sk<|Sk<|Sk<|Sk<|Vv (V.M0 z z)<|Nt<|Ct z<|Sr<|Ag z<|Nt<|T.ret<|Br<|Tr<|Tr<|have H:=D7 H d; Br<|Tr<|have H:=J5 H e; ?_
    obtain rfl:=Option.some.inj H
    exact T.F5 Tryz.results176 (Rv z) Li ⟨z,z⟩
   refine Mv z<|Mv z ?_
   obtain ⟨C,q,H⟩:=bnd H
   refine Vv (V.B8j Tryz.underlying9 z z q)<|Vv (V.gt z z)<|Vv (V.J9 z z)<|Nt<|T.cH H z (fun H=>?_) (fun H=>?_)
   ·refine Sr<|Ag z<|Nt<|T.ret<|Br<|Tr<|Tr<|have H:=D7 H d; Br<|Tr<|have H:=J5 H e; ?_
    obtain rfl:=Option.some.inj H
    exact T.F5 Tryz.results176 (Rv z) Li ⟨z,z⟩
   refine T.skip<|Bn<|Th<|Rg<|Mv z ?_
   obtain ⟨r,s,H⟩:=bnd H
   refine Vv (V.L8 z z s)<|Ag z<|Nt<|T.again (o,r) Li (Nat.lt_succ_self _) (G8 H d) (A9.app ⟨z,trivial⟩ ⟨z,trivial⟩) z
  refine T.exit<|Te<|Te<|have H:=D7 H d; Be<|Th<|T.met () Li H (A9.app trivial trivial) z
 rintro _ D E t
 have H:=J5 t e
 refine T.norm [] z<|T.fl ?_
 refine Sr<|Ag z<|Nt<|T.ret ?_
 obtain rfl:=Option.some.inj H
 exact T.F5 Tryz.results176 (Rv z) Li ⟨z,z⟩
theorem A0i {h:PH} {n1:Int} {low2:Int} {high3:Int} {r_0:Bool} (H:A0j n1 low2 high3 = some r_0):∀ L,H5 Tryz.prog 114 [.int .i64 n1,.int .i64 low2,.int .i64 high3] h (L) (fun v h' L'=>v = .bool r_0∧L' = L):=by
 intro L
 refine H5.enter Tryz.func114 z Tryz.ntmps114 z<|Sr<|Ag z<|Nt<|Sr<|Mv z<|Mv z<|Vv (V.le z z)<|Mv z<|T.bH 10 H z (fun H=>?_) (fun H=>?_)
 ·refine Mv z<|Mv z<|Vv (V.le z z)<|Vv (V.M0 z z)<|Ag z<|Nt<|T.ret ?_
  obtain rfl:=Option.some.inj H
  exact T.F5 Tryz.results114 (Rv z) Lr ⟨z,z⟩
 refine Sk<|Sk<|Sk<|Vv (V.J9 z z)<|Ag z<|Nt<|T.ret ?_
 obtain rfl:=Option.some.inj H
 exact T.F5 Tryz.results114 (Rv z) Lr ⟨z,z⟩
theorem A8n {h:PH} {pc0:List Value} {t1:D5} (pr0:E8 h pc0 t1) {r_0:Int} (H:A3R t1 = some r_0):∀ L,H5 Tryz.prog 59 [.agg pc0.toArray] h (L) (fun v h' L'=>v = .int .i64 r_0∧L' = L):=by
 intro L
 obtain ⟨I,rfl,J⟩:=pr0
 refine H5.enter Tryz.func59 z Tryz.ntmps59 z<|Sr<|To (O.V3 z z z fun K M N a=>Ag z<|Nt<|Sq<|Sr<|Vv (V.fa A3W z)<|Vv (V.I6 (k:=1) A6l z a z)<|Nt<|Bl<|Sr<|Vv (V.eq z z)<|Ag z<|Nt<|T.cH H z (fun H=>?_) (fun H=>?_))
 ·refine Sr<|Vv (V.fa A0q z)<|Vv (V.I6 (k:=2) D9 z a z) ?_
  obtain ⟨P,b,H⟩:=bnd H
  refine To (O.C8 z (A0i b _) z fun S U W X c=>?_)
  obtain ⟨rfl,d⟩:=c
  refine I9 _ d<|Mv z<|T.bH 10 H z (fun H=>?_) (fun H=>?_)
  ·refine Vv (V.fa A1c z)<|Vv (V.I6 (k:=3) D9 z a.u z)<|Vv (V.eq z z)<|Vv (V.M0 z z)<|Nt<|T.cH H z (fun H=>?_) (fun H=>?_)
   ·refine Sr<|Vv (V.fa A0q z)<|Vv (V.I6 (k:=2) D9 z a.u z)<|Ag z<|Nt<|T.ret<|Br<|Tr ?_
    obtain rfl:=Option.some.inj H
    exact T.F5 Tryz.results59 (Rv z) Li ⟨z,z⟩
   refine T.skip<|Bn<|Th<|Sr<|Ag z<|Nt<|T.ret ?_
   obtain rfl:=Option.some.inj H
   exact T.F5 Tryz.results59 (Rv z) Li ⟨z,z⟩
  refine Sk<|Sk<|Sk<|Vv (V.J9 z z)<|Nt<|Cf z<|T.skip<|Bn<|Th<|Sr<|Ag z<|Nt<|T.ret ?_
  obtain rfl:=Option.some.inj H
  exact T.F5 Tryz.results59 (Rv z) Li ⟨z,z⟩
 refine Sr<|Vv (V.eq z z)<|Ag z<|Nt<|T.cH H z (fun H=>?_) (fun H=>?_)
 ·refine Sr<|Vv (V.fa A0q z)<|Vv (V.I6 (k:=2) D9 z a z) ?_
  obtain ⟨Y,e,H⟩:=bnd H
  refine To (O.C8 z (A0i e _) z fun Z aa ab ac f=>?_)
  obtain ⟨rfl,g⟩:=f
  refine I9 _ g<|Mv z<|T.bH 22 H z (fun H=>?_) (fun H=>?_)
  ·refine Vv (V.fa A1c z)<|Vv (V.I6 (k:=3) D9 z a.u z) ?_
   obtain ⟨ad,i,H⟩:=bnd H
   refine To (O.C8 z (A0i i _) z fun ae af ag ai j=>?_)
   obtain ⟨rfl,m⟩:=j
   refine I9 _ m<|Vv (V.M0 z z)<|Nt<|T.cH H z (fun H=>?_) (fun H=>?_)
   ·refine Sr<|Vv (V.fa A0q z)<|Vv (V.I6 (k:=2) D9 z a.u z) ?_
    obtain ⟨aj,n,H⟩:=bnd H
    refine Vv (V.B2H z z n)<|Vv (V.fa A1c z)<|Vv (V.I6 (k:=3) D9 z a.u z) ?_
    obtain ⟨ak,o,H⟩:=bnd H
    refine Vv (V.L8 z z o)<|Ag z<|Nt<|T.ret<|Br<|Tr ?_
    obtain rfl:=Option.some.inj H
    exact T.F5 Tryz.results59 (Rv z) Li ⟨z,z⟩
   refine T.skip<|Bn<|Th<|Sr<|Ag z<|Nt<|T.ret ?_
   obtain rfl:=Option.some.inj H
   exact T.F5 Tryz.results59 (Rv z) Li ⟨z,z⟩
  refine Sk<|Sk<|Sk<|Vv (V.J9 z z)<|Nt<|Cf z<|T.skip<|Bn<|Th<|Sr<|Ag z<|Nt<|T.ret ?_
  obtain rfl:=Option.some.inj H
  exact T.F5 Tryz.results59 (Rv z) Li ⟨z,z⟩
 refine Sr<|Vv (V.eq z z)<|Ag z<|Nt<|T.cH H z (fun H=>?_) (fun H=>?_)
 ·refine Sr<|Vv (V.fa A0q z)<|Vv (V.I6 (k:=2) D9 z a z) ?_
  obtain ⟨am,p,H⟩:=bnd H
  refine To (O.C8 z (A0i p _) z fun an ao ap aq q=>?_)
  obtain ⟨rfl,r⟩:=q
  refine I9 _ r<|Mv z<|T.bH 38 H z (fun H=>?_) (fun H=>?_)
  ·refine Vv (V.fa A1c z)<|Vv (V.I6 (k:=3) D9 z a.u z) ?_
   obtain ⟨ar,s,H⟩:=bnd H
   refine To (O.C8 z (A0i s _) z fun au aw ax ay t=>?_)
   obtain ⟨rfl,w⟩:=t
   refine I9 _ w<|Vv (V.M0 z z)<|Nt<|T.cH H z (fun H=>?_) (fun H=>?_)
   ·refine Sr<|Vv (V.fa A0q z)<|Vv (V.I6 (k:=2) D9 z a.u z)<|Vv (V.fa A1c z)<|Vv (V.I6 (k:=3) D9 z a.u z) ?_
    obtain ⟨aA,x,H⟩:=bnd H
    refine Vv (V.B2H z z x) ?_
    obtain ⟨aB,y,H⟩:=bnd H
    refine Vv (V.L8 z z y)<|Ag z<|Nt<|T.ret<|Br<|Tr ?_
    obtain rfl:=Option.some.inj H
    exact T.F5 Tryz.results59 (Rv z) Li ⟨z,z⟩
   refine T.skip<|Bn<|Th<|Sr<|Ag z<|Nt<|T.ret ?_
   obtain rfl:=Option.some.inj H
   exact T.F5 Tryz.results59 (Rv z) Li ⟨z,z⟩
  refine Sk<|Sk<|Sk<|Vv (V.J9 z z)<|Nt<|Cf z<|T.skip<|Bn<|Th<|Sr<|Ag z<|Nt<|T.ret ?_
  obtain rfl:=Option.some.inj H
  exact T.F5 Tryz.results59 (Rv z) Li ⟨z,z⟩
 refine Sr<|Vv (V.eq z z)<|Ag z<|Nt<|T.cH H z (fun H=>?_) (fun H=>?_)
 ·refine Sr<|Vv (V.fa A0q z)<|Vv (V.I6 (k:=2) D9 z a z) ?_
  obtain ⟨aC,A,H⟩:=bnd H
  refine To (O.C8 z (A0i A _) z fun aD aE aG aI B=>?_)
  obtain ⟨rfl,C⟩:=B
  refine I9 _ C<|Mv z<|T.bH 54 H z (fun H=>?_) (fun H=>?_)
  ·refine Vv (V.fa A1c z)<|Vv (V.I6 (k:=3) D9 z a.u z)<|Vv (V.fa A0q z)<|Vv (V.I6 (k:=2) D9 z a.u z) ?_
   obtain ⟨aJ,D,H⟩:=bnd H
   refine To (O.C8 z (A0i D _) z fun aK aM aN aO E=>?_)
   obtain ⟨rfl,G⟩:=E
   refine I9 _ G<|Vv (V.M0 z z)<|Nt<|T.cH H z (fun H=>?_) (fun H=>?_)
   ·refine Sr<|Vv (V.fa A0q z)<|Vv (V.I6 (k:=2) D9 z a.u z)<|Ag z<|Nt<|T.ret<|Br<|Tr ?_
    obtain rfl:=Option.some.inj H
    exact T.F5 Tryz.results59 (Rv z) Li ⟨z,z⟩
   refine T.skip<|Bn<|Th<|Sr<|Ag z<|Nt<|T.ret ?_
   obtain rfl:=Option.some.inj H
   exact T.F5 Tryz.results59 (Rv z) Li ⟨z,z⟩
  refine Sk<|Sk<|Sk<|Sk<|Sk<|Vv (V.J9 z z)<|Nt<|Cf z<|T.skip<|Bn<|Th<|Sr<|Ag z<|Nt<|T.ret ?_
  obtain rfl:=Option.some.inj H
  exact T.F5 Tryz.results59 (Rv z) Li ⟨z,z⟩
 refine T.skip<|Bn<|Th<|Sr<|Ag z<|Nt<|T.ret ?_
 obtain rfl:=Option.some.inj H
 exact T.F5 Tryz.results59 (Rv z) Li ⟨z,z⟩
theorem B8Z {h:PH} {pc0:List Value} {t1:D5} (pr0:E8 h pc0 t1) {r_0:Int} (H:A7i t1 = some r_0):∀ L,H5 Tryz.prog 110 [.agg pc0.toArray] h (L) (fun v h' L'=>v = .int .i64 r_0∧L' = L):=by
 intro L
 obtain ⟨i,rfl,a⟩:=pr0
 refine H5.enter Tryz.func110 rfl Tryz.ntmps110 rfl<|Sr<|To (O.V3 rfl rfl rfl fun af q ag b=>Ag z<|Nt<|Sr<|Vv (V.Z9 rfl b (by exact U4)) ?_)
 obtain ⟨r,s,H⟩:=bnd H
 refine To (O.C8 z (A8n (show E8 q [.string t1.H7,.int .u8 t1.N9,.int .i64 t1.fA,.int .i64 t1.fB,i,.int .i64 t1.fX,.int .i64 t1.fY] t1 from ⟨i,z,a.u⟩) s _) z fun ai aj ak am w=>?_)
 obtain ⟨rfl,x⟩:=w
 refine I9 _ x<|Ag z<|Nt<|Sq<|Sr<|Vv (V.fa A1b z)<|Vv (V.I6 (k:=0) F6 z b.u z) ?_
 obtain ⟨an,y,H⟩:=bnd H
 refine To (O.C8 z (C0w y _) z fun ao ap aq ar A=>?_)
 obtain ⟨rfl,B⟩:=A
 refine I9 _ B<|Vv (V.not z)<|Nt<|T.cH H z (fun H=>?_) (fun H=>?_)
 ·refine Sr<|Ag z<|Nt<|T.ret<|Tr ?_
  obtain rfl:=Option.some.inj H
  exact T.F5 Tryz.results110 (Rv z) Li ⟨z,z⟩
 refine T.skip<|Th<|Sq<|Sr<|Mv z<|Vv (V.eq z z)<|Nt<|T.cH H z (fun H=>?_) (fun H=>?_)
 ·refine Sr<|Ag z<|Nt<|T.ret<|Tr ?_
  obtain rfl:=Option.some.inj H
  exact T.F5 Tryz.results110 (Rv z) Li ⟨z,z⟩
 refine T.skip<|Th<|Sq<|Sr<|Ag z<|Nt ?_
 obtain ⟨j,C,f⟩:=N7 H
 refine T.O5 (α:=Unit) [1] z (fun _u=>[]) (fun _u=>L) (fun _u hh=>j = (Sum.inl ())) ?_ ?_
 ·have H:=C
  refine Bl<|T.N8 (α:=Nat×Int) [1,3] z (fun ⟨c,d⟩=>[(4,.int .i64 d)]) (fun ⟨c,d⟩=>L) (fun ⟨c,d⟩ hh=>iter (A3d t1 r) c d = some j) (fun ⟨c,d⟩=>c) (FUEL,(0:Int)) ⟨z,trivial⟩ z H ?_
  rintro ⟨c,d⟩ au aw D
  obtain ⟨m,ax,rfl,H,e⟩:=I4 D
  refine T.norm [4,1,3] z<|T.fl ?_
  refine Sq<|Sr<|Mv z<|Vv (V.fa A0P z)<|Vv (V.I6 (k:=4) F4 z b.u z)<|Vv (V.P6 D6 z a)<|Vv (V.lt z z)<|Nt<|T.cH H z (fun H=>?_) (fun H=>?_)
  ·refine T.skip<|Th<|Sq<|Bl<|Sq<|T.O8 (t:=(.v 0 (.v 1 (.v 2 (.v 3 (.v 4 (.v 5 (.v 6 (.alt 7 (.g (.v 8 (.v 9 (.v 10 (.v 11 (.v 12 (.v 13 (.v 14 (.v 15 (.v 16 (.v 17 (.v 18 (.v 19 (.v 20 (.v 21 (.v 22 (.v 23 (.v 24 (.v 25 (.v 26 .done)))))))))))))))))))) .no))))))))) 28 0 0 rfl rfl I8 (by kernel_rfl) ?_
   refine Tv z (V.fa A0P z)<|Tv z (V.I6 (k:=4) F4 z b.u z)<|Tm z z ?_
   obtain ⟨ay,n,H⟩:=bnd H
   obtain ⟨aA,E,rfl⟩:=G9.at a n
   refine Tv z (V.ix D6 z z a (H6 n))<|Tv z (V.ld0 D9 z E.u z)<|Tm z z ?_
   obtain ⟨aB,G,H⟩:=bnd H
   refine Tv z (V.A0M z z G) ?_
   obtain ⟨aC,I,H⟩:=bnd H
   refine Tp z z (SX.two (XA.fr [] Lr z) (XA.fr [] Lr z)) (O.C8 z (A0i I _) z fun aD aE aG aI J=>?_) T.Q9
   obtain ⟨rfl,K⟩:=J
   refine I9 _ K<|T.M6 Li<|Tv z (V.not z)<|Tm z z<|T.bH 29 H z (fun H=>?_) (fun H=>?_)
   ·refine Tk z<|Tk z<|Tk z<|Tk z<|Tk z<|Tk z<|Tk z<|Tk z<|Tk z<|Tk z<|Tk z<|Tk z<|Tk z<|Tk z<|Tk z<|Tk z<|Tv z (V.M0 z z)<|T.R5 (SX.two (XA.fr [] Lr z) (XA.fr [] Lr z))<|Th<|Ct z<|Sr<|Ag z<|Nt<|T.ret<|Br<|Tr<|Tr<|have H:=D7 H e; Br<|Tr<|have H:=J5 H f; ?_
    obtain rfl:=Option.some.inj H
    exact T.F5 Tryz.results110 (Rv z) Li ⟨z,z⟩
   refine Tm z z<|Tv z (V.gt z z)<|Tm z z<|T.bH 32 H z (fun H=>?_) (fun H=>?_)
   ·refine Tv z (V.fa A0P z)<|Tv z (V.I6 (k:=4) F4 z b.u z)<|Tm z z ?_
    obtain ⟨aJ,o,H⟩:=bnd H
    obtain ⟨aK,M,rfl⟩:=G9.at a o
    refine Tv z (V.ix D6 z z a (H6 o))<|Tv z (V.ld0 D9 z M.u z)<|Tv z (V.fa A0P z)<|Tv z (V.I6 (k:=4) F4 z b.u z)<|Tm z z ?_
    obtain ⟨aM,N,H⟩:=bnd H
    refine Tv z (V.A0M z z N) ?_
    obtain ⟨aN,p,H⟩:=bnd H
    obtain ⟨aO,P,rfl⟩:=G9.at a p
    refine Tv z (V.ix D6 z z a (H6 p))<|Tv z (V.ld0 D9 z P.u z)<|Tv z (V.le z z)<|Tv z (V.M0 z z)<|Tv z (V.J9 z z)<|T.R5 (SX.two (XA.fr [] Lr z) (XA.fr [] Lr z))<|Th<|T.cH H z (fun H=>?_) (fun H=>?_)
    ·refine Sq<|T.norm [] z<|Rg<|Ag z<|Nt<|T.ret<|Br<|Tr<|Tr<|have H:=D7 H e; Br<|Tr<|have H:=J5 H f; ?_
     obtain rfl:=Option.some.inj H
     exact T.F5 Tryz.results110 (Rv z) Li ⟨z,z⟩
    refine T.skip<|Bn<|Th<|T.norm [1,3,4] z<|Rg<|Mv z ?_
    obtain ⟨S,U,H⟩:=bnd H
    refine Vv (V.L8 z z U)<|Ag z<|Nt<|T.again (m,S) Li (Nat.lt_succ_self _) (G8 H e) (A9.app ⟨z,trivial⟩ ⟨z,z,trivial⟩) z
   refine Tk z<|Tk z<|Tk z<|Tk z<|Tk z<|Tk z<|Tk z<|Tk z<|Tk z<|Tk z<|Tk z<|Tk z<|Tv z (V.J9 z z)<|Tv z (V.J9 z z)<|T.R5 (SX.two (XA.fr [] Lr z) (XA.fr [] Lr z))<|Th<|Cf z<|T.skip<|Bn<|Th<|Rg<|Mv z ?_
   obtain ⟨W,X,H⟩:=bnd H
   refine Vv (V.L8 z z X)<|Ag z<|Nt<|T.again (m,W) Li (Nat.lt_succ_self _) (G8 H e) (A9.app ⟨z,trivial⟩ ⟨z,z,trivial⟩) z
  refine T.exit<|Te<|Te<|have H:=D7 H e; Be<|Th<|T.met () Li H (A9.app trivial ⟨z,trivial⟩) z
 rintro _ aP aS Y
 have H:=J5 Y f
 refine T.norm [1] z<|T.fl ?_
 refine Sq<|Sr<|Vv (V.fa B0W z)<|Vv (V.I6 (k:=5) D9 z b.u z) ?_
 obtain ⟨aU,Z,H⟩:=bnd H
 refine To (O.C8 z (A0i Z _) z fun aV aW aX aY aa=>?_)
 obtain ⟨rfl,ab⟩:=aa
 refine I9 _ ab<|Vv (V.not z)<|Mv z<|T.bH 51 H z (fun H=>?_) (fun H=>?_)
 ·refine Sk<|Sk<|Sk<|Sk<|Vv (V.M0 z z)<|Nt<|Ct z<|Sr<|Ag z<|Nt<|T.ret<|Tr ?_
  obtain rfl:=Option.some.inj H
  exact T.F5 Tryz.results110 (Rv z) Li ⟨z,z⟩
 refine Vv (V.fa B0H z)<|Vv (V.I6 (k:=6) D9 z b.u z) ?_
 obtain ⟨aZ,ac,H⟩:=bnd H
 refine To (O.C8 z (A0i ac _) z fun a0 a1 a2 a3 ad=>?_)
 obtain ⟨rfl,ae⟩:=ad
 refine I9 _ ae<|Vv (V.not z)<|Vv (V.J9 z z)<|Nt<|T.cH H z (fun H=>?_) (fun H=>?_)
 ·refine Sr<|Ag z<|Nt<|T.ret<|Tr ?_
  obtain rfl:=Option.some.inj H
  exact T.F5 Tryz.results110 (Rv z) Li ⟨z,z⟩
 refine T.skip<|Th<|Sr<|Ag z<|Nt<|T.ret ?_
 obtain rfl:=Option.some.inj H
 exact T.F5 Tryz.results110 (Rv z) Li ⟨z,z⟩
theorem B5F {h:PH} {pv0:Value} {l1:List D5} (pr0:G9 E8 7 h pv0 l1) {r_0:Int} {r_1:Int} (H:A4o l1 = some (r_0,r_1)):∀ L,H5 Tryz.prog 48 [pv0] h (L) (fun v h' L'=>v = .tuple #[.int .i64 r_0,.int .i64 r_1]∧L' = L):=by
 intro L
 refine H5.enter Tryz.func48 z Tryz.ntmps48 z<|Sr<|Ag z<|Ag z<|Nt<|Sq<|Sr<|Mv z<|Vv (V.P6 O0 z pr0)<|Vv (V.gt z z)<|Nt<|T.cH H z (fun H=>?_) (fun H=>?_)
 ·refine Sr<|Ag z<|Ag z<|Nt<|T.ret<|Tr ?_
  obtain ⟨rfl,rfl⟩:=inj2 H
  exact T.F5 Tryz.results48 (RVs.cons (RV.tmp z) (Rv z)) Lr ⟨z,z⟩
 refine T.skip<|Th<|Sq<|Sr<|Ag z<|Nt ?_
 obtain ⟨j,s,g⟩:=N7 H
 refine T.O5 (α:=Unit) [] z (fun _u=>[]) (fun _u=>L) (fun _u hh=>j = (Sum.inl ())) ?_ ?_
 ·have H:=s
  refine Bl<|T.N8 (α:=Nat×Int) [0] z (fun ⟨c,a⟩=>[(4,.int .i64 a)]) (fun ⟨c,a⟩=>L) (fun ⟨c,a⟩ hh=>iter (A2O l1) c a = some j) (fun ⟨c,a⟩=>c) (FUEL,(0:Int)) ⟨z,trivial⟩ z H ?_
  rintro ⟨c,a⟩ w Y x
  obtain ⟨y,Z,rfl,H,f⟩:=I4 x
  refine T.norm [4,0] z<|T.fl ?_
  refine Sq<|Sr<|Mv z<|Mv z<|Vv (V.P6 O0 z pr0)<|Vv (V.lt z z)<|Nt<|T.cH H z (fun H=>?_) (fun H=>?_)
  ·refine T.skip<|Th<|Sq<|Bl<|Sq<|Sr<|Mv z<|Mv z ?_
   obtain ⟨b,m,H⟩:=bnd H
   obtain ⟨aa,A,⟨n,rfl,B⟩⟩:=G9.at pr0 m
   refine Vv (V.ix O0 rfl rfl pr0 (H6 m))<|Vv (V.Z9 rfl A.u (by exact U4)) ?_
   obtain ⟨ab,C,H⟩:=bnd H
   refine To (O.C8 z (B8Z (show E8 w [.string b.H7,.int .u8 b.N9,.int .i64 b.fA,.int .i64 b.fB,n,.int .i64 b.fX,.int .i64 b.fY] b from ⟨n,z,B.u⟩) C _) z fun ac ad ae af D=>?_)
   obtain ⟨rfl,E⟩:=D
   refine I9 _ E<|Ag z<|Nt<|Sr<|Mv z<|Vv (V.ne z z)<|Nt<|T.cH H z (fun H=>?_) (fun H=>?_)
   ·refine Sr<|Mv z<|Mv z<|Ag z<|Ag z<|Nt<|T.ret<|Tr<|Br<|Tr<|Tr<|have H:=D7 H f; Br<|Tr<|have H:=J5 H g; ?_
    obtain ⟨rfl,rfl⟩:=inj2 H
    exact T.F5 Tryz.results48 (RVs.cons (RV.tmp z) (Rv z)) Li ⟨z,z⟩
   refine T.skip<|Th<|Sr<|Ag z<|Nt<|T.A4J ?_
   obtain ⟨o,G,p⟩:=N7 H
   refine T.O5 (α:=Unit) [0,4] z (fun _u=>[]) (fun _u=>L) (fun _u hh=>o = (Sum.inl ())) ?_ ?_
   ·have H:=G
    refine Bl<|T.N8 (α:=Nat×Int) [0,4] z (fun ⟨d,e⟩=>[(6,.int .i64 e)]) (fun ⟨d,e⟩=>L) (fun ⟨d,e⟩ hh=>iter (A1L l1 a) d e = some o) (fun ⟨d,e⟩=>d) (FUEL,(0:Int)) ⟨z,trivial⟩ z H ?_
    rintro ⟨d,e⟩ ag ai I
    obtain ⟨J,aj,rfl,H,i⟩:=I4 I
    refine T.norm [6,0,4] z<|T.fl ?_
    refine Sq<|Sr<|Mv z<|Mv z<|Vv (V.lt z z)<|Nt<|T.cH H z (fun H=>?_) (fun H=>?_)
    ·refine T.skip<|Th<|Sq<|Bl<|Sq<|T.O8 (t:=(.v 0 (.v 1 (.v 2 (.v 3 (.v 4 (.v 5 (.v 6 (.v 7 (.v 8 (.v 9 (.v 10 .done)))))))))))) 12 0 0 rfl rfl I8 (by kernel_rfl) ?_
     refine Tm z z<|Tm z z ?_
     obtain ⟨ak,q,H⟩:=bnd H
     obtain ⟨am,K,⟨an,rfl,ao⟩⟩:=G9.at pr0 q
     refine Tv z (V.ix O0 z z pr0 (H6 q))<|Tv z (V.fa A1b z)<|Tv z (V.I6 (k:=0) F6 z K.u z)<|Tm z z<|Tm z z ?_
     obtain ⟨ap,r,H⟩:=bnd H
     obtain ⟨aq,M,⟨ar,rfl,au⟩⟩:=G9.at pr0 r
     refine Tv z (V.ix O0 z z pr0 (H6 r))<|Tv z (V.fa A1b z)<|Tv z (V.I6 (k:=0) F6 z M.u z)<|Tv z (V.seq z z)<|T.R5 (SX.two (XA.fr [] Lr z) (XA.fr [] Lr z))<|Th<|T.cH H z (fun H=>?_) (fun H=>?_)
     ·refine Sr<|Mv z<|Ag z<|Ag z<|Nt<|T.ret<|Br<|Tr<|Tr<|have H:=D7 H i; Br<|Tr<|have H:=J5 H p; Br<|Tr<|Tr<|have H:=D7 H f; Br<|Tr<|have H:=J5 H g; ?_
      obtain ⟨rfl,rfl⟩:=inj2 H
      exact T.F5 Tryz.results48 (RVs.cons (RV.tmp z) (Rv z)) Li ⟨z,z⟩
     refine T.skip<|Bn<|Th<|Rg<|Mv z ?_
     obtain ⟨N,P,H⟩:=bnd H
     refine Vv (V.L8 z z P)<|Ag z<|Nt<|T.again (J,N) Li (Nat.lt_succ_self _) (G8 H i) (A9.app ⟨z,trivial⟩ ⟨z,z,trivial⟩) z
    refine T.exit<|Te<|Te<|have H:=D7 H i; Be<|Th<|T.met () Li H (A9.app trivial ⟨z,z,trivial⟩) z
   rintro _ aw ax S
   have H:=J5 S p
   refine T.norm [0,4] z<|T.fl ?_
   refine Bn<|Th<|Rg<|Mv z ?_
   obtain ⟨U,W,H⟩:=bnd H
   refine Vv (V.L8 z z W)<|Ag z<|Nt<|T.again (y,U) Li (Nat.lt_succ_self _) (G8 H f) (A9.app ⟨z,trivial⟩ ⟨z,trivial⟩) z
  refine T.exit<|Te<|Te<|have H:=D7 H f; Be<|Th<|T.met () Li H (A9.app trivial trivial) z
 rintro _ ay aA X
 have H:=J5 X g
 refine T.norm [] z<|T.fl ?_
 refine Sr<|Ag z<|Ag z<|Nt<|T.ret ?_
 obtain ⟨rfl,rfl⟩:=inj2 H
 exact T.F5 Tryz.results48 (RVs.cons (RV.tmp z) (Rv z)) Li ⟨z,z⟩
theorem B8u {h:PH} {pv0:Value} {l1:List D5} (pr0:G9 E8 7 h pv0 l1) {t2:Int} {r_0:Int} (H:A7B l1 t2 = some r_0):∀ L,H5 Tryz.prog 113 [pv0,.int .i64 t2] h (L) (fun v h' L'=>v = .int .i64 r_0∧L' = L):=by
 intro L
 refine H5.enter Tryz.func113 z Tryz.ntmps113 z<|Sr<|Ag z<|Nt<|Sr<|Ag z<|Nt<|Sq<|Sr<|Ag z<|Nt ?_
 obtain ⟨f,k,m⟩:=N7 H
 refine T.O5 (α:=Int) [] z (fun e=>[(5,.int .i64 e)]) (fun e=>L) (fun e hh=>f = e) ?_ ?_
 ·have H:=k
  refine Bl<|T.N8 (α:=Nat×Int×Int) [0,1] z (fun ⟨c,a,d⟩=>[(5,.int .i64 a),(6,.int .i64 d)]) (fun ⟨c,a,d⟩=>L) (fun ⟨c,a,d⟩ hh=>iter (A2S l1 t2) c (a,d) = some f) (fun ⟨c,a,d⟩=>c) (FUEL,(0:Int),(0:Int)) ⟨z,z,trivial⟩ z H ?_
  rintro ⟨c,a,d⟩ n D o
  obtain ⟨p,E,rfl,H,g⟩:=I4 o
  refine T.norm [5,6,0,1] z<|T.fl ?_
  refine Sq<|Sr<|Mv z<|Mv z<|Vv (V.lt z z)<|Nt<|T.cH H z (fun H=>?_) (fun H=>?_)
  ·refine T.skip<|Th<|Sq<|Bl<|Rg<|Mv z<|Mv z<|Mv z ?_
   obtain ⟨b,i,H⟩:=bnd H
   obtain ⟨G,q,⟨j,rfl,r⟩⟩:=G9.at pr0 i
   refine Vv (V.ix O0 rfl rfl pr0 (H6 i))<|Vv (V.Z9 rfl q.u (by exact U4)) ?_
   obtain ⟨I,s,H⟩:=bnd H
   refine To (O.C8 z (A8n (show E8 n [.string b.H7,.int .u8 b.N9,.int .i64 b.fA,.int .i64 b.fB,j,.int .i64 b.fX,.int .i64 b.fY] b from ⟨j,z,r.u⟩) s _) z fun J K M N t=>?_)
   obtain ⟨rfl,w⟩:=t
   refine I9 _ w ?_
   obtain ⟨x,y,H⟩:=bnd H
   refine Vv (V.L8 z z y)<|Ag z<|Ni<|Bn<|Th<|Rg<|Mv z ?_
   obtain ⟨A,B,H⟩:=bnd H
   refine Vv (V.L8 z z B)<|Ag z<|Nt<|T.again (p,x,A) Li (Nat.lt_succ_self _) (G8 H g) (A9.app ⟨z,z,trivial⟩ ⟨z,z,trivial⟩) z
  refine T.exit<|Te<|Te<|have H:=D7 H g; Be<|Th<|T.met a Li H (A9.app ⟨z,trivial⟩ trivial) z
 rintro e P S C
 have H:=J5 C m
 refine T.norm [5] z<|T.fl ?_
 refine Sr<|Mv z<|Ag z<|Nt<|T.ret ?_
 obtain rfl:=Option.some.inj H
 exact T.F5 Tryz.results113 (Rv z) Li ⟨z,z⟩
theorem B7Y {h:PH} {pv0:Value} {l1:List D5} (pr0:G9 E8 7 h pv0 l1) {r_0:Int} (H:A7s l1 = some r_0):∀ L,H5 Tryz.prog 50 [pv0] h (L) (fun v h' L'=>v = .int .i64 r_0∧L' = L):=by
 intro L
 refine H5.enter Tryz.func50 z Tryz.ntmps50 z<|Sr<|Ag z<|Nt<|Sr<|Mv z<|Mv z<|Vv (V.P6 O0 z pr0) ?_
 obtain ⟨d,a,H⟩:=bnd H
 refine To (O.C8 z (B8u pr0 a _) z fun e f g i b=>?_)
 obtain ⟨rfl,c⟩:=b
 refine I9 _ c<|Ag z<|Nt<|T.ret ?_
 obtain rfl:=Option.some.inj H
 exact T.F5 Tryz.results50 (Rv z) Li ⟨z,z⟩
theorem A1t {h:PH} {s1:ByteArray} {r_0:Bool} (H:A1y s1 = some r_0):∀ L,H5 Tryz.prog 57 [.string s1] h (L) (fun v h' L'=>v = .bool r_0∧L' = L):=by
 intro L
 refine H5.enter Tryz.func57 z Tryz.ntmps57 z<|Sr<|Ag z<|Nt<|Sq<|Sq ?_
 obtain ⟨g,i,j⟩:=N7 H
 refine T.O5 (α:=Bool) [0] z (fun c=>[(11,.bool c)]) (fun c=>L) (fun c hh=>g = c) ?_ ?_
 ·have H:=i
  refine Rg<|Mv z<|Vv (V.A3T Tryz.underlying9 z)<|Vv (V.lt z z)<|Mv z<|T.bH 7 H z (fun H=>?_) (fun H=>?_)
  ·refine Sk<|Sk<|Sk<|Vv (V.M0 z z)<|Nt<|T.met true Lr (K4 H) (A9.app ⟨z,trivial⟩ ⟨z,trivial⟩) z
  refine Mv z<|Vv (V.A3T Tryz.underlying9 z)<|Vv (V.gt z z)<|Vv (V.J9 z z)<|Nt<|T.met (decide ((12:Int) < (s1.size:Int))) Lr (K4 H) (A9.app ⟨z,trivial⟩ ⟨z,trivial⟩) z
 rintro c u w k
 have H:=J5 k j
 refine T.norm [11,0] z<|T.fl ?_
 refine T.cH H z (fun H=>?_) (fun H=>?_)
 ·refine Sr<|Ag z<|Nt<|T.ret<|Tr ?_
  obtain rfl:=Option.some.inj H
  exact T.F5 Tryz.results57 (Rv z) Li ⟨z,z⟩
 refine T.skip<|Th<|Sq<|Sr<|Ag z<|Nt ?_
 obtain ⟨f,m,e⟩:=N7 H
 refine T.O5 (α:=Unit) [] z (fun _u=>[]) (fun _u=>L) (fun _u hh=>f = (Sum.inl ())) ?_ ?_
 ·have H:=m
  refine Bl<|T.N8 (α:=Nat×Int) [0] z (fun ⟨a,b⟩=>[(3,.int .i64 b)]) (fun ⟨a,b⟩=>L) (fun ⟨a,b⟩ hh=>iter (B1L s1) a b = some f) (fun ⟨a,b⟩=>a) (FUEL,(0:Int)) ⟨z,trivial⟩ z H ?_
  rintro ⟨a,b⟩ x y n
  obtain ⟨o,A,rfl,H,d⟩:=I4 n
  refine T.norm [3,0] z<|T.fl ?_
  refine Sq<|Sr<|Mv z<|Mv z<|Vv (V.A3T Tryz.underlying9 z)<|Vv (V.lt z z)<|Nt<|T.cH H z (fun H=>?_) (fun H=>?_)
  ·refine T.skip<|Th<|Sq<|Bl<|Sr<|Mv z<|Mv z ?_
   obtain ⟨B,p,H⟩:=bnd H
   refine Vv (V.B8j Tryz.underlying9 z z p)<|Vv (V.lt z z)<|Mv z<|T.bH 22 H z (fun H=>?_) (fun H=>?_)
   ·refine Sk<|Sk<|Sk<|Sk<|Vv (V.M0 z z)<|Nt<|Ct z<|Sr<|Ag z<|Nt<|T.ret<|Br<|Tr<|Tr<|have H:=D7 H d; Br<|Tr<|have H:=J5 H e; ?_
    obtain rfl:=Option.some.inj H
    exact T.F5 Tryz.results57 (Rv z) Li ⟨z,z⟩
   refine Mv z<|Mv z ?_
   obtain ⟨C,q,H⟩:=bnd H
   refine Vv (V.B8j Tryz.underlying9 z z q)<|Vv (V.gt z z)<|Vv (V.J9 z z)<|Nt<|T.cH H z (fun H=>?_) (fun H=>?_)
   ·refine Sr<|Ag z<|Nt<|T.ret<|Br<|Tr<|Tr<|have H:=D7 H d; Br<|Tr<|have H:=J5 H e; ?_
    obtain rfl:=Option.some.inj H
    exact T.F5 Tryz.results57 (Rv z) Li ⟨z,z⟩
   refine T.skip<|Bn<|Th<|Rg<|Mv z ?_
   obtain ⟨r,s,H⟩:=bnd H
   refine Vv (V.L8 z z s)<|Ag z<|Nt<|T.again (o,r) Li (Nat.lt_succ_self _) (G8 H d) (A9.app ⟨z,trivial⟩ ⟨z,trivial⟩) z
  refine T.exit<|Te<|Te<|have H:=D7 H d; Be<|Th<|T.met () Li H (A9.app trivial trivial) z
 rintro _ D E t
 have H:=J5 t e
 refine T.norm [] z<|T.fl ?_
 refine Sr<|Ag z<|Nt<|T.ret ?_
 obtain rfl:=Option.some.inj H
 exact T.F5 Tryz.results57 (Rv z) Li ⟨z,z⟩
theorem B8O {h:PH} {pc0:List Value} {g1:E5} (pr0:G7 h pc0 g1) {r_0:Int} (H:A7z g1 = some r_0):∀ L,H5 Tryz.prog 111 [.agg pc0.toArray] h (L) (fun v h' L'=>v = .int .i64 r_0∧L' = L):=by
 intro L
 obtain ⟨aP,rfl,b⟩:=pr0
 refine H5.enter Tryz.func111 z Tryz.ntmps111 z<|Sr<|To (O.V3 z z z fun aS aU aV a=>Ag z<|Nt<|Sq<|Sq ?_)
 obtain ⟨s,w,x⟩:=N7 H
 refine T.O5 (α:=Bool) [1] z (fun e=>[(40,.bool e)]) (fun e=>L) (fun e hh=>s = e) ?_ ?_
 ·have H:=w
  refine Rg<|Vv (V.fa A0a z)<|Vv (V.I6 (k:=0) F6 z a z) ?_
  obtain ⟨aW,y,H⟩:=bnd H
  refine To (O.C8 z (A1t y _) z fun aX aY aZ a0 A=>?_)
  obtain ⟨rfl,B⟩:=A
  refine I9 _ B<|Vv (V.not z)<|Mv z<|T.bH 8 H z (fun H=>?_) (fun H=>?_)
  ·refine Sk<|Sk<|Sk<|Sk<|Sk<|Sk<|Sk<|Sk<|Sk<|Vv (V.M0 z z)<|Mv z<|Sk<|Sk<|Sk<|Sk<|Sk<|Sk<|Sk<|Sk<|Sk<|Vv (V.M0 z z)<|Mv z<|Sk<|Sk<|Sk<|Sk<|Sk<|Sk<|Sk<|Sk<|Sk<|Vv (V.M0 z z)<|Nt<|T.met true Li (K4 H) (A9.app ⟨z,trivial⟩ ⟨z,trivial⟩) z
  refine Vv (V.fa A9e z)<|Vv (V.I6 (k:=1) F6 z a.u z)<|Vv (V.sne z z)<|Mv z<|T.bH 12 H z (fun H=>?_) (fun H=>?_)
  ·refine Vv (V.fa A9e z)<|Vv (V.I6 (k:=1) F6 z a.u z) ?_
   obtain ⟨a1,C,H⟩:=bnd H
   refine To (O.C8 z (A1t C _) z fun a2 a3 a4 a5 D=>?_)
   obtain ⟨rfl,E⟩:=D
   refine I9 _ E<|Vv (V.not z)<|Vv (V.M0 z z)<|Vv (V.J9 z z)<|Mv z<|T.bH 19 H z (fun H=>?_) (fun H=>?_)
   ·refine Sk<|Sk<|Sk<|Sk<|Sk<|Sk<|Sk<|Sk<|Sk<|Vv (V.M0 z z)<|Mv z<|Sk<|Sk<|Sk<|Sk<|Sk<|Sk<|Sk<|Sk<|Sk<|Vv (V.M0 z z)<|Nt<|T.met true Li (K4 H) (A9.app ⟨z,trivial⟩ ⟨z,trivial⟩) z
   refine Vv (V.fa A4w z)<|Vv (V.I6 (k:=2) F6 z a.u z)<|Vv (V.sne z z)<|Mv z<|T.bH 23 H z (fun H=>?_) (fun H=>?_)
   ·refine Vv (V.fa A4w z)<|Vv (V.I6 (k:=2) F6 z a.u z) ?_
    obtain ⟨a6,G,H⟩:=bnd H
    refine To (O.C8 z (A1t G _) z fun a7 a8 a9 ah I=>?_)
    obtain ⟨rfl,J⟩:=I
    refine I9 _ J<|Vv (V.not z)<|Vv (V.M0 z z)<|Vv (V.J9 z z)<|Mv z<|T.bH 30 H z (fun H=>?_) (fun H=>?_)
    ·refine Sk<|Sk<|Sk<|Sk<|Sk<|Sk<|Sk<|Sk<|Sk<|Vv (V.M0 z z)<|Nt<|T.met true Li (K4 H) (A9.app ⟨z,trivial⟩ ⟨z,trivial⟩) z
    refine Vv (V.fa A1l z)<|Vv (V.I6 (k:=5) F6 z a.u z)<|Vv (V.sne z z)<|Mv z<|T.bH 34 H z (fun H=>?_) (fun H=>?_)
    ·refine Vv (V.fa A1l z)<|Vv (V.I6 (k:=5) F6 z a.u z) ?_
     obtain ⟨K,M,H⟩:=bnd H
     refine To (O.C8 z (A1t M _) z fun al av az ba N=>?_)
     obtain ⟨rfl,P⟩:=N
     refine I9 _ P<|Vv (V.not z)<|Vv (V.M0 z z)<|Vv (V.J9 z z)<|Nt<|T.met (!K) Li (K4 H) (A9.app ⟨z,trivial⟩ ⟨z,trivial⟩) z
    refine Sk<|Sk<|Sk<|Sk<|Vv (V.J9 z z)<|Vv (V.J9 z z)<|Nt<|T.met false Li (K4 H) (A9.app ⟨z,trivial⟩ ⟨z,trivial⟩) z
   refine Sk<|Sk<|Sk<|Sk<|Vv (V.J9 z z)<|Vv (V.J9 z z)<|Mv z<|Vv (V.fa A1l z)<|Vv (V.I6 (k:=5) F6 z a.u z)<|Vv (V.sne z z)<|Mv z<|T.bH 34 H z (fun H=>?_) (fun H=>?_)
   ·refine Vv (V.fa A1l z)<|Vv (V.I6 (k:=5) F6 z a.u z) ?_
    obtain ⟨S,U,H⟩:=bnd H
    refine To (O.C8 z (A1t U _) z fun bb bc bd be W=>?_)
    obtain ⟨rfl,X⟩:=W
    refine I9 _ X<|Vv (V.not z)<|Vv (V.M0 z z)<|Vv (V.J9 z z)<|Nt<|T.met (!S) Li (K4 H) (A9.app ⟨z,trivial⟩ ⟨z,trivial⟩) z
   refine Sk<|Sk<|Sk<|Sk<|Vv (V.J9 z z)<|Vv (V.J9 z z)<|Nt<|T.met false Li (K4 H) (A9.app ⟨z,trivial⟩ ⟨z,trivial⟩) z
  refine Sk<|Sk<|Sk<|Sk<|Vv (V.J9 z z)<|Vv (V.J9 z z)<|Mv z<|Vv (V.fa A4w z)<|Vv (V.I6 (k:=2) F6 z a.u z)<|Vv (V.sne z z)<|Mv z<|T.bH 23 H z (fun H=>?_) (fun H=>?_)
  ·refine Vv (V.fa A4w z)<|Vv (V.I6 (k:=2) F6 z a.u z) ?_
   obtain ⟨bf,Y,H⟩:=bnd H
   refine To (O.C8 z (A1t Y _) z fun bg bi bj bk Z=>?_)
   obtain ⟨rfl,aa⟩:=Z
   refine I9 _ aa<|Vv (V.not z)<|Vv (V.M0 z z)<|Vv (V.J9 z z)<|Mv z<|T.bH 30 H z (fun H=>?_) (fun H=>?_)
   ·refine Sk<|Sk<|Sk<|Sk<|Sk<|Sk<|Sk<|Sk<|Sk<|Vv (V.M0 z z)<|Nt<|T.met true Li (K4 H) (A9.app ⟨z,trivial⟩ ⟨z,trivial⟩) z
   refine Vv (V.fa A1l z)<|Vv (V.I6 (k:=5) F6 z a.u z)<|Vv (V.sne z z)<|Mv z<|T.bH 34 H z (fun H=>?_) (fun H=>?_)
   ·refine Vv (V.fa A1l z)<|Vv (V.I6 (k:=5) F6 z a.u z) ?_
    obtain ⟨ab,ac,H⟩:=bnd H
    refine To (O.C8 z (A1t ac _) z fun bm bn bo bp ad=>?_)
    obtain ⟨rfl,ae⟩:=ad
    refine I9 _ ae<|Vv (V.not z)<|Vv (V.M0 z z)<|Vv (V.J9 z z)<|Nt<|T.met (!ab) Li (K4 H) (A9.app ⟨z,trivial⟩ ⟨z,trivial⟩) z
   refine Sk<|Sk<|Sk<|Sk<|Vv (V.J9 z z)<|Vv (V.J9 z z)<|Nt<|T.met false Li (K4 H) (A9.app ⟨z,trivial⟩ ⟨z,trivial⟩) z
  refine Sk<|Sk<|Sk<|Sk<|Vv (V.J9 z z)<|Vv (V.J9 z z)<|Mv z<|Vv (V.fa A1l z)<|Vv (V.I6 (k:=5) F6 z a.u z)<|Vv (V.sne z z)<|Mv z<|T.bH 34 H z (fun H=>?_) (fun H=>?_)
  ·refine Vv (V.fa A1l z)<|Vv (V.I6 (k:=5) F6 z a.u z) ?_
   obtain ⟨af,ag,H⟩:=bnd H
   refine To (O.C8 z (A1t ag _) z fun bq br bs bt ai=>?_)
   obtain ⟨rfl,aj⟩:=ai
   refine I9 _ aj<|Vv (V.not z)<|Vv (V.M0 z z)<|Vv (V.J9 z z)<|Nt<|T.met (!af) Li (K4 H) (A9.app ⟨z,trivial⟩ ⟨z,trivial⟩) z
  refine Sk<|Sk<|Sk<|Sk<|Vv (V.J9 z z)<|Vv (V.J9 z z)<|Nt<|T.met false Li (K4 H) (A9.app ⟨z,trivial⟩ ⟨z,trivial⟩) z
 rintro e bu bw ak
 have H:=J5 ak x
 refine T.norm [40,1] z<|T.fl ?_
 refine T.cH H z (fun H=>?_) (fun H=>?_)
 ·refine Sr<|Ag z<|Nt<|T.ret<|Tr ?_
  obtain rfl:=Option.some.inj H
  exact T.F5 Tryz.results111 (Rv z) Li ⟨z,z⟩
 refine T.skip<|Th<|Sq<|Sq ?_
 obtain ⟨am,an,ao⟩:=N7 H
 refine T.O5 (α:=Bool) [1] z (fun f=>[(48,.bool f)]) (fun f=>L) (fun f hh=>am = f) ?_ ?_
 ·have H:=an
  refine Rg<|Vv (V.fa A5Y z)<|Vv (V.I6 (k:=3) D9 z a.u z)<|Vv (V.lt z z)<|Mv z<|T.bH 44 H z (fun H=>?_) (fun H=>?_)
  ·refine Sk<|Sk<|Sk<|Vv (V.M0 z z)<|Nt<|T.met true Lr (K4 H) (A9.app ⟨z,trivial⟩ ⟨z,trivial⟩) z
  refine Vv (V.fa A5Y z)<|Vv (V.I6 (k:=3) D9 z a.u z)<|Vv (V.gt z z)<|Vv (V.J9 z z)<|Nt<|T.met (decide ((9999:Int) < g1.Q6)) Lr (K4 H) (A9.app ⟨z,trivial⟩ ⟨z,trivial⟩) z
 rintro f bx bA ap
 have H:=J5 ap ao
 refine T.norm [48,1] z<|T.fl ?_
 refine T.cH H z (fun H=>?_) (fun H=>?_)
 ·refine Sr<|Ag z<|Nt<|T.ret<|Tr ?_
  obtain rfl:=Option.some.inj H
  exact T.F5 Tryz.results111 (Rv z) Li ⟨z,z⟩
 refine T.skip<|Th<|Sq<|Sq ?_
 obtain ⟨aq,ar,au⟩:=N7 H
 refine T.O5 (α:=Bool) [1] z (fun i=>[(61,.bool i)]) (fun i=>L) (fun i hh=>aq = i) ?_ ?_
 ·have H:=ar
  refine Rg<|Vv (V.fa A4x z)<|Vv (V.I6 (k:=4) D9 z a.u z)<|Vv (V.ne z z)<|Mv z<|T.bH 52 H z (fun H=>?_) (fun H=>?_)
  ·refine Vv (V.fa A4x z)<|Vv (V.I6 (k:=4) D9 z a.u z)<|Vv (V.ne z z)<|Vv (V.M0 z z)<|Mv z<|T.bH 57 H z (fun H=>?_) (fun H=>?_)
   ·refine Vv (V.fa A4x z)<|Vv (V.I6 (k:=4) D9 z a.u z)<|Vv (V.ne z z)<|Vv (V.M0 z z)<|Nt<|T.met (!decide (g1.U5 = (2:Int))) Lr (K4 H) (A9.app ⟨z,trivial⟩ ⟨z,trivial⟩) z
   refine Sk<|Sk<|Sk<|Vv (V.J9 z z)<|Nt<|T.met false Lr (K4 H) (A9.app ⟨z,trivial⟩ ⟨z,trivial⟩) z
  refine Sk<|Sk<|Sk<|Vv (V.J9 z z)<|Mv z<|Sk<|Sk<|Sk<|Vv (V.J9 z z)<|Nt<|T.met false Lr (K4 H) (A9.app ⟨z,trivial⟩ ⟨z,trivial⟩) z
 rintro i bB bC aw
 have H:=J5 aw au
 refine T.norm [61,1] z<|T.fl ?_
 refine T.cH H z (fun H=>?_) (fun H=>?_)
 ·refine Sr<|Ag z<|Nt<|T.ret<|Tr ?_
  obtain rfl:=Option.some.inj H
  exact T.F5 Tryz.results111 (Rv z) Li ⟨z,z⟩
 refine T.skip<|Th<|Sq<|Sr<|Vv (V.fa V4 z)<|Vv (V.I6 (k:=8) Z4 z a.u z)<|Vv (V.P6 A0U z b)<|Vv (V.gt z z)<|Nt<|T.cH H z (fun H=>?_) (fun H=>?_)
 ·refine Sr<|Ag z<|Nt<|T.ret<|Tr ?_
  obtain rfl:=Option.some.inj H
  exact T.F5 Tryz.results111 (Rv z) Li ⟨z,z⟩
 refine T.skip<|Th<|Sq<|Sr<|Ag z<|Nt ?_
 obtain ⟨n,ax,m⟩:=N7 H
 refine T.O5 (α:=Unit) [] z (fun _u=>[]) (fun _u=>L) (fun _u hh=>n = (Sum.inl ())) ?_ ?_
 ·have H:=ax
  refine Bl<|T.N8 (α:=Nat×Int) [1] z (fun ⟨c,d⟩=>[(3,.int .i64 d)]) (fun ⟨c,d⟩=>L) (fun ⟨c,d⟩ hh=>iter (A2T g1) c d = some n) (fun ⟨c,d⟩=>c) (FUEL,(0:Int)) ⟨z,trivial⟩ z H ?_
  rintro ⟨c,d⟩ bD bE ay
  obtain ⟨o,bG,rfl,H,j⟩:=I4 ay
  refine T.norm [3,1] z<|T.fl ?_
  refine Sq<|Sr<|Mv z<|Vv (V.fa V4 z)<|Vv (V.I6 (k:=8) Z4 z a.u z)<|Vv (V.P6 A0U z b)<|Vv (V.lt z z)<|Nt<|T.cH H z (fun H=>?_) (fun H=>?_)
  ·refine T.skip<|Th<|Sq<|Bl<|Sq<|T.O8 (t:=(.v 0 (.v 1 (.v 2 (.v 3 (.v 4 (.alt 5 (.g (.v 6 (.v 7 (.v 8 (.v 9 (.v 10 (.v 11 (.v 12 (.v 13 (.v 14 (.v 15 (.v 16 (.v 17 (.v 18 (.v 19 (.v 20 (.v 21 (.v 22 (.v 23 (.v 24 .done)))))))))))))))))))) .no))))))) 26 0 0 rfl rfl I8 (by kernel_rfl) ?_
   refine Tv z (V.fa V4 z)<|Tv z (V.I6 (k:=8) Z4 z a.u z)<|Tm z z ?_
   obtain ⟨bI,p,H⟩:=bnd H
   obtain ⟨bJ,aA,rfl⟩:=G9.at b p
   refine Tv z (V.ix A0U z z b (H6 p))<|Tv z (V.ld0 F6 z aA.u z) ?_
   obtain ⟨bK,aB,H⟩:=bnd H
   refine Tp z z (SX.two (XA.fr [] Lr z) (XA.fr [] Lr z)) (O.C8 z (A1t aB _) z fun bM bN bO bP aC=>?_) T.Q9
   obtain ⟨rfl,aD⟩:=aC
   refine I9 _ aD<|T.M6 Li<|Tv z (V.not z)<|Tm z z<|T.bH 80 H z (fun H=>?_) (fun H=>?_)
   ·refine Tk z<|Tk z<|Tk z<|Tk z<|Tk z<|Tk z<|Tk z<|Tk z<|Tk z<|Tk z<|Tk z<|Tk z<|Tk z<|Tk z<|Tk z<|Tk z<|Tv z (V.M0 z z)<|T.R5 (SX.two (XA.fr [] Lr z) (XA.fr [] Lr z))<|Th<|Ct z<|Sr<|Ag z<|Nt<|T.ret<|Br<|Tr<|Tr<|have H:=D7 H j; Br<|Tr<|have H:=J5 H m; ?_
    obtain rfl:=Option.some.inj H
    exact T.F5 Tryz.results111 (Rv z) Li ⟨z,z⟩
   refine Tm z z<|Tv z (V.gt z z)<|Tm z z<|T.bH 83 H z (fun H=>?_) (fun H=>?_)
   ·refine Tv z (V.fa V4 z)<|Tv z (V.I6 (k:=8) Z4 z a.u z)<|Tm z z ?_
    obtain ⟨bS,q,H⟩:=bnd H
    obtain ⟨bU,aE,rfl⟩:=G9.at b q
    refine Tv z (V.ix A0U z z b (H6 q))<|Tv z (V.ld0 F6 z aE.u z)<|Tv z (V.fa V4 z)<|Tv z (V.I6 (k:=8) Z4 z a.u z)<|Tm z z ?_
    obtain ⟨bV,aG,H⟩:=bnd H
    refine Tv z (V.A0M z z aG) ?_
    obtain ⟨bW,r,H⟩:=bnd H
    obtain ⟨bX,aI,rfl⟩:=G9.at b r
    refine Tv z (V.ix A0U z z b (H6 r))<|Tv z (V.ld0 F6 z aI.u z)<|Tv z (V.sle z z)<|Tv z (V.M0 z z)<|Tv z (V.J9 z z)<|T.R5 (SX.two (XA.fr [] Lr z) (XA.fr [] Lr z))<|Th<|T.cH H z (fun H=>?_) (fun H=>?_)
    ·refine Sr<|Ag z<|Nt<|T.ret<|Br<|Tr<|Tr<|have H:=D7 H j; Br<|Tr<|have H:=J5 H m; ?_
     obtain rfl:=Option.some.inj H
     exact T.F5 Tryz.results111 (Rv z) Li ⟨z,z⟩
    refine T.skip<|Bn<|Th<|Rg<|Mv z ?_
    obtain ⟨aJ,aK,H⟩:=bnd H
    refine Vv (V.L8 z z aK)<|Ag z<|Nt<|T.again (o,aJ) Li (Nat.lt_succ_self _) (G8 H j) (A9.app ⟨z,trivial⟩ ⟨z,trivial⟩) z
   refine Tk z<|Tk z<|Tk z<|Tk z<|Tk z<|Tk z<|Tk z<|Tk z<|Tk z<|Tk z<|Tk z<|Tk z<|Tv z (V.J9 z z)<|Tv z (V.J9 z z)<|T.R5 (SX.two (XA.fr [] Lr z) (XA.fr [] Lr z))<|Th<|Cf z<|T.skip<|Bn<|Th<|Rg<|Mv z ?_
   obtain ⟨aM,aN,H⟩:=bnd H
   refine Vv (V.L8 z z aN)<|Ag z<|Nt<|T.again (o,aM) Li (Nat.lt_succ_self _) (G8 H j) (A9.app ⟨z,trivial⟩ ⟨z,trivial⟩) z
  refine T.exit<|Te<|Te<|have H:=D7 H j; Be<|Th<|T.met () Li H (A9.app trivial trivial) z
 rintro _ bY bZ aO
 have H:=J5 aO m
 refine T.norm [] z<|T.fl ?_
 refine Sr<|Ag z<|Nt<|T.ret ?_
 obtain rfl:=Option.some.inj H
 exact T.F5 Tryz.results111 (Rv z) Li ⟨z,z⟩
theorem A2n {h:PH} {pv0:Value} {l1:List E5} (pr0:G9 G7 9 h pv0 l1) {name2:ByteArray} {r_0:Int} (H:A2A l1 name2 = some r_0):∀ L,H5 Tryz.prog 56 [pv0,.string name2] h (L) (fun v h' L'=>v = .int .i64 r_0∧L' = L):=by
 intro L
 refine H5.enter Tryz.func56 z Tryz.ntmps56 z<|Sr<|Ag z<|Nt<|Sq<|Sr<|Ag z<|Nt ?_
 obtain ⟨d,g,e⟩:=N7 H
 refine T.O5 (α:=Unit) [] z (fun _u=>[]) (fun _u=>L) (fun _u hh=>d = (Sum.inl ())) ?_ ?_
 ·have H:=g
  refine Bl<|T.N8 (α:=Nat×Int) [0,1] z (fun ⟨a,b⟩=>[(5,.int .i64 b)]) (fun ⟨a,b⟩=>L) (fun ⟨a,b⟩ hh=>iter (A7E l1 name2) a b = some d) (fun ⟨a,b⟩=>a) (FUEL,(0:Int)) ⟨z,trivial⟩ z H ?_
  rintro ⟨a,b⟩ q r i
  obtain ⟨j,s,rfl,H,c⟩:=I4 i
  refine T.norm [5,0,1] z<|T.fl ?_
  refine Sq<|Sr<|Mv z<|Mv z<|Vv (V.P6 O9 z pr0)<|Vv (V.lt z z)<|Nt<|T.cH H z (fun H=>?_) (fun H=>?_)
  ·refine T.skip<|Th<|Sq<|Bl<|Sr<|Mv z<|Mv z ?_
   obtain ⟨t,f,H⟩:=bnd H
   obtain ⟨w,m,⟨x,rfl,y⟩⟩:=G9.at pr0 f
   refine Vv (V.ix O9 z z pr0 (H6 f))<|Vv (V.fa A0a z)<|Vv (V.I6 (k:=0) F6 z m.u z)<|Mv z<|Vv (V.seq z z)<|Nt<|T.cH H z (fun H=>?_) (fun H=>?_)
   ·refine Sr<|Mv z<|Ag z<|Nt<|T.ret<|Br<|Tr<|Tr<|have H:=D7 H c; Br<|Tr<|have H:=J5 H e; ?_
    obtain rfl:=Option.some.inj H
    exact T.F5 Tryz.results56 (Rv z) Li ⟨z,z⟩
   refine T.skip<|Bn<|Th<|Rg<|Mv z ?_
   obtain ⟨n,o,H⟩:=bnd H
   refine Vv (V.L8 z z o)<|Ag z<|Nt<|T.again (j,n) Li (Nat.lt_succ_self _) (G8 H c) (A9.app ⟨z,trivial⟩ ⟨z,z,trivial⟩) z
  refine T.exit<|Te<|Te<|have H:=D7 H c; Be<|Th<|T.met () Li H (A9.app trivial trivial) z
 rintro _ A B p
 have H:=J5 p e
 refine T.norm [] z<|T.fl ?_
 refine Sr<|Ag z<|Nt<|T.ret ?_
 obtain rfl:=Option.some.inj H
 exact T.F5 Tryz.results56 (Rv z) Li ⟨z,z⟩
theorem A5M {h:PH} {pc0:List Value} {a1:G6} (pr0:I1 h pc0 a1) {pc1:List Value} {b2:G6} (pr1:I1 h pc1 b2) {r_0:Bool} (H:A2u a1 b2 = some r_0):∀ L,H5 Tryz.prog 112 [.agg pc0.toArray,.agg pc1.toArray] h (L) (fun v h' L'=>v = .bool r_0∧L' = L):=by
 intro L
 obtain rfl:=pr0
 obtain rfl:=pr1
 refine H5.enter Tryz.func112 z Tryz.ntmps112 z<|Sr<|To (O.V3 z z z fun c d e a=>To (O.V3 z z z fun f g i b=>Ag z<|Nt<|Sr<|Vv (V.fa A0s z)<|Vv (V.I6 (k:=0) F6 z a.u z)<|Vv (V.fa A0s z)<|Vv (V.I6 (k:=0) F6 z b z)<|Vv (V.slt z z)<|Mv z<|T.bH 10 H z (fun H=>?_) (fun H=>?_)))
 ·refine Sk<|Sk<|Sk<|Sk<|Sk<|Sk<|Sk<|Sk<|Sk<|Sk<|Sk<|Sk<|Vv (V.M0 z z)<|Ag z<|Nt<|T.ret ?_
  obtain rfl:=Option.some.inj H
  exact T.F5 Tryz.results112 (Rv z) Li ⟨z,z⟩
 refine Vv (V.fa A0s z)<|Vv (V.I6 (k:=0) F6 z a.u z)<|Vv (V.fa A0s z)<|Vv (V.I6 (k:=0) F6 z b z)<|Vv (V.seq z z)<|Mv z<|T.bH 16 H z (fun H=>?_) (fun H=>?_)
 ·refine Vv (V.fa A0W z)<|Vv (V.I6 (k:=1) F6 z a.u z)<|Vv (V.fa A0W z)<|Vv (V.I6 (k:=1) F6 z b z)<|Vv (V.slt z z)<|Vv (V.M0 z z)<|Vv (V.J9 z z)<|Ag z<|Nt<|T.ret ?_
  obtain rfl:=Option.some.inj H
  exact T.F5 Tryz.results112 (Rv z) Li ⟨z,z⟩
 refine Sk<|Sk<|Sk<|Sk<|Sk<|Vv (V.J9 z z)<|Vv (V.J9 z z)<|Ag z<|Nt<|T.ret ?_
 obtain rfl:=Option.some.inj H
 exact T.F5 Tryz.results112 (Rv z) Li ⟨z,z⟩
theorem B4A {h:PH} {pc0:List Value} {r1:V6} (pr0:A2X h pc0 r1) {r_0:Int} {r_1:Int} (H:A3E r1 = some (r_0,r_1)):∀ L,H5 Tryz.prog 49 [.agg pc0.toArray] h (L) (fun v h' L'=>v = .tuple #[.int .i64 r_0,.int .i64 r_1]∧L' = L):=by
 intro L
 obtain ⟨bi,bj,rfl,d,e⟩:=pr0
 refine H5.enter Tryz.func49 z Tryz.ntmps49 z<|Sr<|To (O.V3 z z z fun bk bm bn b=>Ag z<|Ag z<|Nt<|Sq<|Sr<|Ag z<|Nt ?_)
 obtain ⟨E,Y,y⟩:=N7 H
 refine T.O5 (α:=Unit) [1] z (fun _u=>[]) (fun _u=>L) (fun _u hh=>E = (Sum.inl ())) ?_ ?_
 ·have H:=Y
  refine Bl<|T.N8 (α:=Nat×Int) [1] z (fun ⟨n,o⟩=>[(4,.int .i64 o)]) (fun ⟨n,o⟩=>L) (fun ⟨n,o⟩ hh=>iter (A1z r1) n o = some E) (fun ⟨n,o⟩=>n) (FUEL,(0:Int)) ⟨z,trivial⟩ z H ?_
  rintro ⟨n,o⟩ Z bo aa
  obtain ⟨ab,bp,rfl,H,s⟩:=I4 aa
  refine T.norm [4,1] z<|T.fl ?_
  refine Sq<|Sr<|Mv z<|Vv (V.fa A0H z)<|Vv (V.I6 (k:=0) J3 z b.u z)<|Vv (V.P6 O9 z d)<|Vv (V.lt z z)<|Nt<|T.cH H z (fun H=>?_) (fun H=>?_)
  ·refine T.skip<|Th<|Sq<|Bl<|Sq<|Sr<|Vv (V.fa A0H z)<|Vv (V.I6 (k:=0) J3 z b.u z)<|Mv z ?_
   obtain ⟨f,G,H⟩:=bnd H
   obtain ⟨bq,ac,⟨I,rfl,ad⟩⟩:=G9.at d G
   refine Vv (V.ix O9 rfl rfl d (H6 G))<|Vv (V.Z9 rfl ac.u (by exact A0p)) ?_
   obtain ⟨br,ae,H⟩:=bnd H
   refine To (O.C8 z (B8O (show G7 Z [.string f.H7,.string f.Y0,.string f.Q5,.int .i64 f.Q6,.int .i64 f.U5,.string f.V8,.bool f.A0e,.bool f.Q3,I] f from ⟨I,z,ad.u⟩) ae _) z fun bs af bt bu ag=>?_)
   obtain ⟨rfl,ai⟩:=ag
   refine I9 _ ai<|Ag z<|Nt<|Sr<|Mv z<|Vv (V.ne z z)<|Nt<|T.cH H z (fun H=>?_) (fun H=>?_)
   ·refine Sr<|Mv z<|Mv z<|Ag z<|Ag z<|Nt<|T.ret<|Tr<|Br<|Tr<|Tr<|have H:=D7 H s; Br<|Tr<|have H:=J5 H y; ?_
    obtain ⟨rfl,rfl⟩:=inj2 H
    exact T.F5 Tryz.results49 (RVs.cons (RV.tmp z) (Rv z)) Li ⟨z,z⟩
   refine T.skip<|Th<|Sq<|Sq<|T.O8 (t:=(.v 0 (.v 1 (.v 2 (.v 3 (.v 4 (.v 5 (.v 6 (.v 7 (.v 8 (.v 9 (.alt 10 (.g (.v 11 .done)) .no)))))))))))) 13 0 0 rfl rfl I8 (by kernel_rfl) ?_
   refine Tv z (V.fa A0H z)<|Tv z (V.I6 (k:=0) J3 z b.u z)<|Tm z z ?_
   obtain ⟨aj,J,H⟩:=bnd H
   refine T.C8h z z O9 z d.u (.inl ⟨z,z⟩) (.inr ⟨_,_,z,z⟩) (A4m J).2 z Calm.i fun ak am bw=>?_
   have an:G9 G7 9 af ak aj:=by rw [(A4m J).1]; exact am
   refine Tv z (V.fa A0H z)<|Tv z (V.I6 (k:=0) J3 z b.u z)<|Tm z z ?_
   obtain ⟨bx,K,H⟩:=bnd H
   obtain ⟨bA,ao,⟨bB,rfl,bC⟩⟩:=G9.at d K
   refine Tv z (V.ix O9 z z d (H6 K))<|Tv z (V.fa A0a z)<|Tv z (V.I6 (k:=0) F6 z ao.u z) ?_
   obtain ⟨bD,ap,H⟩:=bnd H
   refine Tp z z (SX.two (XA.fr [] Lr z) (XA.fr [] Lr z)) (O.C8 z (A2n an ap _) z fun bE bG bI bJ aq=>?_) T.Q9
   obtain ⟨rfl,ar⟩:=aq
   refine I9 _ ar<|T.M6 Li<|Tv z (V.ge z z)<|T.R5 (SX.two (XA.fr [] Lr z) (XA.fr [] Lr z))<|Th<|T.cH H z (fun H=>?_) (fun H=>?_)
   ·refine Sr<|Mv z<|Ag z<|Ag z<|Nt<|T.ret<|Tr<|Br<|Tr<|Tr<|have H:=D7 H s; Br<|Tr<|have H:=J5 H y; ?_
    obtain ⟨rfl,rfl⟩:=inj2 H
    exact T.F5 Tryz.results49 (RVs.cons (RV.tmp z) (Rv z)) Li ⟨z,z⟩
   refine T.skip<|Th<|Sr<|Mv z<|Vv (V.ge z z)<|Nt<|T.cH H z (fun H=>?_) (fun H=>?_)
   ·refine Sr<|Mv z<|Ag z<|Ag z<|Nt<|T.ret<|Br<|Tr<|Tr<|have H:=D7 H s; Br<|Tr<|have H:=J5 H y; ?_
    obtain ⟨rfl,rfl⟩:=inj2 H
    exact T.F5 Tryz.results49 (RVs.cons (RV.tmp z) (Rv z)) Li ⟨z,z⟩
   refine T.skip<|Bn<|Th<|Rg<|Mv z ?_
   obtain ⟨au,aw,H⟩:=bnd H
   refine Vv (V.L8 z z aw)<|Ag z<|Nt<|T.again (ab,au) Li (Nat.lt_succ_self _) (G8 H s) (A9.app ⟨z,trivial⟩ ⟨z,trivial⟩) z
  refine T.exit<|Te<|Te<|have H:=D7 H s; Be<|Th<|T.met () Li H (A9.app trivial ⟨z,trivial⟩) z
 rintro _ bK bM ax
 have H:=J5 ax y
 refine T.norm [1] z<|T.fl ?_
 refine Sq<|Sr<|Ag z<|Nt ?_
 obtain ⟨M,ay,p⟩:=N7 H
 refine T.O5 (α:=Unit) [] z (fun _u=>[]) (fun _u=>L) (fun _u hh=>M = (Sum.inl ())) ?_ ?_
 ·have H:=ay
  refine Bl<|T.N8 (α:=Nat×Int) [1] z (fun ⟨q,r⟩=>[(6,.int .i64 r)]) (fun ⟨q,r⟩=>L) (fun ⟨q,r⟩ hh=>iter (A0z r1) q r = some M) (fun ⟨q,r⟩=>q) (FUEL,(0:Int)) ⟨z,trivial⟩ z H ?_
  rintro ⟨q,r⟩ bN bO aA
  obtain ⟨N,bP,rfl,H,m⟩:=I4 aA
  refine T.norm [6,1] z<|T.fl ?_
  refine Sq<|Sr<|Mv z<|Vv (V.fa A1W z)<|Vv (V.I6 (k:=1) Q0 z b.u z)<|Vv (V.P6 X5 z e)<|Vv (V.lt z z)<|Nt<|T.cH H z (fun H=>?_) (fun H=>?_)
  ·refine T.skip<|Th<|Sq<|Bl<|Sr<|Vv (V.fa A1W z)<|Vv (V.I6 (k:=1) Q0 z b.u z)<|Mv z ?_
   obtain ⟨a,P,H⟩:=bnd H
   obtain ⟨bS,aB,rfl⟩:=G9.at e P
   refine Vv (V.ix X5 rfl rfl e (H6 P))<|Vv (V.Z9 rfl aB.u (by exact Y1)) ?_
   refine To (O.alloc A5p z z fun bU=>To (O.stF (vs:=[.string a.fA,.string a.fB,.int .u8 a.J4]) Y1 z z (j:=0) z z z z<|T.freeze fun A bV aC=>have c:=AtC.of aC; Nt<|Sr<|Vv (V.fa A0H z)<|Vv (V.I6 (k:=0) J3 z b.u z)<|Vv (V.P6 O9 z d)<|Mv z ?_))
   obtain ⟨bW,aD,H⟩:=bnd H
   refine Vv (V.L8 z z aD)<|Ag z<|Nt<|Sq<|Sq ?_
   obtain ⟨aE,aG,aI⟩:=N7 H
   refine T.O5 (α:=Bool) [1,6,7,8] z (fun w=>[(87,.bool w)]) (fun w=>L) (fun w hh=>aE = w) ?_ ?_
   ·have H:=aG
    refine T.O8 (t:=(.v 0 (.v 1 (.v 2 (.v 3 (.v 4 (.v 5 (.v 6 (.v 7 (.v 8 (.v 9 (.v 10 (.v 11 (.v 12 (.v 13 (.v 14 (.v 15 (.v 16 (.v 17 (.v 18 (.v 19 (.v 20 (.v 21 (.v 22 (.v 23 (.v 24 (.v 25 (.alt 26 (.g (.v 27 (.v 28 .done))) .no)))))))))))))))))))))))))))) 30 0 0 rfl rfl I8 (by kernel_rfl) ?_
    refine Tv z (V.fa A3w z)<|Tv z (V.I6 (k:=2) A5z z c z)<|Tv z (V.ne z z)<|Tm z z<|T.bH 62 H z (fun H=>?_) (fun H=>?_)
    ·refine Tv z (V.fa A3w z)<|Tv z (V.I6 (k:=2) A5z z c z)<|Tv z (V.ne z z)<|Tv z (V.M0 z z)<|Tm z z<|T.bH 67 H z (fun H=>?_) (fun H=>?_)
     ·refine Tk z<|Tk z<|Tk z<|Tk z<|Tk z<|Tv z (V.M0 z z)<|Tm z z<|Tk z<|Tk z<|Tk z<|Tk z<|Tk z<|Tk z<|Tk z<|Tk z<|Tk z<|Tk z<|T.A4N z z (SX.two (XA.fr [] Lr z) (XA.fr [] Lr z)) z ?_ T.Q9
      refine T.M6 Lr<|Tk z<|Tv z (V.M0 z z)<|T.R5 (SX.two (XA.fr [] Lr z) (XA.fr [] Lr z))<|Th<|T.met true Lr (K4 H) (A9.app ⟨z,trivial⟩ ⟨z,z,z,z,trivial⟩) z
     refine Tv z (V.fa A0s z)<|Tv z (V.I6 (k:=0) F6 z c z)<|Tv z (V.fa A0W z)<|Tv z (V.I6 (k:=1) F6 z c z)<|Tv z (V.sge z z)<|Tv z (V.J9 z z)<|Tm z z<|T.bH 74 H z (fun H=>?_) (fun H=>?_)
     ·refine Tk z<|Tk z<|Tk z<|Tk z<|Tk z<|Tk z<|Tk z<|Tk z<|Tk z<|Tk z<|T.A4N z z (SX.two (XA.fr [] Lr z) (XA.fr [] Lr z)) z ?_ T.Q9
      refine T.M6 Lr<|Tk z<|Tv z (V.M0 z z)<|T.R5 (SX.two (XA.fr [] Lr z) (XA.fr [] Lr z))<|Th<|T.met true Lr (K4 H) (A9.app ⟨z,trivial⟩ ⟨z,z,z,z,trivial⟩) z
     refine Tm z z<|Tv z (V.gt z z)<|Tm z z<|T.bH 77 H z (fun H=>?_) (fun H=>?_)
     ·refine Tv z (V.Z9 rfl c (by exact Y1)) ?_
      refine Tv z (V.fa A1W z)<|Tv z (V.I6 (k:=1) Q0 z b.u z)<|Tm z z ?_
      obtain ⟨bX,aJ,H⟩:=bnd H
      refine Tv z (V.A0M z z aJ) ?_
      obtain ⟨B,S,H⟩:=bnd H
      obtain ⟨bY,aK,rfl⟩:=G9.at e S
      refine Tv z (V.ix X5 rfl rfl e (H6 S))<|Tv z (V.Z9 rfl aK.u (by exact Y1)) ?_
      obtain ⟨aM,aN,H⟩:=bnd H
      refine Tp z z (SX.two (XA.fr [] Lr z) (XA.fr [] Lr z)) (O.C8 z (A5M (show I1 A [.string a.fA,.string a.fB,.int .u8 a.J4] a from z) (show I1 A [.string B.fA,.string B.fB,.int .u8 B.J4] B from z) aN _) z fun bZ b0 b1 b2 aO=>?_) T.Q9
      obtain ⟨rfl,aP⟩:=aO
      refine I9 _ aP<|T.M6 Li<|Tv z (V.M0 z z)<|Tv z (V.J9 z z)<|T.R5 (SX.two (XA.fr [] Lr z) (XA.fr [] Lr z))<|Th<|T.met aM Li (K4 H) (A9.app ⟨z,trivial⟩ ⟨z,z,z,z,trivial⟩) z
     refine Tk z<|Tk z<|Tk z<|Tk z<|Tk z<|Tk z<|Tk z<|T.A4N z z (SX.two (XA.fr [] Lr z) (XA.fr [] Lr z)) z ?_ T.Q9
     refine T.M6 Lr<|Tv z (V.J9 z z)<|Tv z (V.J9 z z)<|T.R5 (SX.two (XA.fr [] Lr z) (XA.fr [] Lr z))<|Th<|T.met false Lr (K4 H) (A9.app ⟨z,trivial⟩ ⟨z,z,z,z,trivial⟩) z
    refine Tk z<|Tk z<|Tk z<|Tv z (V.J9 z z)<|Tm z z<|Tv z (V.fa A0s z)<|Tv z (V.I6 (k:=0) F6 z c z)<|Tv z (V.fa A0W z)<|Tv z (V.I6 (k:=1) F6 z c z)<|Tv z (V.sge z z)<|Tv z (V.J9 z z)<|Tm z z<|T.bH 74 H z (fun H=>?_) (fun H=>?_)
    ·refine Tk z<|Tk z<|Tk z<|Tk z<|Tk z<|Tk z<|Tk z<|Tk z<|Tk z<|Tk z<|T.A4N z z (SX.two (XA.fr [] Lr z) (XA.fr [] Lr z)) z ?_ T.Q9
     refine T.M6 Lr<|Tk z<|Tv z (V.M0 z z)<|T.R5 (SX.two (XA.fr [] Lr z) (XA.fr [] Lr z))<|Th<|T.met true Lr (K4 H) (A9.app ⟨z,trivial⟩ ⟨z,z,z,z,trivial⟩) z
    refine Tm z z<|Tv z (V.gt z z)<|Tm z z<|T.bH 77 H z (fun H=>?_) (fun H=>?_)
    ·refine Tv z (V.Z9 rfl c (by exact Y1)) ?_
     refine Tv z (V.fa A1W z)<|Tv z (V.I6 (k:=1) Q0 z b.u z)<|Tm z z ?_
     obtain ⟨b3,aS,H⟩:=bnd H
     refine Tv z (V.A0M z z aS) ?_
     obtain ⟨C,U,H⟩:=bnd H
     obtain ⟨b4,aU,rfl⟩:=G9.at e U
     refine Tv z (V.ix X5 rfl rfl e (H6 U))<|Tv z (V.Z9 rfl aU.u (by exact Y1)) ?_
     obtain ⟨aV,aW,H⟩:=bnd H
     refine Tp z z (SX.two (XA.fr [] Lr z) (XA.fr [] Lr z)) (O.C8 z (A5M (show I1 A [.string a.fA,.string a.fB,.int .u8 a.J4] a from z) (show I1 A [.string C.fA,.string C.fB,.int .u8 C.J4] C from z) aW _) z fun b5 b6 b7 b8 aX=>?_) T.Q9
     obtain ⟨rfl,aY⟩:=aX
     refine I9 _ aY<|T.M6 Li<|Tv z (V.M0 z z)<|Tv z (V.J9 z z)<|T.R5 (SX.two (XA.fr [] Lr z) (XA.fr [] Lr z))<|Th<|T.met aV Li (K4 H) (A9.app ⟨z,trivial⟩ ⟨z,z,z,z,trivial⟩) z
    refine Tk z<|Tk z<|Tk z<|Tk z<|Tk z<|Tk z<|Tk z<|T.A4N z z (SX.two (XA.fr [] Lr z) (XA.fr [] Lr z)) z ?_ T.Q9
    refine T.M6 Lr<|Tv z (V.J9 z z)<|Tv z (V.J9 z z)<|T.R5 (SX.two (XA.fr [] Lr z) (XA.fr [] Lr z))<|Th<|T.met false Lr (K4 H) (A9.app ⟨z,trivial⟩ ⟨z,z,z,z,trivial⟩) z
   rintro w b9 bh aZ
   have H:=J5 aZ aI
   refine T.norm [87,1,6,7,8] z<|T.fl ?_
   refine T.cH H z (fun H=>?_) (fun H=>?_)
   ·refine Sr<|Mv z<|Ag z<|Ag z<|Nt<|T.ret<|Tr<|Br<|Tr<|Tr<|have H:=D7 H m; Br<|Tr<|have H:=J5 H p; ?_
    obtain ⟨rfl,rfl⟩:=inj2 H
    exact T.F5 Tryz.results49 (RVs.cons (RV.tmp z) (Rv z)) Li ⟨z,z⟩
   refine T.skip<|Th<|Sq<|Sq ?_
   obtain ⟨a0,a1,a2⟩:=N7 H
   refine T.O5 (α:=Bool) [1,6,7,8] z (fun x=>[(102,.bool x)]) (fun x=>L) (fun x hh=>a0 = x) ?_ ?_
   ·have H:=a1
    refine Rg<|Vv (V.fa A0H z)<|Vv (V.I6 (k:=0) J3 z b.u z)<|Vv (V.fa A0s z)<|Vv (V.I6 (k:=0) F6 z c.u z) ?_
    obtain ⟨bl,a3,H⟩:=bnd H
    refine To (O.C8 z (A2n d.u a3 _) z fun bv bz ca cb a4=>?_)
    obtain ⟨rfl,a5⟩:=a4
    refine I9 _ a5<|Vv (V.lt z z)<|Mv z<|T.bH 95 H z (fun H=>?_) (fun H=>?_)
    ·refine Sk<|Sk<|Sk<|Sk<|Sk<|Sk<|Vv (V.M0 z z)<|Nt<|T.met true Li (K4 H) (A9.app ⟨z,trivial⟩ ⟨z,z,z,z,trivial⟩) z
    refine Vv (V.fa A0H z)<|Vv (V.I6 (k:=0) J3 z b.u z)<|Vv (V.fa A0W z)<|Vv (V.I6 (k:=1) F6 z c.u z) ?_
    obtain ⟨a6,a7,H⟩:=bnd H
    refine To (O.C8 z (A2n d.u a7 _) z fun cc cd ce cf a8=>?_)
    obtain ⟨rfl,a9⟩:=a8
    refine I9 _ a9<|Vv (V.lt z z)<|Vv (V.J9 z z)<|Nt<|T.met (decide (a6 < (0:Int))) Li (K4 H) (A9.app ⟨z,trivial⟩ ⟨z,z,z,z,trivial⟩) z
   rintro x W cg ah
   have H:=J5 ah a2
   refine T.norm [102,1,6,7,8] z<|T.fl ?_
   refine T.cH H z (fun H=>?_) (fun H=>?_)
   ·refine Sr<|Mv z<|Ag z<|Ag z<|Nt<|T.ret<|Tr<|Br<|Tr<|Tr<|have H:=D7 H m; Br<|Tr<|have H:=J5 H p; ?_
    obtain ⟨rfl,rfl⟩:=inj2 H
    exact T.F5 Tryz.results49 (RVs.cons (RV.tmp z) (Rv z)) Li ⟨z,z⟩
   refine T.skip<|Th<|Sq<|Sq<|T.O8 (t:=(.v 0 (.v 1 (.v 2 (.v 3 (.v 4 (.v 5 (.v 6 (.v 7 (.v 8 (.v 9 (.alt 10 (.g (.v 11 (.v 12 .done))) .no)))))))))))) 14 0 0 rfl rfl I8 (by kernel_rfl) ?_
   refine Tm z z<|Tv z (V.gt z z)<|Tm z z<|T.bH 106 H z (fun H=>?_) (fun H=>?_)
   ·refine Tv z (V.fa A1W z)<|Tv z (V.I6 (k:=1) Q0 z b.u z)<|Tm z z ?_
    obtain ⟨ci,al,H⟩:=bnd H
    refine Tv z (V.A0M z z al) ?_
    obtain ⟨D,X,H⟩:=bnd H
    obtain ⟨cj,av,rfl⟩:=G9.at e X
    refine Tv z (V.ix X5 rfl rfl e (H6 X))<|Tv z (V.Z9 rfl av.u (by exact Y1)) ?_
    refine Tv z (V.Z9 rfl c.u (by exact Y1)) ?_
    obtain ⟨ck,az,H⟩:=bnd H
    refine Tp z z (SX.two (XA.fr [] Lr z) (XA.fr [] Lr z)) (O.C8 z (A5M (show I1 W [.string D.fA,.string D.fB,.int .u8 D.J4] D from z) (show I1 W [.string a.fA,.string a.fB,.int .u8 a.J4] a from z) az _) z fun cm cn co cp ba=>?_) T.Q9
    obtain ⟨rfl,bb⟩:=ba
    refine I9 _ bb<|T.M6 Li<|Tv z (V.not z)<|Tv z (V.M0 z z)<|T.R5 (SX.two (XA.fr [] Lr z) (XA.fr [] Lr z))<|Th<|T.cH H z (fun H=>?_) (fun H=>?_)
    ·refine Sr<|Mv z<|Ag z<|Ag z<|Nt<|T.ret<|Tr<|Br<|Tr<|Tr<|have H:=D7 H m; Br<|Tr<|have H:=J5 H p; ?_
     obtain ⟨rfl,rfl⟩:=inj2 H
     exact T.F5 Tryz.results49 (RVs.cons (RV.tmp z) (Rv z)) Li ⟨z,z⟩
    refine T.skip<|Th<|Sr<|Mv z<|Vv (V.ge z z)<|Nt<|T.cH H z (fun H=>?_) (fun H=>?_)
    ·refine Sr<|Mv z<|Ag z<|Ag z<|Nt<|T.ret<|Br<|Tr<|Tr<|have H:=D7 H m; Br<|Tr<|have H:=J5 H p; ?_
     obtain ⟨rfl,rfl⟩:=inj2 H
     exact T.F5 Tryz.results49 (RVs.cons (RV.tmp z) (Rv z)) Li ⟨z,z⟩
    refine T.skip<|Bn<|Th<|Rg<|Mv z ?_
    obtain ⟨bc,bd,H⟩:=bnd H
    refine Vv (V.L8 z z bd)<|Ag z<|Nt<|T.again (N,bc) Li (Nat.lt_succ_self _) (G8 H m) (A9.app ⟨z,trivial⟩ ⟨z,trivial⟩) z
   refine Tk z<|Tk z<|Tk z<|Tk z<|Tk z<|Tk z<|Tk z<|T.A4N z z (SX.two (XA.fr [] Lr z) (XA.fr [] Lr z)) z ?_ T.Q9
   refine T.M6 Lr<|Tk z<|Tv z (V.J9 z z)<|T.R5 (SX.two (XA.fr [] Lr z) (XA.fr [] Lr z))<|Th<|Cf z<|T.skip<|Th<|Sr<|Mv z<|Vv (V.ge z z)<|Nt<|T.cH H z (fun H=>?_) (fun H=>?_)
   ·refine Sr<|Mv z<|Ag z<|Ag z<|Nt<|T.ret<|Br<|Tr<|Tr<|have H:=D7 H m; Br<|Tr<|have H:=J5 H p; ?_
    obtain ⟨rfl,rfl⟩:=inj2 H
    exact T.F5 Tryz.results49 (RVs.cons (RV.tmp z) (Rv z)) Li ⟨z,z⟩
   refine T.skip<|Bn<|Th<|Rg<|Mv z ?_
   obtain ⟨be,bf,H⟩:=bnd H
   refine Vv (V.L8 z z bf)<|Ag z<|Nt<|T.again (N,be) Li (Nat.lt_succ_self _) (G8 H m) (A9.app ⟨z,trivial⟩ ⟨z,trivial⟩) z
  refine T.exit<|Te<|Te<|have H:=D7 H m; Be<|Th<|T.met () Li H (A9.app trivial trivial) z
 rintro _ cq cr bg
 have H:=J5 bg p
 refine T.norm [] z<|T.fl ?_
 refine Sr<|Ag z<|Ag z<|Nt<|T.ret ?_
 obtain ⟨rfl,rfl⟩:=inj2 H
 exact T.F5 Tryz.results49 (RVs.cons (RV.tmp z) (Rv z)) Li ⟨z,z⟩
theorem C0y {h:PH} {k1:Int} {r_0:ByteArray} (H:A6P k1 = some r_0):∀ L,H5 Tryz.prog 51 [.int .u8 k1] h (L) (fun v h' L'=>v = .string r_0∧L' = L):=by
 intro L
 refine H5.enter Tryz.func51 z Tryz.ntmps51 z<|Sr<|Ag z<|Nt<|Sr<|To (O.bs A0U C4l z (e:=z) (hk:=z) (xs:=[.const (.string ⟨#[]⟩),.const (.string ⟨#[97,112,97,114,116]⟩),.const (.string ⟨#[98,101,115,105,100,101]⟩),.const (.string ⟨#[97,99,114,111,115,115]⟩),.const (.string ⟨#[110,101,97,114]⟩),.const (.string ⟨#[116,111,103,101,116,104,101,114]⟩),.const (.string ⟨#[97,116]⟩),.const (.string ⟨#[115,101,97,116]⟩),.const (.string ⟨#[97,108,116,101,114,110,97,116,101]⟩),.const (.string ⟨#[104,111,115,116]⟩),.const (.string ⟨#[114,101,97,99,104]⟩),.const (.string ⟨#[115,112,101,97,107]⟩),.const (.string ⟨#[112,101,97,99,101]⟩),.const (.string ⟨#[99,111,109,112,97,110,121]⟩),.const (.string ⟨#[104,111,110,111,117,114]⟩),.const (.string ⟨#[102,105,108,108]⟩),.const (.string ⟨#[108,105,109,105,116]⟩),.const (.string ⟨#[107,105,116,99,104,101,110]⟩),.const (.string ⟨#[109,105,120]⟩)]) (hv:=CO.eq (CO.cons z (CO.cons z (CO.cons z (CO.cons z (CO.cons z (CO.cons z (CO.cons z (CO.cons z (CO.cons z (CO.cons z (CO.cons z (CO.cons z (CO.cons z (CO.cons z (CO.cons z (CO.cons z (CO.cons z (CO.cons z (CO.cons z CO.nil)))))))))))))))))))) (hw:=O7.of z) (hd:=z) fun f=>have a:A7 VS h [[.string (⟨#[]⟩:ByteArray)],[.string (⟨#[97,112,97,114,116]⟩:ByteArray)],[.string (⟨#[98,101,115,105,100,101]⟩:ByteArray)],[.string (⟨#[97,99,114,111,115,115]⟩:ByteArray)],[.string (⟨#[110,101,97,114]⟩:ByteArray)],[.string (⟨#[116,111,103,101,116,104,101,114]⟩:ByteArray)],[.string (⟨#[97,116]⟩:ByteArray)],[.string (⟨#[115,101,97,116]⟩:ByteArray)],[.string (⟨#[97,108,116,101,114,110,97,116,101]⟩:ByteArray)],[.string (⟨#[104,111,115,116]⟩:ByteArray)],[.string (⟨#[114,101,97,99,104]⟩:ByteArray)],[.string (⟨#[115,112,101,97,107]⟩:ByteArray)],[.string (⟨#[112,101,97,99,101]⟩:ByteArray)],[.string (⟨#[99,111,109,112,97,110,121]⟩:ByteArray)],[.string (⟨#[104,111,110,111,117,114]⟩:ByteArray)],[.string (⟨#[102,105,108,108]⟩:ByteArray)],[.string (⟨#[108,105,109,105,116]⟩:ByteArray)],[.string (⟨#[107,105,116,99,104,101,110]⟩:ByteArray)],[.string (⟨#[109,105,120]⟩:ByteArray)]] ([(⟨#[]⟩:ByteArray),(⟨#[97,112,97,114,116]⟩:ByteArray),(⟨#[98,101,115,105,100,101]⟩:ByteArray),(⟨#[97,99,114,111,115,115]⟩:ByteArray),(⟨#[110,101,97,114]⟩:ByteArray),(⟨#[116,111,103,101,116,104,101,114]⟩:ByteArray),(⟨#[97,116]⟩:ByteArray),(⟨#[115,101,97,116]⟩:ByteArray),(⟨#[97,108,116,101,114,110,97,116,101]⟩:ByteArray),(⟨#[104,111,115,116]⟩:ByteArray),(⟨#[114,101,97,99,104]⟩:ByteArray),(⟨#[115,112,101,97,107]⟩:ByteArray),(⟨#[112,101,97,99,101]⟩:ByteArray),(⟨#[99,111,109,112,97,110,121]⟩:ByteArray),(⟨#[104,111,110,111,117,114]⟩:ByteArray),(⟨#[102,105,108,108]⟩:ByteArray),(⟨#[108,105,109,105,116]⟩:ByteArray),(⟨#[107,105,116,99,104,101,110]⟩:ByteArray),(⟨#[109,105,120]⟩:ByteArray)]:List ByteArray):=(A7.cons z (A7.cons z (A7.cons z (A7.cons z (A7.cons z (A7.cons z (A7.cons z (A7.cons z (A7.cons z (A7.cons z (A7.cons z (A7.cons z (A7.cons z (A7.cons z (A7.cons z (A7.cons z (A7.cons z (A7.cons z (A7.cons z A7.nil))))))))))))))))))); Ag z<|Nt<|Sq<|Sr<|Mv z ?_)
 obtain ⟨g,c,H⟩:=bnd H
 refine Vv (V.A9Z Tryz.underlying40 Tryz.underlying3 z c)<|Mv z<|Vv (V.A2E A0U z (j:=0) z a.len)<|Vv (V.ge z z)<|Nt<|T.cH H z (fun H=>?_) (fun H=>?_)
 ·refine Sr<|Ag z<|Nt<|T.ret<|Tr<|T.drop ?_
  obtain rfl:=Option.some.inj H
  exact T.F5 Tryz.results51 (Rv z) Lr ⟨z,z⟩
 refine T.skip<|Th<|Sr<|Mv z<|Mv z ?_
 obtain ⟨i,b,H⟩:=bnd H
 obtain ⟨k,d,rfl⟩:=A7.get a b
 refine Vv (V.ixR A0U z z (j:=0) z (A7.bd a b))<|Vv (V.ldR F6 z (j:=0) z d z)<|Ag z<|Nt<|T.ret<|T.drop ?_
 obtain rfl:=Option.some.inj H
 exact T.F5 Tryz.results51 (Rv z) Lr ⟨z,z⟩
theorem A1o {h:PH} {k1:Int} {r_0:Bool} (H:A2G k1 = some r_0):∀ L,H5 Tryz.prog 52 [.int .u8 k1] h (L) (fun v h' L'=>v = .bool r_0∧L' = L):=by
 intro L
 refine H5.enter Tryz.func52 z Tryz.ntmps52 z<|Sr<|Ag z<|Nt<|Sr<|Mv z<|Vv (V.eq z z)<|Mv z<|T.bH 5 H z (fun H=>?_) (fun H=>?_)
 ·refine Sk<|Sk<|Vv (V.M0 z z)<|Mv z<|Sk<|Sk<|Vv (V.M0 z z)<|Mv z<|Sk<|Sk<|Vv (V.M0 z z)<|Mv z<|Sk<|Sk<|Vv (V.M0 z z)<|Ag z<|Nt<|T.ret ?_
  obtain rfl:=Option.some.inj H
  exact T.F5 Tryz.results52 (Rv z) Lr ⟨z,z⟩
 refine Mv z<|Vv (V.eq z z)<|Vv (V.J9 z z)<|Mv z<|T.bH 9 H z (fun H=>?_) (fun H=>?_)
 ·refine Sk<|Sk<|Vv (V.M0 z z)<|Mv z<|Sk<|Sk<|Vv (V.M0 z z)<|Mv z<|Sk<|Sk<|Vv (V.M0 z z)<|Ag z<|Nt<|T.ret ?_
  obtain rfl:=Option.some.inj H
  exact T.F5 Tryz.results52 (Rv z) Lr ⟨z,z⟩
 refine Mv z<|Vv (V.eq z z)<|Vv (V.J9 z z)<|Mv z<|T.bH 13 H z (fun H=>?_) (fun H=>?_)
 ·refine Sk<|Sk<|Vv (V.M0 z z)<|Mv z<|Sk<|Sk<|Vv (V.M0 z z)<|Ag z<|Nt<|T.ret ?_
  obtain rfl:=Option.some.inj H
  exact T.F5 Tryz.results52 (Rv z) Lr ⟨z,z⟩
 refine Mv z<|Vv (V.eq z z)<|Vv (V.J9 z z)<|Mv z<|T.bH 17 H z (fun H=>?_) (fun H=>?_)
 ·refine Sk<|Sk<|Vv (V.M0 z z)<|Ag z<|Nt<|T.ret ?_
  obtain rfl:=Option.some.inj H
  exact T.F5 Tryz.results52 (Rv z) Lr ⟨z,z⟩
 refine Mv z<|Vv (V.eq z z)<|Vv (V.J9 z z)<|Ag z<|Nt<|T.ret ?_
 obtain rfl:=Option.some.inj H
 exact T.F5 Tryz.results52 (Rv z) Lr ⟨z,z⟩
theorem B5p {h:PH} {k1:Int} {r_0:Bool} (H:B5L k1 = some r_0):∀ L,H5 Tryz.prog 53 [.int .u8 k1] h (L) (fun v h' L'=>v = .bool r_0∧L' = L):=by
 intro L
 refine H5.enter Tryz.func53 z Tryz.ntmps53 z<|Sr<|Ag z<|Nt<|Sr<|Mv z<|Vv (V.eq z z)<|Mv z<|T.bH 5 H z (fun H=>?_) (fun H=>?_)
 ·refine Sk<|Sk<|Vv (V.M0 z z)<|Mv z<|Sk<|Sk<|Vv (V.M0 z z)<|Ag z<|Nt<|T.ret ?_
  obtain rfl:=Option.some.inj H
  exact T.F5 Tryz.results53 (Rv z) Lr ⟨z,z⟩
 refine Mv z<|Vv (V.eq z z)<|Vv (V.J9 z z)<|Mv z<|T.bH 9 H z (fun H=>?_) (fun H=>?_)
 ·refine Sk<|Sk<|Vv (V.M0 z z)<|Ag z<|Nt<|T.ret ?_
  obtain rfl:=Option.some.inj H
  exact T.F5 Tryz.results53 (Rv z) Lr ⟨z,z⟩
 refine Mv z<|Vv (V.eq z z)<|Vv (V.J9 z z)<|Ag z<|Nt<|T.ret ?_
 obtain rfl:=Option.some.inj H
 exact T.F5 Tryz.results53 (Rv z) Lr ⟨z,z⟩
theorem Z7 {h:PH} {k1:Int} {r_0:Int} (H:A0x k1 = some r_0):∀ L,H5 Tryz.prog 54 [.int .u8 k1] h (L) (fun v h' L'=>v = .int .i64 r_0∧L' = L):=by
 intro L
 refine H5.enter Tryz.func54 z Tryz.ntmps54 z<|Sr<|Ag z<|Nt<|Sq<|Sq ?_
 obtain ⟨b,c,d⟩:=N7 H
 refine T.O5 (α:=Bool) [0] z (fun a=>[(8,.bool a)]) (fun a=>L) (fun a hh=>b = a) ?_ ?_
 ·have H:=c
  refine Rg<|Mv z ?_
  obtain ⟨j,e,H⟩:=bnd H
  refine To (O.C8 z (A1o e _) z fun k m n o f=>?_)
  obtain ⟨rfl,g⟩:=f
  refine I9 _ g<|Mv z<|T.bH 5 H z (fun H=>?_) (fun H=>?_)
  ·refine Sk<|Sk<|Vv (V.M0 z z)<|Nt<|T.met true Li (K4 H) (A9.app ⟨z,trivial⟩ ⟨z,trivial⟩) z
  refine Mv z<|Vv (V.eq z z)<|Vv (V.J9 z z)<|Nt<|T.met (decide (k1 = (10:Int))) Li (K4 H) (A9.app ⟨z,trivial⟩ ⟨z,trivial⟩) z
 rintro a p q i
 have H:=J5 i d
 refine T.norm [8,0] z<|T.fl ?_
 refine T.cH H z (fun H=>?_) (fun H=>?_)
 ·refine Sr<|Ag z<|Nt<|T.ret<|Tr ?_
  obtain rfl:=Option.some.inj H
  exact T.F5 Tryz.results54 (Rv z) Li ⟨z,z⟩
 refine T.skip<|Th<|Sq<|Sr<|Mv z<|Vv (V.eq z z)<|Mv z<|T.bH 11 H z (fun H=>?_) (fun H=>?_)
 ·refine Sk<|Sk<|Vv (V.M0 z z)<|Mv z<|Sk<|Sk<|Vv (V.M0 z z)<|Nt<|Ct z<|Sr<|Ag z<|Nt<|T.ret<|Tr ?_
  obtain rfl:=Option.some.inj H
  exact T.F5 Tryz.results54 (Rv z) Li ⟨z,z⟩
 refine Mv z<|Vv (V.eq z z)<|Vv (V.J9 z z)<|Mv z<|T.bH 15 H z (fun H=>?_) (fun H=>?_)
 ·refine Sk<|Sk<|Vv (V.M0 z z)<|Nt<|Ct z<|Sr<|Ag z<|Nt<|T.ret<|Tr ?_
  obtain rfl:=Option.some.inj H
  exact T.F5 Tryz.results54 (Rv z) Li ⟨z,z⟩
 refine Mv z<|Vv (V.eq z z)<|Vv (V.J9 z z)<|Nt<|T.cH H z (fun H=>?_) (fun H=>?_)
 ·refine Sr<|Ag z<|Nt<|T.ret<|Tr ?_
  obtain rfl:=Option.some.inj H
  exact T.F5 Tryz.results54 (Rv z) Li ⟨z,z⟩
 refine T.skip<|Th<|Sr<|Ag z<|Nt<|T.ret ?_
 obtain rfl:=Option.some.inj H
 exact T.F5 Tryz.results54 (Rv z) Li ⟨z,z⟩
theorem R4 {h:PH} {k1:Int} {r_0:Bool} (H:V9 k1 = some r_0):∀ L,H5 Tryz.prog 55 [.int .u8 k1] h (L) (fun v h' L'=>v = .bool r_0∧L' = L):=by
 intro L
 refine H5.enter Tryz.func55 z Tryz.ntmps55 z<|Sr<|Ag z<|Nt<|Sr<|Mv z<|Vv (V.eq z z)<|Mv z<|T.bH 5 H z (fun H=>?_) (fun H=>?_)
 ·refine Sk<|Sk<|Vv (V.M0 z z)<|Mv z<|Sk<|Sk<|Vv (V.M0 z z)<|Mv z<|Sk<|Sk<|Vv (V.M0 z z)<|Mv z<|Sk<|Sk<|Vv (V.M0 z z)<|Ag z<|Nt<|T.ret ?_
  obtain rfl:=Option.some.inj H
  exact T.F5 Tryz.results55 (Rv z) Lr ⟨z,z⟩
 refine Mv z<|Vv (V.eq z z)<|Vv (V.J9 z z)<|Mv z<|T.bH 9 H z (fun H=>?_) (fun H=>?_)
 ·refine Sk<|Sk<|Vv (V.M0 z z)<|Mv z<|Sk<|Sk<|Vv (V.M0 z z)<|Mv z<|Sk<|Sk<|Vv (V.M0 z z)<|Ag z<|Nt<|T.ret ?_
  obtain rfl:=Option.some.inj H
  exact T.F5 Tryz.results55 (Rv z) Lr ⟨z,z⟩
 refine Mv z<|Vv (V.eq z z)<|Vv (V.J9 z z)<|Mv z<|T.bH 13 H z (fun H=>?_) (fun H=>?_)
 ·refine Sk<|Sk<|Vv (V.M0 z z)<|Mv z<|Sk<|Sk<|Vv (V.M0 z z)<|Ag z<|Nt<|T.ret ?_
  obtain rfl:=Option.some.inj H
  exact T.F5 Tryz.results55 (Rv z) Lr ⟨z,z⟩
 refine Mv z<|Vv (V.eq z z)<|Vv (V.J9 z z)<|Mv z<|T.bH 17 H z (fun H=>?_) (fun H=>?_)
 ·refine Sk<|Sk<|Vv (V.M0 z z)<|Ag z<|Nt<|T.ret ?_
  obtain rfl:=Option.some.inj H
  exact T.F5 Tryz.results55 (Rv z) Lr ⟨z,z⟩
 refine Mv z<|Vv (V.eq z z)<|Vv (V.J9 z z)<|Ag z<|Nt<|T.ret ?_
 obtain rfl:=Option.some.inj H
 exact T.F5 Tryz.results55 (Rv z) Lr ⟨z,z⟩
theorem B6n {h:PH} {pv0:Value} {l1:List D5} (pr0:G9 E8 7 h pv0 l1) {name2:ByteArray} {r_0:Int} (H:A3y l1 name2 = some r_0):∀ L,H5 Tryz.prog 58 [pv0,.string name2] h (L) (fun v h' L'=>v = .int .i64 r_0∧L' = L):=by
 intro L
 refine H5.enter Tryz.func58 z Tryz.ntmps58 z<|Sr<|Ag z<|Nt<|Sq<|Sr<|Ag z<|Nt ?_
 obtain ⟨d,g,e⟩:=N7 H
 refine T.O5 (α:=Unit) [] z (fun _u=>[]) (fun _u=>L) (fun _u hh=>d = (Sum.inl ())) ?_ ?_
 ·have H:=g
  refine Bl<|T.N8 (α:=Nat×Int) [0,1] z (fun ⟨a,b⟩=>[(5,.int .i64 b)]) (fun ⟨a,b⟩=>L) (fun ⟨a,b⟩ hh=>iter (A3h l1 name2) a b = some d) (fun ⟨a,b⟩=>a) (FUEL,(0:Int)) ⟨z,trivial⟩ z H ?_
  rintro ⟨a,b⟩ q r i
  obtain ⟨j,s,rfl,H,c⟩:=I4 i
  refine T.norm [5,0,1] z<|T.fl ?_
  refine Sq<|Sr<|Mv z<|Mv z<|Vv (V.P6 O0 z pr0)<|Vv (V.lt z z)<|Nt<|T.cH H z (fun H=>?_) (fun H=>?_)
  ·refine T.skip<|Th<|Sq<|Bl<|Sr<|Mv z<|Mv z ?_
   obtain ⟨t,f,H⟩:=bnd H
   obtain ⟨w,m,⟨x,rfl,y⟩⟩:=G9.at pr0 f
   refine Vv (V.ix O0 z z pr0 (H6 f))<|Vv (V.fa A1b z)<|Vv (V.I6 (k:=0) F6 z m.u z)<|Mv z<|Vv (V.seq z z)<|Nt<|T.cH H z (fun H=>?_) (fun H=>?_)
   ·refine Sr<|Mv z<|Ag z<|Nt<|T.ret<|Br<|Tr<|Tr<|have H:=D7 H c; Br<|Tr<|have H:=J5 H e; ?_
    obtain rfl:=Option.some.inj H
    exact T.F5 Tryz.results58 (Rv z) Li ⟨z,z⟩
   refine T.skip<|Bn<|Th<|Rg<|Mv z ?_
   obtain ⟨n,o,H⟩:=bnd H
   refine Vv (V.L8 z z o)<|Ag z<|Nt<|T.again (j,n) Li (Nat.lt_succ_self _) (G8 H c) (A9.app ⟨z,trivial⟩ ⟨z,z,trivial⟩) z
  refine T.exit<|Te<|Te<|have H:=D7 H c; Be<|Th<|T.met () Li H (A9.app trivial trivial) z
 rintro _ A B p
 have H:=J5 p e
 refine T.norm [] z<|T.fl ?_
 refine Sr<|Ag z<|Nt<|T.ret ?_
 obtain rfl:=Option.some.inj H
 exact T.F5 Tryz.results58 (Rv z) Li ⟨z,z⟩
theorem B9g {h:PH} {pc0:List Value} {p1:A8} (pr0:C9 h pc0 p1) {r_0:Int} {r_1:Int} (H:A7F p1 = some (r_0,r_1)):∀ L,H5 Tryz.prog 23 [.agg pc0.toArray] h (L) (fun v h' L'=>v = .tuple #[.int .i64 r_0,.int .i64 r_1]∧L' = L):=by
 intro L
 obtain ⟨ab,m,n,ac,ad,rfl,o,f,p,b,ae⟩:=pr0
 refine H5.enter Tryz.func23 z Tryz.ntmps23 z<|Sr<|To (O.V3 z z z fun af ag ai a=>Ag z<|Ag z<|Nt<|Sr<|Vv (V.fa K3 z)<|Vv (V.I6 (k:=0) M9 z a z) ?_)
 obtain ⟨⟨aj,ak⟩,w,H⟩:=bnd H
 refine To (O.C8 z (B5F o.u w _) z fun am x an ao y=>?_)
 obtain ⟨rfl,A⟩:=y
 refine I9 _ A<|Mv z<|Vv (V.ext z z)<|Vv (V.ext z z)<|Ag z<|Ag z<|Nt<|Sq<|Sr<|Mv z<|Vv (V.ne z z)<|Nt<|T.cH H z (fun H=>?_) (fun H=>?_)
 ·refine Sr<|Mv z<|Mv z<|Ag z<|Ag z<|Nt<|T.ret<|Tr ?_
  obtain ⟨rfl,rfl⟩:=inj2 H
  exact T.F5 Tryz.results23 (RVs.cons (RV.tmp z) (Rv z)) Li ⟨z,z⟩
 refine T.skip<|Th<|Sr<|Vv (V.fa M3 z)<|Vv (V.I6 (k:=1) J3 z a.u z)<|Vv (V.fa Y3 z)<|Vv (V.I6 (k:=2) Q0 z a.u z)<|Vv (V.bld (xs:=[(0,.tmp 20),(1,.tmp 22)]) (cs:=[_,_]) B1B B0E z (F8.cons z (G9.cells f) z (F8.cons z (G9.cells p) z F8.nil))) ?_
 obtain ⟨⟨ap,aq⟩,B,H⟩:=bnd H
 refine To (O.C8 z (B4A (show A2X x [m,n] (V6.mk p1.F3 p1.J8) from ⟨m,n,z,f.u,p.u⟩) B _) z fun ar au aw ax C=>?_)
 obtain ⟨rfl,D⟩:=C
 refine I9 _ D<|Mv z<|Vv (V.ext z z)<|Vv (V.ext z z)<|Ag z<|Ag z<|Nt<|Sq<|Sr<|Mv z<|Vv (V.ne z z)<|Nt<|T.cH H z (fun H=>?_) (fun H=>?_)
 ·refine Sr<|Mv z<|Mv z<|Ag z<|Ag z<|Nt<|T.ret<|Tr ?_
  obtain ⟨rfl,rfl⟩:=inj2 H
  exact T.F5 Tryz.results23 (RVs.cons (RV.tmp z) (Rv z)) Li ⟨z,z⟩
 refine T.skip<|Th<|Sq<|Sq ?_
 obtain ⟨E,G,I⟩:=N7 H
 refine T.O5 (α:=Bool) [1] z (fun e=>[(43,.bool e)]) (fun e=>L) (fun e hh=>E = e) ?_ ?_
 ·have H:=G
  refine Rg<|Vv (V.fa Y7 z)<|Vv (V.I6 (k:=3) F4 z a.u z)<|Vv (V.P6 D6 z b)<|Vv (V.ne z z)<|Mv z<|T.bH 35 H z (fun H=>?_) (fun H=>?_)
  ·refine Vv (V.fa Y7 z)<|Vv (V.I6 (k:=3) F4 z a.u z)<|Vv (V.P6 D6 z b)<|Vv (V.fa M3 z)<|Vv (V.I6 (k:=1) J3 z a.u z)<|Vv (V.P6 O9 z f)<|Vv (V.ne z z)<|Vv (V.M0 z z)<|Nt<|T.met (!decide ((p1.K5.length:Int) = (p1.F3.length:Int))) Lr (K4 H) (A9.app ⟨z,trivial⟩ ⟨z,trivial⟩) z
  refine Sk<|Sk<|Sk<|Sk<|Sk<|Sk<|Sk<|Vv (V.J9 z z)<|Nt<|T.met false Lr (K4 H) (A9.app ⟨z,trivial⟩ ⟨z,trivial⟩) z
 rintro e ay aA J
 have H:=J5 J I
 refine T.norm [43,1] z<|T.fl ?_
 refine T.cH H z (fun H=>?_) (fun H=>?_)
 ·refine Sr<|Ag z<|Ag z<|Nt<|T.ret<|Tr ?_
  obtain ⟨rfl,rfl⟩:=inj2 H
  exact T.F5 Tryz.results23 (RVs.cons (RV.tmp z) (Rv z)) Li ⟨z,z⟩
 refine T.skip<|Th<|Sq<|Sr<|Ag z<|Nt ?_
 obtain ⟨q,K,j⟩:=N7 H
 refine T.O5 (α:=Unit) [1] z (fun _u=>[]) (fun _u=>L) (fun _u hh=>q = (Sum.inl ())) ?_ ?_
 ·have H:=K
  refine Bl<|T.N8 (α:=Nat×Int) [1] z (fun ⟨c,d⟩=>[(7,.int .i64 d)]) (fun ⟨c,d⟩=>L) (fun ⟨c,d⟩ hh=>iter (A2Q p1) c d = some q) (fun ⟨c,d⟩=>c) (FUEL,(0:Int)) ⟨z,trivial⟩ z H ?_
  rintro ⟨c,d⟩ aB aC M
  obtain ⟨N,aD,rfl,H,i⟩:=I4 M
  refine T.norm [7,1] z<|T.fl ?_
  refine Sq<|Sr<|Mv z<|Vv (V.fa Y7 z)<|Vv (V.I6 (k:=3) F4 z a.u z)<|Vv (V.P6 D6 z b)<|Vv (V.lt z z)<|Nt<|T.cH H z (fun H=>?_) (fun H=>?_)
  ·refine T.skip<|Th<|Sq<|Bl<|Sr<|Vv (V.fa Y7 z)<|Vv (V.I6 (k:=3) F4 z a.u z)<|Mv z ?_
   obtain ⟨aE,r,H⟩:=bnd H
   obtain ⟨aG,P,rfl⟩:=G9.at b r
   refine Vv (V.ix D6 z z b (H6 r))<|Vv (V.ld0 D9 z P.u z)<|Vv (V.lt z z)<|Mv z<|T.bH 57 H z (fun H=>?_) (fun H=>?_)
   ·refine Sk<|Sk<|Sk<|Sk<|Sk<|Sk<|Vv (V.M0 z z)<|Nt<|Ct z<|Sr<|Ag z<|Ag z<|Nt<|T.ret<|Br<|Tr<|Tr<|have H:=D7 H i; Br<|Tr<|have H:=J5 H j; ?_
    obtain ⟨rfl,rfl⟩:=inj2 H
    exact T.F5 Tryz.results23 (RVs.cons (RV.tmp z) (Rv z)) Li ⟨z,z⟩
   refine Vv (V.fa Y7 z)<|Vv (V.I6 (k:=3) F4 z a.u z)<|Mv z ?_
   obtain ⟨aI,s,H⟩:=bnd H
   obtain ⟨aJ,S,rfl⟩:=G9.at b s
   refine Vv (V.ix D6 z z b (H6 s))<|Vv (V.ld0 D9 z S.u z)<|Vv (V.ge z z)<|Vv (V.J9 z z)<|Nt<|T.cH H z (fun H=>?_) (fun H=>?_)
   ·refine Sr<|Ag z<|Ag z<|Nt<|T.ret<|Br<|Tr<|Tr<|have H:=D7 H i; Br<|Tr<|have H:=J5 H j; ?_
    obtain ⟨rfl,rfl⟩:=inj2 H
    exact T.F5 Tryz.results23 (RVs.cons (RV.tmp z) (Rv z)) Li ⟨z,z⟩
   refine T.skip<|Bn<|Th<|Rg<|Mv z ?_
   obtain ⟨U,W,H⟩:=bnd H
   refine Vv (V.L8 z z W)<|Ag z<|Nt<|T.again (N,U) Li (Nat.lt_succ_self _) (G8 H i) (A9.app ⟨z,trivial⟩ ⟨z,trivial⟩) z
  refine T.exit<|Te<|Te<|have H:=D7 H i; Be<|Th<|T.met () Li H (A9.app trivial ⟨z,trivial⟩) z
 rintro _ aK aM X
 have H:=J5 X j
 refine T.norm [1] z<|T.fl ?_
 refine Sq<|Sq<|T.O8 (t:=(.v 0 (.v 1 (.v 2 (.v 3 (.v 4 (.alt 5 (.g (.v 6 .done)) .no))))))) 8 0 0 rfl rfl I8 (by kernel_rfl) ?_
 refine Tv z (V.fa M3 z)<|Tv z (V.I6 (k:=1) J3 z a.u z)<|Tv z (V.P6 O9 z f)<|Tv z (V.fa K3 z)<|Tv z (V.I6 (k:=0) M9 z a.u z) ?_
 obtain ⟨aN,Y,H⟩:=bnd H
 refine Tp z z (SX.two (XA.fr [] Lr z) (XA.fr [] Lr z)) (O.C8 z (B7Y o.u Y _) z fun aO aP aS aU Z=>?_) T.Q9
 obtain ⟨rfl,aa⟩:=Z
 refine I9 _ aa<|T.M6 Li<|Tv z (V.gt z z)<|T.R5 (SX.two (XA.fr [] Lr z) (XA.fr [] Lr z))<|Th<|T.cH H z (fun H=>?_) (fun H=>?_)
 ·refine Sr<|Ag z<|Ag z<|Nt<|T.ret<|Tr ?_
  obtain ⟨rfl,rfl⟩:=inj2 H
  exact T.F5 Tryz.results23 (RVs.cons (RV.tmp z) (Rv z)) Li ⟨z,z⟩
 refine T.skip<|Th<|Sr<|Ag z<|Ag z<|Nt<|T.ret ?_
 obtain ⟨rfl,rfl⟩:=inj2 H
 exact T.F5 Tryz.results23 (RVs.cons (RV.tmp z) (Rv z)) Li ⟨z,z⟩
theorem B8W {h:PH} {pc0:List Value} {p1:A8} (pr0:C9 h pc0 p1) {pc1:List Value} {r12:G5} (pr1:H9 h pc1 r12) {r_0:Int} (H:A4a p1 r12 = some r_0):∀ L,H5 Tryz.prog 24 [.agg pc0.toArray,.agg pc1.toArray] h (L) (fun v h' L'=>v = .int .i64 r_0∧L' = L):=by
 intro L
 obtain ⟨dw,dx,dy,dA,dB,rfl,q,d,dC,dD,dE⟩:=pr0
 obtain rfl:=pr1
 refine H5.enter Tryz.func24 z Tryz.ntmps24 z<|Sr<|To (O.V3 z z z fun dG dI dJ b=>To (O.V3 z z z fun dK dM dN a=>Ag z<|Nt<|Sr<|Vv (V.fa A1T z)<|Vv (V.I6 (k:=0) A2P z a z)<|Ag z<|Nt<|Sq<|Sr<|Mv z ?_))
 obtain ⟨dO,w,H⟩:=bnd H
 refine To (O.C8 z (C0y w _) z fun dP dS dU dV x=>?_)
 obtain ⟨rfl,y⟩:=x
 refine I9 _ y<|Vv (V.seq z z)<|Nt<|T.cH H z (fun H=>?_) (fun H=>?_)
 ·refine Sr<|Ag z<|Nt<|T.ret<|Tr ?_
  obtain rfl:=Option.some.inj H
  exact T.F5 Tryz.results24 (Rv z) Li ⟨z,z⟩
 refine T.skip<|Th<|Sq<|Sq ?_
 obtain ⟨A,B,C⟩:=N7 H
 refine T.O5 (α:=Bool) [2,3,5] z (fun e=>[(21,.bool e)]) (fun e=>L) (fun e hh=>A = e) ?_ ?_
 ·have H:=B
  refine Rg<|Vv (V.fa A1a z)<|Vv (V.I6 (k:=1) D9 z a.u z)<|Vv (V.lt z z)<|Mv z<|T.bH 17 H z (fun H=>?_) (fun H=>?_)
  ·refine Sk<|Sk<|Sk<|Vv (V.M0 z z)<|Nt<|T.met true Lr (K4 H) (A9.app ⟨z,trivial⟩ ⟨z,z,z,trivial⟩) z
  refine Vv (V.fa A1a z)<|Vv (V.I6 (k:=1) D9 z a.u z)<|Vv (V.gt z z)<|Vv (V.J9 z z)<|Nt<|T.met (decide ((1000:Int) < r12.Y6)) Lr (K4 H) (A9.app ⟨z,trivial⟩ ⟨z,z,z,trivial⟩) z
 rintro e dW dX D
 have H:=J5 D C
 refine T.norm [21,2,3,5] z<|T.fl ?_
 refine T.cH H z (fun H=>?_) (fun H=>?_)
 ·refine Sr<|Ag z<|Nt<|T.ret<|Tr ?_
  obtain rfl:=Option.some.inj H
  exact T.F5 Tryz.results24 (Rv z) Li ⟨z,z⟩
 refine T.skip<|Th<|Sq<|Sq ?_
 obtain ⟨E,G,I⟩:=N7 H
 refine T.O5 (α:=Bool) [2,3,5] z (fun f=>[(68,.bool f)]) (fun f=>L) (fun f hh=>E = f) ?_ ?_
 ·have H:=G
  refine Rg<|Vv (V.fa Y8 z)<|Vv (V.I6 (k:=2) F6 z a.u z)<|Vv (V.sne z z)<|Mv z<|T.bH 25 H z (fun H=>?_) (fun H=>?_)
  ·refine Mv z ?_
   obtain ⟨dY,J,H⟩:=bnd H
   refine To (O.C8 z (A1o J _) z fun dZ d0 d1 d2 K=>?_)
   obtain ⟨rfl,M⟩:=K
   refine I9 _ M<|Vv (V.not z)<|Vv (V.M0 z z)<|Mv z<|T.bH 30 H z (fun H=>?_) (fun H=>?_)
   ·refine Mv z ?_
    obtain ⟨d3,N,H⟩:=bnd H
    refine To (O.C8 z (B5p N _) z fun d4 d5 d6 d7 P=>?_)
    obtain ⟨rfl,S⟩:=P
    refine I9 _ S<|Vv (V.not z)<|Vv (V.M0 z z)<|Mv z<|T.bH 35 H z (fun H=>?_) (fun H=>?_)
    ·refine Mv z<|Vv (V.ne z z)<|Vv (V.M0 z z)<|Mv z<|T.bH 39 H z (fun H=>?_) (fun H=>?_)
     ·refine Sk<|Sk<|Sk<|Sk<|Sk<|Sk<|Sk<|Sk<|Vv (V.M0 z z)<|Mv z<|Sk<|Sk<|Sk<|Sk<|Sk<|Sk<|Sk<|Sk<|Vv (V.M0 z z)<|Mv z<|Sk<|Sk<|Sk<|Sk<|Sk<|Sk<|Sk<|Sk<|Vv (V.M0 z z)<|Nt<|T.met true Li (K4 H) (A9.app ⟨z,trivial⟩ ⟨z,z,z,trivial⟩) z
     refine Vv (V.fa A0C z)<|Vv (V.I6 (k:=3) F6 z a.u z)<|Vv (V.sne z z)<|Mv z<|T.bH 43 H z (fun H=>?_) (fun H=>?_)
     ·refine Mv z ?_
      obtain ⟨d8,U,H⟩:=bnd H
      refine To (O.C8 z (A1o U _) z fun d9 dh dl dv W=>?_)
      obtain ⟨rfl,X⟩:=W
      refine I9 _ X<|Vv (V.not z)<|Vv (V.M0 z z)<|Vv (V.J9 z z)<|Mv z<|T.bH 49 H z (fun H=>?_) (fun H=>?_)
      ·refine Sk<|Sk<|Sk<|Sk<|Sk<|Sk<|Sk<|Sk<|Vv (V.M0 z z)<|Mv z<|Sk<|Sk<|Sk<|Sk<|Sk<|Sk<|Sk<|Sk<|Vv (V.M0 z z)<|Nt<|T.met true Li (K4 H) (A9.app ⟨z,trivial⟩ ⟨z,z,z,trivial⟩) z
      refine Vv (V.fa X3 z)<|Vv (V.I6 (k:=4) F6 z a.u z)<|Vv (V.sne z z)<|Mv z<|T.bH 53 H z (fun H=>?_) (fun H=>?_)
      ·refine Mv z ?_
       obtain ⟨dz,Y,H⟩:=bnd H
       refine To (O.C8 z (Z7 Y _) z fun ea eb ec ed Z=>?_)
       obtain ⟨rfl,aa⟩:=Z
       refine I9 _ aa<|Vv (V.eq z z)<|Vv (V.M0 z z)<|Vv (V.J9 z z)<|Mv z<|T.bH 59 H z (fun H=>?_) (fun H=>?_)
       ·refine Sk<|Sk<|Sk<|Sk<|Sk<|Sk<|Sk<|Sk<|Vv (V.M0 z z)<|Nt<|T.met true Li (K4 H) (A9.app ⟨z,trivial⟩ ⟨z,z,z,trivial⟩) z
       refine Vv (V.fa O4 z)<|Vv (V.I6 (k:=5) D9 z a.u z)<|Vv (V.ne z z)<|Mv z<|T.bH 63 H z (fun H=>?_) (fun H=>?_)
       ·refine Mv z ?_
        obtain ⟨ab,ac,H⟩:=bnd H
        refine To (O.C8 z (R4 ac _) z fun ee ef eg ei ad=>?_)
        obtain ⟨rfl,ae⟩:=ad
        refine I9 _ ae<|Vv (V.not z)<|Vv (V.M0 z z)<|Vv (V.J9 z z)<|Nt<|T.met (!ab) Li (K4 H) (A9.app ⟨z,trivial⟩ ⟨z,z,z,trivial⟩) z
       refine Sk<|Sk<|Sk<|Vv (V.J9 z z)<|Vv (V.J9 z z)<|Nt<|T.met false Li (K4 H) (A9.app ⟨z,trivial⟩ ⟨z,z,z,trivial⟩) z
      refine Sk<|Sk<|Sk<|Vv (V.J9 z z)<|Vv (V.J9 z z)<|Mv z<|Vv (V.fa O4 z)<|Vv (V.I6 (k:=5) D9 z a.u z)<|Vv (V.ne z z)<|Mv z<|T.bH 63 H z (fun H=>?_) (fun H=>?_)
      ·refine Mv z ?_
       obtain ⟨af,ag,H⟩:=bnd H
       refine To (O.C8 z (R4 ag _) z fun ej ek em en ai=>?_)
       obtain ⟨rfl,aj⟩:=ai
       refine I9 _ aj<|Vv (V.not z)<|Vv (V.M0 z z)<|Vv (V.J9 z z)<|Nt<|T.met (!af) Li (K4 H) (A9.app ⟨z,trivial⟩ ⟨z,z,z,trivial⟩) z
      refine Sk<|Sk<|Sk<|Vv (V.J9 z z)<|Vv (V.J9 z z)<|Nt<|T.met false Li (K4 H) (A9.app ⟨z,trivial⟩ ⟨z,z,z,trivial⟩) z
     refine Sk<|Sk<|Sk<|Vv (V.J9 z z)<|Vv (V.J9 z z)<|Mv z<|Vv (V.fa X3 z)<|Vv (V.I6 (k:=4) F6 z a.u z)<|Vv (V.sne z z)<|Mv z<|T.bH 53 H z (fun H=>?_) (fun H=>?_)
     ·refine Mv z ?_
      obtain ⟨eo,ak,H⟩:=bnd H
      refine To (O.C8 z (Z7 ak _) z fun ep er es et am=>?_)
      obtain ⟨rfl,an⟩:=am
      refine I9 _ an<|Vv (V.eq z z)<|Vv (V.M0 z z)<|Vv (V.J9 z z)<|Mv z<|T.bH 59 H z (fun H=>?_) (fun H=>?_)
      ·refine Sk<|Sk<|Sk<|Sk<|Sk<|Sk<|Sk<|Sk<|Vv (V.M0 z z)<|Nt<|T.met true Li (K4 H) (A9.app ⟨z,trivial⟩ ⟨z,z,z,trivial⟩) z
      refine Vv (V.fa O4 z)<|Vv (V.I6 (k:=5) D9 z a.u z)<|Vv (V.ne z z)<|Mv z<|T.bH 63 H z (fun H=>?_) (fun H=>?_)
      ·refine Mv z ?_
       obtain ⟨ao,ap,H⟩:=bnd H
       refine To (O.C8 z (R4 ap _) z fun eu ew ex ey aq=>?_)
       obtain ⟨rfl,ar⟩:=aq
       refine I9 _ ar<|Vv (V.not z)<|Vv (V.M0 z z)<|Vv (V.J9 z z)<|Nt<|T.met (!ao) Li (K4 H) (A9.app ⟨z,trivial⟩ ⟨z,z,z,trivial⟩) z
      refine Sk<|Sk<|Sk<|Vv (V.J9 z z)<|Vv (V.J9 z z)<|Nt<|T.met false Li (K4 H) (A9.app ⟨z,trivial⟩ ⟨z,z,z,trivial⟩) z
     refine Sk<|Sk<|Sk<|Vv (V.J9 z z)<|Vv (V.J9 z z)<|Mv z<|Vv (V.fa O4 z)<|Vv (V.I6 (k:=5) D9 z a.u z)<|Vv (V.ne z z)<|Mv z<|T.bH 63 H z (fun H=>?_) (fun H=>?_)
     ·refine Mv z ?_
      obtain ⟨au,aw,H⟩:=bnd H
      refine To (O.C8 z (R4 aw _) z fun eA eB eC eD ax=>?_)
      obtain ⟨rfl,ay⟩:=ax
      refine I9 _ ay<|Vv (V.not z)<|Vv (V.M0 z z)<|Vv (V.J9 z z)<|Nt<|T.met (!au) Li (K4 H) (A9.app ⟨z,trivial⟩ ⟨z,z,z,trivial⟩) z
     refine Sk<|Sk<|Sk<|Vv (V.J9 z z)<|Vv (V.J9 z z)<|Nt<|T.met false Li (K4 H) (A9.app ⟨z,trivial⟩ ⟨z,z,z,trivial⟩) z
    refine Sk<|Sk<|Vv (V.J9 z z)<|Mv z<|Vv (V.fa A0C z)<|Vv (V.I6 (k:=3) F6 z a.u z)<|Vv (V.sne z z)<|Mv z<|T.bH 43 H z (fun H=>?_) (fun H=>?_)
    ·refine Mv z ?_
     obtain ⟨eE,aA,H⟩:=bnd H
     refine To (O.C8 z (A1o aA _) z fun eG eI eJ eK aB=>?_)
     obtain ⟨rfl,aC⟩:=aB
     refine I9 _ aC<|Vv (V.not z)<|Vv (V.M0 z z)<|Vv (V.J9 z z)<|Mv z<|T.bH 49 H z (fun H=>?_) (fun H=>?_)
     ·refine Sk<|Sk<|Sk<|Sk<|Sk<|Sk<|Sk<|Sk<|Vv (V.M0 z z)<|Mv z<|Sk<|Sk<|Sk<|Sk<|Sk<|Sk<|Sk<|Sk<|Vv (V.M0 z z)<|Nt<|T.met true Li (K4 H) (A9.app ⟨z,trivial⟩ ⟨z,z,z,trivial⟩) z
     refine Vv (V.fa X3 z)<|Vv (V.I6 (k:=4) F6 z a.u z)<|Vv (V.sne z z)<|Mv z<|T.bH 53 H z (fun H=>?_) (fun H=>?_)
     ·refine Mv z ?_
      obtain ⟨eM,aD,H⟩:=bnd H
      refine To (O.C8 z (Z7 aD _) z fun eN eO eP eS aE=>?_)
      obtain ⟨rfl,aG⟩:=aE
      refine I9 _ aG<|Vv (V.eq z z)<|Vv (V.M0 z z)<|Vv (V.J9 z z)<|Mv z<|T.bH 59 H z (fun H=>?_) (fun H=>?_)
      ·refine Sk<|Sk<|Sk<|Sk<|Sk<|Sk<|Sk<|Sk<|Vv (V.M0 z z)<|Nt<|T.met true Li (K4 H) (A9.app ⟨z,trivial⟩ ⟨z,z,z,trivial⟩) z
      refine Vv (V.fa O4 z)<|Vv (V.I6 (k:=5) D9 z a.u z)<|Vv (V.ne z z)<|Mv z<|T.bH 63 H z (fun H=>?_) (fun H=>?_)
      ·refine Mv z ?_
       obtain ⟨aI,aJ,H⟩:=bnd H
       refine To (O.C8 z (R4 aJ _) z fun eU eV eW eX aK=>?_)
       obtain ⟨rfl,aM⟩:=aK
       refine I9 _ aM<|Vv (V.not z)<|Vv (V.M0 z z)<|Vv (V.J9 z z)<|Nt<|T.met (!aI) Li (K4 H) (A9.app ⟨z,trivial⟩ ⟨z,z,z,trivial⟩) z
      refine Sk<|Sk<|Sk<|Vv (V.J9 z z)<|Vv (V.J9 z z)<|Nt<|T.met false Li (K4 H) (A9.app ⟨z,trivial⟩ ⟨z,z,z,trivial⟩) z
     refine Sk<|Sk<|Sk<|Vv (V.J9 z z)<|Vv (V.J9 z z)<|Mv z<|Vv (V.fa O4 z)<|Vv (V.I6 (k:=5) D9 z a.u z)<|Vv (V.ne z z)<|Mv z<|T.bH 63 H z (fun H=>?_) (fun H=>?_)
     ·refine Mv z ?_
      obtain ⟨aN,aO,H⟩:=bnd H
      refine To (O.C8 z (R4 aO _) z fun eY eZ e0 e1 aP=>?_)
      obtain ⟨rfl,aS⟩:=aP
      refine I9 _ aS<|Vv (V.not z)<|Vv (V.M0 z z)<|Vv (V.J9 z z)<|Nt<|T.met (!aN) Li (K4 H) (A9.app ⟨z,trivial⟩ ⟨z,z,z,trivial⟩) z
     refine Sk<|Sk<|Sk<|Vv (V.J9 z z)<|Vv (V.J9 z z)<|Nt<|T.met false Li (K4 H) (A9.app ⟨z,trivial⟩ ⟨z,z,z,trivial⟩) z
    refine Sk<|Sk<|Sk<|Vv (V.J9 z z)<|Vv (V.J9 z z)<|Mv z<|Vv (V.fa X3 z)<|Vv (V.I6 (k:=4) F6 z a.u z)<|Vv (V.sne z z)<|Mv z<|T.bH 53 H z (fun H=>?_) (fun H=>?_)
    ·refine Mv z ?_
     obtain ⟨e2,aU,H⟩:=bnd H
     refine To (O.C8 z (Z7 aU _) z fun e3 e4 e5 e6 aV=>?_)
     obtain ⟨rfl,aW⟩:=aV
     refine I9 _ aW<|Vv (V.eq z z)<|Vv (V.M0 z z)<|Vv (V.J9 z z)<|Mv z<|T.bH 59 H z (fun H=>?_) (fun H=>?_)
     ·refine Sk<|Sk<|Sk<|Sk<|Sk<|Sk<|Sk<|Sk<|Vv (V.M0 z z)<|Nt<|T.met true Li (K4 H) (A9.app ⟨z,trivial⟩ ⟨z,z,z,trivial⟩) z
     refine Vv (V.fa O4 z)<|Vv (V.I6 (k:=5) D9 z a.u z)<|Vv (V.ne z z)<|Mv z<|T.bH 63 H z (fun H=>?_) (fun H=>?_)
     ·refine Mv z ?_
      obtain ⟨aX,aY,H⟩:=bnd H
      refine To (O.C8 z (R4 aY _) z fun e7 e8 e9 eh aZ=>?_)
      obtain ⟨rfl,a0⟩:=aZ
      refine I9 _ a0<|Vv (V.not z)<|Vv (V.M0 z z)<|Vv (V.J9 z z)<|Nt<|T.met (!aX) Li (K4 H) (A9.app ⟨z,trivial⟩ ⟨z,z,z,trivial⟩) z
     refine Sk<|Sk<|Sk<|Vv (V.J9 z z)<|Vv (V.J9 z z)<|Nt<|T.met false Li (K4 H) (A9.app ⟨z,trivial⟩ ⟨z,z,z,trivial⟩) z
    refine Sk<|Sk<|Sk<|Vv (V.J9 z z)<|Vv (V.J9 z z)<|Mv z<|Vv (V.fa O4 z)<|Vv (V.I6 (k:=5) D9 z a.u z)<|Vv (V.ne z z)<|Mv z<|T.bH 63 H z (fun H=>?_) (fun H=>?_)
    ·refine Mv z ?_
     obtain ⟨a1,a2,H⟩:=bnd H
     refine To (O.C8 z (R4 a2 _) z fun el ev ez fb a3=>?_)
     obtain ⟨rfl,a4⟩:=a3
     refine I9 _ a4<|Vv (V.not z)<|Vv (V.M0 z z)<|Vv (V.J9 z z)<|Nt<|T.met (!a1) Li (K4 H) (A9.app ⟨z,trivial⟩ ⟨z,z,z,trivial⟩) z
    refine Sk<|Sk<|Sk<|Vv (V.J9 z z)<|Vv (V.J9 z z)<|Nt<|T.met false Li (K4 H) (A9.app ⟨z,trivial⟩ ⟨z,z,z,trivial⟩) z
   refine Sk<|Sk<|Sk<|Vv (V.J9 z z)<|Mv z<|Sk<|Sk<|Vv (V.J9 z z)<|Mv z<|Vv (V.fa A0C z)<|Vv (V.I6 (k:=3) F6 z a.u z)<|Vv (V.sne z z)<|Mv z<|T.bH 43 H z (fun H=>?_) (fun H=>?_)
   ·refine Mv z ?_
    obtain ⟨fc,a5,H⟩:=bnd H
    refine To (O.C8 z (A1o a5 _) z fun fd fe ff fg a6=>?_)
    obtain ⟨rfl,a7⟩:=a6
    refine I9 _ a7<|Vv (V.not z)<|Vv (V.M0 z z)<|Vv (V.J9 z z)<|Mv z<|T.bH 49 H z (fun H=>?_) (fun H=>?_)
    ·refine Sk<|Sk<|Sk<|Sk<|Sk<|Sk<|Sk<|Sk<|Vv (V.M0 z z)<|Mv z<|Sk<|Sk<|Sk<|Sk<|Sk<|Sk<|Sk<|Sk<|Vv (V.M0 z z)<|Nt<|T.met true Li (K4 H) (A9.app ⟨z,trivial⟩ ⟨z,z,z,trivial⟩) z
    refine Vv (V.fa X3 z)<|Vv (V.I6 (k:=4) F6 z a.u z)<|Vv (V.sne z z)<|Mv z<|T.bH 53 H z (fun H=>?_) (fun H=>?_)
    ·refine Mv z ?_
     obtain ⟨fi,a8,H⟩:=bnd H
     refine To (O.C8 z (Z7 a8 _) z fun fj fk fm fn a9=>?_)
     obtain ⟨rfl,ah⟩:=a9
     refine I9 _ ah<|Vv (V.eq z z)<|Vv (V.M0 z z)<|Vv (V.J9 z z)<|Mv z<|T.bH 59 H z (fun H=>?_) (fun H=>?_)
     ·refine Sk<|Sk<|Sk<|Sk<|Sk<|Sk<|Sk<|Sk<|Vv (V.M0 z z)<|Nt<|T.met true Li (K4 H) (A9.app ⟨z,trivial⟩ ⟨z,z,z,trivial⟩) z
     refine Vv (V.fa O4 z)<|Vv (V.I6 (k:=5) D9 z a.u z)<|Vv (V.ne z z)<|Mv z<|T.bH 63 H z (fun H=>?_) (fun H=>?_)
     ·refine Mv z ?_
      obtain ⟨al,av,H⟩:=bnd H
      refine To (O.C8 z (R4 av _) z fun fo fp fq fr az=>?_)
      obtain ⟨rfl,ba⟩:=az
      refine I9 _ ba<|Vv (V.not z)<|Vv (V.M0 z z)<|Vv (V.J9 z z)<|Nt<|T.met (!al) Li (K4 H) (A9.app ⟨z,trivial⟩ ⟨z,z,z,trivial⟩) z
     refine Sk<|Sk<|Sk<|Vv (V.J9 z z)<|Vv (V.J9 z z)<|Nt<|T.met false Li (K4 H) (A9.app ⟨z,trivial⟩ ⟨z,z,z,trivial⟩) z
    refine Sk<|Sk<|Sk<|Vv (V.J9 z z)<|Vv (V.J9 z z)<|Mv z<|Vv (V.fa O4 z)<|Vv (V.I6 (k:=5) D9 z a.u z)<|Vv (V.ne z z)<|Mv z<|T.bH 63 H z (fun H=>?_) (fun H=>?_)
    ·refine Mv z ?_
     obtain ⟨bb,bc,H⟩:=bnd H
     refine To (O.C8 z (R4 bc _) z fun fs ft fu fw bd=>?_)
     obtain ⟨rfl,be⟩:=bd
     refine I9 _ be<|Vv (V.not z)<|Vv (V.M0 z z)<|Vv (V.J9 z z)<|Nt<|T.met (!bb) Li (K4 H) (A9.app ⟨z,trivial⟩ ⟨z,z,z,trivial⟩) z
    refine Sk<|Sk<|Sk<|Vv (V.J9 z z)<|Vv (V.J9 z z)<|Nt<|T.met false Li (K4 H) (A9.app ⟨z,trivial⟩ ⟨z,z,z,trivial⟩) z
   refine Sk<|Sk<|Sk<|Vv (V.J9 z z)<|Vv (V.J9 z z)<|Mv z<|Vv (V.fa X3 z)<|Vv (V.I6 (k:=4) F6 z a.u z)<|Vv (V.sne z z)<|Mv z<|T.bH 53 H z (fun H=>?_) (fun H=>?_)
   ·refine Mv z ?_
    obtain ⟨fx,bf,H⟩:=bnd H
    refine To (O.C8 z (Z7 bf _) z fun fy fC fD fE bg=>?_)
    obtain ⟨rfl,bi⟩:=bg
    refine I9 _ bi<|Vv (V.eq z z)<|Vv (V.M0 z z)<|Vv (V.J9 z z)<|Mv z<|T.bH 59 H z (fun H=>?_) (fun H=>?_)
    ·refine Sk<|Sk<|Sk<|Sk<|Sk<|Sk<|Sk<|Sk<|Vv (V.M0 z z)<|Nt<|T.met true Li (K4 H) (A9.app ⟨z,trivial⟩ ⟨z,z,z,trivial⟩) z
    refine Vv (V.fa O4 z)<|Vv (V.I6 (k:=5) D9 z a.u z)<|Vv (V.ne z z)<|Mv z<|T.bH 63 H z (fun H=>?_) (fun H=>?_)
    ·refine Mv z ?_
     obtain ⟨bj,bk,H⟩:=bnd H
     refine To (O.C8 z (R4 bk _) z fun fG fI fJ fK bm=>?_)
     obtain ⟨rfl,bn⟩:=bm
     refine I9 _ bn<|Vv (V.not z)<|Vv (V.M0 z z)<|Vv (V.J9 z z)<|Nt<|T.met (!bj) Li (K4 H) (A9.app ⟨z,trivial⟩ ⟨z,z,z,trivial⟩) z
    refine Sk<|Sk<|Sk<|Vv (V.J9 z z)<|Vv (V.J9 z z)<|Nt<|T.met false Li (K4 H) (A9.app ⟨z,trivial⟩ ⟨z,z,z,trivial⟩) z
   refine Sk<|Sk<|Sk<|Vv (V.J9 z z)<|Vv (V.J9 z z)<|Mv z<|Vv (V.fa O4 z)<|Vv (V.I6 (k:=5) D9 z a.u z)<|Vv (V.ne z z)<|Mv z<|T.bH 63 H z (fun H=>?_) (fun H=>?_)
   ·refine Mv z ?_
    obtain ⟨bo,bp,H⟩:=bnd H
    refine To (O.C8 z (R4 bp _) z fun fM fN fO fP bq=>?_)
    obtain ⟨rfl,br⟩:=bq
    refine I9 _ br<|Vv (V.not z)<|Vv (V.M0 z z)<|Vv (V.J9 z z)<|Nt<|T.met (!bo) Li (K4 H) (A9.app ⟨z,trivial⟩ ⟨z,z,z,trivial⟩) z
   refine Sk<|Sk<|Sk<|Vv (V.J9 z z)<|Vv (V.J9 z z)<|Nt<|T.met false Li (K4 H) (A9.app ⟨z,trivial⟩ ⟨z,z,z,trivial⟩) z
  refine Sk<|Sk<|Sk<|Vv (V.J9 z z)<|Mv z<|Sk<|Sk<|Sk<|Vv (V.J9 z z)<|Mv z<|Sk<|Sk<|Vv (V.J9 z z)<|Mv z<|Vv (V.fa A0C z)<|Vv (V.I6 (k:=3) F6 z a.u z)<|Vv (V.sne z z)<|Mv z<|T.bH 43 H z (fun H=>?_) (fun H=>?_)
  ·refine Mv z ?_
   obtain ⟨fS,bs,H⟩:=bnd H
   refine To (O.C8 z (A1o bs _) z fun fU fV fW fZ bt=>?_)
   obtain ⟨rfl,bu⟩:=bt
   refine I9 _ bu<|Vv (V.not z)<|Vv (V.M0 z z)<|Vv (V.J9 z z)<|Mv z<|T.bH 49 H z (fun H=>?_) (fun H=>?_)
   ·refine Sk<|Sk<|Sk<|Sk<|Sk<|Sk<|Sk<|Sk<|Vv (V.M0 z z)<|Mv z<|Sk<|Sk<|Sk<|Sk<|Sk<|Sk<|Sk<|Sk<|Vv (V.M0 z z)<|Nt<|T.met true Li (K4 H) (A9.app ⟨z,trivial⟩ ⟨z,z,z,trivial⟩) z
   refine Vv (V.fa X3 z)<|Vv (V.I6 (k:=4) F6 z a.u z)<|Vv (V.sne z z)<|Mv z<|T.bH 53 H z (fun H=>?_) (fun H=>?_)
   ·refine Mv z ?_
    obtain ⟨f0,bw,H⟩:=bnd H
    refine To (O.C8 z (Z7 bw _) z fun f1 f2 f3 f4 bx=>?_)
    obtain ⟨rfl,bA⟩:=bx
    refine I9 _ bA<|Vv (V.eq z z)<|Vv (V.M0 z z)<|Vv (V.J9 z z)<|Mv z<|T.bH 59 H z (fun H=>?_) (fun H=>?_)
    ·refine Sk<|Sk<|Sk<|Sk<|Sk<|Sk<|Sk<|Sk<|Vv (V.M0 z z)<|Nt<|T.met true Li (K4 H) (A9.app ⟨z,trivial⟩ ⟨z,z,z,trivial⟩) z
    refine Vv (V.fa O4 z)<|Vv (V.I6 (k:=5) D9 z a.u z)<|Vv (V.ne z z)<|Mv z<|T.bH 63 H z (fun H=>?_) (fun H=>?_)
    ·refine Mv z ?_
     obtain ⟨bB,bC,H⟩:=bnd H
     refine To (O.C8 z (R4 bC _) z fun f5 f6 f7 f8 bD=>?_)
     obtain ⟨rfl,bE⟩:=bD
     refine I9 _ bE<|Vv (V.not z)<|Vv (V.M0 z z)<|Vv (V.J9 z z)<|Nt<|T.met (!bB) Li (K4 H) (A9.app ⟨z,trivial⟩ ⟨z,z,z,trivial⟩) z
    refine Sk<|Sk<|Sk<|Vv (V.J9 z z)<|Vv (V.J9 z z)<|Nt<|T.met false Li (K4 H) (A9.app ⟨z,trivial⟩ ⟨z,z,z,trivial⟩) z
   refine Sk<|Sk<|Sk<|Vv (V.J9 z z)<|Vv (V.J9 z z)<|Mv z<|Vv (V.fa O4 z)<|Vv (V.I6 (k:=5) D9 z a.u z)<|Vv (V.ne z z)<|Mv z<|T.bH 63 H z (fun H=>?_) (fun H=>?_)
   ·refine Mv z ?_
    obtain ⟨bG,bI,H⟩:=bnd H
    refine To (O.C8 z (R4 bI _) z fun f9 fh fv fz bJ=>?_)
    obtain ⟨rfl,bK⟩:=bJ
    refine I9 _ bK<|Vv (V.not z)<|Vv (V.M0 z z)<|Vv (V.J9 z z)<|Nt<|T.met (!bG) Li (K4 H) (A9.app ⟨z,trivial⟩ ⟨z,z,z,trivial⟩) z
   refine Sk<|Sk<|Sk<|Vv (V.J9 z z)<|Vv (V.J9 z z)<|Nt<|T.met false Li (K4 H) (A9.app ⟨z,trivial⟩ ⟨z,z,z,trivial⟩) z
  refine Sk<|Sk<|Sk<|Vv (V.J9 z z)<|Vv (V.J9 z z)<|Mv z<|Vv (V.fa X3 z)<|Vv (V.I6 (k:=4) F6 z a.u z)<|Vv (V.sne z z)<|Mv z<|T.bH 53 H z (fun H=>?_) (fun H=>?_)
  ·refine Mv z ?_
   obtain ⟨ga,bM,H⟩:=bnd H
   refine To (O.C8 z (Z7 bM _) z fun gb gc gd ge bN=>?_)
   obtain ⟨rfl,bO⟩:=bN
   refine I9 _ bO<|Vv (V.eq z z)<|Vv (V.M0 z z)<|Vv (V.J9 z z)<|Mv z<|T.bH 59 H z (fun H=>?_) (fun H=>?_)
   ·refine Sk<|Sk<|Sk<|Sk<|Sk<|Sk<|Sk<|Sk<|Vv (V.M0 z z)<|Nt<|T.met true Li (K4 H) (A9.app ⟨z,trivial⟩ ⟨z,z,z,trivial⟩) z
   refine Vv (V.fa O4 z)<|Vv (V.I6 (k:=5) D9 z a.u z)<|Vv (V.ne z z)<|Mv z<|T.bH 63 H z (fun H=>?_) (fun H=>?_)
   ·refine Mv z ?_
    obtain ⟨bP,bS,H⟩:=bnd H
    refine To (O.C8 z (R4 bS _) z fun gf gg gi gj bU=>?_)
    obtain ⟨rfl,bV⟩:=bU
    refine I9 _ bV<|Vv (V.not z)<|Vv (V.M0 z z)<|Vv (V.J9 z z)<|Nt<|T.met (!bP) Li (K4 H) (A9.app ⟨z,trivial⟩ ⟨z,z,z,trivial⟩) z
   refine Sk<|Sk<|Sk<|Vv (V.J9 z z)<|Vv (V.J9 z z)<|Nt<|T.met false Li (K4 H) (A9.app ⟨z,trivial⟩ ⟨z,z,z,trivial⟩) z
  refine Sk<|Sk<|Sk<|Vv (V.J9 z z)<|Vv (V.J9 z z)<|Mv z<|Vv (V.fa O4 z)<|Vv (V.I6 (k:=5) D9 z a.u z)<|Vv (V.ne z z)<|Mv z<|T.bH 63 H z (fun H=>?_) (fun H=>?_)
  ·refine Mv z ?_
   obtain ⟨bW,bX,H⟩:=bnd H
   refine To (O.C8 z (R4 bX _) z fun gk gm gn go bY=>?_)
   obtain ⟨rfl,bZ⟩:=bY
   refine I9 _ bZ<|Vv (V.not z)<|Vv (V.M0 z z)<|Vv (V.J9 z z)<|Nt<|T.met (!bW) Li (K4 H) (A9.app ⟨z,trivial⟩ ⟨z,z,z,trivial⟩) z
  refine Sk<|Sk<|Sk<|Vv (V.J9 z z)<|Vv (V.J9 z z)<|Nt<|T.met false Lr (K4 H) (A9.app ⟨z,trivial⟩ ⟨z,z,z,trivial⟩) z
 rintro f gp gq b0
 have H:=J5 b0 I
 refine T.norm [68,2,3,5] z<|T.fl ?_
 refine T.cH H z (fun H=>?_) (fun H=>?_)
 ·refine Sr<|Ag z<|Nt<|T.ret<|Tr ?_
  obtain rfl:=Option.some.inj H
  exact T.F5 Tryz.results24 (Rv z) Li ⟨z,z⟩
 refine T.skip<|Th<|Sq<|Sq ?_
 obtain ⟨b1,b2,b3⟩:=N7 H
 refine T.O5 (α:=Bool) [2,3,5] z (fun g=>[(92,.bool g)]) (fun g=>L) (fun g hh=>b1 = g) ?_ ?_
 ·have H:=b2
  refine Rg<|Mv z ?_
  obtain ⟨gr,b4,H⟩:=bnd H
  refine To (O.C8 z (A1o b4 _) z fun gs gu gw gx b5=>?_)
  obtain ⟨rfl,b6⟩:=b5
  refine I9 _ b6<|Mv z<|T.bH 71 H z (fun H=>?_) (fun H=>?_)
  ·refine Sk<|Sk<|Vv (V.M0 z z)<|Mv z<|Mv z<|Vv (V.eq z z)<|Mv z<|T.bH 78 H z (fun H=>?_) (fun H=>?_)
   ·refine Vv (V.fa Y8 z)<|Vv (V.I6 (k:=2) F6 z a.u z)<|Vv (V.seq z z)<|Vv (V.M0 z z)<|Vv (V.not z)<|Vv (V.M0 z z)<|Mv z<|T.bH 85 H z (fun H=>?_) (fun H=>?_)
    ·refine Vv (V.fa M3 z)<|Vv (V.I6 (k:=1) J3 z b.u z)<|Vv (V.fa Y8 z)<|Vv (V.I6 (k:=2) F6 z a.u z) ?_
     obtain ⟨b7,b8,H⟩:=bnd H
     refine To (O.C8 z (A2n d.u b8 _) z fun gy gA gB gC b9=>?_)
     obtain ⟨rfl,bh⟩:=b9
     refine I9 _ bh<|Vv (V.lt z z)<|Vv (V.M0 z z)<|Nt<|T.met (decide (b7 < (0:Int))) Li (K4 H) (A9.app ⟨z,trivial⟩ ⟨z,z,z,trivial⟩) z
    refine Sk<|Sk<|Sk<|Sk<|Sk<|Sk<|Vv (V.J9 z z)<|Nt<|T.met false Li (K4 H) (A9.app ⟨z,trivial⟩ ⟨z,z,z,trivial⟩) z
   refine Sk<|Sk<|Sk<|Vv (V.J9 z z)<|Vv (V.not z)<|Vv (V.M0 z z)<|Mv z<|Vv (V.fa M3 z)<|Vv (V.I6 (k:=1) J3 z b.u z)<|Vv (V.fa Y8 z)<|Vv (V.I6 (k:=2) F6 z a.u z) ?_
   obtain ⟨bl,bv,H⟩:=bnd H
   refine To (O.C8 z (A2n d.u bv _) z fun gD gE gG gI bz=>?_)
   obtain ⟨rfl,ca⟩:=bz
   refine I9 _ ca<|Vv (V.lt z z)<|Vv (V.M0 z z)<|Nt<|T.met (decide (bl < (0:Int))) Li (K4 H) (A9.app ⟨z,trivial⟩ ⟨z,z,z,trivial⟩) z
  refine Mv z ?_
  obtain ⟨gJ,cb,H⟩:=bnd H
  refine To (O.C8 z (B5p cb _) z fun gK gM gN gO cc=>?_)
  obtain ⟨rfl,cd⟩:=cc
  refine I9 _ cd<|Vv (V.J9 z z)<|Mv z<|T.bH 75 H z (fun H=>?_) (fun H=>?_)
  ·refine Mv z<|Vv (V.eq z z)<|Mv z<|T.bH 78 H z (fun H=>?_) (fun H=>?_)
   ·refine Vv (V.fa Y8 z)<|Vv (V.I6 (k:=2) F6 z a.u z)<|Vv (V.seq z z)<|Vv (V.M0 z z)<|Vv (V.not z)<|Vv (V.M0 z z)<|Mv z<|T.bH 85 H z (fun H=>?_) (fun H=>?_)
    ·refine Vv (V.fa M3 z)<|Vv (V.I6 (k:=1) J3 z b.u z)<|Vv (V.fa Y8 z)<|Vv (V.I6 (k:=2) F6 z a.u z) ?_
     obtain ⟨ce,cf,H⟩:=bnd H
     refine To (O.C8 z (A2n d.u cf _) z fun gP gS gU gV cg=>?_)
     obtain ⟨rfl,ci⟩:=cg
     refine I9 _ ci<|Vv (V.lt z z)<|Vv (V.M0 z z)<|Nt<|T.met (decide (ce < (0:Int))) Li (K4 H) (A9.app ⟨z,trivial⟩ ⟨z,z,z,trivial⟩) z
    refine Sk<|Sk<|Sk<|Sk<|Sk<|Sk<|Vv (V.J9 z z)<|Nt<|T.met false Li (K4 H) (A9.app ⟨z,trivial⟩ ⟨z,z,z,trivial⟩) z
   refine Sk<|Sk<|Sk<|Vv (V.J9 z z)<|Vv (V.not z)<|Vv (V.M0 z z)<|Mv z<|Vv (V.fa M3 z)<|Vv (V.I6 (k:=1) J3 z b.u z)<|Vv (V.fa Y8 z)<|Vv (V.I6 (k:=2) F6 z a.u z) ?_
   obtain ⟨cj,ck,H⟩:=bnd H
   refine To (O.C8 z (A2n d.u ck _) z fun gW gX gY gZ cm=>?_)
   obtain ⟨rfl,cn⟩:=cm
   refine I9 _ cn<|Vv (V.lt z z)<|Vv (V.M0 z z)<|Nt<|T.met (decide (cj < (0:Int))) Li (K4 H) (A9.app ⟨z,trivial⟩ ⟨z,z,z,trivial⟩) z
  refine Sk<|Sk<|Sk<|Sk<|Sk<|Sk<|Sk<|Sk<|Vv (V.J9 z z)<|Mv z<|Sk<|Sk<|Sk<|Sk<|Sk<|Sk<|Vv (V.J9 z z)<|Nt<|T.met false Li (K4 H) (A9.app ⟨z,trivial⟩ ⟨z,z,z,trivial⟩) z
 rintro g g0 g1 co
 have H:=J5 co b3
 refine T.norm [92,2,3,5] z<|T.fl ?_
 refine T.cH H z (fun H=>?_) (fun H=>?_)
 ·refine Sr<|Ag z<|Nt<|T.ret<|Tr ?_
  obtain rfl:=Option.some.inj H
  exact T.F5 Tryz.results24 (Rv z) Li ⟨z,z⟩
 refine T.skip<|Th<|Sq<|Sq ?_
 obtain ⟨cp,cq,cr⟩:=N7 H
 refine T.O5 (α:=Bool) [2,3,5] z (fun i=>[(102,.bool i)]) (fun i=>L) (fun i hh=>cp = i) ?_ ?_
 ·have H:=cq
  refine Rg<|Mv z ?_
  obtain ⟨g2,cs,H⟩:=bnd H
  refine To (O.C8 z (A1o cs _) z fun g3 g4 g5 g6 ct=>?_)
  obtain ⟨rfl,cu⟩:=ct
  refine I9 _ cu<|Mv z<|T.bH 95 H z (fun H=>?_) (fun H=>?_)
  ·refine Vv (V.fa M3 z)<|Vv (V.I6 (k:=1) J3 z b.u z)<|Vv (V.fa A0C z)<|Vv (V.I6 (k:=3) F6 z a.u z) ?_
   obtain ⟨cw,cx,H⟩:=bnd H
   refine To (O.C8 z (A2n d.u cx _) z fun g7 g8 g9 gh cy=>?_)
   obtain ⟨rfl,cA⟩:=cy
   refine I9 _ cA<|Vv (V.lt z z)<|Vv (V.M0 z z)<|Nt<|T.met (decide (cw < (0:Int))) Li (K4 H) (A9.app ⟨z,trivial⟩ ⟨z,z,z,trivial⟩) z
  refine Sk<|Sk<|Sk<|Sk<|Sk<|Sk<|Vv (V.J9 z z)<|Nt<|T.met false Li (K4 H) (A9.app ⟨z,trivial⟩ ⟨z,z,z,trivial⟩) z
 rintro i gl gv cB
 have H:=J5 cB cr
 refine T.norm [102,2,3,5] z<|T.fl ?_
 refine T.cH H z (fun H=>?_) (fun H=>?_)
 ·refine Sr<|Ag z<|Nt<|T.ret<|Tr ?_
  obtain rfl:=Option.some.inj H
  exact T.F5 Tryz.results24 (Rv z) Li ⟨z,z⟩
 refine T.skip<|Th<|Sq<|Sq ?_
 obtain ⟨cC,cD,cE⟩:=N7 H
 refine T.O5 (α:=Bool) [2,3,5] z (fun j=>[(110,.bool j)]) (fun j=>L) (fun j hh=>cC = j) ?_ ?_
 ·have H:=cD
  refine Rg<|Mv z<|Vv (V.eq z z)<|Mv z<|T.bH 105 H z (fun H=>?_) (fun H=>?_)
  ·refine Vv (V.fa Y8 z)<|Vv (V.I6 (k:=2) F6 z a.u z) ?_
   obtain ⟨cG,cI,H⟩:=bnd H
   refine To (O.C8 z (A1t cI _) z fun gz ia ib ic cJ=>?_)
   obtain ⟨rfl,cK⟩:=cJ
   refine I9 _ cK<|Vv (V.not z)<|Vv (V.M0 z z)<|Nt<|T.met (!cG) Li (K4 H) (A9.app ⟨z,trivial⟩ ⟨z,z,z,trivial⟩) z
  refine Sk<|Sk<|Sk<|Sk<|Vv (V.J9 z z)<|Nt<|T.met false Lr (K4 H) (A9.app ⟨z,trivial⟩ ⟨z,z,z,trivial⟩) z
 rintro j id ie cM
 have H:=J5 cM cE
 refine T.norm [110,2,3,5] z<|T.fl ?_
 refine T.cH H z (fun H=>?_) (fun H=>?_)
 ·refine Sr<|Ag z<|Nt<|T.ret<|Tr ?_
  obtain rfl:=Option.some.inj H
  exact T.F5 Tryz.results24 (Rv z) Li ⟨z,z⟩
 refine T.skip<|Th<|Sq<|Sq ?_
 obtain ⟨cN,cO,cP⟩:=N7 H
 refine T.O5 (α:=Bool) [2,3,5] z (fun m=>[(119,.bool m)]) (fun m=>L) (fun m hh=>cN = m) ?_ ?_
 ·have H:=cO
  refine Rg<|Mv z ?_
  obtain ⟨ig,cS,H⟩:=bnd H
  refine To (O.C8 z (A1o cS _) z fun ii ij ik im cU=>?_)
  obtain ⟨rfl,cV⟩:=cU
  refine I9 _ cV<|Mv z<|T.bH 113 H z (fun H=>?_) (fun H=>?_)
  ·refine Vv (V.fa Y8 z)<|Vv (V.I6 (k:=2) F6 z a.u z)<|Vv (V.fa A0C z)<|Vv (V.I6 (k:=3) F6 z a.u z)<|Vv (V.seq z z)<|Vv (V.M0 z z)<|Nt<|T.met (decide (r12.fA = r12.fB)) Li (K4 H) (A9.app ⟨z,trivial⟩ ⟨z,z,z,trivial⟩) z
  refine Sk<|Sk<|Sk<|Sk<|Sk<|Vv (V.J9 z z)<|Nt<|T.met false Li (K4 H) (A9.app ⟨z,trivial⟩ ⟨z,z,z,trivial⟩) z
 rintro m io ip cW
 have H:=J5 cW cP
 refine T.norm [119,2,3,5] z<|T.fl ?_
 refine T.cH H z (fun H=>?_) (fun H=>?_)
 ·refine Sr<|Ag z<|Nt<|T.ret<|Tr ?_
  obtain rfl:=Option.some.inj H
  exact T.F5 Tryz.results24 (Rv z) Li ⟨z,z⟩
 refine T.skip<|Th<|Sr<|Vv (V.fa K3 z)<|Vv (V.I6 (k:=0) M9 z b.u z)<|Vv (V.fa X3 z)<|Vv (V.I6 (k:=4) F6 z a.u z) ?_
 obtain ⟨r,cX,H⟩:=bnd H
 refine To (O.C8 z (B6n q.u cX _) z fun iq ir it iu cY=>?_)
 obtain ⟨rfl,cZ⟩:=cY
 refine I9 _ cZ<|Ag z<|Nt<|Sq<|Sq ?_
 obtain ⟨c0,c1,c2⟩:=N7 H
 refine T.O5 (α:=Bool) [2,3,5,6] z (fun n=>[(145,.bool n)]) (fun n=>L) (fun n hh=>c0 = n) ?_ ?_
 ·have H:=c1
  refine Rg<|Mv z ?_
  obtain ⟨iw,c3,H⟩:=bnd H
  refine To (O.C8 z (Z7 c3 _) z fun iy iA iB iC c4=>?_)
  obtain ⟨rfl,c5⟩:=c4
  refine I9 _ c5<|Vv (V.eq z z)<|Mv z<|T.bH 128 H z (fun H=>?_) (fun H=>?_)
  ·refine Mv z<|Vv (V.lt z z)<|Vv (V.M0 z z)<|Mv z<|T.bH 132 H z (fun H=>?_) (fun H=>?_)
   ·refine Sk<|Sk<|Sk<|Sk<|Sk<|Sk<|Sk<|Sk<|Sk<|Sk<|Sk<|Sk<|Vv (V.M0 z z)<|Nt<|T.met true Li (K4 H) (A9.app ⟨z,trivial⟩ ⟨z,z,z,z,trivial⟩) z
   refine Mv z ?_
   obtain ⟨iD,c6,H⟩:=bnd H
   refine To (O.C8 z (Z7 c6 _) z fun iE iG iI iJ c7=>?_)
   obtain ⟨rfl,c8⟩:=c7
   refine I9 _ c8<|Vv (V.eq z z)<|Mv z<|T.bH 136 H z (fun H=>?_) (fun H=>?_)
   ·refine Vv (V.fa X3 z)<|Vv (V.I6 (k:=4) F6 z a.u z)<|Vv (V.sne z z)<|Vv (V.M0 z z)<|Mv z<|T.bH 141 H z (fun H=>?_) (fun H=>?_)
    ·refine Mv z<|Vv (V.lt z z)<|Vv (V.M0 z z)<|Vv (V.J9 z z)<|Nt<|T.met (decide (r < (0:Int))) Li (K4 H) (A9.app ⟨z,trivial⟩ ⟨z,z,z,z,trivial⟩) z
    refine Sk<|Sk<|Vv (V.J9 z z)<|Vv (V.J9 z z)<|Nt<|T.met false Li (K4 H) (A9.app ⟨z,trivial⟩ ⟨z,z,z,z,trivial⟩) z
   refine Sk<|Sk<|Sk<|Vv (V.J9 z z)<|Mv z<|Sk<|Sk<|Vv (V.J9 z z)<|Vv (V.J9 z z)<|Nt<|T.met false Li (K4 H) (A9.app ⟨z,trivial⟩ ⟨z,z,z,z,trivial⟩) z
  refine Sk<|Sk<|Vv (V.J9 z z)<|Mv z<|Mv z ?_
  obtain ⟨iK,c9,H⟩:=bnd H
  refine To (O.C8 z (Z7 c9 _) z fun iM iN iO iP ch=>?_)
  obtain ⟨rfl,cl⟩:=ch
  refine I9 _ cl<|Vv (V.eq z z)<|Mv z<|T.bH 136 H z (fun H=>?_) (fun H=>?_)
  ·refine Vv (V.fa X3 z)<|Vv (V.I6 (k:=4) F6 z a.u z)<|Vv (V.sne z z)<|Vv (V.M0 z z)<|Mv z<|T.bH 141 H z (fun H=>?_) (fun H=>?_)
   ·refine Mv z<|Vv (V.lt z z)<|Vv (V.M0 z z)<|Vv (V.J9 z z)<|Nt<|T.met (decide (r < (0:Int))) Li (K4 H) (A9.app ⟨z,trivial⟩ ⟨z,z,z,z,trivial⟩) z
   refine Sk<|Sk<|Vv (V.J9 z z)<|Vv (V.J9 z z)<|Nt<|T.met false Li (K4 H) (A9.app ⟨z,trivial⟩ ⟨z,z,z,z,trivial⟩) z
  refine Sk<|Sk<|Sk<|Vv (V.J9 z z)<|Mv z<|Sk<|Sk<|Vv (V.J9 z z)<|Vv (V.J9 z z)<|Nt<|T.met false Li (K4 H) (A9.app ⟨z,trivial⟩ ⟨z,z,z,z,trivial⟩) z
 rintro n iS iU cv
 have H:=J5 cv c2
 refine T.norm [145,2,3,5,6] z<|T.fl ?_
 refine T.cH H z (fun H=>?_) (fun H=>?_)
 ·refine Sr<|Ag z<|Nt<|T.ret<|Tr ?_
  obtain rfl:=Option.some.inj H
  exact T.F5 Tryz.results24 (Rv z) Li ⟨z,z⟩
 refine T.skip<|Th<|Sr<|Ag z<|Nt<|Sr<|Ag z<|Nt<|Sq<|Sr<|Mv z<|Vv (V.eq z z)<|Nt ?_
 obtain ⟨cz,da,db⟩:=N7 H
 refine T.O5 (α:=Int) [2,3,5,6,8] z (fun o=>[(7,.int .i64 o)]) (fun o=>L) (fun o hh=>cz = o) ?_ ?_
 ·have H:=da
  refine T.cH H z (fun H=>?_) (fun H=>?_)
  ·refine Rg<|Ag z<|Nt<|T.met (1:Int) Lr (K4 H) (A9.app ⟨z,trivial⟩ ⟨z,z,z,z,z,trivial⟩) z
  refine T.skip<|Th<|T.met (0:Int) Lr (K4 H) (A9.app ⟨z,trivial⟩ ⟨z,z,z,z,z,trivial⟩) z
 rintro o dc iV dd
 have H:=J5 dd db
 refine T.norm [7,2,3,5,6,8] z<|T.fl ?_
 refine Sq<|Sr<|Mv z<|Vv (V.eq z z)<|Nt ?_
 obtain ⟨de,df,dg⟩:=N7 H
 refine T.O5 (α:=Int) [3,5,7] z (fun p=>[(8,.int .i64 p)]) (fun p=>L) (fun p hh=>de = p) ?_ ?_
 ·have H:=df
  refine T.cH H z (fun H=>?_) (fun H=>?_)
  ·refine Rg<|Vv (V.fa K3 z)<|Vv (V.I6 (k:=0) M9 z b.u z)<|Mv z ?_
   obtain ⟨c,s,H⟩:=bnd H
   obtain ⟨iW,di,⟨t,rfl,dj⟩⟩:=G9.at q s
   refine Vv (V.ix O0 rfl rfl q (H6 s))<|Vv (V.Z9 rfl di.u (by exact U4)) ?_
   obtain ⟨iX,dk,H⟩:=bnd H
   refine To (O.C8 z (A8n (show E8 dc [.string c.H7,.int .u8 c.N9,.int .i64 c.fA,.int .i64 c.fB,t,.int .i64 c.fX,.int .i64 c.fY] c from ⟨t,z,dj.u⟩) dk _) z fun iY iZ i0 i1 dm=>?_)
   obtain ⟨rfl,dn⟩:=dm
   refine I9 _ dn ?_
   obtain ⟨dp,dq,H⟩:=bnd H
   refine Vv (V.A0M z z dq)<|Ag z<|Nt<|T.met dp Li (K4 H) (A9.app ⟨z,trivial⟩ ⟨z,z,z,trivial⟩) z
  refine T.skip<|Th<|T.met (24:Int) Lr (K4 H) (A9.app ⟨z,trivial⟩ ⟨z,z,z,trivial⟩) z
 rintro p i2 i3 dr
 have H:=J5 dr dg
 refine T.norm [8,3,5,7] z<|T.fl ?_
 refine Sq<|Sr<|Mv z ?_
 obtain ⟨i4,ds,H⟩:=bnd H
 refine To (O.C8 z (R4 ds _) z fun i5 i6 i7 i8 dt=>?_)
 obtain ⟨rfl,du⟩:=dt
 refine I9 _ du<|Mv z<|T.bH 159 H z (fun H=>?_) (fun H=>?_)
 ·refine Vv (V.fa O4 z)<|Vv (V.I6 (k:=5) D9 z a.u z)<|Mv z<|Vv (V.lt z z)<|Mv z<|T.bH 164 H z (fun H=>?_) (fun H=>?_)
  ·refine Sk<|Sk<|Sk<|Sk<|Vv (V.M0 z z)<|Vv (V.M0 z z)<|Nt<|Ct z<|Sr<|Ag z<|Nt<|T.ret<|Tr ?_
   obtain rfl:=Option.some.inj H
   exact T.F5 Tryz.results24 (Rv z) Li ⟨z,z⟩
  refine Vv (V.fa O4 z)<|Vv (V.I6 (k:=5) D9 z a.u z)<|Mv z<|Vv (V.gt z z)<|Vv (V.J9 z z)<|Vv (V.M0 z z)<|Nt<|T.cH H z (fun H=>?_) (fun H=>?_)
  ·refine Sr<|Ag z<|Nt<|T.ret<|Tr ?_
   obtain rfl:=Option.some.inj H
   exact T.F5 Tryz.results24 (Rv z) Li ⟨z,z⟩
  refine T.skip<|Th<|Sr<|Ag z<|Nt<|T.ret ?_
  obtain rfl:=Option.some.inj H
  exact T.F5 Tryz.results24 (Rv z) Li ⟨z,z⟩
 refine Sk<|Sk<|Sk<|Sk<|Sk<|Sk<|Sk<|Sk<|Sk<|Sk<|Vv (V.J9 z z)<|Nt<|Cf z<|T.skip<|Th<|Sr<|Ag z<|Nt<|T.ret ?_
 obtain rfl:=Option.some.inj H
 exact T.F5 Tryz.results24 (Rv z) Li ⟨z,z⟩
theorem B8r {h:PH} {pc0:List Value} {p1:A8} (pr0:C9 h pc0 p1) {r_0:Int} {r_1:Int} (H:A7j p1 = some (r_0,r_1)):∀ L,H5 Tryz.prog 6 [.agg pc0.toArray] h (L) (fun v h' L'=>v = .tuple #[.int .i64 r_0,.int .i64 r_1]∧L' = L):=by
 intro L
 obtain ⟨e,f,g,i,j,rfl,p,q,r,s,d⟩:=pr0
 refine H5.enter Tryz.func6 rfl Tryz.ntmps6 rfl<|Sr<|To (O.V3 rfl rfl rfl fun W A X m=>Ag z<|Ag z<|Nt<|Sr<|Vv (V.Z9 rfl m (by exact F9)) ?_)
 obtain ⟨⟨Y,Z⟩,B,H⟩:=bnd H
 refine To (O.C8 z (B9g (show C9 A [e,f,g,i,j] p1 from ⟨e,f,g,i,j,z,p.u,q.u,r.u,s.u,d.u⟩) B _) z fun aa ab ac ad C=>?_)
 obtain ⟨rfl,D⟩:=C
 refine I9 _ D<|Mv z<|Vv (V.ext z z)<|Vv (V.ext z z)<|Ag z<|Ag z<|Nt<|Sq<|Sr<|Mv z<|Vv (V.ne z z)<|Nt<|T.cH H z (fun H=>?_) (fun H=>?_)
 ·refine Sr<|Mv z<|Mv z<|Ag z<|Ag z<|Nt<|T.ret<|Tr ?_
  obtain ⟨rfl,rfl⟩:=inj2 H
  exact T.F5 Tryz.results6 (RVs.cons (RV.tmp z) (Rv z)) Li ⟨z,z⟩
 refine T.skip<|Th<|Sq<|Sr<|Ag z<|Nt ?_
 obtain ⟨w,E,o⟩:=N7 H
 refine T.O5 (α:=Unit) [] z (fun _u=>[]) (fun _u=>L) (fun _u hh=>w = (Sum.inl ())) ?_ ?_
 ·have H:=E
  refine Bl<|T.N8 (α:=Nat×Int) [1] z (fun ⟨b,c⟩=>[(6,.int .i64 c)]) (fun ⟨b,c⟩=>L) (fun ⟨b,c⟩ hh=>iter (A2k p1) b c = some w) (fun ⟨b,c⟩=>b) (FUEL,(0:Int)) ⟨z,trivial⟩ z H ?_
  rintro ⟨b,c⟩ x ae G
  obtain ⟨I,af,rfl,H,n⟩:=I4 G
  refine T.norm [6,1] z<|T.fl ?_
  refine Sq<|Sr<|Mv z<|Vv (V.fa T9 z)<|Vv (V.I6 (k:=4) Q8 z m.u z)<|Vv (V.P6 S9 z d)<|Vv (V.lt z z)<|Nt<|T.cH H z (fun H=>?_) (fun H=>?_)
  ·refine T.skip<|Th<|Sq<|Bl<|Sq<|Sq<|T.O8 (t:=(.v 0 (.v 1 (.v 2 (.v 3 (.v 4 (.v 5 (.alt 6 (.alt 7 .done .no) .no)))))))) 9 0 0 rfl rfl I8 (by kernel_rfl) ?_
   refine Tv z (V.Z9 rfl m.u (by exact F9)) ?_
   refine Tv z (V.fa T9 z)<|Tv z (V.I6 (k:=4) Q8 z m.u z)<|Tm z z ?_
   obtain ⟨a,y,H⟩:=bnd H
   obtain ⟨ag,J,rfl⟩:=G9.at d y
   refine Tv z (V.ix S9 rfl rfl d (H6 y))<|Tv z (V.Z9 rfl J.u (by exact A0k)) ?_
   obtain ⟨ai,K,H⟩:=bnd H
   refine Tp z z (SX.two (XA.fr [] Lr z) (XA.fr [] Lr z)) (O.C8 z (B8W (show C9 x [e,f,g,i,j] p1 from ⟨e,f,g,i,j,z,p.u,q.u,r.u,s.u,d.u⟩) (show H9 x [.int .u8 a.J4,.int .i64 a.Y6,.string a.fA,.string a.fB,.string a.V7,.int .i64 a.fN] a from z) K _) z fun aj ak am an M=>?_) T.Q9
   obtain ⟨rfl,N⟩:=M
   refine I9 _ N<|Ts z z (SX.two (XA.fr [] Li z) (XA.fr [] Li z)) (V.asg z) z ?_ T.Q9
   refine T.R5 (SX.two (XA.fr [] Li z) (XA.fr [] Li z))<|Th<|Sr<|Mv z<|Vv (V.ne z z)<|Nt<|T.cH H z (fun H=>?_) (fun H=>?_)
   ·refine Sr<|Mv z<|Mv z<|Ag z<|Ag z<|Nt<|T.ret<|Tr<|Br<|Tr<|Tr<|have H:=D7 H n; Br<|Tr<|have H:=J5 H o; ?_
    obtain ⟨rfl,rfl⟩:=inj2 H
    exact T.F5 Tryz.results6 (RVs.cons (RV.tmp z) (Rv z)) Li ⟨z,z⟩
   refine T.skip<|Th<|Sr<|Mv z<|Vv (V.ge z z)<|Nt<|T.cH H z (fun H=>?_) (fun H=>?_)
   ·refine Sr<|Mv z<|Ag z<|Ag z<|Nt<|T.ret<|Br<|Tr<|Tr<|have H:=D7 H n; Br<|Tr<|have H:=J5 H o; ?_
    obtain ⟨rfl,rfl⟩:=inj2 H
    exact T.F5 Tryz.results6 (RVs.cons (RV.tmp z) (Rv z)) Li ⟨z,z⟩
   refine T.skip<|Bn<|Th<|Rg<|Mv z ?_
   obtain ⟨P,S,H⟩:=bnd H
   refine Vv (V.L8 z z S)<|Ag z<|Nt<|T.again (I,P) Li (Nat.lt_succ_self _) (G8 H n) (A9.app ⟨z,trivial⟩ ⟨z,trivial⟩) z
  refine T.exit<|Te<|Te<|have H:=D7 H n; Be<|Th<|T.met () Li H (A9.app trivial trivial) z
 rintro _ ao ap U
 have H:=J5 U o
 refine T.norm [] z<|T.fl ?_
 refine Sr<|Ag z<|Ag z<|Nt<|T.ret ?_
 obtain ⟨rfl,rfl⟩:=inj2 H
 exact T.F5 Tryz.results6 (RVs.cons (RV.tmp z) (Rv z)) Li ⟨z,z⟩
theorem C4f {h:PH} {pc0:List Value} {p1:A8} (pr0:C9 h pc0 p1) {most12:Int} {r_0:Bool} (H:B7K p1 most12 = some r_0):∀ L,H5 Tryz.prog 4 [.agg pc0.toArray,.int .i64 most12] h (L) (fun v h' L'=>v = .bool r_0∧L' = L):=by
 intro L
 obtain ⟨g,i,j,m,n,rfl,b,c,d,e,f⟩:=pr0
 refine H5.enter Tryz.func4 z Tryz.ntmps4 z<|Sr<|To (O.V3 z z z fun o p q a=>Ag z<|Nt<|Sr<|Vv (V.fa K3 z)<|Vv (V.I6 (k:=0) M9 z a z)<|Vv (V.P6 O0 z b)<|Mv z<|Vv (V.le z z)<|Mv z<|T.bH 10 H z (fun H=>?_) (fun H=>?_))
 ·refine Vv (V.fa M3 z)<|Vv (V.I6 (k:=1) J3 z a z)<|Vv (V.P6 O9 z c)<|Mv z<|Vv (V.le z z)<|Vv (V.M0 z z)<|Mv z<|T.bH 17 H z (fun H=>?_) (fun H=>?_)
  ·refine Vv (V.fa Y3 z)<|Vv (V.I6 (k:=2) Q0 z a z)<|Vv (V.P6 X5 z d)<|Mv z<|Vv (V.le z z)<|Vv (V.M0 z z)<|Mv z<|T.bH 24 H z (fun H=>?_) (fun H=>?_)
   ·refine Vv (V.fa Y7 z)<|Vv (V.I6 (k:=3) F4 z a z)<|Vv (V.P6 D6 z e)<|Mv z<|Vv (V.le z z)<|Vv (V.M0 z z)<|Mv z<|T.bH 31 H z (fun H=>?_) (fun H=>?_)
    ·refine Vv (V.fa T9 z)<|Vv (V.I6 (k:=4) Q8 z a z)<|Vv (V.P6 S9 z f)<|Mv z<|Vv (V.le z z)<|Vv (V.M0 z z)<|Ag z<|Nt<|T.ret ?_
     obtain rfl:=Option.some.inj H
     exact T.F5 Tryz.results4 (Rv z) Li ⟨z,z⟩
    refine Sk<|Sk<|Sk<|Sk<|Sk<|Vv (V.J9 z z)<|Ag z<|Nt<|T.ret ?_
    obtain rfl:=Option.some.inj H
    exact T.F5 Tryz.results4 (Rv z) Li ⟨z,z⟩
   refine Sk<|Sk<|Sk<|Sk<|Sk<|Vv (V.J9 z z)<|Mv z<|Sk<|Sk<|Sk<|Sk<|Sk<|Vv (V.J9 z z)<|Ag z<|Nt<|T.ret ?_
   obtain rfl:=Option.some.inj H
   exact T.F5 Tryz.results4 (Rv z) Li ⟨z,z⟩
  refine Sk<|Sk<|Sk<|Sk<|Sk<|Vv (V.J9 z z)<|Mv z<|Sk<|Sk<|Sk<|Sk<|Sk<|Vv (V.J9 z z)<|Mv z<|Sk<|Sk<|Sk<|Sk<|Sk<|Vv (V.J9 z z)<|Ag z<|Nt<|T.ret ?_
  obtain rfl:=Option.some.inj H
  exact T.F5 Tryz.results4 (Rv z) Li ⟨z,z⟩
 refine Sk<|Sk<|Sk<|Sk<|Sk<|Vv (V.J9 z z)<|Mv z<|Sk<|Sk<|Sk<|Sk<|Sk<|Vv (V.J9 z z)<|Mv z<|Sk<|Sk<|Sk<|Sk<|Sk<|Vv (V.J9 z z)<|Mv z<|Sk<|Sk<|Sk<|Sk<|Sk<|Vv (V.J9 z z)<|Ag z<|Nt<|T.ret ?_
 obtain rfl:=Option.some.inj H
 exact T.F5 Tryz.results4 (Rv z) Li ⟨z,z⟩
end Go.Proofs.X
open Go Go.Proofs Go.Sl Go.Dm
namespace Go.Proofs.X
theorem C1Q : A1j Tryz.prog 55 = some (46,8,160):=by kernel_rfl
theorem C1T : A1j Tryz.prog 58 = some (44,20,248):=by kernel_rfl
theorem A9u : A1j Tryz.prog 65 = some (31,1,8):=by kernel_rfl
theorem B0B : O3 Tryz.prog 46 0 = some 0:=by kernel_rfl
theorem B1z : O3 Tryz.prog 46 3 = some 7:=by kernel_rfl
theorem C1N : zer Tryz.prog 44 = some (.agg #[.int .u8 (0),.string ⟨#[]⟩,.string ⟨#[]⟩,.string ⟨#[]⟩,.int .i64 (0),.int .i64 (0),.string ⟨#[]⟩,.bool false,.bool false,.slice none 0 0,.string ⟨#[]⟩,.string ⟨#[]⟩,.string ⟨#[]⟩,.int .i64 (0),.int .u8 (0),.int .i64 (0),.string ⟨#[]⟩,.string ⟨#[]⟩,.string ⟨#[]⟩,.int .i64 (0)]):=by kernel_rfl
theorem B5j {h:PH} {pv0:Value} {a1:List E5} (pr0:G9 G7 9 h pv0 a1) {pv1:Value} {b2:List E5} (pr1:G9 G7 9 h pv1 b2) {r_0:Bool} (H:B1i a1 b2 = some r_0):∀ L,H5 Tryz.prog 41 [pv0,pv1] h (L) (fun v h' L'=>v = .bool r_0∧L' = L):=by
 intro L
 refine H5.enter Tryz.func41 z Tryz.ntmps41 z<|Sr<|Ag z<|Nt<|Sq<|Sr<|Mv z<|Vv (V.P6 O9 z pr0)<|Mv z<|Vv (V.P6 O9 z pr1)<|Vv (V.ne z z)<|Nt<|T.cH H z (fun H=>?_) (fun H=>?_)
 ·exact dead H
 refine T.skip<|Th<|Sq<|Sr<|Ag z<|Nt ?_
 obtain ⟨b,c,d⟩:=N7 H
 refine T.O5 (α:=Unit) [] z (fun _u=>[]) (fun _u=>L) (fun _u hh=>b = ()) ?_ ?_
 ·have H:=c
  refine Bl<|T.N8 (α:=Nat) [0,5] z (fun a=>[]) (fun a=>L) (fun a hh=>iter (A7f a1) a () = some b) (fun a=>a) FUEL trivial z H ?_
  rintro a i j e
  obtain ⟨k,m,rfl,H,f⟩:=I4 e
  refine T.norm [0,5] z<|T.fl ?_
  refine Sq<|Sr<|Mv z<|Mv z<|Vv (V.P6 O9 z pr0)<|Vv (V.lt z z)<|Nt<|T.cH H z (fun H=>?_) (fun H=>?_)
  ·exact dead H
  refine T.exit<|Te<|Te<|have H:=D7 H f; Be<|Th<|T.met () Li H (A9.app trivial trivial) z
 rintro _ n o g
 have H:=J5 g d
 refine T.norm [] z<|T.fl ?_
 refine Sr<|Ag z<|Nt<|T.ret ?_
 obtain rfl:=Option.some.inj H
 exact T.F5 Tryz.results41 (Rv z) Li ⟨z,z⟩
theorem B7F {h:PH} {pv0:Value} {a1:List G6} (pr0:G9 I1 3 h pv0 a1) {pv1:Value} {b2:List G6} (pr1:G9 I1 3 h pv1 b2) {r_0:Bool} (H:B4X a1 b2 = some r_0):∀ L,H5 Tryz.prog 42 [pv0,pv1] h (L) (fun v h' L'=>v = .bool r_0∧L' = L):=by
 intro L
 refine H5.enter Tryz.func42 z Tryz.ntmps42 z<|Sr<|Ag z<|Nt<|Sq<|Sr<|Mv z<|Vv (V.P6 X5 z pr0)<|Mv z<|Vv (V.P6 X5 z pr1)<|Vv (V.ne z z)<|Nt<|T.cH H z (fun H=>?_) (fun H=>?_)
 ·exact dead H
 refine T.skip<|Th<|Sq<|Sr<|Ag z<|Nt ?_
 obtain ⟨b,c,d⟩:=N7 H
 refine T.O5 (α:=Unit) [] z (fun _u=>[]) (fun _u=>L) (fun _u hh=>b = ()) ?_ ?_
 ·have H:=c
  refine Bl<|T.N8 (α:=Nat) [0,5] z (fun a=>[]) (fun a=>L) (fun a hh=>iter (B0c a1) a () = some b) (fun a=>a) FUEL trivial z H ?_
  rintro a i j e
  obtain ⟨k,m,rfl,H,f⟩:=I4 e
  refine T.norm [0,5] z<|T.fl ?_
  refine Sq<|Sr<|Mv z<|Mv z<|Vv (V.P6 X5 z pr0)<|Vv (V.lt z z)<|Nt<|T.cH H z (fun H=>?_) (fun H=>?_)
  ·exact dead H
  refine T.exit<|Te<|Te<|have H:=D7 H f; Be<|Th<|T.met () Li H (A9.app trivial trivial) z
 rintro _ n o g
 have H:=J5 g d
 refine T.norm [] z<|T.fl ?_
 refine Sr<|Ag z<|Nt<|T.ret ?_
 obtain rfl:=Option.some.inj H
 exact T.F5 Tryz.results42 (Rv z) Li ⟨z,z⟩
theorem B5x {h:PH} {pv0:Value} {a1:List D5} (pr0:G9 E8 7 h pv0 a1) {pv1:Value} {b2:List D5} (pr1:G9 E8 7 h pv1 b2) {r_0:Bool} (H:B1s a1 b2 = some r_0):∀ L,H5 Tryz.prog 40 [pv0,pv1] h (L) (fun v h' L'=>v = .bool r_0∧L' = L):=by
 intro L
 refine H5.enter Tryz.func40 z Tryz.ntmps40 z<|Sr<|Ag z<|Nt<|Sq<|Sr<|Mv z<|Vv (V.P6 O0 z pr0)<|Mv z<|Vv (V.P6 O0 z pr1)<|Vv (V.ne z z)<|Nt<|T.cH H z (fun H=>?_) (fun H=>?_)
 ·exact dead H
 refine T.skip<|Th<|Sq<|Sr<|Ag z<|Nt ?_
 obtain ⟨b,c,d⟩:=N7 H
 refine T.O5 (α:=Unit) [] z (fun _u=>[]) (fun _u=>L) (fun _u hh=>b = ()) ?_ ?_
 ·have H:=c
  refine Bl<|T.N8 (α:=Nat) [0,5] z (fun a=>[]) (fun a=>L) (fun a hh=>iter (A7C a1) a () = some b) (fun a=>a) FUEL trivial z H ?_
  rintro a i j e
  obtain ⟨k,m,rfl,H,f⟩:=I4 e
  refine T.norm [0,5] z<|T.fl ?_
  refine Sq<|Sr<|Mv z<|Mv z<|Vv (V.P6 O0 z pr0)<|Vv (V.lt z z)<|Nt<|T.cH H z (fun H=>?_) (fun H=>?_)
  ·exact dead H
  refine T.exit<|Te<|Te<|have H:=D7 H f; Be<|Th<|T.met () Li H (A9.app trivial trivial) z
 rintro _ n o g
 have H:=J5 g d
 refine T.norm [] z<|T.fl ?_
 refine Sr<|Ag z<|Nt<|T.ret ?_
 obtain rfl:=Option.some.inj H
 exact T.F5 Tryz.results40 (Rv z) Li ⟨z,z⟩
theorem A6X {h:PH} {pc0:List Value} {a1:A8} (pr0:C9 h pc0 a1) {pc1:List Value} {b12:A8} (pr1:C9 h pc1 b12) {r_0:Bool} (H:A3I a1 b12 = some r_0):∀ L,H5 Tryz.prog 16 [.agg pc0.toArray,.agg pc1.toArray] h (L) (fun v h' L'=>v = .bool r_0∧L' = L):=by
 intro L
 obtain ⟨J,K,M,N,P,rfl,c,d,e,f,g⟩:=pr0
 obtain ⟨S,U,W,X,Y,rfl,i,j,m,n,o⟩:=pr1
 refine H5.enter Tryz.func16 z Tryz.ntmps16 z<|Sr<|To (O.V3 z z z fun Z aa ab a=>To (O.V3 z z z fun ac ad ae b=>Ag z<|Nt<|Sr<|Vv (V.fa K3 z)<|Vv (V.I6 (k:=0) M9 z a.u z)<|Vv (V.fa K3 z)<|Vv (V.I6 (k:=0) M9 z b z) ?_))
 obtain ⟨af,p,H⟩:=bnd H
 refine To (O.C8 z (B5x c.u i.u p _) z fun ag ai aj ak q=>?_)
 obtain ⟨rfl,r⟩:=q
 refine I9 _ r<|Mv z<|T.bH 10 H z (fun H=>?_) (fun H=>?_)
 ·refine Vv (V.fa M3 z)<|Vv (V.I6 (k:=1) J3 z a.u z)<|Vv (V.fa M3 z)<|Vv (V.I6 (k:=1) J3 z b.u z) ?_
  obtain ⟨am,s,H⟩:=bnd H
  refine To (O.C8 z (B5j d.u j.u s _) z fun an ao ap aq t=>?_)
  obtain ⟨rfl,w⟩:=t
  refine I9 _ w<|Vv (V.M0 z z)<|Mv z<|T.bH 17 H z (fun H=>?_) (fun H=>?_)
  ·refine Vv (V.fa Y3 z)<|Vv (V.I6 (k:=2) Q0 z a.u z)<|Vv (V.fa Y3 z)<|Vv (V.I6 (k:=2) Q0 z b.u z) ?_
   obtain ⟨ar,x,H⟩:=bnd H
   refine To (O.C8 z (B7F e.u m.u x _) z fun au aw ax ay y=>?_)
   obtain ⟨rfl,A⟩:=y
   refine I9 _ A<|Vv (V.M0 z z)<|Mv z<|T.bH 24 H z (fun H=>?_) (fun H=>?_)
   ·refine Vv (V.fa Y7 z)<|Vv (V.I6 (k:=3) F4 z a.u z)<|Vv (V.fa Y7 z)<|Vv (V.I6 (k:=3) F4 z b.u z) ?_
    obtain ⟨aA,B,H⟩:=bnd H
    refine To (O.C8 z (A0O f.u n.u B _) z fun aB aC aD aE C=>?_)
    obtain ⟨rfl,D⟩:=C
    refine I9 _ D<|Vv (V.M0 z z)<|Mv z<|T.bH 31 H z (fun H=>?_) (fun H=>?_)
    ·refine Vv (V.fa T9 z)<|Vv (V.I6 (k:=4) Q8 z a.u z)<|Vv (V.fa T9 z)<|Vv (V.I6 (k:=4) Q8 z b.u z) ?_
     obtain ⟨aG,E,H⟩:=bnd H
     refine To (O.C8 z (A8D g.u o.u E _) z fun aI aJ aK aM G=>?_)
     obtain ⟨rfl,I⟩:=G
     refine I9 _ I<|Vv (V.M0 z z)<|Ag z<|Nt<|T.ret ?_
     obtain rfl:=Option.some.inj H
     exact T.F5 Tryz.results16 (Rv z) Li ⟨z,z⟩
    exact dead H
   exact dead H
  exact dead H
 exact dead H
theorem A0u {h:PH} {pc0:List Value} {p1:A8} (pr0:C9 h pc0 p1) {pv1:Value} {part12:List Int} (pr1:G9 (VI .i64) 1 h pv1 part12) {r_0:Option F7} {r_1:Int} (H:A0w p1 part12 = some (r_0,r_1)):∀ L,H5 Tryz.prog 25 [.agg pc0.toArray,pv1] h (L) (fun v h' L'=>∃ w0,v = .tuple #[w0,.int .i64 r_1]∧L' = L∧OPt L6 h' w0 r_0):=by
 intro L
 obtain ⟨a,b,c,d,e,rfl,f,g,i,j,k⟩:=pr0
 refine H5.enter Tryz.func25 rfl Tryz.ntmps25 rfl<|Sr<|To (O.V3 rfl rfl rfl fun r m s n=>Ag z<|Ag z<|Nt<|Sr<|Vv (V.Z9 rfl n (by exact F9)) ?_)
 obtain ⟨⟨t,w,x⟩,o,H⟩:=bnd H
 refine To (O.C8 z (B0O (show C9 m [a,b,c,d,e] p1 from ⟨a,b,c,d,e,z,f.u,g.u,i.u,j.u,k.u⟩) o _) z fun y A B C p=>?_)
 obtain ⟨D,rfl,q,E⟩:=p
 refine I9 _ q<|Mv z<|Vv (V.ext z z)<|Vv (V.ext z z)<|Vv (V.ext z z)<|Ag z<|Ag z<|Ag z<|Nt<|Sq<|Sr<|Mv z<|Vv (V.ne z z)<|Nt<|T.cH H z (fun H=>?_) (fun H=>?_)
 ·refine Sr<|Mv z<|Ag z<|Ag z<|Nt<|T.ret<|Tr ?_
  obtain ⟨rfl,rfl⟩:=inj2 H
  exact T.F5 Tryz.results25 (RVs.cons (RV.tmp z) (Rv z)) Li ⟨_,z,z,OPt.nil⟩
 exact dead H
theorem B6j {h:PH} {pc0:List Value} {p1:A8} (pr0:C9 h pc0 p1) {pv1:Value} {part12:List Int} (pr1:G9 (VI .i64) 1 h pv1 part12) {pc2:List Value} {c13:M7} (pr2:U0 h pc2 c13) {r_0:Int} (H:A5f p1 part12 c13 = some r_0):∀ L,H5 Tryz.prog 18 [.agg pc0.toArray,pv1,.agg pc2.toArray] h (L) (fun v h' L'=>v = .int .i64 r_0∧L' = L):=by
 intro L
 obtain ⟨a,b,c,d,e,rfl,f,g,i,j,k⟩:=pr0
 obtain ⟨r,rfl,s⟩:=pr2
 refine H5.enter Tryz.func18 rfl Tryz.ntmps18 rfl<|Sr<|To (O.V3 rfl rfl rfl fun t w x m=>To (O.V3 rfl rfl rfl fun y n A B=>Ag z<|Nt<|Sr<|Vv (V.Z9 rfl m.u (by exact F9)) ?_))
 refine Mv z ?_
 obtain ⟨⟨C,D⟩,o,H⟩:=bnd H
 refine To (O.C8 z (A0u (show C9 n [a,b,c,d,e] p1 from ⟨a,b,c,d,e,z,f.u,g.u,i.u,j.u,k.u⟩) pr1.u o _) z fun E G I J p=>?_)
 obtain ⟨K,rfl,q,M⟩:=p
 refine I9 _ q<|Mv z<|Vv (V.ext z z)<|Vv (V.ext z z)<|Ag z<|Ag z<|Nt<|Sq<|Sr<|Mv z<|Vv (V.ne z z)<|Nt<|T.cH H z (fun H=>?_) (fun H=>?_)
 ·refine Sr<|Mv z<|Ag z<|Nt<|T.ret<|Tr ?_
  obtain rfl:=Option.some.inj H
  exact T.F5 Tryz.results18 (Rv z) Li ⟨z,z⟩
 exact dead H
theorem B6e {h:PH} {pc0:List Value} {p1:A8} (pr0:C9 h pc0 p1) {pv1:Value} {part12:List Int} (pr1:G9 (VI .i64) 1 h pv1 part12) {pc2:List Value} {c13:M7} (pr2:U0 h pc2 c13) {r_0:A8} {r_1:List Int} {r_2:Int} (H:A4X p1 part12 c13 = some (r_0,r_1,r_2)):∀ L,H5 Tryz.prog 7 [.agg pc0.toArray,pv1,.agg pc2.toArray] h (L) (fun v h' L'=>∃ v0_1 v0_3 v0_5 v0_7 v0_9 w1,v = .tuple #[.agg #[v0_1,v0_3,v0_5,v0_7,v0_9],w1,.int .i64 r_2]∧L' = L∧G9 E8 7 h' v0_1 r_0.H8∧G9 G7 9 h' v0_3 r_0.F3∧G9 I1 3 h' v0_5 r_0.J8∧G9 (VI .i64) 1 h' v0_7 r_0.K5∧G9 H9 6 h' v0_9 r_0.K9∧G9 (VI .i64) 1 h' w1 r_1):=by
 intro L
 obtain ⟨a,b,c,d,e,rfl,f,g,i,k,m⟩:=pr0
 obtain ⟨s,rfl,t⟩:=pr2
 refine H5.enter Tryz.func7 rfl Tryz.ntmps7 rfl<|Sr<|To (O.V3 rfl rfl rfl fun w x y n=>To (O.V3 rfl rfl rfl fun A o B C=>To (O.alloc A0l rfl rfl fun D=>Ag z<|Ag z<|Nt<|Sr<|Vv (V.Z9 rfl n.u (by exact F9)) ?_)))
 refine Mv z ?_
 obtain ⟨⟨E,G⟩,p,H⟩:=bnd H
 refine To (O.C8 z (A0u (show C9 o [a,b,c,d,e] p1 from ⟨a,b,c,d,e,z,f.u,g.u,i.u,k.u,m.u⟩) pr1.u p _) z fun I J K M q=>?_)
 obtain ⟨N,rfl,r,P⟩:=q
 refine I9 _ r<|Mv z<|Vv (V.ext z z)<|Vv (V.ext z z)<|Ag z<|Ag z<|Nt<|Sq<|Sr<|Mv z<|Vv (V.ne z z)<|Nt<|T.cH H z (fun H=>?_) (fun H=>?_)
 ·refine Sr<|Vv (V.bld (xs:=[]) (cs:=[_,_,_,_,_]) B1X B0y z F8.nil)<|Mv z<|To (O.stF (vs:=[.slice none 0 0,.slice none 0 0,.slice none 0 0,.slice none 0 0,.slice none 0 0]) F9 z z (j:=0) z z z z<|Ag z<|Ag z<|Nt<|T.ret<|Tr ?_)
  obtain ⟨rfl,rfl,rfl⟩:=B2G H
  exact T.A6Z (L':=L) Tryz.results7 (RVs.cons (RV.cellS z (j:=0) z F9) (RVs.cons (RV.tmp z) (Rv z))) Li (fun _ iv=>iv.drop) ⟨_,_,_,_,_,_,z,z,G9.nil,G9.nil,G9.nil,G9.nil,G9.nil,G9.nil⟩
 exact dead H
theorem B6r {h:PH} {pc0:List Value} {p1:A8} (pr0:C9 h pc0 p1) {pv1:Value} {part12:List Int} (pr1:G9 (VI .i64) 1 h pv1 part12) {most13:Int} {r_0:Int} (H:A4T p1 part12 most13 = some r_0):∀ L,H5 Tryz.prog 15 [.agg pc0.toArray,pv1,.int .i64 most13] h (L) (fun v h' L'=>v = .int .i64 r_0∧L' = L):=by
 intro L
 obtain ⟨a,b,c,d,e,rfl,f,g,i,j,k⟩:=pr0
 refine H5.enter Tryz.func15 rfl Tryz.ntmps15 rfl<|Sr<|To (O.V3 rfl rfl rfl fun r m s n=>Ag z<|Nt<|Sr<|Vv (V.Z9 rfl n (by exact F9)) ?_)
 refine Mv z ?_
 obtain ⟨⟨t,w⟩,o,H⟩:=bnd H
 refine To (O.C8 z (A0u (show C9 m [a,b,c,d,e] p1 from ⟨a,b,c,d,e,z,f.u,g.u,i.u,j.u,k.u⟩) pr1.u o _) z fun x y A B p=>?_)
 obtain ⟨C,rfl,q,D⟩:=p
 refine I9 _ q<|Mv z<|Vv (V.ext z z)<|Vv (V.ext z z)<|Ag z<|Ag z<|Nt<|Sq<|Sr<|Mv z<|Vv (V.ne z z)<|Nt<|T.cH H z (fun H=>?_) (fun H=>?_)
 ·refine Sr<|Ag z<|Nt<|T.ret<|Tr ?_
  obtain rfl:=Option.some.inj H
  exact T.F5 Tryz.results15 (Rv z) Li ⟨z,z⟩
 exact dead H
theorem B9l {h:PH} {pc0:List Value} {p1:A8} (pr0:C9 h pc0 p1) {pv1:Value} {part12:List Int} (pr1:G9 (VI .i64) 1 h pv1 part12) {most13:Int} {r_0:U6} {r_1:Int} (H:A7x p1 part12 most13 = some (r_0,r_1)):∀ L,H5 Tryz.prog 8 [.agg pc0.toArray,pv1,.int .i64 most13] h (L) (fun v h' L'=>∃ v0_1 v0_3 v0_5 v0_7 v0_9 v0_11,v = .tuple #[.agg #[v0_1,v0_3,v0_5,v0_7,v0_9,v0_11,.int .i64 r_0.A1X,.int .i64 r_0.A0B],.int .i64 r_1]∧L' = L∧G9 E8 7 h' v0_1 r_0.U8.H8∧G9 G7 9 h' v0_3 r_0.U8.F3∧G9 I1 3 h' v0_5 r_0.U8.J8∧G9 (VI .i64) 1 h' v0_7 r_0.U8.K5∧G9 H9 6 h' v0_9 r_0.U8.K9∧G9 (VI .i64) 1 h' v0_11 r_0.A1H):=by
 intro L
 obtain ⟨a,b,c,d,e,rfl,f,g,i,k,m⟩:=pr0
 refine H5.enter Tryz.func8 rfl Tryz.ntmps8 rfl<|Sr<|To (O.V3 rfl rfl rfl fun s n t o=>To (O.alloc A0L rfl rfl fun w=>Ag z<|Nt<|Sr<|Vv (V.Z9 rfl o (by exact F9)) ?_))
 refine Mv z ?_
 obtain ⟨⟨x,y⟩,p,H⟩:=bnd H
 refine To (O.C8 z (A0u (show C9 n [a,b,c,d,e] p1 from ⟨a,b,c,d,e,z,f.u,g.u,i.u,k.u,m.u⟩) pr1.u p _) z fun A B C D q=>?_)
 obtain ⟨E,rfl,r,G⟩:=q
 refine I9 _ r<|Mv z<|Vv (V.ext z z)<|Vv (V.ext z z)<|Ag z<|Ag z<|Nt<|Sq<|Sr<|Mv z<|Vv (V.ne z z)<|Nt<|T.cH H z (fun H=>?_) (fun H=>?_)
 ·refine Sr<|Vv (V.bld (xs:=[]) (cs:=[_,_,_,_,_,_,_,_]) A6b A6c z F8.nil)<|Mv z<|To (O.stF (vs:=[.slice none 0 0,.slice none 0 0,.slice none 0 0,.slice none 0 0,.slice none 0 0,.slice none 0 0,.int .i64 (0:Int),.int .i64 (0:Int)]) U7 z z (j:=0) z z z z<|Ag z<|Nt<|T.ret<|Tr ?_)
  obtain ⟨rfl,rfl⟩:=inj2 H
  exact T.A6Z (L':=L) Tryz.results8 (RVs.cons (RV.cellS z (j:=0) z U7) (Rv z)) Li (fun _ iv=>iv.drop) ⟨_,_,_,_,_,_,z,z,G9.nil,G9.nil,G9.nil,G9.nil,G9.nil,G9.nil⟩
 exact dead H
theorem B7I {h:PH} {pc0:List Value} {p1:A8} (pr0:C9 h pc0 p1) {pv1:Value} {part12:List Int} (pr1:G9 (VI .i64) 1 h pv1 part12) {g13:Int} {most14:Int} {r_0:U6} {r_1:Int} (H:A6f p1 part12 g13 most14 = some (r_0,r_1)):∀ L,H5 Tryz.prog 9 [.agg pc0.toArray,pv1,.int .i64 g13,.int .i64 most14] h (L) (fun v h' L'=>∃ v0_1 v0_3 v0_5 v0_7 v0_9 v0_11,v = .tuple #[.agg #[v0_1,v0_3,v0_5,v0_7,v0_9,v0_11,.int .i64 r_0.A1X,.int .i64 r_0.A0B],.int .i64 r_1]∧L' = L∧G9 E8 7 h' v0_1 r_0.U8.H8∧G9 G7 9 h' v0_3 r_0.U8.F3∧G9 I1 3 h' v0_5 r_0.U8.J8∧G9 (VI .i64) 1 h' v0_7 r_0.U8.K5∧G9 H9 6 h' v0_9 r_0.U8.K9∧G9 (VI .i64) 1 h' v0_11 r_0.A1H):=by
 intro L
 obtain ⟨a,b,c,d,e,rfl,f,g,i,k,m⟩:=pr0
 refine H5.enter Tryz.func9 rfl Tryz.ntmps9 rfl<|Sr<|To (O.V3 rfl rfl rfl fun s n t o=>To (O.alloc A0L rfl rfl fun w=>Ag z<|Nt<|Sr<|Vv (V.Z9 rfl o (by exact F9)) ?_))
 refine Mv z ?_
 obtain ⟨⟨x,y⟩,p,H⟩:=bnd H
 refine To (O.C8 z (A0u (show C9 n [a,b,c,d,e] p1 from ⟨a,b,c,d,e,z,f.u,g.u,i.u,k.u,m.u⟩) pr1.u p _) z fun A B C D q=>?_)
 obtain ⟨E,rfl,r,G⟩:=q
 refine I9 _ r<|Mv z<|Vv (V.ext z z)<|Vv (V.ext z z)<|Ag z<|Ag z<|Nt<|Sq<|Sr<|Mv z<|Vv (V.ne z z)<|Nt<|T.cH H z (fun H=>?_) (fun H=>?_)
 ·refine Sr<|Vv (V.bld (xs:=[]) (cs:=[_,_,_,_,_,_,_,_]) A6b A6c z F8.nil)<|Mv z<|To (O.stF (vs:=[.slice none 0 0,.slice none 0 0,.slice none 0 0,.slice none 0 0,.slice none 0 0,.slice none 0 0,.int .i64 (0:Int),.int .i64 (0:Int)]) U7 z z (j:=0) z z z z<|Ag z<|Nt<|T.ret<|Tr ?_)
  obtain ⟨rfl,rfl⟩:=inj2 H
  exact T.A6Z (L':=L) Tryz.results9 (RVs.cons (RV.cellS z (j:=0) z U7) (Rv z)) Li (fun _ iv=>iv.drop) ⟨_,_,_,_,_,_,z,z,G9.nil,G9.nil,G9.nil,G9.nil,G9.nil,G9.nil⟩
 exact dead H
theorem A9K {h:PH} {pc0:List Value} {p1:A8} (pr0:C9 h pc0 p1) {pv1:Value} {part12:List Int} (pr1:G9 (VI .i64) 1 h pv1 part12) {r_0:A8} {r_1:Int} (H:A4l p1 part12 = some (r_0,r_1)):∀ L,H5 Tryz.prog 10 [.agg pc0.toArray,pv1] h (L) (fun v h' L'=>∃ v0_1 v0_3 v0_5 v0_7 v0_9,v = .tuple #[.agg #[v0_1,v0_3,v0_5,v0_7,v0_9],.int .i64 r_1]∧L' = L∧G9 E8 7 h' v0_1 r_0.H8∧G9 G7 9 h' v0_3 r_0.F3∧G9 I1 3 h' v0_5 r_0.J8∧G9 (VI .i64) 1 h' v0_7 r_0.K5∧G9 H9 6 h' v0_9 r_0.K9):=by
 intro L
 obtain ⟨a,b,c,d,e,rfl,f,g,i,k,m⟩:=pr0
 refine H5.enter Tryz.func10 rfl Tryz.ntmps10 rfl<|Sr<|To (O.V3 rfl rfl rfl fun s n t o=>To (O.alloc A0l rfl rfl fun w=>Ag z<|Nt<|Sr<|Vv (V.Z9 rfl o (by exact F9)) ?_))
 refine Mv z ?_
 obtain ⟨⟨x,y⟩,p,H⟩:=bnd H
 refine To (O.C8 z (A0u (show C9 n [a,b,c,d,e] p1 from ⟨a,b,c,d,e,z,f.u,g.u,i.u,k.u,m.u⟩) pr1.u p _) z fun A B C D q=>?_)
 obtain ⟨E,rfl,r,G⟩:=q
 refine I9 _ r<|Mv z<|Vv (V.ext z z)<|Vv (V.ext z z)<|Ag z<|Ag z<|Nt<|Sq<|Sr<|Mv z<|Vv (V.ne z z)<|Nt<|T.cH H z (fun H=>?_) (fun H=>?_)
 ·refine Sr<|Vv (V.bld (xs:=[]) (cs:=[_,_,_,_,_]) B1X B0y z F8.nil)<|Mv z<|To (O.stF (vs:=[.slice none 0 0,.slice none 0 0,.slice none 0 0,.slice none 0 0,.slice none 0 0]) F9 z z (j:=0) z z z z<|Ag z<|Nt<|T.ret<|Tr ?_)
  obtain ⟨rfl,rfl⟩:=inj2 H
  exact T.A6Z (L':=L) Tryz.results10 (RVs.cons (RV.cellS z (j:=0) z F9) (Rv z)) Li (fun _ iv=>iv.drop) ⟨_,_,_,_,_,z,z,G9.nil,G9.nil,G9.nil,G9.nil,G9.nil⟩
 exact dead H
theorem B5M {h:PH} {pc0:List Value} {p1:A8} (pr0:C9 h pc0 p1) {pv1:Value} {part12:List Int} (pr1:G9 (VI .i64) 1 h pv1 part12) {moved13:Int} {r_0:List U1} {r_1:Int} (H:A5i p1 part12 moved13 = some (r_0,r_1)):∀ L,H5 Tryz.prog 11 [.agg pc0.toArray,pv1,.int .i64 moved13] h (L) (fun v h' L'=>∃ w0,v = .tuple #[w0,.int .i64 r_1]∧L' = L∧G9 Y9 2 h' w0 r_0):=by
 intro L
 obtain ⟨a,b,c,d,e,rfl,f,g,i,k,m⟩:=pr0
 refine H5.enter Tryz.func11 rfl Tryz.ntmps11 rfl<|Sr<|To (O.V3 rfl rfl rfl fun I n J o=>Ag z<|Ag z<|Nt<|Sr<|Vv (V.Z9 rfl o (by exact F9)) ?_)
 refine Mv z ?_
 obtain ⟨⟨K,M⟩,p,H⟩:=bnd H
 refine To (O.C8 z (A9K (show C9 n [a,b,c,d,e] p1 from ⟨a,b,c,d,e,z,f.u,g.u,i.u,k.u,m.u⟩) pr1.u p _) z fun N P S U q=>?_)
 obtain ⟨r,s,t,w,x,rfl,y,A,B,C,D,E⟩:=q
 refine I9 _ y<|Mv z<|Vv (V.ext rfl rfl)<|Vv (V.ext rfl rfl)<|To (O.alloc A0l rfl rfl fun W=>To (O.stF (vs:=[r,s,t,w,x]) F9 rfl rfl (j:=0) rfl rfl (by (simp only [Sl.ones,G9.one A,G9.one B,G9.one C,G9.one D,G9.one E,Bool.and_true,Bool.true_and]) <;> rfl) rfl ?_))
 refine T.freeze fun X Y G=>have Z:=AtC.of G; Ag z<|Nt<|Sq<|Sr<|Mv z<|Vv (V.ne z z)<|Nt<|T.cH H z (fun H=>?_) (fun H=>?_)
 ·refine Sr<|Mv z<|Ag z<|Ag z<|Nt<|T.ret<|Tr ?_
  obtain ⟨rfl,rfl⟩:=inj2 H
  exact T.F5 Tryz.results11 (RVs.cons (RV.tmp z) (Rv z)) Li ⟨_,z,z,G9.nil⟩
 exact dead H
theorem B4F {h:PH} {pc0:List Value} {p1:A8} (pr0:C9 h pc0 p1) {pv1:Value} {part12:List Int} (pr1:G9 (VI .i64) 1 h pv1 part12) {pv2:Value} {l13:List M7} (pr2:G9 U0 20 h pv2 l13) {most14:Int} {r_0:List U6} {r_1:Int} {r_2:Int} (H:A4q p1 part12 l13 most14 = some (r_0,r_1,r_2)):∀ L,H5 Tryz.prog 12 [.agg pc0.toArray,pv1,pv2,.int .i64 most14] h (L) (fun v h' L'=>∃ w0,v = .tuple #[w0,.int .i64 r_1,.int .i64 r_2]∧L' = L∧G9 A2x 8 h' w0 r_0):=by
 intro L
 obtain ⟨a,b,c,d,e,rfl,f,g,i,k,m⟩:=pr0
 refine H5.enter Tryz.func12 rfl Tryz.ntmps12 rfl<|Sr<|To (O.box rfl rfl rfl fun q=>Ag z<|Ag z<|Ag z<|Nt<|Sq<|Sr<|Vv (V.C0D (j:=0) (by exact F9) rfl rfl) ?_)
 refine Mv z ?_
 obtain ⟨⟨r,s⟩,n,H⟩:=bnd H
 refine To (O.C8 z (A0u (show C9 h [a,b,c,d,e] p1 from ⟨a,b,c,d,e,z,f,g,i,k,m⟩) pr1 n _) z fun t u w x o=>?_)
 obtain ⟨y,rfl,p,A⟩:=o
 refine I9 _ p<|Mv z<|Vv (V.ext z z)<|Vv (V.ext z z)<|Ag z<|Ag z<|Nt<|Sr<|Mv z<|Vv (V.ne z z)<|Nt<|T.cH H z (fun H=>?_) (fun H=>?_)
 ·refine Sr<|Mv z<|Ag z<|Ag z<|Ag z<|Nt<|T.ret<|Tr<|T.drop ?_
  obtain ⟨rfl,rfl,rfl⟩:=B2G H
  exact T.F5 Tryz.results12 (RVs.cons (RV.tmp z) (RVs.cons (RV.tmp z) (Rv z))) Li ⟨_,z,z,G9.nil⟩
 exact dead H
theorem B5R {h:PH} {pc0:List Value} {p1:A8} (pr0:C9 h pc0 p1) {pv1:Value} {part12:List Int} (pr1:G9 (VI .i64) 1 h pv1 part12) {r_0:List Int} (H:A5h p1 part12 = some r_0):∀ L,H5 Tryz.prog 13 [.agg pc0.toArray,pv1] h (L) (fun v h' L'=>L' = L∧G9 (VI .i64) 1 h' v r_0):=by
 intro L
 obtain ⟨a,b,c,d,e,rfl,f,g,i,j,k⟩:=pr0
 refine H5.enter Tryz.func13 rfl Tryz.ntmps13 rfl<|Sr<|To (O.V3 rfl rfl rfl fun r m s n=>Ag z<|Nt<|Sr<|Vv (V.Z9 rfl n (by exact F9)) ?_)
 refine Mv z ?_
 obtain ⟨⟨t,w⟩,o,H⟩:=bnd H
 refine To (O.C8 z (A0u (show C9 m [a,b,c,d,e] p1 from ⟨a,b,c,d,e,z,f.u,g.u,i.u,j.u,k.u⟩) pr1.u o _) z fun x y A B p=>?_)
 obtain ⟨C,rfl,q,D⟩:=p
 refine I9 _ q<|Mv z<|Vv (V.ext z z)<|Vv (V.ext z z)<|Ag z<|Ag z<|Nt<|Sq<|Sr<|Mv z<|Vv (V.ne z z)<|Nt<|T.cH H z (fun H=>?_) (fun H=>?_)
 ·refine Sr<|Ag z<|Nt<|T.ret<|Tr ?_
  obtain rfl:=Option.some.inj H
  exact T.F5 Tryz.results13 (Rv z) Li ⟨z,G9.nil⟩
 exact dead H
theorem B4j {h:PH} {pc0:List Value} {p1:A8} (pr0:C9 h pc0 p1) {pv1:Value} {part12:List Int} (pr1:G9 (VI .i64) 1 h pv1 part12) {r_0:Int} (H:A3J p1 part12 = some r_0):∀ L,H5 Tryz.prog 14 [.agg pc0.toArray,pv1] h (L) (fun v h' L'=>v = .int .i64 r_0∧L' = L):=by
 intro L
 obtain ⟨a,b,c,d,e,rfl,f,g,i,j,k⟩:=pr0
 refine H5.enter Tryz.func14 rfl Tryz.ntmps14 rfl<|Sr<|To (O.V3 rfl rfl rfl fun r m s n=>Ag z<|Nt<|Sr<|Vv (V.Z9 rfl n (by exact F9)) ?_)
 refine Mv z ?_
 obtain ⟨⟨t,w⟩,o,H⟩:=bnd H
 refine To (O.C8 z (A0u (show C9 m [a,b,c,d,e] p1 from ⟨a,b,c,d,e,z,f.u,g.u,i.u,j.u,k.u⟩) pr1.u o _) z fun x y A B p=>?_)
 obtain ⟨C,rfl,q,D⟩:=p
 refine I9 _ q<|Mv z<|Vv (V.ext z z)<|Vv (V.ext z z)<|Ag z<|Ag z<|Nt<|Sq<|Sr<|Mv z<|Vv (V.ne z z)<|Nt<|T.cH H z (fun H=>?_) (fun H=>?_)
 ·refine Sr<|Ag z<|Nt<|T.ret<|Tr ?_
  obtain rfl:=Option.some.inj H
  exact T.F5 Tryz.results14 (Rv z) Li ⟨z,z⟩
 exact dead H
theorem B2P {h:PH} {pc0:List Value} {a1:U6} (pr0:A2x h pc0 a1) {pc1:List Value} {b14:U6} (pr1:A2x h pc1 b14) {r_0:Bool} (H:A4P a1 b14 = some r_0):∀ L,H5 Tryz.prog 17 [.agg pc0.toArray,.agg pc1.toArray] h (L) (fun v h' L'=>v = .bool r_0∧L' = L):=by
 intro L
 obtain ⟨c,d,e,f,g,P,rfl,q,r,s,t,w,x⟩:=pr0
 obtain ⟨i,j,m,n,o,S,rfl,y,A,B,C,D,E⟩:=pr1
 refine H5.enter Tryz.func17 z Tryz.ntmps17 z<|Sr<|To (O.V3 z z z fun U W X a=>To (O.V3 z z z fun Y Z aa b=>Ag z<|Nt<|Sr<|Vv (V.fa A2U z)<|Vv (V.I6 (k:=6) D9 z a.u z)<|Vv (V.fa A2U z)<|Vv (V.I6 (k:=6) D9 z b z)<|Vv (V.eq z z)<|Mv z<|T.bH 10 H z (fun H=>?_) (fun H=>?_)))
 ·refine Vv (V.fa B1z z)<|Vv (V.I6 (k:=7) D9 z a.u z)<|Vv (V.fa B1z z)<|Vv (V.I6 (k:=7) D9 z b z)<|Vv (V.eq z z)<|Vv (V.M0 z z)<|Mv z<|T.bH 17 H z (fun H=>?_) (fun H=>?_)
  ·refine Vv (V.fa A1C z)<|Vv (V.I6 (k:=5) F4 z a.u z)<|Vv (V.fa A1C z)<|Vv (V.I6 (k:=5) F4 z b z) ?_
   obtain ⟨ab,G,H⟩:=bnd H
   refine To (O.C8 z (A0O x.u E.u G _) z fun ac p ad ae I=>?_)
   obtain ⟨rfl,J⟩:=I
   refine I9 _ J<|Vv (V.M0 z z)<|Mv z<|T.bH 24 H z (fun H=>?_) (fun H=>?_)
   ·refine Vv (V.fa B0B z)<|Vv (V.B9v (k:=0) F9 z a.u (Nat.le_of_ble_eq_true z))<|Vv (V.fa B0B z)<|Vv (V.B9v (k:=0) F9 z b.u (Nat.le_of_ble_eq_true z)) ?_
    obtain ⟨af,K,H⟩:=bnd H
    refine To (O.C8 z (A6X (show C9 p [c,d,e,f,g] a1.U8 from ⟨c,d,e,f,g,z,q.u,r.u,s.u,t.u,w.u⟩) (show C9 p [i,j,m,n,o] b14.U8 from ⟨i,j,m,n,o,z,y.u,A.u,B.u,C.u,D.u⟩) K _) z fun ag ai aj ak M=>?_)
    obtain ⟨rfl,N⟩:=M
    refine I9 _ N<|Vv (V.M0 z z)<|Ag z<|Nt<|T.ret ?_
    obtain rfl:=Option.some.inj H
    exact T.F5 Tryz.results17 (Rv z) Li ⟨z,z⟩
   exact dead H
  exact dead H
 exact dead H
theorem A9E {h:PH} {pc0:List Value} {p1:A8} (pr0:C9 h pc0 p1) {pv1:Value} {part12:List Int} (pr1:G9 (VI .i64) 1 h pv1 part12) {n13:Int} {r_0:Bool} (H:A3l p1 part12 n13 = some r_0):∀ L,H5 Tryz.prog 3 [.agg pc0.toArray,pv1,.int .i64 n13] h (L) (fun v h' L'=>v = .bool r_0∧L' = L):=by
 intro L
 obtain ⟨a,b,c,d,f,rfl,i,m,n,o,p⟩:=pr0
 refine H5.enter Tryz.func3 z Tryz.ntmps3 z<|Sr<|To (O.V3 z z z fun cY a5 cZ q=>Ag z<|Nt<|Sq<|Sq ?_)
 obtain ⟨a6,a7,a8⟩:=N7 H
 refine T.O5 (α:=Bool) [1,2,3] z (fun x=>[(32,.bool x)]) (fun x=>L) (fun x hh=>a6 = x) ?_ ?_
 ·have H:=a7
  refine Rg<|Vv (V.Z9 rfl q (by exact F9)) ?_
  obtain ⟨c0,a9,H⟩:=bnd H
  refine To (O.C8 z (C4f (show C9 a5 [a,b,c,d,f] p1 from ⟨a,b,c,d,f,z,i.u,m.u,n.u,o.u,p.u⟩) a9 _) z fun c1 c2 c3 c4 ah=>?_)
  obtain ⟨rfl,al⟩:=ah
  refine I9 _ al<|Vv (V.not z)<|Mv z<|T.bH 28 H z (fun H=>?_) (fun H=>?_)
  ·refine Sk<|Sk<|Sk<|Vv (V.M0 z z)<|Nt<|T.met true Li (K4 H) (A9.app ⟨z,trivial⟩ ⟨z,z,z,trivial⟩) z
  refine Mv z<|Vv (V.P6 D6 z pr1)<|Vv (V.gt z z)<|Vv (V.J9 z z)<|Nt<|T.met (decide ((100:Int) < (part12.length:Int))) Li (K4 H) (A9.app ⟨z,trivial⟩ ⟨z,z,z,trivial⟩) z
 rintro x av c5 az
 have H:=J5 az a8
 refine T.norm [32,1,2,3] z<|T.fl ?_
 refine T.cH H z (fun H=>?_) (fun H=>?_)
 ·refine Sr ?_
  obtain ⟨c6,ba,H⟩:=bnd H
  refine To (O.C8 z (A6W ba _) z fun c7 c8 c9 ch bb=>?_)
  obtain ⟨rfl,bc⟩:=bb
  refine I9 _ bc<|Ag z<|Nt<|T.ret<|Tr ?_
  obtain rfl:=Option.some.inj H
  exact T.F5 Tryz.results3 (Rv z) Li ⟨z,z⟩
 refine T.skip<|Th<|Sr<|Vv (V.Z9 rfl q.u (by exact F9)) ?_
 obtain ⟨⟨cl,be⟩,bf,H⟩:=bnd H
 refine To (O.C8 z (B8r (show C9 av [a,b,c,d,f] p1 from ⟨a,b,c,d,f,z,i.u,m.u,n.u,o.u,p.u⟩) bf _) z fun cv au cz da bg=>?_)
 obtain ⟨rfl,bi⟩:=bg
 refine I9 _ bi<|Mv z<|Vv (V.ext z z)<|Vv (V.ext z z)<|Ag z<|Ag z<|Nt<|Sq<|Sr<|Mv z<|Vv (V.eq z z)<|Nt<|T.cH H z (fun H=>?_) (fun H=>?_)
 ·refine Sr ?_
  obtain ⟨db,bj,H⟩:=bnd H
  refine To (O.C8 z (A6W bj _) z fun dc dd de df bk=>?_)
  obtain ⟨rfl,bm⟩:=bk
  refine I9 _ bm<|Ag z<|Nt<|T.ret<|Tr ?_
  obtain rfl:=Option.some.inj H
  exact T.F5 Tryz.results3 (Rv z) Li ⟨z,z⟩
 refine T.skip<|Th<|Sr<|Vv (V.Z9 rfl q.u (by exact F9)) ?_
 refine Mv z<|Vv (V.bld (xs:=[(0,.const (.int .u8 (2)))]) (cs:=[_,_,_,_,_,_,_,_,_,_,_,_,_,_,_,_,_,_,_,_]) A4h A4y z (F8.cons z z z F8.nil)) ?_
 obtain ⟨⟨bn,dg,B⟩,bo,H⟩:=bnd H
 refine To (O.C8 z (B6e (show C9 au [a,b,c,d,f] p1 from ⟨a,b,c,d,f,z,i.u,m.u,n.u,o.u,p.u⟩) pr1.u (show U0 au [.int .u8 (2:Int),.string (⟨#[]⟩:ByteArray),.string (⟨#[]⟩:ByteArray),.string (⟨#[]⟩:ByteArray),.int .i64 (0:Int),.int .i64 (0:Int),.string (⟨#[]⟩:ByteArray),.bool false,.bool false,.slice none 0 0,.string (⟨#[]⟩:ByteArray),.string (⟨#[]⟩:ByteArray),.string (⟨#[]⟩:ByteArray),.int .i64 (0:Int),.int .u8 (0:Int),.int .i64 (0:Int),.string (⟨#[]⟩:ByteArray),.string (⟨#[]⟩:ByteArray),.string (⟨#[]⟩:ByteArray),.int .i64 (0:Int)] (M7.mk (2:Int) (E5.mk (⟨#[]⟩:ByteArray) (⟨#[]⟩:ByteArray) (⟨#[]⟩:ByteArray) (0:Int) (0:Int) (⟨#[]⟩:ByteArray) false false ([]:List ByteArray)) (⟨#[]⟩:ByteArray) (⟨#[]⟩:ByteArray) (⟨#[]⟩:ByteArray) (0:Int) (G5.mk (0:Int) (0:Int) (⟨#[]⟩:ByteArray) (⟨#[]⟩:ByteArray) (⟨#[]⟩:ByteArray) (0:Int))) from ⟨(.slice none 0 0),z,G9.nil⟩) bo _) z fun di dj dk dm bp=>?_)
 obtain ⟨K,M,N,P,S,dn,rfl,bq,aw,ax,ay,aA,aB,br⟩:=bp
 refine I9 _ bq<|Mv z<|Vv (V.ext rfl rfl)<|Vv (V.ext rfl rfl)<|Vv (V.ext rfl rfl)<|To (O.alloc A0l rfl rfl fun dp=>To (O.stF (vs:=[K,M,N,P,S]) F9 rfl rfl (j:=0) rfl rfl (by (simp only [Sl.ones,G9.one aw,G9.one ax,G9.one ay,G9.one aA,G9.one aB,Bool.and_true,Bool.true_and]) <;> rfl) rfl ?_))
 refine T.freeze fun bt dq bu=>have bw:=AtC.of bu; Ag z<|Ag z<|Nt<|Sr<|Vv (V.Z9 rfl q.u (by exact F9)) ?_
 refine Mv z<|Mv z ?_
 obtain ⟨⟨r,C⟩,bx,H⟩:=bnd H
 refine To (O.C8 z (B9l (show C9 bt [a,b,c,d,f] p1 from ⟨a,b,c,d,f,z,i.u,m.u,n.u,o.u,p.u⟩) pr1.u bx _) z fun dr ds dt du bA=>?_)
 obtain ⟨U,W,X,Y,Z,aa,rfl,bB,aC,aD,aE,aG,aI,ab⟩:=bA
 refine I9 _ bB<|Mv z<|Vv (V.ext rfl rfl)<|Vv (V.ext rfl rfl)<|To (O.alloc A0L rfl rfl fun dw=>To (O.stF (vs:=[U,W,X,Y,Z,aa,.int .i64 r.A1X,.int .i64 r.A0B]) U7 rfl rfl (j:=0) rfl rfl (by (simp only [Sl.ones,G9.one aC,G9.one aD,G9.one aE,G9.one aG,G9.one aI,G9.one ab,Bool.and_true,Bool.true_and]) <;> rfl) rfl ?_))
 refine T.freeze fun bC dx bD=>have aJ:=AtC.of bD; Ag z<|Nt<|Sq<|T.norm [1,2,3,8,9,10,11,12,13] rfl<|Rg<|Vv (V.Z9 rfl q.u (by exact F9)) ?_
 refine Mv z<|Mv z<|Mv z ?_
 obtain ⟨⟨y,D⟩,bE,H⟩:=bnd H
 refine To (O.C8 z (B7I (show C9 bC [a,b,c,d,f] p1 from ⟨a,b,c,d,f,z,i.u,m.u,n.u,o.u,p.u⟩) pr1.u bE _) z fun dy dA dB dC bG=>?_)
 obtain ⟨ac,ad,ae,af,ag,ai,rfl,bI,aK,aM,aN,aO,aP,aS⟩:=bG
 refine I9 _ bI<|Mv z<|Vv (V.ext rfl rfl)<|Vv (V.ext rfl rfl)<|To (O.alloc A0L rfl rfl fun dD=>To (O.stF (vs:=[ac,ad,ae,af,ag,ai,.int .i64 y.A1X,.int .i64 y.A0B]) U7 rfl rfl (j:=0) rfl rfl (by (simp only [Sl.ones,G9.one aK,G9.one aM,G9.one aN,G9.one aO,G9.one aP,G9.one aS,Bool.and_true,Bool.true_and]) <;> rfl) rfl ?_))
 refine T.freeze fun bJ dE bK=>have bM:=AtC.of bK; Ag z<|Nt<|Sr<|Vv (V.Z9 rfl q.u (by exact F9)) ?_
 refine Mv z ?_
 obtain ⟨⟨bN,E⟩,bO,H⟩:=bnd H
 refine To (O.C8 z (A9K (show C9 bJ [a,b,c,d,f] p1 from ⟨a,b,c,d,f,z,i.u,m.u,n.u,o.u,p.u⟩) pr1.u bO _) z fun dG dI dJ dK bP=>?_)
 obtain ⟨aj,ak,am,an,ao,rfl,bS,ap,aU,aV,aW,aX⟩:=bP
 refine I9 _ bS<|Mv z<|Vv (V.ext rfl rfl)<|Vv (V.ext rfl rfl)<|To (O.alloc A0l rfl rfl fun dM=>To (O.stF (vs:=[aj,ak,am,an,ao]) F9 rfl rfl (j:=0) rfl rfl (by (simp only [Sl.ones,G9.one ap,G9.one aU,G9.one aV,G9.one aW,G9.one aX,Bool.and_true,Bool.true_and]) <;> rfl) rfl ?_))
 refine T.freeze fun bU dN bV=>have aY:=AtC.of bV; Ag z<|Nt<|Sr<|Vv (V.Z9 rfl q.u (by exact F9)) ?_
 refine Mv z<|Mv z ?_
 obtain ⟨⟨dO,G⟩,bW,H⟩:=bnd H
 refine To (O.C8 z (B5M (show C9 bU [a,b,c,d,f] p1 from ⟨a,b,c,d,f,z,i.u,m.u,n.u,o.u,p.u⟩) pr1.u bW _) z fun dP bX dS dU bY=>?_)
 obtain ⟨dV,rfl,bZ,b0⟩:=bY
 refine I9 _ bZ<|Mv z<|Vv (V.ext rfl rfl)<|Vv (V.ext rfl rfl)<|Ag z<|Ag z<|Nt<|Sr<|Vv (V.Z9 rfl q.u (by exact F9)) ?_
 refine Mv z<|Vv (V.bld (xs:=[(0,.const (.int .u8 (2)))]) (cs:=[_,_,_,_,_,_,_,_,_,_,_,_,_,_,_,_,_,_,_,_]) A4h A4y z (F8.cons z z z F8.nil))<|To (O.bs C1T C1N z (e:=z) (hk:=z) (xs:=[.tmp 81]) (hv:=CO.eq (CO.cons z CO.nil)) (hw:=O7.of z) (hd:=z) fun dW=>have b1:A7 U0 bX [[.int .u8 (2:Int),.string (⟨#[]⟩:ByteArray),.string (⟨#[]⟩:ByteArray),.string (⟨#[]⟩:ByteArray),.int .i64 (0:Int),.int .i64 (0:Int),.string (⟨#[]⟩:ByteArray),.bool false,.bool false,.slice none 0 0,.string (⟨#[]⟩:ByteArray),.string (⟨#[]⟩:ByteArray),.string (⟨#[]⟩:ByteArray),.int .i64 (0:Int),.int .u8 (0:Int),.int .i64 (0:Int),.string (⟨#[]⟩:ByteArray),.string (⟨#[]⟩:ByteArray),.string (⟨#[]⟩:ByteArray),.int .i64 (0:Int)]] ([(M7.mk (2:Int) (E5.mk (⟨#[]⟩:ByteArray) (⟨#[]⟩:ByteArray) (⟨#[]⟩:ByteArray) (0:Int) (0:Int) (⟨#[]⟩:ByteArray) false false ([]:List ByteArray)) (⟨#[]⟩:ByteArray) (⟨#[]⟩:ByteArray) (⟨#[]⟩:ByteArray) (0:Int) (G5.mk (0:Int) (0:Int) (⟨#[]⟩:ByteArray) (⟨#[]⟩:ByteArray) (⟨#[]⟩:ByteArray) (0:Int)))]:List M7):=(A7.cons ⟨(.slice none 0 0),z,G9.nil⟩ A7.nil); Mv z<|T.K8 fun b2 dX b3=>have b4:=A7.slc b3 b1.u; ?_)
 obtain ⟨⟨dY,dZ,I⟩,b5,H⟩:=bnd H
 refine To (O.C8 z (B4F (show C9 b2 [a,b,c,d,f] p1 from ⟨a,b,c,d,f,z,i.u,m.u,n.u,o.u,p.u⟩) pr1.u b4 b5 _) z fun d0 b6 d1 d2 b7=>?_)
 obtain ⟨d3,rfl,b8,b9⟩:=b7
 refine I9 _ b8<|Mv z<|Vv (V.ext z z)<|Vv (V.ext z z)<|Vv (V.ext z z)<|Ag z<|Ag z<|Ag z<|Nt<|Sq<|Sq<|T.norm [1,2,3,8,9,10,11,12,13,14,15,16,17,18,19,20,21,22] z ?_
 obtain ⟨bh,bl,bv⟩:=N7 H
 refine T.O5 (α:=Bool) [1,3,8,11,13,15,17,19,22] z (fun A=>[(136,.bool A)]) (fun A=>L) (fun A hh=>bh = A) ?_ ?_
 ·have H:=bl
  refine T.O8 (t:=(.v 0 (.v 1 (.v 2 (.v 3 (.v 4 (.v 5 (.v 6 (.v 7 (.v 8 (.v 9 (.v 10 (.v 11 (.v 15 (.v 16 (.v 19 (.v 20 (.v 21 (.alt 12 (.g (.v 13 (.v 14 (.alt 17 (.g (.v 18 (.alt 22 (.g (.v 23 (.v 24 (.v 25 (.v 26 (.v 27 (.alt 28 (.g (.v 29 (.v 30 (.v 31 (.v 32 (.v 33 (.v 34 (.v 35 (.v 36 (.v 37 (.v 38 (.v 39 (.alt 40 (.g (.v 41 (.v 42 (.v 43 (.v 44 (.v 45 (.v 46 (.v 47 (.v 48 .done))))))))) .no))))))))))))) .no))))))) .no))) .no)))) .no))))))))))))))))))) 50 0 0 rfl rfl I8 (by kernel_rfl) ?_
  refine Tm z z<|Tm z z<|Tv z (V.P6 D6 z br) ?_
  obtain ⟨d4,bz,H⟩:=bnd H
  refine Tv z (V.L8 z z bz)<|Tm z z<|Tv z (V.P6 A1O z b0) ?_
  obtain ⟨d5,ca,H⟩:=bnd H
  refine Tv z (V.L8 z z ca)<|Tm z z<|Tv z (V.P6 C1Q z b9) ?_
  obtain ⟨d6,cb,H⟩:=bnd H
  refine Tv z (V.L8 rfl rfl cb)<|Tv z (V.Z9 rfl q.u (by exact F9)) ?_
  refine Tm z z<|Tv z (V.Z9 rfl q.u (by exact F9)) ?_
  refine Tm z z<|Tv z (V.Z9 rfl q.u (by exact F9)) ?_
  refine Tm z z<|Tm z z ?_
  obtain ⟨d7,cc,H⟩:=bnd H
  refine Tp z z (SX.two (XA.fr [] Lr z) (XA.fr [] Lr z)) (O.C8 z (B5R (show C9 b6 [a,b,c,d,f] p1 from ⟨a,b,c,d,f,z,i.u,m.u,n.u,o.u,p.u⟩) pr1.u cc _) z fun d8 cd d9 dh ce=>?_) T.Q9
  obtain ⟨cf,cg⟩:=ce
  refine I9 _ cf<|T.M6 Li<|Tv z (V.P6 D6 z cg) ?_
  obtain ⟨dl,ci,H⟩:=bnd H
  refine Tv z (V.L8 z z ci) ?_
  obtain ⟨dv,cj,H⟩:=bnd H
  refine Tp z z (SX.two (XA.fr [] Lr z) (XA.fr [] Lr z)) (O.C8 z (B4j (show C9 cd [a,b,c,d,f] p1 from ⟨a,b,c,d,f,z,i.u,m.u,n.u,o.u,p.u⟩) pr1.u cj _) z fun dz ck ea eb cm=>?_) T.Q9
  obtain ⟨rfl,cn⟩:=cm
  refine I9 _ cn<|T.M6 Li ?_
  obtain ⟨ec,co,H⟩:=bnd H
  refine Tv z (V.L8 z z co) ?_
  obtain ⟨ed,cp,H⟩:=bnd H
  refine Tp z z (SX.two (XA.fr [] Lr z) (XA.fr [] Lr z)) (O.C8 z (B6r (show C9 ck [a,b,c,d,f] p1 from ⟨a,b,c,d,f,z,i.u,m.u,n.u,o.u,p.u⟩) pr1.u cp _) z fun ee aZ ef eg cq=>?_) T.Q9
  obtain ⟨rfl,cr⟩:=cq
  refine I9 _ cr<|T.M6 Li ?_
  obtain ⟨ei,ct,H⟩:=bnd H
  refine Tv z (V.L8 z z ct)<|Tv z (V.ne z z)<|Tm z z<|T.bH 113 H z (fun H=>?_) (fun H=>?_)
  ·refine Tk z<|Tk z<|T.A4N z z (SX.two (XA.fr [] Lr z) (XA.fr [] Lr z)) z ?_ T.Q9
   refine T.M6 Lr<|Tk z<|Tv z (V.M0 z z)<|Tm z z<|Tk z<|Tk z<|Tk z<|Tk z<|Tv z (V.M0 z z)<|Tm z z<|Tk z<|Tk z<|T.A4N z z (SX.two (XA.fr [] Lr z) (XA.fr [] Lr z)) z ?_ T.Q9
   refine T.M6 Lr<|Tk z<|Tv z (V.M0 z z)<|Tm z z<|Tk z<|Tk z<|Tk z<|Tk z<|Tv z (V.M0 z z)<|T.R5 (SX.two (XA.fr [] Lr z) (XA.fr [] Lr z))<|Th<|T.met true Li (K4 H) (A9.app ⟨z,trivial⟩ ⟨z,z,z,z,z,z,z,z,z,trivial⟩) z
  refine Tv z (V.Z9 rfl bw.u (by exact F9)) ?_
  refine Tv z (V.Z9 rfl aY.u (by exact F9)) ?_
  obtain ⟨ej,cu,H⟩:=bnd H
  refine Tp z z (SX.two (XA.fr [] Lr z) (XA.fr [] Lr z)) (O.C8 z (A6X (show C9 aZ [K,M,N,P,S] bn from ⟨K,M,N,P,S,z,aw.u,ax.u,ay.u,aA.u,aB.u⟩) (show C9 aZ [aj,ak,am,an,ao] bN from ⟨aj,ak,am,an,ao,z,ap.u,aU.u,aV.u,aW.u,aX.u⟩) cu _) z fun ek a0 em en cw=>?_) T.Q9
  obtain ⟨rfl,cx⟩:=cw
  refine I9 _ cx<|T.M6 Li<|Tv z (V.not z)<|Tv z (V.J9 z z)<|Tm z z<|T.bH 119 H z (fun H=>?_) (fun H=>?_)
  ·refine Tk z<|Tk z<|Tk z<|Tk z<|Tv z (V.M0 z z)<|Tm z z<|Tk z<|Tk z<|T.A4N z z (SX.two (XA.fr [] Lr z) (XA.fr [] Lr z)) z ?_ T.Q9
   refine T.M6 Lr<|Tk z<|Tv z (V.M0 z z)<|Tm z z<|Tk z<|Tk z<|Tk z<|Tk z<|Tv z (V.M0 z z)<|T.R5 (SX.two (XA.fr [] Lr z) (XA.fr [] Lr z))<|Th<|T.met true Li (K4 H) (A9.app ⟨z,trivial⟩ ⟨z,z,z,z,z,z,z,z,z,trivial⟩) z
  refine Tv z (V.fa K3 z)<|Tv z (V.I6 (k:=0) M9 z aY.u z)<|Tv z (V.P6 O0 z ap)<|Tv z (V.ne z z)<|Tv z (V.J9 z z)<|Tm z z<|T.bH 125 H z (fun H=>?_) (fun H=>?_)
  ·refine Tk z<|Tk z<|T.A4N z z (SX.two (XA.fr [] Lr z) (XA.fr [] Lr z)) z ?_ T.Q9
   refine T.M6 Lr<|Tk z<|Tv z (V.M0 z z)<|Tm z z<|Tk z<|Tk z<|Tk z<|Tk z<|Tv z (V.M0 z z)<|T.R5 (SX.two (XA.fr [] Lr z) (XA.fr [] Lr z))<|Th<|T.met true Li (K4 H) (A9.app ⟨z,trivial⟩ ⟨z,z,z,z,z,z,z,z,z,trivial⟩) z
  refine Tv z (V.Z9 rfl aJ.u (by exact U7)) ?_
  refine Tv z (V.Z9 rfl bM.u (by exact U7)) ?_
  obtain ⟨eo,cy,H⟩:=bnd H
  refine Tp z z (SX.two (XA.fr [] Lr z) (XA.fr [] Lr z)) (O.C8 z (B2P (show A2x a0 [U,W,X,Y,Z,aa,.int .i64 r.A1X,.int .i64 r.A0B] r from ⟨U,W,X,Y,Z,aa,z,aC.u,aD.u,aE.u,aG.u,aI.u,ab.u⟩) (show A2x a0 [ac,ad,ae,af,ag,ai,.int .i64 y.A1X,.int .i64 y.A0B] y from ⟨ac,ad,ae,af,ag,ai,z,aK.u,aM.u,aN.u,aO.u,aP.u,aS.u⟩) cy _) z fun ep er es et cA=>?_) T.Q9
  obtain ⟨rfl,cB⟩:=cA
  refine I9 _ cB<|T.M6 Li<|Tv z (V.not z)<|Tv z (V.J9 z z)<|Tm z z<|T.bH 131 H z (fun H=>?_) (fun H=>?_)
  ·refine Tk z<|Tk z<|Tk z<|Tk z<|Tv z (V.M0 z z)<|T.R5 (SX.two (XA.fr [] Lr z) (XA.fr [] Lr z))<|Th<|T.met true Li (K4 H) (A9.app ⟨z,trivial⟩ ⟨z,z,z,z,z,z,z,z,z,trivial⟩) z
  refine Tv z (V.fa A1C z)<|Tv z (V.I6 (k:=5) F4 z aJ.u z)<|Tv z (V.P6 D6 z ab)<|Tv z (V.ne z z)<|Tv z (V.J9 z z)<|T.R5 (SX.two (XA.fr [] Lr z) (XA.fr [] Lr z))<|Th<|T.met (!decide ((r.A1H.length:Int) = (0:Int))) Li (K4 H) (A9.app ⟨z,trivial⟩ ⟨z,z,z,z,z,z,z,z,z,trivial⟩) z
 rintro A a1 eu cC
 have H:=J5 cC bv
 refine T.norm [136,1,3,8,11,13,15,17,19,22] z<|T.fl ?_
 refine T.cH H z (fun H=>?_) (fun H=>?_)
 ·refine Sr<|Ag z<|Nt<|T.ret<|Tr ?_
  obtain rfl:=Option.some.inj H
  exact T.F5 Tryz.results3 (Rv z) Li ⟨z,z⟩
 refine T.skip<|Th<|Sq<|Sr<|Mv z<|Mv z<|Mv z<|Mv z<|Mv z<|Mv z<|Vv (V.Z9 rfl q.u (by exact F9)) ?_
 refine Mv z<|Vv (V.bld (xs:=[]) (cs:=[_,_,_,_,_,_,_,_,_,_,_,_,_,_,_,_,_,_,_,_]) A4h A4y z F8.nil) ?_
 obtain ⟨J,cD,H⟩:=bnd H
 refine To (O.C8 z (B6j (show C9 a1 [a,b,c,d,f] p1 from ⟨a,b,c,d,f,z,i.u,m.u,n.u,o.u,p.u⟩) pr1.u (show U0 a1 [.int .u8 (0:Int),.string (⟨#[]⟩:ByteArray),.string (⟨#[]⟩:ByteArray),.string (⟨#[]⟩:ByteArray),.int .i64 (0:Int),.int .i64 (0:Int),.string (⟨#[]⟩:ByteArray),.bool false,.bool false,.slice none 0 0,.string (⟨#[]⟩:ByteArray),.string (⟨#[]⟩:ByteArray),.string (⟨#[]⟩:ByteArray),.int .i64 (0:Int),.int .u8 (0:Int),.int .i64 (0:Int),.string (⟨#[]⟩:ByteArray),.string (⟨#[]⟩:ByteArray),.string (⟨#[]⟩:ByteArray),.int .i64 (0:Int)] (M7.mk (0:Int) (E5.mk (⟨#[]⟩:ByteArray) (⟨#[]⟩:ByteArray) (⟨#[]⟩:ByteArray) (0:Int) (0:Int) (⟨#[]⟩:ByteArray) false false ([]:List ByteArray)) (⟨#[]⟩:ByteArray) (⟨#[]⟩:ByteArray) (⟨#[]⟩:ByteArray) (0:Int) (G5.mk (0:Int) (0:Int) (⟨#[]⟩:ByteArray) (⟨#[]⟩:ByteArray) (⟨#[]⟩:ByteArray) (0:Int))) from ⟨(.slice none 0 0),z,G9.nil⟩) cD _) z fun ew cE ex ey cG=>?_)
 obtain ⟨rfl,cI⟩:=cG
 refine I9 _ cI<|To (O.bs A9u B5o z (e:=z) (hk:=z) (xs:=[.tmp 137,.tmp 138,.tmp 139,.tmp 140,.tmp 141,.tmp 142,.tmp 146]) (hv:=CO.eq (CO.cons z (CO.cons z (CO.cons z (CO.cons z (CO.cons z (CO.cons z (CO.cons z CO.nil)))))))) (hw:=O7.of z) (hd:=z) fun cJ=>have aq:A7 (VI .i64) cE [[.int .i64 B],[.int .i64 C],[.int .i64 D],[.int .i64 E],[.int .i64 G],[.int .i64 I],[.int .i64 J]] ([B,C,D,E,G,I,J]:List Int):=(A7.cons z (A7.cons z (A7.cons z (A7.cons z (A7.cons z (A7.cons z (A7.cons z A7.nil))))))); Vv (V.A2E A9u z (j:=0) z aq.len)<|Mv z<|Nt ?_)
 obtain ⟨a2,cK,a3⟩:=N7 H
 refine T.O5 (α:=Unit) [] z (fun _u=>[]) (fun _u=>L) (fun _u hh=>a2 = (Sum.inl ())) ?_ ?_
 ·have H:=cK
  refine Bl<|T.N8 (α:=Nat×Int) [8,147,148] z (fun ⟨s,w⟩=>[(149,.int .i64 w)]) (fun ⟨s,w⟩=>D8 31 1 (.slice (some ⟨cJ,0,none⟩) 7 7) [[.int .i64 B],[.int .i64 C],[.int .i64 D],[.int .i64 E],[.int .i64 G],[.int .i64 I],[.int .i64 J]]::L) (fun ⟨s,w⟩ hh=>iter (A0K be B C D E G I J) s w = some a2) (fun ⟨s,w⟩=>s) (FUEL,(0:Int)) ⟨z,trivial⟩ z H ?_
  rintro ⟨s,w⟩ eA eB cM
  obtain ⟨cN,eC,rfl,H,ar⟩:=I4 cM
  refine T.norm [149,8,147,148] z<|T.fl ?_
  refine Sr<|Vv (V.lt z z)<|Nt<|Sq<|T.cH H z (fun H=>?_) (fun H=>?_)
  ·refine T.skip<|Th<|Sq<|Bl<|Sr ?_
   obtain ⟨eD,a4,H⟩:=bnd H
   obtain ⟨eE,cO,rfl⟩:=A7.get aq a4
   refine Vv (V.ixR A9u z z (j:=0) z (A7.bd aq a4))<|Vv (V.ldR A4A z (j:=0) z cO z)<|Ag z<|Nt<|Sr<|Mv z<|Mv z<|Vv (V.ne z z)<|Nt<|T.cH H z (fun H=>?_) (fun H=>?_)
   ·refine Sr<|Ag z<|Nt<|T.ret<|Br<|Tr<|Tr<|have H:=D7 H ar; Br<|Tr<|have H:=J5 H a3; T.drop ?_
    obtain rfl:=Option.some.inj H
    exact T.F5 Tryz.results3 (Rv z) Li ⟨z,z⟩
   refine T.skip<|Bn<|Th<|Rg ?_
   obtain ⟨cP,cS,H⟩:=bnd H
   refine Vv (V.L8 z z cS)<|Mv z<|Nt<|T.again (cN,cP) Li (Nat.lt_succ_self _) (G8 H ar) (A9.app ⟨z,trivial⟩ ⟨z,z,z,trivial⟩) z
  refine T.exit<|Te<|Te<|have H:=D7 H ar; Be<|Th<|T.drop<|T.met () Li H (A9.app trivial trivial) z
 rintro _ eG eI cU
 have H:=J5 cU a3
 refine T.norm [] z<|T.fl ?_
 refine Sr ?_
 obtain ⟨eJ,cV,H⟩:=bnd H
 refine To (O.C8 z (A6W cV _) z fun eK eM eN eO cW=>?_)
 obtain ⟨rfl,cX⟩:=cW
 refine I9 _ cX<|Ag z<|Nt<|T.ret ?_
 obtain rfl:=Option.some.inj H
 exact T.F5 Tryz.results3 (Rv z) Li ⟨z,z⟩
end Go.Proofs.X
