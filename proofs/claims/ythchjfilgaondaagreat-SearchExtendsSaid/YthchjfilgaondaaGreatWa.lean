import Derived.Test.YthchjfilgaondaaGreatChecked
import Derived.KernelRfl
import Derived.Test.YthchjfilgaondaaGreatV
import Derived.Test.YthchjfilgaondaaGreatL12
import Derived.Test.YthchjfilgaondaaGreatDa
/- Walks. -/
set_option maxRecDepth 1000000
set_option maxHeartbeats 40000000
set_option linter.unusedVariables false
set_option linter.unusedSimpArgs false
set_option linter.unusedSectionVars false
set_option linter.unnecessarySimpa false
open Go Go.Proofs Go.Proofs.Tryz Go.Sl Go.Dm
namespace Go.Proofs.X
theorem H9:prog.follows .mixedOrders=true:=by kernel_rfl
theorem X7:A1j prog 119=some (9,1,16):=by kernel_rfl
theorem O5:A1j prog 27=some (139,7,80):=by kernel_rfl
theorem O7:A1j prog 28=some (121,9,112):=by kernel_rfl
theorem A0X:A1j prog 29=some (168,3,40):=by kernel_rfl
theorem A9:A1j prog 30=some (3,1,8):=by kernel_rfl
theorem Z6:A1j prog 31=some (43,6,72):=by kernel_rfl
theorem V7:U7 prog 121=some (true,9):=by kernel_rfl
theorem J3:U7 prog 139=some (true,7):=by kernel_rfl
theorem D7:U7 prog 3=some (false,1):=by kernel_rfl
theorem J5:U7 prog 9=some (false,1):=by kernel_rfl
theorem A1M:zer prog 121=some (.agg #[.string ⟨#[]⟩,.string ⟨#[]⟩,.string ⟨#[]⟩,.int .i64 (0),.int .i64 (0),.string ⟨#[]⟩,.bool false,.bool false,.slice none 0 0]):=by kernel_rfl
theorem A1Q:zer prog 139=some (.agg #[.string ⟨#[]⟩,.int .u8 (0),.int .i64 (0),.int .i64 (0),.slice none 0 0,.int .i64 (0),.int .i64 (0)]):=by kernel_rfl
theorem A9Z:zer prog 168=some (.agg #[.string ⟨#[]⟩,.string ⟨#[]⟩,.int .u8 (0)]):=by kernel_rfl
theorem J7:zer prog 3=some (.int .i64 (0)):=by kernel_rfl
theorem A2G:zer prog 43=some (.agg #[.int .u8 (0),.int .i64 (0),.string ⟨#[]⟩,.string ⟨#[]⟩,.string ⟨#[]⟩,.int .i64 (0)]):=by kernel_rfl
theorem C0j:zer prog 9=some (.string ⟨#[]⟩):=by kernel_rfl
theorem B3Y {h g c d i} (e:G6 (VI .i64) 1 h g c) (H:A4g c d=some i):∀ L,FnW prog 84 [g,.int .i64 d] h L (.int .i64 i):=by
 intro L
 refine J2.enter func84 z z z<|Sr<|An z<|Sq<|Sm z<|Vv (V.Q3 A9 z e)<|Mv z<|Nt ?_
 obtain ⟨m,n,j⟩:=J6 H
 have H:=n
 refine Bl<|T.lk [0,1,7] (FUEL,(0:Int)) (λ⟨a,b⟩=>([(8,qi b)],L,λhh=>iter (A2T c d) a b=some m)) H ?_
 rintro ⟨a,b⟩ t w o
 obtain ⟨p,x,rfl,H,f⟩:=G7 o
 refine T.norm [8,0,1,7] z<|T.fl ?_
 refine Sr<|Wl z z<|Nt<|Sq<|T.cH H z (λH=>?_) λH=>?_
 ·refine Ks<|Sq<|Bl<|Sm z<|An z<|Sm z<|Mv z<|Mv z<|bE H λy k H=>?_
  obtain ⟨A,q,rfl⟩:=G6.at e k
  refine Vv (V.ix A9 z z e (E8 k))<|Vv (V.R5 D7 z q.u z)<|We z z<|Nt<|T.cH H z (λH=>?_) λH=>?_
  ·exact Sm z<|Ag z<|Nr<|Br<|Tr<|Tr<|have H:=D6 H f; Br<|Tr<|have H:=I4 H j; E1 H
  refine T.skip<|Bn<|Th<|Rg<|bE H λr s H=>Vv (V.H5 z z s)<|Mv z<|Nt<|T.ag (p,r) (D8 H f)
 exact T.exit<|Te<|Te<|have H:=D6 H f; Be<|Th<|have H:=I4 H j; Sg z<|Nr<|E1 H
theorem A2m {h a b c d} (e:G6 (VI .i64) 1 h a b) (H:A1f b c=some d):∀ L,FnW prog 39 [a,.int .i64 c] h L (.bool d):=by
 intro L
 exact J2.enter func39 z z z<|Sr<|An z<|Sm z<|Mv z<|bE H λj f H=>To (O.cs (B3Y e f _) λm o=>Vv (V.ge z z)<|Ag z<|Nr<|E1 H)
theorem B6J {h i c j d k} (e:G6 (VI .i64) 1 h i c) (o:A2E h j d) (H:A8V c d=some k):∀ L,FnW prog 251 [i,j] h L (.int .i64 k):=by
 intro L
 refine J2.enter func251 z z z<|Sr<|An z<|Sq<|Sm z<|Vv (V.Q3 A9 z e)<|Mv z<|Nt ?_
 obtain ⟨p,q,m⟩:=J6 H
 have H:=q
 refine Bl<|T.lk [0,1,7] (FUEL,(0:Int)) (λ⟨a,b⟩=>([(8,qi b)],L,λhh=>iter (A1R c d) a b=some p)) H ?_
 rintro ⟨a,b⟩ r G s
 obtain ⟨t,I,rfl,H,f⟩:=G7 s
 refine T.norm [8,0,1,7] z<|T.fl ?_
 refine Sr<|Wl z z<|Nt<|Sq<|T.cH H z (λH=>?_) λH=>?_
 ·refine Ks<|Sq<|Bl<|Sm z<|An z<|Sm z<|Mv z<|Mv z<|bE H λJ n H=>?_
  obtain ⟨K,w,rfl⟩:=G6.at e n
  refine Vv (V.ix A9 z z e (E8 n))<|Vv (V.R5 D7 z w.u z)<|bE H λM x H=>?_
  obtain ⟨N,P,S,y,A⟩:=A2E.call (o.u (g:=r)) x
  refine To (O.A1l z y z (A _) z λU W X Y B=>?_)
  obtain ⟨rfl,C⟩:=B
  refine P8 _ C<|Nt<|T.cH H z (λH=>?_) λH=>?_
  ·exact Sm z<|Ag z<|Nr<|Br<|Tr<|Tr<|have H:=D6 H f; Br<|Tr<|have H:=I4 H m; E1 H
  refine T.skip<|Bn<|Th<|Rg<|bE H λD E H=>Vv (V.H5 z z E)<|Mv z<|Nt<|T.ag (t,D) (D8 H f)
 exact T.exit<|Te<|Te<|have H:=D6 H f; Be<|Th<|have H:=I4 H m; Sg z<|Nr<|E1 H
theorem A7p {h a b c d e} (f:G6 (VI .i64) 1 h a b) (g:A2E h c d) (H:A0B b d=some e):∀ L,FnW prog 237 [a,c] h L (.bool e):=by
 intro L
 exact J2.enter func237 z z z<|Sr<|An z<|Sm z<|Mv z<|bE H λm i H=>To (O.cs (B6J f g i _) λo q=>Vv (V.ge z z)<|Ag z<|Nr<|E1 H)
theorem A8M {h i c j d k} (e:G6 I6 7 h i c) (o:B1g h j d) (H:A2q c d=some k):∀ L,FnW prog 206 [i,j] h L (.int .i64 k):=by
 intro L
 refine J2.enter func206 z z z<|Sr<|An z<|Sq<|Sm z<|Vv (V.Q3 O5 z e)<|Mv z<|Nt ?_
 obtain ⟨p,q,m⟩:=J6 H
 have H:=q
 refine Bl<|T.lk [0,1,7] (FUEL,(0:Int)) (λ⟨a,b⟩=>([(8,qi b)],L,λhh=>iter (A2r c d) a b=some p)) H ?_
 rintro ⟨a,b⟩ r J s
 obtain ⟨t,K,rfl,H,f⟩:=G7 s
 refine T.norm [8,0,1,7] z<|T.fl ?_
 refine Sr<|Wl z z<|Nt<|Sq<|T.cH H z (λH=>?_) λH=>?_
 ·refine Ks<|Sq<|Bl<|Sm z<|An z<|Sm z<|Mv z<|Mv z<|bE H λM n H=>?_
  obtain ⟨N,w,⟨x,rfl,y⟩⟩:=G6.at e n
  refine Vv (V.ix O5 z z e (E8 n))<|Vv (V.ldS z w.u (by exact J3)) ?_
  refine bE H λP A H=>?_
  obtain ⟨S,U,W,B,C⟩:=B1g.call (o.u (g:=r)) ⟨x,rfl,y.u⟩ A
  refine To (O.A1l z B z (C _) z λX Y Z aa D=>?_)
  obtain ⟨rfl,E⟩:=D
  refine P8 _ E<|Nt<|T.cH H z (λH=>?_) λH=>?_
  ·exact Sm z<|Ag z<|Nr<|Br<|Tr<|Tr<|have H:=D6 H f; Br<|Tr<|have H:=I4 H m; E1 H
  refine T.skip<|Bn<|Th<|Rg<|bE H λG I H=>Vv (V.H5 z z I)<|Mv z<|Nt<|T.ag (t,G) (D8 H f)
 exact T.exit<|Te<|Te<|have H:=D6 H f; Be<|Th<|have H:=I4 H m; Sg z<|Nr<|E1 H
theorem B1W {h a b c d e} (f:G6 I6 7 h a b) (g:B1g h c d) (H:A4j b d=some e):∀ L,FnW prog 169 [a,c] h L (.bool e):=by
 intro L
 exact J2.enter func169 z z z<|Sr<|An z<|Sm z<|Mv z<|bE H λm i H=>To (O.cs (A8M f g i _) λo q=>Vv (V.ge z z)<|Ag z<|Nr<|E1 H)
theorem B3T {h i c j d k} (e:G6 I9 9 h i c) (o:B3f h j d) (H:A3X c d=some k):∀ L,FnW prog 204 [i,j] h L (.int .i64 k):=by
 intro L
 refine J2.enter func204 z z z<|Sr<|An z<|Sq<|Sm z<|Vv (V.Q3 O7 z e)<|Mv z<|Nt ?_
 obtain ⟨p,q,m⟩:=J6 H
 have H:=q
 refine Bl<|T.lk [0,1,7] (FUEL,(0:Int)) (λ⟨a,b⟩=>([(8,qi b)],L,λhh=>iter (A2p c d) a b=some p)) H ?_
 rintro ⟨a,b⟩ r J s
 obtain ⟨t,K,rfl,H,f⟩:=G7 s
 refine T.norm [8,0,1,7] z<|T.fl ?_
 refine Sr<|Wl z z<|Nt<|Sq<|T.cH H z (λH=>?_) λH=>?_
 ·refine Ks<|Sq<|Bl<|Sm z<|An z<|Sm z<|Mv z<|Mv z<|bE H λM n H=>?_
  obtain ⟨N,w,⟨x,rfl,y⟩⟩:=G6.at e n
  refine Vv (V.ix O7 z z e (E8 n))<|Vv (V.ldS z w.u (by exact V7)) ?_
  refine bE H λP A H=>?_
  obtain ⟨S,U,W,B,C⟩:=B3f.call (o.u (g:=r)) ⟨x,rfl,y.u⟩ A
  refine To (O.A1l z B z (C _) z λX Y Z aa D=>?_)
  obtain ⟨rfl,E⟩:=D
  refine P8 _ E<|Nt<|T.cH H z (λH=>?_) λH=>?_
  ·exact Sm z<|Ag z<|Nr<|Br<|Tr<|Tr<|have H:=D6 H f; Br<|Tr<|have H:=I4 H m; E1 H
  refine T.skip<|Bn<|Th<|Rg<|bE H λG I H=>Vv (V.H5 z z I)<|Mv z<|Nt<|T.ag (t,G) (D8 H f)
 exact T.exit<|Te<|Te<|have H:=D6 H f; Be<|Th<|have H:=I4 H m; Sg z<|Nr<|E1 H
theorem C0T {h g c d i} (e:G6 VS 1 h g c) (H:B0V c d=some i):∀ L,FnW prog 164 [g,.string d] h L (.int .i64 i):=by
 intro L
 refine J2.enter func164 z z z<|Sr<|An z<|Sq<|Sm z<|Vv (V.Q3 X7 z e)<|Mv z<|Nt ?_
 obtain ⟨m,n,j⟩:=J6 H
 have H:=n
 refine Bl<|T.lk [0,1,7] (FUEL,(0:Int)) (λ⟨a,b⟩=>([(8,qi b)],L,λhh=>iter (A6C c d) a b=some m)) H ?_
 rintro ⟨a,b⟩ t w o
 obtain ⟨p,x,rfl,H,f⟩:=G7 o
 refine T.norm [8,0,1,7] z<|T.fl ?_
 refine Sr<|Wl z z<|Nt<|Sq<|T.cH H z (λH=>?_) λH=>?_
 ·refine Ks<|Sq<|Bl<|Sm z<|An z<|Sm z<|Mv z<|Mv z<|bE H λy k H=>?_
  obtain ⟨A,q,rfl⟩:=G6.at e k
  refine Vv (V.ix X7 z z e (E8 k))<|Vv (V.R5 J5 z q.u z)<|Vv (V.seq z z)<|Nt<|T.cH H z (λH=>?_) λH=>?_
  ·exact Sm z<|Ag z<|Nr<|Br<|Tr<|Tr<|have H:=D6 H f; Br<|Tr<|have H:=I4 H j; E1 H
  refine T.skip<|Bn<|Th<|Rg<|bE H λr s H=>Vv (V.H5 z z s)<|Mv z<|Nt<|T.ag (p,r) (D8 H f)
 exact T.exit<|Te<|Te<|have H:=D6 H f; Be<|Th<|have H:=I4 H j; Sg z<|Nr<|E1 H
theorem B7w {h a b c d} (e:G6 VS 1 h a b) (H:A6R b c=some d):∀ L,FnW prog 116 [a,.string c] h L (.bool d):=by
 intro L
 exact J2.enter func116 z z z<|Sr<|An z<|Sm z<|Mv z<|bE H λj f H=>To (O.cs (C0T e f _) λm o=>Vv (V.ge z z)<|Ag z<|Nr<|E1 H)
theorem A5S {h a b} (H:A1x a=some b):∀ L,FnW prog 273 [.int .i64 a] h L (.bool b):=by
 intro L
 exact J2.enter func273 z z z<|Sr<|An z<|Sm z<|Mv z<|Wn z z<|Ag z<|Nr<|E1 H
theorem B7i {h a b c} (H:A7h a b=some c):∀ L,FnW prog 254 [.int .i64 a,.int .i64 b] h L (.int .i64 c):=by
 intro L
 refine J2.enter func254 z z z<|Sr<|An z<|Sm z<|bE H λk d H=>To (O.cs (A5S d _) λn p=>An z<|Sm z<|bE H λq g H=>To (O.cs (A5S g _) λs u=>An z<|Sq<|Sm z<|Nt<|T.cH H z (λH=>?_) λH=>?_))
 ·refine Sq<|Sm z<|Nt<|T.cH H z (λH=>?_) λH=>?_
  ·exact Sg z<|Nr<|Tr<|Tr<|E1 H
  exact Ks<|Sg z<|Nr<|Tr<|E1 H
 refine Ks<|Sq<|Sm z<|Nt<|T.cH H z (λH=>?_) λH=>?_
 ·exact Sg z<|Nr<|Tr<|E1 H
 refine Ks<|Sq<|Sm z<|Mv z<|Wl z z<|Nt<|T.cH H z (λH=>?_) λH=>?_
 ·exact Sg z<|Nr<|Tr<|E1 H
 refine Ks<|Sq<|Sm z<|Mv z<|Wg z z<|Nt<|T.cH H z (λH=>?_) λH=>?_
 ·exact Sg z<|Nr<|Tr<|E1 H
 exact Ks<|Sg z<|Nr<|E1 H
theorem B9Z {h a b c} (H:B0Y a b=some c):∀ L,FnW prog 262 [.int .i64 a,.int .i64 b] h L (.bool c):=by
 intro L
 refine J2.enter func262 z z z<|Sr<|An z<|Sm z<|bE H λk d H=>To (O.cs (A5S d _) λn p=>Mv z<|T.bH 7 H z (λH=>?_) λH=>?_)
 ·refine Mv z<|bE H λq g H=>To (O.cs (A5S g _) λs u=>Vv (V.not z)<|Kt z<|Mv z<|T.bH 12 H z (λH=>?_) λH=>?_)
  ·exact S2<|Sk<|Kt z<|Ag z<|Nr<|E1 H
  exact Mv z<|Mv z<|Wl z z<|Kf z<|Ag z<|Nr<|E1 H
 exact S2<|Sk<|Kf z<|Mv z<|Mv z<|Mv z<|Wl z z<|Kf z<|Ag z<|Nr<|E1 H
theorem B7U {h j f k g m} (c:G6 (VI .i64) 1 h j f) (d:G6 (VI .i64) 1 h k g) (H:A3M f g=some m):∀ L,FnW prog 243 [j,k] h L (.int .i64 m):=by
 intro L
 refine J2.enter func243 z z z<|Sr<|An z<|Sq<|Sm z<|Vv (V.Q3 A9 z c)<|Mv z<|Nt ?_
 obtain ⟨p,q,i⟩:=J6 H
 have H:=q
 refine Bl<|T.lk [0,1,9,10] (FUEL,(0:Int)) (λ⟨a,b⟩=>([(11,qi b)],L,λhh=>iter (A2O f g) a b=some p)) H ?_
 rintro ⟨a,b⟩ D E r
 obtain ⟨s,G,rfl,H,e⟩:=G7 r
 refine T.norm [11,0,1,9,10] z<|T.fl ?_
 refine Sr<|Wl z z<|Nt<|Sq<|T.cH H z (λH=>?_) λH=>?_
 ·refine Ks<|Sq<|Bl<|Sm z<|bE H λI n H=>?_
  obtain ⟨J,t,rfl⟩:=G6.at c n
  refine Vv (V.ix A9 z z c (E8 n))<|Vv (V.R5 D7 z t.u z)<|Ag z<|An z<|Sq<|Sm z<|Mv z<|Vv (V.Q3 A9 z d)<|Vv (V.ge z z)<|Nt<|T.cH H z (λH=>?_) λH=>?_
  ·exact Sg z<|Nr<|Tr<|Br<|Tr<|Tr<|have H:=D6 H e; Br<|Tr<|have H:=I4 H i; E1 H
  refine Ks<|Sm z<|Mv z<|bE H λK o H=>?_
  obtain ⟨M,w,rfl⟩:=G6.at d o
  refine Vv (V.ix A9 z z d (E8 o))<|Vv (V.R5 D7 z w.u z)<|An z<|Sm z<|Mv z<|bE H λN x H=>To (O.cs (B7i x _) λS W=>An z<|Sm z<|Wn z z<|Nt<|T.cH H z (λH=>?_) λH=>?_)
  ·exact Sm z<|Ag z<|Nr<|Br<|Tr<|Tr<|have H:=D6 H e; Br<|Tr<|have H:=I4 H i; E1 H
  refine T.skip<|Bn<|Th<|Rg<|bE H λB C H=>Vv (V.H5 z z C)<|Mv z<|Nt<|T.ag (s,B) (D8 H e)
 refine T.exit<|Te<|Te<|have H:=D6 H e; Be<|Th<|have H:=I4 H i; Sq<|Sm z<|Vv (V.Q3 A9 z c)<|Mv z<|Vv (V.Q3 A9 z d)<|Wl z z<|Nt<|T.cH H z (λH=>?_) λH=>?_
 ·exact Sg z<|Nr<|Tr<|E1 H
 exact Ks<|Sg z<|Nr<|E1 H
theorem C1f {h i d j e k} (c:G6 (VI .i64) 1 h i d) (f:G6 (VI .i64) 1 h j e) (H:A3c d e=some k):∀ L,FnW prog 245 [i,j] h L (.bool k):=by
 intro L
 refine J2.enter func245 z z z<|Sr<|An z<|Sq<|Sm z<|Vv (V.Q3 A9 z c)<|Mv z<|Vv (V.Q3 A9 z f)<|Wn z z<|Nt<|T.cH H z (λH=>?_) λH=>?_
 ·exact Sg z<|Nr<|Tr<|E1 H
 refine Ks<|Sq<|Sm z<|Vv (V.Q3 A9 z c)<|Mv z<|Nt ?_
 obtain ⟨p,q,m⟩:=J6 H
 have H:=q
 refine Bl<|T.lk [0,1,12] (FUEL,(0:Int)) (λ⟨a,b⟩=>([(13,qi b)],L,λhh=>iter (A6E d e) a b=some p)) H ?_
 rintro ⟨a,b⟩ B C r
 obtain ⟨s,D,rfl,H,g⟩:=G7 r
 refine T.norm [13,0,1,12] z<|T.fl ?_
 refine Sr<|Wl z z<|Nt<|Sq<|T.cH H z (λH=>?_) λH=>?_
 ·refine Ks<|Sq<|Bl<|Sm z<|An z<|Sq<|T.N7 (t:=(.vs [0,1,2,3,4,5,6,7,8] .done)) 10 0 0 z z H9 (by kernel_rfl) ?_
  refine Tm z z<|Tm z z<|bE H λE n H=>?_
  obtain ⟨G,w,rfl⟩:=G6.at c n
  refine Tv z (V.ix A9 z z c (E8 n))<|Tv z (V.R5 D7 z w.u z)<|Tm z z<|Tm z z<|bE H λI o H=>?_
  obtain ⟨J,x,rfl⟩:=G6.at f o
  refine Tv z (V.ix A9 z z f (E8 o))<|Tv z (V.R5 D7 z x.u z)<|Tv z (V.ne z z)<|T.O6 (X2 z z)<|Th<|T.cH H z (λH=>?_) λH=>?_
  ·exact Sg z<|Nr<|Br<|Tr<|Tr<|have H:=D6 H g; Br<|Tr<|have H:=I4 H m; E1 H
  refine T.skip<|Bn<|Th<|Rg<|bE H λy A H=>Vv (V.H5 z z A)<|Mv z<|Nt<|T.ag (s,y) (D8 H g)
 exact T.exit<|Te<|Te<|have H:=D6 H g; Be<|Th<|have H:=I4 H m; Sg z<|Nr<|E1 H
theorem A1h {h a e f} (c:G6 (VI .i64) 1 h a e) (H:A0D e=some f):∀ L,J2 prog 41 [a] h (L) (λv h' L'=>∃ g,L'=F3 3 1 v g::L∧A7 (VI .i64) h' g f):=by
 intro L
 refine J2.enter func41 z z z<|Sr<|An z<|Sq<|Sm z<|Vv (V.C3k A9 z c)<|Nt<|T.cond (b:=B4Z a) z (λi=>?_) (λi=>?_)
 ·have H:=B1K (G6.B4Z c i) H
  refine Sg z<|Nr<|Tr<|T.Q8 3 1<|have o:A7 (VI .i64) h [] ([]:List Int):=A7.nil; ?_
  cases H
  exact T.rl z (Rv z) ⟨_,z,o⟩
 refine Ks<|Sr<|To (O.bs0 A9 z λs=>have k:A7 (VI .i64) h [] ([]:List Int):=A7.nil; Mv z ?_)
 obtain ⟨p,m,d⟩:=G6.row c
 refine bE H λq n H=>To (O.apX A9 A9 J7 z z z (j:=0) z (Src.fix m) m.wide (A7.ones VI.plain d) k d n z λt u w=>have r:A7 (VI .i64) h ([]++p) q:=A7.ap k d n; Ag z<|Nr ?_)
 cases H
 exact T.rl z (Rv z) ⟨_,z,r⟩
theorem B7Z {h a e f} (c:G6 I6 7 h a e) (H:A8e e=some f):∀ L,J2 prog 79 [a] h (L) (λv h' L'=>∃ g,L'=F3 139 7 v g::L∧A7 I6 h' g f):=by
 intro L
 refine J2.enter func79 z z z<|Sr<|An z<|Sq<|Sm z<|Vv (V.C3k O5 z c)<|Nt<|T.cond (b:=B4Z a) z (λi=>?_) (λi=>?_)
 ·have H:=B1K (G6.B4Z c i) H
  refine Sg z<|Nr<|Tr<|T.Q8 139 7<|have o:A7 I6 h [] ([]:List D5):=A7.nil; ?_
  cases H
  exact T.rl z (Rv z) ⟨_,z,o⟩
 refine Ks<|Sr<|To (O.bs0 O5 z λs=>have k:A7 I6 h [] ([]:List D5):=A7.nil; Mv z ?_)
 obtain ⟨p,m,d⟩:=G6.row c
 refine bE H λq n H=>To (O.apX O5 O5 A1Q z z z (j:=0) z (Src.fix m) m.wide (A7.ones I6.plain d) k d n z λt u w=>have r:A7 I6 h ([]++p) q:=A7.ap k d n; Ag z<|Nr ?_)
 cases H
 exact T.rl z (Rv z) ⟨_,z,r⟩
theorem B8d {h a e f} (c:G6 I9 9 h a e) (H:A8t e=some f):∀ L,J2 prog 80 [a] h (L) (λv h' L'=>∃ g,L'=F3 121 9 v g::L∧A7 I9 h' g f):=by
 intro L
 refine J2.enter func80 z z z<|Sr<|An z<|Sq<|Sm z<|Vv (V.C3k O7 z c)<|Nt<|T.cond (b:=B4Z a) z (λi=>?_) (λi=>?_)
 ·have H:=B1K (G6.B4Z c i) H
  refine Sg z<|Nr<|Tr<|T.Q8 121 9<|have o:A7 I9 h [] ([]:List E9):=A7.nil; ?_
  cases H
  exact T.rl z (Rv z) ⟨_,z,o⟩
 refine Ks<|Sr<|To (O.bs0 O7 z λs=>have k:A7 I9 h [] ([]:List E9):=A7.nil; Mv z ?_)
 obtain ⟨p,m,d⟩:=G6.row c
 refine bE H λq n H=>To (O.apX O7 O7 A1M z z z (j:=0) z (Src.fix m) m.wide (A7.ones I9.plain d) k d n z λt u w=>have r:A7 I9 h ([]++p) q:=A7.ap k d n; Ag z<|Nr ?_)
 cases H
 exact T.rl z (Rv z) ⟨_,z,r⟩
theorem A9Y {h a e f} (c:G6 VS 1 h a e) (H:A4v e=some f):∀ L,J2 prog 81 [a] h (L) (λv h' L'=>∃ g,L'=F3 9 1 v g::L∧A7 VS h' g f):=by
 intro L
 refine J2.enter func81 z z z<|Sr<|An z<|Sq<|Sm z<|Vv (V.C3k X7 z c)<|Nt<|T.cond (b:=B4Z a) z (λi=>?_) (λi=>?_)
 ·have H:=B1K (G6.B4Z c i) H
  refine Sg z<|Nr<|Tr<|T.Q8 9 1<|have o:A7 VS h [] ([]:List ByteArray):=A7.nil; ?_
  cases H
  exact T.rl z (Rv z) ⟨_,z,o⟩
 refine Ks<|Sr<|To (O.bs0 X7 z λs=>have k:A7 VS h [] ([]:List ByteArray):=A7.nil; Mv z ?_)
 obtain ⟨p,m,d⟩:=G6.row c
 refine bE H λq n H=>To (O.apX X7 X7 C0j z z z (j:=0) z (Src.fix m) m.wide (A7.ones VS.plain d) k d n z λt u w=>have r:A7 VS h ([]++p) q:=A7.ap k d n; Ag z<|Nr ?_)
 cases H
 exact T.rl z (Rv z) ⟨_,z,r⟩
theorem C1C {h a e f} (c:G6 L9 3 h a e) (H:B0F e=some f):∀ L,J2 prog 82 [a] h (L) (λv h' L'=>∃ g,L'=F3 168 3 v g::L∧A7 L9 h' g f):=by
 intro L
 refine J2.enter func82 z z z<|Sr<|An z<|Sq<|Sm z<|Vv (V.C3k A0X z c)<|Nt<|T.cond (b:=B4Z a) z (λi=>?_) (λi=>?_)
 ·have H:=B1K (G6.B4Z c i) H
  refine Sg z<|Nr<|Tr<|T.Q8 168 3<|have o:A7 L9 h [] ([]:List I1):=A7.nil; ?_
  cases H
  exact T.rl z (Rv z) ⟨_,z,o⟩
 refine Ks<|Sr<|To (O.bs0 A0X z λs=>have k:A7 L9 h [] ([]:List I1):=A7.nil; Mv z ?_)
 obtain ⟨p,m,d⟩:=G6.row c
 refine bE H λq n H=>To (O.apX A0X A0X A9Z z z z (j:=0) z (Src.fix m) m.wide (A7.ones L9.plain d) k d n z λt u w=>have r:A7 L9 h ([]++p) q:=A7.ap k d n; Ag z<|Nr ?_)
 cases H
 exact T.rl z (Rv z) ⟨_,z,r⟩
theorem B9C {h a e f} (c:G6 I5 6 h a e) (H:A9w e=some f):∀ L,J2 prog 83 [a] h (L) (λv h' L'=>∃ g,L'=F3 43 6 v g::L∧A7 I5 h' g f):=by
 intro L
 refine J2.enter func83 z z z<|Sr<|An z<|Sq<|Sm z<|Vv (V.C3k Z6 z c)<|Nt<|T.cond (b:=B4Z a) z (λi=>?_) (λi=>?_)
 ·have H:=B1K (G6.B4Z c i) H
  refine Sg z<|Nr<|Tr<|T.Q8 43 6<|have o:A7 I5 h [] ([]:List F4):=A7.nil; ?_
  cases H
  exact T.rl z (Rv z) ⟨_,z,o⟩
 refine Ks<|Sr<|To (O.bs0 Z6 z λs=>have k:A7 I5 h [] ([]:List F4):=A7.nil; Mv z ?_)
 obtain ⟨p,m,d⟩:=G6.row c
 refine bE H λq n H=>To (O.apX Z6 Z6 A2G z z z (j:=0) z (Src.fix m) m.wide (A7.ones I5.plain d) k d n z λt u w=>have r:A7 I5 h ([]++p) q:=A7.ap k d n; Ag z<|Nr ?_)
 cases H
 exact T.rl z (Rv z) ⟨_,z,r⟩
end Go.Proofs.X
open Go Go.Proofs Go.Proofs.Tryz Go.Sl Go.Dm
namespace Go.Proofs.X
theorem A1G:A1j prog 81=some (88,3,24):=by kernel_rfl
theorem K4:A1j prog 84=some (30,1,24):=by kernel_rfl
theorem D9:U7 prog 30=some (false,1):=by kernel_rfl
theorem A1K:U7 prog 88=some (true,3):=by kernel_rfl
theorem C2o {h e f} (H:bits_Len64 e=some f):∀ L,FnW prog 203 [.int .u64 e] h L (.int .i64 f):=by
 intro L
 refine J2.enter func203 z z z<|Sr<|An z<|Sq<|Sm z<|Vv (V.ge z z)<|Nt ?_
 obtain ⟨g,i,j⟩:=J6 H
 refine T.ck (α:=Int×Int) [] (λ⟨a,b⟩=>([(0,.int .u64 a),(2,qi b)],L,λhh=>g=(a,b))) ?_ ?_
 ·have H:=i
  refine T.cH H z (λH=>?_) λH=>?_
  ·refine Sm z<|bE H λk m H=>Vv (V.A3Y z z m)<|An z<|Rg<|An z<|T.mt (k,(32:Int)) (M0 H)
  refine Ks<|T.mt (e,(0:Int)) (M0 H)
 rintro ⟨a,b⟩ K M n
 have H:=I4 n j
 refine T.norm [0,2] z<|T.fl ?_
 refine Sq<|Sm z<|Vv (V.ge z z)<|Nt ?_
 obtain ⟨o,p,q⟩:=J6 H
 refine T.ck (α:=Int×Int) [] (λ⟨c,d⟩=>([(0,.int .u64 c),(2,qi d)],L,λhh=>o=(c,d))) ?_ ?_
 ·have H:=p
  refine T.cH H z (λH=>?_) λH=>?_
  ·refine Sm z<|bE H λr s H=>Vv (V.A3Y z z s)<|An z<|Rg<|Mv z<|bE H λt u H=>Vv (V.H5 z z u)<|An z<|T.mt (r,t) (M0 H)
  refine Ks<|T.mt (a,b) (M0 H)
 rintro ⟨c,d⟩ N O w
 have H:=I4 w q
 refine T.norm [0,2] z<|T.fl ?_
 refine Sq<|Sm z<|Vv (V.ge z z)<|Nt<|T.cH H z (λH=>?_) λH=>?_
 ·exact Sm z<|bE H λP x H=>Vv (V.A3Y z z x)<|An z<|Rg<|Mv z<|bE H λS y H=>Vv (V.H5 z z y)<|An z<|Sm z<|Mv z<|bE H λU A H=>Vv (V.A5g underlying240 underlying5 z A)<|bE H λW B H=>Vv (V.C5W underlying9 z z B)<|bE H λX C H=>Vv (V.A5g underlying5 underlying3 z C)<|bE H λY D H=>Vv (V.H5 z z D)<|Ag z<|Nr<|E1 H
 exact Ks<|Sm z<|Mv z<|bE H λZ E H=>Vv (V.A5g underlying240 underlying5 z E)<|bE H λaa G H=>Vv (V.C5W underlying9 z z G)<|bE H λab I H=>Vv (V.A5g underlying5 underlying3 z I)<|bE H λac J H=>Vv (V.H5 z z J)<|Ag z<|Nr<|E1 H
theorem B3W {h a b} (H:bits_Len a=some b):∀ L,FnW prog 137 [.int .u64 a] h L (.int .i64 b):=by
 intro L
 exact J2.enter func137 z z z<|Sr<|An z<|Sq<|Cf z<|Ks<|Sm z<|bE H λf c H=>To (O.cs (C2o c _) λi k=>Ag z<|Nr<|E1 H)
theorem C4m {h d A B r C q_0} (X:A7 (VI .i64) h A B) (H:B4G B r C=some q_0):∀ L,J2 prog 256 [d,.int .i64 r,.int .i64 C] h (F3 3 1 d A::L) (λv h' L'=>∃ G,v=.tuple #[]∧L'=F3 3 1 d G::L∧A7 (VI .i64) h' G q_0):=by
 intro L
 refine J2.enter func256 z z z<|Sm z<|bE H λY Z H=>Vv (V.H5 z z Z)<|An z<|T.A0S ?_
 obtain ⟨aa,ab,ac⟩:=J6 H
 have H:=ab
 refine Bl<|T.lk [1,2] (FUEL,B,Y,A) (λ⟨n,e,f,k⟩=>([(0,d),(6,qi f)],F3 3 1 d k::L,λhh=>iter (A4D r C) n (e,f)=some aa∧A7 (VI .i64) hh k e)) ⟨H,X⟩ ?_
 rintro ⟨n,e,f,k⟩ aU aV ⟨ad,I⟩
 obtain ⟨ae,aW,rfl,H,J⟩:=G7 ad
 refine T.norm [0,6,1,2] z<|T.fl ?_
 refine Sq<|Sm z<|Mv z<|Wl z z<|Nt<|T.cH H z (λH=>?_) λH=>?_
 ·refine Ks<|Sq<|Bl<|Sm z<|An z<|T.A0S ?_
  obtain ⟨af,ai,aj⟩:=J6 H
  have H:=ai
  refine Bl<|T.lk [1,2,6] (FUEL,e,f,k) (λ⟨o,m,c,b⟩=>([(0,d),(7,qi c)],F3 3 1 d b::L,λhh=>iter (A4N r) o (m,c)=some af∧A7 (VI .i64) hh b m)) ⟨H,I⟩ ?_
  rintro ⟨o,m,c,b⟩ aX aY ⟨ak,a⟩
  obtain ⟨am,aZ,rfl,H,K⟩:=G7 ak
  refine T.norm [0,7,1,2,6] z<|T.fl ?_
  refine Sq<|Sq ?_
  obtain ⟨an,ao,ap⟩:=J6 H
  refine T.ck (α:=Bool) [0,1,2,6,7] (λp=>([(30,.bool p)],F3 3 1 d b::L,λhh=>an=p)) ?_ ?_
  ·have H:=ao
   refine T.N7 (t:=(.vs [0,1,2,3,4,5,6,7,8,9,10,11,12] (.alt 13 (.g (.v 14 .done)) .no))) 16 1 1 z z H9 (by kernel_rfl) ?_
   refine Tm z z<|Tm z z<|Tv z (V.gt z z)<|Tm z z<|T.bH 19 H z (λH=>?_) λH=>?_
   ·refine Tm z z<|Tm z z<|bE H λa0 M H=>?_
    obtain ⟨a1,aq,rfl⟩:=A7.get a M
    refine Tv z (Val.XA λ_ _ _=>V.ixR A9 z z (j:=0) z (A7.bd a M))<|Tv z (Val.XA λ_ _ _=>V.ldR D7 z (j:=0) z aq z)<|Tm z z<|Tm z z<|bE H λa2 ar H=>Tv z (V.Z4 z z ar)<|bE H λa3 N H=>?_
    obtain ⟨a4,au,rfl⟩:=A7.get a N
    refine Tv z (Val.XA λ_ _ _=>V.ixR A9 z z (j:=0) z (A7.bd a N))<|Tv z (Val.XA λ_ _ _=>V.ldR D7 z (j:=0) z au z)<|bE H λaw ax H=>Tp z z (X3 [0] [0] z z) (O.G5 z (B9Z ax _) z λa5 a6 a7 a8 ay=>?_) T.P6
    obtain ⟨rfl,aA⟩:=ay
    refine P8 _ aA<|T.O1 Li<|Tv z (V.pkT z z)<|T.O6 (X3 [0] [0] z z)<|Th<|T.mt aw (M0 H)
   refine T2 z z<|T2 z z<|T2 z z<|T2 z z<|Tk z<|T.A4m z z (X3 [0] [0] z z) z ?_ T.P6
   refine T.O1 Lr<|Tv z (V.pkF z z)<|T.O6 (X3 [0] [0] z z)<|Th<|T.mt false (M0 H)
  rintro p s a9 aB
  have H:=I4 aB ap
  refine T.norm [30,0,1,2,6,7] z<|T.fl ?_
  refine T.cH H z (λH=>?_) λH=>?_
  ·refine Ks<|Sq<|Bl<|T.N7 (t:=(.vs [0,1,2,3,4,5,6,7] (.x 8 (.x 9 (.v 10 (.v 11 (.alt 12 (.x 13 (.x 14 (.alt 15 (.alt 16 (.alt 17 .done .no) .no) .no))) .no))))))) 15 1 0 z z H9 (by kernel_rfl) ?_
   refine Tm z z<|Tm z z<|Tm z z<|Tm z z<|bE H λP aC H=>Tv z (V.Z4 z z aC)<|Tm z z<|Tm z z<|bE H λah aD H=>Tv z (V.Z4 z z aD)<|bE H λq S H=>?_
   obtain ⟨al,aE,rfl⟩:=A7.get a S
   refine T.tx z z (Val.XA λ_ _ _=>V.ixR A9 z z (j:=0) z (A7.bd a S)) z Calm.i<|T.tx z z (Val.XA λ_ _ _=>V.ldR D7 z (j:=0) z aE z) z Calm.i<|Tm z z<|Tm z z<|bE H λw U H=>?_
   obtain ⟨av,aG,rfl⟩:=A7.get a U
   refine Ts z z (X3 [] [0] z z) (V.ixR A9 z z (j:=0) z (A7.bd a U)) z ?_ T.P6
   refine T.tx z z (Val.XA λ_ _ _=>V.ldR D7 z (j:=0) z aG z) z Calm.i<|bE H λaz D H=>?_
   obtain ⟨ba,bb,rfl⟩:=A7.get a D
   refine T.tx z z (Val.XA λ_ _ _=>V.ixR A9 z z (j:=0) z (A7.bd a D)) z Calm.i<|bE H λaI aJ H=>Tp z z (X3 [] [0] z z) (O.stR D7 z z (j:=0) z (A7.bdN a D) z ?_) T.P6
   have y:A7 (VI .i64) s (b.set c.toNat [qi q]) aI:=A7.set a.u (show (VI .i64) s [qi q] q from z) aJ
   refine bE H λbc E H=>?_
   obtain ⟨be,bf,rfl⟩:=A7.get y E
   refine Ts z z (SX.one (XA.fr [] Lr z) z) (V.ixR A9 z z (j:=0) z (A7.bd y E)) z ?_ T.P6
   refine bE H λW aK H=>Tp z z (SX.one (XA.fr [] Lr z) z) (O.stR D7 z z (j:=0) z (A7.bdN y E) z ?_) T.P6
   have aM:A7 (VI .i64) s ((b.set c.toNat [qi q]).set P.toNat [qi w]) W:=A7.set y (show (VI .i64) s [qi w] w from z) aK
   refine T.O6 (SX.one (XA.fr [] Lr z) z)<|Bn<|Th<|Rg<|Mv z<|bE H λaN aO H=>Vv (V.Z4 z z aO)<|An z<|T.ag (am,W,aN,((b.set c.toNat [qi q]).set P.toNat [qi w])) ⟨(D8 H K),aM⟩
  refine T.exit<|Te<|Te<|have H:=D6 H K; Be<|Th<|have H:=I4 H aj; Bn<|Th<|Rg<|Mv z<|bE H λaP aS H=>Vv (V.H5 z z aS)<|An z<|T.ag (ae,m,aP,b) ⟨(D8 H J),a.u⟩
 refine T.exit<|Te<|Te<|have H:=D6 H J; Be<|Th<|have H:=I4 H ac; ?_
 cases H
 exact T.A0V results256 Li ⟨_,z,z,I⟩
theorem C4k (n:Nat):∀ {h:PH} {pv0:Value} {pcs0:List (List Value)} {data1:List Int} (pr0:A7 (VI .i64) h pcs0 data1) {a3:Int} {b4:Int} {limit5:Int} {q_0:List Int} (H:B7W n data1 a3 b4 limit5=some q_0) (L:List E5),J2 prog 250 [pv0,.int .i64 a3,.int .i64 b4,.int .i64 limit5] h (F3 3 1 pv0 pcs0::L) (λv h' L'=>∃ ls0,v=.tuple #[]∧L'=F3 3 1 pv0 ls0::L∧A7 (VI .i64) h' ls0 q_0):=by
  induction n with
  | zero=>intros; rename_i H _; cases H
  | succ n self=>
    intro h pv0 pcs0 data1 pr0 a3 b4 limit5 q_0 H L
    refine J2.enter func250 z z z<|Sr<|An z<|Sr<|An z ?_
    obtain ⟨b,c,d⟩:=J6 H
    have H:=c
    refine Bl<|T.C2O (α:=Nat) [0,1,2,3,8,9] z (λa=>[]) (λa=>F3 3 1 pv0 pcs0::L) (λa hh=>iter (A9v data1 a3 b4 limit5) a ()=some b) (λa=>a) FUEL trivial z H ?_
    rintro a o p e
    obtain ⟨q,r,rfl,H,f⟩:=G7 e
    refine T.norm [0,1,2,3,8,9] z<|T.fl ?_
    refine Bl<|Sm z<|Mv z<|bE H λs g H=>Vv (V.Z4 z z g)<|An z<|Sq<|Sm z<|Vv (V.le z z)<|Nt<|T.cH H z (λH=>?_) λH=>?_
    ·refine Sm z<|Mv z<|Mv z<|bE H λt i H=>To (O.G5 z (C4m pr0.u i _) z λw x y A j=>?_)
     obtain ⟨B,rfl,k,m⟩:=j
     refine P8 _ k<|Nr<|Tr<|Br<|Tr<|have H:=D6 H f; Br<|have H:=I4 H d; ?_
     cases H
     exact T.C5R results250 Li ⟨_,z,z,m⟩
    refine Ks<|Sq<|Sm z<|We z z<|Nt<|T.cH H z (λH=>?_) λH=>?_
    ·refine Sm z<|Mv z<|Mv z<|dead H
    refine Ks<|Sq<|Sm z<|Vv (V.not z)<|Nt<|Cf z<|Ks<|Sm z<|Mv z<|Mv z<|dead H
theorem C1L {h a b c q_0} (d:A7 (VI .i64) h b c) (H:B2k c=some q_0):∀ L,J2 prog 235 [a] h (F3 3 1 a b::L) (λv h' L'=>∃ e,v=.tuple #[]∧L'=F3 3 1 a e::L∧A7 (VI .i64) h' e q_0):=by
 intro L
 refine J2.enter func235 z z z<|Sm z<|Vv (V.A4a A9 z (j:=0) z d.len)<|An z<|Rg<|Mv z<|Mv z<|Mv z<|bE H λq f H=>Vv (V.A5g underlying3 underlying208 z f)<|bE H λr g H=>To (O.cs (B3W g _) λt x=>bE H λy m H=>To (O.G5 z (C4k _ d.u m _) z λA B C D n=>?_))
 obtain ⟨E,rfl,o,p⟩:=n
 refine P8 _ o<|Ni ?_
 cases H
 exact T.A0V results235 Li ⟨_,z,z,p⟩
theorem B3c {h d B C r D I s q_0} (Z:A7 (VI .i64) h B C) (aa:B0C h I s) (H:A6D C r D s=some q_0):∀ L,J2 prog 274 [d,.int .i64 r,.int .i64 D,I] h (F3 3 1 d B::L) (λv h' L'=>∃ J,v=.tuple #[]∧L'=F3 3 1 d J::L∧A7 (VI .i64) h' J q_0):=by
 intro L
 refine J2.enter func274 z z z<|Sm z<|bE H λab ac H=>Vv (V.H5 z z ac)<|An z<|T.A0S ?_
 obtain ⟨ad,ae,af⟩:=J6 H
 have H:=ae
 refine Bl<|T.lk [1,2,3] (FUEL,C,ab,B) (λ⟨n,e,f,k⟩=>([(0,d),(8,qi f)],F3 3 1 d k::L,λhh=>iter (A2e r D s) n (e,f)=some ad∧A7 (VI .i64) hh k e)) ⟨H,Z⟩ ?_
 rintro ⟨n,e,f,k⟩ a0 a1 ⟨ai,K⟩
 obtain ⟨aj,a2,rfl,H,M⟩:=G7 ai
 refine T.norm [0,8,1,2,3] z<|T.fl ?_
 refine Sq<|Sm z<|Mv z<|Wl z z<|Nt<|T.cH H z (λH=>?_) λH=>?_
 ·refine Ks<|Sq<|Bl<|Sm z<|An z<|T.A0S ?_
  obtain ⟨ak,am,an⟩:=J6 H
  have H:=am
  refine Bl<|T.lk [1,2,3,8] (FUEL,e,f,k) (λ⟨o,m,c,b⟩=>([(0,d),(9,qi c)],F3 3 1 d b::L,λhh=>iter (A2d r s) o (m,c)=some ak∧A7 (VI .i64) hh b m)) ⟨H,K⟩ ?_
  rintro ⟨o,m,c,b⟩ ao a3 ⟨ap,a⟩
  obtain ⟨aq,a4,rfl,H,N⟩:=G7 ap
  refine T.norm [0,9,1,2,3,8] z<|T.fl ?_
  refine Sq<|Sq ?_
  obtain ⟨ar,au,aw⟩:=J6 H
  refine T.ck (α:=Bool) [0,1,2,3,8,9] (λp=>([(34,.bool p)],F3 3 1 d b::L,λhh=>ar=p)) ?_ ?_
  ·have H:=au
   refine T.N7 (t:=(.vs [0,1,2,3,4,5,6,7,8,9,10,11,12,13] (.alt 14 (.g (.v 15 (.v 16 .done))) .no))) 18 1 1 z z H9 (by kernel_rfl) ?_
   refine Tm z z<|Tm z z<|Tv z (V.gt z z)<|Tm z z<|T.bH 21 H z (λH=>?_) λH=>?_
   ·refine Tm z z<|Tm z z<|Tm z z<|bE H λa5 P H=>?_
    obtain ⟨a6,ax,rfl⟩:=A7.get a P
    refine Tv z (Val.XA λ_ _ _=>V.ixR A9 z z (j:=0) z (A7.bd a P))<|Tv z (Val.XA λ_ _ _=>V.ldR D7 z (j:=0) z ax z)<|Tm z z<|Tm z z<|bE H λa7 ay H=>Tv z (V.Z4 z z ay)<|bE H λa8 S H=>?_
    obtain ⟨a9,aA,rfl⟩:=A7.get a S
    refine Tv z (Val.XA λ_ _ _=>V.ixR A9 z z (j:=0) z (A7.bd a S))<|Tv z (Val.XA λ_ _ _=>V.ldR D7 z (j:=0) z aA z)<|bE H λaB aC H=>?_
    obtain ⟨ah,al,av,aD,aE⟩:=B0C.call (aa.u (g:=ao)) aC
    refine Tp z z (X3 [0] [0] z z) (O.A1l z aD z (aE _) z λaz ba bb bc aG=>?_) T.P6
    obtain ⟨rfl,aI⟩:=aG
    refine P8 _ aI<|T.O1 Li<|Tv z (V.lt z z)<|Tv z (V.pkT z z)<|T.O6 (X3 [0] [0] z z)<|Th<|T.mt (decide (aB<(0:Int))) (M0 H)
   refine T2 z z<|T2 z z<|T2 z z<|T2 z z<|T2 z z<|T.A4m z z (X3 [0] [0] z z) z ?_ T.P6
   refine T.O1 Lr<|Tk z<|Tv z (V.pkF z z)<|T.O6 (X3 [0] [0] z z)<|Th<|T.mt false (M0 H)
  rintro p w be aJ
  have H:=I4 aJ aw
  refine T.norm [34,0,1,2,3,8,9] z<|T.fl ?_
  refine T.cH H z (λH=>?_) λH=>?_
  ·refine Ks<|Sq<|Bl<|T.N7 (t:=(.vs [0,1,2,3,4,5,6,7] (.x 8 (.x 9 (.v 10 (.v 11 (.alt 12 (.x 13 (.x 14 (.alt 15 (.alt 16 (.alt 17 .done .no) .no) .no))) .no))))))) 15 1 0 z z H9 (by kernel_rfl) ?_
   refine Tm z z<|Tm z z<|Tm z z<|Tm z z<|bE H λU aK H=>Tv z (V.Z4 z z aK)<|Tm z z<|Tm z z<|bE H λbf aM H=>Tv z (V.Z4 z z aM)<|bE H λq W H=>?_
   obtain ⟨bg,aN,rfl⟩:=A7.get a W
   refine T.tx z z (Val.XA λ_ _ _=>V.ixR A9 z z (j:=0) z (A7.bd a W)) z Calm.i<|T.tx z z (Val.XA λ_ _ _=>V.ldR D7 z (j:=0) z aN z) z Calm.i<|Tm z z<|Tm z z<|bE H λy X H=>?_
   obtain ⟨bi,aO,rfl⟩:=A7.get a X
   refine Ts z z (X3 [] [0] z z) (V.ixR A9 z z (j:=0) z (A7.bd a X)) z ?_ T.P6
   refine T.tx z z (Val.XA λ_ _ _=>V.ldR D7 z (j:=0) z aO z) z Calm.i<|bE H λbj E H=>?_
   obtain ⟨bk,bm,rfl⟩:=A7.get a E
   refine T.tx z z (Val.XA λ_ _ _=>V.ixR A9 z z (j:=0) z (A7.bd a E)) z Calm.i<|bE H λaP aS H=>Tp z z (X3 [] [0] z z) (O.stR D7 z z (j:=0) z (A7.bdN a E) z ?_) T.P6
   have A:A7 (VI .i64) w (b.set c.toNat [qi q]) aP:=A7.set a.u (show (VI .i64) w [qi q] q from z) aS
   refine bE H λbn G H=>?_
   obtain ⟨bo,bp,rfl⟩:=A7.get A G
   refine Ts z z (SX.one (XA.fr [] Lr z) z) (V.ixR A9 z z (j:=0) z (A7.bd A G)) z ?_ T.P6
   refine bE H λY aU H=>Tp z z (SX.one (XA.fr [] Lr z) z) (O.stR D7 z z (j:=0) z (A7.bdN A G) z ?_) T.P6
   have aV:A7 (VI .i64) w ((b.set c.toNat [qi q]).set U.toNat [qi y]) Y:=A7.set A (show (VI .i64) w [qi y] y from z) aU
   refine T.O6 (SX.one (XA.fr [] Lr z) z)<|Bn<|Th<|Rg<|Mv z<|bE H λaW aX H=>Vv (V.Z4 z z aX)<|An z<|T.ag (aq,Y,aW,((b.set c.toNat [qi q]).set U.toNat [qi y])) ⟨(D8 H N),aV⟩
  refine T.exit<|Te<|Te<|have H:=D6 H N; Be<|Th<|have H:=I4 H an; Bn<|Th<|Rg<|Mv z<|bE H λaY aZ H=>Vv (V.H5 z z aZ)<|An z<|T.ag (aj,m,aY,b) ⟨(D8 H M),a.u⟩
 refine T.exit<|Te<|Te<|have H:=D6 H M; Be<|Th<|have H:=I4 H af; ?_
 cases H
 exact T.A0V results274 Li ⟨_,z,z,K⟩
theorem B9o {h a m n k p o q_0} (y:A7 (VI .i64) h m n) (q:B0C h p o) (H:B2T n k o=some q_0):∀ L,J2 prog 255 [a,.int .i64 k,p] h (F3 3 1 a m::L) (λv h' L'=>∃ r,v=.tuple #[]∧L'=F3 3 1 a r::L∧A7 (VI .i64) h' r q_0):=by
 intro L
 refine J2.enter func255 z z z<|Sr<|An z<|Sm z<|Ag z<|An z<|Sq ?_
 obtain ⟨A,B,C⟩:=J6 H
 have H:=B
 refine Bl<|T.lk [1,2,6] (FUEL,n,(0:Int),(20:Int),m) (λ⟨d,e,f,b,g⟩=>([(0,a),(7,qi f),(8,qi b)],F3 3 1 a g::L,λhh=>iter (A9e k o) d (e,f,b)=some A∧A7 (VI .i64) hh g e)) ⟨H,y⟩ ?_
 rintro ⟨d,e,f,b,g⟩ au aw ⟨D,s⟩
 obtain ⟨E,ax,rfl,H,t⟩:=G7 D
 refine T.norm [0,7,8,1,2,6] z<|T.fl ?_
 refine Sq<|Sm z<|Mv z<|Vv (V.le z z)<|Nt<|T.cH H z (λH=>?_) λH=>?_
 ·refine Ks<|Bl<|Sm z<|Mv z<|Mv z<|Mv z<|bE H λG I H=>To (O.G5 z (B3c s q.u I _) z λay aA aB aC J=>?_)
  obtain ⟨K,rfl,M,N⟩:=J
  refine P8 _ M<|Nt<|Sm z<|An z<|Rg<|Mv z<|Mv z<|bE H λP S H=>Vv (V.H5 z z S)<|Ag z<|Ni<|Bn<|Th<|T.ag (E,G,b,P,K) ⟨(D8 H t),N⟩
 refine T.exit<|Te<|Te<|have H:=D6 H t; Be<|Th<|have H:=I4 H C; Sm z<|Mv z<|Mv z<|Mv z<|bE H λaD U H=>To (O.G5 z (B3c s q.u U _) z λaE aG aI aJ W=>?_)
 obtain ⟨w,rfl,X,Y⟩:=W
 refine P8 _ X<|Nt<|T.A0S ?_
 obtain ⟨Z,aa,ab⟩:=J6 H
 have H:=aa
 refine Bl<|T.lk [0,1,2] (FUEL,(20:Int)) (λ⟨i,c⟩=>([(6,qi c)],F3 3 1 a w::L,λhh=>iter (A9d k) i c=some Z)) H ?_
 rintro ⟨i,c⟩ aK aM ac
 obtain ⟨ad,aN,rfl,H,x⟩:=G7 ac
 refine T.norm [6,0,1,2] z<|T.fl ?_
 refine Sq<|Sm z<|Mv z<|Wl z z<|Nt<|T.cH H z (λH=>?_) λH=>?_
 ·refine Ks<|Bl<|Sm z<|bE H λae af H=>Vv (V.A9L z z af)<|Ag z<|An z<|Sq ?_
  obtain ⟨ai,aj,ak⟩:=J6 H
  have H:=aj
  refine Bl<|T.C2O (α:=Nat) [0,1,2,6,7,8] z (λj=>[]) (λj=>F3 3 1 a w::L) (λj hh=>iter (B3p k c ae) j ()=some ai) (λj=>j) FUEL trivial z H ?_
  rintro j aO aP am
  obtain ⟨aS,aU,rfl,H,an⟩:=G7 am
  refine T.norm [0,1,2,6,7,8] z<|T.fl ?_
  refine Sq<|Sm z<|Mv z<|Vv (V.le z z)<|Nt<|T.cH H z (λH=>?_) λH=>?_
  ·refine Ks<|Bl<|Sm z<|Mv z<|Mv z<|Mv z<|bE H λaV ao H=>Vv (V.H5 z z ao)<|Mv z<|Mv z<|dead H
  refine T.exit<|Te<|Te<|have H:=D6 H an; Be<|Th<|have H:=I4 H ak; Sq<|Sm z<|Mv z<|bE H λaW ap H=>Vv (V.H5 z z ap)<|An z<|Sm z<|Mv z<|Wl z z<|Nt<|T.cH H z (λH=>?_) λH=>?_
  ·refine Rg<|Mv z<|Mv z<|Mv z<|Mv z<|Mv z<|dead H
  refine Ks<|Rg<|Mv z<|bE H λaq ar H=>Vv (V.A9L z z ar)<|Ag z<|Ni<|Bn<|Th<|T.ag (ad,aq) (D8 H x)
 refine T.exit<|Te<|Te<|have H:=D6 H x; Be<|Th<|have H:=I4 H ab; ?_
 cases H
 exact T.A0V results255 Li ⟨_,z,z,Y.u⟩
theorem B5h {h a b c d e q_0} (f:A7 (VI .i64) h b c) (i:B0C h d e) (H:A4L c e=some q_0):∀ L,J2 prog 248 [a,d] h (F3 3 1 a b::L) (λv h' L'=>∃ g,v=.tuple #[]∧L'=F3 3 1 a g::L∧A7 (VI .i64) h' g q_0):=by
 intro L
 refine J2.enter func248 z z z<|Rg<|Mv z<|Mv z<|Vv (V.A4a A9 z (j:=0) z f.len)<|Mv z<|bE H λp k H=>To (O.G5 z (B9o f i k _) z λq r s t m=>?_)
 obtain ⟨u,rfl,n,o⟩:=m
 refine P8 _ n<|Ni ?_
 cases H
 exact T.A0V results248 Li ⟨_,z,z,o⟩
theorem B8h {h d B C r D I s q_0} (ab:A7 (VSl (VI .i64) 1) h B C) (ac:B1d h I s) (H:A8o C r D s=some q_0):∀ L,J2 prog 265 [d,.int .i64 r,.int .i64 D,I] h (F3 30 1 d B::L) (λv h' L'=>∃ J,v=.tuple #[]∧L'=F3 30 1 d J::L∧A7 (VSl (VI .i64) 1) h' J q_0):=by
 intro L
 refine J2.enter func265 z z z<|Sm z<|bE H λad ae H=>Vv (V.H5 z z ae)<|An z<|T.A0S ?_
 obtain ⟨af,ai,aj⟩:=J6 H
 have H:=ai
 refine Bl<|T.lk [1,2,3] (FUEL,C,ad,B) (λ⟨n,e,f,k⟩=>([(0,d),(8,qi f)],F3 30 1 d k::L,λhh=>iter (A1H r D s) n (e,f)=some af∧A7 (VSl (VI .i64) 1) hh k e)) ⟨H,ab⟩ ?_
 rintro ⟨n,e,f,k⟩ a6 a7 ⟨ak,K⟩
 obtain ⟨am,a8,rfl,H,M⟩:=G7 ak
 refine T.norm [0,8,1,2,3] z<|T.fl ?_
 refine Sq<|Sm z<|Mv z<|Wl z z<|Nt<|T.cH H z (λH=>?_) λH=>?_
 ·refine Ks<|Sq<|Bl<|Sm z<|An z<|T.A0S ?_
  obtain ⟨an,ao,ap⟩:=J6 H
  have H:=ao
  refine Bl<|T.lk [1,2,3,8] (FUEL,e,f,k) (λ⟨o,m,c,b⟩=>([(0,d),(9,qi c)],F3 30 1 d b::L,λhh=>iter (A1I r s) o (m,c)=some an∧A7 (VSl (VI .i64) 1) hh b m)) ⟨H,K⟩ ?_
  rintro ⟨o,m,c,b⟩ aq a9 ⟨ar,a⟩
  obtain ⟨au,ah,rfl,H,N⟩:=G7 ar
  refine T.norm [0,9,1,2,3,8] z<|T.fl ?_
  refine Sq<|Sq ?_
  obtain ⟨aw,ax,ay⟩:=J6 H
  refine T.ck (α:=Bool) [0,1,2,3,8,9] (λp=>([(34,.bool p)],F3 30 1 d b::L,λhh=>aw=p)) ?_ ?_
  ·have H:=ax
   refine T.N7 (t:=(.vs [0,1,2,3,4,5,6,7,8,9,10,11,12,13] (.alt 14 (.g (.v 15 (.v 16 .done))) .no))) 18 1 1 z z H9 (by kernel_rfl) ?_
   refine Tm z z<|Tm z z<|Tv z (V.gt z z)<|Tm z z<|T.bH 21 H z (λH=>?_) λH=>?_
   ·refine Tm z z<|Tm z z<|Tm z z<|bE H λal P H=>?_
    obtain ⟨av,aA,⟨az,rfl,aB⟩⟩:=A7.get a P
    refine Tv z (Val.XA λ_ _ _=>V.ixR K4 z z (j:=0) z (A7.bd a P))<|Tv z (Val.XA λ_ _ _=>V.ldR D9 z (j:=0) z aA z)<|Tm z z<|Tm z z<|bE H λba aC H=>Tv z (V.Z4 z z aC)<|bE H λbb S H=>?_
    obtain ⟨bc,aD,⟨be,rfl,aE⟩⟩:=A7.get a S
    refine Tv z (Val.XA λ_ _ _=>V.ixR K4 z z (j:=0) z (A7.bd a S))<|Tv z (Val.XA λ_ _ _=>V.ldR D9 z (j:=0) z aD z)<|bE H λaG aI H=>?_
    obtain ⟨bf,bg,bi,aJ,aK⟩:=B1d.call (ac.u (g:=aq)) aB aE aI
    refine Tp z z (X3 [0] [0] z z) (O.A1l z aJ z (aK _) z λbj bk bm bn aM=>?_) T.P6
    obtain ⟨rfl,aN⟩:=aM
    refine P8 _ aN<|T.O1 Li<|Tv z (V.lt z z)<|Tv z (V.pkT z z)<|T.O6 (X3 [0] [0] z z)<|Th<|T.mt (decide (aG<(0:Int))) (M0 H)
   refine T2 z z<|T2 z z<|T2 z z<|T2 z z<|T2 z z<|T.A4m z z (X3 [0] [0] z z) z ?_ T.P6
   refine T.O1 Lr<|Tk z<|Tv z (V.pkF z z)<|T.O6 (X3 [0] [0] z z)<|Th<|T.mt false (M0 H)
  rintro p w bo aO
  have H:=I4 aO ay
  refine T.norm [34,0,1,2,3,8,9] z<|T.fl ?_
  refine T.cH H z (λH=>?_) λH=>?_
  ·refine Ks<|Sq<|Bl<|T.N7 (t:=(.vs [0,1,2,3,4,5,6,7] (.x 8 (.x 9 (.v 10 (.v 11 (.alt 12 (.x 13 (.x 14 (.alt 15 (.alt 16 (.alt 17 .done .no) .no) .no))) .no))))))) 15 1 0 z z H9 (by kernel_rfl) ?_
   refine Tm z z<|Tm z z<|Tm z z<|Tm z z<|bE H λU aP H=>Tv z (V.Z4 z z aP)<|Tm z z<|Tm z z<|bE H λbp aS H=>Tv z (V.Z4 z z aS)<|bE H λaU W H=>?_
   obtain ⟨bq,aV,⟨q,rfl,X⟩⟩:=A7.get a W
   refine T.tx z z (Val.XA λ_ _ _=>V.ixR K4 z z (j:=0) z (A7.bd a W)) z Calm.i<|T.tx z z (Val.XA λ_ _ _=>V.ldR D9 z (j:=0) z aV z) z Calm.i<|Tm z z<|Tm z z<|bE H λaW Y H=>?_
   obtain ⟨br,aX,⟨y,rfl,Z⟩⟩:=A7.get a Y
   refine Ts z z (X3 [] [0] z z) (V.ixR K4 z z (j:=0) z (A7.bd a Y)) z ?_ T.P6
   refine T.tx z z (Val.XA λ_ _ _=>V.ldR D9 z (j:=0) z aX z) z Calm.i<|bE H λbs E H=>?_
   obtain ⟨bt,bu,⟨bw,rfl,bx⟩⟩:=A7.get a E
   refine T.tx z z (Val.XA λ_ _ _=>V.ixR K4 z z (j:=0) z (A7.bd a E)) z Calm.i<|bE H λaY aZ H=>Tp z z (X3 [] [0] z z) (O.stR D9 z z (j:=0) z (A7.bdN a E) (G6.one X) ?_) T.P6
   have A:A7 (VSl (VI .i64) 1) w (b.set c.toNat [q]) aY:=A7.set a.u (show (VSl (VI .i64) 1) w [q] aU from ⟨q,z,X.u⟩) aZ
   refine bE H λbA G H=>?_
   obtain ⟨bB,bC,⟨bD,rfl,bG⟩⟩:=A7.get A G
   refine Ts z z (SX.one (XA.fr [] Lr z) z) (V.ixR K4 z z (j:=0) z (A7.bd A G)) z ?_ T.P6
   refine bE H λaa a0 H=>Tp z z (SX.one (XA.fr [] Lr z) z) (O.stR D9 z z (j:=0) z (A7.bdN A G) (G6.one Z) ?_) T.P6
   have a1:A7 (VSl (VI .i64) 1) w ((b.set c.toNat [q]).set U.toNat [y]) aa:=A7.set A (show (VSl (VI .i64) 1) w [y] aW from ⟨y,z,Z.u⟩) a0
   refine T.O6 (SX.one (XA.fr [] Lr z) z)<|Bn<|Th<|Rg<|Mv z<|bE H λa2 a3 H=>Vv (V.Z4 z z a3)<|An z<|T.ag (au,aa,a2,((b.set c.toNat [q]).set U.toNat [y])) ⟨(D8 H N),a1⟩
  refine T.exit<|Te<|Te<|have H:=D6 H N; Be<|Th<|have H:=I4 H ap; Bn<|Th<|Rg<|Mv z<|bE H λa4 a5 H=>Vv (V.H5 z z a5)<|An z<|T.ag (am,m,a4,b) ⟨(D8 H M),a.u⟩
 refine T.exit<|Te<|Te<|have H:=D6 H M; Be<|Th<|have H:=I4 H aj; ?_
 cases H
 exact T.A0V results265 Li ⟨_,z,z,K⟩
theorem B8j (n:Nat):∀ {h:PH} {pv0:Value} {pcs0:List (List Value)} {data1:List (List Int)} (pr0:A7 (VSl (VI .i64) 1) h pcs0 data1) {a3:Int} {b4:Int} {limit5:Int} {pv4:Value} {cmp6:(List Int)→(List Int)→Option Int} (pr4:B1d h pv4 cmp6) {q_0:List (List Int)} (H:B1v n data1 a3 b4 limit5 cmp6=some q_0) (L:List E5),J2 prog 253 [pv0,.int .i64 a3,.int .i64 b4,.int .i64 limit5,pv4] h (F3 30 1 pv0 pcs0::L) (λv h' L'=>∃ ls0,v=.tuple #[]∧L'=F3 30 1 pv0 ls0::L∧A7 (VSl (VI .i64) 1) h' ls0 q_0):=by
  induction n with
  | zero=>intros; rename_i H _; cases H
  | succ n self=>
    intro h pv0 pcs0 data1 pr0 a3 b4 limit5 pv4 cmp6 pr4 q_0 H L
    refine J2.enter func253 z z z<|Sr<|An z<|Sr<|An z ?_
    obtain ⟨b,c,d⟩:=J6 H
    have H:=c
    refine Bl<|T.C2O (α:=Nat) [0,1,2,3,4,10,11] z (λa=>[]) (λa=>F3 30 1 pv0 pcs0::L) (λa hh=>iter (A4I data1 a3 b4 limit5 cmp6) a ()=some b) (λa=>a) FUEL trivial z H ?_
    rintro a o p e
    obtain ⟨q,r,rfl,H,f⟩:=G7 e
    refine T.norm [0,1,2,3,4,10,11] z<|T.fl ?_
    refine Bl<|Sm z<|Mv z<|bE H λs g H=>Vv (V.Z4 z z g)<|An z<|Sq<|Sm z<|Vv (V.le z z)<|Nt<|T.cH H z (λH=>?_) λH=>?_
    ·refine Sm z<|Mv z<|Mv z<|Mv z<|bE H λt i H=>To (O.G5 z (B8h pr0.u pr4.u i _) z λw x y A j=>?_)
     obtain ⟨B,rfl,k,m⟩:=j
     refine P8 _ k<|Nr<|Tr<|Br<|Tr<|have H:=D6 H f; Br<|have H:=I4 H d; ?_
     cases H
     exact T.C5R results253 Li ⟨_,z,z,m⟩
    refine Ks<|Sq<|Sm z<|We z z<|Nt<|T.cH H z (λH=>?_) λH=>?_
    ·refine Sm z<|Mv z<|Mv z<|Mv z<|dead H
    refine Ks<|Sq<|Sm z<|Vv (V.not z)<|Nt<|Cf z<|Ks<|Sm z<|Mv z<|Mv z<|Mv z<|dead H
theorem B6o {h a b c d e q_0} (f:A7 (VSl (VI .i64) 1) h b c) (i:B1d h d e) (H:A5P c e=some q_0):∀ L,J2 prog 242 [a,d] h (F3 30 1 a b::L) (λv h' L'=>∃ g,v=.tuple #[]∧L'=F3 30 1 a g::L∧A7 (VSl (VI .i64) 1) h' g q_0):=by
 intro L
 refine J2.enter func242 z z z<|Sm z<|Vv (V.A4a K4 z (j:=0) z f.len)<|An z<|Rg<|Mv z<|Mv z<|Mv z<|bE H λt k H=>Vv (V.A5g underlying3 underlying208 z k)<|bE H λw m H=>To (O.cs (B3W m _) λy B=>Mv z<|bE H λC p H=>To (O.G5 z (B8j _ f.u i.u p _) z λD E G I q=>?_))
 obtain ⟨J,rfl,r,s⟩:=q
 refine P8 _ r<|Ni ?_
 cases H
 exact T.A0V results242 Li ⟨_,z,z,s⟩
theorem B9z {h f C D s E J w q_0} (ac:A7 M4 h C D) (ad:B1b h J w) (H:B7v D s E w=some q_0):∀ L,J2 prog 194 [f,.int .i64 s,.int .i64 E,J] h (F3 88 3 f C::L) (λv h' L'=>∃ K,v=.tuple #[]∧L'=F3 88 3 f K::L∧A7 M4 h' K q_0):=by
 intro L
 refine J2.enter func194 z z z<|Sm z<|bE H λae af H=>Vv (V.H5 z z af)<|An z<|T.A0S ?_
 obtain ⟨ai,aj,ak⟩:=J6 H
 have H:=aj
 refine Bl<|T.lk [1,2,3] (FUEL,D,ae,C) (λ⟨p,k,m,n⟩=>([(0,f),(8,qi m)],F3 88 3 f n::L,λhh=>iter (B2Z s E w) p (k,m)=some ai∧A7 M4 hh n k)) ⟨H,ac⟩ ?_
 rintro ⟨p,k,m,n⟩ a4 a5 ⟨am,M⟩
 obtain ⟨an,a6,rfl,H,N⟩:=G7 am
 refine T.norm [0,8,1,2,3] z<|T.fl ?_
 refine Sq<|Sm z<|Mv z<|Wl z z<|Nt<|T.cH H z (λH=>?_) λH=>?_
 ·refine Ks<|Sq<|Bl<|Sm z<|An z<|T.A0S ?_
  obtain ⟨ao,ap,aq⟩:=J6 H
  have H:=ap
  refine Bl<|T.lk [1,2,3,8] (FUEL,k,m,n) (λ⟨q,o,e,c⟩=>([(0,f),(9,qi e)],F3 88 3 f c::L,λhh=>iter (B3e s w) q (o,e)=some ao∧A7 M4 hh c o)) ⟨H,M⟩ ?_
  rintro ⟨q,o,e,c⟩ G a7 ⟨ar,b⟩
  obtain ⟨au,a8,rfl,H,P⟩:=G7 ar
  refine T.norm [0,9,1,2,3,8] z<|T.fl ?_
  refine Sq<|Sq ?_
  obtain ⟨aw,ax,ay⟩:=J6 H
  refine T.ck (α:=Bool) [0,1,2,3,8,9] (λr=>([(34,.bool r)],F3 88 3 f c::L,λhh=>aw=r)) ?_ ?_
  ·have H:=ax
   refine T.N7 (t:=(.vs [0,1,2,3,4,5,6,7,8,9,10,11,12,13] (.alt 14 (.g (.v 15 (.v 16 .done))) .no))) 18 1 1 z z H9 (by kernel_rfl) ?_
   refine Tm z z<|Tm z z<|Tv z (V.gt z z)<|Tm z z<|T.bH 21 H z (λH=>?_) λH=>?_
   ·refine Tm z z<|Tm z z<|Tm z z<|bE H λy S H=>?_
    obtain ⟨a9,aA,rfl⟩:=A7.get b S
    refine Tv z (Val.XA λ_ _ _=>V.ixR A1G z z (j:=0) z (A7.bd b S))<|Tv z (Val.XA λ_ _ _=>V.C8m z (j:=0) z aA A1K)<|Tm z z<|Tm z z<|bE H λah aB H=>Tv z (V.Z4 z z aB)<|bE H λA U H=>?_
    obtain ⟨al,aC,rfl⟩:=A7.get b U
    refine Tv z (Val.XA λ_ _ _=>V.ixR A1G z z (j:=0) z (A7.bd b U))<|Tv z (Val.XA λ_ _ _=>V.C8m z (j:=0) z aC A1K)<|bE H λaD aE H=>?_
    obtain ⟨av,az,ba,aG,aI⟩:=B1b.call (ad.u (g:=G)) (show M4 G [qi y.A3e,qi y.Y9,qi y.A2L] y from rfl) (show M4 G [qi A.A3e,qi A.Y9,qi A.A2L] A from rfl) aE
    refine Tp z z (X3 [0] [0] z z) (O.A1l z aG z (aI _) z λbb bc be bf aJ=>?_) T.P6
    obtain ⟨rfl,aK⟩:=aJ
    refine P8 _ aK<|T.O1 Li<|Tv z (V.lt z z)<|Tv z (V.pkT z z)<|T.O6 (X3 [0] [0] z z)<|Th<|T.mt (decide (aD<(0:Int))) (M0 H)
   refine T2 z z<|T2 z z<|T2 z z<|T2 z z<|T2 z z<|T.A4m z z (X3 [0] [0] z z) z ?_ T.P6
   refine T.O1 Lr<|Tk z<|Tv z (V.pkF z z)<|T.O6 (X3 [0] [0] z z)<|Th<|T.mt false (M0 H)
  rintro r B bg aM
  have H:=I4 aM ay
  refine T.norm [34,0,1,2,3,8,9] z<|T.fl ?_
  refine T.cH H z (λH=>?_) λH=>?_
  ·refine Ks<|Sq<|Bl<|T.N7 (t:=(.vs [0,1,2,3,4,5,6,7] (.x 8 (.x 9 (.v 10 (.v 11 (.alt 12 (.x 13 (.x 14 (.alt 15 (.alt 16 (.alt 17 .done .no) .no) .no))) .no))))))) 15 1 0 z z H9 (by kernel_rfl) ?_
   refine Tm z z<|Tm z z<|Tm z z<|Tm z z<|bE H λW aN H=>Tv z (V.Z4 z z aN)<|Tm z z<|Tm z z<|bE H λbi aO H=>Tv z (V.Z4 z z aO)<|bE H λa X H=>?_
   obtain ⟨bj,aP,rfl⟩:=A7.get b X
   refine T.tx z z (Val.XA λ_ _ _=>V.ixR A1G z z (j:=0) z (A7.bd b X)) z Calm.i<|T.tx z z (Val.XA λ_ _ _=>V.C8m z (j:=0) z aP A1K) z Calm.i<|Tm z z<|Tm z z<|bE H λd Y H=>?_
   obtain ⟨bk,aS,rfl⟩:=A7.get b Y
   refine Ts z z (X3 [] [0] z z) (V.ixR A1G z z (j:=0) z (A7.bd b Y)) z ?_ T.P6
   refine T.tx z z (Val.XA λ_ _ _=>V.C8m z (j:=0) z aS A1K) z Calm.i<|bE H λbm Z H=>?_
   obtain ⟨bn,aU,rfl⟩:=A7.get b Z
   refine T.tx z z (Val.XA λ_ _ _=>V.ixR A1G z z (j:=0) z (A7.bd b Z)) z Calm.i<|bE H λaV aW H=>Tp z z (X3 [] [0] z z) (O.stX A1K z z (j:=0) z z z z aU ?_) T.P6
   have I:A7 M4 B (c.set e.toNat [qi a.A3e,qi a.Y9,qi a.A2L]) aV:=A7.set b.u (show M4 B [qi a.A3e,qi a.Y9,qi a.A2L] a from z) aW
   refine bE H λbo aa H=>?_
   obtain ⟨bp,aX,rfl⟩:=A7.get I aa
   refine Ts z z (SX.one (XA.fr [] Lr z) z) (V.ixR A1G z z (j:=0) z (A7.bd I aa)) z ?_ T.P6
   refine bE H λab aY H=>Tp z z (SX.one (XA.fr [] Lr z) z) (O.stX A1K z z (j:=0) z z z z aX ?_) T.P6
   have aZ:A7 M4 B ((c.set e.toNat [qi a.A3e,qi a.Y9,qi a.A2L]).set W.toNat [qi d.A3e,qi d.Y9,qi d.A2L]) ab:=A7.set I (show M4 B [qi d.A3e,qi d.Y9,qi d.A2L] d from z) aY
   refine T.O6 (SX.one (XA.fr [] Lr z) z)<|Bn<|Th<|Rg<|Mv z<|bE H λa0 a1 H=>Vv (V.Z4 z z a1)<|An z<|T.ag (au,ab,a0,((c.set e.toNat [qi a.A3e,qi a.Y9,qi a.A2L]).set W.toNat [qi d.A3e,qi d.Y9,qi d.A2L])) ⟨(D8 H P),aZ⟩
  refine T.exit<|Te<|Te<|have H:=D6 H P; Be<|Th<|have H:=I4 H aq; Bn<|Th<|Rg<|Mv z<|bE H λa2 a3 H=>Vv (V.H5 z z a3)<|An z<|T.ag (an,o,a2,c) ⟨(D8 H N),b.u⟩
 refine T.exit<|Te<|Te<|have H:=D6 H N; Be<|Th<|have H:=I4 H ak; ?_
 cases H
 exact T.A0V results194 Li ⟨_,z,z,M⟩
theorem B9s (n:Nat):∀ {h:PH} {pv0:Value} {pcs0:List (List Value)} {data1:List H8} (pr0:A7 M4 h pcs0 data1) {a3:Int} {b4:Int} {limit5:Int} {pv4:Value} {cmp6:H8→H8→Option Int} (pr4:B1b h pv4 cmp6) {q_0:List H8} (H:B7L n data1 a3 b4 limit5 cmp6=some q_0) (L:List E5),J2 prog 136 [pv0,.int .i64 a3,.int .i64 b4,.int .i64 limit5,pv4] h (F3 88 3 pv0 pcs0::L) (λv h' L'=>∃ ls0,v=.tuple #[]∧L'=F3 88 3 pv0 ls0::L∧A7 M4 h' ls0 q_0):=by
  induction n with
  | zero=>intros; rename_i H _; cases H
  | succ n self=>
    intro h pv0 pcs0 data1 pr0 a3 b4 limit5 pv4 cmp6 pr4 q_0 H L
    refine J2.enter func136 z z z<|Sr<|An z<|Sr<|An z ?_
    obtain ⟨b,c,d⟩:=J6 H
    have H:=c
    refine Bl<|T.C2O (α:=Nat) [0,1,2,4] z (λa=>[]) (λa=>F3 88 3 pv0 pcs0::L) (λa hh=>iter (B3d data1 a3 b4 cmp6) a ()=some b) (λa=>a) FUEL trivial z H ?_
    rintro a o p e
    obtain ⟨q,r,rfl,H,f⟩:=G7 e
    refine T.norm [0,1,2,4] z<|T.fl ?_
    refine Bl<|Sm z<|Mv z<|bE H λs g H=>Vv (V.Z4 z z g)<|An z<|Sq<|Sm z<|Vv (V.le z z)<|Nt<|T.cH H z (λH=>?_) λH=>?_
    ·refine Sm z<|Mv z<|Mv z<|Mv z<|bE H λt i H=>To (O.G5 z (B9z pr0.u pr4.u i _) z λw x y A j=>?_)
     obtain ⟨B,rfl,k,m⟩:=j
     refine P8 _ k<|Nr<|Tr<|Br<|Tr<|have H:=D6 H f; Br<|have H:=I4 H d; ?_
     cases H
     exact T.C5R results136 Li ⟨_,z,z,m⟩
    exact dead H
theorem B6O {h a b c d e q_0} (f:A7 M4 h b c) (i:B1b h d e) (H:B4u c e=some q_0):∀ L,J2 prog 75 [a,d] h (F3 88 3 a b::L) (λv h' L'=>∃ g,v=.tuple #[]∧L'=F3 88 3 a g::L∧A7 M4 h' g q_0):=by
 intro L
 refine J2.enter func75 z z z<|Sm z<|Vv (V.A4a A1G z (j:=0) z f.len)<|An z<|Rg<|Mv z<|Mv z<|Mv z<|bE H λt k H=>Vv (V.A5g underlying3 underlying208 z k)<|bE H λw m H=>To (O.cs (B3W m _) λy B=>Mv z<|bE H λC p H=>To (O.G5 z (B9s _ f.u i.u p _) z λD E G I q=>?_))
 obtain ⟨J,rfl,r,s⟩:=q
 refine P8 _ r<|Ni ?_
 cases H
 exact T.A0V results75 Li ⟨_,z,z,s⟩
end Go.Proofs.X
open Go Go.Proofs Go.Proofs.Tryz Go.Sl Go.Dm
namespace Go.Proofs.X
theorem A1w:zer prog 30=some (.slice none 0 0):=by kernel_rfl
theorem C1I {h a b c d} (H:bits_Mul64 a b=some (c,d)):∀ L,FnW prog 193 [.int .u64 a,.int .u64 b] h L (.tuple #[.int .u64 c,.int .u64 d]):=by
 intro L
 exact J2.enter func193 z z z<|Sg z<|An z<|Sm z<|bE H λy e H=>Vv (V.C4v z z e)<|An z<|Sm z<|bE H λA f H=>Vv (V.A3Y z z f)<|An z<|Sm z<|bE H λB g H=>Vv (V.C4v z z g)<|An z<|Sm z<|bE H λC i H=>Vv (V.A3Y z z i)<|An z<|Sm z<|Mv z<|bE H λD j H=>Vv (V.C9s z z j)<|An z<|Sm z<|Mv z<|bE H λE k H=>Vv (V.C9s z z k)<|Mv z<|bE H λG m H=>Vv (V.A3Y z z m)<|bE H λI n H=>Vv (V.D0e z z n)<|An z<|Sm z<|bE H λJ o H=>Vv (V.C4v z z o)<|An z<|Sm z<|bE H λK p H=>Vv (V.A3Y z z p)<|An z<|Sq<|T.norm [0,1,6,7,9,12,13] z<|Rg<|Mv z<|Mv z<|Mv z<|bE H λM q H=>Vv (V.C9s z z q)<|bE H λN r H=>Vv (V.D0e z z r)<|An z<|Sm z<|Mv z<|bE H λO s H=>Vv (V.C9s z z s)<|Mv z<|bE H λP t H=>Vv (V.D0e z z t)<|Mv z<|bE H λS u H=>Vv (V.A3Y z z u)<|bE H λU w H=>Vv (V.D0e z z w)<|An z<|Sm z<|Mv z<|bE H λW x H=>Vv (V.C9s z z x)<|Ag z<|Nr<|E1 H
theorem C5A {h a b c d} (H:bits_Mul a b=some (c,d)):∀ L,FnW prog 132 [.int .u64 a,.int .u64 b] h L (.tuple #[.int .u64 c,.int .u64 d]):=by
 intro L
 exact J2.enter func132 z z z<|Sg z<|An z<|Sq<|Cf z<|Ks<|Sm z<|Mv z<|bE H λ⟨i,j⟩ e H=>To (O.cs (C1I e _) λm o=>Mv z<|Wx z z<|Wx z z<|Ag z<|An z<|Sm z<|Mv z<|Ag z<|Ag z<|Nr<|E1 H)
theorem A9o {h r s w y} (A:G6 (VI .i64) 1 h r s) (H:A6t s w=some y):∀ L,J2 prog 71 [r,.int .i64 w] h (L) (λv h' L'=>∃ B,L'=F3 3 1 v B::L∧A7 (VI .i64) h' B y):=by
 intro L
 refine J2.enter func71 z z z<|Sr<|An z<|Sq<|Sm z<|Wl z z<|Nt ?_
 obtain ⟨U,W,X⟩:=J6 H
 refine T.ck (α:=Unit) [0,1] (λ_=>([],L,λhh=>U=())) ?_ ?_
 ·have H:=W
  refine T.cH H z dead λH=>Ks<|T.mt () (M0 H)
 rintro _ aN aO Y
 have H:=I4 Y X
 refine T.norm [0,1] z<|T.fl ?_
 refine Sm z<|Vv (V.Q3 A9 z A)<|bE H λaP Z H=>Vv (V.A5g underlying3 underlying208 z Z)<|Mv z<|bE H λaS aa H=>Vv (V.A5g underlying3 underlying208 z aa)<|bE H λ⟨aU,ab⟩ ac H=>To (O.cs (C5A ac _) λaW aY=>Mv z<|Wx z z<|Wx z z<|Ag z<|An z<|Sq<|Sq ?_)
 obtain ⟨af,ai,aj⟩:=J6 H
 refine T.ck (α:=Bool) [0,6] (λf=>([(26,.bool f)],L,λhh=>af=f)) ?_ ?_
 ·have H:=ai
  refine Rg<|Mv z<|Wg z z<|Mv z<|T.bH 23 H z (λH=>?_) λH=>?_
  ·refine S2<|Kt z<|Nt<|T.mt true (M0 H)
  refine Mv z<|Wg z z<|Kf z<|Nt<|T.mt (decide ((9223372036854775807:Int)<ab)) (M0 H)
 rintro f aZ a0 ak
 have H:=I4 ak aj
 refine T.norm [26,0,6] z<|T.fl ?_
 obtain ⟨am,an,ao⟩:=J6 H
 refine T.ck (α:=Unit) [0,6] (λ_=>([],L,λhh=>am=())) ?_ ?_
 ·have H:=an
  refine T.cH H z dead λH=>Ks<|T.mt () (M0 H)
 rintro _ n a1 ap
 have H:=I4 ap ao
 refine T.norm [0,6] z<|T.fl ?_
 refine Sm z<|bE H λo aq H=>Vv (V.A5g underlying208 underlying3 z aq)<|bE H λk C H=>To (O.mkX A9 J7 z z z z C z λD a2 a3=>have p:A7 (VI .i64) n _ k:=A7.rep z C; An z<|Sm z<|Mv z ?_)
 obtain ⟨m,E,q⟩:=G6.row (A.u (g:=n))
 refine bE H λ⟨G,ar⟩ I H=>?_
 have J:0+k.length≤List.length (α:=List Value) (List.replicate o.toNat [qi 0]):=by rw [p.len]; omega
 refine To (O.copy A9 z z (j:=0) z (λ_ iv=>D1.D4x iv (j:=0) z p.len) J (C2i.fix E) E.wide (A7.ones VI.plain q) z<|T.int (D3v q I).symm<|have au:A7 (VI .i64) n (A3G (List.replicate o.toNat [qi 0]) 0 (List.take (min (List.length m) k.length) m)) G:=A7.cp p q J I; An z<|Sq ?_)
 obtain ⟨aw,ax,ay⟩:=J6 H
 have H:=ax
 refine Bl<|T.lk [] (FUEL,G,ar,(A3G (List.replicate o.toNat [qi 0]) 0 (List.take (min (List.length m) k.length) m))) (λ⟨e,d,a,b⟩=>([(7,D),(8,qi a)],F3 3 1 D b::L,λhh=>iter A9s e (d,a)=some aw∧A7 (VI .i64) hh b d)) ⟨H,au⟩ ?_
 rintro ⟨e,d,a,b⟩ aA a4 ⟨aB,c⟩
 obtain ⟨aC,a5,rfl,H,K⟩:=G7 aB
 refine T.norm [7,8] z<|T.fl ?_
 refine Sq<|Sm z<|Mv z<|Vv (V.A4a A9 z (j:=0) z c.len)<|Wl z z<|Nt<|T.cH H z (λH=>?_) λH=>?_
 ·refine Ks<|Bl<|T.N7 (t:=(.vs [0,1,2] (.x 3 (.v 4 (.v 5 (.x 6 (.alt 7 (.g (.v 8 (.alt 9 .done .no))) .no))))))) 7 1 0 z z H9 (by kernel_rfl) ?_
  refine Tm z z<|Tm z z<|Tm z z<|bE H λa6 aD H=>T.tx z z (Val.XA λ_ _ _=>V.C3T A9 z (j:=0) z c.len (.inr ⟨_,_,z,z⟩) (.inl ⟨z,z⟩) (A5a aD)) z Calm.i<|Tm z z<|Tm z z<|bE H λa7 aE H=>T.tx z z (Val.XA λ_ _ _=>V.C3T A9 z (j:=0) z c.len (.inl ⟨z,z⟩) (.inr ⟨_,_,z,z⟩) (A5a aE)) z Calm.i<|bE H λa8 M H=>bE H λa9 aG H=>T.wide 0 z λaI=>bE H λ⟨N,ah⟩ P H=>have S:a.toNat+((d.length:Int).toNat - a.toNat)≤List.length (α:=List Value) b:=C7d c.len M; Tp z z (X3 [] [0] z z) (O.copy A9 z z (j:=0) z (λ_ iv=>D1.C3e iv (j:=0) z c.len (A5a M)) S (C2i.C3e (j:=0) z c.len (A5a aG)) (O4.take (O4.drop aI)) (A7.ones VI.plain (A7.part c (0:Int).toNat (a.toNat - (0:Int).toNat))) z ?_) T.P6
  refine T.int (D3v (A7.part c (0:Int).toNat (a.toNat - (0:Int).toNat)) P).symm<|have aJ:A7 (VI .i64) aA (A3G b a.toNat (List.take (min (List.length (List.take (a.toNat - (0:Int).toNat) (List.drop (0:Int).toNat b))) ((d.length:Int).toNat - a.toNat)) (List.take (a.toNat - (0:Int).toNat) (List.drop (0:Int).toNat b)))) N:=A7.cp c (A7.part c (0:Int).toNat (a.toNat - (0:Int).toNat)) S P; T.O1 Lr<|bE H λaK aM H=>Tv z (V.H5 z z aM)<|Ts z z (SX.one (XA.fr [] Lr z) z) (V.asg z) z ?_ T.P6
  refine T.O6 (SX.one (XA.fr [] Lr z) z)<|Bn<|Th<|T.ag (aC,N,aK,(A3G b a.toNat (List.take (min (List.length (List.take (a.toNat - (0:Int).toNat) (List.drop (0:Int).toNat b))) ((d.length:Int).toNat - a.toNat)) (List.take (a.toNat - (0:Int).toNat) (List.drop (0:Int).toNat b))))) ⟨(D8 H K),aJ⟩
 refine T.exit<|Te<|Te<|have H:=D6 H K; Be<|Th<|have H:=I4 H ay; Sm z<|Ag z<|Nr ?_
 cases H
 exact T.rl z (Rv z) ⟨_,z,c⟩
theorem B8J {h m s n B} (d:A7 (VI .i64) h s n) (H:A7N n=some B):∀ L,J2 prog 236 [m] h (F3 3 1 m s::L) (λv h' L'=>∃ C,L'=F3 3 1 v C::L∧A7 (VI .i64) h' C B):=by
 intro L
 refine J2.enter func236 z z z<|Sr<|An z<|Sq<|Sm z<|Vv (V.A4a A9 z (j:=0) z d.len)<|Wl z z<|Nt<|T.cH H z (λH=>?_) λH=>?_
 ·refine Sm z<|Ag z<|Nr<|Tr ?_
  cases H
  exact T.rl z (Rv z) ⟨_,z,d⟩
 refine Ks<|Sq<|Sr<|An z ?_
 obtain ⟨S,U,D⟩:=J6 H
 have H:=U
 refine Bl<|T.lk [0] (FUEL,(1:Int)) (λ⟨g,f⟩=>([(3,qi f)],F3 3 1 m s::L,λhh=>iter (A4R n) g f=some S)) H ?_
 rintro ⟨g,f⟩ aI aJ W
 obtain ⟨X,aK,rfl,H,x⟩:=G7 W
 refine T.norm [3,0] z<|T.fl ?_
 refine Sq<|Sm z<|Mv z<|Vv (V.A4a A9 z (j:=0) z d.len)<|Wl z z<|Nt<|T.cH H z (λH=>?_) λH=>?_
 ·refine Ks<|Sq<|Bl<|Sq<|T.N7 (t:=(.vs [0,1,2,3,4,5,6,7,8,9] .done)) 11 1 1 z z H9 (by kernel_rfl) ?_
  refine Tm z z<|Tm z z<|bE H λaM E H=>?_
  obtain ⟨aN,Y,rfl⟩:=A7.get d E
  refine Tv z (Val.XA λ_ _ _=>V.ixR A9 z z (j:=0) z (A7.bd d E))<|Tv z (Val.XA λ_ _ _=>V.ldR D7 z (j:=0) z Y z)<|Tm z z<|Tm z z<|bE H λaO Z H=>Tv z (V.Z4 z z Z)<|bE H λaP G H=>?_
  obtain ⟨aS,aa,rfl⟩:=A7.get d G
  refine Tv z (Val.XA λ_ _ _=>V.ixR A9 z z (j:=0) z (A7.bd d G))<|Tv z (Val.XA λ_ _ _=>V.ldR D7 z (j:=0) z aa z)<|Tv z (V.eq z z)<|T.O6 (X3 [0] [0] z z)<|Th<|T.cH H z (λH=>?_) λH=>?_
  ·refine Sm z<|Mv z<|bE H λaU ab H=>Vv (V.C3T A9 z (j:=0) z d.len (.inr ⟨_,_,z,z⟩) (.inl ⟨z,z⟩) (A5a ab))<|An z<|Sq<|Sr<|An z ?_
   obtain ⟨ac,ad,ae⟩:=J6 H
   have H:=ad
   refine Bl<|T.lk [4] (FUEL,n,f,(1:Int),s) (λ⟨i,e,b,k,c⟩=>([(0,m),(3,qi b),(5,qi k)],F3 3 1 m c::L,λhh=>iter (A4F n f) i (e,b,k)=some ac∧A7 (VI .i64) hh c e)) ⟨H,d.u⟩ ?_
   rintro ⟨i,e,b,k,c⟩ o aV ⟨af,a⟩
   obtain ⟨I,aW,rfl,H,y⟩:=G7 af
   refine T.norm [0,3,5,4] z<|T.fl ?_
   refine Sq<|Sm z<|Mv z<|Vv (V.D3X A9 z (j:=0) z)<|Wl z z<|Nt<|T.cH H z (λH=>?_) λH=>?_
   ·refine Ks<|Sq<|Bl<|Sq<|T.N7 (t:=(.vs [0,1,2,3,4,5,6,7,8,9] .done)) 11 1 1 z z H9 (by kernel_rfl) ?_
    refine Tm z z<|Tm z z<|bE H λaX p H=>?_
    obtain ⟨aY,ai,rfl⟩:=A7.get a (Y1 p).2.2.2
    refine Tv z (Val.XA λ_ _ _=>V.ixV A9 z z (j:=0) z ⟨(Y1 p).1,(Y1 p).2.1,(Y1 p).2.2.1⟩ (A7.bd a (Y1 p).2.2.2).2)<|Tv z (Val.XA λ_ _ _=>V.ldR D7 z (j:=0) z ai z)<|Tm z z<|Tm z z<|bE H λaZ aj H=>Tv z (V.Z4 z z aj)<|bE H λa0 q H=>?_
    obtain ⟨a1,ak,rfl⟩:=A7.get a (Y1 q).2.2.2
    refine Tv z (Val.XA λ_ _ _=>V.ixV A9 z z (j:=0) z ⟨(Y1 q).1,(Y1 q).2.1,(Y1 q).2.2.1⟩ (A7.bd a (Y1 q).2.2.2).2)<|Tv z (Val.XA λ_ _ _=>V.ldR D7 z (j:=0) z ak z)<|Tv z (V.ne z z)<|T.O6 (X3 [0] [0] z z)<|Th<|T.cH H z (λH=>?_) λH=>?_
    ·refine Sm z<|Mv z<|Mv z<|Mv z<|bE H λw r H=>?_
     obtain ⟨a2,am,rfl⟩:=A7.get a (Y1 r).2.2.2
     refine Vv (V.ixV A9 z z (j:=0) z ⟨(Y1 r).1,(Y1 r).2.1,(Y1 r).2.2.1⟩ (A7.bd a (Y1 r).2.2.2).2)<|Vv (V.ldR D7 z (j:=0) z am z)<|bE H λa3 A H=>?_
     obtain ⟨a4,a5,rfl⟩:=A7.get a A
     refine Vv (V.ixR A9 z z (j:=0) z (A7.bd a A))<|bE H λJ an H=>To (O.stR D7 z z (j:=0) z (A7.bdN a A) z<|have ao:A7 (VI .i64) o (c.set b.toNat [qi w]) J:=A7.set a (show (VI .i64) o [qi w] w from z) an; Nt<|Rg<|Mv z<|bE H λap aq H=>Vv (V.H5 z z aq)<|Ag z<|Ni<|Bn<|Th<|Rg<|Mv z<|bE H λar au H=>Vv (V.H5 z z au)<|An z<|T.ag (I,J,ap,ar,(c.set b.toNat [qi w])) ⟨(D8 H y),ao⟩)
    refine T.skip<|Bn<|Th<|Rg<|Mv z<|bE H λaw ax H=>Vv (V.H5 z z ax)<|An z<|T.ag (I,e,b,aw,c) ⟨(D8 H y),a⟩
   refine T.exit<|Te<|Te<|have H:=D6 H y; Be<|Th<|have H:=I4 H ae; Sm z<|Mv z<|bE H λa6 ay H=>Vv (V.C3T A9 z (j:=0) z a.len (.inr ⟨_,_,z,z⟩) (.inl ⟨z,z⟩) (A5a ay))<|bE H λa7 K H=>have M:=C7d a.len K; bE H λaA aB H=>To (O.clear A9 J7 z z z (j:=0) z (λ_ iv=>D1.C3e iv (j:=0) z a.len (A5a K)) M<|have N:A7 (VI .i64) o (A3G c b.toNat (List.replicate ((e.length:Int).toNat - b.toNat) ([qi 0]:List Value))) aA:=A7.clr a (show (VI .i64) o [qi 0] (0:Int) from z) M aB; Nt<|Sm z<|Mv z<|bE H λaC P H=>To (O.slP A9 z z (j:=0) z (A7.D2N N P) z λa8=>have aD:A7 (VI .i64) o (List.take b.toNat (A3G c b.toNat (List.replicate ((e.length:Int).toNat - b.toNat) ([qi 0]:List Value)))) aC:=A7.slp N P; Ag z<|Nr<|Br<|Tr<|Tr<|have H:=D6 H x; Br<|Tr<|have H:=I4 H D; ?_))
   cases H
   exact T.rl z (Rv z) ⟨_,z,aD⟩
  refine T.skip<|Bn<|Th<|Rg<|Mv z<|bE H λaE aG H=>Vv (V.H5 z z aG)<|An z<|T.ag (X,aE) (D8 H x)
 refine T.exit<|Te<|Te<|have H:=D6 H x; Be<|Th<|have H:=I4 H D; Sm z<|Ag z<|Nr ?_
 cases H
 exact T.rl z (Rv z) ⟨_,z,d.u⟩
theorem B3t {h n s o D w E} (d:A7 (VSl (VI .i64) 1) h s o) (G:B8t h D w) (H:A3n o w=some E):∀ L,J2 prog 244 [n,D] h (F3 30 1 n s::L) (λv h' L'=>∃ I,L'=F3 30 1 v I::L∧A7 (VSl (VI .i64) 1) h' I E):=by
 intro L
 refine J2.enter func244 z z z<|Sr<|An z<|Sq<|Sm z<|Vv (V.A4a K4 z (j:=0) z d.len)<|Wl z z<|Nt<|T.cH H z (λH=>?_) λH=>?_
 ·refine Sm z<|Ag z<|Nr<|Tr ?_
  cases H
  exact T.rl z (Rv z) ⟨_,z,d⟩
 refine Ks<|Sq<|Sr<|An z ?_
 obtain ⟨aa,ab,J⟩:=J6 H
 have H:=ab
 refine Bl<|T.lk [0,1] (FUEL,(1:Int)) (λ⟨i,f⟩=>([(5,qi f)],F3 30 1 n s::L,λhh=>iter (A1V o w) i f=some aa)) H ?_
 rintro ⟨i,f⟩ ac a8 ad
 obtain ⟨ae,a9,rfl,H,A⟩:=G7 ad
 refine T.norm [5,0,1] z<|T.fl ?_
 refine Sq<|Sm z<|Mv z<|Vv (V.A4a K4 z (j:=0) z d.len)<|Wl z z<|Nt<|T.cH H z (λH=>?_) λH=>?_
 ·refine Ks<|Sq<|Bl<|Sq<|T.N7 (t:=(.vs [0,1,2,3,4,5,6,7,8,9] (.alt 10 .done .no))) 12 1 1 z z H9 (by kernel_rfl) ?_
  refine Tm z z<|Tm z z<|Tm z z<|bE H λah K H=>?_
  obtain ⟨al,af,⟨av,rfl,ai⟩⟩:=A7.get d K
  refine Tv z (Val.XA λ_ _ _=>V.ixR K4 z z (j:=0) z (A7.bd d K))<|Tv z (Val.XA λ_ _ _=>V.ldR D9 z (j:=0) z af z)<|Tm z z<|Tm z z<|bE H λaz aj H=>Tv z (V.Z4 z z aj)<|bE H λba M H=>?_
  obtain ⟨bb,ak,⟨bc,rfl,am⟩⟩:=A7.get d M
  refine Tv z (Val.XA λ_ _ _=>V.ixR K4 z z (j:=0) z (A7.bd d M))<|Tv z (Val.XA λ_ _ _=>V.ldR D9 z (j:=0) z ak z)<|bE H λbe an H=>?_
  obtain ⟨bf,bg,bi,ao,ap⟩:=B8t.call (G.u (g:=ac)) ai.u am.u an
  refine Tp z z (X3 [0] [0] z z) (O.A1l z ao z (ap _) z λbj bk bm bn aq=>?_) T.P6
  obtain ⟨rfl,ar⟩:=aq
  refine P8 _ ar<|T.O6 (SX.two (XA.fr [0] Li z) (XA.fr [0] Li z))<|Th<|T.cH H z (λH=>?_) λH=>?_
  ·refine Sm z<|Mv z<|bE H λbo au H=>Vv (V.C3T K4 z (j:=0) z d.len (.inr ⟨_,_,z,z⟩) (.inl ⟨z,z⟩) (A5a au))<|An z<|Sq<|Sr<|An z ?_
   obtain ⟨aw,ax,ay⟩:=J6 H
   have H:=ax
   refine Bl<|T.lk [1,6] (FUEL,o,f,(1:Int),s) (λ⟨k,e,b,m,c⟩=>([(0,n),(5,qi b),(7,qi m)],F3 30 1 n c::L,λhh=>iter (A1W o w f) k (e,b,m)=some aw∧A7 (VSl (VI .i64) 1) hh c e)) ⟨H,d.u⟩ ?_
   rintro ⟨k,e,b,m,c⟩ x bp ⟨aA,a⟩
   obtain ⟨N,bq,rfl,H,B⟩:=G7 aA
   refine T.norm [0,5,7,1,6] z<|T.fl ?_
   refine Sq<|Sm z<|Mv z<|Vv (V.D3X K4 z (j:=0) z)<|Wl z z<|Nt<|T.cH H z (λH=>?_) λH=>?_
   ·refine Ks<|Sq<|Bl<|Sq<|T.N7 (t:=(.vs [0,1,2,3,4,5,6,7,8,9] (.alt 10 (.g (.v 11 .done)) .no))) 13 1 1 z z H9 (by kernel_rfl) ?_
    refine Tm z z<|Tm z z<|Tm z z<|bE H λbr p H=>?_
    obtain ⟨bs,aB,⟨bt,rfl,aC⟩⟩:=A7.get a (Y1 p).2.2.2
    refine Tv z (Val.XA λ_ _ _=>V.ixV K4 z z (j:=0) z ⟨(Y1 p).1,(Y1 p).2.1,(Y1 p).2.2.1⟩ (A7.bd a (Y1 p).2.2.2).2)<|Tv z (Val.XA λ_ _ _=>V.ldR D9 z (j:=0) z aB z)<|Tm z z<|Tm z z<|bE H λbu aD H=>Tv z (V.Z4 z z aD)<|bE H λbw q H=>?_
    obtain ⟨bx,aE,⟨bA,rfl,aG⟩⟩:=A7.get a (Y1 q).2.2.2
    refine Tv z (Val.XA λ_ _ _=>V.ixV K4 z z (j:=0) z ⟨(Y1 q).1,(Y1 q).2.1,(Y1 q).2.2.1⟩ (A7.bd a (Y1 q).2.2.2).2)<|Tv z (Val.XA λ_ _ _=>V.ldR D9 z (j:=0) z aE z)<|bE H λbB aI H=>?_
    obtain ⟨bC,bD,bG,aJ,aK⟩:=B8t.call (G.u (g:=x)) aC aG aI
    refine Tp z z (X3 [0] [0] z z) (O.A1l z aJ z (aK _) z λbI P bJ bK aM=>?_) T.P6
    obtain ⟨rfl,aN⟩:=aM
    refine P8 _ aN<|T.O1 Li<|Tv z (V.not z)<|T.O6 (X3 [0] [0] z z)<|Th<|T.cH H z (λH=>?_) λH=>?_
    ·refine Sm z<|Mv z<|Mv z<|Mv z<|bE H λaO r H=>?_
     obtain ⟨bM,aP,⟨y,rfl,S⟩⟩:=A7.get a (Y1 r).2.2.2
     refine Vv (V.ixV K4 z z (j:=0) z ⟨(Y1 r).1,(Y1 r).2.1,(Y1 r).2.2.1⟩ (A7.bd a (Y1 r).2.2.2).2)<|Vv (V.ldR D9 z (j:=0) z aP z)<|bE H λbN C H=>?_
     obtain ⟨bO,bP,⟨bS,rfl,bU⟩⟩:=A7.get a C
     refine Vv (V.ixR K4 z z (j:=0) z (A7.bd a C))<|bE H λU aS H=>To (O.stR D9 z z (j:=0) z (A7.bdN a C) (G6.one S)<|have aU:A7 (VSl (VI .i64) 1) P (c.set b.toNat [y]) U:=A7.set a.u (show (VSl (VI .i64) 1) P [y] aO from ⟨y,z,S.u⟩) aS; Nt<|Rg<|Mv z<|bE H λaV aW H=>Vv (V.H5 z z aW)<|Ag z<|Ni<|Bn<|Th<|Rg<|Mv z<|bE H λaX aY H=>Vv (V.H5 z z aY)<|An z<|T.ag (N,U,aV,aX,(c.set b.toNat [y])) ⟨(D8 H B),aU⟩)
    refine T.skip<|Bn<|Th<|Rg<|Mv z<|bE H λaZ a0 H=>Vv (V.H5 z z a0)<|An z<|T.ag (N,e,b,aZ,c) ⟨(D8 H B),a.u⟩
   refine T.exit<|Te<|Te<|have H:=D6 H B; Be<|Th<|have H:=I4 H ay; Sm z<|Mv z<|bE H λbV a1 H=>Vv (V.C3T K4 z (j:=0) z a.len (.inr ⟨_,_,z,z⟩) (.inl ⟨z,z⟩) (A5a a1))<|bE H λbW W H=>have X:=C7d a.len W; bE H λa2 a3 H=>To (O.clear K4 A1w z z z (j:=0) z (λ_ iv=>D1.C3e iv (j:=0) z a.len (A5a W)) X<|have Y:A7 (VSl (VI .i64) 1) x (A3G c b.toNat (List.replicate ((e.length:Int).toNat - b.toNat) ([qs]:List Value))) a2:=A7.clr a (show (VSl (VI .i64) 1) x [qs] ([]:List Int) from ⟨(qs),z,G6.nil⟩) X a3; Nt<|Sm z<|Mv z<|bE H λa4 Z H=>To (O.slP K4 z z (j:=0) z (A7.D2N Y Z) z λbX=>have a5:A7 (VSl (VI .i64) 1) x (List.take b.toNat (A3G c b.toNat (List.replicate ((e.length:Int).toNat - b.toNat) ([qs]:List Value)))) a4:=A7.slp Y Z; Ag z<|Nr<|Br<|Tr<|Tr<|have H:=D6 H A; Br<|Tr<|have H:=I4 H J; ?_))
   cases H
   exact T.rl z (Rv z) ⟨_,z,a5⟩
  refine T.skip<|Bn<|Th<|Rg<|Mv z<|bE H λa6 a7 H=>Vv (V.H5 z z a7)<|An z<|T.ag (ae,a6) (D8 H A)
 refine T.exit<|Te<|Te<|have H:=D6 H A; Be<|Th<|have H:=I4 H J; Sm z<|Ag z<|Nr ?_
 cases H
 exact T.rl z (Rv z) ⟨_,z,d.u⟩
theorem B5e {h d e f m i n q_0} (c:A7 VS h e f) (r:B1i h m i) (H:A4K f i=some (n,q_0)):∀ L,J2 prog 163 [d,m] h (F3 9 1 d e::L) (λv h' L'=>∃ o,v=.int .i64 n∧L'=F3 9 1 d o::L∧A7 VS h' o q_0):=by
 intro L
 refine J2.enter func163 z z z<|Sr<|An z<|Sq<|Sm z<|Vv (V.A4a X7 z (j:=0) z c.len)<|Mv z<|Nt ?_
 obtain ⟨s,t,p⟩:=J6 H
 have H:=t
 refine Bl<|T.lk [0,1,7] (FUEL,(0:Int)) (λ⟨a,b⟩=>([(8,qi b)],F3 9 1 d e::L,λhh=>iter (A2F f i) a b=some s)) H ?_
 rintro ⟨a,b⟩ w K x
 obtain ⟨y,M,rfl,H,k⟩:=G7 x
 refine T.norm [8,0,1,7] z<|T.fl ?_
 refine Sr<|Wl z z<|Nt<|Sq<|T.cH H z (λH=>?_) λH=>?_
 ·refine Ks<|Sq<|Bl<|Sm z<|An z<|Sm z<|Mv z<|Mv z<|bE H λN q H=>?_
  obtain ⟨P,A,rfl⟩:=A7.get c q
  refine Vv (V.ixR X7 z z (j:=0) z (A7.bd c q))<|Vv (V.ldR J5 z (j:=0) z A z)<|bE H λS B H=>?_
  obtain ⟨U,W,X,C,D⟩:=B1i.call (r.u (g:=w)) B
  refine To (O.A1l z C z (D _) z λY Z aa ab E=>?_)
  obtain ⟨rfl,G⟩:=E
  refine P8 _ G<|Nt<|T.cH H z (λH=>?_) λH=>?_
  ·refine Sm z<|Ag z<|Nr<|Br<|Tr<|Tr<|have H:=D6 H k; Br<|Tr<|have H:=I4 H p; ?_
   cases H
   exact T.rl z (Rv z) ⟨_,z,z,c.u⟩
  refine T.skip<|Bn<|Th<|Rg<|bE H λI J H=>Vv (V.H5 z z J)<|Mv z<|Nt<|T.ag (y,I) (D8 H k)
 refine T.exit<|Te<|Te<|have H:=D6 H k; Be<|Th<|have H:=I4 H p; Sg z<|Nr ?_
 cases H
 exact T.rl z (Rv z) ⟨_,z,z,c.u⟩
theorem B5c {h i q r s n t} (K:A7 VS h q r) (w:B1i h s n) (H:A3b r n=some t):∀ L,J2 prog 114 [i,s] h (F3 9 1 i q::L) (λv h' L'=>∃ x,L'=F3 9 1 v x::L∧A7 VS h' x t):=by
 intro L
 refine J2.enter func114 z z z<|Sr<|An z<|Sm z<|Mv z<|bE H λ⟨M,N⟩ P H=>To (O.G5 z (B5e K w P _) z λaD aE aG aI S=>?_)
 obtain ⟨U,rfl,W,y⟩:=S
 refine P8 _ W<|An z<|Sq<|Sm z<|We z z<|Nt<|T.cH H z (λH=>?_) λH=>?_
 ·refine Sm z<|Ag z<|Nr<|Tr ?_
  cases H
  exact T.rl z (Rv z) ⟨_,z,y⟩
 refine Ks<|Sq<|Sm z<|bE H λX Y H=>Vv (V.H5 z z Y)<|An z ?_
 obtain ⟨Z,aa,ab⟩:=J6 H
 have H:=aa
 refine Bl<|T.lk [1] (FUEL,N,M,X,U) (λ⟨e,d,a,f,c⟩=>([(0,i),(5,qi a),(6,qi f)],F3 9 1 i c::L,λhh=>iter (A2H n) e (d,a,f)=some Z∧A7 VS hh c d)) ⟨H,y⟩ ?_
 rintro ⟨e,d,a,f,c⟩ k aJ ⟨ac,b⟩
 obtain ⟨A,aK,rfl,H,o⟩:=G7 ac
 refine T.norm [0,5,6,1] z<|T.fl ?_
 refine Sq<|Sm z<|Mv z<|Vv (V.A4a X7 z (j:=0) z b.len)<|Wl z z<|Nt<|T.cH H z (λH=>?_) λH=>?_
 ·refine Ks<|Sq<|Bl<|Sm z<|Mv z<|bE H λm B H=>?_
  obtain ⟨aM,ad,rfl⟩:=A7.get b B
  refine Vv (V.ixR X7 z z (j:=0) z (A7.bd b B))<|Vv (V.ldR J5 z (j:=0) z ad z)<|An z<|Sm z<|Mv z<|bE H λaN ae H=>?_
  obtain ⟨aO,aP,aS,af,ai⟩:=B1i.call (w.u (g:=k)) ae
  refine To (O.A1l z af z (ai _) z λaU C aV aW aj=>?_)
  obtain ⟨rfl,ak⟩:=aj
  refine P8 _ ak<|Vv (V.not z)<|Nt<|T.cH H z (λH=>?_) λH=>?_
  ·refine Sm z<|Mv z<|Mv z<|bE H λaX p H=>?_
   obtain ⟨aY,aZ,rfl⟩:=A7.get b p
   refine Vv (V.ixR X7 z z (j:=0) z (A7.bd b p))<|bE H λD am H=>To (O.stR J5 z z (j:=0) z (A7.bdN b p) z<|have an:A7 VS C (c.set a.toNat [.string m]) D:=A7.set b.u (show VS C [.string m] m from z) am; Nt<|Rg<|Mv z<|bE H λao ap H=>Vv (V.H5 z z ap)<|Ag z<|Ni<|Bn<|Th<|Rg<|Mv z<|bE H λaq ar H=>Vv (V.H5 z z ar)<|An z<|T.ag (A,D,ao,aq,(c.set a.toNat [.string m])) ⟨(D8 H o),an⟩)
  refine T.skip<|Bn<|Th<|Rg<|Mv z<|bE H λau aw H=>Vv (V.H5 z z aw)<|An z<|T.ag (A,d,a,au,c) ⟨(D8 H o),b.u⟩
 refine T.exit<|Te<|Te<|have H:=D6 H o; Be<|Th<|have H:=I4 H ab; Sm z<|Mv z<|bE H λa0 ax H=>Vv (V.C3T X7 z (j:=0) z b.len (.inr ⟨_,_,z,z⟩) (.inl ⟨z,z⟩) (A5a ax))<|bE H λa1 E H=>have G:=C7d b.len E; bE H λay aA H=>To (O.clear X7 C0j z z z (j:=0) z (λ_ iv=>D1.C3e iv (j:=0) z b.len (A5a E)) G<|have I:A7 VS k (A3G c a.toNat (List.replicate ((d.length:Int).toNat - a.toNat) ([.string qe]:List Value))) ay:=A7.clr b (show VS k [.string qe] qe from z) G aA; Nt<|Sm z<|Mv z<|bE H λaB J H=>To (O.slP X7 z z (j:=0) z (A7.D2N I J) z λa2=>have aC:A7 VS k (List.take a.toNat (A3G c a.toNat (List.replicate ((d.length:Int).toNat - a.toNat) ([.string qe]:List Value)))) aB:=A7.slp I J; Ag z<|Nr ?_))
 cases H
 exact T.rl z (Rv z) ⟨_,z,aC⟩
end Go.Proofs.X
open Go Go.Proofs Go.Proofs.Tryz Go.Sl Go.Dm
namespace Go.Proofs.X
theorem A9G:A5p prog 121=some ([.string ⟨#[]⟩,.string ⟨#[]⟩,.string ⟨#[]⟩,.int .i64 (0),.int .i64 (0),.string ⟨#[]⟩,.bool false,.bool false,.slice none 0 0],[(0,1),(1,1),(2,1),(3,1),(4,1),(5,1),(6,1),(7,1),(8,1)]):=by kernel_rfl
theorem B7Y:A5p prog 139=some ([.string ⟨#[]⟩,.int .u8 (0),.int .i64 (0),.int .i64 (0),.slice none 0 0,.int .i64 (0),.int .i64 (0)],[(0,1),(1,1),(2,1),(3,1),(4,1),(5,1),(6,1)]):=by kernel_rfl
theorem C2T:A5p prog 168=some ([.string ⟨#[]⟩,.string ⟨#[]⟩,.int .u8 (0)],[(0,1),(1,1),(2,1)]):=by kernel_rfl
theorem C9K:A5p prog 26=some ([.slice none 0 0,.slice none 0 0,.slice none 0 0,.slice none 0 0],[(0,1),(1,1),(2,1),(3,1)]):=by kernel_rfl
theorem C4K:A5p prog 33=some ([.slice none 0 0,.slice none 0 0,.slice none 0 0,.slice none 0 0,.slice none 0 0],[(0,1),(1,1),(2,1),(3,1),(4,1)]):=by kernel_rfl
theorem C0M:A5p prog 43=some ([.int .u8 (0),.int .i64 (0),.string ⟨#[]⟩,.string ⟨#[]⟩,.string ⟨#[]⟩,.int .i64 (0)],[(0,1),(1,1),(2,1),(3,1),(4,1),(5,1)]):=by kernel_rfl
theorem A9A:A0E prog 121=true:=by kernel_rfl
theorem B7V:A0E prog 139=true:=by kernel_rfl
theorem C2S:A0E prog 168=true:=by kernel_rfl
theorem D0a:A0E prog 26=true:=by kernel_rfl
theorem C5I:A0E prog 33=true:=by kernel_rfl
theorem C0F:A0E prog 43=true:=by kernel_rfl
theorem A5j:A1j prog 22=some (5,1,1):=by kernel_rfl
theorem B0i:A1j prog 23=some (143,1,2):=by kernel_rfl
theorem C5F:A1j prog 24=some (146,1,4):=by kernel_rfl
theorem A3h:O8 prog 118 0=some 0:=by kernel_rfl
theorem A8O:O8 prog 118 1=some 1:=by kernel_rfl
theorem A0l:O8 prog 121 0=some 0:=by kernel_rfl
theorem B8X:O8 prog 121 1=some 1:=by kernel_rfl
theorem A8J:O8 prog 121 2=some 2:=by kernel_rfl
theorem B0L:O8 prog 121 5=some 5:=by kernel_rfl
theorem A0G:O8 prog 121 8=some 8:=by kernel_rfl
theorem A0o:O8 prog 139 0=some 0:=by kernel_rfl
theorem A3g:O8 prog 139 1=some 1:=by kernel_rfl
theorem Y5:O8 prog 139 2=some 2:=by kernel_rfl
theorem A0O:O8 prog 139 3=some 3:=by kernel_rfl
theorem Y6:O8 prog 139 4=some 4:=by kernel_rfl
theorem A7v:O8 prog 26 0=some 0:=by kernel_rfl
theorem A7C:O8 prog 26 1=some 1:=by kernel_rfl
theorem C0p:O8 prog 26 2=some 2:=by kernel_rfl
theorem C0h:O8 prog 26 3=some 3:=by kernel_rfl
theorem M6:O8 prog 33 0=some 0:=by kernel_rfl
theorem U0:O8 prog 33 1=some 1:=by kernel_rfl
theorem A9S:O8 prog 33 2=some 2:=by kernel_rfl
theorem A6c:O8 prog 33 3=some 3:=by kernel_rfl
theorem A2x:O8 prog 33 4=some 4:=by kernel_rfl
theorem A2t:O8 prog 43 0=some 0:=by kernel_rfl
theorem A4n:O8 prog 43 1=some 1:=by kernel_rfl
theorem A0b:O8 prog 43 2=some 2:=by kernel_rfl
theorem A4f:O8 prog 43 3=some 3:=by kernel_rfl
theorem V8:O8 prog 43 4=some 4:=by kernel_rfl
theorem U5:O8 prog 43 5=some 5:=by kernel_rfl
theorem A6i:U7 prog 118=some (true,2):=by kernel_rfl
theorem A1J:U7 prog 119=some (false,1):=by kernel_rfl
theorem A6o:U7 prog 137=some (false,1):=by kernel_rfl
theorem C3f:U7 prog 143=some (false,1):=by kernel_rfl
theorem C8j:U7 prog 146=some (false,1):=by kernel_rfl
theorem A8K:U7 prog 22=some (false,1):=by kernel_rfl
theorem B1L:U7 prog 23=some (false,1):=by kernel_rfl
theorem C4I:U7 prog 24=some (false,1):=by kernel_rfl
theorem C4G:U7 prog 26=some (true,4):=by kernel_rfl
theorem Q0:U7 prog 27=some (false,1):=by kernel_rfl
theorem N9:U7 prog 28=some (false,1):=by kernel_rfl
theorem A1N:U7 prog 29=some (false,1):=by kernel_rfl
theorem A1k:U7 prog 31=some (false,1):=by kernel_rfl
theorem J9:U7 prog 33=some (true,5):=by kernel_rfl
theorem A5G:U7 prog 41=some (false,1):=by kernel_rfl
theorem K6:U7 prog 43=some (true,6):=by kernel_rfl
theorem A3V:U7 prog 5=some (false,1):=by kernel_rfl
theorem B4C:zer prog 118=some (.agg #[.slice none 0 0,.slice none 0 0]):=by kernel_rfl
theorem A6Q:zer prog 33=some (.agg #[.slice none 0 0,.slice none 0 0,.slice none 0 0,.slice none 0 0,.slice none 0 0]):=by kernel_rfl
theorem C7L:zer prog 5=some (.int .u8 (0)):=by kernel_rfl
theorem A0Q {h a b} (H:Y7 a=some b):∀ L,FnW prog 128 [.int .i64 a] h L (.string b):=by
 intro L
 refine J2.enter func128 z z z<|Sr<|An z<|Sm z<|bE H λq f H=>Vv (V.B3Z z z f)<|bE H λr g H=>Vv (V.A1d z z g)<|bE H λs i H=>Vv (V.H5 z z i)<|bE H λc k H=>Vv (V.A5g underlying3 underlying5 z k)<|Mv z<|bE H λt m H=>Vv (V.A1d z z m)<|bE H λu n H=>Vv (V.H5 z z n)<|bE H λd o H=>Vv (V.A5g underlying3 underlying5 z o)<|To (O.bs A5j C7L z (e:=z) (hk:=z) (xs:=[.tmp 7,.tmp 11]) (hv:=CO.eq (CO.cons z (CO.cons z CO.nil))) (hw:=O4.of z) (hd:=z) λw=>have p:A7 (VI .u8) h [[.int .u8 c],[.int .u8 d]] ([c,d]:List Int):=(A7.cons z (A7.cons z A7.nil)); Vv (V.D3Q underlying22 underlying5 underlying9 z (j:=0) z (A7.D0k p))<|Ag z<|Nr<|T.drop ?_)
 exact E1 H
theorem B3C {h f r1 c i} (o:C5x h f r1) (H:A2l r1 c=some i):∀ L,FnW prog 129 [.agg f.toArray,.int .i64 c] h L (.bool i):=by
 intro L
 obtain ⟨D,E,rfl,d⟩:=o
 refine J2.enter func129 z z z<|Sr<|To (O.U4 z z z λG I J j=>An z<|Sq<|Sr<|An z ?_)
 obtain ⟨p,q,m⟩:=J6 H
 have H:=q
 refine Bl<|T.lk [1,2] (FUEL,(0:Int)) (λ⟨a,b⟩=>([(5,qi b)],L,λhh=>iter (A6N r1 c) a b=some p)) H ?_
 rintro ⟨a,b⟩ K M r
 obtain ⟨s,N,rfl,H,e⟩:=G7 r
 refine T.norm [5,1,2] z<|T.fl ?_
 refine Sq<|Sm z<|Vv (V.fa A3h z)<|Vv (V.M8 (k:=0) N9 z j.u z)<|Vv (V.Q3 O7 z d)<|Wl z z<|Nt<|T.cH H z (λH=>?_) λH=>?_
 ·refine Ks<|Sq<|Bl<|Sq<|T.N7 (t:=(.vs [0,1,2,3,4,5,6] (.alt 7 (.g (.v 8 .done)) .no))) 10 0 0 z z H9 (by kernel_rfl) ?_
  refine Tv z (V.fa A3h z)<|Tv z (V.M8 (k:=0) N9 z j.u z)<|Tm z z<|bE H λP n H=>?_
  obtain ⟨S,w,⟨U,rfl,W⟩⟩:=G6.at d n
  refine Tv z (V.ix O7 z z d (E8 n))<|Tv z (V.fa A0l z)<|Tv z (V.M8 (k:=0) J5 z w.u z)<|Tm z z<|bE H λX x H=>Tp z z (X2 z z) (O.G5 z (A0Q x _) z λY Z aa ab y=>?_) T.P6
  obtain ⟨rfl,A⟩:=y
  refine P8 _ A<|T.O1 Li<|Tv z (V.seq z z)<|T.O6 (X2 z z)<|Th<|T.cH H z (λH=>?_) λH=>?_
  ·exact Sg z<|Nr<|Br<|Tr<|Tr<|have H:=D6 H e; Br<|Tr<|have H:=I4 H m; E1 H
  refine T.skip<|Bn<|Th<|Rg<|Mv z<|bE H λB C H=>Vv (V.H5 z z C)<|An z<|T.ag (s,B) (D8 H e)
 exact T.exit<|Te<|Te<|have H:=D6 H e; Be<|Th<|have H:=I4 H m; Sg z<|Nr<|E1 H
theorem B5M {h aG aw aI am ax} (ay:G6 (VI .u16) 1 h aG aw) (ae:G6 (VI .u8) 1 h aI am) (H:B2A aw am=some ax):∀ L,J2 prog 67 [aG,aI] h (L) (λv h' L'=>∃ v0_1 v0_3,v=.agg #[v0_1,v0_3]∧L'=L∧G6 I9 9 h' v0_1 ax.A8∧G6 L9 3 h' v0_3 ax.O0):=by
 intro L
 refine J2.enter func67 z z z<|Sr<|To (O.alloc B4C z z λn=>Nt<|Sr<|To (O.alloc B4C z z λo=>Nt<|Sq<|Sr<|An z ?_))
 obtain ⟨av,az,ba⟩:=J6 H
 have H:=az
 refine Bl<|T.Q8 121 9<|have bb:A7 I9 h [] ([]:List E9):=A7.nil; T.fs [2,2] ?_
 refine T.lk [0,1,4,5] (FUEL,([]:List E9),(0:Int),(qs),[]) (λ⟨P,C,I,a,b⟩=>([(6,qi I)],blk o (.cells [a,qs].toArray 118)::blk n (.cells [qs,qs].toArray 118)::F3 121 9 a b::L,λhh=>iter (A7Z aw) P (C,I)=some av∧A7 I9 hh b C)) ⟨H,bb⟩ ?_
 rintro ⟨P,C,I,a,b⟩ dO dP ⟨bc,af⟩
 obtain ⟨bd,dS,rfl,H,aJ⟩:=G7 bc
 refine T.norm [6,0,1,4,5] z<|T.fl ?_
 refine Sq<|Sq ?_
 obtain ⟨be,bf,bg⟩:=J6 H
 refine T.ck (α:=Bool) [0,1,4,5,6] (λai=>([(23,.bool ai)],blk o (.cells [a,qs].toArray 118)::blk n (.cells [qs,qs].toArray 118)::F3 121 9 a b::L,λhh=>be=ai)) ?_ ?_
 ·have H:=bf
  refine Rg<|Mv z<|Mv z<|Vv (V.Q3 B0i z ay)<|Wl z z<|Mv z<|T.bH 20 H z (λH=>?_) λH=>?_
  ·refine Mv z<|Wl z z<|Kt z<|Nt<|T.mt (decide (I<(12:Int))) (M0 H)
  refine S2<|Kf z<|Nt<|T.mt false (M0 H)
 rintro ai bi dU bj
 have H:=I4 bj bg
 refine T.norm [23,0,1,4,5,6] z<|T.fl ?_
 refine T.cH H z (λH=>?_) λH=>?_
 ·refine Ks<|Sq<|Bl<|Sm z<|Mv z<|bE H λdV aK H=>?_
  obtain ⟨dW,bk,rfl⟩:=G6.at ay aK
  refine Vv (V.ix B0i z z ay (E8 aK))<|Vv (V.R5 C3f z bk.u z)<|bE H λbm bn H=>Vv (V.A5g underlying143 underlying3 z bn)<|An z<|Sm z<|bE H λdX bo H=>Vv (V.A9L z z bo)<|bE H λdY bp H=>Vv (V.A1d z z bp)<|Mv z<|bE H λdZ bq H=>Vv (V.B3Z z z bq)<|bE H λd0 br H=>Vv (V.H5 z z br)<|bE H λr bt H=>To (O.cs (A0Q bt _) λd2 d4=>Mv z<|bE H λd5 bx H=>Vv (V.A1d z z bx)<|bE H λs bA H=>Vv (V.A9L z z bA)<|Mv z<|bE H λw bB H=>Vv (V.A1d z z bB)<|Mv z<|bE H λx bC H=>Vv (V.A1d z z bC)<|We z z<|Mv z<|bE H λy bD H=>Vv (V.A1d z z bD)<|We z z<|Vv (V.bld (xs:=[(0,.tmp 37),(3,.tmp 40),(4,.tmp 42),(6,.tmp 45),(7,.tmp 48)]) (cs:=[_,_,_,_,_,_,_,_,_]) A9G A9A z (F6.cons z z z (F6.cons z z z (F6.cons z z z (F6.cons z z z (F6.cons z z z F6.nil))))))<|To (O.alloc A1M z z λan=>To (O.stF (vs:=[.string r,.string qe,.string qe,qi s,qi w,.string qe,.bool (decide (x=(0:Int))),.bool (decide (y=(0:Int))),qs]) V7 z z (j:=0) z z z z<|T.fl ?_)))
  refine Nt<|Sq<|Sm z<|bE H λd6 bG H=>Vv (V.A1d z z bG)<|We z z<|Nt ?_
  obtain ⟨bI,bJ,bK⟩:=J6 H
  refine T.ck (α:=ByteArray) [0,1,4,5,6,7,8] (λf=>([],blk an (.cells [.string r,.string f,.string qe,qi s,qi w,.string qe,.bool (decide (x=(0:Int))),.bool (decide (y=(0:Int))),qs].toArray 121)::blk o (.cells [a,qs].toArray 118)::blk n (.cells [qs,qs].toArray 118)::F3 121 9 a b::L,λhh=>bI=f)) ?_ ?_
  ·have H:=bJ
   refine T.cH H z (λH=>?_) λH=>?_
   ·refine Rg<|Mv z<|bE H λd7 bM H=>Vv (V.A1d z z bM)<|bE H λaM bN H=>To (O.cs (A0Q bN _) λd9 dl=>Vv (V.fa B8X z)<|To (O.st (vs:=[.string aM]) (k:=1) J5 z z (j:=0) z z z<|T.fl ?_))
    refine Nt<|T.mt aM (M0 H)
   refine Ks<|T.mt qe (M0 H)
  rintro f dv dz bS
  have H:=I4 bS bK
  refine T.norm [0,1,4,5,6,7,8] z<|T.fl ?_
  refine Sq<|Sm z<|bE H λea bU H=>Vv (V.A1d z z bU)<|Wg z z<|Nt ?_
  obtain ⟨bV,bW,bX⟩:=J6 H
  refine T.ck (α:=ByteArray) [0,1,4,5,6,7,8] (λi=>([],blk an (.cells [.string r,.string f,.string i,qi s,qi w,.string qe,.bool (decide (x=(0:Int))),.bool (decide (y=(0:Int))),qs].toArray 121)::blk o (.cells [a,qs].toArray 118)::blk n (.cells [qs,qs].toArray 118)::F3 121 9 a b::L,λhh=>bV=i)) ?_ ?_
  ·have H:=bW
   refine T.cH H z (λH=>?_) λH=>?_
   ·refine Rg<|Mv z<|bE H λeb bY H=>Vv (V.A1d z z bY)<|bE H λaN bZ H=>To (O.cs (A0Q bZ _) λed ef=>Vv (V.fa A8J z)<|To (O.st (vs:=[.string aN]) (k:=2) J5 z z (j:=0) z z z<|T.fl ?_))
    refine Nt<|T.mt aN (M0 H)
   refine Ks<|T.mt qe (M0 H)
  rintro i eg ei b3
  have H:=I4 b3 bX
  refine T.norm [0,1,4,5,6,7,8] z<|T.fl ?_
  refine Sq<|Sm z<|bE H λej b4 H=>Vv (V.A1d z z b4)<|We z z<|Nt ?_
  obtain ⟨b5,b6,b7⟩:=J6 H
  refine T.ck (α:=ByteArray) [0,1,4,5,6,7,8] (λp=>([],blk an (.cells [.string r,.string f,.string i,qi s,qi w,.string p,.bool (decide (x=(0:Int))),.bool (decide (y=(0:Int))),qs].toArray 121)::blk o (.cells [a,qs].toArray 118)::blk n (.cells [qs,qs].toArray 118)::F3 121 9 a b::L,λhh=>b5=p)) ?_ ?_
  ·have H:=b6
   refine T.cH H z (λH=>?_) λH=>?_
   ·refine Rg<|Mv z<|bE H λek b8 H=>Vv (V.A1d z z b8)<|bE H λaO b9 H=>To (O.cs (A0Q b9 _) λen ep=>Vv (V.fa B0L z)<|To (O.st (vs:=[.string aO]) (k:=5) J5 z z (j:=0) z z z<|T.fl ?_))
    refine Nt<|T.mt aO (M0 H)
   refine Ks<|T.mt qe (M0 H)
  rintro p bv er bz
  have H:=I4 bz b7
  refine T.norm [0,1,4,5,6,7,8] z<|T.fl ?_
  refine Sq<|Sr<|An z ?_
  obtain ⟨ca,cb,cc⟩:=J6 H
  have H:=cb
  refine Bl<|T.Q8 9 1<|have cd:A7 VS bv [] ([]:List ByteArray):=A7.nil; T.fs [4,4,4,4] ?_
  refine T.lk [0,1,4,5,6,7,8] (FUEL,([]:List ByteArray),(0:Int),(qs),[]) (λ⟨S,D,U,m,A⟩=>([(9,qi U)],blk an (.cells [.string r,.string f,.string i,qi s,qi w,.string p,.bool (decide (x=(0:Int))),.bool (decide (y=(0:Int))),m].toArray 121)::blk o (.cells [a,qs].toArray 118)::blk n (.cells [qs,qs].toArray 118)::F3 121 9 a b::F3 9 1 m A::L,λhh=>iter (A5D bm) S (D,U)=some ca∧A7 VS hh A D)) ⟨H,cd⟩ ?_
  rintro ⟨S,D,U,m,A⟩ es et ⟨ce,ao⟩
  obtain ⟨aP,eu,rfl,H,aA⟩:=G7 ce
  refine T.norm [9,0,1,4,5,6,7,8] z<|T.fl ?_
  refine Sq<|Sm z<|Wl z z<|Nt<|T.cH H z (λH=>?_) λH=>?_
  ·refine Ks<|Sq<|Bl<|Sm z<|Mv z<|bE H λew cf H=>Vv (V.A9L z z cf)<|bE H λex cg H=>Vv (V.H5 z z cg)<|bE H λey ci H=>Vv (V.A3Y z z ci)<|bE H λeA cj H=>Vv (V.A1d z z cj)<|We z z<|Nt<|T.cH H z (λH=>?_) λH=>?_
   ·refine Sr<|Vv (V.fa A0G z)<|Vv (V.ldO (k:=8) A1J z (j:=0) z z)<|An z<|Rg<|Mv z<|Mv z<|bE H λaS ck H=>To (O.cs (A0Q ck _) λcm eD=>To (O.b1 (E:=VS) X7 C0j z z z z z λeE aB=>bE H λaU aV H=>To (O.apX X7 X7 C0j z z z (j:=5) z (Src.row (j:=0) z) (O4.of z) (A7.ones VS.plain aB) ao.u aB aV z λaW eG eI=>have cp:A7 VS cm (A++[[.string aS]]) aU:=A7.ap ao.u aB aV; T.fl ?_)))
    refine T.fs [1] ?_
    refine T.drop<|Vv (V.fa A0G z)<|T.R8 0 z λcq cr=>To (O.st (vs:=[aW]) (k:=8) A1J z z (j:=1) z cr (by (simp only [BT,cq]) <;> rfl) ?_)
    refine T.fl ?_
    refine Ni<|Bn<|Th<|Rg<|Mv z<|bE H λct cu H=>Vv (V.H5 z z cu)<|An z<|T.fs [1,4,4,4,4] ?_
    exact T.ag (aP,aU,ct,aW,(A++[[.string aS]])) ⟨(D8 H aA),cp⟩
   refine T.skip<|Bn<|Th<|Rg<|Mv z<|bE H λcw cx H=>Vv (V.H5 z z cx)<|An z<|T.ag (aP,D,cw,m,A) ⟨(D8 H aA),ao⟩
  refine T.exit<|Te<|Te<|have H:=D6 H aA; Be<|Th<|have H:=I4 H cc; Sr<|Vv (V.fa A3h z)<|Vv (V.ldO (k:=0) N9 z (j:=1) z z)<|An z<|Rg<|Mv z<|Vv (V.A5C (j:=0) (by exact V7) z z) ?_
  refine T.fs [4] ?_
  refine T.K3 λaX eJ cy=>have cA:=A7.slc cy ao.u; To (O.bs O7 A1M z (e:=z) (hk:=z) (xs:=[.tmp 93]) (hv:=CO.eq (CO.cons z CO.nil)) (hw:=O4.of z) (hd:=z) λeK=>have aC:A7 I9 aX [[.string r,.string f,.string i,qi s,qi w,.string p,.bool (decide (x=(0:Int))),.bool (decide (y=(0:Int))),m]] ([(E9.mk r f i s w p (decide (x=(0:Int))) (decide (y=(0:Int))) D)]:List E9):=(A7.cons ⟨m,z,cA⟩ A7.nil); bE H λaY aZ H=>To (O.apX O7 O7 A1M z z z (j:=4) z (Src.row (j:=0) z) (O4.of z) (A7.ones I9.plain aC) af.u aC aZ z λa0 eM eN=>have cB:A7 I9 aX (b++[[.string r,.string f,.string i,qi s,qi w,.string p,.bool (decide (x=(0:Int))),.bool (decide (y=(0:Int))),m]]) aY:=A7.ap af.u aC aZ; T.fl ?_))
  refine T.fs [1] ?_
  refine T.drop<|Vv (V.fa A3h z)<|T.R8 0 z λcC cD=>To (O.st (vs:=[a0]) (k:=0) N9 z z (j:=2) z cD (by (simp only [BT,cC]) <;> rfl) ?_)
  refine T.fl ?_
  refine Ni<|Bn<|Th<|Rg<|Mv z<|bE H λcE cG H=>Vv (V.H5 z z cG)<|An z<|T.fs [2] ?_
  refine T.drop<|T.fs [1,2,2] ?_
  exact T.ag (bd,aY,cE,a0,(b++[[.string r,.string f,.string i,qi s,qi w,.string p,.bool (decide (x=(0:Int))),.bool (decide (y=(0:Int))),m]])) ⟨(D8 H aJ),cB⟩
 refine T.exit<|Te<|Te<|have H:=D6 H aJ; Be<|Th<|have H:=I4 H ba; Sr<|An z<|Sq<|Sr<|An z ?_
 obtain ⟨cI,cJ,cK⟩:=J6 H
 have H:=cJ
 refine Bl<|T.Q8 168 3<|have cM:A7 L9 bi [] ([]:List I1):=A7.nil; T.fs [3,3,3] ?_
 refine T.lk [1,4,5] (FUEL,([]:List I1),(0:Int),(0:Int),(qs),[]) (λ⟨W,J,K,M,G,N⟩=>([(12,qi K),(13,qi M)],blk o (.cells [a,G].toArray 118)::blk n (.cells [qs,qs].toArray 118)::F3 121 9 a b::F3 168 3 G N::L,λhh=>iter (A8g am C) W (J,K,M)=some cI∧A7 L9 hh N J)) ⟨H,cM⟩ ?_
 rintro ⟨W,J,K,M,G,N⟩ eO eP ⟨cN,a1⟩
 obtain ⟨cO,eS,rfl,H,a2⟩:=G7 cN
 refine T.norm [12,13,1,4,5] z<|T.fl ?_
 refine Sq<|Sm z<|Wl z z<|Nt<|T.cH H z (λH=>?_) λH=>?_
 ·refine Ks<|Sq<|Bl<|Sm z<|bE H λcP cS H=>Vv (V.H5 z z cS)<|An z<|T.A0S ?_
  obtain ⟨a3,cU,cV⟩:=J6 H
  refine T.ck (α:=Int×(List I1)×Value×(List (List Value))) [1,4,5,13] (λ⟨X,Y,Z,aa⟩=>([(12,qi X)],blk o (.cells [a,Z].toArray 118)::blk n (.cells [qs,qs].toArray 118)::F3 121 9 a b::F3 168 3 Z aa::L,λhh=>a3=(X,Y)∧A7 L9 hh aa Y)) ?_ ?_
  ·have H:=cU
   refine Bl<|T.lk [1,4,5,13] (FUEL,J,K,cP,G,N) (λ⟨ab,q,B,ac,c,d⟩=>([(12,qi B),(14,qi ac)],blk o (.cells [a,c].toArray 118)::blk n (.cells [qs,qs].toArray 118)::F3 121 9 a b::F3 168 3 c d::L,λhh=>iter (A8r am C M) ab (q,B,ac)=some a3∧A7 L9 hh d q)) ⟨H,a1⟩ ?_
   rintro ⟨ab,q,B,ac,c,d⟩ eU eV ⟨cW,ad⟩
   obtain ⟨aD,eW,rfl,H,aj⟩:=G7 cW
   refine T.norm [12,14,1,4,5,13] z<|T.fl ?_
   refine Sq<|Sm z<|Wl z z<|Nt<|T.cH H z (λH=>?_) λH=>?_
   ·refine Ks<|Sq<|Bl<|Sq<|Sr<|Vv (V.A5C (j:=0) (by exact A6i) z z) ?_
    refine Mv z<|T.fs [2] ?_
    refine bE H λcX cY H=>To (O.G5 z (J2.A6F (val:=.bool cX) func129 z A1C λeX eY cZ=>?_) z λeZ e0 e1 e2 c0=>?_)
    ·have c1:=A7.slc cZ af.u
     exact B3C ⟨a,c,z,c1⟩ cY _
    obtain ⟨rfl,c2⟩:=c0
    refine P8 _ c2<|Vv (V.not z)<|Nt<|T.cH H z (λH=>?_) λH=>?_
    ·refine T.exit<|Te<|T.blX z<|Te<|Te<|have H:=D6 H aj; Be<|Th<|T.fs [3,1,3,3] ?_
     exact T.mt (B,q,c,d) ⟨H,ad.u⟩
    refine Ks<|Sq<|Sr<|Vv (V.A5C (j:=1) (by exact A6i) z z) ?_
    refine Mv z<|bE H λc3 c4 H=>To (O.G5 z (J2.A6F (val:=.bool c3) func129 z A1C λe3 e4 c5=>?_) z λe5 e6 e7 e8 c6=>?_)
    ·have c7:=A7.slc c5 af.u
     exact B3C ⟨a,c,z,c7⟩ c4 _
    obtain ⟨rfl,c8⟩:=c6
    refine P8 _ c8<|Vv (V.not z)<|Nt<|T.cH H z (λH=>?_) λH=>?_
    ·refine T.exit<|Te<|Be<|Th<|Rg<|Mv z<|bE H λc9 ch H=>Vv (V.H5 z z ch)<|An z<|T.fs [3,1,3,3] ?_
     exact T.ag (aD,q,B,c9,c,d) ⟨(D8 H aj),ad.u⟩
    refine Ks<|Sq<|Sq ?_
    obtain ⟨cl,cv,cz⟩:=J6 H
    refine T.ck (α:=Bool) [1,4,5,12,13,14] (λak=>([(126,.bool ak)],F3 121 9 a b::blk o (.cells [a,c].toArray 118)::blk n (.cells [qs,qs].toArray 118)::F3 168 3 c d::L,λhh=>cl=ak)) ?_ ?_
    ·have H:=cv
     refine Rg<|Mv z<|Mv z<|Vv (V.Q3 A5j z ae)<|Wl z z<|Mv z<|T.bH 119 H z (λH=>?_) λH=>?_
     ·refine Mv z<|Mv z<|bE H λe9 a4 H=>?_
      obtain ⟨eh,da,rfl⟩:=G6.at ae a4
      refine Vv (V.ix A5j z z ae (E8 a4))<|Vv (V.R5 A3V z da.u z)<|bE H λdb dc H=>Vv (V.A1d z z dc)<|Wl z z<|Kt z<|Nt<|T.mt (decide (db<(2:Int))) (M0 H)
     refine S2<|S2<|S2<|Kf z<|Nt<|T.mt false (M0 H)
    rintro ak el ev dd
    have H:=I4 dd cz
    refine T.norm [126,1,4,5,12,13,14] z<|T.fl ?_
    refine T.cH H z (λH=>?_) λH=>?_
    ·refine Sr<|Vv (V.fa A8O z)<|Vv (V.ldO (k:=1) A1N z (j:=1) z z)<|An z<|T.fs [3,2] ?_
     refine T.N7 (t:=(.vs [0,1,3,5,6,7,8,9,10] (.alt 2 (.g (.alt 4 (.g (.v 11 (.alt 12 (.alt 13 (.g (.v 14 (.alt 15 .done .no))) .no) .no))) .no)) .no))) 13 2 0 z z H9 (by kernel_rfl) ?_
     refine Tm z z<|Tm z z<|Tm z z<|Tm z z<|Tm z z<|bE H λez a5 H=>?_
     obtain ⟨fb,de,rfl⟩:=G6.at ae a5
     refine Tv z (V.ix A5j z z ae (E8 a5))<|Tv z (V.R5 A3V z de.u z)<|bE H λfc df H=>Tv z (V.A1d z z df)<|bE H λaq dg H=>Tv z (V.D0e z z dg)<|bE H λar di H=>Tp z z (X3 [] [1,1] z z) (O.G5 z (A0Q di _) z λfd fe ff fg dj=>?_) T.P6
     obtain ⟨rfl,dk⟩:=dj
     refine P8 _ dk<|T.O1 Li<|bE H λau dm H=>Tp z z (X3 [] [1,1] z z) (O.G5 z (A0Q dm _) z λfi a6 fj fk dn=>?_) T.P6
     obtain ⟨rfl,dp⟩:=dn
     refine P8 _ dp<|T.O1 Li<|Tv z (V.bld (xs:=[(0,.tmp 131),(1,.tmp 133),(2,.tmp 139)]) (cs:=[_,_,_]) C2T C2S z (F6.cons z z z (F6.cons z z z (F6.cons z z z F6.nil))))<|Tp z z (X3 [] [1,1] z z) (O.bs A0X A9Z z (e:=z) (hk:=z) (xs:=[.tmp 140]) (hv:=CO.eq (CO.cons z CO.nil)) (hw:=O4.of z) (hd:=z) λfm=>?_) T.P6
     have aE:A7 L9 a6 [[.string ar,.string au,.int .u8 aq]] ([(I1.mk ar au aq)]:List I1):=(A7.cons z A7.nil)
     refine bE H λa7 a8 H=>Tp z z (X3 [] [2,2] z z) (O.apX A0X A0X A9Z z z z (j:=2) z (Src.row (j:=0) z) (O4.of z) (A7.ones L9.plain aE) ad.u aE a8 z λa9 fn fo=>?_) T.P6
     have dq:A7 L9 a6 (d++[[.string ar,.string au,.int .u8 aq]]) a7:=A7.ap ad.u aE a8
     refine T.fl ?_
     refine T.fs [1] ?_
     refine T.drop<|T.O1 Lr<|Tv z (V.fa A8O z)<|T.R8 0 z λdr ds=>Tp z z (SX.one (XA.fr [] Lr z) z) (O.st (vs:=[a9]) (k:=1) A1N z z (j:=1) z ds (by (simp only [BT,dr]) <;> rfl) ?_) T.P6
     refine T.fl ?_
     refine T.O6 (SX.one (XA.fr [] Lr z) z)<|Th<|Rg<|Mv z<|bE H λdt du H=>Vv (V.H5 z z du)<|Ag z<|Ni<|Bn<|Th<|Rg<|Mv z<|bE H λdw dx H=>Vv (V.H5 z z dx)<|An z<|T.fs [1,2,3,3] ?_
     exact T.ag (aD,a7,dt,dw,a9,(d++[[.string ar,.string au,.int .u8 aq]])) ⟨(D8 H aj),dq⟩
    refine Ks<|Rg<|Mv z<|bE H λdy dA H=>Vv (V.H5 z z dA)<|Ag z<|Ni<|Bn<|Th<|Rg<|Mv z<|bE H λdB dC H=>Vv (V.H5 z z dC)<|An z<|T.fs [3,1,3,3] ?_
    exact T.ag (aD,q,dy,dB,c,d) ⟨(D8 H aj),ad.u⟩
   refine T.exit<|Te<|Te<|have H:=D6 H aj; Be<|Th<|T.mt (B,q,c,d) ⟨H,ad⟩
  rintro ⟨X,Y,Z,aa⟩ fp fq ⟨dD,dE⟩
  have H:=I4 dD cV
  refine T.norm [12,1,4,5,13] z<|T.fl ?_
  refine Bn<|Th<|Rg<|Mv z<|bE H λdG dI H=>Vv (V.H5 z z dI)<|An z<|T.ag (cO,Y,X,dG,Z,aa) ⟨(D8 H a2),dE⟩
 refine T.exit<|Te<|Te<|have H:=D6 H a2; Be<|Th<|have H:=I4 H cK; Sr<|Vv (V.A5C (j:=0) (by exact A6i) z z) ?_
 refine T.fs [2] ?_
 refine T.K3 λfs ft dJ=>have ah:=A7.slc dJ af.u; T.fs [2] ?_
 refine T.K3 λfu fw dK=>have al:=A7.slc dK a1.u; To (O.stF (vs:=[a,G]) A6i z z (j:=1) z z (by (simp only [BT,G6.one ah,G6.one al]) <;> rfl) z ?_)
 refine T.freeze λfx fy dM=>have dN:=Z8.of dM; Nr<|T.drop ?_
 cases H
 exact T.rl z (RVs.cons (RV.B3m z dN A6i) RVs.nil) ⟨_,_,z,z,ah.u,al.u⟩
theorem C2F {h a b} (H:B9V a=some b):∀ L,FnW prog 127 [.int .i64 a] h L (.string b):=by
 intro L
 refine J2.enter func127 z z z<|Sr<|An z<|Sm z<|bE H λk d H=>Vv (V.A1d z z d)<|bE H λm f H=>Vv (V.H5 z z f)<|bE H λc g H=>Vv (V.A5g underlying3 underlying5 z g)<|To (O.bs A5j C7L z (e:=z) (hk:=z) (xs:=[.const (.int .u8 (116)),.tmp 6]) (hv:=CO.eq (CO.cons z (CO.cons z CO.nil))) (hw:=O4.of z) (hd:=z) λn=>have i:A7 (VI .u8) h [[.int .u8 116],[.int .u8 c]] ([(116:Int),c]:List Int):=(A7.cons z (A7.cons z A7.nil)); Vv (V.D3Q underlying22 underlying5 underlying9 z (j:=0) z (A7.D0k i))<|Ag z<|Nr<|T.drop ?_)
 exact E1 H
theorem A1F {h b c d} (e:C4n h b c) (H:A1t c=some d):∀ L,FnW prog 66 [.agg b.toArray] h L (.int .i64 d):=by
 intro L
 obtain ⟨m,rfl⟩:=e
 refine J2.enter func66 z z z<|Sr<|To (O.U4 z z z λn o p a=>An z<|Sq<|Sr<|Vv (V.fa A3g z)<|Vv (V.M8 (k:=1) A6o z a z)<|Nt<|Bl<|Sr<|We z z<|An z<|T.cH H z (λH=>?_) λH=>?_)
 ·exact Sr<|Vv (V.fa Y5 z)<|Vv (V.M8 (k:=2) D7 z a z)<|bE H λq f H=>Vv (V.A9L z z f)<|Vv (V.fa A0O z)<|Vv (V.M8 (k:=3) D7 z a z)<|bE H λr g H=>Vv (V.H5 z z g)<|Ag z<|Nr<|Br<|Tr<|E1 H
 refine Sr<|We z z<|An z<|T.cH H z (λH=>?_) λH=>?_
 ·exact Sr<|Vv (V.fa Y5 z)<|Vv (V.M8 (k:=2) D7 z a z)<|Vv (V.fa A0O z)<|Vv (V.M8 (k:=3) D7 z a z)<|bE H λs i H=>Vv (V.A9L z z i)<|bE H λt j H=>Vv (V.H5 z z j)<|Ag z<|Nr<|Br<|Tr<|E1 H
 exact T.skip<|Bn<|Th<|Sr<|Vv (V.fa Y5 z)<|Vv (V.M8 (k:=2) D7 z a z)<|Ag z<|Nr<|E1 H
theorem C0U {h aI a s} (H:A3d aI a=some s):∀ L,J2 prog 65 [.int .i64 aI,.int .i64 a] h (L) (λv h' L'=>∃ v0_1,v=.agg #[.string s.F8,.int .u8 s.Q6,.int .i64 s.fA,.int .i64 s.fB,v0_1,.int .i64 s.fX,.int .i64 s.fY]∧L'=L∧G6 (VI .i64) 1 h' v0_1 s.A2Q):=by
 intro L
 refine J2.enter func65 z z z<|Sr<|To (O.alloc A1Q z z λU=>Nt<|Sm z<|bE H λb a7 H=>To (O.cs (C2F a7 _) λW dM=>Mv z<|bE H λdN ah H=>Vv (V.A1d z z ah)<|bE H λdO al H=>Vv (V.H5 z z al)<|bE H λc av H=>Vv (V.A5g underlying3 underlying137 z av)<|Mv z<|Mv z<|bE H λd az H=>Vv (V.Z4 z z az)<|Vv (V.bld (xs:=[(0,.tmp 10),(1,.tmp 14),(5,.tmp 15),(6,.tmp 17)]) (cs:=[_,_,_,_,_,_,_]) B7Y B7V z (F6.cons z z z (F6.cons z z z (F6.cons z z z (F6.cons z z z F6.nil)))))<|To (O.alloc A1Q z z λX=>To (O.stF (vs:=[.string b,.int .u8 c,qi 0,qi 0,qs,qi a,qi d]) J3 z z (j:=0) z z z z<|Nt<|Sm z<|bE H λdP ba H=>Vv (V.B3Z z z ba)<|An z<|Sq<|Sr<|Vv (V.fa A3g z)<|Vv (V.ldO (k:=1) A6o z (j:=0) z z)<|Nt<|Bl<|Sr<|We z z<|An z<|T.cH H z (λH=>?_) λH=>?_))))
 ·refine Rg<|Mv z<|bE H λdS bb H=>Vv (V.A1d z z bb)<|bE H λad bc H=>Vv (V.H5 z z bc)<|Vv (V.fa Y5 z)<|To (O.st (vs:=[qi ad]) (k:=2) D7 z z (j:=0) z z z<|Ni<|Bn<|Th<|Sq<|Sr<|An z ?_)
  obtain ⟨bd,be,bf⟩:=J6 H
  have H:=be
  refine Bl<|T.Q8 3 1<|have bg:A7 (VI .i64) W [] ([]:List Int):=A7.nil; T.fs [2,2] ?_
  refine T.lk [1,4,5] (FUEL,([]:List Int),(0:Int),(qs),[]) (λ⟨K,t,w,e,f⟩=>([(7,qi w)],blk X (.cells [.string b,.int .u8 c,qi ad,qi 0,e,qi a,qi d].toArray 139)::blk U (.cells [.string qe,.int .u8 0,qi 0,qi 0,qs,qi 0,qi 0].toArray 139)::F3 3 1 e f::L,λhh=>iter (B3U a b c d ad) K (t,w)=some bd∧A7 (VI .i64) hh f t)) ⟨H,bg⟩ ?_
  rintro ⟨K,t,w,e,f⟩ dU dV ⟨bi,Y⟩
  obtain ⟨au,dW,rfl,H,ae⟩:=G7 bi
  refine T.norm [7,1,4,5] z<|T.fl ?_
  refine Sq<|Sm z<|Vv (V.A5C (j:=0) (by exact J3) z z) ?_
  refine bE H λdX bj H=>To (O.cs (A1F ⟨e,z⟩ bj _) λbk d0=>Wl z z<|Nt<|T.cH H z (λH=>?_) λH=>?_)
  ·refine Ks<|Sq<|Bl<|Sm z<|Mv z<|bE H λd1 bo H=>Vv (V.A3Y z z bo)<|bE H λd2 bp H=>Vv (V.A1d z z bp)<|We z z<|Mv z<|T.bH 74 H z (λH=>?_) λH=>?_
   ·refine Mv z<|bE H λd3 bq H=>Vv (V.A1d z z bq)<|Wg z z<|Kt z<|Nt<|T.cH H z (λH=>?_) λH=>?_
    ·refine Sr<|Vv (V.fa Y6 z)<|Vv (V.ldO (k:=4) D9 z (j:=0) z z)<|An z<|Rg<|Mv z<|Mv z<|To (O.b1 (E:=VI .i64) A9 J7 z z z z z λd4 aw=>bE H λaJ aK H=>To (O.apX A9 A9 J7 z z z (j:=3) z (Src.row (j:=0) z) (O4.of z) (A7.ones VI.plain aw) Y.u aw aK z λaM d5 d6=>have br:A7 (VI .i64) bk (f++[[qi w]]) aJ:=A7.ap Y.u aw aK; T.fl ?_))
     refine T.fs [1] ?_
     refine T.drop<|Vv (V.fa Y6 z)<|T.R8 0 z λbs bt=>To (O.st (vs:=[aM]) (k:=4) D9 z z (j:=1) z bt (by (simp only [BT,bs]) <;> rfl) ?_)
     refine T.fl ?_
     refine Ni<|Bn<|Th<|Rg<|Mv z<|bE H λbu bw H=>Vv (V.H5 z z bw)<|An z<|T.fs [1,2,2] ?_
     exact T.ag (au,aJ,bu,aM,(f++[[qi w]])) ⟨(D8 H ae),br⟩
    refine T.skip<|Bn<|Th<|Rg<|Mv z<|bE H λbx bA H=>Vv (V.H5 z z bA)<|An z<|T.ag (au,t,bx,e,f) ⟨(D8 H ae),Y.u⟩
   refine S2<|Sk<|Kf z<|Nt<|Cf z<|T.skip<|Bn<|Th<|Rg<|Mv z<|bE H λbB bC H=>Vv (V.H5 z z bC)<|An z<|T.ag (au,t,bB,e,f) ⟨(D8 H ae),Y.u⟩
  refine T.exit<|Te<|Te<|have H:=D6 H ae; Be<|Th<|have H:=I4 H bf; Sr<|Vv (V.A5C (j:=0) (by exact J3) z z) ?_
  refine T.fs [2] ?_
  refine T.K3 λd7 d8 bD=>have aN:=A7.slc bD Y.u; To (O.stF (vs:=[.string b,.int .u8 c,qi ad,qi 0,e,qi a,qi d]) J3 z z (j:=1) z z (by (simp only [BT,G6.one aN]) <;> rfl) z ?_)
  refine T.freeze λd9 dh bG=>have bI:=Z8.of bG; Nr<|T.drop ?_
  cases H
  exact T.rl z (RVs.cons (RV.B3m z bI J3) RVs.nil) ⟨_,z,z,aN.u⟩
 refine Sr<|We z z<|An z<|T.cH H z (λH=>?_) λH=>?_
 ·refine Rg<|Mv z<|bE H λdl bJ H=>Vv (V.A1d z z bJ)<|bE H λaf bK H=>Vv (V.H5 z z bK)<|Mv z<|bE H λdv bM H=>Vv (V.B3Z z z bM)<|bE H λai bN H=>Vv (V.A1d z z bN)<|Vv (V.fa Y5 z)<|To (O.st (vs:=[qi af]) (k:=2) D7 z z (j:=0) z z z<|Vv (V.fa A0O z)<|To (O.st (vs:=[qi ai]) (k:=3) D7 z z (j:=0) z z z<|Ni<|Bn<|Th<|Sq<|Sq<|T.norm [1,4,5] z<|T.fl ?_))
  refine Rg<|An z ?_
  obtain ⟨bO,bP,bS⟩:=J6 H
  have H:=bP
  refine Bl<|T.Q8 3 1<|have bU:A7 (VI .i64) W [] ([]:List Int):=A7.nil; T.fs [2,2] ?_
  refine T.lk [1,4,5] (FUEL,([]:List Int),(0:Int),(qs),[]) (λ⟨M,x,y,g,i⟩=>([(7,qi y)],blk X (.cells [.string b,.int .u8 c,qi af,qi ai,g,qi a,qi d].toArray 139)::blk U (.cells [.string qe,.int .u8 0,qi 0,qi 0,qs,qi 0,qi 0].toArray 139)::F3 3 1 g i::L,λhh=>iter (B3A a b c d af ai) M (x,y)=some bO∧A7 (VI .i64) hh i x)) ⟨H,bU⟩ ?_
  rintro ⟨M,x,y,g,i⟩ dz ea ⟨bV,Z⟩
  obtain ⟨ax,eb,rfl,H,aj⟩:=G7 bV
  refine T.norm [7,1,4,5] z<|T.fl ?_
  refine Sq<|Sm z<|Vv (V.A5C (j:=0) (by exact J3) z z) ?_
  refine bE H λec bW H=>To (O.cs (A1F ⟨g,z⟩ bW _) λbX ef=>Wl z z<|Nt<|T.cH H z (λH=>?_) λH=>?_)
  ·refine Ks<|Sq<|Bl<|Sm z<|Mv z<|bE H λeg b0 H=>Vv (V.A3Y z z b0)<|bE H λei b2 H=>Vv (V.A1d z z b2)<|We z z<|Mv z<|T.bH 74 H z (λH=>?_) λH=>?_
   ·refine Mv z<|bE H λej b3 H=>Vv (V.A1d z z b3)<|Wg z z<|Kt z<|Nt<|T.cH H z (λH=>?_) λH=>?_
    ·refine Sr<|Vv (V.fa Y6 z)<|Vv (V.ldO (k:=4) D9 z (j:=0) z z)<|An z<|Rg<|Mv z<|Mv z<|To (O.b1 (E:=VI .i64) A9 J7 z z z z z λek ay=>bE H λaO aP H=>To (O.apX A9 A9 J7 z z z (j:=3) z (Src.row (j:=0) z) (O4.of z) (A7.ones VI.plain ay) Z.u ay aP z λaS em en=>have b4:A7 (VI .i64) bX (i++[[qi y]]) aO:=A7.ap Z.u ay aP; T.fl ?_))
     refine T.fs [1] ?_
     refine T.drop<|Vv (V.fa Y6 z)<|T.R8 0 z λb5 b6=>To (O.st (vs:=[aS]) (k:=4) D9 z z (j:=1) z b6 (by (simp only [BT,b5]) <;> rfl) ?_)
     refine T.fl ?_
     refine Ni<|Bn<|Th<|Rg<|Mv z<|bE H λb7 b8 H=>Vv (V.H5 z z b8)<|An z<|T.fs [1,2,2] ?_
     exact T.ag (ax,aO,b7,aS,(i++[[qi y]])) ⟨(D8 H aj),b4⟩
    refine T.skip<|Bn<|Th<|Rg<|Mv z<|bE H λb9 bh H=>Vv (V.H5 z z bh)<|An z<|T.ag (ax,x,b9,g,i) ⟨(D8 H aj),Z.u⟩
   refine S2<|Sk<|Kf z<|Nt<|Cf z<|T.skip<|Bn<|Th<|Rg<|Mv z<|bE H λbl bv H=>Vv (V.H5 z z bv)<|An z<|T.ag (ax,x,bl,g,i) ⟨(D8 H aj),Z.u⟩
  refine T.exit<|Te<|Te<|have H:=D6 H aj; Be<|Th<|have H:=I4 H bS; Sr<|Vv (V.A5C (j:=0) (by exact J3) z z) ?_
  refine T.fs [2] ?_
  refine T.K3 λeo ep bz=>have aU:=A7.slc bz Z.u; To (O.stF (vs:=[.string b,.int .u8 c,qi af,qi ai,g,qi a,qi d]) J3 z z (j:=1) z z (by (simp only [BT,G6.one aU]) <;> rfl) z ?_)
  refine T.freeze λer es ca=>have cb:=Z8.of ca; Nr<|T.drop ?_
  cases H
  exact T.rl z (RVs.cons (RV.B3m z cb J3) RVs.nil) ⟨_,z,z,aU.u⟩
 refine Sr<|We z z<|An z<|T.cH H z (λH=>?_) λH=>?_
 ·refine Rg<|Mv z<|bE H λet cc H=>Vv (V.A1d z z cc)<|bE H λak cd H=>Vv (V.H5 z z cd)<|Mv z<|bE H λeu ce H=>Vv (V.B3Z z z ce)<|bE H λew cf H=>Vv (V.A1d z z cf)<|bE H λam cg H=>Vv (V.H5 z z cg)<|Vv (V.fa Y5 z)<|To (O.st (vs:=[qi ak]) (k:=2) D7 z z (j:=0) z z z<|Vv (V.fa A0O z)<|To (O.st (vs:=[qi am]) (k:=3) D7 z z (j:=0) z z z<|Ni<|Bn<|Th<|Sq<|Sq<|T.norm [1,4,5] z<|T.fl ?_))
  refine Rg<|An z ?_
  obtain ⟨ci,cj,ck⟩:=J6 H
  have H:=cj
  refine Bl<|T.Q8 3 1<|have cm:A7 (VI .i64) W [] ([]:List Int):=A7.nil; T.fs [2,2] ?_
  refine T.lk [1,4,5] (FUEL,([]:List Int),(0:Int),(qs),[]) (λ⟨N,A,B,m,n⟩=>([(7,qi B)],blk X (.cells [.string b,.int .u8 c,qi ak,qi am,m,qi a,qi d].toArray 139)::blk U (.cells [.string qe,.int .u8 0,qi 0,qi 0,qs,qi 0,qi 0].toArray 139)::F3 3 1 m n::L,λhh=>iter (B4o a b c d ak am) N (A,B)=some ci∧A7 (VI .i64) hh n A)) ⟨H,cm⟩ ?_
  rintro ⟨N,A,B,m,n⟩ ex ey ⟨cn,aa⟩
  obtain ⟨aA,eA,rfl,H,an⟩:=G7 cn
  refine T.norm [7,1,4,5] z<|T.fl ?_
  refine Sq<|Sm z<|Vv (V.A5C (j:=0) (by exact J3) z z) ?_
  refine bE H λeB co H=>To (O.cs (A1F ⟨m,z⟩ co _) λcp eE=>Wl z z<|Nt<|T.cH H z (λH=>?_) λH=>?_)
  ·refine Ks<|Sq<|Bl<|Sm z<|Mv z<|bE H λeG ct H=>Vv (V.A3Y z z ct)<|bE H λeI cu H=>Vv (V.A1d z z cu)<|We z z<|Mv z<|T.bH 74 H z (λH=>?_) λH=>?_
   ·refine Mv z<|bE H λeJ cw H=>Vv (V.A1d z z cw)<|Wg z z<|Kt z<|Nt<|T.cH H z (λH=>?_) λH=>?_
    ·refine Sr<|Vv (V.fa Y6 z)<|Vv (V.ldO (k:=4) D9 z (j:=0) z z)<|An z<|Rg<|Mv z<|Mv z<|To (O.b1 (E:=VI .i64) A9 J7 z z z z z λeK aB=>bE H λaV aW H=>To (O.apX A9 A9 J7 z z z (j:=3) z (Src.row (j:=0) z) (O4.of z) (A7.ones VI.plain aB) aa.u aB aW z λaX eM eN=>have cx:A7 (VI .i64) cp (n++[[qi B]]) aV:=A7.ap aa.u aB aW; T.fl ?_))
     refine T.fs [1] ?_
     refine T.drop<|Vv (V.fa Y6 z)<|T.R8 0 z λcy cA=>To (O.st (vs:=[aX]) (k:=4) D9 z z (j:=1) z cA (by (simp only [BT,cy]) <;> rfl) ?_)
     refine T.fl ?_
     refine Ni<|Bn<|Th<|Rg<|Mv z<|bE H λcB cC H=>Vv (V.H5 z z cC)<|An z<|T.fs [1,2,2] ?_
     exact T.ag (aA,aV,cB,aX,(n++[[qi B]])) ⟨(D8 H an),cx⟩
    refine T.skip<|Bn<|Th<|Rg<|Mv z<|bE H λcD cE H=>Vv (V.H5 z z cE)<|An z<|T.ag (aA,A,cD,m,n) ⟨(D8 H an),aa.u⟩
   refine S2<|Sk<|Kf z<|Nt<|Cf z<|T.skip<|Bn<|Th<|Rg<|Mv z<|bE H λcG cI H=>Vv (V.H5 z z cI)<|An z<|T.ag (aA,A,cG,m,n) ⟨(D8 H an),aa.u⟩
  refine T.exit<|Te<|Te<|have H:=D6 H an; Be<|Th<|have H:=I4 H ck; Sr<|Vv (V.A5C (j:=0) (by exact J3) z z) ?_
  refine T.fs [2] ?_
  refine T.K3 λeO eP cJ=>have aY:=A7.slc cJ aa.u; To (O.stF (vs:=[.string b,.int .u8 c,qi ak,qi am,m,qi a,qi d]) J3 z z (j:=1) z z (by (simp only [BT,G6.one aY]) <;> rfl) z ?_)
  refine T.freeze λeS eU cK=>have cM:=Z8.of cK; Nr<|T.drop ?_
  cases H
  exact T.rl z (RVs.cons (RV.B3m z cM J3) RVs.nil) ⟨_,z,z,aY.u⟩
 refine Sr<|We z z<|An z<|T.cH H z (λH=>?_) λH=>?_
 ·refine Sm z<|bE H λeV cN H=>Vv (V.A1d z z cN)<|bE H λJ cO H=>Vv (V.H5 z z cO)<|Vv (V.fa Y5 z)<|To (O.st (vs:=[qi J]) (k:=2) D7 z z (j:=0) z z z<|Nt<|T.norm [1,4,5,6] z<|T.fl ?_)
  refine Rg<|Vv (V.fa Y5 z)<|Vv (V.ldO (k:=2) D7 z (j:=0) z z)<|Mv z<|bE H λeW cP H=>Vv (V.B3Z z z cP)<|bE H λao cS H=>Vv (V.A1d z z cS)<|Vv (V.min2 z z)<|Vv (V.fa A0O z)<|To (O.st (vs:=[qi (min J ao)]) (k:=3) D7 z z (j:=0) z z z<|Ni<|Bn<|Th<|Sq<|Sr<|An z ?_)
  obtain ⟨cU,cV,cW⟩:=J6 H
  have H:=cV
  refine Bl<|T.Q8 3 1<|have cX:A7 (VI .i64) W [] ([]:List Int):=A7.nil; T.fs [2,2] ?_
  refine T.lk [1,4,5] (FUEL,([]:List Int),(0:Int),(qs),[]) (λ⟨P,C,D,o,p⟩=>([(7,qi D)],blk X (.cells [.string b,.int .u8 c,qi J,qi (min J ao),o,qi a,qi d].toArray 139)::blk U (.cells [.string qe,.int .u8 0,qi 0,qi 0,qs,qi 0,qi 0].toArray 139)::F3 3 1 o p::L,λhh=>iter (B4n a b c d J ao) P (C,D)=some cU∧A7 (VI .i64) hh p C)) ⟨H,cX⟩ ?_
  rintro ⟨P,C,D,o,p⟩ eX eY ⟨cY,ab⟩
  obtain ⟨aC,eZ,rfl,H,aq⟩:=G7 cY
  refine T.norm [7,1,4,5] z<|T.fl ?_
  refine Sq<|Sm z<|Vv (V.A5C (j:=0) (by exact J3) z z) ?_
  refine bE H λe0 cZ H=>To (O.cs (A1F ⟨o,z⟩ cZ _) λc0 e3=>Wl z z<|Nt<|T.cH H z (λH=>?_) λH=>?_)
  ·refine Ks<|Sq<|Bl<|Sm z<|Mv z<|bE H λe4 c3 H=>Vv (V.A3Y z z c3)<|bE H λe5 c4 H=>Vv (V.A1d z z c4)<|We z z<|Mv z<|T.bH 74 H z (λH=>?_) λH=>?_
   ·refine Mv z<|bE H λe6 c5 H=>Vv (V.A1d z z c5)<|Wg z z<|Kt z<|Nt<|T.cH H z (λH=>?_) λH=>?_
    ·refine Sr<|Vv (V.fa Y6 z)<|Vv (V.ldO (k:=4) D9 z (j:=0) z z)<|An z<|Rg<|Mv z<|Mv z<|To (O.b1 (E:=VI .i64) A9 J7 z z z z z λe7 aD=>bE H λaZ a0 H=>To (O.apX A9 A9 J7 z z z (j:=3) z (Src.row (j:=0) z) (O4.of z) (A7.ones VI.plain aD) ab.u aD a0 z λa1 e8 e9=>have c6:A7 (VI .i64) c0 (p++[[qi D]]) aZ:=A7.ap ab.u aD a0; T.fl ?_))
     refine T.fs [1] ?_
     refine T.drop<|Vv (V.fa Y6 z)<|T.R8 0 z λc7 c8=>To (O.st (vs:=[a1]) (k:=4) D9 z z (j:=1) z c8 (by (simp only [BT,c7]) <;> rfl) ?_)
     refine T.fl ?_
     refine Ni<|Bn<|Th<|Rg<|Mv z<|bE H λc9 ch H=>Vv (V.H5 z z ch)<|An z<|T.fs [1,2,2] ?_
     exact T.ag (aC,aZ,c9,a1,(p++[[qi D]])) ⟨(D8 H aq),c6⟩
    refine T.skip<|Bn<|Th<|Rg<|Mv z<|bE H λcl cv H=>Vv (V.H5 z z cv)<|An z<|T.ag (aC,C,cl,o,p) ⟨(D8 H aq),ab.u⟩
   refine S2<|Sk<|Kf z<|Nt<|Cf z<|T.skip<|Bn<|Th<|Rg<|Mv z<|bE H λcz da H=>Vv (V.H5 z z da)<|An z<|T.ag (aC,C,cz,o,p) ⟨(D8 H aq),ab.u⟩
  refine T.exit<|Te<|Te<|have H:=D6 H aq; Be<|Th<|have H:=I4 H cW; Sr<|Vv (V.A5C (j:=0) (by exact J3) z z) ?_
  refine T.fs [2] ?_
  refine T.K3 λeh el db=>have a2:=A7.slc db ab.u; To (O.stF (vs:=[.string b,.int .u8 c,qi J,qi (min J ao),o,qi a,qi d]) J3 z z (j:=1) z z (by (simp only [BT,G6.one a2]) <;> rfl) z ?_)
  refine T.freeze λev ez dc=>have dd:=Z8.of dc; Nr<|T.drop ?_
  cases H
  exact T.rl z (RVs.cons (RV.B3m z dd J3) RVs.nil) ⟨_,z,z,a2.u⟩
 refine T.skip<|Bn<|Th<|Sq<|Sr<|An z ?_
 obtain ⟨de,df,dg⟩:=J6 H
 have H:=df
 refine Bl<|T.Q8 3 1<|have di:A7 (VI .i64) W [] ([]:List Int):=A7.nil; T.fs [2,2] ?_
 refine T.lk [1,4,5] (FUEL,([]:List Int),(0:Int),(qs),[]) (λ⟨S,G,I,q,r⟩=>([(7,qi I)],blk X (.cells [.string b,.int .u8 c,qi 0,qi 0,q,qi a,qi d].toArray 139)::blk U (.cells [.string qe,.int .u8 0,qi 0,qi 0,qs,qi 0,qi 0].toArray 139)::F3 3 1 q r::L,λhh=>iter (B3H a b c d) S (G,I)=some de∧A7 (VI .i64) hh r G)) ⟨H,di⟩ ?_
 rintro ⟨S,G,I,q,r⟩ fb fc ⟨dj,ac⟩
 obtain ⟨aE,fd,rfl,H,ar⟩:=G7 dj
 refine T.norm [7,1,4,5] z<|T.fl ?_
 refine Sq<|Sm z<|Vv (V.A5C (j:=0) (by exact J3) z z) ?_
 refine bE H λfe dk H=>To (O.cs (A1F ⟨q,z⟩ dk _) λdm fi=>Wl z z<|Nt<|T.cH H z (λH=>?_) λH=>?_)
 ·refine Ks<|Sq<|Bl<|Sm z<|Mv z<|bE H λfj dq H=>Vv (V.A3Y z z dq)<|bE H λfk dr H=>Vv (V.A1d z z dr)<|We z z<|Mv z<|T.bH 74 H z (λH=>?_) λH=>?_
  ·refine Mv z<|bE H λfm ds H=>Vv (V.A1d z z ds)<|Wg z z<|Kt z<|Nt<|T.cH H z (λH=>?_) λH=>?_
   ·refine Sr<|Vv (V.fa Y6 z)<|Vv (V.ldO (k:=4) D9 z (j:=0) z z)<|An z<|Rg<|Mv z<|Mv z<|To (O.b1 (E:=VI .i64) A9 J7 z z z z z λfn aG=>bE H λa3 a4 H=>To (O.apX A9 A9 J7 z z z (j:=3) z (Src.row (j:=0) z) (O4.of z) (A7.ones VI.plain aG) ac.u aG a4 z λa5 fo fp=>have dt:A7 (VI .i64) dm (r++[[qi I]]) a3:=A7.ap ac.u aG a4; T.fl ?_))
    refine T.fs [1] ?_
    refine T.drop<|Vv (V.fa Y6 z)<|T.R8 0 z λdu dw=>To (O.st (vs:=[a5]) (k:=4) D9 z z (j:=1) z dw (by (simp only [BT,du]) <;> rfl) ?_)
    refine T.fl ?_
    refine Ni<|Bn<|Th<|Rg<|Mv z<|bE H λdx dy H=>Vv (V.H5 z z dy)<|An z<|T.fs [1,2,2] ?_
    exact T.ag (aE,a3,dx,a5,(r++[[qi I]])) ⟨(D8 H ar),dt⟩
   refine T.skip<|Bn<|Th<|Rg<|Mv z<|bE H λdA dB H=>Vv (V.H5 z z dB)<|An z<|T.ag (aE,G,dA,q,r) ⟨(D8 H ar),ac.u⟩
  refine S2<|Sk<|Kf z<|Nt<|Cf z<|T.skip<|Bn<|Th<|Rg<|Mv z<|bE H λdC dD H=>Vv (V.H5 z z dD)<|An z<|T.ag (aE,G,dC,q,r) ⟨(D8 H ar),ac.u⟩
 refine T.exit<|Te<|Te<|have H:=D6 H ar; Be<|Th<|have H:=I4 H dg; Sr<|Vv (V.A5C (j:=0) (by exact J3) z z) ?_
 refine T.fs [2] ?_
 refine T.K3 λfq fr dE=>have a6:=A7.slc dE ac.u; To (O.stF (vs:=[.string b,.int .u8 c,qi 0,qi 0,q,qi a,qi d]) J3 z z (j:=1) z z (by (simp only [BT,G6.one a6]) <;> rfl) z ?_)
 refine T.freeze λfs ft dG=>have dI:=Z8.of dG; Nr<|T.drop ?_
 cases H
 exact T.rl z (RVs.cons (RV.B3m z dI J3) RVs.nil) ⟨_,z,z,a6.u⟩
theorem B3S {h I D J m K} (ak:C1q h I D) (H:B0J D J=some (m,K)):∀ L,FnW prog 68 [.agg I.toArray,.int .i64 J] h L (.tuple #[.agg #[.int .u8 m.F9,.int .i64 m.K8,.string m.fA,.string m.fB,.string m.I7,.int .i64 m.fN],.bool K]):=by
 intro L
 obtain ⟨bO,bP,bS,bU,bV,rfl,d,e,bW,bX⟩:=ak
 refine J2.enter func68 z z z<|Sr<|To (O.U4 z z z λbY bZ b0 c=>To (O.alloc A2G z z λf=>An z<|Sm z<|bE H λb1 am H=>Vv (V.A1d z z am)<|bE H λb2 an H=>Vv (V.H5 z z an)<|bE H λa ao H=>Vv (V.A5g underlying3 underlying41 z ao)<|Vv (V.bld (xs:=[(0,.tmp 16)]) (cs:=[_,_,_,_,_,_]) C0M C0F z (F6.cons z z z F6.nil))<|To (O.alloc A2G z z λi=>To (O.stF (vs:=[.int .u8 a,qi 0,.string qe,.string qe,.string qe,qi 0]) K6 z z (j:=0) z z z z<|Nt<|Sm z<|bE H λb3 ap H=>Vv (V.B3Z z z ap)<|An z<|Sq<|Sm z<|bE H λb4 aq H=>Vv (V.A1d z z aq)<|Wg z z<|Nt ?_))))
 obtain ⟨ar,au,aw⟩:=J6 H
 refine T.ck (α:=Int) [1,2,4,6] (λb=>([],blk i (.cells [.int .u8 a,qi b,.string qe,.string qe,.string qe,qi 0].toArray 43)::blk f (.cells [.int .u8 0,qi 0,.string qe,.string qe,.string qe,qi 0].toArray 43)::L,λhh=>ar=b)) ?_ ?_
 ·have H:=au
  refine T.cH H z (λH=>?_) λH=>?_
  ·refine Rg<|Mv z<|bE H λb5 ax H=>Vv (V.A1d z z ax)<|bE H λM ay H=>Vv (V.H5 z z ay)<|Vv (V.fa A4n z)<|To (O.st (vs:=[qi M]) (k:=1) D7 z z (j:=0) z z z<|Nt<|T.mt M (M0 H))
  refine Ks<|T.mt (0:Int) (M0 H)
 rintro b b6 b7 aA
 have H:=I4 aA aw
 refine T.norm [1,2,4,6] z<|T.fl ?_
 refine Sm z<|bE H λb8 aB H=>Vv (V.B3Z z z aB)<|An z<|Sq<|T.N7 (t:=(.vs [0,1,2,3,4,5] (.alt 6 (.alt 7 .done .no) .no))) 9 0 0 z z H9 (by kernel_rfl) ?_
 refine Tv z (V.fa U0 z)<|Tv z (V.M8 (k:=1) N9 z c.u z)<|Tv z (V.Q3 O7 z e)<|Tv z (V.fa M6 z)<|Tv z (V.M8 (k:=0) Q0 z c.u z)<|Tv z (V.Q3 O5 z d)<|Ts z z (X2 z z) (V.asg z) z ?_ T.P6
 refine Ts z z (X2 z z) (V.asg z) z ?_ T.P6
 refine T.O6 (X2 z z)<|Th<|Sq<|Sq ?_
 obtain ⟨aC,aD,aE⟩:=J6 H
 refine T.ck (α:=Bool) [1,2,4,6,7,8] (λr=>([(40,.bool r)],blk i (.cells [.int .u8 a,qi b,.string qe,.string qe,.string qe,qi 0].toArray 43)::blk f (.cells [.int .u8 0,qi 0,.string qe,.string qe,.string qe,qi 0].toArray 43)::L,λhh=>aC=r)) ?_ ?_
 ·have H:=aD
  refine Rg<|Mv z<|We z z<|Mv z<|T.bH 37 H z (λH=>?_) λH=>?_
  ·refine S2<|Kt z<|Nt<|T.mt true (M0 H)
  refine Mv z<|We z z<|Kf z<|Nt<|T.mt (decide ((D.C8.length:Int)=(0:Int))) (M0 H)
 rintro r b9 bh aG
 have H:=I4 aG aE
 refine T.norm [40,1,2,4,6,7,8] z<|T.fl ?_
 refine T.cH H z (λH=>?_) λH=>?_
 ·refine Sr<|Vv (V.A5C (j:=0) (by exact K6) z z) ?_
  refine To (O.stF (vs:=[.int .u8 a,qi b,.string qe,.string qe,.string qe,qi 0]) K6 z z (j:=1) z z z z<|Ag z<|Nr<|Tr<|Fr_ 1 z<|T.drop ?_)
  cases H
  exact T.B0B (L':=L) results68 (RVs.cons (RV.cellS z (j:=0) z K6) (Rv z)) Li (λ_ iv=>iv.drop) ⟨z,z⟩
 refine Ks<|Sq<|T.N7 (t:=(.vs [0,1,2,3,4,5,6,7,8,9,10,11] (.alt 12 (.alt 13 (.alt 14 .done .no) .no) .no))) 16 0 0 z z H9 (by kernel_rfl) ?_
 refine Tm z z<|Tm z z<|bE H λbl aI H=>Tv z (V.A1d z z aI)<|Tm z z<|Tm z z<|bE H λbv aJ H=>Tv z (V.B3Z z z aJ)<|Tm z z<|bE H λbz aK H=>Tv z (V.A1d z z aK)<|Tm z z<|bE H λca aM H=>Tv z (V.B3Z z z aM)<|Tm z z<|bE H λcb aN H=>Tv z (V.A1d z z aN)<|Ts z z (X2 z z) (V.asg z) z ?_ T.P6
 refine Ts z z (X2 z z) (V.asg z) z ?_ T.P6
 refine Ts z z (X2 z z) (V.asg z) z ?_ T.P6
 refine T.O6 (X2 z z)<|Th<|Sm z<|bE H λcc aO H=>Vv (V.B3Z z z aO)<|bE H λs aP H=>Vv (V.A1d z z aP)<|An z<|Sq<|Sr<|Vv (V.fa A2t z)<|Vv (V.ldO (k:=0) A5G z (j:=0) z z)<|Nt<|Bl<|Sq<|Sr<|We z z<|An z ?_
 obtain ⟨aS,aU,aV⟩:=J6 H
 refine T.ck (α:=Bool) [1,2,4,6,9,10,11,12,58] (λw=>([(59,.bool w)],blk i (.cells [.int .u8 a,qi b,.string qe,.string qe,.string qe,qi 0].toArray 43)::blk f (.cells [.int .u8 0,qi 0,.string qe,.string qe,.string qe,qi 0].toArray 43)::L,λhh=>aS=w)) ?_ ?_
 ·have H:=aU
  refine T.cH H z (λH=>?_) λH=>?_
  ·refine Ks<|T.mt (decide (a=(1:Int))) (M0 H)
  refine Sr<|We z z<|An z<|T.cH H z (λH=>?_) λH=>?_
  ·refine Ks<|T.mt (decide (a=(2:Int))) (M0 H)
  refine Sr<|We z z<|An z<|T.cH H z (λH=>?_) λH=>?_
  ·refine Ks<|T.mt (decide (a=(3:Int))) (M0 H)
  refine Sr<|We z z<|An z<|T.cH H z (λH=>?_) λH=>?_
  ·refine Ks<|T.mt (decide (a=(4:Int))) (M0 H)
  refine Rg<|We z z<|An z<|T.mt (decide (a=(5:Int))) (M0 H)
 rintro w cd ce aW
 have H:=I4 aW aV
 refine T.norm [59,1,2,4,6,9,10,11,12,58] z<|T.fl ?_
 refine T.cH H z (λH=>?_) λH=>?_
 ·refine Sq<|T.N7 (t:=(.vs [0,1,2,3,4,5,6,7,8,9,10,11,12] (.alt 13 (.g (.v 14 (.alt 15 .done .no))) .no))) 13 1 0 z z H9 (by kernel_rfl) ?_
  refine Tv z (V.fa U0 z)<|Tv z (V.M8 (k:=1) N9 z c.u z)<|Tm z z<|bE H λx N H=>?_
  obtain ⟨cf,aX,⟨cg,rfl,ci⟩⟩:=G6.at e N
  refine Tv z (V.ix O7 z z e (E8 N))<|Tv z (V.fa A0l z)<|Tv z (V.M8 (k:=0) J5 z aX.u z)<|Tv z (V.fa U0 z)<|Tv z (V.M8 (k:=1) N9 z c.u z)<|Tm z z<|bE H λy P H=>?_
  obtain ⟨cj,aY,⟨ck,rfl,cm⟩⟩:=G6.at e P
  refine Tv z (V.ix O7 z z e (E8 P))<|Tv z (V.fa A0l z)<|Tv z (V.M8 (k:=0) J5 z aY.u z)<|Tv z (V.fa A0b z)<|Tp z z (X3 [] [0] z z) (O.st (vs:=[.string x.F8]) (k:=2) J5 z z (j:=0) z z z ?_) T.P6
  refine T.O1 Lr<|Tv z (V.fa A4f z)<|Tp z z (SX.one (XA.fr [] Lr z) z) (O.st (vs:=[.string y.F8]) (k:=3) J5 z z (j:=0) z z z ?_) T.P6
  refine T.O6 (SX.one (XA.fr [] Lr z) z)<|Th<|Sq<|Sq ?_
  obtain ⟨aZ,a0,a1⟩:=J6 H
  refine T.ck (α:=Bool) [4,6,9,10,12] (λA=>([(86,.bool A)],blk i (.cells [.int .u8 a,qi b,.string x.F8,.string y.F8,.string qe,qi 0].toArray 43)::blk f (.cells [.int .u8 0,qi 0,.string qe,.string qe,.string qe,qi 0].toArray 43)::L,λhh=>aZ=A)) ?_ ?_
  ·have H:=a0
   refine Rg<|Vv (V.fa A2t z)<|Vv (V.ldO (k:=0) A5G z (j:=0) z z)<|We z z<|Mv z<|T.bH 82 H z (λH=>?_) λH=>?_
   ·refine S2<|Sk<|Kt z<|Nt<|T.mt true (M0 H)
   refine Vv (V.fa A2t z)<|Vv (V.ldO (k:=0) A5G z (j:=0) z z)<|We z z<|Kf z<|Nt<|T.mt (decide (a=(4:Int))) (M0 H)
  rintro A cn co a2
  have H:=I4 a2 a1
  refine T.norm [86,4,6,9,10,12] z<|T.fl ?_
  obtain ⟨a3,a4,a5⟩:=J6 H
  refine T.ck (α:=Int) [4,6,9,10] (λn=>([],blk i (.cells [.int .u8 a,qi b,.string x.F8,.string y.F8,.string qe,qi n].toArray 43)::blk f (.cells [.int .u8 0,qi 0,.string qe,.string qe,.string qe,qi 0].toArray 43)::L,λhh=>a3=n)) ?_ ?_
  ·have H:=a4
   refine T.cH H z (λH=>?_) λH=>?_
   ·refine Rg<|Mv z<|Vv (V.fa U5 z)<|To (O.st (vs:=[qi s]) (k:=5) D7 z z (j:=0) z z z<|Nt<|T.mt s (M0 H))
   refine Ks<|T.mt (0:Int) (M0 H)
  rintro n cp cq a6
  have H:=I4 a6 a5
  refine T.norm [4,6,9,10] z<|T.fl ?_
  refine Sq<|Sr<|Vv (V.fa A2t z)<|Vv (V.ldO (k:=0) A5G z (j:=0) z z)<|We z z<|Nt ?_
  obtain ⟨a7,a8,a9⟩:=J6 H
  refine T.ck (α:=Int) [4,6,9,10] (λo=>([],blk i (.cells [.int .u8 a,qi b,.string x.F8,.string y.F8,.string qe,qi o].toArray 43)::blk f (.cells [.int .u8 0,qi 0,.string qe,.string qe,.string qe,qi 0].toArray 43)::L,λhh=>a7=o)) ?_ ?_
  ·have H:=a8
   refine T.cH H z (λH=>?_) λH=>?_
   ·refine Rg<|Vv (V.fa U5 z)<|Vv (V.ldO (k:=5) D7 z (j:=0) z z)<|bE H λS ah H=>Vv (V.H5 z z ah)<|Vv (V.fa U5 z)<|To (O.st (vs:=[qi S]) (k:=5) D7 z z (j:=0) z z z<|Nt<|T.mt S (M0 H))
   refine Ks<|T.mt n (M0 H)
  rintro o cr ct al
  have H:=I4 al a9
  refine T.norm [4,6,9,10] z<|T.fl ?_
  refine Sr<|Vv (V.A5C (j:=0) (by exact K6) z z) ?_
  refine Mv z<|Mv z<|Wn z z<|To (O.stF (vs:=[.int .u8 a,qi b,.string x.F8,.string y.F8,.string qe,qi o]) K6 z z (j:=1) z z z z<|Ag z<|Nr<|Br<|Tr<|Fr_ 1 z<|T.drop ?_)
  cases H
  exact T.B0B (L':=L) results68 (RVs.cons (RV.cellS z (j:=0) z K6) (Rv z)) Li (λ_ iv=>iv.drop) ⟨z,z⟩
 refine Sq<|Sr<|We z z<|An z ?_
 obtain ⟨av,az,ba⟩:=J6 H
 refine T.ck (α:=Bool) [1,2,4,6,9,11,12,58] (λB=>([(100,.bool B)],blk i (.cells [.int .u8 a,qi b,.string qe,.string qe,.string qe,qi 0].toArray 43)::blk f (.cells [.int .u8 0,qi 0,.string qe,.string qe,.string qe,qi 0].toArray 43)::L,λhh=>av=B)) ?_ ?_
 ·have H:=az
  refine T.cH H z (λH=>?_) λH=>?_
  ·refine Ks<|T.mt (decide (a=(6:Int))) (M0 H)
  refine Rg<|We z z<|An z<|T.mt (decide (a=(7:Int))) (M0 H)
 rintro B cu cw bb
 have H:=I4 bb ba
 refine T.norm [100,1,2,4,6,9,11,12,58] z<|T.fl ?_
 refine T.cH H z (λH=>?_) λH=>?_
 ·refine Sq<|T.N7 (t:=(.vs [0,1,2,3,4,5,6,7,8,9,10,11,12] (.alt 13 (.g (.v 14 (.alt 15 .done .no))) .no))) 13 1 0 z z H9 (by kernel_rfl) ?_
  refine Tv z (V.fa U0 z)<|Tv z (V.M8 (k:=1) N9 z c.u z)<|Tm z z<|bE H λE U H=>?_
  obtain ⟨cx,bc,⟨cy,rfl,cA⟩⟩:=G6.at e U
  refine Tv z (V.ix O7 z z e (E8 U))<|Tv z (V.fa A0l z)<|Tv z (V.M8 (k:=0) J5 z bc.u z)<|Tv z (V.fa M6 z)<|Tv z (V.M8 (k:=0) Q0 z c.u z)<|Tm z z<|bE H λG W H=>?_
  obtain ⟨cB,bd,⟨cC,rfl,cD⟩⟩:=G6.at d W
  refine Tv z (V.ix O5 z z d (E8 W))<|Tv z (V.fa A0o z)<|Tv z (V.M8 (k:=0) J5 z bd.u z)<|Tv z (V.fa A0b z)<|Tp z z (X3 [] [0] z z) (O.st (vs:=[.string E.F8]) (k:=2) J5 z z (j:=0) z z z ?_) T.P6
  refine T.O1 Lr<|Tv z (V.fa V8 z)<|Tp z z (SX.one (XA.fr [] Lr z) z) (O.st (vs:=[.string G.F8]) (k:=4) J5 z z (j:=0) z z z ?_) T.P6
  refine T.O6 (SX.one (XA.fr [] Lr z) z)<|Th<|Sq<|Sr<|Vv (V.fa A2t z)<|Vv (V.ldO (k:=0) A5G z (j:=0) z z)<|We z z<|Nt ?_
  obtain ⟨be,bf,bg⟩:=J6 H
  refine T.ck (α:=Int) [4,6] (λp=>([],blk i (.cells [.int .u8 a,qi b,.string E.F8,.string qe,.string G.F8,qi p].toArray 43)::blk f (.cells [.int .u8 0,qi 0,.string qe,.string qe,.string qe,qi 0].toArray 43)::L,λhh=>be=p)) ?_ ?_
  ·have H:=bf
   refine T.cH H z (λH=>?_) λH=>?_
   ·refine Rg<|Mv z<|bE H λcE bi H=>Vv (V.B3Z z z bi)<|Vv (V.fa M6 z)<|Vv (V.M8 (k:=0) Q0 z c.u z)<|Mv z<|bE H λcG X H=>?_
    obtain ⟨cI,bj,⟨bk,rfl,cJ⟩⟩:=G6.at d X
    refine Vv (V.ix O5 z z d (E8 X))<|Vv (V.ldS z bj.u (by exact J3)) ?_
    refine bE H λcK bm H=>To (O.G5 z (A1F ⟨bk,z⟩ bm _) z λcM cN cO cP bn=>?_)
    obtain ⟨rfl,bo⟩:=bn
    refine P8 _ bo<|bE H λY bp H=>Vv (V.A1d z z bp)<|Vv (V.fa U5 z)<|To (O.st (vs:=[qi Y]) (k:=5) D7 z z (j:=0) z z z<|Nt<|T.mt Y (M0 H))
   refine Ks<|T.mt (0:Int) (M0 H)
  rintro p cS cU bq
  have H:=I4 bq bg
  refine T.norm [4,6] z<|T.fl ?_
  refine Sr<|Vv (V.A5C (j:=0) (by exact K6) z z) ?_
  refine To (O.stF (vs:=[.int .u8 a,qi b,.string E.F8,.string qe,.string G.F8,qi p]) K6 z z (j:=1) z z z z<|Ag z<|Nr<|Br<|Tr<|Fr_ 1 z<|T.drop ?_)
  cases H
  exact T.B0B (L':=L) results68 (RVs.cons (RV.cellS z (j:=0) z K6) (Rv z)) Li (λ_ iv=>iv.drop) ⟨z,z⟩
 refine Sr<|We z z<|An z<|T.cH H z (λH=>?_) λH=>?_
 ·refine Sq<|Sm z<|bE H λcV br H=>Vv (V.A1d z z br)<|We z z<|Nt ?_
  obtain ⟨bs,bt,bu⟩:=J6 H
  refine T.ck (α:=ByteArray) [4,6] (λq=>([],blk i (.cells [.int .u8 a,qi b,.string q,.string qe,.string qe,qi 0].toArray 43)::blk f (.cells [.int .u8 0,qi 0,.string qe,.string qe,.string qe,qi 0].toArray 43)::L,λhh=>bs=q)) ?_ ?_
  ·have H:=bt
   refine T.cH H z (λH=>?_) λH=>?_
   ·refine Rg<|Vv (V.fa U0 z)<|Vv (V.M8 (k:=1) N9 z c.u z)<|Mv z<|bE H λZ aa H=>?_
    obtain ⟨cW,bw,⟨cX,rfl,cY⟩⟩:=G6.at e aa
    refine Vv (V.ix O7 z z e (E8 aa))<|Vv (V.fa A0l z)<|Vv (V.M8 (k:=0) J5 z bw.u z)<|Vv (V.fa A0b z)<|To (O.st (vs:=[.string Z.F8]) (k:=2) J5 z z (j:=0) z z z<|Nt<|T.mt Z.F8 (M0 H))
   refine Ks<|T.mt qe (M0 H)
  rintro q cZ c0 bx
  have H:=I4 bx bu
  refine T.norm [4,6] z<|T.fl ?_
  refine Sr<|Vv (V.A5C (j:=0) (by exact K6) z z) ?_
  refine To (O.stF (vs:=[.int .u8 a,qi b,.string q,.string qe,.string qe,qi 0]) K6 z z (j:=1) z z z z<|Ag z<|Nr<|Br<|Tr<|Fr_ 1 z<|T.drop ?_)
  cases H
  exact T.B0B (L':=L) results68 (RVs.cons (RV.cellS z (j:=0) z K6) (Rv z)) Li (λ_ iv=>iv.drop) ⟨z,z⟩
 refine Sr<|We z z<|An z<|T.cH H z (λH=>?_) λH=>?_
 ·refine Sq<|T.N7 (t:=(.vs [0,1,2,3,4,5,6,7,8,9,10,11,12] (.alt 13 (.g (.v 14 (.alt 15 .done .no))) .no))) 13 1 0 z z H9 (by kernel_rfl) ?_
  refine Tv z (V.fa U0 z)<|Tv z (V.M8 (k:=1) N9 z c.u z)<|Tm z z<|bE H λab ac H=>?_
  obtain ⟨c1,bA,⟨c2,rfl,c3⟩⟩:=G6.at e ac
  refine Tv z (V.ix O7 z z e (E8 ac))<|Tv z (V.fa B0L z)<|Tv z (V.M8 (k:=5) J5 z bA.u z)<|Tv z (V.fa M6 z)<|Tv z (V.M8 (k:=0) Q0 z c.u z)<|Tm z z<|bE H λad ae H=>?_
  obtain ⟨c4,bB,⟨c5,rfl,c6⟩⟩:=G6.at d ae
  refine Tv z (V.ix O5 z z d (E8 ae))<|Tv z (V.fa A0o z)<|Tv z (V.M8 (k:=0) J5 z bB.u z)<|Tv z (V.fa A0b z)<|Tp z z (X3 [] [0] z z) (O.st (vs:=[.string ab.A0y]) (k:=2) J5 z z (j:=0) z z z ?_) T.P6
  refine T.O1 Lr<|Tv z (V.fa V8 z)<|Tp z z (SX.one (XA.fr [] Lr z) z) (O.st (vs:=[.string ad.F8]) (k:=4) J5 z z (j:=0) z z z ?_) T.P6
  refine T.O6 (SX.one (XA.fr [] Lr z) z)<|Th<|Sq<|T.N7 (t:=(.vs [0,1,2,3] (.alt 4 (.alt 5 .done .no) .no))) 4 2 1 z z H9 (by kernel_rfl) ?_
  refine Tv z (Val.XA λ_ _ _=>V.A5C (j:=0) (by exact K6) z z) ?_
  refine Tv z (V.fa A0b z)<|Tv z (Val.XA λ_ _ _=>V.ldO (k:=2) J5 z (j:=0) z z)<|Tv z (V.sne z z)<|Tp z z (X3 [0] [1,1] z z) (O.stF (vs:=[.int .u8 a,qi b,.string ab.A0y,.string qe,.string ad.F8,qi 0]) K6 z z (j:=1) z z z z ?_) T.P6
  refine Ts z z (SX.one (XA.fr [1] Lr z) z) (V.asg z) z ?_ T.P6
  refine T.O6 (SX.one (XA.fr [1] Lr z) z)<|Th<|T.ret<|Br<|Tr<|Fr_ 1 z<|T.drop ?_
  cases H
  exact T.B0B (L':=L) results68 (RVs.cons (RV.cellS z (j:=0) z K6) (Rv z)) Li (λ_ iv=>iv.drop) ⟨z,z⟩
 refine Sq<|Sr<|We z z<|An z ?_
 obtain ⟨bC,bD,bG⟩:=J6 H
 refine T.ck (α:=Bool) [1,2,4,6,11,12] (λC=>([(164,.bool C)],blk i (.cells [.int .u8 a,qi b,.string qe,.string qe,.string qe,qi 0].toArray 43)::blk f (.cells [.int .u8 0,qi 0,.string qe,.string qe,.string qe,qi 0].toArray 43)::L,λhh=>bC=C)) ?_ ?_
 ·have H:=bD
  refine T.cH H z (λH=>?_) λH=>?_
  ·refine Ks<|T.mt (decide (a=(15:Int))) (M0 H)
  refine Rg<|We z z<|An z<|T.mt (decide (a=(16:Int))) (M0 H)
 rintro C c7 c8 bI
 have H:=I4 bI bG
 refine T.norm [164,1,2,4,6,11,12] z<|T.fl ?_
 refine T.cH H z (λH=>?_) λH=>?_
 ·refine Rg<|Mv z<|Vv (V.fa U5 z)<|To (O.st (vs:=[qi s]) (k:=5) D7 z z (j:=0) z z z<|Ni<|Bn<|Th<|Sq<|Sm z<|bE H λc9 bJ H=>Vv (V.A1d z z bJ)<|Wg z z<|Nt<|T.cH H z (λH=>?_) λH=>?_)
  ·refine Rg<|Vv (V.fa M6 z)<|Vv (V.M8 (k:=0) Q0 z c.u z)<|Mv z<|bE H λaf ag H=>?_
   obtain ⟨ch,bK,⟨cl,rfl,cv⟩⟩:=G6.at d ag
   refine Vv (V.ix O5 z z d (E8 ag))<|Vv (V.fa A0o z)<|Vv (V.M8 (k:=0) J5 z bK.u z)<|Vv (V.fa V8 z)<|To (O.st (vs:=[.string af.F8]) (k:=4) J5 z z (j:=0) z z z<|Nt<|Sr<|Vv (V.A5C (j:=0) (by exact K6) z z) ?_)
   refine To (O.stF (vs:=[.int .u8 a,qi b,.string qe,.string qe,.string af.F8,qi s]) K6 z z (j:=1) z z z z<|Ag z<|Nr<|Fr_ 1 z<|T.drop ?_)
   cases H
   exact T.B0B (L':=L) results68 (RVs.cons (RV.cellS z (j:=0) z K6) (Rv z)) Li (λ_ iv=>iv.drop) ⟨z,z⟩
  refine Ks<|Sr<|Vv (V.A5C (j:=0) (by exact K6) z z) ?_
  refine To (O.stF (vs:=[.int .u8 a,qi b,.string qe,.string qe,.string qe,qi s]) K6 z z (j:=1) z z z z<|Ag z<|Nr<|Fr_ 1 z<|T.drop ?_)
  cases H
  exact T.B0B (L':=L) results68 (RVs.cons (RV.cellS z (j:=0) z K6) (Rv z)) Li (λ_ iv=>iv.drop) ⟨z,z⟩
 refine T.skip<|Bn<|Th<|Sq<|Sm z<|bE H λcz bM H=>Vv (V.A1d z z bM)<|Wg z z<|Nt<|T.cH H z (λH=>?_) λH=>?_
 ·refine Rg<|Vv (V.fa M6 z)<|Vv (V.M8 (k:=0) Q0 z c.u z)<|Mv z<|bE H λai aj H=>?_
  obtain ⟨da,bN,⟨db,rfl,dc⟩⟩:=G6.at d aj
  refine Vv (V.ix O5 z z d (E8 aj))<|Vv (V.fa A0o z)<|Vv (V.M8 (k:=0) J5 z bN.u z)<|Vv (V.fa V8 z)<|To (O.st (vs:=[.string ai.F8]) (k:=4) J5 z z (j:=0) z z z<|Nt<|Sr<|Vv (V.A5C (j:=0) (by exact K6) z z) ?_)
  refine To (O.stF (vs:=[.int .u8 a,qi b,.string qe,.string qe,.string ai.F8,qi 0]) K6 z z (j:=1) z z z z<|Ag z<|Nr<|Fr_ 1 z<|T.drop ?_)
  cases H
  exact T.B0B (L':=L) results68 (RVs.cons (RV.cellS z (j:=0) z K6) (Rv z)) Li (λ_ iv=>iv.drop) ⟨z,z⟩
 refine Ks<|Sr<|Vv (V.A5C (j:=0) (by exact K6) z z) ?_
 refine To (O.stF (vs:=[.int .u8 a,qi b,.string qe,.string qe,.string qe,qi 0]) K6 z z (j:=1) z z z z<|Ag z<|Nr<|Fr_ 1 z<|T.drop ?_)
 cases H
 exact T.B0B (L':=L) results68 (RVs.cons (RV.cellS z (j:=0) z K6) (Rv z)) Li (λ_ iv=>iv.drop) ⟨z,z⟩
theorem B5q {h aG ai W} (bj:A0d h aG ai) (H:A9Q ai=some W):∀ L,J2 prog 26 [.agg aG.toArray] h (L) (λv h' L'=>∃ v0_1 v0_3 v0_5 v0_7 v0_9,v=.agg #[v0_1,v0_3,v0_5,v0_7,v0_9]∧L'=L∧G6 I6 7 h' v0_1 W.C8∧G6 I9 9 h' v0_3 W.A8∧G6 L9 3 h' v0_5 W.O0∧G6 (VI .i64) 1 h' v0_7 W.S9∧G6 I5 6 h' v0_9 W.K5):=by
 intro L
 obtain ⟨dt,du,dw,dx,rfl,au,aq,aw,ax⟩:=bj
 refine J2.enter func26 z z z<|Sr<|To (O.U4 z z z λdy bk dA x=>To (O.alloc A6Q z z λG=>Nt<|Sr<|To (O.alloc A6Q z z λI=>Nt<|Sr<|An z<|Sq<|Sr<|An z ?_)))
 obtain ⟨bm,bn,bo⟩:=J6 H
 have H:=bn
 refine Bl<|T.Q8 139 7<|have bp:A7 I6 bk [] ([]:List D5):=A7.nil; T.fs [2,2] ?_
 refine T.lk [1,2,3] (FUEL,([]:List D5),(0:Int),(0:Int),(qs),[]) (λ⟨X,J,Y,K,d,r⟩=>([(4,qi Y),(5,qi K)],blk I (.cells [d,qs,qs,qs,qs].toArray 33)::blk G (.cells [qs,qs,qs,qs,qs].toArray 33)::F3 139 7 d r::L,λhh=>iter (A1E ai) X (J,Y,K)=some bm∧A7 I6 hh r J)) ⟨H,bp⟩ ?_
 rintro ⟨X,J,Y,K,d,r⟩ dB dC ⟨bq,ay⟩
 obtain ⟨br,dD,rfl,H,aI⟩:=G7 bq
 refine T.norm [4,5,1,2,3] z<|T.fl ?_
 refine Sq<|Sq ?_
 obtain ⟨bt,bu,bw⟩:=J6 H
 refine T.ck (α:=Bool) [1,2,3,4,5] (λaj=>([(23,.bool aj)],blk I (.cells [d,qs,qs,qs,qs].toArray 33)::blk G (.cells [qs,qs,qs,qs,qs].toArray 33)::F3 139 7 d r::L,λhh=>bt=aj)) ?_ ?_
 ·have H:=bu
  refine Rg<|Mv z<|Vv (V.fa A7v z)<|Vv (V.M8 (k:=0) A8K z x.u z)<|Vv (V.Q3 A5j z au)<|Wl z z<|Mv z<|T.bH 20 H z (λH=>?_) λH=>?_
  ·refine Mv z<|Wl z z<|Kt z<|Nt<|T.mt (decide (K<(3:Int))) (M0 H)
  refine S2<|Kf z<|Nt<|T.mt false (M0 H)
 rintro aj bx dE bA
 have H:=I4 bA bw
 refine T.norm [23,1,2,3,4,5] z<|T.fl ?_
 refine T.cH H z (λH=>?_) λH=>?_
 ·refine Ks<|Sq<|Bl<|Sm z<|Vv (V.fa A7v z)<|Vv (V.M8 (k:=0) A8K z x.u z)<|Mv z<|bE H λdG aJ H=>?_
  obtain ⟨dI,bB,rfl⟩:=G6.at au aJ
  refine Vv (V.ix A5j z z au (E8 aJ))<|Vv (V.R5 A3V z bB.u z)<|bE H λdJ bC H=>Vv (V.A5g underlying5 underlying3 z bC)<|bE H λa bD H=>To (O.G5 z (C0U bD _) z λdK dM dN dO bG=>?_)
  obtain ⟨Z,rfl,bI,aK⟩:=bG
  refine P8 _ bI<|To (O.alloc A1Q z z λdP=>To (O.stF (vs:=[.string a.F8,.int .u8 a.Q6,qi a.fA,qi a.fB,Z,qi a.fX,qi a.fY]) J3 z z (j:=0) z z (by (simp only [BT,G6.one aK]) <;> rfl) z ?_))
  refine T.fl ?_
  refine T.freeze λaM dS bJ=>have aN:=Z8.of bJ; Nt<|Sr<|Vv (V.fa M6 z)<|Vv (V.ldO (k:=0) Q0 z (j:=0) z z)<|An z<|Sm z<|Vv (V.ldS z aN (by exact J3)) ?_
  refine To (O.bs O5 A1Q z (e:=z) (hk:=z) (xs:=[.tmp 37]) (hv:=CO.eq (CO.cons z CO.nil)) (hw:=O4.of z) (hd:=z) λdU=>have aA:A7 I6 aM [[.string a.F8,.int .u8 a.Q6,qi a.fA,qi a.fB,Z,qi a.fX,qi a.fY]] ([a]:List D5):=(A7.cons ⟨Z,z,aK.u⟩ A7.nil); bE H λaO aP H=>To (O.apX O5 O5 A1Q z z z (j:=3) z (Src.row (j:=0) z) (O4.of z) (A7.ones I6.plain aA) ay.u aA aP z λaS dV dW=>have bK:A7 I6 aM (r++[[.string a.F8,.int .u8 a.Q6,qi a.fA,qi a.fB,Z,qi a.fX,qi a.fY]]) aO:=A7.ap ay.u aA aP; T.fl ?_))
  refine T.fs [1] ?_
  refine T.drop<|Vv (V.fa M6 z)<|T.R8 0 z λbM bN=>To (O.st (vs:=[aS]) (k:=0) Q0 z z (j:=1) z bN (by (simp only [BT,bM]) <;> rfl) ?_)
  refine T.fl ?_
  refine Nt<|Rg<|Mv z<|Vv (V.ldS z aN (by exact J3)) ?_
  refine bE H λdX bO H=>To (O.cs (A1F ⟨Z,z⟩ bO _) λdZ d1=>bE H λbU bV H=>Vv (V.H5 z z bV)<|Ag z<|Ni<|Bn<|Th<|Rg<|Mv z<|bE H λbW bX H=>Vv (V.H5 z z bX)<|An z<|T.fs [1,2,2] ?_)
  exact T.ag (br,aO,bU,bW,aS,(r++[[.string a.F8,.int .u8 a.Q6,qi a.fA,qi a.fB,Z,qi a.fX,qi a.fY]])) ⟨(D8 H aI),bK.u⟩
 refine T.exit<|Te<|Te<|have H:=D6 H aI; Be<|Th<|have H:=I4 H bo; Sq ?_
 obtain ⟨bY,bZ,b0⟩:=J6 H
 refine T.ck (α:=R4×Addr×Value×Value) [1,2,3] (λ⟨A,ak,n,o⟩=>([(8,.pointer (some ak))],blk I (.cells [d,qs,qs,qs,qs].toArray 33)::blk G (.cells [qs,qs,qs,qs,qs].toArray 33)::F3 139 7 d r::L,λhh=>bY=A∧Z8 hh ak [n,o]∧G6 I9 9 hh n A.A8∧G6 L9 3 hh o A.O0)) ?_ ?_
 ·have H:=bZ
  refine T.N7 (t:=(.vs [0,1,2,3,4,5,6,7,8,9] (.alt 10 (.alt 11 (.alt 12 .done .no) .no) (.alt 11 (.alt 10 (.alt 12 .done .no) .no) .no)))) 14 0 0 z z H9 (by kernel_rfl) ?_
  refine Tv z (V.fa A7C z)<|Tv z (V.M8 (k:=1) B1L z x.u z)<|Tv z (V.fa A7C z)<|Tv z (V.M8 (k:=1) B1L z x.u z)<|Tv z (V.Q3 B0i z aq)<|Tm z z<|Tv z (V.min2 z z)<|bE H λb2 aU H=>T.D3w z z B0i z aq.u (.inl ⟨z,z⟩) (.inr ⟨_,_,z,z⟩) (A3U aU).2 z Calm.i λb3 b4 d2=>?_
  have aV:G6 (VI .u16) 1 bx b3 b2:=by rw [(A3U aU).1]; exact b4
  refine Tv z (V.fa C0p z)<|Tv z (V.M8 (k:=2) A8K z x.u z)<|T.C3b ?_ ?_
  ·refine bE H λb5 b6 H=>Tp z z (X2 z z) (O.G5 z (B5M aV aw.u b6 _) z λd3 d4 d5 d6 b7=>?_) T.P6
   obtain ⟨aW,aX,rfl,b8,aY,aZ⟩:=b7
   refine P8 _ b8<|Tp z z (SX.two (XA.fr [] Li z) (XA.fr [] Li z)) (O.alloc B4C z z λb9=>?_) T.P6
   refine Tp z z (SX.two (XA.fr [] Li z) (XA.fr [] Li z)) (O.stF (vs:=[aW,aX]) A6i z z (j:=0) z z (by (simp only [BT,G6.one aY,G6.one aZ]) <;> rfl) z ?_) T.P6
   refine T.fl ?_
   refine T.freeze λd7 d8 bh=>have bl:=Z8.of bh; T.O6 (SX.two (XA.fr [] Li z) (XA.fr [] Li z))<|Th<|T.mt (b5,⟨b9,0,none⟩,aW,aX) ⟨(M0 H),bl,aY.u,aZ.u⟩
  refine Tp z z (X2 z z) (O.alloc B4C z z λbv=>?_) T.P6
  refine bE H λbz ca H=>Tp z z (X2 z z) (O.G5 z (B5M aV aw.u ca _) z λd9 dh dl dv cb=>?_) T.P6
  obtain ⟨a0,a1,rfl,cc,a2,a3⟩:=cb
  refine P8 _ cc<|Tp z z (SX.two (XA.fr [] Li z) (XA.fr [] Li z)) (O.stF (vs:=[a0,a1]) A6i z z (j:=0) z z (by (simp only [BT,G6.one a2,G6.one a3]) <;> rfl) z ?_) T.P6
  refine T.fl ?_
  refine T.freeze λdz ea cd=>have ce:=Z8.of cd; T.O6 (SX.two (XA.fr [] Li z) (XA.fr [] Li z))<|Th<|T.mt (bz,⟨bv,0,none⟩,a0,a1) ⟨(M0 H),ce,a2.u,a3.u⟩
 rintro ⟨A,ak,n,o⟩ a4 eb ⟨cf,a5,M,aa⟩
 have H:=I4 cf b0
 refine T.norm [8,1,2,3] z<|T.fl ?_
 refine Sq<|T.N7 (t:=(.vs [0,1,2,3,4] (.alt 5 (.g (.v 6 (.alt 7 .done .no))) .no))) 5 1 0 z z H9 (by kernel_rfl) ?_
 refine Tv z (V.fa A3h z)<|Tv z (V.M8 (k:=0) N9 z a5 z)<|Tv z (V.fa A8O z)<|Tv z (V.M8 (k:=1) A1N z a5 z)<|Tv z (V.fa U0 z)<|Tp z z (X3 [] [0] z z) (O.st (vs:=[n]) (k:=1) N9 z z (j:=0) z (G6.cells M) (by (simp only [BT,G6.one M]) <;> rfl) ?_) T.P6
 refine T.fl ?_
 refine T.O1 Lr<|Tv z (V.fa A9S z)<|Tp z z (SX.one (XA.fr [] Lr z) z) (O.st (vs:=[o]) (k:=2) A1N z z (j:=0) z (G6.cells aa) (by (simp only [BT,G6.one aa]) <;> rfl) ?_) T.P6
 refine T.fl ?_
 refine T.O6 (SX.one (XA.fr [] Lr z) z)<|Th<|Sq<|Sr<|Vv (V.fa C0p z)<|Vv (V.M8 (k:=2) A8K z x.u z)<|Vv (V.Q3 A5j z aw)<|bE H λec cg H=>Vv (V.A1d z z cg)<|Wg z z<|Nt ?_
 obtain ⟨ci,cj,ck⟩:=J6 H
 refine T.ck (α:=(List Int)×Value×(List (List Value))) [1,2,3] (λ⟨ab,ac,am⟩=>([],blk I (.cells [d,n,o,ac,qs].toArray 33)::blk G (.cells [qs,qs,qs,qs,qs].toArray 33)::F3 139 7 d r::F3 3 1 ac am::L,λhh=>ci=ab∧A7 (VI .i64) hh am ab)) ?_ ?_
 ·have H:=cj
  refine T.cH H z (λH=>?_) λH=>?_
  ·refine Sr<|An z<|T.A0S ?_
   obtain ⟨cm,cn,co⟩:=J6 H
   have H:=cn
   refine Bl<|T.Q8 3 1<|have cp:A7 (VI .i64) a4 [] ([]:List Int):=A7.nil; T.fs [3,3,3] ?_
   refine T.lk [1,2,3] (FUEL,([]:List Int),(0:Int),(qs),[]) (λ⟨ad,N,ae,P,y⟩=>([(9,qi ae)],blk I (.cells [d,n,o,P,qs].toArray 33)::blk G (.cells [qs,qs,qs,qs,qs].toArray 33)::F3 139 7 d r::F3 3 1 P y::L,λhh=>iter (A5q ai A) ad (N,ae)=some cm∧A7 (VI .i64) hh y N)) ⟨H,cp⟩ ?_
   rintro ⟨ad,N,ae,P,y⟩ cq ed ⟨cr,aB⟩
   obtain ⟨cs,ee,rfl,H,a6⟩:=G7 cr
   refine T.norm [9,1,2,3] z<|T.fl ?_
   refine Sq<|Sm z<|Vv (V.fa U0 z)<|Vv (V.ldO (k:=1) N9 z (j:=0) z z)<|Vv (V.Q3 O7 z M)<|Wl z z<|Nt<|T.cH H z (λH=>?_) λH=>?_
   ·refine Ks<|Sq<|Bl<|Sr<|Vv (V.fa A6c z)<|Vv (V.ldO (k:=3) D9 z (j:=0) z z)<|An z<|Rg<|Mv z<|Vv (V.fa A7C z)<|Vv (V.M8 (k:=1) B1L z x.u z)<|Mv z<|bE H λef a7 H=>?_
    obtain ⟨eg,ct,rfl⟩:=G6.at aq a7
    refine Vv (V.ix B0i z z aq (E8 a7))<|Vv (V.R5 C3f z ct.u z)<|bE H λei cu H=>Vv (V.A5g underlying143 underlying3 z cu)<|bE H λej cw H=>Vv (V.B3Z z z cw)<|bE H λa8 cx H=>Vv (V.A1d z z cx)<|To (O.b1 (E:=VI .i64) A9 J7 z z z z z λek aC=>bE H λa9 ah H=>To (O.apX A9 A9 J7 z z z (j:=4) z (Src.row (j:=0) z) (O4.of z) (A7.ones VI.plain aC) aB aC ah z λal em en=>have cy:A7 (VI .i64) cq (y++[[qi a8]]) a9:=A7.ap aB aC ah; T.fl ?_))
    refine T.fs [1] ?_
    refine T.drop<|Vv (V.fa A6c z)<|T.R8 0 z λcA cB=>To (O.st (vs:=[al]) (k:=3) D9 z z (j:=1) z cB (by (simp only [BT,cA]) <;> rfl) ?_)
    refine T.fl ?_
    refine Ni<|Bn<|Th<|Rg<|Mv z<|bE H λcC cD H=>Vv (V.H5 z z cD)<|An z<|T.fs [1,3,3,3] ?_
    exact T.ag (cs,a9,cC,al,(y++[[qi a8]])) ⟨(D8 H a6),cy⟩
   refine T.exit<|Te<|Te<|have H:=D6 H a6; Be<|Th<|have H:=I4 H co; Th<|T.mt (N,P,y) ⟨(M0 H),aB⟩
  refine Ks<|T.Q8 3 1<|have cE:A7 (VI .i64) a4 [] ([]:List Int):=A7.nil; T.fs [3,3,3] ?_
  exact T.mt (([]:List Int),(qs),[]) ⟨(M0 H),cE⟩
 rintro ⟨ab,ac,am⟩ eo ep ⟨cG,cI⟩
 have H:=I4 cG ck
 refine T.norm [1,2,3] z<|T.fl ?_
 refine Sq<|Sr<|An z ?_
 obtain ⟨cJ,cK,cM⟩:=J6 H
 have H:=cK
 refine Bl<|T.fs [2] ?_
 refine T.K3 λer es cN=>have cO:=A7.slc cN ay.u; T.fs [2] ?_
 refine T.K3 λcP et cS=>have cU:=A7.slc cS cI.u; T.Q8 43 6<|have cV:A7 I5 cP [] ([]:List F4):=A7.nil; T.fs [2,2] ?_
 refine T.lk [1,2,3] (FUEL,J,ab,([]:List F4),(0:Int),d,ac,(qs),[]) (λ⟨af,s,w,B,S,f,m,p,q⟩=>([(11,qi S)],blk I (.cells [f,n,o,m,p].toArray 33)::blk G (.cells [qs,qs,qs,qs,qs].toArray 33)::F3 43 6 p q::L,λhh=>iter (A5A ai A) af (s,w,B,S)=some cJ∧G6 I6 7 hh f s∧G6 (VI .i64) 1 hh m w∧A7 I5 hh q B)) ⟨H,cO.u,cU,cV⟩ ?_
 rintro ⟨af,s,w,B,S,f,m,p,q⟩ eu ew ⟨cW,C,D,U⟩
 obtain ⟨ar,ex,rfl,H,an⟩:=G7 cW
 refine T.norm [11,1,2,3] z<|T.fl ?_
 refine Sq<|Sq ?_
 obtain ⟨cX,cY,cZ⟩:=J6 H
 refine T.ck (α:=Bool) [1,2,3,11] (λao=>([(96,.bool ao)],blk I (.cells [f,n,o,m,p].toArray 33)::blk G (.cells [qs,qs,qs,qs,qs].toArray 33)::F3 43 6 p q::L,λhh=>cX=ao)) ?_ ?_
 ·have H:=cY
  refine Rg<|Mv z<|Vv (V.fa C0h z)<|Vv (V.M8 (k:=3) C4I z x.u z)<|Vv (V.Q3 C5F z ax)<|Wl z z<|Mv z<|T.bH 93 H z (λH=>?_) λH=>?_
  ·refine Mv z<|Wl z z<|Kt z<|Nt<|T.mt (decide (S<(12:Int))) (M0 H)
  refine S2<|Kf z<|Nt<|T.mt false (M0 H)
 rintro ao ey eA c0
 have H:=I4 c0 cZ
 refine T.norm [96,1,2,3,11] z<|T.fl ?_
 refine T.cH H z (λH=>?_) λH=>?_
 ·refine Ks<|Sq<|Bl<|Sq<|T.N7 (t:=(.vs [0,1,2,3,4,5,6] (.alt 7 (.g (.vs [8,9,10] (.alt 11 (.alt 12 (.alt 13 .done .no) .no) .no))) (.alt 11 (.alt 7 (.g (.vs [8,9,10] (.alt 12 (.alt 13 .done .no) .no))) .no) .no)))) 15 1 1 z z H9 (by kernel_rfl) ?_
  refine Tv z (Val.XA λ_ _ _=>V.A5C (j:=0) (by exact J9) z z) ?_
  refine Tv z (V.fa C0h z)<|Tv z (V.M8 (k:=3) C4I z x.u z)<|Tm z z<|bE H λeB av H=>?_
  obtain ⟨eC,c1,rfl⟩:=G6.at ax av
  refine Tv z (V.ix C5F z z ax (E8 av))<|Tv z (V.R5 C8j z c1.u z)<|bE H λeD c2 H=>Tv z (V.A5g underlying146 underlying3 z c2)<|T.C3b ?_ ?_
  ·refine bE H λ⟨b,eE⟩ c3 H=>Tp z z (X3 [0] [0] z z) (O.G5 z (B3S ⟨f,n,o,m,p,z,C.u,M.u,aa.u,D.u⟩ c3 _) z λeG eI eJ eK c4=>?_) T.P6
   obtain ⟨rfl,c5⟩:=c4
   refine P8 _ c5<|T.O1 Li<|Tm z z<|Tv z (V.ext z z)<|Tv z (V.ext z z)<|Tp z z (X3 [0] [0] z z) (O.alloc A2G z z λeM=>?_) T.P6
   refine Tp z z (X3 [1] [1] z z) (O.stF (vs:=[.int .u8 b.F9,qi b.K8,.string b.fA,.string b.fB,.string b.I7,qi b.fN]) K6 z z (j:=0) z z z z ?_) T.P6
   refine T.fl ?_
   refine T.freeze λaz eN c6=>have c7:=Z8.of c6; Ts z z (SX.two (XA.fr [0] Li z) (XA.fr [0] Li z)) (V.asg z) z ?_ T.P6
   refine T.O6 (SX.two (XA.fr [0] Li z) (XA.fr [0] Li z))<|Th<|Sm z<|Nt<|T.cH H z (λH=>?_) λH=>?_
   ·refine Sr<|Vv (V.fa A2x z)<|Vv (V.ldO (k:=4) A1k z (j:=0) z z)<|An z<|Rg<|Mv z<|Vv (V.ldS z c7 (by exact K6)) ?_
    refine To (O.bs Z6 A2G z (e:=z) (hk:=z) (xs:=[.tmp 114]) (hv:=CO.eq (CO.cons z CO.nil)) (hw:=O4.of z) (hd:=z) λeO=>have aD:A7 I5 az [[.int .u8 b.F9,qi b.K8,.string b.fA,.string b.fB,.string b.I7,qi b.fN]] ([b]:List F4):=(A7.cons z A7.nil); bE H λba bb H=>To (O.apX Z6 Z6 A2G z z z (j:=3) z (Src.row (j:=0) z) (O4.of z) (A7.ones I5.plain aD) U.u aD bb z λbc eP eS=>have c8:A7 I5 az (q++[[.int .u8 b.F9,qi b.K8,.string b.fA,.string b.fB,.string b.I7,qi b.fN]]) ba:=A7.ap U.u aD bb; T.fl ?_))
    refine T.fs [1] ?_
    refine T.drop<|Vv (V.fa A2x z)<|T.R8 0 z λc9 ch=>To (O.st (vs:=[bc]) (k:=4) A1k z z (j:=1) z ch (by (simp only [BT,c9]) <;> rfl) ?_)
    refine T.fl ?_
    refine Ni<|Bn<|Th<|Rg<|Mv z<|bE H λcl cv H=>Vv (V.H5 z z cv)<|An z<|T.fs [1,2,2] ?_
    exact T.ag (ar,s,w,ba,cl,f,m,bc,(q++[[.int .u8 b.F9,qi b.K8,.string b.fA,.string b.fB,.string b.I7,qi b.fN]])) ⟨(D8 H an),C.u,D.u,c8⟩
   refine T.skip<|Bn<|Th<|Rg<|Mv z<|bE H λcz da H=>Vv (V.H5 z z da)<|An z<|T.ag (ar,s,w,B,cz,f,m,p,q) ⟨(D8 H an),C.u,D.u,U.u⟩
  refine Tp z z (X3 [0] [0] z z) (O.alloc A2G z z λeU=>?_) T.P6
  refine bE H λ⟨c,eV⟩ db H=>Tp z z (X3 [1] [1] z z) (O.G5 z (B3S ⟨f,n,o,m,p,z,C.u,M.u,aa.u,D.u⟩ db _) z λeW eX eY eZ dc=>?_) T.P6
  obtain ⟨rfl,dd⟩:=dc
  refine P8 _ dd<|T.O1 Li<|Tm z z<|Tv z (V.ext z z)<|Tv z (V.ext z z)<|Tp z z (X3 [1] [1] z z) (O.stF (vs:=[.int .u8 c.F9,qi c.K8,.string c.fA,.string c.fB,.string c.I7,qi c.fN]) K6 z z (j:=0) z z z z ?_) T.P6
  refine T.fl ?_
  refine T.freeze λbd e0 de=>have df:=Z8.of de; Ts z z (SX.two (XA.fr [0] Li z) (XA.fr [0] Li z)) (V.asg z) z ?_ T.P6
  refine T.O6 (SX.two (XA.fr [0] Li z) (XA.fr [0] Li z))<|Th<|Sm z<|Nt<|T.cH H z (λH=>?_) λH=>?_
  ·refine Sr<|Vv (V.fa A2x z)<|Vv (V.ldO (k:=4) A1k z (j:=0) z z)<|An z<|Rg<|Mv z<|Vv (V.ldS z df (by exact K6)) ?_
   refine To (O.bs Z6 A2G z (e:=z) (hk:=z) (xs:=[.tmp 114]) (hv:=CO.eq (CO.cons z CO.nil)) (hw:=O4.of z) (hd:=z) λe1=>have aE:A7 I5 bd [[.int .u8 c.F9,qi c.K8,.string c.fA,.string c.fB,.string c.I7,qi c.fN]] ([c]:List F4):=(A7.cons z A7.nil); bE H λbe bf H=>To (O.apX Z6 Z6 A2G z z z (j:=3) z (Src.row (j:=0) z) (O4.of z) (A7.ones I5.plain aE) U.u aE bf z λbg e2 e3=>have dg:A7 I5 bd (q++[[.int .u8 c.F9,qi c.K8,.string c.fA,.string c.fB,.string c.I7,qi c.fN]]) be:=A7.ap U.u aE bf; T.fl ?_))
   refine T.fs [1] ?_
   refine T.drop<|Vv (V.fa A2x z)<|T.R8 0 z λdi dj=>To (O.st (vs:=[bg]) (k:=4) A1k z z (j:=1) z dj (by (simp only [BT,di]) <;> rfl) ?_)
   refine T.fl ?_
   refine Ni<|Bn<|Th<|Rg<|Mv z<|bE H λdk dm H=>Vv (V.H5 z z dm)<|An z<|T.fs [1,2,2] ?_
   exact T.ag (ar,s,w,be,dk,f,m,bg,(q++[[.int .u8 c.F9,qi c.K8,.string c.fA,.string c.fB,.string c.I7,qi c.fN]])) ⟨(D8 H an),C.u,D.u,dg⟩
  refine T.skip<|Bn<|Th<|Rg<|Mv z<|bE H λdn dp H=>Vv (V.H5 z z dp)<|An z<|T.ag (ar,s,w,B,dn,f,m,p,q) ⟨(D8 H an),C.u,D.u,U.u⟩
 refine T.exit<|Te<|Te<|have H:=D6 H an; Be<|Th<|have H:=I4 H cM; Sr<|Vv (V.A5C (j:=0) (by exact J9) z z) ?_
 refine T.fs [2] ?_
 refine T.K3 λe4 e5 dq=>have bi:=A7.slc dq U.u; To (O.stF (vs:=[f,n,o,m,p]) J9 z z (j:=1) z z (by (simp only [BT,G6.one C,G6.one M,G6.one aa,G6.one D,G6.one bi]) <;> rfl) z ?_)
 refine T.freeze λe6 e7 dr=>have ds:=Z8.of dr; Nr<|T.drop ?_
 cases H
 exact T.rl z (RVs.cons (RV.B3m z ds J9) RVs.nil) ⟨_,_,_,_,_,z,z,C.u,M.u,aa.u,D.u,bi.u⟩
theorem B8f {h n g o} (r:N8 h n g) (H:A7R g=some o):∀ L,FnW prog 25 [.agg n.toArray] h L (.int .i64 o):=by
 intro L
 obtain ⟨ab,ac,ad,ae,af,rfl,i,ai,aj,ak,am⟩:=r
 refine J2.enter func25 z z z<|Sr<|To (O.U4 z z z λan ao ap p=>An z<|Sr<|An z<|Sq<|Sr<|An z ?_)
 obtain ⟨s,t,w⟩:=J6 H
 have H:=t
 refine Bl<|T.lk [1] (FUEL,(0:Int),(0:Int)) (λ⟨a,b,c⟩=>([(3,qi b),(4,qi c)],L,λhh=>iter (A3a g) a (b,c)=some s)) H ?_
 rintro ⟨a,b,c⟩ aq ar x
 obtain ⟨m,au,rfl,H,f⟩:=G7 x
 refine T.norm [3,4,1] z<|T.fl ?_
 refine Sq<|Sm z<|Vv (V.fa M6 z)<|Vv (V.M8 (k:=0) Q0 z p.u z)<|Vv (V.Q3 O5 z i)<|Wl z z<|Nt<|T.cH H z (λH=>?_) λH=>?_
 ·refine Ks<|Sq<|Bl<|Sr<|Vv (V.fa M6 z)<|Vv (V.M8 (k:=0) Q0 z p.u z)<|Mv z<|bE H λd q H=>?_
  obtain ⟨aw,y,⟨A,rfl,B⟩⟩:=G6.at i q
  refine Vv (V.ix O5 z z i (E8 q))<|Vv (V.ldS z y.u (by exact J3)) ?_
  refine To (O.alloc A1Q z z λax=>To (O.stF (vs:=[.string d.F8,.int .u8 d.Q6,qi d.fA,qi d.fB,A,qi d.fX,qi d.fY]) J3 z z (j:=0) z z (by (simp only [BT,G6.one B]) <;> rfl) z ?_))
  refine T.freeze λay aA C=>have e:=Z8.of C; Nt<|Sr<|Vv (V.fa A3g z)<|Vv (V.M8 (k:=1) A6o z e z)<|Nt<|Bl<|Sr<|We z z<|An z<|T.cH H z (λH=>?_) λH=>?_
  ·refine Rg<|Mv z<|Vv (V.fa Y5 z)<|Vv (V.M8 (k:=2) D7 z e z)<|bE H λaB D H=>Vv (V.A9L z z D)<|Vv (V.fa A0O z)<|Vv (V.M8 (k:=3) D7 z e z)<|bE H λaC E H=>Vv (V.H5 z z E)<|bE H λG I H=>Vv (V.H5 z z I)<|Ag z<|Ni<|Bn<|Bn<|Th<|Rg<|Mv z<|bE H λJ K H=>Vv (V.H5 z z K)<|An z<|T.ag (m,G,J) (D8 H f)
  refine Sr<|We z z<|An z<|T.cH H z (λH=>?_) λH=>?_
  ·refine Rg<|Mv z<|Vv (V.fa Y5 z)<|Vv (V.M8 (k:=2) D7 z e z)<|Vv (V.fa A0O z)<|Vv (V.M8 (k:=3) D7 z e z)<|bE H λaD M H=>Vv (V.A9L z z M)<|bE H λaE N H=>Vv (V.H5 z z N)<|bE H λP S H=>Vv (V.H5 z z S)<|Ag z<|Ni<|Bn<|Bn<|Th<|Rg<|Mv z<|bE H λU W H=>Vv (V.H5 z z W)<|An z<|T.ag (m,P,U) (D8 H f)
  refine Rg<|Mv z<|Vv (V.fa Y5 z)<|Vv (V.M8 (k:=2) D7 z e z)<|bE H λX Y H=>Vv (V.H5 z z Y)<|Ag z<|Ni<|Bn<|Bn<|Th<|Rg<|Mv z<|bE H λZ aa H=>Vv (V.H5 z z aa)<|An z<|T.ag (m,X,Z) (D8 H f)
 exact T.exit<|Te<|Te<|have H:=D6 H f; Be<|Th<|have H:=I4 H w; Sm z<|Ag z<|Nr<|E1 H
theorem C1p {h s f c} (Y:A0d h s f) (H:B0O f=some c):∀ L,J2 prog 6 [.agg s.toArray] h (L) (λv h' L'=>∃ v0_1 v0_3 v0_5 v0_7 v0_9,v=.agg #[v0_1,v0_3,v0_5,v0_7,v0_9]∧L'=L∧G6 I6 7 h' v0_1 c.C8∧G6 I9 9 h' v0_3 c.A8∧G6 L9 3 h' v0_5 c.O0∧G6 (VI .i64) 1 h' v0_7 c.S9∧G6 I5 6 h' v0_9 c.K5):=by
 intro L
 obtain ⟨a0,t,m,n,rfl,w,x,Z,aa⟩:=Y
 refine J2.enter func6 z z z<|Sr<|To (O.box z z z λy=>To (O.alloc A6Q z z λA=>Nt<|Sr<|Vv (V.fa A7v z)<|Vv (V.ldO (k:=0) A8K z (j:=1) z z)<|Vv (V.fa A7v z)<|Vv (V.ldO (k:=0) A8K z (j:=1) z z)<|Vv (V.Q3 A5j z w)<|Vv (V.min2 z z)<|bE H λq B H=>T.slM z A5j z w (.inl ⟨z,z⟩) (.inr ⟨_,_,z,z⟩) (A3U B).2 z λb ab a1=>?_))
 have g:G6 (VI .u8) 1 h b q:=by rw [(A3U B).1]; exact ab
 refine Vv (V.fa A7v z)<|To (O.st (vs:=[b]) (k:=0) A8K z z (j:=1) z (G6.cells g) (by (simp only [BT,G6.one g]) <;> rfl) ?_)
 refine Nt<|Sr<|Vv (V.fa A7v z)<|Vv (V.ldO (k:=0) A8K z (j:=0) z z)<|Vv (V.bld (xs:=[(0,.tmp 15)]) (cs:=[_,_,_,_]) C9K D0a z (F6.cons z (G6.cells g) z F6.nil))<|bE H λac ad H=>To (O.G5 z (B5q (show A0d h [b,qs,qs,qs] (T9.mk q ([]:List Int) ([]:List Int) ([]:List Int)) from ⟨b,(qs),(qs),(qs),z,g,G6.nil,G6.nil,G6.nil⟩) ad _) z λa2 ae a3 a4 af=>?_)
 obtain ⟨C,D,E,G,I,rfl,ai,aj,ak,am,an,ao⟩:=af
 refine P8 _ ai<|bE H λap aq H=>To (O.cs (B8f (show N8 ae [C,D,E,G,I] ac from ⟨C,D,E,G,I,z,aj,ak,am,an,ao⟩) aq _) λa6 a8=>An z<|Sg z<|An z<|Sq ?_)
 obtain ⟨J,aw,ax⟩:=J6 H
 refine T.ck (α:=Int) [1,2] (λi=>([(5,qi i)],blk y (.cells [b,t,m,n].toArray 26)::blk A (.cells [qs,qs,qs,qs,qs].toArray 33)::L,λhh=>J=i)) ?_ ?_
 ·have H:=aw
  refine Bl<|T.lk [1,2,3] (FUEL,(1:Int),(0:Int)) (λ⟨d,e,a⟩=>([(4,qi e),(5,qi a)],blk y (.cells [b,t,m,n].toArray 26)::blk A (.cells [qs,qs,qs,qs,qs].toArray 33)::L,λhh=>iter (A6J f ap) d (e,a)=some J)) H ?_
  rintro ⟨d,e,a⟩ a9 ah ay
  obtain ⟨aA,al,rfl,H,o⟩:=G7 ay
  refine T.norm [4,5,1,2,3] z<|T.fl ?_
  refine Sq<|Sm z<|Vv (V.fa A7C z)<|Vv (V.ldO (k:=1) B1L z (j:=0) z z)<|Vv (V.Q3 B0i z x)<|Wl z z<|Mv z<|T.bH 24 H z (λH=>?_) λH=>?_
  ·refine Mv z<|Mv z<|Wl z z<|Kt z<|Mv z<|T.bH 29 H z (λH=>?_) λH=>?_
   ·refine Mv z<|Mv z<|Mv z<|bE H λav aB H=>Vv (V.Z4 z z aB)<|bE H λaz aC H=>Vv (V.A9L z z aC)<|Vv (V.le z z)<|Kt z<|Nt<|T.cH H z (λH=>?_) λH=>?_
    ·refine Ks<|Bl<|Sm z<|Mv z<|Mv z<|bE H λba aD H=>Vv (V.Z4 z z aD)<|bE H λaE aG H=>Vv (V.A9L z z aG)<|An z<|Rg<|Mv z<|bE H λaI aJ H=>Vv (V.H5 z z aJ)<|Ag z<|Ni<|Bn<|Th<|T.ag (aA,aE,aI) (D8 H o)
    refine T.exit<|Te<|Te<|have H:=D6 H o; Be<|Th<|T.mt a H
   refine S2<|S2<|S2<|Kf z<|Nt<|Cf z<|T.exit<|Te<|Te<|have H:=D6 H o; Be<|Th<|T.mt a H
  refine S2<|Sk<|Kf z<|Mv z<|S2<|S2<|S2<|Kf z<|Nt<|Cf z<|T.exit<|Te<|Te<|have H:=D6 H o; Be<|Th<|T.mt a H
 rintro i K bb aK
 have H:=I4 aK ax
 refine T.norm [5,1,2] z<|T.fl ?_
 refine Sr<|Vv (V.fa A7C z)<|Vv (V.ldO (k:=1) B1L z (j:=0) z z)<|Mv z<|bE H λM N H=>T.slM z B0i z x.u (.inl ⟨z,z⟩) (.inr ⟨_,_,z,z⟩) (A3U N).2 z λp aM bc=>?_
 have r:G6 (VI .u16) 1 K p M:=by rw [(A3U N).1]; exact aM
 refine Vv (V.fa A7C z)<|To (O.st (vs:=[p]) (k:=1) B1L z z (j:=0) z (G6.cells r) (by (simp only [BT,G6.one r]) <;> rfl) ?_)
 refine Nt<|Sr<|Vv (V.A5C (j:=0) (by exact C4G) z z) ?_
 refine bE H λbd aN H=>To (O.G5 z (B5q (show A0d K [b,p,m,n] (T9.mk q M f.O0 f.K5) from ⟨b,p,m,n,z,g.u,r,Z.u,aa.u⟩) aN _) z λbe bf bg bi aO=>?_)
 obtain ⟨aP,aS,aU,aV,aW,rfl,aX,P,S,U,W,X⟩:=aO
 refine P8 _ aX<|To (O.stF (vs:=[aP,aS,aU,aV,aW]) J9 z z (j:=1) z z (by (simp only [BT,G6.one P,G6.one S,G6.one U,G6.one W,G6.one X]) <;> rfl) z ?_)
 refine T.freeze λbj bk aY=>have aZ:=Z8.of aY; Nr<|T.drop ?_
 cases H
 exact T.rl z (RVs.cons (RV.B3m z aZ J9) RVs.nil) ⟨_,_,_,_,_,z,z,P.u,S.u,U.u,W.u,X.u⟩
theorem A9T {h b d a} (c:G6 I5 6 h b d) (H:B1h d=some a):∀ L,J2 prog 31 [b] h (L) (λv h' L'=>∃ v0_1 v0_3 v0_5 v0_7 v0_9,v=.agg #[v0_1,v0_3,v0_5,v0_7,v0_9]∧L'=L∧G6 I6 7 h' v0_1 a.C8∧G6 I9 9 h' v0_3 a.A8∧G6 L9 3 h' v0_5 a.O0∧G6 (VI .i64) 1 h' v0_7 a.S9∧G6 I5 6 h' v0_9 a.K5):=by
 intro L
 refine J2.enter func31 z z z<|Sr<|To (O.alloc A6Q z z λw=>Nt<|Sr<|Vv (V.bld (xs:=[(0,.const (.string ⟨#[114]⟩)),(1,.const (.int .u8 (1))),(2,.const (qi (4)))]) (cs:=[_,_,_,_,_,_,_]) B7Y B7V z (F6.cons z z z (F6.cons z z z (F6.cons z z z F6.nil))))<|To (O.bs O5 A1Q z (e:=z) (hk:=z) (xs:=[.tmp 3]) (hv:=CO.eq (CO.cons z CO.nil)) (hw:=O4.of z) (hd:=z) λi=>have k:A7 I6 h [[.string (⟨#[114]⟩:ByteArray),.int .u8 1,qi 4,qi 0,qs,qi 0,qi 0]] ([(D5.mk (⟨#[114]⟩:ByteArray) (1:Int) (4:Int) (0:Int) ([]:List Int) (0:Int) (0:Int))]:List D5):=(A7.cons ⟨(qs),z,G6.nil⟩ A7.nil); Vv (V.bld (xs:=[(0,.const (.string ⟨#[97,110,110,97]⟩))]) (cs:=[_,_,_,_,_,_,_,_,_]) A9G A9A z (F6.cons z z z F6.nil))<|Vv (V.bld (xs:=[(0,.const (.string ⟨#[98,111,114,105,115]⟩))]) (cs:=[_,_,_,_,_,_,_,_,_]) A9G A9A z (F6.cons z z z F6.nil))<|Vv (V.bld (xs:=[(0,.const (.string ⟨#[99,97,114,108]⟩))]) (cs:=[_,_,_,_,_,_,_,_,_]) A9G A9A z (F6.cons z z z F6.nil))<|To (O.bs O7 A1M z (e:=z) (hk:=z) (xs:=[.tmp 5,.tmp 6,.tmp 7]) (hv:=CO.eq (CO.cons z (CO.cons z (CO.cons z CO.nil)))) (hw:=O4.of z) (hd:=z) λm=>have n:A7 I9 h [[.string (⟨#[97,110,110,97]⟩:ByteArray),.string qe,.string qe,qi 0,qi 0,.string qe,.bool false,.bool false,qs],[.string (⟨#[98,111,114,105,115]⟩:ByteArray),.string qe,.string qe,qi 0,qi 0,.string qe,.bool false,.bool false,qs],[.string (⟨#[99,97,114,108]⟩:ByteArray),.string qe,.string qe,qi 0,qi 0,.string qe,.bool false,.bool false,qs]] ([(E9.mk (⟨#[97,110,110,97]⟩:ByteArray) qe qe (0:Int) (0:Int) qe false false ([]:List ByteArray)),(E9.mk (⟨#[98,111,114,105,115]⟩:ByteArray) qe qe (0:Int) (0:Int) qe false false ([]:List ByteArray)),(E9.mk (⟨#[99,97,114,108]⟩:ByteArray) qe qe (0:Int) (0:Int) qe false false ([]:List ByteArray))]:List E9):=(A7.cons ⟨(qs),z,G6.nil⟩ (A7.cons ⟨(qs),z,G6.nil⟩ (A7.cons ⟨(qs),z,G6.nil⟩ A7.nil))); Mv z<|T.R8 0 z λx o=>T.R8 1 z λy p=>Vv (V.bld (xs:=[(0,.tmp 4),(1,.tmp 8),(4,.tmp 9)]) (cs:=[_,_,_,_,_]) C4K C5I z (F6.cons z p z (F6.cons z o z (F6.cons z (G6.cells c) z F6.nil))))<|T.fs [1] ?_)))
 refine T.K3 λA B q=>have f:=A7.slc q k.u; T.K3 λC D r=>have g:=A7.slc r n.u; To (O.stF (vs:=[(.slice (some ⟨i,0,none⟩) 1 1),(.slice (some ⟨m,0,none⟩) 3 3),qs,qs,b]) J9 z z (j:=0) z z (by (simp only [BT,G6.one f,G6.one g,G6.one c]) <;> rfl) z ?_)
 refine T.freeze λE G s=>have t:=Z8.of s; Nr ?_
 cases H
 exact T.rl z (RVs.cons (RV.B3m z t J9) RVs.nil) ⟨_,_,_,_,_,z,z,f.u,g.u,G6.nil,G6.nil,c.u⟩
end Go.Proofs.X
open Go Go.Proofs Go.Proofs.Tryz Go.Sl Go.Dm
namespace Go.Proofs.X
theorem A9K:A5p prog 202=some ([.string ⟨#[]⟩,.nilFunc,.nilFunc,.nilFunc,.nilFunc,.nilFunc],[(0,1),(1,1),(2,1),(3,1),(4,1),(5,1)]):=by kernel_rfl
theorem A9X:A0E prog 202=true:=by kernel_rfl
theorem A1S:A1j prog 259=some (135,1,8):=by kernel_rfl
theorem B6N:O8 prog 139 5=some 5:=by kernel_rfl
theorem B7j:O8 prog 139 6=some 6:=by kernel_rfl
theorem C4e:O8 prog 202 1=some 1:=by kernel_rfl
theorem C4o:O8 prog 202 2=some 2:=by kernel_rfl
theorem C3v:O8 prog 202 3=some 3:=by kernel_rfl
theorem C3X:O8 prog 202 4=some 4:=by kernel_rfl
theorem B6L:U7 prog 111=some (false,1):=by kernel_rfl
theorem A5Y:U7 prog 135=some (false,1):=by kernel_rfl
theorem C0i:U7 prog 199=some (false,1):=by kernel_rfl
theorem A0C:U7 prog 202=some (true,6):=by kernel_rfl
theorem C3o:U7 prog 39=some (false,1):=by kernel_rfl
theorem C6F:zer prog 111=some (.nilFunc):=by kernel_rfl
theorem A3m:zer prog 135=some (.nilFunc):=by kernel_rfl
theorem A7y:zer prog 202=some (.agg #[.string ⟨#[]⟩,.nilFunc,.nilFunc,.nilFunc,.nilFunc,.nilFunc]):=by kernel_rfl
theorem C3x {h d f} (H:B4x d=some f):∀ L,FnW prog 214 [.string d] h L (.bool f):=by
 intro L
 refine J2.enter func214 z z z<|Sr<|An z<|Sq<|Sr<|An z ?_
 obtain ⟨g,i,e⟩:=J6 H
 have H:=i
 refine Bl<|T.lk [0] (FUEL,(0:Int)) (λ⟨a,b⟩=>([(3,qi b)],L,λhh=>iter (A4E d) a b=some g)) H ?_
 rintro ⟨a,b⟩ q r j
 obtain ⟨k,s,rfl,H,c⟩:=G7 j
 refine T.norm [3,0] z<|T.fl ?_
 refine Sq<|Sm z<|Mv z<|Vv (V.B2R underlying9 z)<|Wl z z<|Nt<|T.cH H z (λH=>?_) λH=>?_
 ·refine Ks<|Sq<|Bl<|Sm z<|Mv z<|bE H λt m H=>Vv (V.C5W underlying9 z z m)<|Wl z z<|Mv z<|T.bH 14 H z (λH=>?_) λH=>?_
  ·exact S2<|S2<|Kt z<|Nt<|Ct z<|Sg z<|Nr<|Br<|Tr<|Tr<|have H:=D6 H c; Br<|Tr<|have H:=I4 H e; E1 H
  refine Mv z<|Mv z<|bE H λu n H=>Vv (V.C5W underlying9 z z n)<|Wg z z<|Kf z<|Nt<|T.cH H z (λH=>?_) λH=>?_
  ·exact Sg z<|Nr<|Br<|Tr<|Tr<|have H:=D6 H c; Br<|Tr<|have H:=I4 H e; E1 H
  refine T.skip<|Bn<|Th<|Rg<|Mv z<|bE H λo p H=>Vv (V.H5 z z p)<|An z<|T.ag (k,o) (D8 H c)
 refine T.exit<|Te<|Te<|have H:=D6 H c; Be<|Th<|have H:=I4 H e; Sm z<|Vv (V.B2R underlying9 z)<|Vv (V.ge z z)<|Mv z<|T.bH 23 H z (λH=>?_) λH=>?_
 ·exact Mv z<|Vv (V.B2R underlying9 z)<|Vv (V.le z z)<|Kt z<|Ag z<|Nr<|E1 H
 exact S2<|Sk<|Kf z<|Ag z<|Nr<|E1 H
theorem B4t {h a b c} (H:B2b a b=some c):∀ L,FnW prog 219 [.int .i64 a,.int .i64 b] h L (.int .i64 c):=by
 intro L
 exact J2.enter func219 z z z<|Sr<|An z<|Sm z<|Mv z<|Vv (V.min2 z z)<|bE H λe d H=>Vv (V.H5 z z d)<|Ag z<|Nr<|E1 H
theorem B6s {h a b c} (H:A3H a b=some c):∀ L,FnW prog 171 [.int .i64 a,.int .i64 b] h L (.int .i64 c):=by
 intro L
 refine J2.enter func171 z z z<|Sr<|An z<|Sq<|Sm z<|Wl z z<|Mv z<|T.bH 7 H z (λH=>?_) λH=>?_
 ·exact S2<|Kt z<|Mv z<|S2<|Kt z<|Nt<|Ct z<|Sg z<|Nr<|Tr<|E1 H
 refine Mv z<|Wg z z<|Kf z<|Mv z<|T.bH 11 H z (λH=>?_) λH=>?_
 ·exact S2<|Kt z<|Nt<|Ct z<|Sg z<|Nr<|Tr<|E1 H
 refine Mv z<|Wn z z<|Kf z<|Nt<|T.cH H z (λH=>?_) λH=>?_
 ·exact Sg z<|Nr<|Tr<|E1 H
 exact Ks<|Sm z<|Ag z<|Nr<|E1 H
theorem B7u {h a b c} (H:A4k a b=some c):∀ L,FnW prog 176 [.int .i64 a,.int .i64 b] h L (.int .i64 c):=by
 intro L
 refine J2.enter func176 z z z<|Sr<|An z<|Sq<|Sm z<|Wl z z<|Mv z<|T.bH 7 H z (λH=>?_) λH=>?_
 ·exact S2<|Kt z<|Mv z<|S2<|Kt z<|Mv z<|S2<|Kt z<|Nt<|Ct z<|Sg z<|Nr<|Tr<|E1 H
 refine Mv z<|Wg z z<|Kf z<|Mv z<|T.bH 11 H z (λH=>?_) λH=>?_
 ·exact S2<|Kt z<|Mv z<|S2<|Kt z<|Nt<|Ct z<|Sg z<|Nr<|Tr<|E1 H
 refine Mv z<|Wl z z<|Kf z<|Mv z<|T.bH 15 H z (λH=>?_) λH=>?_
 ·exact S2<|Kt z<|Nt<|Ct z<|Sg z<|Nr<|Tr<|E1 H
 refine Mv z<|Wg z z<|Kf z<|Nt<|T.cH H z (λH=>?_) λH=>?_
 ·exact Sg z<|Nr<|Tr<|E1 H
 exact Ks<|Sm z<|bE H λf d H=>Vv (V.A9L z z d)<|Mv z<|bE H λg e H=>Vv (V.H5 z z e)<|Ag z<|Nr<|E1 H
theorem B7I {h a b c} (H:A4x a b=some c):∀ L,FnW prog 181 [.int .i64 a,.int .i64 b] h L (.int .i64 c):=by
 intro L
 refine J2.enter func181 z z z<|Sr<|An z<|Sq<|Sm z<|Wl z z<|Mv z<|T.bH 7 H z (λH=>?_) λH=>?_
 ·exact S2<|Kt z<|Mv z<|S2<|Kt z<|Mv z<|S2<|Kt z<|Nt<|Ct z<|Sg z<|Nr<|Tr<|E1 H
 refine Mv z<|Wg z z<|Kf z<|Mv z<|T.bH 11 H z (λH=>?_) λH=>?_
 ·exact S2<|Kt z<|Mv z<|S2<|Kt z<|Nt<|Ct z<|Sg z<|Nr<|Tr<|E1 H
 refine Mv z<|Wl z z<|Kf z<|Mv z<|T.bH 15 H z (λH=>?_) λH=>?_
 ·exact S2<|Kt z<|Nt<|Ct z<|Sg z<|Nr<|Tr<|E1 H
 refine Mv z<|Wg z z<|Kf z<|Nt<|T.cH H z (λH=>?_) λH=>?_
 ·exact Sg z<|Nr<|Tr<|E1 H
 exact Ks<|Sm z<|Mv z<|bE H λf d H=>Vv (V.A9L z z d)<|bE H λg e H=>Vv (V.H5 z z e)<|Ag z<|Nr<|E1 H
theorem B8p {h a b c} (H:A5f a b=some c):∀ L,FnW prog 186 [.int .i64 a,.int .i64 b] h L (.int .i64 c):=by
 intro L
 refine J2.enter func186 z z z<|Sr<|An z<|Sq<|Sm z<|Wl z z<|Mv z<|T.bH 7 H z (λH=>?_) λH=>?_
 ·exact S2<|Kt z<|Mv z<|S2<|Kt z<|Mv z<|S2<|Sk<|Kt z<|Nt<|Ct z<|Sg z<|Nr<|Tr<|E1 H
 refine Mv z<|Wg z z<|Kf z<|Mv z<|T.bH 11 H z (λH=>?_) λH=>?_
 ·exact S2<|Kt z<|Mv z<|S2<|Sk<|Kt z<|Nt<|Ct z<|Sg z<|Nr<|Tr<|E1 H
 refine Mv z<|Wl z z<|Kf z<|Mv z<|T.bH 15 H z (λH=>?_) λH=>?_
 ·exact S2<|Sk<|Kt z<|Nt<|Ct z<|Sg z<|Nr<|Tr<|E1 H
 refine Mv z<|Mv z<|Wg z z<|Kf z<|Nt<|T.cH H z (λH=>?_) λH=>?_
 ·exact Sg z<|Nr<|Tr<|E1 H
 exact Ks<|Sm z<|Ag z<|Nr<|E1 H
theorem B5i {h a b c d e} (H:A2V a b c d=some e):∀ L,FnW prog 172 [.int .i64 a,.int .i64 b,.int .i64 c,.int .i64 d] h L (.bool e):=by
 intro L
 refine J2.enter func172 z z z<|Sr<|An z<|Sm z<|Mv z<|bE H λj f H=>Vv (V.Z4 z z f)<|We z z<|Mv z<|T.bH 13 H z (λH=>?_) λH=>?_
 ·exact S2<|S2<|S2<|Kt z<|Ag z<|Nr<|E1 H
 exact Mv z<|Mv z<|bE H λk g H=>Vv (V.Z4 z z g)<|Mv z<|bE H λm i H=>Vv (V.Z4 z z i)<|We z z<|Kf z<|Ag z<|Nr<|E1 H
theorem B5g {h a b c d e} (H:A2W a b c d=some e):∀ L,FnW prog 173 [.int .i64 a,.int .i64 b,.int .i64 c,.int .i64 d] h L (.bool e):=by
 intro L
 refine J2.enter func173 z z z<|Sr<|An z<|Sm z<|bE H λj f H=>Vv (V.A1d z z f)<|We z z<|Mv z<|T.bH 12 H z (λH=>?_) λH=>?_
 ·exact Mv z<|Mv z<|bE H λk g H=>Vv (V.Z4 z z g)<|Mv z<|bE H λm i H=>Vv (V.B3Z z z i)<|We z z<|Kt z<|Ag z<|Nr<|E1 H
 exact S2<|S2<|S2<|Kf z<|Ag z<|Nr<|E1 H
theorem B6b {h e g f d i} (H:A3D e g f d=some i):∀ L,FnW prog 177 [.int .i64 e,.int .i64 g,.int .i64 f,.int .i64 d] h L (.bool i):=by
 intro L
 refine J2.enter func177 z z z<|Sr<|An z<|Sm z<|Mv z<|bE H λK j H=>To (O.cs (B4t j _) λN S=>An z<|Sq<|Bl<|Sq ?_)
 obtain ⟨n,o,p⟩:=J6 H
 refine T.ck (α:=Bool) [0,1,2,3,9] (λa=>([(13,.bool a)],L,λhh=>n=a)) ?_ ?_
 ·have H:=o
  refine Rg<|Mv z<|We z z<|Mv z<|T.bH 16 H z (λH=>?_) λH=>?_
  ·refine Mv z<|Mv z<|bE H λU q H=>Vv (V.A9L z z q)<|bE H λr s H=>Vv (V.H5 z z s)<|We z z<|Kt z<|An z<|T.mt (decide (d=r)) (M0 H)
  refine S2<|S2<|Sk<|Kf z<|An z<|T.mt false (M0 H)
 rintro a W X t
 have H:=I4 t p
 refine T.norm [13,0,1,2,3,9] z<|T.fl ?_
 refine T.cH H z (λH=>?_) λH=>?_
 ·refine Sq ?_
  obtain ⟨u,w,x⟩:=J6 H
  refine T.ck (α:=Bool) [] (λb=>([(8,.bool b)],L,λhh=>u=b)) ?_ ?_
  ·have H:=w
   refine Rg<|Mv z<|We z z<|Mv z<|T.bH 25 H z (λH=>?_) λH=>?_
   ·refine S2<|S2<|Kt z<|An z<|T.mt true (M0 H)
   refine Mv z<|Mv z<|bE H λy A H=>Vv (V.Z4 z z A)<|We z z<|Kf z<|An z<|T.mt (decide (f=y)) (M0 H)
  rintro b Y Z B
  have H:=I4 B x
  refine T.norm [8] z<|T.fl ?_
  exact T.ret<|Br<|Tr<|E1 H
 refine Sq ?_
 obtain ⟨C,D,E⟩:=J6 H
 refine T.ck (α:=Bool) [0,2,3,9] (λc=>([(31,.bool c)],L,λhh=>C=c)) ?_ ?_
 ·have H:=D
  refine Rg<|Mv z<|Wg z z<|Mv z<|T.bH 34 H z (λH=>?_) λH=>?_
  ·refine Mv z<|Mv z<|We z z<|Mv z<|T.bH 38 H z (λH=>?_) λH=>?_
   ·refine S2<|Sk<|Kt z<|Kt z<|An z<|T.mt true (M0 H)
   refine Mv z<|Mv z<|We z z<|Kf z<|Kt z<|An z<|T.mt (decide (d=e)) (M0 H)
  refine S2<|S2<|S2<|S2<|Kf z<|An z<|T.mt false (M0 H)
 rintro c aa ab G
 have H:=I4 G E
 refine T.norm [31,0,2,3,9] z<|T.fl ?_
 refine T.cH H z (λH=>?_) λH=>?_
 ·exact Sm z<|Mv z<|bE H λac I H=>Vv (V.Z4 z z I)<|We z z<|Ag z<|Nr<|Br<|Tr<|E1 H
 refine T.skip<|Bn<|Th<|Sm z<|Mv z<|bE H λad J H=>Vv (V.Z4 z z J)<|We z z<|Mv z<|T.bH 52 H z (λH=>?_) λH=>?_
 ·refine Mv z<|Mv z<|Wl z z<|Mv z<|T.bH 56 H z (λH=>?_) λH=>?_
  ·exact S2<|Sk<|Kt z<|Kt z<|Ag z<|Nr<|E1 H
  exact Mv z<|Mv z<|Vv (V.ge z z)<|Kf z<|Kt z<|Ag z<|Nr<|E1 H
 exact S2<|S2<|S2<|S2<|Kf z<|Ag z<|Nr<|E1 H
theorem B6n {h c d e b f} (H:A3A c d e b=some f):∀ L,FnW prog 178 [.int .i64 c,.int .i64 d,.int .i64 e,.int .i64 b] h L (.bool f):=by
 intro L
 refine J2.enter func178 z z z<|Sr<|An z<|Sq<|Sq ?_
 obtain ⟨g,i,j⟩:=J6 H
 refine T.ck (α:=Bool) [0,1,2,3] (λa=>([(17,.bool a)],L,λhh=>g=a)) ?_ ?_
 ·have H:=i
  refine Rg<|Mv z<|We z z<|Mv z<|T.bH 11 H z (λH=>?_) λH=>?_
  ·refine Mv z<|Mv z<|bE H λw k H=>Vv (V.A9L z z k)<|bE H λm n H=>Vv (V.H5 z z n)<|We z z<|Kt z<|Nt<|T.mt (decide (b=m)) (M0 H)
  refine S2<|S2<|Sk<|Kf z<|Nt<|T.mt false (M0 H)
 rintro a x y o
 have H:=I4 o j
 refine T.norm [17,0,1,2,3] z<|T.fl ?_
 refine T.cH H z (λH=>?_) λH=>?_
 ·exact Sm z<|Mv z<|We z z<|Ag z<|Nr<|Tr<|E1 H
 refine Ks<|Sm z<|Mv z<|Wl z z<|Mv z<|T.bH 24 H z (λH=>?_) λH=>?_
 ·exact Mv z<|Mv z<|bE H λA p H=>Vv (V.H5 z z p)<|Mv z<|Mv z<|bE H λB q H=>To (O.cs (B4t q _) λD G=>Mv z<|bE H λI t H=>Vv (V.H5 z z t)<|bE H λJ u H=>Vv (V.Z4 z z u)<|We z z<|Kt z<|Ag z<|Nr<|E1 H)
 exact S2<|S2<|S2<|S2<|S2<|Kf z<|Ag z<|Nr<|E1 H
theorem B6C {h a b c} (H:A3E a b=some c):∀ L,FnW prog 179 [.int .i64 a,.int .i64 b] h L (.int .i64 c):=by
 intro L
 refine J2.enter func179 z z z<|Sr<|An z<|Sq<|Sm z<|Wg z z<|Nt<|T.cH H z (λH=>?_) λH=>?_
 ·exact Sm z<|Ag z<|Nr<|Tr<|E1 H
 exact Ks<|Sm z<|bE H λe d H=>Vv (V.B3Z z z d)<|Ag z<|Nr<|E1 H
theorem B6g {h a b c d e} (H:A3K a b c d=some e):∀ L,FnW prog 182 [.int .i64 a,.int .i64 b,.int .i64 c,.int .i64 d] h L (.bool e):=by
 intro L
 exact J2.enter func182 z z z<|Sr<|An z<|Sm z<|Mv z<|bE H λg f H=>Vv (V.Z4 z z f)<|We z z<|Ag z<|Nr<|E1 H
theorem B6v {h a b c d e} (H:A3z a b c d=some e):∀ L,FnW prog 183 [.int .i64 a,.int .i64 b,.int .i64 c,.int .i64 d] h L (.bool e):=by
 intro L
 refine J2.enter func183 z z z<|Sr<|An z<|Sm z<|Mv z<|Wl z z<|Mv z<|T.bH 12 H z (λH=>?_) λH=>?_
 ·exact Mv z<|Mv z<|bE H λk f H=>Vv (V.H5 z z f)<|Mv z<|Mv z<|bE H λm g H=>Vv (V.A9L z z g)<|bE H λn i H=>Vv (V.H5 z z i)<|bE H λo j H=>Vv (V.Z4 z z j)<|We z z<|Kt z<|Ag z<|Nr<|E1 H
 exact S2<|S2<|S2<|S2<|Sk<|Kf z<|Ag z<|Nr<|E1 H
theorem B7J {h a b c d e} (H:A4z a b c d=some e):∀ L,FnW prog 187 [.int .i64 a,.int .i64 b,.int .i64 c,.int .i64 d] h L (.bool e):=by
 intro L
 refine J2.enter func187 z z z<|Sr<|An z<|Sm z<|Mv z<|bE H λi f H=>Vv (V.Z4 z z f)<|We z z<|Mv z<|T.bH 13 H z (λH=>?_) λH=>?_
 ·refine Mv z<|We z z<|Mv z<|T.bH 16 H z (λH=>?_) λH=>?_
  ·exact S2<|S2<|Kt z<|Kt z<|Ag z<|Nr<|E1 H
  exact Mv z<|Mv z<|bE H λj g H=>Vv (V.A1d z z g)<|Wn z z<|Kf z<|Kt z<|Ag z<|Nr<|E1 H
 exact S2<|S2<|S2<|S2<|Kf z<|Ag z<|Nr<|E1 H
theorem B2Y {h a b} (H:A6u a=some b):∀ L,FnW prog 223 [.int .i64 a] h L (.int .i64 b):=by
 intro L
 exact J2.enter func223 z z z<|Sr<|An z<|Sm z<|Ag z<|Nr<|E1 H
theorem C3P {h a b c} (H:B8F a b=some c):∀ L,FnW prog 174 [.int .i64 a,.int .i64 b] h L (.int .i64 c):=by
 intro L
 exact J2.enter func174 z z z<|Sr<|An z<|Sg z<|Nr<|E1 H
theorem C4f {h a b c} (H:B4A a b=some c):∀ L,FnW prog 184 [.int .i64 a,.int .i64 b] h L (.int .i64 c):=by
 intro L
 exact J2.enter func184 z z z<|Sr<|An z<|Sm z<|Mv z<|bE H λf d H=>Vv (V.B3Z z z d)<|bE H λg e H=>Vv (V.H5 z z e)<|Ag z<|Nr<|E1 H
theorem C3u {h a b c d e} (H:B8o a b c d=some e):∀ L,FnW prog 188 [.int .i64 a,.int .i64 b,.int .i64 c,.int .i64 d] h L (.bool e):=by
 intro L
 exact J2.enter func188 z z z<|Sr<|An z<|Sg z<|Nr<|E1 H
theorem C4y {h a b c} (H:B4R a b=some c):∀ L,FnW prog 189 [.int .i64 a,.int .i64 b] h L (.int .i64 c):=by
 intro L
 exact J2.enter func189 z z z<|Sr<|An z<|Sm z<|bE H λe d H=>Vv (V.B3Z z z d)<|Ag z<|Nr<|E1 H
theorem B4Y {h a b c d e f g i} (j:Z8 h b c) (k:(VI .i64) h c d) (m:Z8 h e f) (n:(VI .i64) h f g) (H:A7u a d g=some i):∀ L,FnW prog 217 [.int .i64 a,.pointer (some b),.pointer (some e)] h L (.int .i64 i):=by
 intro L
 obtain rfl:=k
 obtain rfl:=n
 exact J2.enter func217 z z z<|Sr<|An z<|Sm z<|Vv (V.R5 D7 z j z)<|bE H λq o H=>Vv (V.H5 z z o)<|Vv (V.R5 D7 z m z)<|bE H λr p H=>Vv (V.A1d z z p)<|Ag z<|Nr<|E1 H
theorem B5d {h a b c d e f g i} (k:Z8 h b c) (m:(VI .i64) h c d) (j:Z8 h e f) (n:(VI .i64) h f g) (H:A7w a d g=some i):∀ L,FnW prog 218 [.int .i64 a,.pointer (some b),.pointer (some e)] h L (.int .i64 i):=by
 intro L
 obtain rfl:=m
 obtain rfl:=n
 exact J2.enter func218 z z z<|Sr<|An z<|Sr<|Vv (V.R5 D7 z k z)<|Mv z<|bE H λr o H=>Vv (V.Z4 z z o)<|Vv (V.R5 D7 z j z)<|bE H λs p H=>Vv (V.H5 z z p)<|Vv (V.R5 D7 z j z)<|bE H λt q H=>Vv (V.A1d z z q)<|Ag z<|Nr<|E1 H
theorem B6E {h d q r} (H:A8Z d q=some r):∀ L,J2 prog 175 [.int .i64 d,.int .i64 q] h (L) (λv h' L'=>L'=L∧G6 A3C 1 h' v r):=by
 intro L
 refine J2.enter func175 z z z<|Sr<|To (O.U4 z z z λb C ac m=>An z<|Sr<|An z<|Sq<|Sr<|Vv (V.R5 D7 z m z)<|Mv z<|Nt ?_)
 obtain ⟨D,E,G⟩:=J6 H
 have H:=E
 refine Bl<|T.Q8 135 1<|have I:A7 A3C C [] ([]:List (Int→Option Int)):=A7.nil; T.lk [2,7] (FUEL,([]:List (Int→Option Int)),(0:Int),(qs),[]) (λ⟨g,i,a,k,f⟩=>([(5,k),(8,qi a)],F3 135 1 k f::L,λhh=>iter (B0u d) g (i,a)=some D∧A7 A3C hh f i)) ⟨H,I⟩ ?_
 rintro ⟨g,i,a,k,f⟩ ad ae ⟨J,n⟩
 obtain ⟨K,af,rfl,H,s⟩:=G7 J
 refine T.norm [5,8,2,7] z<|T.fl ?_
 refine Sr<|Wl z z<|Nt<|Sq<|T.cH H z (λH=>?_) λH=>?_
 ·refine Ks<|Sq<|Bl<|Sm z<|To (O.alloc J7 z z λc=>To (O.stF (vs:=[qi a]) D7 z z (j:=0) z z z z<|T.freeze λt ai M=>have w:=Z8.of M; Nt<|Rg<|Mv z<|Vv (V.mkf z z)<|Vv (V.mkf z z)<|To (O.bs A1S A3m z (e:=z) (hk:=z) (xs:=[.tmp 12,.tmp 13]) (hv:=CO.eq (CO.cons z (CO.cons z CO.nil))) (hw:=O4.of z) (hd:=z) λaj=>have o:A7 A3C t [[.func (.func 217) #[] #[qp c,qp b]],[.func (.func 218) #[] #[qp c,qp b]]] ([(λp=>A7u p a d),(λp=>A7w p a d)]:List (Int→Option Int)):=(A7.cons ⟨(.func (.func 217) #[] #[qp c,qp b]),z,⟨⟨z,z⟩,.inr ⟨217,[],[qp c,qp b],z,λx ak am an N P=>B4Y w.u (show (VI .i64) x [qi a] a from z) m.u (show (VI .i64) x [qi d] d from z) N P⟩⟩⟩ (A7.cons ⟨(.func (.func 218) #[] #[qp c,qp b]),z,⟨⟨z,z⟩,.inr ⟨218,[],[qp c,qp b],z,λy ao aq ar S U=>B5d w.u (show (VI .i64) y [qi a] a from z) m.u (show (VI .i64) y [qi d] d from z) S U⟩⟩⟩ A7.nil)); bE H λA B H=>To (O.apX A1S A1S A3m z z z (j:=1) z (Src.row (j:=0) z) (O4.of z) (A7.ones A3C.plain o) n.u o B z λW au aw=>have X:A7 A3C t (f++[[.func (.func 217) #[] #[qp c,qp b]],[.func (.func 218) #[] #[qp c,qp b]]]) A:=A7.ap n.u o B; Fr_ 1 z<|T.drop<|Ag z<|Ni<|Bn<|Th<|Rg<|bE H λY Z H=>Vv (V.H5 z z Z)<|Mv z<|Nt<|T.ag (K,A,Y,W,(f++[[.func (.func 217) #[] #[qp c,qp b]],[.func (.func 218) #[] #[qp c,qp b]]])) ⟨(D8 H s),X⟩))))
 refine T.exit<|Te<|Te<|have H:=D6 H s; Be<|Th<|have H:=I4 H G; Sm z<|Ag z<|Nr<|T.K3 λax ay aa=>have ab:=A7.slc aa n.u; ?_
 cases H
 exact T.rl z (Rv z) ⟨z,ab⟩
theorem A3t {h c d e f g i j k} (a:Z8 h d e) (m:(VI .i64) h e f) (b:Z8 h g i) (n:(VI .i64) h i j) (H:R9 c f j=some k):∀ L,FnW prog 220 [.int .i64 c,.pointer (some d),.pointer (some g)] h L (.bool k):=by
 intro L
 obtain rfl:=m
 obtain rfl:=n
 refine J2.enter func220 z z z<|Sr<|An z<|Sr<|Vv (V.R5 D7 z a z)<|Wg z z<|Mv z<|T.bH 7 H z (λH=>?_) λH=>?_
 ·refine Mv z<|Vv (V.R5 D7 z b z)<|We z z<|Kt z<|Mv z<|T.bH 12 H z (λH=>?_) λH=>?_
  ·exact S2<|S2<|S2<|S2<|Sk<|Kt z<|Ag z<|Nr<|E1 H
  refine Vv (V.R5 D7 z a z)<|We z z<|Mv z<|T.bH 15 H z (λH=>?_) λH=>?_
  ·exact Mv z<|Vv (V.R5 D7 z b z)<|bE H λs o H=>Vv (V.A9L z z o)<|bE H λt p H=>Vv (V.H5 z z p)<|We z z<|Kt z<|Kf z<|Ag z<|Nr<|E1 H
  exact S2<|S2<|Sk<|Kf z<|Kf z<|Ag z<|Nr<|E1 H
 refine S2<|Sk<|Kf z<|Mv z<|Vv (V.R5 D7 z a z)<|We z z<|Mv z<|T.bH 15 H z (λH=>?_) λH=>?_
 ·exact Mv z<|Vv (V.R5 D7 z b z)<|bE H λu q H=>Vv (V.A9L z z q)<|bE H λw r H=>Vv (V.H5 z z r)<|We z z<|Kt z<|Kf z<|Ag z<|Nr<|E1 H
 exact S2<|S2<|Sk<|Kf z<|Kf z<|Ag z<|Nr<|E1 H
theorem A9R {h a b c d e f g i j k m} (n:Z8 h b c) (o:C2R h c d) (p:Z8 h e f) (q:(VI .i64) h f g) (r:Z8 h i j) (s:(VI .i64) h j k) (H:A1o a d g k=some m):∀ L,FnW prog 221 [.int .i64 a,.pointer (some b),.pointer (some e),.pointer (some i)] h L (.int .i64 m):=by
 intro L
 obtain ⟨G,rfl,t⟩:=o
 obtain rfl:=q
 obtain rfl:=s
 refine J2.enter func221 z z z<|Sr<|An z<|Sq<|Sr<|Vv (V.R5 B6L z n z)<|Mv z<|bE H λI w H=>?_
 obtain ⟨J,K,M,x,y⟩:=A2E.call t w
 refine To (O.A1l z x z (y _) z λN P S U A=>?_)
 obtain ⟨rfl,B⟩:=A
 refine P8 _ B<|Nt<|T.cH H z (λH=>?_) λH=>?_
 ·exact Sm z<|Ag z<|Nr<|Tr<|E1 H
 exact Ks<|Sr<|Vv (V.R5 D7 z p.u z)<|Vv (V.R5 D7 z r.u z)<|bE H λW C H=>Vv (V.H5 z z C)<|bE H λX D H=>Vv (V.Z4 z z D)<|Mv z<|bE H λY E H=>Vv (V.Z4 z z E)<|Ag z<|Nr<|E1 H
theorem B0w {h b c d e f g i j k m n} (o:Z8 h c d) (p:C2R h d e) (a:Z8 h f g) (q:(VI .i64) h g i) (r:Z8 h j k) (s:(VI .i64) h k m) (H:A2f b e i m=some n):∀ L,FnW prog 222 [.int .i64 b,.pointer (some c),.pointer (some f),.pointer (some j)] h L (.int .i64 n):=by
 intro L
 obtain ⟨P,rfl,t⟩:=p
 obtain rfl:=q
 obtain rfl:=s
 refine J2.enter func222 z z z<|Sr<|An z<|Sq<|Bl<|Sr<|Vv (V.R5 B6L z o z)<|Mv z<|bE H λS w H=>?_
 obtain ⟨U,W,X,x,y⟩:=A2E.call t w
 refine To (O.A1l z x z (y _) z λY Z aa ab A=>?_)
 obtain ⟨rfl,B⟩:=A
 refine P8 _ B<|An z<|T.cH H z (λH=>?_) λH=>?_
 ·exact Sr<|Vv (V.R5 D7 z a.u z)<|bE H λac C H=>Vv (V.A9L z z C)<|bE H λad D H=>Vv (V.H5 z z D)<|Mv z<|bE H λae E H=>Vv (V.Z4 z z E)<|Ag z<|Nr<|Br<|Tr<|E1 H
 refine Sm z<|Vv (V.R5 D7 z a.u z)<|Wl z z<|An z<|T.cH H z (λH=>?_) λH=>?_
 ·exact Sr<|Vv (V.R5 D7 z a.u z)<|bE H λaf G H=>Vv (V.Z4 z z G)<|Mv z<|bE H λag I H=>Vv (V.Z4 z z I)<|Ag z<|Nr<|Br<|Tr<|E1 H
 exact T.skip<|Bn<|Th<|Sr<|Vv (V.R5 D7 z r.u z)<|bE H λai J H=>Vv (V.A9L z z J)<|Vv (V.R5 D7 z a.u z)<|bE H λaj K H=>Vv (V.H5 z z K)<|bE H λak M H=>Vv (V.Z4 z z M)<|Mv z<|bE H λam N H=>Vv (V.Z4 z z N)<|Ag z<|Nr<|E1 H
theorem B6H {h a b c d e f i j} (k:Z8 h b c) (m:A3C h c d) (n:Z8 h e f) (o:A3C h f i) (H:A9c a d i=some j):∀ L,FnW prog 224 [.int .i64 a,.pointer (some b),.pointer (some e)] h L (.int .i64 j):=by
 intro L
 obtain ⟨I,rfl,p⟩:=m
 obtain ⟨J,rfl,q⟩:=o
 refine J2.enter func224 z z z<|Sr<|An z<|Sq<|T.N7 (t:=(.vs [0,1,2] (.alt 3 (.alt 4 (.alt 5 .done .no) .no) .no))) 7 0 0 z z H9 (by kernel_rfl) ?_
 refine Tv z (V.R5 A5Y z k z)<|Tv z (V.R5 A5Y z n z)<|Tm z z<|bE H λK r H=>?_
 obtain ⟨M,N,P,s,w⟩:=A9f.call q r
 refine Tp z z (X2 z z) (O.A1l z s z (w _) z λS x U W y=>?_) T.P6
 obtain ⟨rfl,A⟩:=y
 refine P8 _ A<|bE H λX B H=>?_
 obtain ⟨Y,Z,aa,C,D⟩:=A9f.call (p.u (g:=x)) B
 refine Tp z z (SX.two (XA.fr [] Li z) (XA.fr [] Li z)) (O.A1l z C z (D _) z λab ac ad ae E=>?_) T.P6
 obtain ⟨rfl,G⟩:=E
 refine P8 _ G<|Ts z z (SX.two (XA.fr [] Li z) (XA.fr [] Li z)) (V.asg z) z ?_ T.P6
 exact T.O6 (SX.two (XA.fr [] Li z) (XA.fr [] Li z))<|Th<|T.ret<|E1 H
theorem B7K {h a d x} (H:B0s a d=some x):∀ L,J2 prog 180 [.int .i64 a,.int .i64 d] h (L) (λv h' L'=>L'=L∧G6 A3C 1 h' v x):=by
 intro L
 refine J2.enter func180 z z z<|Sr<|To (O.U4 z z z λc aO aP m=>To (O.U4 z z z λk aS aU o=>An z<|Sr<|Vv (V.R5 D7 z m.u z)<|Vv (V.R5 D7 z o z)<|bE H λi P H=>To (O.cs (B4t P _) λaW aY=>To (O.alloc J7 z z λf=>To (O.stF (vs:=[qi i]) D7 z z (j:=0) z z z z<|T.freeze λaZ a0 W=>have p:=Z8.of W; Nt<|Sr<|Vv (V.mkf z z)<|To (O.alloc C6F z z λg=>To (O.stF (vs:=[.func (.func 220) #[] #[qp k,qp c]]) B6L z z (j:=0) z z z z<|T.freeze λa1 a2 X=>have q:=Z8.of X; Nt<|Sr<|Vv (V.mkf z z)<|To (O.alloc A3m z z λr=>To (O.stF (vs:=[.func (.func 221) #[] #[qp g,qp f,qp c]]) A5Y z z (j:=0) z z z z<|T.freeze λa3 a4 Y=>have y:=Z8.of Y; Nt<|Sr<|Vv (V.mkf z z)<|To (O.alloc A3m z z λs=>To (O.stF (vs:=[.func (.func 222) #[] #[qp g,qp c,qp f]]) A5Y z z (j:=0) z z z z<|T.freeze λn a5 Z=>have A:=Z8.of Z; Nt<|Sr<|Vv (V.R5 A5Y z y.u z)<|To (O.bs A1S A3m z (e:=z) (hk:=z) (xs:=[.func 223,.tmp 16]) (hv:=CO.eq (CO.cons z (CO.cons z CO.nil))) (hw:=O4.of z) (hd:=z) λa6=>have t:A7 A3C n [[.func (.func 223) #[] #[]],[.func (.func 221) #[] #[qp g,qp f,qp c]]] ([A6u,(λb=>A1o b (λb=>R9 b d a) i a)]:List (Int→Option Int)):=(A7.cons ⟨(.func (.func 223) #[] #[]),z,⟨⟨z,z⟩,.inr ⟨223,[],[],z,λa7 a8 a9 ah aa ab=>B2Y aa ab⟩⟩⟩ (A7.cons ⟨(.func (.func 221) #[] #[qp g,qp f,qp c]),z,⟨⟨z,z⟩,.inr ⟨221,[],[qp g,qp f,qp c],z,λB ac al av ad ae=>A9R q.u ⟨(.func (.func 220) #[] #[qp k,qp c]),z,(A2E.mono (show A2E n (.func (.func 220) #[] #[qp k,qp c]) (λb=>R9 b d a) from ⟨⟨z,z⟩,.inr ⟨220,[],[qp k,qp c],z,λC az ba bb af ag=>A3t o.u (show (VI .i64) C [qi d] d from z) m.u (show (VI .i64) C [qi a] a from z) af ag⟩⟩) ac)⟩ p.u (show (VI .i64) B [qi i] i from z) m.u (show (VI .i64) B [qi a] a from z) ad ae⟩⟩⟩ A7.nil)); An z<|Sq<|Sr<|Vv (V.R5 D7 z o.u z)<|Wn z z<|Nt<|T.cH H z (λH=>?_) λH=>?_))))))))))))
 ·refine Rg<|Mv z<|Vv (V.R5 A5Y z A z)<|Vv (V.mkf z z)<|To (O.bs A1S A3m z (e:=z) (hk:=z) (xs:=[.tmp 21,.tmp 22]) (hv:=CO.eq (CO.cons z (CO.cons z CO.nil))) (hw:=O4.of z) (hd:=z) λbc=>have w:A7 A3C n [[.func (.func 222) #[] #[qp g,qp c,qp f]],[.func (.func 224) #[] #[qp r,qp s]]] ([(λb=>A2f b (λb=>R9 b d a) a i),(λb=>A9c b (λb=>A1o b (λb=>R9 b d a) i a) (λb=>A2f b (λb=>R9 b d a) a i))]:List (Int→Option Int)):=(A7.cons ⟨(.func (.func 222) #[] #[qp g,qp c,qp f]),z,⟨⟨z,z⟩,.inr ⟨222,[],[qp g,qp c,qp f],z,λD ai bd be aj ak=>B0w q.u ⟨(.func (.func 220) #[] #[qp k,qp c]),z,(A2E.mono (show A2E n (.func (.func 220) #[] #[qp k,qp c]) (λb=>R9 b d a) from ⟨⟨z,z⟩,.inr ⟨220,[],[qp k,qp c],z,λE bf bg bi am an=>A3t o.u (show (VI .i64) E [qi d] d from z) m.u (show (VI .i64) E [qi a] a from z) am an⟩⟩) ai)⟩ m.u (show (VI .i64) D [qi a] a from z) p.u (show (VI .i64) D [qi i] i from z) aj ak⟩⟩⟩ (A7.cons ⟨(.func (.func 224) #[] #[qp r,qp s]),z,⟨⟨z,z⟩,.inr ⟨224,[],[qp r,qp s],z,λbj G bk bm ao aq=>B6H y.u ⟨(.func (.func 221) #[] #[qp g,qp f,qp c]),z,(A9f.mono (show A9f n (.func (.func 221) #[] #[qp g,qp f,qp c]) (λb=>A1o b (λb=>R9 b d a) i a) from ⟨⟨z,z⟩,.inr ⟨221,[],[qp g,qp f,qp c],z,λI ar bn bo au aw=>A9R q.u ⟨(.func (.func 220) #[] #[qp k,qp c]),z,(A2E.mono (show A2E n (.func (.func 220) #[] #[qp k,qp c]) (λb=>R9 b d a) from ⟨⟨z,z⟩,.inr ⟨220,[],[qp k,qp c],z,λJ bp bq br ax ay=>A3t o.u (show (VI .i64) J [qi d] d from z) m.u (show (VI .i64) J [qi a] a from z) ax ay⟩⟩) ar)⟩ p.u (show (VI .i64) I [qi i] i from z) m.u (show (VI .i64) I [qi a] a from z) au aw⟩⟩) G)⟩ A.u ⟨(.func (.func 222) #[] #[qp g,qp c,qp f]),z,(A9f.mono (show A9f n (.func (.func 222) #[] #[qp g,qp c,qp f]) (λb=>A2f b (λb=>R9 b d a) a i) from ⟨⟨z,z⟩,.inr ⟨222,[],[qp g,qp c,qp f],z,λK aA bt bu aB aC=>B0w q.u ⟨(.func (.func 220) #[] #[qp k,qp c]),z,(A2E.mono (show A2E n (.func (.func 220) #[] #[qp k,qp c]) (λb=>R9 b d a) from ⟨⟨z,z⟩,.inr ⟨220,[],[qp k,qp c],z,λM bw bx bA aD aE=>A3t o.u (show (VI .i64) M [qi d] d from z) m.u (show (VI .i64) M [qi a] a from z) aD aE⟩⟩) aA)⟩ m.u (show (VI .i64) K [qi a] a from z) p.u (show (VI .i64) K [qi i] i from z) aB aC⟩⟩) G)⟩ ao aq⟩⟩⟩ A7.nil)); bE H λaG N H=>To (O.apX A1S A1S A3m z z z (j:=1) z (Src.row (j:=0) z) (O4.of z) (A7.ones A3C.plain w) t w N z λbB bC bD=>have aI:A7 A3C n ([[.func (.func 223) #[] #[]],[.func (.func 221) #[] #[qp g,qp f,qp c]]]++[[.func (.func 222) #[] #[qp g,qp c,qp f]],[.func (.func 224) #[] #[qp r,qp s]]]) aG:=A7.ap t w N; Fr_ 1 z<|T.drop<|An z<|Sm z<|Ag z<|Nr<|T.K3 λbG bI aJ=>have aK:=A7.slc aJ aI.u; ?_))
  cases H
  exact T.rl z (Rv z) ⟨z,aK⟩
 refine Ks<|Sm z<|Ag z<|Nr<|T.K3 λbJ bK aM=>have aN:=A7.slc aM t.u; ?_
 cases H
 exact T.rl z (Rv z) ⟨z,aN⟩
theorem B6w {h a b c d e f g i} (j:Z8 h b c) (k:(VI .i64) h c d) (m:Z8 h e f) (n:(VI .i64) h f g) (H:A8X a d g=some i):∀ L,FnW prog 225 [.int .i64 a,.pointer (some b),.pointer (some e)] h L (.int .i64 i):=by
 intro L
 obtain rfl:=k
 obtain rfl:=n
 exact J2.enter func225 z z z<|Sr<|An z<|Sr<|Vv (V.R5 D7 z j z)<|Vv (V.R5 D7 z m z)<|bE H λs o H=>Vv (V.A9L z z o)<|bE H λt p H=>Vv (V.H5 z z p)<|bE H λu q H=>Vv (V.Z4 z z q)<|Mv z<|bE H λw r H=>Vv (V.Z4 z z r)<|Ag z<|Nr<|E1 H
theorem B7g {h a b f} (H:B0p a b=some f):∀ L,J2 prog 185 [.int .i64 a,.int .i64 b] h (L) (λv h' L'=>L'=L∧G6 A3C 1 h' v f):=by
 intro L
 refine J2.enter func185 z z z<|Sr<|To (O.U4 z z z λc w x i=>To (O.U4 z z z λd j y k=>An z<|Sr<|Vv (V.mkf z z)<|To (O.bs A1S A3m z (e:=z) (hk:=z) (xs:=[.func 223,.tmp 5]) (hv:=CO.eq (CO.cons z (CO.cons z CO.nil))) (hw:=O4.of z) (hd:=z) λA=>have m:A7 A3C j [[.func (.func 223) #[] #[]],[.func (.func 225) #[] #[qp c,qp d]]] ([A6u,(λn=>A8X n a b)]:List (Int→Option Int)):=(A7.cons ⟨(.func (.func 223) #[] #[]),z,⟨⟨z,z⟩,.inr ⟨223,[],[],z,λB C D E o p=>B2Y o p⟩⟩⟩ (A7.cons ⟨(.func (.func 225) #[] #[qp c,qp d]),z,⟨⟨z,z⟩,.inr ⟨225,[],[qp c,qp d],z,λg G I J q r=>B6w i.u (show (VI .i64) g [qi a] a from z) k.u (show (VI .i64) g [qi b] b from z) q r⟩⟩⟩ A7.nil)); Ag z<|Nr<|T.K3 λK M s=>have t:=A7.slc s m.u; ?_)))
 cases H
 exact T.rl z (Rv z) ⟨z,t⟩
theorem B7f {h a b c d e} (f:Z8 h b c) (g:(VI .i64) h c d) (H:B0q a d=some e):∀ L,FnW prog 226 [.int .i64 a,.pointer (some b)] h L (.int .i64 e):=by
 intro L
 obtain rfl:=g
 exact J2.enter func226 z z z<|Sr<|An z<|Sr<|Vv (V.R5 D7 z f z)<|bE H λk i H=>Vv (V.Z4 z z i)<|Mv z<|bE H λm j H=>Vv (V.Z4 z z j)<|Ag z<|Nr<|E1 H
theorem B8x {h a c d} (H:B1q a c=some d):∀ L,J2 prog 190 [.int .i64 a,.int .i64 c] h (L) (λv h' L'=>L'=L∧G6 A3C 1 h' v d):=by
 intro L
 refine J2.enter func190 z z z<|Sr<|To (O.U4 z z z λb f s g=>An z<|Sr<|Vv (V.mkf z z)<|To (O.bs A1S A3m z (e:=z) (hk:=z) (xs:=[.func 223,.tmp 5]) (hv:=CO.eq (CO.cons z (CO.cons z CO.nil))) (hw:=O4.of z) (hd:=z) λt=>have i:A7 A3C f [[.func (.func 223) #[] #[]],[.func (.func 226) #[] #[qp b]]] ([A6u,(λj=>B0q j a)]:List (Int→Option Int)):=(A7.cons ⟨(.func (.func 223) #[] #[]),z,⟨⟨z,z⟩,.inr ⟨223,[],[],z,λw x y A k m=>B2Y k m⟩⟩⟩ (A7.cons ⟨(.func (.func 226) #[] #[qp b]),z,⟨⟨z,z⟩,.inr ⟨226,[],[qp b],z,λn B C D o p=>B7f g.u (show (VI .i64) n [qi a] a from z) o p⟩⟩⟩ A7.nil)); Ag z<|Nr<|T.K3 λE G q=>have r:=A7.slc q i.u; ?_))
 cases H
 exact T.rl z (Rv z) ⟨z,r⟩
theorem A2N {h b a c} (H:Y4 b=some (a,c)):∀ L,J2 prog 126 [.int .u8 b] h (L) (λv h' L'=>∃ v0_1 v0_3 v0_5 v0_7 v0_9,v=.tuple #[.agg #[.string a.A7s,v0_1,v0_3,v0_5,v0_7,v0_9],.bool c]∧L'=L∧B0C h' v0_1 a.C6e∧A8N h' v0_3 a.Y2∧A8N h' v0_5 a.A0w∧B0C h' v0_7 a.B9R∧B1U h' v0_9 a.C3G):=by
 intro L
 refine J2.enter func126 z z z<|Sr<|To (O.alloc A7y z z λae=>An z<|Sq<|Sm z<|Nt<|Bl<|Sr<|We z z<|An z<|T.cH H z (λH=>?_) λH=>?_)
 ·refine Sr<|Vv (V.bld (xs:=[(0,.const (.string ⟨#[114,111,117,110,100]⟩)),(1,.func 171),(2,.func 172),(3,.func 173),(4,.func 174),(5,.func 175)]) (cs:=[_,_,_,_,_,_]) A9K A9X z (F6.cons z z z (F6.cons z z z (F6.cons z z z (F6.cons z z z (F6.cons z z z (F6.cons z z z F6.nil)))))))<|To (O.stF (vs:=[.string (⟨#[114,111,117,110,100]⟩:ByteArray),.func (.func 171) #[] #[],.func (.func 172) #[] #[],.func (.func 173) #[] #[],.func (.func 174) #[] #[],.func (.func 175) #[] #[]]) A0C z z (j:=0) z z z z<|Ag z<|Nr<|Br<|Tr ?_)
  cases H
  exact T.B0B (L':=L) results126 (RVs.cons (RV.cellS z (j:=0) z A0C) (Rv z)) Lr (λ_ iv=>iv.drop) ⟨_,_,_,_,_,z,z,⟨⟨z,z⟩,.inr ⟨171,[],[],z,λaf ag ai aj ak d e=>B6s d e⟩⟩,⟨⟨z,z⟩,.inr ⟨172,[],[],z,λam an ao ap aq ar au f g=>B5i f g⟩⟩,⟨⟨z,z⟩,.inr ⟨173,[],[],z,λaw ax ay aA aB aC aD i k=>B5g i k⟩⟩,⟨⟨z,z⟩,.inr ⟨174,[],[],z,λaE aG aI aJ aK m n=>C3P m n⟩⟩,⟨⟨z,z⟩,.inr ⟨175,[],[],z,λaM aN aO aP aS o p=>B6E o p⟩⟩⟩
 refine Sr<|We z z<|An z<|T.cH H z (λH=>?_) λH=>?_
 ·refine Sr<|Vv (V.bld (xs:=[(0,.const (.string ⟨#[108,111,110,103]⟩)),(1,.func 176),(2,.func 177),(3,.func 178),(4,.func 179),(5,.func 180)]) (cs:=[_,_,_,_,_,_]) A9K A9X z (F6.cons z z z (F6.cons z z z (F6.cons z z z (F6.cons z z z (F6.cons z z z (F6.cons z z z F6.nil)))))))<|To (O.stF (vs:=[.string (⟨#[108,111,110,103]⟩:ByteArray),.func (.func 176) #[] #[],.func (.func 177) #[] #[],.func (.func 178) #[] #[],.func (.func 179) #[] #[],.func (.func 180) #[] #[]]) A0C z z (j:=0) z z z z<|Ag z<|Nr<|Br<|Tr ?_)
  cases H
  exact T.B0B (L':=L) results126 (RVs.cons (RV.cellS z (j:=0) z A0C) (Rv z)) Lr (λ_ iv=>iv.drop) ⟨_,_,_,_,_,z,z,⟨⟨z,z⟩,.inr ⟨176,[],[],z,λaU aV aW aX aY q r=>B7u q r⟩⟩,⟨⟨z,z⟩,.inr ⟨177,[],[],z,λaZ a0 a1 a2 a3 a4 a5 s t=>B6b s t⟩⟩,⟨⟨z,z⟩,.inr ⟨178,[],[],z,λa6 a7 a8 a9 ah al av u w=>B6n u w⟩⟩,⟨⟨z,z⟩,.inr ⟨179,[],[],z,λaz ba bb bc bd x y=>B6C x y⟩⟩,⟨⟨z,z⟩,.inr ⟨180,[],[],z,λbe bf bg bi bj A B=>B7K A B⟩⟩⟩
 refine Sr<|We z z<|An z<|T.cH H z (λH=>?_) λH=>?_
 ·refine Sr<|Vv (V.bld (xs:=[(0,.const (.string ⟨#[104,111,114,115,101,115,104,111,101]⟩)),(1,.func 181),(2,.func 182),(3,.func 183),(4,.func 184),(5,.func 185)]) (cs:=[_,_,_,_,_,_]) A9K A9X z (F6.cons z z z (F6.cons z z z (F6.cons z z z (F6.cons z z z (F6.cons z z z (F6.cons z z z F6.nil)))))))<|To (O.stF (vs:=[.string (⟨#[104,111,114,115,101,115,104,111,101]⟩:ByteArray),.func (.func 181) #[] #[],.func (.func 182) #[] #[],.func (.func 183) #[] #[],.func (.func 184) #[] #[],.func (.func 185) #[] #[]]) A0C z z (j:=0) z z z z<|Ag z<|Nr<|Br<|Tr ?_)
  cases H
  exact T.B0B (L':=L) results126 (RVs.cons (RV.cellS z (j:=0) z A0C) (Rv z)) Lr (λ_ iv=>iv.drop) ⟨_,_,_,_,_,z,z,⟨⟨z,z⟩,.inr ⟨181,[],[],z,λbk bm bn bo bp C D=>B7I C D⟩⟩,⟨⟨z,z⟩,.inr ⟨182,[],[],z,λbq br bs bt bu bw bx E G=>B6g E G⟩⟩,⟨⟨z,z⟩,.inr ⟨183,[],[],z,λbA bB bC bD bE bG bI I J=>B6v I J⟩⟩,⟨⟨z,z⟩,.inr ⟨184,[],[],z,λbJ bK bM bN bO K M=>C4f K M⟩⟩,⟨⟨z,z⟩,.inr ⟨185,[],[],z,λbP bS bU bV bW N P=>B7g N P⟩⟩⟩
 refine Sr<|We z z<|An z<|T.cH H z (λH=>?_) λH=>?_
 ·refine Sr<|Vv (V.bld (xs:=[(0,.const (.string ⟨#[114,111,119]⟩)),(1,.func 186),(2,.func 187),(3,.func 188),(4,.func 189),(5,.func 190)]) (cs:=[_,_,_,_,_,_]) A9K A9X z (F6.cons z z z (F6.cons z z z (F6.cons z z z (F6.cons z z z (F6.cons z z z (F6.cons z z z F6.nil)))))))<|To (O.stF (vs:=[.string (⟨#[114,111,119]⟩:ByteArray),.func (.func 186) #[] #[],.func (.func 187) #[] #[],.func (.func 188) #[] #[],.func (.func 189) #[] #[],.func (.func 190) #[] #[]]) A0C z z (j:=0) z z z z<|Ag z<|Nr<|Br<|Tr ?_)
  cases H
  exact T.B0B (L':=L) results126 (RVs.cons (RV.cellS z (j:=0) z A0C) (Rv z)) Lr (λ_ iv=>iv.drop) ⟨_,_,_,_,_,z,z,⟨⟨z,z⟩,.inr ⟨186,[],[],z,λbX bY bZ b0 b1 S U=>B8p S U⟩⟩,⟨⟨z,z⟩,.inr ⟨187,[],[],z,λb2 b3 b4 b5 b6 b7 b8 W X=>B7J W X⟩⟩,⟨⟨z,z⟩,.inr ⟨188,[],[],z,λb9 bh bl bv bz ca cb Y Z=>C3u Y Z⟩⟩,⟨⟨z,z⟩,.inr ⟨189,[],[],z,λcc cd ce cf cg aa ab=>C4y aa ab⟩⟩,⟨⟨z,z⟩,.inr ⟨190,[],[],z,λci cj ck cm cn ac ad=>B8x ac ad⟩⟩⟩
 refine T.skip<|Bn<|Th<|Sr<|Vv (V.bld (xs:=[]) (cs:=[_,_,_,_,_,_]) A9K A9X z F6.nil)<|To (O.stF (vs:=[.string qe,.nilFunc,.nilFunc,.nilFunc,.nilFunc,.nilFunc]) A0C z z (j:=0) z z z z<|Ag z<|Nr ?_)
 cases H
 exact T.B0B (L':=L) results126 (RVs.cons (RV.cellS z (j:=0) z A0C) (Rv z)) Lr (λ_ iv=>iv.drop) ⟨_,_,_,_,_,z,z,⟨⟨z,z⟩,.inl λ_ _=>z⟩,⟨⟨z,z⟩,.inl λ_ _ _ _=>z⟩,⟨⟨z,z⟩,.inl λ_ _ _ _=>z⟩,⟨⟨z,z⟩,.inl λ_ _=>z⟩,⟨⟨z,z⟩,.inl λ_ _=>z⟩⟩
theorem A2o {h b c d} (f:I6 h b c) (H:A2Z c=some d):∀ L,FnW prog 64 [.agg b.toArray] h L (.int .i64 d):=by
 intro L
 obtain ⟨M,rfl,N⟩:=f
 refine J2.enter func64 z z z<|Sr<|To (O.U4 z z z λP S U a=>An z<|Sr<|Vv (V.fa A3g z)<|Vv (V.M8 (k:=1) A6o z a z)<|bE H λ⟨i,W⟩ m H=>To (O.G5 z (A2N m _) z λX Y Z aa n=>?_))
 obtain ⟨o,p,q,r,s,rfl,t,e,w,x,y,A⟩:=n
 refine P8 _ t<|Mv z<|Wx z z<|Wx z z<|To (O.alloc A7y z z λab=>To (O.stF (vs:=[.string i.A7s,o,p,q,r,s]) A0C z z (j:=0) z z (by (simp only [BT,e.1.1,w.1.1,x.1.1,y.1.1,A.1.1]) <;> rfl) z ?_))
 refine T.freeze λB ac C=>have D:=Z8.of C; An z<|Sq<|Sm z<|Vv (V.not z)<|Nt<|T.cH H z (λH=>?_) λH=>?_
 ·exact Sg z<|Nr<|Tr<|E1 H
 refine Ks<|Sr<|Vv (V.fa C4e z)<|Vv (V.M8 (k:=1) C3o z D z)<|Vv (V.fa Y5 z)<|Vv (V.M8 (k:=2) D7 z a.u z)<|Vv (V.fa A0O z)<|Vv (V.M8 (k:=3) D7 z a.u z)<|bE H λad E H=>?_
 obtain ⟨ae,af,ag,G,I⟩:=B0C.call (e.u (g:=B)) E
 refine To (O.A1l z G z (I _) z λai aj ak am J=>?_)
 obtain ⟨rfl,K⟩:=J
 exact P8 _ K<|Ag z<|Nr<|E1 H
theorem A6z {h b c d e f} (m:I6 h b c) (H:A4A c d e=some f):∀ L,FnW prog 107 [.agg b.toArray,.int .i64 d,.int .i64 e] h L (.bool f):=by
 intro L
 obtain ⟨P,rfl,S⟩:=m
 refine J2.enter func107 z z z<|Sr<|To (O.U4 z z z λU W X a=>An z<|Sr<|Vv (V.fa A3g z)<|Vv (V.M8 (k:=1) A6o z a z)<|bE H λ⟨n,Y⟩ o H=>To (O.G5 z (A2N o _) z λZ aa ab ac p=>?_))
 obtain ⟨q,r,s,t,w,rfl,x,y,i,A,B,C⟩:=p
 refine P8 _ x<|Mv z<|Wx z z<|Wx z z<|To (O.alloc A7y z z λad=>To (O.stF (vs:=[.string n.A7s,q,r,s,t,w]) A0C z z (j:=0) z z (by (simp only [BT,y.1.1,i.1.1,A.1.1,B.1.1,C.1.1]) <;> rfl) z ?_))
 refine T.freeze λD ae E=>have G:=Z8.of E; An z<|Sm z<|Mv z<|Wn z z<|Mv z<|T.bH 18 H z (λH=>?_) λH=>?_
 ·refine Vv (V.fa C4o z)<|Vv (V.M8 (k:=2) C0i z G z)<|Vv (V.fa Y5 z)<|Vv (V.M8 (k:=2) D7 z a.u z)<|Vv (V.fa A0O z)<|Vv (V.M8 (k:=3) D7 z a.u z)<|Mv z<|Mv z<|Vv (V.min2 z z)<|Mv z<|Mv z<|Vv (V.max2 z z)<|bE H λaf I H=>?_
  obtain ⟨ag,ai,aj,J,K⟩:=A8N.call (i.u (g:=D)) I
  refine To (O.A1l z J z (K _) z λak am an ao M=>?_)
  obtain ⟨rfl,N⟩:=M
  exact P8 _ N<|Kt z<|Ag z<|Nr<|E1 H
 exact S2<|S2<|S2<|S2<|S2<|S2<|Sk<|Kf z<|Ag z<|Nr<|E1 H
theorem A7j {h b c d e f} (m:I6 h b c) (H:A4t c d e=some f):∀ L,FnW prog 108 [.agg b.toArray,.int .i64 d,.int .i64 e] h L (.bool f):=by
 intro L
 obtain ⟨P,rfl,S⟩:=m
 refine J2.enter func108 z z z<|Sr<|To (O.U4 z z z λU W X a=>An z<|Sr<|Vv (V.fa A3g z)<|Vv (V.M8 (k:=1) A6o z a z)<|bE H λ⟨n,Y⟩ o H=>To (O.G5 z (A2N o _) z λZ aa ab ac p=>?_))
 obtain ⟨q,r,s,t,w,rfl,x,y,A,i,B,C⟩:=p
 refine P8 _ x<|Mv z<|Wx z z<|Wx z z<|To (O.alloc A7y z z λad=>To (O.stF (vs:=[.string n.A7s,q,r,s,t,w]) A0C z z (j:=0) z z (by (simp only [BT,y.1.1,A.1.1,i.1.1,B.1.1,C.1.1]) <;> rfl) z ?_))
 refine T.freeze λD ae E=>have G:=Z8.of E; An z<|Sm z<|Mv z<|Wn z z<|Mv z<|T.bH 18 H z (λH=>?_) λH=>?_
 ·refine Vv (V.fa C3v z)<|Vv (V.M8 (k:=3) C0i z G z)<|Vv (V.fa Y5 z)<|Vv (V.M8 (k:=2) D7 z a.u z)<|Vv (V.fa A0O z)<|Vv (V.M8 (k:=3) D7 z a.u z)<|Mv z<|Mv z<|Vv (V.min2 z z)<|Mv z<|Mv z<|Vv (V.max2 z z)<|bE H λaf I H=>?_
  obtain ⟨ag,ai,aj,J,K⟩:=A8N.call (i.u (g:=D)) I
  refine To (O.A1l z J z (K _) z λak am an ao M=>?_)
  obtain ⟨rfl,N⟩:=M
  exact P8 _ N<|Kt z<|Ag z<|Nr<|E1 H
 exact S2<|S2<|S2<|S2<|S2<|S2<|Sk<|Kf z<|Ag z<|Nr<|E1 H
theorem C3Y {h a b c d e} (j:I6 h a b) (H:B4T b c d=some e):∀ L,FnW prog 208 [.agg a.toArray,.int .i64 c,.int .i64 d] h L (.bool e):=by
 intro L
 obtain ⟨f,rfl,g⟩:=j
 refine J2.enter func208 z z z<|Sr<|To (O.U4 z z z λr s t i=>An z<|Sr<|Vv (V.ldS z i (by exact J3)) ?_)
 refine Mv z<|Mv z<|bE H λw k H=>To (O.cs (A6z ⟨f,z,g.u⟩ k _) λy B=>Mv z<|T.bH 11 H z (λH=>?_) λH=>?_)
 ·exact S2<|S2<|Kt z<|Ag z<|Nr<|E1 H
 refine Vv (V.ldS z i.u (by exact J3)) ?_
 exact Mv z<|Mv z<|bE H λC o H=>To (O.cs (A7j ⟨f,z,g.u⟩ o _) λE I=>Kf z<|Ag z<|Nr<|E1 H)
theorem C2c {h Y D r Z} (aB:I6 h Y D) (H:B2v D r=some Z):∀ L,J2 prog 157 [.agg Y.toArray,.int .i64 r] h (L) (λv h' L'=>∃ aa,L'=F3 3 1 v aa::L∧A7 (VI .i64) h' aa Z):=by
 intro L
 obtain ⟨ab,rfl,ac⟩:=aB
 refine J2.enter func157 z z z<|Sr<|To (O.U4 z z z λbx bA bB ad=>An z<|Sr<|Vv (V.ldS z ad (by exact J3)) ?_)
 refine bE H λaC aD H=>To (O.cs (A2o ⟨ab,z,ac.u⟩ aD _) λaE bG=>bE H λK ae H=>To (O.mkX A9 J7 z z z z ae z λg bI bJ=>have af:A7 (VI .i64) aE _ K:=A7.rep z ae; An z<|Sq<|Sm z<|Vv (V.A4a A9 z (j:=0) z af.len)<|Mv z<|Nt ?_))
 obtain ⟨aJ,aK,aM⟩:=J6 H
 have H:=aK
 refine Bl<|T.lk [1,2,15] (FUEL,(0:Int),K,(List.replicate aC.toNat [qi 0])) (λ⟨s,i,t,c⟩=>([(16,qi i),(5,g)],F3 3 1 g c::L,λhh=>iter (A3N K) s (i,t)=some aJ∧A7 (VI .i64) hh c t)) ⟨H,af⟩ ?_
 rintro ⟨s,i,t,c⟩ G bK ⟨aN,k⟩
 obtain ⟨aO,bM,rfl,H,ai⟩:=G7 aN
 refine T.norm [16,5,1,2,15] z<|T.fl ?_
 refine Sr<|Wl z z<|Nt<|Sq<|T.cH H z (λH=>?_) λH=>?_
 ·refine Ks<|Sq<|Bl<|Sm z<|An z<|Rg<|Mv z<|Mv z<|bE H λbN M H=>?_
  obtain ⟨bO,bP,rfl⟩:=A7.get k M
  refine Vv (V.ixR A9 z z (j:=0) z (A7.bd k M))<|bE H λaj aP H=>To (O.stR D7 z z (j:=0) z (A7.bdN k M) z<|have aS:A7 (VI .i64) G (c.set i.toNat [qi (-1)]) aj:=A7.set k (show (VI .i64) G [qi (-1)] (-1:Int) from z) aP; Ni<|Bn<|Th<|Rg<|bE H λaU aV H=>Vv (V.H5 z z aV)<|Mv z<|Nt<|T.ag (aO,aU,aj,(c.set i.toNat [qi (-1)])) ⟨(D8 H ai),aS⟩)
 refine T.exit<|Te<|Te<|have H:=D6 H ai; Be<|Th<|have H:=I4 H aM; Sm z<|Mv z<|bE H λbS N H=>?_
 obtain ⟨bU,bV,rfl⟩:=A7.get k N
 refine Vv (V.ixR A9 z z (j:=0) z (A7.bd k N))<|bE H λak aW H=>To (O.stR D7 z z (j:=0) z (A7.bdN k N) z<|have aX:A7 (VI .i64) G (c.set r.toNat [qi 0]) ak:=A7.set k (show (VI .i64) G [qi 0] (0:Int) from z) aW; Nt<|Sm z<|To (O.b1 (E:=VI .i64) A9 J7 z z z z z λaY aZ=>An z<|Sq ?_))
 obtain ⟨a0,a1,a2⟩:=J6 H
 have H:=a1
 refine Bl<|Fr_ 1 z<|T.lk [2] (FUEL,ak,[r],(c.set r.toNat [qi 0]),(.slice (some ⟨aY,0,none⟩) 1 1),[[qi r]]) (λ⟨w,m,x,q,y,n⟩=>([(5,g),(7,y)],F3 3 1 g q::F3 3 1 y n::L,λhh=>iter (A8h D) w (m,x)=some a0∧A7 (VI .i64) hh q m∧A7 (VI .i64) hh n x)) ⟨H,aX,aZ⟩ ?_
 rintro ⟨w,m,x,q,y,n⟩ a3 bW ⟨a4,P,B⟩
 obtain ⟨a5,bX,rfl,H,am⟩:=G7 a4
 refine T.norm [5,7,2] z<|T.fl ?_
 refine Sq<|Sm z<|Vv (V.A4a A9 z (j:=1) z B.len)<|Wg z z<|Nt<|T.cH H z (λH=>?_) λH=>?_
 ·refine Ks<|Bl<|Sm z<|bE H λa6 an H=>?_
  obtain ⟨bY,a7,rfl⟩:=A7.get B an
  refine Vv (V.ixR A9 z z (j:=1) z (A7.bd B an))<|Vv (V.ldR D7 z (j:=1) z a7 z)<|An z<|Sm z<|bE H λao aq H=>To (O.slR A9 z z (j:=1) z (A7.slb B aq) z λa8=>have a9:A7 (VI .i64) a3 (List.drop (1:Int).toNat n) ao:=A7.sl B aq; An z<|Sm z<|Vv (V.A4a A9 z (j:=1) z P.len)<|Mv z<|Nt<|T.A0S ?_)
  obtain ⟨ah,al,av⟩:=J6 H
  have H:=al
  refine Bl<|Fr_ 1 z<|T.lk [2,8,37] (FUEL,m,(0:Int),ao,q,a8,(List.drop (1:Int).toNat n)) (λ⟨A,o,d,p,a,f,b⟩=>([(36,g),(38,qi d),(5,g),(7,f)],F3 3 1 g a::F3 3 1 f b::L,λhh=>iter (A8x D m a6) A (o,d,p)=some ah∧A7 (VI .i64) hh a o∧A7 (VI .i64) hh b p)) ⟨H,P,a9⟩ ?_
  rintro ⟨A,o,d,p,a,f,b⟩ bZ b0 ⟨az,e,I⟩
  obtain ⟨ar,b2,rfl,H,S⟩:=G7 az
  refine T.norm [36,38,5,7,2,8,37] z<|T.fl ?_
  refine Sr<|Wl z z<|Nt<|Sq<|T.cH H z (λH=>?_) λH=>?_
  ·refine Ks<|Sq<|Bl<|Sm z<|bE H λb3 au H=>?_
   obtain ⟨b4,ba,rfl⟩:=A7.get e au
   refine Vv (V.ixR A9 z z (j:=0) z (A7.bd e au))<|Vv (V.ldR D7 z (j:=0) z ba z)<|Ag z<|An z<|Sq ?_
   obtain ⟨bb,bc,be⟩:=J6 H
   refine T.ck (α:=Bool) [2,5,7,8,9,36,37,38] (λC=>([(50,.bool C)],F3 3 1 g a::F3 3 1 f b::L,λhh=>bb=C)) ?_ ?_
   ·have H:=bc
    refine Rg<|Mv z<|Wl z z<|Mv z<|T.bH 45 H z (λH=>?_) λH=>?_
    ·refine Vv (V.ldS z ad.u (by exact J3)) ?_
     refine Mv z<|Mv z<|bE H λbf bg H=>To (O.G5 z (C3Y ⟨ab,z,ac.u⟩ bg _) z λb5 b6 b7 b8 bi=>?_)
     obtain ⟨rfl,bj⟩:=bi
     refine P8 _ bj<|Kt z<|Nt<|T.mt bf (M0 H)
    refine S2<|S2<|Kf z<|Nt<|T.mt false (M0 H)
   rintro C U b9 bk
   have H:=I4 bk be
   refine T.norm [50,2,5,7,8,9,36,37,38] z<|T.fl ?_
   refine T.cH H z (λH=>?_) λH=>?_
   ·refine Sm z<|Mv z<|Mv z<|Mv z<|bE H λbh aw H=>?_
    obtain ⟨bl,bm,rfl⟩:=A7.get e aw
    refine Vv (V.ixR A9 z z (j:=0) z (A7.bd e aw))<|Vv (V.ldR D7 z (j:=0) z bm z)<|bE H λJ bn H=>Vv (V.H5 z z bn)<|bE H λbv W H=>?_
    obtain ⟨bz,ca,rfl⟩:=A7.get e W
    refine Vv (V.ixR A9 z z (j:=0) z (A7.bd e W))<|bE H λax bo H=>To (O.stR D7 z z (j:=0) z (A7.bdN e W) z<|have bp:A7 (VI .i64) U (a.set d.toNat [qi J]) ax:=A7.set e.u (show (VI .i64) U [qi J] J from z) bo; Nt<|Rg<|Mv z<|Mv z<|To (O.b1 (E:=VI .i64) A9 J7 z z z z z λcb X=>bE H λay aA H=>To (O.apX A9 A9 J7 z z z (j:=2) z (Src.row (j:=0) z) (O4.of z) (A7.ones VI.plain X) I.u X aA z λbq cc cd=>have br:A7 (VI .i64) U (b++[[qi d]]) ay:=A7.ap I.u X aA; T.fl ?_)))
    refine T.fs [1] ?_
    refine T.drop<|Ag z<|Ni<|Bn<|Th<|Rg<|bE H λbs bt H=>Vv (V.H5 z z bt)<|Mv z<|Nt<|Fr_ 1 z<|T.ag (ar,ax,bs,ay,(a.set d.toNat [qi J]),bq,(b++[[qi d]])) ⟨(D8 H S),bp,br⟩
   refine T.skip<|Bn<|Th<|Rg<|bE H λbu bw H=>Vv (V.H5 z z bw)<|Mv z<|Nt<|T.ag (ar,o,bu,p,a,f,b) ⟨(D8 H S),e.u,I.u⟩
  refine T.exit<|Te<|Te<|have H:=D6 H S; Be<|Th<|have H:=I4 H av; Bn<|Th<|T.ag (a5,o,p,a,f,b) ⟨(D8 H am),e,I⟩
 refine T.exit<|Te<|Te<|have H:=D6 H am; Be<|Th<|have H:=I4 H a2; Sm z<|Ag z<|Nr<|Fr_ 1 z<|T.drop ?_
 cases H
 exact T.rl z (Rv z) ⟨_,z,P⟩
theorem B4l {h o p q} (D:I6 h o p) (H:A4y p=some q):∀ L,J2 prog 105 [.agg o.toArray] h (L) (λv h' L'=>∃ r,L'=F3 3 1 v r::L∧A7 (VI .i64) h' r q):=by
 intro L
 obtain ⟨E,rfl,G⟩:=D
 refine J2.enter func105 z z z<|Sr<|To (O.U4 z z z λaG aI aJ f=>An z<|Sr<|Vv (V.fa A3g z)<|Vv (V.M8 (k:=1) A6o z f z)<|bE H λ⟨I,aK⟩ J H=>To (O.G5 z (A2N J _) z λaM aN aO aP K=>?_))
 obtain ⟨M,N,P,S,U,rfl,W,X,Y,Z,s,aa⟩:=K
 refine P8 _ W<|Mv z<|Wx z z<|Wx z z<|To (O.alloc A7y z z λaS=>To (O.stF (vs:=[.string I.A7s,M,N,P,S,U]) A0C z z (j:=0) z z (by (simp only [BT,X.1.1,Y.1.1,Z.1.1,s.1.1,aa.1.1]) <;> rfl) z ?_))
 refine T.freeze λab aU ac=>have ad:=Z8.of ac; An z<|Sq<|T.N7 (t:=(.vs [0,1,2,3,4,5,6] (.alt 7 (.alt 8 (.alt 9 .done .no) .no) .no))) 11 0 0 z z H9 (by kernel_rfl) ?_
 refine Tv z (V.ldS z f.u (by exact J3)) ?_
 refine Tv z (V.fa C3X z)<|Tv z (V.M8 (k:=4) C3o z ad z)<|Tv z (V.fa Y5 z)<|Tv z (V.M8 (k:=2) D7 z f.u z)<|Tv z (V.fa A0O z)<|Tv z (V.M8 (k:=3) D7 z f.u z)<|bE H λaV ae H=>?_
 obtain ⟨aW,aX,aY,af,ai⟩:=B0C.call (s.u (g:=ab)) ae
 refine Tp z z (X2 z z) (O.A1l z af z (ai _) z λaZ a0 a1 a2 aj=>?_) T.P6
 obtain ⟨rfl,ak⟩:=aj
 refine P8 _ ak<|bE H λw am H=>Tp z z (SX.two (XA.fr [] Li z) (XA.fr [] Li z)) (O.G5 z (C2c ⟨E,z,G.u⟩ am _) z λi a3 a4 a5 an=>?_) T.P6
 obtain ⟨ao,ap,x⟩:=an
 refine P8 _ ap<|Ts z z (SX.two (XA.fr [] Li z) (XA.fr [] Li z)) (V.asg z) z ?_ T.P6
 refine T.O6 (SX.two (XA.fr [] Li z) (XA.fr [] Li z))<|Th<|Sq<|Sm z<|Vv (V.A4a A9 z (j:=0) z x.len)<|Mv z<|Nt ?_
 obtain ⟨aq,ar,au⟩:=J6 H
 have H:=ar
 refine Bl<|T.lk [24] (FUEL,w,(0:Int),ao) (λ⟨e,a,d,b⟩=>([(23,i),(25,qi d),(5,i)],F3 3 1 i b::L,λhh=>iter (A6A w) e (a,d)=some aq∧A7 (VI .i64) hh b a)) ⟨H,x⟩ ?_
 rintro ⟨e,a,d,b⟩ y a6 ⟨aw,c⟩
 obtain ⟨A,a7,rfl,H,m⟩:=G7 aw
 refine T.norm [23,25,5,24] z<|T.fl ?_
 refine Sr<|Wl z z<|Nt<|Sq<|T.cH H z (λH=>?_) λH=>?_
 ·refine Ks<|Sq<|Bl<|Sm z<|bE H λa8 B H=>?_
  obtain ⟨a9,ax,rfl⟩:=A7.get c B
  refine Vv (V.ixR A9 z z (j:=0) z (A7.bd c B))<|Vv (V.ldR D7 z (j:=0) z ax z)<|Ag z<|An z<|Sm z<|Wl z z<|Nt<|T.cH H z (λH=>?_) λH=>?_
  ·refine Rg<|Mv z<|Mv z<|Mv z<|Vv (V.A4a A9 z (j:=0) z c.len)<|bE H λah n H=>?_
   obtain ⟨al,av,rfl⟩:=A7.get c n
   refine Vv (V.ixR A9 z z (j:=0) z (A7.bd c n))<|bE H λC ay H=>To (O.stR D7 z z (j:=0) z (A7.bdN c n) z<|have aA:A7 (VI .i64) y (b.set d.toNat [qi (a.length:Int)]) C:=A7.set c (show (VI .i64) y [qi (a.length:Int)] (a.length:Int) from z) ay; Ni<|Bn<|Th<|Rg<|bE H λaB aC H=>Vv (V.H5 z z aC)<|Mv z<|Nt<|T.ag (A,C,aB,(b.set d.toNat [qi (a.length:Int)])) ⟨(D8 H m),aA⟩)
  refine T.skip<|Bn<|Th<|Rg<|bE H λaD aE H=>Vv (V.H5 z z aE)<|Mv z<|Nt<|T.ag (A,a,aD,b) ⟨(D8 H m),c⟩
 refine T.exit<|Te<|Te<|have H:=D6 H m; Be<|Th<|have H:=I4 H au; Sm z<|Ag z<|Nr ?_
 cases H
 exact T.rl z (Rv z) ⟨_,z,c⟩
theorem B1y {h j g m} (o:I6 h j g) (H:A5W g=some m):∀ L,FnW prog 166 [.agg j.toArray] h L (.int .i64 m):=by
 intro L
 obtain ⟨p,rfl,e⟩:=o
 refine J2.enter func166 z z z<|Sr<|To (O.U4 z z z λK M N a=>An z<|Sr<|Vv (V.ldS z a (by exact J3)) ?_)
 refine bE H λq r H=>To (O.cs (A2o ⟨p,z,e.u⟩ r _) λS W=>An z<|Sr<|An z<|Sq<|Bl<|Sr<|Vv (V.fa A0o z)<|Vv (V.M8 (k:=0) J5 z a.u z)<|bE H λX w H=>To (O.cs (C3x w _) λZ ab=>Vv (V.not z)<|An z<|T.cH H z (λH=>?_) λH=>?_))
 ·exact Sg z<|Nr<|Br<|Tr<|E1 H
 refine Sm z<|We z z<|An z<|T.cH H z (λH=>?_) λH=>?_
 ·exact Sg z<|Nr<|Br<|Tr<|E1 H
 refine T.skip<|Bn<|Th<|Sq<|Sr<|Vv (V.fa Y6 z)<|Vv (V.M8 (k:=4) D9 z a.u z)<|Vv (V.Q3 A9 z e)<|Mv z<|Nt ?_
 obtain ⟨A,B,i⟩:=J6 H
 have H:=B
 refine Bl<|T.lk [1,3,18,19] (FUEL,(0:Int),(-1:Int)) (λ⟨b,c,d⟩=>([(20,qi c),(4,qi d)],L,λhh=>iter (A1A g q) b (c,d)=some A)) H ?_
 rintro ⟨b,c,d⟩ ac ad C
 obtain ⟨D,ae,rfl,H,f⟩:=G7 C
 refine T.norm [20,4,1,3,18,19] z<|T.fl ?_
 refine Sr<|Wl z z<|Nt<|Sq<|T.cH H z (λH=>?_) λH=>?_
 ·refine Ks<|Sq<|Bl<|Sr<|bE H λE n H=>?_
  obtain ⟨af,G,rfl⟩:=G6.at e n
  refine Vv (V.ix A9 z z e (E8 n))<|Vv (V.R5 D7 z G.u z)<|An z<|Sq<|Sm z<|Mv z<|Vv (V.le z z)<|Mv z<|T.bH 27 H z (λH=>?_) λH=>?_
  ·exact S2<|Sk<|Kt z<|Nt<|Ct z<|Sg z<|Nr<|Tr<|Br<|Tr<|Tr<|have H:=D6 H f; Br<|Tr<|have H:=I4 H i; E1 H
  refine Mv z<|Mv z<|Vv (V.ge z z)<|Kf z<|Nt<|T.cH H z (λH=>?_) λH=>?_
  ·exact Sg z<|Nr<|Tr<|Br<|Tr<|Tr<|have H:=D6 H f; Br<|Tr<|have H:=I4 H i; E1 H
  refine Ks<|Rg<|Mv z<|Ag z<|Ni<|Bn<|Th<|Rg<|bE H λI J H=>Vv (V.H5 z z J)<|Mv z<|Nt<|T.ag (D,I,E) (D8 H f)
 refine T.exit<|Te<|Te<|have H:=D6 H f; Be<|Th<|have H:=I4 H i; Sq<|Sr<|Vv (V.fa B6N z)<|Vv (V.M8 (k:=5) D7 z a.u z)<|Wl z z<|Mv z<|T.bH 37 H z (λH=>?_) λH=>?_
 ·exact S2<|Sk<|Kt z<|Mv z<|S2<|Sk<|Kt z<|Mv z<|S2<|Sk<|Kt z<|Nt<|Ct z<|Sg z<|Nr<|Tr<|E1 H
 refine Vv (V.fa B6N z)<|Vv (V.M8 (k:=5) D7 z a.u z)<|Wg z z<|Kf z<|Mv z<|T.bH 42 H z (λH=>?_) λH=>?_
 ·exact S2<|Sk<|Kt z<|Mv z<|S2<|Sk<|Kt z<|Nt<|Ct z<|Sg z<|Nr<|Tr<|E1 H
 refine Vv (V.fa B7j z)<|Vv (V.M8 (k:=6) D7 z a.u z)<|Wl z z<|Kf z<|Mv z<|T.bH 47 H z (λH=>?_) λH=>?_
 ·exact S2<|Sk<|Kt z<|Nt<|Ct z<|Sg z<|Nr<|Tr<|E1 H
 refine Vv (V.fa B7j z)<|Vv (V.M8 (k:=6) D7 z a.u z)<|Wg z z<|Kf z<|Nt<|T.cH H z (λH=>?_) λH=>?_
 ·exact Sg z<|Nr<|Tr<|E1 H
 exact Ks<|Sg z<|Nr<|E1 H
theorem B7N {h a b c d e f} (g:I6 h a b) (i:Z8 h c d) (j:I6 h d e) (H:A6O b e=some f):∀ L,FnW prog 170 [.agg a.toArray,.pointer (some c)] h L (.bool f):=by
 intro L
 obtain ⟨n,rfl,o⟩:=g
 obtain ⟨p,rfl,q⟩:=j
 refine J2.enter func170 z z z<|Sr<|To (O.U4 z z z λr s t m=>An z<|Sr<|Vv (V.fa A0o z)<|Vv (V.M8 (k:=0) J5 z m z)<|Vv (V.fa A0o z)<|Vv (V.M8 (k:=0) J5 z i.u z)<|Vv (V.seq z z)<|Ag z<|Nr ?_)
 exact E1 H
theorem B1Z {h m f n o} (d:G6 I6 7 h m f) (H:A5e f=some (n,o)):∀ L,FnW prog 125 [m] h L (.tuple #[.int .i64 n,.int .i64 o]):=by
 intro L
 refine J2.enter func125 z z z<|Sg z<|An z<|Sq<|Sm z<|Vv (V.Q3 O5 z d)<|Wg z z<|Nt<|T.cH H z (λH=>?_) λH=>?_
 ·exact Sg z<|Ag z<|Nr<|Tr<|E1 H
 refine Ks<|Sq<|Sm z<|Vv (V.Q3 O5 z d)<|Mv z<|Nt ?_
 obtain ⟨w,x,g⟩:=J6 H
 have H:=x
 refine Bl<|T.lk [0,10,11] (FUEL,(0:Int)) (λ⟨b,c⟩=>([(12,qi c)],L,λhh=>iter (A4V f) b c=some w)) H ?_
 rintro ⟨b,c⟩ ab ac y
 obtain ⟨A,ad,rfl,H,e⟩:=G7 y
 refine T.norm [12,0,10,11] z<|T.fl ?_
 refine Sr<|Wl z z<|Nt<|Sq<|T.cH H z (λH=>?_) λH=>?_
 ·refine Ks<|Sq<|Bl<|Sm z<|bE H λa p H=>?_
  obtain ⟨ae,B,⟨i,rfl,k⟩⟩:=G6.at d p
  refine Vv (V.ix O5 z z d (E8 p))<|Vv (V.ldS z B.u (by exact J3)) ?_
  refine To (O.alloc A1Q z z λq=>Ag z<|To (O.stF (vs:=[.string a.F8,.int .u8 a.Q6,qi a.fA,qi a.fB,i,qi a.fX,qi a.fY]) J3 z z (j:=0) z z (by (simp only [BT,G6.one k]) <;> rfl) z ?_))
  refine T.freeze λaf ai C=>have r:=Z8.of C; Nt<|Sq<|Sr<|Vv (V.ldS z r (by exact J3)) ?_
  refine bE H λaj D H=>To (O.cs (B1y ⟨i,z,k.u⟩ D _) λs an=>An z<|Sm z<|Wn z z<|Nt<|T.cH H z (λH=>?_) λH=>?_)
  ·exact Sm z<|Mv z<|Ag z<|Ag z<|Nr<|Tr<|Br<|Tr<|Tr<|have H:=D6 H e; Br<|Tr<|have H:=I4 H g; E1 H
  refine Ks<|Sm z<|Mv z<|bE H λI t H=>T.slM z O5 z d.u (.inl ⟨z,z⟩) (.inr ⟨_,_,z,z⟩) (A3U t).2 z λJ K ao=>?_
  have M:G6 I6 7 s J I:=by rw [(A3U t).1]; exact K
  refine Vv (V.mkf z z)<|bE H λap N H=>To (O.cs (B1W M (show B1g s (.func (.func 170) #[] #[qp q]) (λP=>A6O P a) from ⟨⟨z,z⟩,.inr ⟨170,[],[qp q],z,λaq ar au aw S ax U W=>B7N S r.u ⟨i,z,k.u⟩ U W⟩⟩) N _) λaA aC=>Nt<|T.cH H z (λH=>?_) λH=>?_)
  ·exact Sm z<|Ag z<|Ag z<|Nr<|Br<|Tr<|Tr<|have H:=D6 H e; Br<|Tr<|have H:=I4 H g; E1 H
  refine T.skip<|Bn<|Th<|Rg<|bE H λZ aa H=>Vv (V.H5 z z aa)<|Mv z<|Nt<|T.ag (A,Z) (D8 H e)
 exact T.exit<|Te<|Te<|have H:=D6 H e; Be<|Th<|have H:=I4 H g; Sg z<|Ag z<|Nr<|E1 H
theorem C2m {h a b c d e f} (g:I6 h a b) (i:Z8 h c d) (j:VS h d e) (H:B2S b e=some f):∀ L,FnW prog 207 [.agg a.toArray,.pointer (some c)] h L (.bool f):=by
 intro L
 obtain ⟨n,rfl,o⟩:=g
 obtain rfl:=j
 refine J2.enter func207 z z z<|Sr<|To (O.U4 z z z λp q r m=>An z<|Sr<|Vv (V.fa A0o z)<|Vv (V.M8 (k:=0) J5 z m z)<|Vv (V.R5 J5 z i.u z)<|Vv (V.seq z z)<|Ag z<|Nr ?_)
 exact E1 H
theorem A5n {h a b c} (d:G6 I6 7 h a b) (H:A3w b=some c):∀ L,FnW prog 63 [a] h L (.bool c):=by
 intro L
 exact J2.enter func63 z z z<|Sr<|An z<|Sm z<|bE H λ⟨i,j⟩ e H=>To (O.cs (B1Z d e _) λm o=>Mv z<|Wx z z<|Wx z z<|Ag z<|An z<|Sm z<|We z z<|Ag z<|Nr<|E1 H)
theorem A5H {h i k m n} (f:G6 I6 7 h i k) (H:A2A k m=some n):∀ L,FnW prog 43 [i,.int .i64 m] h L (.int .i64 n):=by
 intro L
 refine J2.enter func43 z z z<|Sr<|An z<|Sq<|Sq ?_
 obtain ⟨w,x,y⟩:=J6 H
 refine T.ck (α:=Bool) [0,1] (λe=>([(20,.bool e)],L,λhh=>w=e)) ?_ ?_
 ·have H:=x
  refine Rg<|Mv z<|Wl z z<|Mv z<|T.bH 10 H z (λH=>?_) λH=>?_
  ·refine S2<|S2<|Kt z<|Mv z<|S2<|Sk<|Kt z<|Nt<|T.mt true (M0 H)
  refine Mv z<|Mv z<|Vv (V.Q3 O5 z f)<|Vv (V.ge z z)<|Kf z<|Mv z<|T.bH 16 H z (λH=>?_) λH=>?_
  ·refine S2<|Sk<|Kt z<|Nt<|T.mt true (M0 H)
  refine Mv z<|bE H λA B H=>To (O.G5 z (A5n f B _) z λaf ai aj ak C=>?_)
  obtain ⟨rfl,D⟩:=C
  refine P8 _ D<|Vv (V.not z)<|Kf z<|Nt<|T.mt (!A) (M0 H)
 rintro e E am G
 have H:=I4 G y
 refine T.norm [20,0,1] z<|T.fl ?_
 refine T.cH H z (λH=>?_) λH=>?_
 ·exact Sg z<|Nr<|Tr<|E1 H
 refine Ks<|Sr<|An z<|Sq<|Sm z<|Mv z<|bE H λo p H=>T.slM z O5 z f.u (.inl ⟨z,z⟩) (.inr ⟨_,_,z,z⟩) (A3U p).2 z λI J an=>?_
 have g:G6 I6 7 E I o:=by rw [(A3U p).1]; exact J
 refine Vv (V.Q3 O5 z g)<|Mv z<|Nt ?_
 obtain ⟨K,M,N⟩:=J6 H
 have H:=M
 refine Bl<|T.lk [23,24] (FUEL,(0:Int),(0:Int)) (λ⟨a,b,c⟩=>([(25,qi b),(5,qi c)],L,λhh=>iter (A3Q o) a (b,c)=some K)) H ?_
 rintro ⟨a,b,c⟩ ao ap P
 obtain ⟨S,aq,rfl,H,q⟩:=G7 P
 refine T.norm [25,5,23,24] z<|T.fl ?_
 refine Sr<|Wl z z<|Nt<|Sq<|T.cH H z (λH=>?_) λH=>?_
 ·refine Ks<|Sq<|Bl<|Sr<|bE H λd r H=>?_
  obtain ⟨ar,U,⟨s,rfl,t⟩⟩:=G6.at g r
  refine Vv (V.ix O5 z z g (E8 r))<|Vv (V.ldS z U.u (by exact J3)) ?_
  refine To (O.alloc A1Q z z λau=>To (O.stF (vs:=[.string d.F8,.int .u8 d.Q6,qi d.fA,qi d.fB,s,qi d.fX,qi d.fY]) J3 z z (j:=0) z z (by (simp only [BT,G6.one t]) <;> rfl) z ?_))
  refine T.freeze λaw ax W=>have X:=Z8.of W; Nt<|Rg<|Mv z<|Vv (V.ldS z X (by exact J3)) ?_
  refine bE H λay Y H=>To (O.G5 z (A2o ⟨s,z,t.u⟩ Y _) z λaA aB aC aD Z=>?_)
  obtain ⟨rfl,aa⟩:=Z
  refine P8 _ aa<|bE H λab ac H=>Vv (V.H5 z z ac)<|Ag z<|Ni<|Bn<|Th<|Rg<|bE H λad ae H=>Vv (V.H5 z z ae)<|Mv z<|Nt<|T.ag (S,ad,ab) (D8 H q)
 exact T.exit<|Te<|Te<|have H:=D6 H q; Be<|Th<|have H:=I4 H N; Sm z<|Ag z<|Nr<|E1 H
theorem B8b {h b c d} (a:G6 I6 7 h b c) (H:A7L c=some d):∀ L,FnW prog 104 [b] h L (.int .i64 d):=by
 intro L
 refine J2.enter func104 z z z<|Sr<|An z<|Sq<|Sm z<|Vv (V.Q3 O5 z a)<|We z z<|Nt<|T.cH H z (λH=>?_) λH=>?_
 ·exact Sg z<|Nr<|Tr<|E1 H
 refine Ks<|Sm z<|Mv z<|Vv (V.Q3 O5 z a)<|bE H λo f H=>Vv (V.Z4 z z f)<|bE H λp e H=>?_
 obtain ⟨q,g,⟨i,rfl,j⟩⟩:=G6.at a e
 refine Vv (V.ix O5 z z a (E8 e))<|Vv (V.ldS z g (by exact J3)) ?_
 exact bE H λr k H=>To (O.cs (A2o ⟨i,z,j⟩ k _) λt w=>Ag z<|Nr<|E1 H)
theorem A8d {h b c d} (a:G6 I6 7 h b c) (H:A2s c=some d):∀ L,FnW prog 44 [b] h L (.int .i64 d):=by
 intro L
 refine J2.enter func44 z z z<|Sr<|An z<|Sq<|Sm z<|bE H λr e H=>To (O.cs (A5n a e _) λt x=>Vv (V.not z)<|Nt<|T.cH H z (λH=>?_) λH=>?_)
 ·exact Sg z<|Nr<|Tr<|E1 H
 exact Ks<|Sm z<|Mv z<|Vv (V.Q3 O5 z a)<|bE H λy i H=>Vv (V.Z4 z z i)<|bE H λA j H=>To (O.cs (A5H a.u j _) λC E=>Mv z<|bE H λG n H=>To (O.cs (B8b a.u n _) λJ M=>bE H λN q H=>Vv (V.H5 z z q)<|Ag z<|Nr<|E1 H))
theorem A7X {h m g i n o p} (f:G6 I6 7 h m g) (H:A3u g i=some (n,o,p)):∀ L,FnW prog 24 [m,.int .i64 i] h L (.tuple #[.int .i64 n,.int .i64 o,.bool p]):=by
 intro L
 refine J2.enter func24 z z z<|Sg z<|Ag z<|An z<|Sq<|Sq ?_
 obtain ⟨w,x,y⟩:=J6 H
 refine T.ck (α:=Bool) [0,1] (λe=>([(16,.bool e)],L,λhh=>w=e)) ?_ ?_
 ·have H:=x
  refine Rg<|Mv z<|Wl z z<|Mv z<|T.bH 12 H z (λH=>?_) λH=>?_
  ·refine S2<|Sk<|Kt z<|Nt<|T.mt true (M0 H)
  refine Mv z<|bE H λA B H=>To (O.G5 z (A5n f B _) z λab ac ad ae C=>?_)
  obtain ⟨rfl,D⟩:=C
  refine P8 _ D<|Vv (V.not z)<|Kf z<|Nt<|T.mt (!A) (M0 H)
 rintro e af ai E
 have H:=I4 E y
 refine T.norm [16,0,1] z<|T.fl ?_
 refine T.cH H z (λH=>?_) λH=>?_
 ·exact Sg z<|Ag z<|Ag z<|Nr<|Tr<|E1 H
 refine Ks<|Sq<|Sm z<|Vv (V.Q3 O5 z f)<|Mv z<|Nt ?_
 obtain ⟨G,I,q⟩:=J6 H
 have H:=I
 refine Bl<|T.lk [17,18] (FUEL,i,(0:Int)) (λ⟨a,b,c⟩=>([(1,qi b),(19,qi c)],L,λhh=>iter (A3R g) a (b,c)=some G)) H ?_
 rintro ⟨a,b,c⟩ aj ak J
 obtain ⟨K,am,rfl,H,k⟩:=G7 J
 refine T.norm [1,19,17,18] z<|T.fl ?_
 refine Sr<|Wl z z<|Nt<|Sq<|T.cH H z (λH=>?_) λH=>?_
 ·refine Ks<|Sq<|Bl<|Sm z<|bE H λd r H=>?_
  obtain ⟨an,M,⟨s,rfl,t⟩⟩:=G6.at f r
  refine Vv (V.ix O5 z z f (E8 r))<|Vv (V.ldS z M.u (by exact J3)) ?_
  refine To (O.alloc A1Q z z λao=>Ag z<|To (O.stF (vs:=[.string d.F8,.int .u8 d.Q6,qi d.fA,qi d.fB,s,qi d.fX,qi d.fY]) J3 z z (j:=0) z z (by (simp only [BT,G6.one t]) <;> rfl) z ?_))
  refine T.freeze λap aq N=>have P:=Z8.of N; Nt<|Sr<|Vv (V.ldS z P (by exact J3)) ?_
  refine bE H λar S H=>To (O.cs (A2o ⟨s,z,t.u⟩ S _) λaw ay=>An z<|Sq<|Sm z<|Mv z<|Wl z z<|Nt<|T.cH H z (λH=>?_) λH=>?_)
  ·exact Sm z<|Mv z<|Ag z<|Ag z<|Ag z<|Nr<|Tr<|Br<|Tr<|Tr<|have H:=D6 H k; Br<|Tr<|have H:=I4 H q; E1 H
  refine Ks<|Rg<|Mv z<|Mv z<|bE H λX Y H=>Vv (V.Z4 z z Y)<|Ag z<|Ni<|Bn<|Th<|Rg<|bE H λZ aa H=>Vv (V.H5 z z aa)<|Mv z<|Nt<|T.ag (K,X,Z) (D8 H k)
 exact T.exit<|Te<|Te<|have H:=D6 H k; Be<|Th<|have H:=I4 H q; Sg z<|Ag z<|Ag z<|Nr<|E1 H
theorem C4s {h b c a d e} (f:G6 I6 7 h b c) (H:B4w c a=some (d,e)):∀ L,FnW prog 142 [b,.string a] h L (.tuple #[.int .i64 d,.bool e]):=by
 intro L
 refine J2.enter func142 z z z<|Sr<|To (O.U4 z z z λg i y j=>Ag z<|An z<|Sm z<|Vv (V.mkf z z)<|bE H λA k H=>To (O.cs (A8M f.u (show B1g i (.func (.func 207) #[] #[qp g]) (λm=>B2S m a) from ⟨⟨z,z⟩,.inr ⟨207,[],[qp g],z,λn B C D o E p q=>C2m o j.u (show VS n [.string a] a from z) p q⟩⟩) k _) λI K=>An z<|Sq<|Sm z<|Wl z z<|Mv z<|T.bH 12 H z (λH=>?_) λH=>?_))
 ·exact S2<|Sk<|Kt z<|Nt<|Ct z<|Sg z<|Ag z<|Nr<|Tr<|E1 H
 refine Mv z<|bE H λM t H=>To (O.cs (A5n f.u t _) λP U=>Vv (V.not z)<|Kf z<|Nt<|T.cH H z (λH=>?_) λH=>?_)
 ·exact Sg z<|Ag z<|Nr<|Tr<|E1 H
 exact Ks<|Sm z<|Ag z<|Ag z<|Nr<|E1 H
theorem B5r {h a b c} (g:I6 h a b) (H:B2p b=some c):∀ L,FnW prog 120 [.agg a.toArray] h L (.int .i64 c):=by
 intro L
 obtain ⟨d,rfl,e⟩:=g
 refine J2.enter func120 z z z<|Sr<|To (O.U4 z z z λp q r f=>An z<|Sq<|Sr<|Vv (V.ldS z f (by exact J3)) ?_)
 refine bE H λs i H=>To (O.cs (B1y ⟨d,z,e.u⟩ i _) λw y=>Wn z z<|Nt<|T.cH H z (λH=>?_) λH=>?_)
 ·exact Sg z<|Nr<|Tr<|E1 H
 refine Ks<|Sr<|Vv (V.ldS z f.u (by exact J3)) ?_
 exact bE H λA m H=>To (O.cs (A2o ⟨d,z,e.u⟩ m _) λC E=>Ag z<|Nr<|E1 H)
theorem C3t {h b c d e} (a:G6 I6 7 h b c) (H:B4P c d=some e):∀ L,FnW prog 46 [b,.int .i64 d] h L (.bool e):=by
 intro L
 refine J2.enter func46 z z z<|Sr<|An z<|Sm z<|Mv z<|bE H λ⟨r,s,t⟩ g H=>To (O.cs (A7X a g _) λx A=>Mv z<|Wx z z<|Wx z z<|Wx z z<|Ag z<|Ag z<|An z<|Sm z<|Mv z<|T.bH 16 H z (λH=>?_) λH=>?_)
 ·refine Mv z<|Mv z<|bE H λB f H=>?_
  obtain ⟨C,m,⟨D,rfl,n⟩⟩:=G6.at a f
  exact Vv (V.ix O5 z z a (E8 f))<|Vv (V.fa Y6 z)<|Vv (V.M8 (k:=4) D9 z m.u z)<|Mv z<|bE H λE o H=>To (O.cs (A2m n.u o _) λI K=>Kt z<|Ag z<|Nr<|E1 H)
 exact S2<|S2<|S2<|Sk<|Kf z<|Ag z<|Nr<|E1 H
theorem C1Q {h b c d e} (a:G6 I6 7 h b c) (H:B2B c d=some e):∀ L,FnW prog 45 [b,.int .i64 d] h L (.int .i64 e):=by
 intro L
 refine J2.enter func45 z z z<|Sr<|An z<|Sm z<|Mv z<|bE H λ⟨x,y,A⟩ k H=>To (O.cs (A7X a k _) λC E=>Mv z<|Wx z z<|Wx z z<|Wx z z<|Ag z<|Ag z<|An z<|Sq<|Sm z<|Vv (V.not z)<|Nt<|T.cH H z (λH=>?_) λH=>?_)
 ·exact Sg z<|Nr<|Tr<|E1 H
 refine Ks<|Sm z<|Mv z<|bE H λG f H=>?_
 obtain ⟨I,o,⟨p,rfl,q⟩⟩:=G6.at a f
 refine Vv (V.ix O5 z z a (E8 f))<|Vv (V.ldS z o.u (by exact J3)) ?_
 refine bE H λJ r H=>To (O.G5 z (B4l ⟨p,z,q.u⟩ r _) z λK M N P s=>?_)
 obtain ⟨S,t,g⟩:=s
 refine P8 _ t<|Mv z<|bE H λU i H=>?_
 obtain ⟨W,w,rfl⟩:=A7.get g i
 exact Vv (V.ixR A9 z z (j:=0) z (A7.bd g i))<|Vv (V.ldR D7 z (j:=0) z w z)<|Ag z<|Nr<|T.drop<|E1 H
theorem B7Q {h e f g i a k m n} (d:G6 I6 7 h e f) (H:A9C f g i=some (a,k,m,n)):∀ L,J2 prog 106 [e,.int .i64 g,.int .i64 i] h (L) (λv h' L'=>∃ v0_1,v=.tuple #[.agg #[.string a.F8,.int .u8 a.Q6,.int .i64 a.fA,.int .i64 a.fB,v0_1,.int .i64 a.fX,.int .i64 a.fY],.int .i64 k,.int .i64 m,.bool n]∧L'=L∧G6 (VI .i64) 1 h' v0_1 a.A2Q):=by
 intro L
 refine J2.enter func106 z z z<|Sr<|To (O.alloc A1Q z z λq=>Ag z<|Ag z<|An z<|Sm z<|Mv z<|bE H λ⟨r,K,M⟩ s H=>To (O.cs (A7X d s _) λP U=>Mv z<|Wx z z<|Wx z z<|Wx z z<|Ag z<|Ag z<|An z<|Sm z<|Mv z<|bE H λ⟨x,W,X⟩ y H=>To (O.cs (A7X d.u y _) λZ ab=>Mv z<|Wx z z<|Wx z z<|Wx z z<|Ag z<|Ag z<|An z<|Sq<|Sq ?_)))
 obtain ⟨C,D,E⟩:=J6 H
 refine T.ck (α:=Bool) [0,6,7,8,10] (λc=>([(38,.bool c)],blk q (.cells [.string qe,.int .u8 0,qi 0,qi 0,qs,qi 0,qi 0].toArray 139)::L,λhh=>C=c)) ?_ ?_
 ·have H:=D
  refine Rg<|Mv z<|Vv (V.not z)<|Mv z<|T.bH 30 H z (λH=>?_) λH=>?_
  ·refine S2<|Kt z<|Mv z<|S2<|Sk<|Kt z<|Nt<|T.mt true (M0 H)
  refine Mv z<|Vv (V.not z)<|Kf z<|Mv z<|T.bH 34 H z (λH=>?_) λH=>?_
  ·refine S2<|Sk<|Kt z<|Nt<|T.mt true (M0 H)
  refine Mv z<|Mv z<|Wn z z<|Kf z<|Nt<|T.mt (!decide (r=x)) (M0 H)
 rintro c ac ad G
 have H:=I4 G E
 refine T.norm [38,0,6,7,8,10] z<|T.fl ?_
 refine T.cH H z (λH=>?_) λH=>?_
 ·refine Sr<|Vv (V.bld (xs:=[]) (cs:=[_,_,_,_,_,_,_]) B7Y B7V z F6.nil)<|To (O.stF (vs:=[.string qe,.int .u8 0,qi 0,qi 0,qs,qi 0,qi 0]) J3 z z (j:=0) z z z z<|Ag z<|Ag z<|Ag z<|Nr<|Tr ?_)
  cases H
  exact T.B0B (L':=L) results106 (RVs.cons (RV.cellS z (j:=0) z J3) (RVs.cons (RV.tmp z) (RVs.cons (RV.tmp z) (Rv z)))) Li (λ_ iv=>iv.drop) ⟨_,z,z,G6.nil⟩
 refine Ks<|Sm z<|Mv z<|bE H λb o H=>?_
 obtain ⟨ae,I,⟨J,rfl,p⟩⟩:=G6.at d o
 refine Vv (V.ix O5 z z d (E8 o))<|Vv (V.ldS z I.u (by exact J3)) ?_
 refine Mv z<|Mv z<|To (O.stF (vs:=[.string b.F8,.int .u8 b.Q6,qi b.fA,qi b.fB,J,qi b.fX,qi b.fY]) J3 z z (j:=0) z z (by (simp only [BT,G6.one p]) <;> rfl) z ?_)
 refine Ag z<|Ag z<|Ag z<|Nr ?_
 cases H
 exact T.B0B (L':=L) results106 (RVs.cons (RV.cellS z (j:=0) z J3) (RVs.cons (RV.tmp z) (RVs.cons (RV.tmp z) (Rv z)))) Li (λ_ iv=>iv.drop) ⟨_,z,z,p.u⟩
theorem C0V {h b c d e f} (k:G6 I6 7 h b c) (H:B0T c d e=some f):∀ L,FnW prog 49 [b,.int .i64 d,.int .i64 e] h L (.bool f):=by
 intro L
 refine J2.enter func49 z z z<|Sr<|An z<|Sm z<|Mv z<|Mv z<|bE H λ⟨a,w,x,y⟩ m H=>To (O.G5 z (B7Q k m _) z λA B C D n=>?_)
 obtain ⟨g,rfl,o,i⟩:=n
 refine P8 _ o<|Mv z<|Wx z z<|Wx z z<|Wx z z<|Wx z z<|To (O.alloc A1Q z z λE=>To (O.stF (vs:=[.string a.F8,.int .u8 a.Q6,qi a.fA,qi a.fB,g,qi a.fX,qi a.fY]) J3 z z (j:=0) z z (by (simp only [BT,G6.one i]) <;> rfl) z ?_))
 refine T.freeze λG I p=>have q:=Z8.of p; Ag z<|Ag z<|An z<|Sm z<|Mv z<|T.bH 21 H z (λH=>?_) λH=>?_
 ·refine Vv (V.ldS z q (by exact J3)) ?_
  exact Mv z<|Mv z<|bE H λJ r H=>To (O.cs (A6z ⟨g,z,i.u⟩ r _) λM P=>Kt z<|Ag z<|Nr<|E1 H)
 exact S2<|S2<|Kf z<|Ag z<|Nr<|E1 H
theorem C0A {h b c d e f} (k:G6 I6 7 h b c) (H:B1m c d e=some f):∀ L,FnW prog 51 [b,.int .i64 d,.int .i64 e] h L (.bool f):=by
 intro L
 refine J2.enter func51 z z z<|Sr<|An z<|Sm z<|Mv z<|Mv z<|bE H λ⟨a,w,x,y⟩ m H=>To (O.G5 z (B7Q k m _) z λA B C D n=>?_)
 obtain ⟨g,rfl,o,i⟩:=n
 refine P8 _ o<|Mv z<|Wx z z<|Wx z z<|Wx z z<|Wx z z<|To (O.alloc A1Q z z λE=>To (O.stF (vs:=[.string a.F8,.int .u8 a.Q6,qi a.fA,qi a.fB,g,qi a.fX,qi a.fY]) J3 z z (j:=0) z z (by (simp only [BT,G6.one i]) <;> rfl) z ?_))
 refine T.freeze λG I p=>have q:=Z8.of p; Ag z<|Ag z<|An z<|Sm z<|Mv z<|T.bH 21 H z (λH=>?_) λH=>?_
 ·refine Vv (V.ldS z q (by exact J3)) ?_
  exact Mv z<|Mv z<|bE H λJ r H=>To (O.cs (A7j ⟨g,z,i.u⟩ r _) λM P=>Kt z<|Ag z<|Nr<|E1 H)
 exact S2<|S2<|Kf z<|Ag z<|Nr<|E1 H
end Go.Proofs.X
open Go Go.Proofs Go.Proofs.Tryz Go.Sl Go.Dm
namespace Go.Proofs.X
theorem C5z:A5p prog 193=some ([.slice none 0 0,.slice none 0 0,.map none],[(0,2),(2,1)]):=by kernel_rfl
theorem C4E:A0E prog 193=true:=by kernel_rfl
theorem B5C:O8 prog 121 3=some 3:=by kernel_rfl
theorem A5x:O8 prog 121 4=some 4:=by kernel_rfl
theorem A7S:O8 prog 168 0=some 0:=by kernel_rfl
theorem A8i:O8 prog 168 1=some 1:=by kernel_rfl
theorem B5Y:O8 prog 168 2=some 2:=by kernel_rfl
theorem A5t:O8 prog 190 0=some 0:=by kernel_rfl
theorem A5k:O8 prog 190 1=some 1:=by kernel_rfl
theorem A0H:O8 prog 193 0=some 0:=by kernel_rfl
theorem A5i:O8 prog 193 1=some 2:=by kernel_rfl
theorem B1j:U7 prog 124=some (false,1):=by kernel_rfl
theorem A1B:U7 prog 168=some (true,3):=by kernel_rfl
theorem A8C:U7 prog 191=some (false,1):=by kernel_rfl
theorem B1n {h d g} (H:A7H d=some g):∀ L,FnW prog 209 [.string d] h L (.bool g):=by
 intro L
 refine J2.enter func209 z z z<|Sr<|An z<|Sq<|Sq ?_
 obtain ⟨i,j,k⟩:=J6 H
 refine T.ck (α:=Bool) [0] (λc=>([(11,.bool c)],L,λhh=>i=c)) ?_ ?_
 ·have H:=j
  refine Rg<|Mv z<|Vv (V.B2R underlying9 z)<|We z z<|Mv z<|T.bH 7 H z (λH=>?_) λH=>?_
  ·refine S2<|Sk<|Kt z<|Nt<|T.mt true (M0 H)
  refine Mv z<|Vv (V.B2R underlying9 z)<|Wg z z<|Kf z<|Nt<|T.mt (decide ((12:Int)<(d.size:Int))) (M0 H)
 rintro c w x m
 have H:=I4 m k
 refine T.norm [11,0] z<|T.fl ?_
 refine T.cH H z (λH=>?_) λH=>?_
 ·exact Sg z<|Nr<|Tr<|E1 H
 refine Ks<|Sq<|Sm z<|Vv (V.B2R underlying9 z)<|Mv z<|Nt ?_
 obtain ⟨n,o,f⟩:=J6 H
 have H:=o
 refine Bl<|T.lk [0,13] (FUEL,(0:Int)) (λ⟨a,b⟩=>([(14,qi b)],L,λhh=>iter (B1p d) a b=some n)) H ?_
 rintro ⟨a,b⟩ y A p
 obtain ⟨q,B,rfl,H,e⟩:=G7 p
 refine T.norm [14,0,13] z<|T.fl ?_
 refine Sr<|Wl z z<|Nt<|Sq<|T.cH H z (λH=>?_) λH=>?_
 ·refine Ks<|Sq<|Bl<|Sm z<|An z<|Sm z<|Mv z<|bE H λC r H=>Vv (V.C5W underlying9 z z r)<|Wl z z<|Mv z<|T.bH 21 H z (λH=>?_) λH=>?_
  ·exact S2<|S2<|Kt z<|Nt<|Ct z<|Sg z<|Nr<|Br<|Tr<|Tr<|have H:=D6 H e; Br<|Tr<|have H:=I4 H f; E1 H
  refine Mv z<|Mv z<|bE H λD s H=>Vv (V.C5W underlying9 z z s)<|Wg z z<|Kf z<|Nt<|T.cH H z (λH=>?_) λH=>?_
  ·exact Sg z<|Nr<|Br<|Tr<|Tr<|have H:=D6 H e; Br<|Tr<|have H:=I4 H f; E1 H
  refine T.skip<|Bn<|Th<|Rg<|bE H λt u H=>Vv (V.H5 z z u)<|Mv z<|Nt<|T.ag (q,t) (D8 H e)
 exact T.exit<|Te<|Te<|have H:=D6 H e; Be<|Th<|have H:=I4 H f; Sg z<|Nr<|E1 H
theorem B1B {h a b} (H:A7D a=some b):∀ L,FnW prog 210 [.string a] h L (.bool b):=by
 intro L
 refine J2.enter func210 z z z<|Sr<|An z<|Sm z<|Vv (V.seq z z)<|Mv z<|T.bH 5 H z (λH=>?_) λH=>?_
 ·exact S2<|Kt z<|Ag z<|Nr<|E1 H
 exact Mv z<|bE H λf c H=>To (O.cs (B1n c _) λi k=>Kf z<|Ag z<|Nr<|E1 H)
theorem C0o {h n e o} (s:I9 h n e) (H:B0Q e=some o):∀ L,FnW prog 158 [.agg n.toArray] h L (.int .i64 o):=by
 intro L
 obtain ⟨aw,rfl,b⟩:=s
 refine J2.enter func158 z z z<|Sr<|To (O.U4 z z z λax ay aA a=>An z<|Sq<|Bl<|Sq ?_)
 obtain ⟨t,w,x⟩:=J6 H
 refine T.ck (α:=Bool) [1] (λf=>([(5,.bool f)],L,λhh=>t=f)) ?_ ?_
 ·have H:=w
  refine Rg<|Vv (V.fa A0l z)<|Vv (V.M8 (k:=0) J5 z a z)<|bE H λaB y H=>To (O.cs (B1n y _) λaD aG=>Vv (V.not z)<|Mv z<|T.bH 10 H z (λH=>?_) λH=>?_)
  ·refine S2<|S2<|Kt z<|Mv z<|S2<|S2<|Kt z<|Mv z<|S2<|S2<|Kt z<|An z<|T.mt true (M0 H)
  refine Vv (V.fa B8X z)<|Vv (V.M8 (k:=1) J5 z a.u z)<|bE H λaI C H=>To (O.cs (B1B C _) λaK aN=>Vv (V.not z)<|Kf z<|Mv z<|T.bH 16 H z (λH=>?_) λH=>?_)
  ·refine S2<|S2<|Kt z<|Mv z<|S2<|S2<|Kt z<|An z<|T.mt true (M0 H)
  refine Vv (V.fa A8J z)<|Vv (V.M8 (k:=2) J5 z a.u z)<|bE H λaO G H=>To (O.cs (B1B G _) λaS aV=>Vv (V.not z)<|Kf z<|Mv z<|T.bH 22 H z (λH=>?_) λH=>?_)
  ·refine S2<|S2<|Kt z<|An z<|T.mt true (M0 H)
  refine Vv (V.fa B0L z)<|Vv (V.M8 (k:=5) J5 z a.u z)<|bE H λK M H=>To (O.G5 z (B1B M _) z λaW aX aY aZ N=>?_)
  obtain ⟨rfl,P⟩:=N
  refine P8 _ P<|Vv (V.not z)<|Kf z<|An z<|T.mt (!K) (M0 H)
 rintro f a0 a1 S
 have H:=I4 S x
 refine T.norm [5,1] z<|T.fl ?_
 refine T.cH H z (λH=>?_) λH=>?_
 ·exact Sg z<|Nr<|Br<|Tr<|E1 H
 refine Sq ?_
 obtain ⟨U,W,X⟩:=J6 H
 refine T.ck (α:=Bool) [1] (λg=>([(28,.bool g)],L,λhh=>U=g)) ?_ ?_
 ·have H:=W
  refine Rg<|Vv (V.fa B5C z)<|Vv (V.M8 (k:=3) D7 z a.u z)<|Wl z z<|Mv z<|T.bH 32 H z (λH=>?_) λH=>?_
  ·refine S2<|Sk<|Kt z<|An z<|T.mt true (M0 H)
  refine Vv (V.fa B5C z)<|Vv (V.M8 (k:=3) D7 z a.u z)<|Wg z z<|Kf z<|An z<|T.mt (decide ((9999:Int)<e.A0j)) (M0 H)
 rintro g a2 a3 Y
 have H:=I4 Y X
 refine T.norm [28,1] z<|T.fl ?_
 refine T.cH H z (λH=>?_) λH=>?_
 ·exact Sg z<|Nr<|Br<|Tr<|E1 H
 refine Sq ?_
 obtain ⟨Z,aa,ab⟩:=J6 H
 refine T.ck (α:=Bool) [1] (λi=>([(37,.bool i)],L,λhh=>Z=i)) ?_ ?_
 ·have H:=aa
  refine Rg<|Vv (V.fa A5x z)<|Vv (V.M8 (k:=4) D7 z a.u z)<|Wl z z<|Mv z<|T.bH 41 H z (λH=>?_) λH=>?_
  ·refine S2<|Sk<|Kt z<|An z<|T.mt true (M0 H)
  refine Vv (V.fa A5x z)<|Vv (V.M8 (k:=4) D7 z a.u z)<|Wg z z<|Kf z<|An z<|T.mt (decide ((2:Int)<e.A0x)) (M0 H)
 rintro i a4 a5 ac
 have H:=I4 ac ab
 refine T.norm [37,1] z<|T.fl ?_
 refine T.cH H z (λH=>?_) λH=>?_
 ·exact Sg z<|Nr<|Br<|Tr<|E1 H
 refine Sr<|Vv (V.fa A0G z)<|Vv (V.M8 (k:=8) A1J z a.u z)<|Vv (V.Q3 X7 z b)<|Wg z z<|An z<|T.cH H z (λH=>?_) λH=>?_
 ·exact Sg z<|Nr<|Br<|Tr<|E1 H
 refine T.skip<|Bn<|Th<|Sq<|Sr<|Vv (V.fa A0G z)<|Vv (V.M8 (k:=8) A1J z a.u z)<|Vv (V.Q3 X7 z b)<|Mv z<|Nt ?_
 obtain ⟨ad,ae,m⟩:=J6 H
 have H:=ae
 refine Bl<|T.lk [1,52,53] (FUEL,(0:Int)) (λ⟨c,d⟩=>([(54,qi d)],L,λhh=>iter (A4q e) c d=some ad)) H ?_
 rintro ⟨c,d⟩ a6 a7 af
 obtain ⟨p,a8,rfl,H,j⟩:=G7 af
 refine T.norm [54,1,52,53] z<|T.fl ?_
 refine Sr<|Wl z z<|Nt<|Sq<|T.cH H z (λH=>?_) λH=>?_
 ·refine Ks<|Sq<|Bl<|Sm z<|bE H λa9 q H=>?_
  obtain ⟨ah,ai,rfl⟩:=G6.at b q
  refine Vv (V.ix X7 z z b (E8 q))<|Vv (V.R5 J5 z ai.u z)<|Ag z<|An z<|Sm z<|bE H λal aj H=>To (O.cs (B1n aj _) λaz bb=>Vv (V.not z)<|Mv z<|T.bH 62 H z (λH=>?_) λH=>?_)
  ·exact S2<|S2<|S2<|S2<|S2<|S2<|Kt z<|Nt<|Ct z<|Sg z<|Nr<|Br<|Tr<|Tr<|have H:=D6 H j; Br<|Tr<|have H:=I4 H m; E1 H
  refine Mv z<|Wg z z<|Mv z<|T.bH 65 H z (λH=>?_) λH=>?_
  ·refine Vv (V.fa A0G z)<|Vv (V.M8 (k:=8) A1J z a.u z)<|Mv z<|bE H λbc an H=>Vv (V.Z4 z z an)<|bE H λbd r H=>?_
   obtain ⟨be,ao,rfl⟩:=G6.at b r
   refine Vv (V.ix X7 z z b (E8 r))<|Vv (V.R5 J5 z ao.u z)<|Mv z<|Vv (V.sge z z)<|Kt z<|Kf z<|Nt<|T.cH H z (λH=>?_) λH=>?_
   ·exact Sg z<|Nr<|Br<|Tr<|Tr<|have H:=D6 H j; Br<|Tr<|have H:=I4 H m; E1 H
   refine T.skip<|Bn<|Th<|Rg<|bE H λap aq H=>Vv (V.H5 z z aq)<|Mv z<|Nt<|T.ag (p,ap) (D8 H j)
  refine S2<|S2<|S2<|S2<|Kf z<|Kf z<|Nt<|Cf z<|T.skip<|Bn<|Th<|Rg<|bE H λar au H=>Vv (V.H5 z z au)<|Mv z<|Nt<|T.ag (p,ar) (D8 H j)
 exact T.exit<|Te<|Te<|have H:=D6 H j; Be<|Th<|have H:=I4 H m; Sg z<|Nr<|E1 H
theorem B9j {h c a b} (f:I9 h c a) (H:A9j a=some b):∀ L,J2 prog 159 [.agg c.toArray] h (L) (λv h' L'=>∃ v0_1,v=.agg #[.string b.F8,.string b.A1X,.string b.X4,.int .i64 b.A0j,.int .i64 b.A0x,.string b.A0y,.bool b.X9,.bool b.Y8,v0_1]∧L'=L∧G6 VS 1 h' v0_1 b.O9):=by
 intro L
 obtain ⟨w,rfl,g⟩:=f
 refine J2.enter func159 z z z<|Sr<|To (O.box z z z λx=>To (O.alloc A1M z z λy=>Nt<|Sr<|Vv (V.fa A0G z)<|Vv (V.ldO (k:=8) A1J z (j:=1) z z)<|bE H λA i H=>To (O.G5 z (A9Y g i _) z λd B C D m=>?_)))
 obtain ⟨E,n,o⟩:=m
 refine P8 _ n<|Vv (V.fa A0G z)<|T.R8 0 z λp q=>To (O.st (vs:=[d]) (k:=8) A1J z z (j:=2) z q (by (simp only [BT,p]) <;> rfl) ?_)
 refine T.fl ?_
 refine Nt<|Sr<|Vv (V.A5C (j:=0) (by exact V7) z z) ?_
 refine T.fs [1] ?_
 refine T.K3 λG I r=>have e:=A7.slc r o.u; To (O.stF (vs:=[.string a.F8,.string a.A1X,.string a.X4,qi a.A0j,qi a.A0x,.string a.A0y,.bool a.X9,.bool a.Y8,d]) V7 z z (j:=1) z z (by (simp only [BT,G6.one e]) <;> rfl) z ?_)
 refine T.freeze λJ K s=>have t:=Z8.of s; Nr<|T.drop ?_
 cases H
 exact T.rl z (RVs.cons (RV.B3m z t V7) RVs.nil) ⟨_,z,z,e.u⟩
theorem B1A {h a b c} (H:bytealg_CompareString a b=some c):∀ L,FnW prog 211 [.string a,.string b] h L (.int .i64 c):=by
 intro L
 refine J2.enter func211 z z z<|Sr<|An z<|Sm z<|Mv z<|Vv (V.D4L func232 (by kernel_rfl) z (by kernel_rfl) (by kernel_rfl) z z) ?_
 exact Ag z<|Nr<|E1 H
theorem A9W {h a b c} (H:strings_Compare a b=some c):∀ L,FnW prog 160 [.string a,.string b] h L (.int .i64 c):=by
 intro L
 exact J2.enter func160 z z z<|Sr<|An z<|Sm z<|Mv z<|bE H λg d H=>To (O.cs (B1A d _) λj m=>Ag z<|Nr<|E1 H)
theorem B4g {h a b c d e} (i:L9 h a b) (j:L9 h c d) (H:A1g b d=some e):∀ L,FnW prog 111 [.agg a.toArray,.agg c.toArray] h L (.int .i64 e):=by
 intro L
 obtain rfl:=i
 obtain rfl:=j
 refine J2.enter func111 z z z<|Sr<|To (O.U4 z z z λs t w f=>To (O.U4 z z z λx y A g=>An z<|Sq<|Sr<|Vv (V.fa A7S z)<|Vv (V.M8 (k:=0) J5 z f.u z)<|Vv (V.fa A7S z)<|Vv (V.M8 (k:=0) J5 z g z)<|bE H λB m H=>To (O.cs (A9W m _) λD G=>An z<|Sm z<|Wn z z<|Nt<|T.cH H z (λH=>?_) λH=>?_)))
 ·exact Sm z<|Ag z<|Nr<|Tr<|E1 H
 exact Ks<|Sr<|Vv (V.fa A8i z)<|Vv (V.M8 (k:=1) J5 z f.u z)<|Vv (V.fa A8i z)<|Vv (V.M8 (k:=1) J5 z g.u z)<|bE H λI p H=>To (O.cs (A9W p _) λK N=>Ag z<|Nr<|E1 H)
theorem B5R {h a b d c} (H:A7J a b d=some c):∀ L,FnW prog 162 [.string a,.string b,.int .u8 d] h L (.agg #[.string c.fA,.string c.fB,.int .u8 c.F9]):=by
 intro L
 refine J2.enter func162 z z z<|Sr<|To (O.alloc A9Z z z λg=>Nt<|Sm z<|Mv z<|Vv (V.minS z z)<|Mv z<|Mv z<|Vv (V.maxS z z)<|Mv z<|Vv (V.bld (xs:=[(0,.tmp 9),(1,.tmp 12),(2,.tmp 13)]) (cs:=[_,_,_]) C2T C2S z (F6.cons z z z (F6.cons z z z (F6.cons z z z F6.nil))))<|To (O.stF (vs:=[.string (minS a b),.string (maxS a b),.int .u8 d]) A1B z z (j:=0) z z z z<|T.freeze λi k e=>have f:=Z8.of e; Nr ?_))
 cases H
 exact T.rl z (RVs.cons (RV.B3m z f A1B) RVs.nil) ⟨z,z⟩
theorem C3B {h a} (H:B4V  = some a):∀ L,J2 prog 109 [] h (L) (λv h' L'=>∃ b vo0_1 csso0_2 vo0_4 csso0_5 mbo0_7 eso0_8,v=.pointer (some ⟨b,0,none⟩)∧L'=blk b (.cells [vo0_1,vo0_4,.map (some mbo0_7)].toArray 193)::F3 121 9 vo0_1 csso0_2::F3 168 3 vo0_4 csso0_5::blk mbo0_7 (.map eso0_8.toArray eso0_8.length)::L∧A7 I9 h' csso0_2 a.K7.V6∧A7 L9 h' csso0_5 a.K7.A0L∧X8 Value.string false (VI .i64) h' 0 eso0_8 a.fat):=by
 intro L
 refine J2.enter func109 z z z<|Sr<|An z<|Sr<|To (O.mkM z λf=>have c:X8 Value.string false (VI .i64) h 0 ([]:List MapEntry) ([]:List (ByteArray×Int)):=trivial; Vv (V.bld (xs:=[(1,.tmp 1)]) (cs:=[_,_,_]) C5z C4E z (F6.cons z z z F6.nil))<|To (O.box z z z λg=>Ag z<|Nr<|T.Q8 121 9<|have d:A7 I9 h [] ([]:List E9):=A7.nil; T.Q8 168 3<|have e:A7 L9 h [] ([]:List I1):=A7.nil; T.fs [3] ?_))
 refine T.fs [1,2,3] ?_
 cases H
 exact T.rl z (Rv z) ⟨_,_,_,_,_,_,_,z,z,d,e,c⟩
theorem A9l {h a b c} (d:Pt A1p h a b) (H:A4Q b=some c):∀ L,FnW prog 117 [a] h L (.bool c):=by
 intro L
 refine J2.enter func117 z z z<|Sr<|An z<|Sm z<|have e:=d; ?_
 obtain ⟨j,_,rfl,f,⟨m,n,o,rfl,p,q,g⟩⟩:=e
 refine Vv (V.D1J underlying114 z)<|Mv z<|Mv z<|NL z A5i A8C f z<|have i:=g; ?_
 obtain ⟨r,_,rfl,_⟩:=i
 exact Vv (V.D3B underlying191 z)<|Kf z<|Ag z<|Nr<|E1 H
theorem C3K {h o i p a q m r s} (f:G6 L9 3 h o i) (C:L9 h p a) (w:B2c h q m) (H:B1H i a m=some (r,s)):∀ L,FnW prog 165 [o,.agg p.toArray,q] h L (.tuple #[.int .i64 r,.bool s]):=by
 intro L
 obtain rfl:=C
 refine J2.enter func165 z z z<|Sr<|To (O.U4 z z z λak am an x=>Ag z<|An z<|Sm z<|Vv (V.Q3 A0X z f)<|An z<|Sm z<|Ag z<|An z<|Sq ?_)
 obtain ⟨D,E,G⟩:=J6 H
 have H:=E
 refine Bl<|T.lk [0,2,4,8] (FUEL,(i.length:Int),(0:Int)) (λ⟨d,b,c⟩=>([(10,qi b),(9,qi c)],L,λhh=>iter (A0Z i a m) d (b,c)=some D)) H ?_
 rintro ⟨d,b,c⟩ e ao I
 obtain ⟨y,ap,rfl,H,n⟩:=G7 I
 refine T.norm [10,9,0,2,4,8] z<|T.fl ?_
 refine Sq<|Sm z<|Mv z<|Wl z z<|Nt<|T.cH H z (λH=>?_) λH=>?_
 ·refine Ks<|Bl<|Sm z<|Mv z<|bE H λaq J H=>Vv (V.H5 z z J)<|bE H λar K H=>Vv (V.A5g underlying3 underlying208 z K)<|bE H λau M H=>Vv (V.A3Y z z M)<|bE H λN P H=>Vv (V.A5g underlying208 underlying3 z P)<|An z<|Sq<|T.N7 (t:=(.vs [0,1,2,3,4,5] (.alt 6 (.g (.v 7 .done)) .no))) 9 0 0 z z H9 (by kernel_rfl) ?_
  refine Tm z z<|Tm z z<|Tm z z<|bE H λj A H=>?_
  obtain ⟨aw,S,rfl⟩:=G6.at f A
  refine Tv z (V.ix A0X z z f (E8 A))<|Tv z (V.ldS z S.u (by exact A1B)) ?_
  refine Tv z (V.ldS z x.u (by exact A1B)) ?_
  refine bE H λax U H=>?_
  obtain ⟨ay,aA,aB,W,X⟩:=B2c.call (w.u (g:=e)) (show L9 e [.string j.fA,.string j.fB,.int .u8 j.F9] j from rfl) (show L9 e [.string a.fA,.string a.fB,.int .u8 a.F9] a from rfl) U
  refine Tp z z (X2 z z) (O.A1l z W z (X _) z λaC aD aE aG Y=>?_) T.P6
  obtain ⟨rfl,Z⟩:=Y
  refine P8 _ Z<|T.O1 Li<|Tv z (V.lt z z)<|T.O6 (X2 z z)<|Th<|T.cH H z (λH=>?_) λH=>?_
  ·refine Rg<|Mv z<|bE H λaa ab H=>Vv (V.H5 z z ab)<|Ag z<|Ni<|Bn<|Th<|T.ag (y,b,aa) (D8 H n)
  refine Rg<|Mv z<|Ag z<|Ni<|Bn<|Th<|T.ag (y,N,c) (D8 H n)
 refine T.exit<|Te<|Te<|have H:=D6 H n; Be<|Th<|have H:=I4 H G; Sq<|T.N7 (t:=(.vs [0,1,2,3,4,5,6,7,8,9,10] (.alt 11 (.g (.v 12 (.v 13 (.alt 14 (.alt 15 .done .no) .no)))) .no))) 17 0 0 z z H9 (by kernel_rfl) ?_
 refine Tm z z<|Tm z z<|Tm z z<|Tv z (V.lt z z)<|Tm z z<|T.bH 39 H z (λH=>?_) λH=>?_
 ·refine Tm z z<|Tm z z<|Tm z z<|bE H λk B H=>?_
  obtain ⟨aI,ac,rfl⟩:=G6.at f B
  refine Tv z (V.ix A0X z z f (E8 B))<|Tv z (V.ldS z ac.u (by exact A1B)) ?_
  refine Tv z (V.ldS z x.u (by exact A1B)) ?_
  refine bE H λaJ ad H=>?_
  obtain ⟨aK,aM,aN,ae,af⟩:=B2c.call (w.u (g:=e)) (show L9 e [.string k.fA,.string k.fB,.int .u8 k.F9] k from rfl) (show L9 e [.string a.fA,.string a.fB,.int .u8 a.F9] a from rfl) ad
  refine Tp z z (X2 z z) (O.A1l z ae z (af _) z λaO aP aS aU ai=>?_) T.P6
  obtain ⟨rfl,aj⟩:=ai
  refine P8 _ aj<|T.O1 Li<|Tv z (V.eq z z)<|Tv z (V.pkT z z)<|Ts z z (X2 z z) (V.asg z) z ?_ T.P6
  refine Ts z z (X2 z z) (V.asg z) z ?_ T.P6
  exact T.O6 (X2 z z)<|Th<|T.ret<|E1 H
 refine T2 z z<|T2 z z<|T2 z z<|T.A4m z z (X2 z z) z ?_ T.P6
 refine T.O1 Lr<|Tk z<|Tv z (V.pkF z z)<|Ts z z (X2 z z) (V.asg z) z ?_ T.P6
 refine Ts z z (X2 z z) (V.asg z) z ?_ T.P6
 exact T.O6 (X2 z z)<|Th<|T.ret<|E1 H
theorem C4j {h d b e f g i k} (a:A7 L9 h b e) (m:G6 L9 3 h g i) (H:B8l e f i=some k):∀ L,J2 prog 161 [d,.int .i64 f,g] h (F3 168 3 d b::L) (λv h' L'=>∃ n,L'=F3 168 3 v n::L∧A7 L9 h' n k):=by
 intro L
 refine J2.enter func161 z z z<|Sr<|An z<|Sm z<|Mv z<|bE H λw q H=>Vv (V.C3T A0X z (j:=0) z a.len (.inr ⟨_,_,z,z⟩) (.inl ⟨z,z⟩) (A5a q))<|Nt<|Sm z<|Vv (V.Q3 A0X z m)<|An z<|Sq<|Sm z<|We z z<|Nt<|T.cH H z (λH=>?_) λH=>?_
 ·refine Sm z<|Ag z<|Nr<|Tr ?_
  cases H
  exact T.rl z (Rv z) ⟨_,z,a⟩
 refine Ks<|Sm z<|Vv (V.A4a A0X z (j:=0) z a.len)<|An z<|Sq<|Sm z<|Mv z<|We z z<|Nt<|T.cH H z (λH=>?_) λH=>?_
 ·refine Sm z<|Mv z ?_
  obtain ⟨r,o,c⟩:=G6.row m
  refine bE H λs p H=>To (O.apX A0X A0X A9Z z z z (j:=0) z (Src.fix o) o.wide (A7.ones L9.plain c) a c p z λx y A=>have t:A7 L9 h (b++r) s:=A7.ap a c p; Ag z<|Nr<|Tr ?_)
  cases H
  exact T.rl z (Rv z) ⟨_,z,t⟩
 refine Ks<|Sq<|Sm z<|Mv z<|bE H λB u H=>Vv (V.H5 z z u)<|Mv z<|dead H
theorem B5w {h b c d e f i} (m:Pt A1p h b c) (H:A2B c d e=some (f,i)):∀ L,FnW prog 118 [b,.string d,.string e] h L (.tuple #[.int .i64 f,.bool i]):=by
 intro L
 refine J2.enter func118 z z z<|Sg z<|An z<|Sq<|T.N7 (t:=(.vs [0,1,2,3,4,5,6] (.alt 7 (.g (.alt 8 (.g (.v 9 (.v 10 (.alt 11 (.alt 12 .done .no) .no)))) .no)) .no))) 14 0 0 z z H9 (by kernel_rfl) ?_
 refine Tm z z<|have n:=m; ?_
 obtain ⟨E,_,rfl,o,⟨G,I,J,rfl,K,p,M⟩⟩:=n
 refine TF z z z A0H<|Tv z (V.fa A5k z)<|Tv z (V.M8 (k:=1) A1N z o z)<|Tm z z<|Tm z z<|bE H λa q H=>Tp z z (X2 z z) (O.G5 z (B5R q _) z λN j P S r=>?_) T.P6
 obtain ⟨rfl,s⟩:=r
 refine P8 _ s<|T.O1 Li<|bE H λ⟨U,W⟩ w H=>Tp z z (X2 z z) (O.G5 z (C3K p.u (show L9 j [.string a.fA,.string a.fB,.int .u8 a.F9] a from z) (show B2c j (.func (.func 111) #[] #[]) A1g from ⟨⟨z,z⟩,.inr ⟨111,[],[],z,λX Y Z aa x ab ac y ad A B=>B4g x y A B⟩⟩) w _) z λae af ag ai C=>?_) T.P6
 obtain ⟨rfl,D⟩:=C
 refine P8 _ D<|T.O1 Li<|Tv z (V.ext z z)<|Tv z (V.ext z z)<|Ts z z (X2 z z) (V.asg z) z ?_ T.P6
 refine Ts z z (X2 z z) (V.asg z) z ?_ T.P6
 exact T.O6 (X2 z z)<|Th<|T.ret<|E1 H
theorem C5J {h f b v0_1 css0_2 v0_4 css0_5 mb0_7 es0_8 o p q q_0} (hR0_3:A7 I9 h css0_2 b.K7.V6) (hR0_6:A7 L9 h css0_5 b.K7.A0L) (hM0_9:X8 Value.string false (VI .i64) h 0 es0_8 b.fat) (D:I9 h o p) (H:C0f b p=some (q,q_0)):∀ L,J2 prog 110 [.pointer (some ⟨f,0,none⟩),.agg o.toArray] h (blk f (.cells [v0_1,v0_4,.map (some mb0_7)].toArray 193)::F3 121 9 v0_1 css0_2::F3 168 3 v0_4 css0_5::blk mb0_7 (.map es0_8.toArray es0_8.length)::L) (λv h' L'=>∃ vl0_1 cssl0_2 vl0_4 cssl0_5 mbl0_7 esl0_8,v=.int .i64 q∧L'=blk f (.cells [vl0_1,vl0_4,.map (some mbl0_7)].toArray 193)::F3 121 9 vl0_1 cssl0_2::F3 168 3 vl0_4 cssl0_5::blk mbl0_7 (.map esl0_8.toArray esl0_8.length)::L∧A7 I9 h' cssl0_2 q_0.K7.V6∧A7 L9 h' cssl0_5 q_0.K7.A0L∧X8 Value.string false (VI .i64) h' 0 esl0_8 q_0.fat):=by
 intro L
 obtain ⟨s,rfl,w⟩:=D
 refine J2.enter func110 z z z<|Sr<|To (O.U4 z z z λaq ar au c=>An z<|Sq<|Sm z<|bE H λd G H=>To (O.G5 z (J2.A6F (val:=.bool d) func117 z C7a λaw ax I=>J2.A6F (val:=.bool d) func117 z A1C λay aA J=>J2.A6F (val:=.bool d) func117 z A1C λaB aC K=>J2.A6F (val:=.bool d) func117 z C9x λM aD N=>?_) z λaE aG aI aJ P=>?_))
 ·have S:=A7.slc J hR0_3.u
  have U:=A7.slc K hR0_6.u
  have W:Mp Value.string false (VI .i64) M (.map (some mb0_7)) b.fat:=⟨_,_,z,N,hM0_9.u⟩
  exact A9l (Pt.mk I.u ⟨v0_1,v0_4,(.map (some mb0_7)),z,S.u,U.u,W⟩) G _
 obtain ⟨rfl,X⟩:=P
 refine P8 _ X<|Nt<|T.cH H z (λH=>?_) λH=>?_
 ·refine Sg z<|Nr<|Tr ?_
  cases H
  exact T.rl z (Rv z) ⟨_,_,_,_,_,_,z,z,hR0_3.u,hR0_6.u,hM0_9.u⟩
 refine Ks<|Sq<|Sr<|Vv (V.ldS z c.u (by exact V7)) ?_
 refine bE H λaK Y H=>To (O.cs (C0o ⟨s,z,w.u⟩ Y _) λy aO=>An z<|Sm z<|Wn z z<|Nt<|T.cH H z (λH=>?_) λH=>?_)
 ·refine Sm z<|Ag z<|Nr<|Tr ?_
  cases H
  exact T.rl z (Rv z) ⟨_,_,_,_,_,_,z,z,hR0_3.u,hR0_6.u,hM0_9.u⟩
 refine Ks<|Sq<|Sq<|T.fs [3,1] ?_
 refine T.N7 (t:=(.vs [0,1,2,3,4,5,6,7,8,9] (.alt 10 (.alt 11 .done .no) .no))) 13 2 2 z z H9 (by kernel_rfl) ?_
 refine Tm z z<|TF z z z A5i<|Tv z (Val.XA λ_ _ _=>V.ldO (k:=2) A8C z (j:=0) z z)<|Tv z (V.fa A0l z)<|Tv z (V.M8 (k:=0) J5 z c.u z)<|bE H λ⟨aP,aS⟩ ab H=>?_
 obtain ⟨_,ac,rfl⟩:=X8.lookO (r:=mb0_7) (zc:=[qi 0]) (agg:=false) underlying191 (A0z.str underlying9) J7 (show (VI .i64) y [qi 0] (0:Int) from rfl) hM0_9.u ab
 refine Tv z (Val.XA λ_ _ _=>V.lkO z z (j:=1) z ac)<|Tm z z<|Tv z (V.ext z z)<|Tv z (V.ext z z)<|Ts z z (X3 [1,1] [1,1] z z) (V.asg z) z ?_ T.P6
 refine Ts z z (X3 [1,1] [1,1] z z) (V.asg z) z ?_ T.P6
 refine T.O6 (X3 [1,1] [1,1] z z)<|Th<|Sm z<|Nt<|T.cH H z (λH=>?_) λH=>?_
 ·refine Sg z<|Nr<|Tr<|T.fs [1,3,3,3] ?_
  cases H
  exact T.rl z (Rv z) ⟨_,_,_,_,_,_,z,z,hR0_3.u,hR0_6.u,hM0_9.u⟩
 refine Ks<|Sq<|Sm z<|NF z A0H<|Vv (V.fa A5t z)<|Vv (V.ldO (k:=0) N9 z (j:=0) z z)<|Vv (V.A4a O7 z (j:=2) z hR0_3.len)<|We z z<|Nt<|T.cH H z (λH=>?_) λH=>?_
 ·refine Sg z<|Nr<|Tr<|T.fs [1,3,3,3] ?_
  cases H
  exact T.rl z (Rv z) ⟨_,_,_,_,_,_,z,z,hR0_3.u,hR0_6.u,hM0_9.u⟩
 refine Ks<|Sq<|T.fs [1,2,2] ?_
 refine T.N7 (t:=(.vs [0,1,2,3,4,5,6,7,8,9,10,11] (.alt 12 .done .no))) 12 3 2 z z H9 (by kernel_rfl) ?_
 refine Tm z z<|TF z z z A5i<|Tv z (Val.XA λ_ _ _=>V.ldO (k:=2) A8C z (j:=0) z z)<|Tv z (V.fa A0l z)<|Tv z (V.M8 (k:=0) J5 z c.u z)<|Tm z z<|TF z z z A0H<|Tv z (V.fa A5t z)<|Tv z (Val.XA λ_ _ _=>V.ldO (k:=0) N9 z (j:=0) z z)<|Tv z (Val.XA λ_ _ _=>V.A4a O7 z (j:=1) z hR0_3.len)<|bE H λaU ad H=>Tp z z (X3 [1,1] [2,2,2] z z) (O.A9O (agg:=false) (E:=(VI .i64)) (cs:=[qi (b.K7.V6.length:Int)]) underlying191 (A0z.str underlying9) z z z (j:=2) z hM0_9.u (show (VI .i64) y [qi (b.K7.V6.length:Int)] (b.K7.V6.length:Int) from z) _ (.inl z) λaV A=>?_) T.P6
 rw [Option.some.inj ad] at A
 refine T.fl ?_
 refine T.O6 (SX.one (XA.fr [2,2] Lr z) z)<|Th<|Sq<|T.norm [0,3] z<|T.fl ?_
 refine T.fs [2,2] ?_
 refine T.N7 (t:=(.vs [0,1,2,3,4] (.x 5 (.v 6 (.alt 7 (.g (.alt 8 (.alt 9 (.g (.vs [10,11,12] (.alt 13 .done .no))) .no) .no)) .no))))) 9 2 0 z z H9 (by kernel_rfl) ?_
 refine Tm z z<|Tm z z<|TF z z z A0H<|Tv z (V.fa A5t z)<|T.tx z z (Val.XA λ_ _ _=>V.ldO (k:=0) N9 z (j:=0) z z) z Calm.i<|Tv z (V.ldS z c.u (by exact V7)) ?_
 refine bE H λa ae H=>Tp z z (X3 [] [1,1] z z) (O.G5 z (B9j ⟨s,z,w.u⟩ ae _) z λaW B aX aY af=>?_) T.P6
 obtain ⟨m,rfl,ag,ai⟩:=af
 refine P8 _ ag<|T.O1 Li<|Tp z z (X3 [] [1,1] z z) (O.bs O7 A1M z (e:=z) (hk:=z) (xs:=[.tmp 52]) (hv:=CO.eq (CO.cons z CO.nil)) (hw:=O4.of z) (hd:=z) λaZ=>?_) T.P6
 have n:A7 I9 B [[.string a.F8,.string a.A1X,.string a.X4,qi a.A0j,qi a.A0x,.string a.A0y,.bool a.X9,.bool a.Y8,m]] ([a]:List E9):=(A7.cons ⟨m,z,ai⟩ A7.nil)
 refine bE H λaj C H=>Tp z z (X3 [] [2,2] z z) (O.apX O7 O7 A1M z z z (j:=2) z (Src.row (j:=0) z) (O4.of z) (A7.ones I9.plain n) hR0_3.u n C z λak a0 a1=>?_) T.P6
 have am:A7 I9 B (css0_2++[[.string a.F8,.string a.A1X,.string a.X4,qi a.A0j,qi a.A0x,.string a.A0y,.bool a.X9,.bool a.Y8,m]]) aj:=A7.ap hR0_3.u n C
 refine T.fl ?_
 refine T.fs [1] ?_
 refine T.drop<|T.O1 Lr<|TF z z z A0H<|Tv z (V.fa A5t z)<|T.R8 0 z λan ao=>Tp z z (SX.one (XA.fr [] Lr z) z) (O.st (vs:=[ak]) (k:=0) N9 z z (j:=1) z ao (by (simp only [BT,an]) <;> rfl) ?_) T.P6
 refine T.fl ?_
 refine T.O6 (SX.one (XA.fr [] Lr z) z)<|Th<|Sg z<|Nr<|T.fs [2,3,3,3] ?_
 cases H
 exact T.rl z (Rv z) ⟨_,_,_,_,_,_,z,z,am,hR0_6.u,A.u⟩
theorem C4D {h m c v0_1 css0_2 v0_4 css0_5 mb0_7 es0_8 a b A B q_0} (hR0_3:A7 I9 h css0_2 c.K7.V6) (hR0_6:A7 L9 h css0_5 c.K7.A0L) (hM0_9:X8 Value.string false (VI .i64) h 0 es0_8 c.fat) (H:B7k c a b A=some (B,q_0)):∀ L,J2 prog 112 [.pointer (some ⟨m,0,none⟩),.string a,.string b,.int .u8 A] h (blk m (.cells [v0_1,v0_4,.map (some mb0_7)].toArray 193)::F3 121 9 v0_1 css0_2::F3 168 3 v0_4 css0_5::blk mb0_7 (.map es0_8.toArray es0_8.length)::L) (λv h' L'=>∃ vl0_1 cssl0_2 vl0_4 cssl0_5 mbl0_7 esl0_8,v=.int .i64 B∧L'=blk m (.cells [vl0_1,vl0_4,.map (some mbl0_7)].toArray 193)::F3 121 9 vl0_1 cssl0_2::F3 168 3 vl0_4 cssl0_5::blk mbl0_7 (.map esl0_8.toArray esl0_8.length)::L∧A7 I9 h' cssl0_2 q_0.K7.V6∧A7 L9 h' cssl0_5 q_0.K7.A0L∧X8 Value.string false (VI .i64) h' 0 esl0_8 q_0.fat):=by
 intro L
 refine J2.enter func112 z z z<|Sr<|An z<|Sq<|Sm z<|bE H λo E H=>To (O.G5 z (J2.A6F (val:=.bool o) func117 z C7a λaZ a0 G=>J2.A6F (val:=.bool o) func117 z A1C λa1 a2 I=>J2.A6F (val:=.bool o) func117 z A1C λa3 a4 J=>J2.A6F (val:=.bool o) func117 z C9x λK a5 M=>?_) z λa6 a7 a8 a9 N=>?_)
 ·have P:=A7.slc I hR0_3.u
  have S:=A7.slc J hR0_6.u
  have U:Mp Value.string false (VI .i64) K (.map (some mb0_7)) c.fat:=⟨_,_,z,M,hM0_9.u⟩
  exact A9l (Pt.mk G.u ⟨v0_1,v0_4,(.map (some mb0_7)),z,P.u,S.u,U⟩) E _
 obtain ⟨rfl,W⟩:=N
 refine P8 _ W<|Nt<|T.cH H z (λH=>?_) λH=>?_
 ·refine Sg z<|Nr<|Tr ?_
  cases H
  exact T.rl z (Rv z) ⟨_,_,_,_,_,_,z,z,hR0_3.u,hR0_6.u,hM0_9.u⟩
 refine Ks<|Sq<|Sq ?_
 obtain ⟨X,Y,Z⟩:=J6 H
 refine T.ck (α:=Bool) [0,1,2,3] (λn=>([(27,.bool n)],blk m (.cells [v0_1,v0_4,.map (some mb0_7)].toArray 193)::F3 121 9 v0_1 css0_2::F3 168 3 v0_4 css0_5::blk mb0_7 (.map es0_8.toArray es0_8.length)::L,λhh=>X=n)) ?_ ?_
 ·have H:=Y
  refine Rg<|Mv z<|Wn z z<|Mv z<|T.bH 19 H z (λH=>?_) λH=>?_
  ·refine Mv z<|Wn z z<|Kt z<|Mv z<|T.bH 23 H z (λH=>?_) λH=>?_
   ·refine S2<|Sk<|Kt z<|Nt<|T.mt true (M0 H)
   refine Mv z<|Mv z<|Vv (V.seq z z)<|Kf z<|Nt<|T.mt (decide (a=b)) (M0 H)
  refine S2<|Kf z<|Mv z<|Mv z<|Mv z<|Vv (V.seq z z)<|Kf z<|Nt<|T.mt (decide (a=b)) (M0 H)
 rintro n aa ah ab
 have H:=I4 ab Z
 refine T.norm [27,0,1,2,3] z<|T.fl ?_
 refine T.cH H z (λH=>?_) λH=>?_
 ·refine Sg z<|Nr<|Tr ?_
  cases H
  exact T.rl z (Rv z) ⟨_,_,_,_,_,_,z,z,hR0_3.u,hR0_6.u,hM0_9.u⟩
 refine Ks<|Sq<|Sm z<|Mv z<|To (O.bs X7 C0j z (e:=z) (hk:=z) (xs:=[.tmp 28,.tmp 29]) (hv:=CO.eq (CO.cons z (CO.cons z CO.nil))) (hw:=O4.of z) (hd:=z) λac=>have w:A7 VS aa [[.string a],[.string b]] ([a,b]:List ByteArray):=(A7.cons z (A7.cons z A7.nil)); Vv (V.A4a X7 z (j:=0) z w.len)<|Mv z<|Nt ?_)
 obtain ⟨ad,ae,C⟩:=J6 H
 have H:=ae
 refine Bl<|T.lk [0,1,2,3,30,31] (FUEL,(0:Int)) (λ⟨d,f⟩=>([(32,qi f)],F3 9 1 (.slice (some ⟨ac,0,none⟩) 2 2) [[.string a],[.string b]]::blk m (.cells [v0_1,v0_4,.map (some mb0_7)].toArray 193)::F3 121 9 v0_1 css0_2::F3 168 3 v0_4 css0_5::blk mb0_7 (.map es0_8.toArray es0_8.length)::L,λhh=>iter (A8Q c a b) d f=some ad)) H ?_
 rintro ⟨d,f⟩ af al ai
 obtain ⟨aj,av,rfl,H,y⟩:=G7 ai
 refine T.norm [32,0,1,2,3,30,31] z<|T.fl ?_
 refine Sr<|Wl z z<|Nt<|Sq<|T.cH H z (λH=>?_) λH=>?_
 ·refine Ks<|Sq<|Bl<|Sr<|bE H λaz D H=>?_
  obtain ⟨ba,ak,rfl⟩:=A7.get w D
  refine Vv (V.ixR X7 z z (j:=0) z (A7.bd w D))<|Vv (V.ldR J5 z (j:=0) z ak z)<|An z<|Sm z<|NF z A5i<|Vv (V.ldO (k:=2) A8C z (j:=1) z z)<|Mv z<|bE H λ⟨bb,bc⟩ am H=>?_
  obtain ⟨_,an,rfl⟩:=X8.lookO (r:=mb0_7) (zc:=[qi 0]) (agg:=false) underlying191 (A0z.str underlying9) J7 (show (VI .i64) af [qi 0] (0:Int) from rfl) hM0_9.u am
  refine Vv (V.lkO z z (j:=4) z an)<|Mv z<|Wx z z<|Wx z z<|Ag z<|An z<|Sm z<|Vv (V.not z)<|Nt<|T.cH H z (λH=>?_) λH=>?_
  ·refine Sg z<|Nr<|Br<|Tr<|Tr<|have H:=D6 H y; Br<|Tr<|have H:=I4 H C; T.drop ?_
   cases H
   exact T.rl z (Rv z) ⟨_,_,_,_,_,_,z,z,hR0_3.u,hR0_6.u,hM0_9.u⟩
  refine T.skip<|Bn<|Th<|Rg<|bE H λao ap H=>Vv (V.H5 z z ap)<|Mv z<|Nt<|T.ag (aj,ao) (D8 H y)
 refine T.exit<|Te<|Te<|have H:=D6 H y; Be<|Th<|have H:=I4 H C; Sm z<|Mv z<|Mv z<|T.fs [4,4,4,4] ?_
 refine bE H λ⟨p,q⟩ aq H=>To (O.G5 z (J2.A6F (val:=.tuple #[qi p,.bool q]) func118 z C7a λbe bf ar=>J2.A6F (val:=.tuple #[qi p,.bool q]) func118 z A1C λbg bi au=>J2.A6F (val:=.tuple #[qi p,.bool q]) func118 z A1C λbj bk aw=>J2.A6F (val:=.tuple #[qi p,.bool q]) func118 z C9x λax bm ay=>?_) z λbn bo bp bq aA=>?_)
 ·have aB:=A7.slc au hR0_3.u
  have aC:=A7.slc aw hR0_6.u
  have aD:Mp Value.string false (VI .i64) ax (.map (some mb0_7)) c.fat:=⟨_,_,z,ay,hM0_9.u⟩
  exact B5w (Pt.mk ar.u ⟨v0_1,v0_4,(.map (some mb0_7)),z,aB.u,aC.u,aD⟩) aq _
 obtain ⟨rfl,aE⟩:=aA
 refine P8 _ aE<|Mv z<|Wx z z<|Wx z z<|Ag z<|An z<|Sq<|Sm z<|Nt<|T.cH H z (λH=>?_) λH=>?_
 ·refine Sg z<|Nr<|Tr<|T.fs [4] ?_
  refine T.drop ?_
  cases H
  exact T.rl z (Rv z) ⟨_,_,_,_,_,_,z,z,hR0_3.u,hR0_6.u,hM0_9.u⟩
 refine Ks<|Sq<|Sm z<|NF z A0H<|Vv (V.fa A5k z)<|Vv (V.ldO (k:=1) A1N z (j:=0) z z)<|Vv (V.A4a A0X z (j:=2) z hR0_6.len)<|We z z<|Nt<|T.cH H z (λH=>?_) λH=>?_
 ·refine Sg z<|Nr<|Tr<|T.fs [4] ?_
  refine T.drop ?_
  cases H
  exact T.rl z (Rv z) ⟨_,_,_,_,_,_,z,z,hR0_3.u,hR0_6.u,hM0_9.u⟩
 refine Ks<|Sq<|T.fs [2,1] ?_
 refine T.N7 (t:=(.vs [0,1,2,3,4] (.x 5 (.vs [6,7,8,9] (.alt 10 (.g (.alt 11 (.alt 12 (.g (.vs [13,14,15] (.alt 16 .done .no))) .no) .no)) .no))))) 12 2 0 z z H9 (by kernel_rfl) ?_
 refine Tm z z<|Tm z z<|TF z z z A0H<|Tv z (V.fa A5k z)<|T.tx z z (Val.XA λ_ _ _=>V.ldO (k:=1) A1N z (j:=0) z z) z Calm.i<|Tm z z<|Tm z z<|Tm z z<|Tm z z<|bE H λs aG H=>Tp z z (X3 [] [1,1] z z) (O.G5 z (B5R aG _) z λbr aI bt bu aJ=>?_) T.P6
 obtain ⟨rfl,aK⟩:=aJ
 refine P8 _ aK<|T.O1 Li<|Tp z z (X3 [] [1,1] z z) (O.bs A0X A9Z z (e:=z) (hk:=z) (xs:=[.tmp 73]) (hv:=CO.eq (CO.cons z CO.nil)) (hw:=O4.of z) (hd:=z) λbw=>?_) T.P6
 have aM:A7 L9 aI [[.string s.fA,.string s.fB,.int .u8 s.F9]] ([s]:List I1):=(A7.cons z A7.nil)
 refine T.K3 λbx bA aN=>have aO:=A7.slc aN aM.u; T.fs [1] ?_
 refine bE H λbB aP H=>Tp z z (SX.two (XA.fr [] Li z) (XA.fr [0,1] Li z)) (O.G5 z (C4j hR0_6.u aO aP _) z λaS bC bD bG aU=>?_) T.P6
 obtain ⟨bI,aV,aW⟩:=aU
 refine P8 _ aV<|T.O1 Li<|TF z z z A0H<|Tv z (V.fa A5k z)<|T.R8 0 z λaX aY=>Tp z z (SX.one (XA.fr [] Lr z) z) (O.st (vs:=[aS]) (k:=1) A1N z z (j:=1) z aY (by (simp only [BT,aX]) <;> rfl) ?_) T.P6
 refine T.fl ?_
 refine T.O6 (SX.one (XA.fr [] Lr z) z)<|Th<|Sq<|T.norm [0] z<|T.fl ?_
 refine Rg<|Ag z<|Nr<|T.fs [4] ?_
 refine T.drop<|T.fs [3,2,3,3] ?_
 cases H
 exact T.rl z (Rv z) ⟨_,_,_,_,_,_,z,z,hR0_3.u,aW,hM0_9.u⟩
theorem B5P {h af r1 ai aj ak} (aC:B1M h af r1) (H:A7E r1=some (ai,aj,ak)):∀ L,J2 prog 53 [.agg af.toArray] h (L) (λv h' L'=>∃ am,v=.tuple #[am,.int .i64 aj,.int .i64 ak]∧L'=L∧OPt A1p h' am ai):=by
 intro L
 obtain ⟨b1,b2,rfl,K,M⟩:=aC
 refine J2.enter func53 z z z<|Sr<|To (O.U4 z z z λb3 b4 b5 N=>Ag z<|Ag z<|An z<|Sr<|bE H λW aD H=>To (O.G5 z (C3B aD _) z λb6 b7 b8 b9 aE=>?_))
 obtain ⟨X,aG,aI,aJ,aK,aM,aN,rfl,aO,aP,aS,aU⟩:=aE
 refine P8 _ aO<|An z<|Sq<|Sr<|Vv (V.fa A3h z)<|Vv (V.M8 (k:=0) N9 z N.u z)<|Vv (V.Q3 O7 z K)<|Mv z<|Nt ?_
 obtain ⟨aV,aW,an⟩:=J6 H
 have H:=aW
 refine Bl<|T.lk [1,5,14,15] (FUEL,W.K7.V6,W.K7.A0L,W.fat,(0:Int),aG,aI,aJ,aK,aM,aN) (λ⟨D,n,o,p,E,q,r,s,w,x,e⟩=>([(16,qi E)],blk X (.cells [q,s,.map (some x)].toArray 193)::F3 121 9 q r::F3 168 3 s w::blk x (.map e.toArray e.length)::L,λhh=>iter (A2C r1) D (n,o,p,E)=some aV∧A7 I9 hh r n∧A7 L9 hh w o∧X8 Value.string false (VI .i64) hh 0 e p)) ⟨H,aP,aS,aU⟩ ?_
 rintro ⟨D,n,o,p,E,q,r,s,w,x,e⟩ bh bl ⟨aX,ao,ap,aq⟩
 obtain ⟨aY,bv,rfl,H,Y⟩:=G7 aX
 refine T.norm [16,1,5,14,15] z<|T.fl ?_
 refine Sr<|Wl z z<|Nt<|Sq<|T.cH H z (λH=>?_) λH=>?_
 ·refine Ks<|Sq<|Bl<|Sm z<|bE H λf ar H=>?_
  obtain ⟨bz,aZ,⟨au,rfl,aw⟩⟩:=G6.at K ar
  refine Vv (V.ix O7 z z K (E8 ar))<|Vv (V.ldS z aZ.u (by exact V7)) ?_
  refine To (O.alloc A1M z z λca=>Ag z<|To (O.stF (vs:=[.string f.F8,.string f.A1X,.string f.X4,qi f.A0j,qi f.A0x,.string f.A0y,.bool f.X9,.bool f.Y8,au]) V7 z z (j:=0) z z (by (simp only [BT,G6.one aw]) <;> rfl) z ?_))
  refine T.fl ?_
  refine T.freeze λcb cc a0=>have a1:=Z8.of a0; Nt<|Sm z<|Vv (V.ldS z a1 (by exact V7)) ?_
  refine bE H λ⟨cd,Z⟩ a2 H=>To (O.G5 z (C5J ao.u ap.u aq.u ⟨au,z,aw.u⟩ a2 _) z λce cf cg ci a3=>?_)
  obtain ⟨a4,a5,a6,a7,a8,a9,rfl,ah,al,av,az⟩:=a3
  refine P8 _ ah<|An z<|Sm z<|Wn z z<|Nt<|T.cH H z (λH=>?_) λH=>?_
  ·refine Sm z<|Mv z<|Ag z<|Ag z<|Ag z<|Nr<|Br<|Tr<|Tr<|have H:=D6 H Y; Br<|Tr<|have H:=I4 H an; T.drop<|T.drop<|T.drop<|T.drop ?_
   cases H
   exact T.rl z (RVs.cons (RV.tmp z) (RVs.cons (RV.tmp z) (Rv z))) ⟨_,z,z,OPt.nil⟩
  refine T.skip<|Bn<|Th<|Rg<|bE H λba bb H=>Vv (V.H5 z z bb)<|Mv z<|Nt<|T.ag (aY,Z.K7.V6,Z.K7.A0L,Z.fat,ba,a4,a5,a6,a7,a8,a9) ⟨(D8 H Y),al,av,az⟩
 refine T.exit<|Te<|Te<|have H:=D6 H Y; Be<|Th<|have H:=I4 H an; Sq<|Sr<|Vv (V.fa A8O z)<|Vv (V.M8 (k:=1) A1N z N.u z)<|Vv (V.Q3 A0X z M)<|Mv z<|Nt ?_
 obtain ⟨bc,bd,aa⟩:=J6 H
 have H:=bd
 refine Bl<|T.lk [1,5,30,31] (FUEL,n,o,p,(0:Int),q,r,s,w,x,e) (λ⟨G,y,A,B,I,a,i,b,m,c,d⟩=>([(32,qi I)],blk X (.cells [a,b,.map (some c)].toArray 193)::F3 121 9 a i::F3 168 3 b m::blk c (.map d.toArray d.length)::L,λhh=>iter (A2w r1) G (y,A,B,I)=some bc∧A7 I9 hh i y∧A7 L9 hh m A∧X8 Value.string false (VI .i64) hh 0 d B)) ⟨H,ao,ap,aq⟩ ?_
 rintro ⟨G,y,A,B,I,a,i,b,m,c,d⟩ cj ck ⟨be,ab,ac,ad⟩
 obtain ⟨ax,cm,rfl,H,P⟩:=G7 be
 refine T.norm [32,1,5,30,31] z<|T.fl ?_
 refine Sr<|Wl z z<|Nt<|Sq<|T.cH H z (λH=>?_) λH=>?_
 ·refine Ks<|Sq<|Bl<|Sm z<|bE H λC ay H=>?_
  obtain ⟨cn,bf,rfl⟩:=G6.at M ay
  refine Vv (V.ix A0X z z M (E8 ay))<|Vv (V.ldS z bf.u (by exact A1B)) ?_
  refine To (O.alloc A9Z z z λco=>Ag z<|To (O.stF (vs:=[.string C.fA,.string C.fB,.int .u8 C.F9]) A1B z z (j:=0) z z z z<|T.fl ?_))
  refine T.freeze λaA cp bg=>have J:=Z8.of bg; Nt<|Sr<|An z<|Sq<|Sq ?_
  obtain ⟨bi,bj,bk⟩:=J6 H
  refine T.ck (α:=Bool) [1,5,9,10,11,30,31,32] (λS=>([(56,.bool S)],blk X (.cells [a,b,.map (some c)].toArray 193)::F3 121 9 a i::F3 168 3 b m::blk c (.map d.toArray d.length)::L,λhh=>bi=S)) ?_ ?_
  ·have H:=bj
   refine T.N7 (t:=(.vs [0,1,2,3,4,5,6,7,8,9,10,11,12,13,14,15] (.alt 16 (.g (.vs [17,18,19] .done)) .no))) 21 0 0 z z H9 (by kernel_rfl) ?_
   refine Tv z (V.fa A7S z)<|Tv z (V.M8 (k:=0) J5 z J z)<|Tv z (V.fa A8i z)<|Tv z (V.M8 (k:=1) J5 z J z)<|Tv z (V.slt z z)<|Tm z z<|T.bH 42 H z (λH=>?_) λH=>?_
   ·refine Tm z z<|Tv z (V.eq z z)<|Tm z z<|T.bH 45 H z (λH=>?_) λH=>?_
    ·refine T2 z z<|T2 z z<|T2 z z<|Tk z<|T.A4m z z (X2 z z) z ?_ T.P6
     refine T.O1 Lr<|Tk z<|Tv z (V.pkT z z)<|Tv z (V.pkT z z)<|T.O6 (X2 z z)<|Th<|T.mt true (M0 H)
    refine Tv z (V.fa A8O z)<|Tv z (V.M8 (k:=1) A1N z N.u z)<|Tm z z<|bE H λcq bm H=>Tv z (V.Z4 z z bm)<|bE H λU aB H=>?_
    obtain ⟨cr,bn,rfl⟩:=G6.at M aB
    refine Tv z (V.ix A0X z z M (E8 aB))<|Tv z (V.ldS z bn.u (by exact A1B)) ?_
    refine Tv z (V.ldS z J (by exact A1B)) ?_
    refine bE H λbo bp H=>Tp z z (X2 z z) (O.G5 z (B4g (show L9 aA [.string U.fA,.string U.fB,.int .u8 U.F9] U from z) (show L9 aA [.string C.fA,.string C.fB,.int .u8 C.F9] C from z) bp _) z λcs ct cu cw bq=>?_) T.P6
    obtain ⟨rfl,br⟩:=bq
    refine P8 _ br<|T.O1 Li<|Tv z (V.le z z)<|Tv z (V.pkF z z)<|Tv z (V.pkT z z)<|T.O6 (X2 z z)<|Th<|T.mt (decide (bo≤(0:Int))) (M0 H)
   refine T2 z z<|T2 z z<|T2 z z<|T2 z z<|T2 z z<|T.A4m z z (X2 z z) z ?_ T.P6
   refine T.O1 Lr<|T2 z z<|Tv z (V.pkF z z)<|T.O6 (X2 z z)<|Th<|T.mt false (M0 H)
  rintro S cx cy bs
  have H:=I4 bs bk
  refine T.norm [56,1,5,9,10,11,30,31,32] z<|T.fl ?_
  refine T.cH H z (λH=>?_) λH=>?_
  ·refine Rg<|Mv z<|Vv (V.fa A7S z)<|Vv (V.M8 (k:=0) J5 z J.u z)<|Vv (V.fa A8i z)<|Vv (V.M8 (k:=1) J5 z J.u z)<|Vv (V.fa B5Y z)<|Vv (V.M8 (k:=2) B1j z J.u z)<|bE H λ⟨cA,ae⟩ bt H=>To (O.G5 z (C4D ab.u ac.u ad.u bt _) z λcB cC cD cE bu=>?_)
   obtain ⟨bw,bx,bA,bB,bC,bD,rfl,bG,bI,bJ,bK⟩:=bu
   refine P8 _ bG<|An z<|Sm z<|Wn z z<|Nt<|T.cH H z (λH=>?_) λH=>?_
   ·refine Sq<|T.N7 (t:=(.vs [0,1,2,3,4,5] (.alt 6 (.alt 7 (.alt 8 .done .no) .no) .no))) 10 0 0 z z H9 (by kernel_rfl) ?_
    refine Tv z (V.fa A3h z)<|Tv z (V.M8 (k:=0) N9 z N.u z)<|Tv z (V.Q3 O7 z K)<|Tm z z<|bE H λcG bM H=>Tv z (V.H5 z z bM)<|Tm z z<|Ts z z (X2 z z) (V.asg z) z ?_ T.P6
    refine Ts z z (X2 z z) (V.asg z) z ?_ T.P6
    refine Ts z z (X2 z z) (V.asg z) z ?_ T.P6
    refine T.O6 (X2 z z)<|Th<|T.ret<|Br<|Tr<|Tr<|have H:=D6 H P; Br<|Tr<|have H:=I4 H aa; T.drop<|T.drop<|T.drop<|T.drop ?_
    cases H
    exact T.rl z (RVs.cons (RV.tmp z) (RVs.cons (RV.tmp z) (Rv z))) ⟨_,z,z,OPt.nil⟩
   refine T.skip<|Bn<|Th<|Rg<|bE H λbN bO H=>Vv (V.H5 z z bO)<|Mv z<|Nt<|T.ag (ax,ae.K7.V6,ae.K7.A0L,ae.fat,bN,bw,bx,bA,bB,bC,bD) ⟨(D8 H P),bI,bJ,bK⟩
  refine Ks<|Sm z<|Wn z z<|Nt<|T.cH H z (λH=>?_) λH=>?_
  ·refine Sq<|T.N7 (t:=(.vs [0,1,2,3,4,5] (.alt 6 (.alt 7 (.alt 8 .done .no) .no) .no))) 10 0 0 z z H9 (by kernel_rfl) ?_
   refine Tv z (V.fa A3h z)<|Tv z (V.M8 (k:=0) N9 z N.u z)<|Tv z (V.Q3 O7 z K)<|Tm z z<|bE H λcI bP H=>Tv z (V.H5 z z bP)<|Tm z z<|Ts z z (X2 z z) (V.asg z) z ?_ T.P6
   refine Ts z z (X2 z z) (V.asg z) z ?_ T.P6
   refine Ts z z (X2 z z) (V.asg z) z ?_ T.P6
   refine T.O6 (X2 z z)<|Th<|T.ret<|Br<|Tr<|Tr<|have H:=D6 H P; Br<|Tr<|have H:=I4 H aa; T.drop<|T.drop<|T.drop<|T.drop ?_
   cases H
   exact T.rl z (RVs.cons (RV.tmp z) (RVs.cons (RV.tmp z) (Rv z))) ⟨_,z,z,OPt.nil⟩
  refine T.skip<|Bn<|Th<|Rg<|bE H λbS bU H=>Vv (V.H5 z z bU)<|Mv z<|Nt<|T.ag (ax,y,A,B,bS,a,i,b,m,c,d) ⟨(D8 H P),ab.u,ac.u,ad.u⟩
 refine T.exit<|Te<|Te<|have H:=D6 H P; Be<|Th<|have H:=I4 H aa; Sm z<|Ag z<|Ag z<|Ag z<|Nr<|T.fs [1] ?_
 refine T.K3 λcJ cK bV=>have bW:=A7.slc bV ab.u; T.fs [1] ?_
 refine T.K3 λcM cN bX=>have bY:=A7.slc bX ac.u; Fr_ 1 z<|T.C6h VI.mono ad.u λcO cP bZ=>T.C0I λcS cU b0=>?_
 cases H
 exact T.rl z (RVs.cons (RV.tmp z) (RVs.cons (RV.tmp z) (Rv z))) ⟨_,z,z,(OPt.some (Pt.mk b0 ⟨a,b,(.map (some c)),z,bW.u,bY.u,bZ.u⟩))⟩
theorem B6A {h a r1 b c} (d:B1M h a r1) (H:A5T r1=some (b,c)):∀ L,FnW prog 138 [.agg a.toArray] h L (.tuple #[.int .i64 b,.int .i64 c]):=by
 intro L
 obtain ⟨e,f,rfl,g,i⟩:=d
 refine J2.enter func138 z z z<|Sr<|To (O.U4 z z z λo p q j=>Ag z<|An z<|Sr<|Vv (V.ldS z j (by exact A6i)) ?_)
 refine bE H λ⟨r,s,t⟩ k H=>To (O.G5 z (B5P ⟨e,f,z,g.u,i.u⟩ k _) z λw x y A m=>?_)
 obtain ⟨B,rfl,n,C⟩:=m
 exact P8 _ n<|Mv z<|Wx z z<|Wx z z<|Wx z z<|Ag z<|Ag z<|An z<|Sm z<|Mv z<|Ag z<|Ag z<|Nr<|E1 H
end Go.Proofs.X
open Go Go.Proofs Go.Proofs.Tryz Go.Sl Go.Dm
namespace Go.Proofs.X
theorem B8z {h d a b} (e:I9 h d a) (H:B1r a=some b):∀ L,J2 prog 159 [.agg d.toArray] h (L) (λv h' L'=>∃ vo0_1 csso0_2,v=.agg #[.string b.F8,.string b.A1X,.string b.X4,.int .i64 b.A0j,.int .i64 b.A0x,.string b.A0y,.bool b.X9,.bool b.Y8,vo0_1]∧L'=F3 9 1 vo0_1 csso0_2::L∧A7 VS h' csso0_2 b.O9):=by
 intro L
 obtain ⟨s,rfl,f⟩:=e
 refine J2.enter func159 z z z<|Sr<|To (O.box z z z λt=>To (O.alloc A1M z z λu=>Nt<|Sr<|Vv (V.fa A0G z)<|Vv (V.ldO (k:=8) A1J z (j:=1) z z)<|bE H λw g H=>To (O.G5 z (A9Y f g _) z λc x y A i=>?_)))
 obtain ⟨m,n,o⟩:=i
 refine P8 _ n<|Vv (V.fa A0G z)<|T.R8 0 z λp q=>To (O.st (vs:=[c]) (k:=8) A1J z z (j:=2) z q (by (simp only [BT,p]) <;> rfl) ?_)
 refine T.fl ?_
 refine Nt<|Sr<|Vv (V.A5C (j:=0) (by exact V7) z z) ?_
 refine T.R8 1 z λr B=>To (O.stF (vs:=[.string a.F8,.string a.A1X,.string a.X4,qi a.A0j,qi a.A0x,.string a.A0y,.bool a.X9,.bool a.Y8,c]) V7 z z (j:=2) z z (by (simp only [BT,r]) <;> rfl) z ?_)
 refine T.fl ?_
 refine Nr<|T.fs [1] ?_
 refine T.drop ?_
 cases H
 exact T.B0B (L':=F3 9 1 c m::L) results159 (RVs.cons (RV.cellS z (j:=0) z V7) RVs.nil) Li (λ_ iv=>iv.drop) ⟨_,_,z,z,o⟩
theorem B7s {h d e f a g} (i:Pt A1p h d e) (H:B1X e f=some (a,g)):∀ L,J2 prog 113 [d,.string f] h (L) (λv h' L'=>∃ vo0_1 csso0_2,v=.tuple #[.agg #[.string a.F8,.string a.A1X,.string a.X4,.int .i64 a.A0j,.int .i64 a.A0x,.string a.A0y,.bool a.X9,.bool a.Y8,vo0_1],.bool g]∧L'=F3 9 1 vo0_1 csso0_2::L∧A7 VS h' csso0_2 a.O9):=by
 intro L
 refine J2.enter func113 z z z<|Sr<|To (O.alloc A1M z z λP=>An z<|Sq<|Sm z<|bE H λS q H=>To (O.cs (A9l i q _) λc X=>Nt<|T.cH H z (λH=>?_) λH=>?_))
 ·refine Sr<|Vv (V.bld (xs:=[]) (cs:=[_,_,_,_,_,_,_,_,_]) A9G A9A z F6.nil)<|To (O.stF (vs:=[.string qe,.string qe,.string qe,qi 0,qi 0,.string qe,.bool false,.bool false,qs]) V7 z z (j:=0) z z z z<|Ag z<|Nr<|Tr<|T.Q8 9 1<|have t:A7 VS c [] ([]:List ByteArray):=A7.nil; Fr_ 1 z ?_)
  cases H
  exact T.B0B (L':=F3 9 1 (qs) []::L) results113 (RVs.cons (RV.cellS z (j:=0) z V7) (Rv z)) Li (λ_ iv=>iv.drop) ⟨_,_,z,z,t⟩
 refine Ks<|Sm z<|have w:=i; ?_
 obtain ⟨Y,_,rfl,m,⟨Z,aa,ab,rfl,n,ac,x⟩⟩:=w
 refine NL z A5i A8C m.u z<|Mv z<|bE H λ⟨ad,ae⟩ y H=>?_
 obtain ⟨_,A,rfl⟩:=Mp.look (zc:=[qi 0]) (agg:=false) underlying191 (A0z.str underlying9) J7 (show (VI .i64) c [qi 0] (0:Int) from rfl) x.u y
 refine Vv (V.lkF z z A)<|Mv z<|Wx z z<|Wx z z<|Ag z<|An z<|Sq<|Sm z<|Vv (V.not z)<|Nt<|T.cH H z (λH=>?_) λH=>?_
 ·refine Sr<|Vv (V.bld (xs:=[]) (cs:=[_,_,_,_,_,_,_,_,_]) A9G A9A z F6.nil)<|To (O.stF (vs:=[.string qe,.string qe,.string qe,qi 0,qi 0,.string qe,.bool false,.bool false,qs]) V7 z z (j:=0) z z z z<|Ag z<|Nr<|Tr<|T.Q8 9 1<|have B:A7 VS c [] ([]:List ByteArray):=A7.nil; Fr_ 1 z ?_)
  cases H
  exact T.B0B (L':=F3 9 1 (qs) []::L) results113 (RVs.cons (RV.cellS z (j:=0) z V7) (Rv z)) Li (λ_ iv=>iv.drop) ⟨_,_,z,z,B⟩
 refine Ks<|Sm z<|NF z A0H<|Vv (V.fa A5t z)<|Vv (V.M8 (k:=0) N9 z m.u z)<|Mv z<|bE H λaf o H=>?_
 obtain ⟨ag,C,⟨D,rfl,E⟩⟩:=G6.at n o
 refine Vv (V.ix O7 z z n (E8 o))<|Vv (V.ldS z C.u (by exact V7)) ?_
 refine bE H λb G H=>To (O.G5 z (B8z ⟨D,z,E.u⟩ G _) z λai aj ak am I=>?_)
 obtain ⟨p,J,rfl,K,M⟩:=I
 refine P8 _ K<|T.R8 0 z λN an=>To (O.stF (vs:=[.string b.F8,.string b.A1X,.string b.X4,qi b.A0j,qi b.A0x,.string b.A0y,.bool b.X9,.bool b.Y8,p]) V7 z z (j:=1) z z (by (simp only [BT,N]) <;> rfl) z ?_)
 refine Ag z<|Nr ?_
 cases H
 exact T.B0B (L':=F3 9 1 p J::L) results113 (RVs.cons (RV.cellS z (j:=0) z V7) (Rv z)) Li (λ_ iv=>iv.drop) ⟨_,_,z,z,M⟩
theorem B9E {h a b c d e} (f:Z8 h b c) (g:I9 h c d) (H:A4G a d=some e):∀ L,FnW prog 115 [.string a,.pointer (some b)] h L (.bool e):=by
 intro L
 obtain ⟨o,rfl,i⟩:=g
 exact J2.enter func115 z z z<|Sr<|An z<|Sr<|Vv (V.fa A0G z)<|Vv (V.M8 (k:=8) A1J z f z)<|Mv z<|bE H λp j H=>To (O.cs (B7w i j _) λr t=>Vv (V.not z)<|Ag z<|Nr<|E1 H)
theorem C0k {h d e f g i} (m:Pt A1p h d e) (H:B0W e f g=some i):∀ L,J2 prog 54 [d,.string f,.string g] h (L) (λv h' L'=>∃ n,L'=F3 9 1 v n::L∧A7 VS h' n i):=by
 intro L
 refine J2.enter func54 z z z<|Sr<|An z<|Sm z<|Mv z<|bE H λ⟨b,Y⟩ r H=>To (O.G5 z (B7s m r _) z λZ aa ab ac s=>?_)
 obtain ⟨t,ad,rfl,w,x⟩:=s
 refine P8 _ w<|Mv z<|Wx z z<|Wx z z<|To (O.alloc A1M z z λae=>T.R8 1 z λy af=>To (O.stF (vs:=[.string b.F8,.string b.A1X,.string b.X4,qi b.A0j,qi b.A0x,.string b.A0y,.bool b.X9,.bool b.Y8,t]) V7 z z (j:=0) z z (by (simp only [BT,y]) <;> rfl) z ?_))
 refine An z<|Sm z<|Mv z<|bE H λ⟨a,ag⟩ A H=>To (O.G5 z (B7s m.u A _) z λai aj ak am B=>?_)
 obtain ⟨o,an,rfl,C,D⟩:=B
 refine P8 _ C<|Mv z<|Wx z z<|Wx z z<|To (O.alloc A1M z z λp=>T.fs [1] ?_)
 refine T.K3 λao ap E=>have q:=A7.slc E D.u; To (O.stF (vs:=[.string a.F8,.string a.A1X,.string a.X4,qi a.A0j,qi a.A0x,.string a.A0y,.bool a.X9,.bool a.Y8,o]) V7 z z (j:=0) z z (by (simp only [BT,G6.one q]) <;> rfl) z ?_)
 refine T.fl ?_
 refine T.freeze λc aq G=>have I:=Z8.of G; An z<|Sq<|Sm z<|Vv (V.not z)<|Mv z<|T.bH 25 H z (λH=>?_) λH=>?_
 ·refine S2<|Kt z<|Nt<|Ct z<|Sg z<|Nr<|Tr<|T.Q8 9 1<|have J:A7 VS c [] ([]:List ByteArray):=A7.nil; T.fs [1] ?_
  refine T.drop<|Fr_ 1 z<|T.drop ?_
  cases H
  exact T.rl z (Rv z) ⟨_,z,J⟩
 refine Mv z<|Vv (V.not z)<|Kf z<|Nt<|T.cH H z (λH=>?_) λH=>?_
 ·refine Sg z<|Nr<|Tr<|T.Q8 9 1<|have K:A7 VS c [] ([]:List ByteArray):=A7.nil; T.fs [1] ?_
  refine T.drop<|Fr_ 1 z<|T.drop ?_
  cases H
  exact T.rl z (Rv z) ⟨_,z,K⟩
 refine Ks<|Sr<|Vv (V.fa A0G z)<|Vv (V.ldO (k:=8) A1J z (j:=0) z z)<|Vv (V.mkf z z)<|Fr_ 1 z<|bE H λar M H=>To (O.G5 z (B5c x.u (show B1i c (.func (.func 115) #[] #[qp p]) (λN=>A4G N (E9.mk a.F8 a.A1X a.X4 a.A0j a.A0x a.A0y a.X9 a.Y8 a.O9)) from ⟨⟨z,z⟩,.inr ⟨115,[],[qp p],z,λau aw ax ay P S=>B9E I.u ⟨o,z,q.u⟩ P S⟩⟩) M _) z λaA aB aC aD U=>?_)
 obtain ⟨aE,W,X⟩:=U
 refine P8 _ W<|Ag z<|Nr<|Fr_ 1 z<|T.drop ?_
 cases H
 exact T.rl z (Rv z) ⟨_,z,X⟩
theorem C3U {h b c d e f g} (a:Pt A1p h b c) (H:B4D c d e=some (f,g)):∀ L,FnW prog 55 [b,.string d,.string e] h L (.tuple #[.int .u8 f,.bool g]):=by
 intro L
 refine J2.enter func55 z z z<|Sg z<|An z<|Sq<|Sm z<|bE H λx m H=>To (O.cs (A9l a m _) λA C=>Nt<|T.cH H z (λH=>?_) λH=>?_)
 ·exact Sg z<|Ag z<|Nr<|Tr<|E1 H
 refine Ks<|Sm z<|Mv z<|Mv z<|bE H λ⟨D,E⟩ p H=>To (O.cs (B5w a.u p _) λI K=>Mv z<|Wx z z<|Wx z z<|Ag z<|An z<|Sq<|Sm z<|Vv (V.not z)<|Nt<|T.cH H z (λH=>?_) λH=>?_)
 ·exact Sg z<|Ag z<|Nr<|Tr<|E1 H
 refine Ks<|Sm z<|have s:=a; ?_
 obtain ⟨M,_,rfl,t,⟨N,P,S,rfl,U,i,W⟩⟩:=s
 refine NF z A0H<|Vv (V.fa A5k z)<|Vv (V.M8 (k:=1) A1N z t.u z)<|Mv z<|bE H λX j H=>?_
 obtain ⟨Y,w,rfl⟩:=G6.at i j
 exact Vv (V.ix A0X z z i (E8 j))<|Vv (V.fa B5Y z)<|Vv (V.M8 (k:=2) B1j z w.u z)<|Ag z<|Ag z<|Nr<|E1 H
end Go.Proofs.X
