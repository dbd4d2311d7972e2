import Derived.Test.YthchjfilgaondaaGreatChecked
import Derived.KernelRfl
import Derived.Test.YthchjfilgaondaaGreatV
import Derived.Test.YthchjfilgaondaaGreatL13
import Derived.Test.YthchjfilgaondaaGreatDa
/- Walks. -/
set_option maxRecDepth 1000000
set_option maxHeartbeats 40000000
set_option linter.unusedVariables false
set_option linter.unusedSimpArgs false
set_option linter.unusedSectionVars false
set_option linter.unnecessarySimpa false
open Go Go.Proofs Go.Proofs.Tryz Go.Sl Go.Dm
namespace Go.Proofs.X
instance:MixC prog:=⟨by kernel_rfl⟩
theorem Y1:A0T prog 119=some (9,1,16):=by kernel_rfl
theorem O1:A0T prog 27=some (139,7,80):=by kernel_rfl
theorem O3:A0T prog 28=some (121,9,112):=by kernel_rfl
theorem A1k:A0T prog 29=some (168,3,40):=by kernel_rfl
theorem A9:A0T prog 30=some (3,1,8):=by kernel_rfl
theorem A0f:A0T prog 31=some (43,6,72):=by kernel_rfl
theorem U7:U1 prog 121=some (true,9):=by kernel_rfl
theorem I8:U1 prog 139=some (true,7):=by kernel_rfl
theorem D6:U1 prog 3=some (false,1):=by kernel_rfl
theorem J3:U1 prog 9=some (false,1):=by kernel_rfl
theorem A1I:zer prog 121=some (.agg #[.string ⟨#[]⟩,.string ⟨#[]⟩,.string ⟨#[]⟩,.int .i64 (0),.int .i64 (0),.string ⟨#[]⟩,.bool false,.bool false,.slice none 0 0]):=by kernel_rfl
theorem A1O:zer prog 139=some (.agg #[.string ⟨#[]⟩,.int .u8 (0),.int .i64 (0),.int .i64 (0),.slice none 0 0,.int .i64 (0),.int .i64 (0)]):=by kernel_rfl
theorem A9N:zer prog 168=some (.agg #[.string ⟨#[]⟩,.string ⟨#[]⟩,.int .u8 (0)]):=by kernel_rfl
theorem J6:zer prog 3=some (.int .i64 (0)):=by kernel_rfl
theorem A2H:zer prog 43=some (.agg #[.int .u8 (0),.int .i64 (0),.string ⟨#[]⟩,.string ⟨#[]⟩,.string ⟨#[]⟩,.int .i64 (0)]):=by kernel_rfl
theorem C0b:zer prog 9=some (.string ⟨#[]⟩):=by kernel_rfl
theorem B3p {h g c d i} (e:G9 (VI .i64) 1 h g c) (H:A4o c d=some i):∀ L,FnW prog 84 [g,.int .i64 d] h L (.int .i64 i):=by
 intro L
 refine I7.enter func84 z z z<|Sr<|An z<|Sq<|Sm z<|Vv (V.P7 A9 z e)<|Mv z<|Nt ?_
 obtain ⟨m,n,j⟩:=J4 H
 have H:=n
 refine Bl<|T.lk [0,1,7] (FUEL,(0:Int)) (λ⟨a,b⟩=>([(8,qi b)],L,λhh=>iter (A2T c d) a b=some m)) H ?_
 rintro ⟨a,b⟩ t w o
 obtain ⟨p,x,rfl,H,f⟩:=G5 o
 refine T.norm [8,0,1,7] z<|T.fl ?_
 refine Sr<|Wl z z<|Nt<|Sq<|T.cH H z (λH=>?_) λH=>?_
 ·refine Ks<|Sq<|Bl<|Sm z<|An z<|Sm z<|Mv z<|Mv z<|bE H λy k H=>?_
  obtain ⟨A,q,rfl⟩:=G9.at e k
  refine Vv (V.ix A9 z z e (E8 k))<|Vv (V.Q9 D6 z q.u z)<|We z z<|Nt<|T.cH H z (λH=>?_) λH=>?_
  ·exact Sm z<|Ag z<|Nr<|Br<|Tr<|Tr<|have H:=D5 H f; Br<|Tr<|have H:=H7 H j; E1 H
  refine T.skip<|Bn<|Th<|Rg<|bE H λr s H=>Ws z z s<|Mv z<|Nt<|T.ag (p,r) (D8 H f)
 exact Xt<|have H:=D5 H f; Be<|Th<|have H:=H7 H j; Sg z<|Nr<|E1 H
theorem A2f {h a b c d} (e:G9 (VI .i64) 1 h a b) (H:A1g b c=some d):∀ L,FnW prog 39 [a,.int .i64 c] h L (.bool d):=by
 intro L
 exact I7.enter func39 z z z<|Sr<|An z<|Sm z<|Mv z<|bE H λj f H=>To (O.cs (B3p e f _) λm o=>Vv (V.ge z z)<|Ag z<|Nr<|E1 H)
theorem B6r {h i c j d k} (e:G9 (VI .i64) 1 h i c) (o:A2D h j d) (H:A8W c d=some k):∀ L,FnW prog 251 [i,j] h L (.int .i64 k):=by
 intro L
 refine I7.enter func251 z z z<|Sr<|An z<|Sq<|Sm z<|Vv (V.P7 A9 z e)<|Mv z<|Nt ?_
 obtain ⟨p,q,m⟩:=J4 H
 have H:=q
 refine Bl<|T.lk [0,1,7] (FUEL,(0:Int)) (λ⟨a,b⟩=>([(8,qi b)],L,λhh=>iter (A1K c d) a b=some p)) H ?_
 rintro ⟨a,b⟩ r G s
 obtain ⟨t,I,rfl,H,f⟩:=G5 s
 refine T.norm [8,0,1,7] z<|T.fl ?_
 refine Sr<|Wl z z<|Nt<|Sq<|T.cH H z (λH=>?_) λH=>?_
 ·refine Ks<|Sq<|Bl<|Sm z<|An z<|Sm z<|Mv z<|Mv z<|bE H λJ n H=>?_
  obtain ⟨K,w,rfl⟩:=G9.at e n
  refine Vv (V.ix A9 z z e (E8 n))<|Vv (V.Q9 D6 z w.u z)<|bE H λM x H=>?_
  obtain ⟨N,P,S,y,A⟩:=A2D.call (o.u (g:=r)) x
  refine To (O.A1b z y z (A _) z λU W X Y B=>?_)
  obtain ⟨rfl,C⟩:=B
  refine O8 _ C<|Nt<|T.cH H z (λH=>?_) λH=>?_
  ·exact Sm z<|Ag z<|Nr<|Br<|Tr<|Tr<|have H:=D5 H f; Br<|Tr<|have H:=H7 H m; E1 H
  refine T.skip<|Bn<|Th<|Rg<|bE H λD E H=>Ws z z E<|Mv z<|Nt<|T.ag (t,D) (D8 H f)
 exact Xt<|have H:=D5 H f; Be<|Th<|have H:=H7 H m; Sg z<|Nr<|E1 H
theorem A7g {h a b c d e} (f:G9 (VI .i64) 1 h a b) (g:A2D h c d) (H:A0u b d=some e):∀ L,FnW prog 237 [a,c] h L (.bool e):=by
 intro L
 exact I7.enter func237 z z z<|Sr<|An z<|Sm z<|Mv z<|bE H λm i H=>To (O.cs (B6r f g i _) λo q=>Vv (V.ge z z)<|Ag z<|Nr<|E1 H)
theorem A8B {h i c j d k} (e:G9 I1 7 h i c) (o:B0s h j d) (H:A2k c d=some k):∀ L,FnW prog 206 [i,j] h L (.int .i64 k):=by
 intro L
 refine I7.enter func206 z z z<|Sr<|An z<|Sq<|Sm z<|Vv (V.P7 O1 z e)<|Mv z<|Nt ?_
 obtain ⟨p,q,m⟩:=J4 H
 have H:=q
 refine Bl<|T.lk [0,1,7] (FUEL,(0:Int)) (λ⟨a,b⟩=>([(8,qi b)],L,λhh=>iter (A2g c d) a b=some p)) H ?_
 rintro ⟨a,b⟩ r J s
 obtain ⟨t,K,rfl,H,f⟩:=G5 s
 refine T.norm [8,0,1,7] z<|T.fl ?_
 refine Sr<|Wl z z<|Nt<|Sq<|T.cH H z (λH=>?_) λH=>?_
 ·refine Ks<|Sq<|Bl<|Sm z<|An z<|Sm z<|Mv z<|Mv z<|bE H λM n H=>?_
  obtain ⟨N,w,⟨x,rfl,y⟩⟩:=G9.at e n
  refine Vv (V.ix O1 z z e (E8 n))<|Vv (V.ldS z w.u (by exact I8)) ?_
  refine bE H λP A H=>?_
  obtain ⟨S,U,W,B,C⟩:=B0s.call (o.u (g:=r)) ⟨x,rfl,y.u⟩ A
  refine To (O.A1b z B z (C _) z λX Y Z aa D=>?_)
  obtain ⟨rfl,E⟩:=D
  refine O8 _ E<|Nt<|T.cH H z (λH=>?_) λH=>?_
  ·exact Sm z<|Ag z<|Nr<|Br<|Tr<|Tr<|have H:=D5 H f; Br<|Tr<|have H:=H7 H m; E1 H
  refine T.skip<|Bn<|Th<|Rg<|bE H λG I H=>Ws z z I<|Mv z<|Nt<|T.ag (t,G) (D8 H f)
 exact Xt<|have H:=D5 H f; Be<|Th<|have H:=H7 H m; Sg z<|Nr<|E1 H
theorem B1D {h a b c d e} (f:G9 I1 7 h a b) (g:B0s h c d) (H:A4a b d=some e):∀ L,FnW prog 169 [a,c] h L (.bool e):=by
 intro L
 exact I7.enter func169 z z z<|Sr<|An z<|Sm z<|Mv z<|bE H λm i H=>To (O.cs (A8B f g i _) λo q=>Vv (V.ge z z)<|Ag z<|Nr<|E1 H)
theorem B3V {h i c j d k} (e:G9 I9 9 h i c) (o:B2T h j d) (H:A3R c d=some k):∀ L,FnW prog 204 [i,j] h L (.int .i64 k):=by
 intro L
 refine I7.enter func204 z z z<|Sr<|An z<|Sq<|Sm z<|Vv (V.P7 O3 z e)<|Mv z<|Nt ?_
 obtain ⟨p,q,m⟩:=J4 H
 have H:=q
 refine Bl<|T.lk [0,1,7] (FUEL,(0:Int)) (λ⟨a,b⟩=>([(8,qi b)],L,λhh=>iter (A2h c d) a b=some p)) H ?_
 rintro ⟨a,b⟩ r J s
 obtain ⟨t,K,rfl,H,f⟩:=G5 s
 refine T.norm [8,0,1,7] z<|T.fl ?_
 refine Sr<|Wl z z<|Nt<|Sq<|T.cH H z (λH=>?_) λH=>?_
 ·refine Ks<|Sq<|Bl<|Sm z<|An z<|Sm z<|Mv z<|Mv z<|bE H λM n H=>?_
  obtain ⟨N,w,⟨x,rfl,y⟩⟩:=G9.at e n
  refine Vv (V.ix O3 z z e (E8 n))<|Vv (V.ldS z w.u (by exact U7)) ?_
  refine bE H λP A H=>?_
  obtain ⟨S,U,W,B,C⟩:=B2T.call (o.u (g:=r)) ⟨x,rfl,y.u⟩ A
  refine To (O.A1b z B z (C _) z λX Y Z aa D=>?_)
  obtain ⟨rfl,E⟩:=D
  refine O8 _ E<|Nt<|T.cH H z (λH=>?_) λH=>?_
  ·exact Sm z<|Ag z<|Nr<|Br<|Tr<|Tr<|have H:=D5 H f; Br<|Tr<|have H:=H7 H m; E1 H
  refine T.skip<|Bn<|Th<|Rg<|bE H λG I H=>Ws z z I<|Mv z<|Nt<|T.ag (t,G) (D8 H f)
 exact Xt<|have H:=D5 H f; Be<|Th<|have H:=H7 H m; Sg z<|Nr<|E1 H
theorem C0h {h g c d i} (e:G9 VS 1 h g c) (H:B0B c d=some i):∀ L,FnW prog 164 [g,.string d] h L (.int .i64 i):=by
 intro L
 refine I7.enter func164 z z z<|Sr<|An z<|Sq<|Sm z<|Vv (V.P7 Y1 z e)<|Mv z<|Nt ?_
 obtain ⟨m,n,j⟩:=J4 H
 have H:=n
 refine Bl<|T.lk [0,1,7] (FUEL,(0:Int)) (λ⟨a,b⟩=>([(8,qi b)],L,λhh=>iter (A6B c d) a b=some m)) H ?_
 rintro ⟨a,b⟩ t w o
 obtain ⟨p,x,rfl,H,f⟩:=G5 o
 refine T.norm [8,0,1,7] z<|T.fl ?_
 refine Sr<|Wl z z<|Nt<|Sq<|T.cH H z (λH=>?_) λH=>?_
 ·refine Ks<|Sq<|Bl<|Sm z<|An z<|Sm z<|Mv z<|Mv z<|bE H λy k H=>?_
  obtain ⟨A,q,rfl⟩:=G9.at e k
  refine Vv (V.ix Y1 z z e (E8 k))<|Vv (V.Q9 J3 z q.u z)<|Vv (V.seq z z)<|Nt<|T.cH H z (λH=>?_) λH=>?_
  ·exact Sm z<|Ag z<|Nr<|Br<|Tr<|Tr<|have H:=D5 H f; Br<|Tr<|have H:=H7 H j; E1 H
  refine T.skip<|Bn<|Th<|Rg<|bE H λr s H=>Ws z z s<|Mv z<|Nt<|T.ag (p,r) (D8 H f)
 exact Xt<|have H:=D5 H f; Be<|Th<|have H:=H7 H j; Sg z<|Nr<|E1 H
theorem B6N {h a b c d} (e:G9 VS 1 h a b) (H:A6u b c=some d):∀ L,FnW prog 116 [a,.string c] h L (.bool d):=by
 intro L
 exact I7.enter func116 z z z<|Sr<|An z<|Sm z<|Mv z<|bE H λj f H=>To (O.cs (C0h e f _) λm o=>Vv (V.ge z z)<|Ag z<|Nr<|E1 H)
theorem A5H {h a b} (H:A1w a=some b):∀ L,FnW prog 273 [.int .i64 a] h L (.bool b):=by
 intro L
 exact I7.enter func273 z z z<|Sr<|An z<|Sm z<|Mv z<|Wn z z<|Ag z<|Nr<|E1 H
theorem B7m {h a b c} (H:A6X a b=some c):∀ L,FnW prog 254 [.int .i64 a,.int .i64 b] h L (.int .i64 c):=by
 intro L
 refine I7.enter func254 z z z<|Sr<|An z<|Sm z<|bE H λk d H=>To (O.cs (A5H d _) λn p=>An z<|Sm z<|bE H λq g H=>To (O.cs (A5H g _) λs u=>An z<|Sq<|Sm z<|Nt<|T.cH H z (λH=>?_) λH=>?_))
 ·refine Sq<|Sm z<|Nt<|T.cH H z (λH=>?_) λH=>?_
  ·exact Sg z<|Nr<|Tr<|Tr<|E1 H
  exact Ks<|Sg z<|Nr<|Tr<|E1 H
 refine Ks<|Sq<|Sm z<|Nt<|T.cH H z (λH=>?_) λH=>?_
 ·exact Sg z<|Nr<|Tr<|E1 H
 refine Ks<|Sq<|Sm z<|Mv z<|Wl z z<|Nt<|T.cH H z (λH=>?_) λH=>?_
 ·exact Sg z<|Nr<|Tr<|E1 H
 refine Ks<|Sq<|Sm z<|Mv z<|Wg z z<|Nt<|T.cH H z (λH=>?_) λH=>?_
 ·exact Sg z<|Nr<|Tr<|E1 H
 exact Ks<|Sg z<|Nr<|E1 H
theorem C0Y {h a b c} (H:B0w a b=some c):∀ L,FnW prog 262 [.int .i64 a,.int .i64 b] h L (.bool c):=by
 intro L
 refine I7.enter func262 z z z<|Sr<|An z<|Sm z<|bE H λk d H=>To (O.cs (A5H d _) λn p=>Mv z<|T.bH 7 H z (λH=>?_) λH=>?_)
 ·refine Mv z<|bE H λq g H=>To (O.cs (A5H g _) λs u=>Vv (V.not z)<|Kt z<|Mv z<|T.bH 12 H z (λH=>?_) λH=>?_)
  ·exact S2<|Sk<|Kt z<|Ag z<|Nr<|E1 H
  exact Mv z<|Mv z<|Wl z z<|Kf z<|Ag z<|Nr<|E1 H
 exact S2<|Sk<|Kf z<|Mv z<|Mv z<|Mv z<|Wl z z<|Kf z<|Ag z<|Nr<|E1 H
theorem B8R {h j f k g m} (c:G9 (VI .i64) 1 h j f) (d:G9 (VI .i64) 1 h k g) (H:A3M f g=some m):∀ L,FnW prog 243 [j,k] h L (.int .i64 m):=by
 intro L
 refine I7.enter func243 z z z<|Sr<|An z<|Sq<|Sm z<|Vv (V.P7 A9 z c)<|Mv z<|Nt ?_
 obtain ⟨p,q,i⟩:=J4 H
 have H:=q
 refine Bl<|T.lk [0,1,9,10] (FUEL,(0:Int)) (λ⟨a,b⟩=>([(11,qi b)],L,λhh=>iter (A2V f g) a b=some p)) H ?_
 rintro ⟨a,b⟩ D E r
 obtain ⟨s,G,rfl,H,e⟩:=G5 r
 refine T.norm [11,0,1,9,10] z<|T.fl ?_
 refine Sr<|Wl z z<|Nt<|Sq<|T.cH H z (λH=>?_) λH=>?_
 ·refine Ks<|Sq<|Bl<|Sm z<|bE H λI n H=>?_
  obtain ⟨J,t,rfl⟩:=G9.at c n
  refine Vv (V.ix A9 z z c (E8 n))<|Vv (V.Q9 D6 z t.u z)<|Ag z<|An z<|Sq<|Sm z<|Mv z<|Vv (V.P7 A9 z d)<|Vv (V.ge z z)<|Nt<|T.cH H z (λH=>?_) λH=>?_
  ·exact Sg z<|Nr<|Tr<|Br<|Tr<|Tr<|have H:=D5 H e; Br<|Tr<|have H:=H7 H i; E1 H
  refine Ks<|Sm z<|Mv z<|bE H λK o H=>?_
  obtain ⟨M,w,rfl⟩:=G9.at d o
  refine Vv (V.ix A9 z z d (E8 o))<|Vv (V.Q9 D6 z w.u z)<|An z<|Sm z<|Mv z<|bE H λN x H=>To (O.cs (B7m x _) λS W=>An z<|Sm z<|Wn z z<|Nt<|T.cH H z (λH=>?_) λH=>?_)
  ·exact Sm z<|Ag z<|Nr<|Br<|Tr<|Tr<|have H:=D5 H e; Br<|Tr<|have H:=H7 H i; E1 H
  refine T.skip<|Bn<|Th<|Rg<|bE H λB C H=>Ws z z C<|Mv z<|Nt<|T.ag (s,B) (D8 H e)
 refine Xt<|have H:=D5 H e; Be<|Th<|have H:=H7 H i; Sq<|Sm z<|Vv (V.P7 A9 z c)<|Mv z<|Vv (V.P7 A9 z d)<|Wl z z<|Nt<|T.cH H z (λH=>?_) λH=>?_
 ·exact Sg z<|Nr<|Tr<|E1 H
 exact Ks<|Sg z<|Nr<|E1 H
theorem C1s {h i d j e k} (c:G9 (VI .i64) 1 h i d) (f:G9 (VI .i64) 1 h j e) (H:A3b d e=some k):∀ L,FnW prog 245 [i,j] h L (.bool k):=by
 intro L
 refine I7.enter func245 z z z<|Sr<|An z<|Sq<|Sm z<|Vv (V.P7 A9 z c)<|Mv z<|Vv (V.P7 A9 z f)<|Wn z z<|Nt<|T.cH H z (λH=>?_) λH=>?_
 ·exact Sg z<|Nr<|Tr<|E1 H
 refine Ks<|Sq<|Sm z<|Vv (V.P7 A9 z c)<|Mv z<|Nt ?_
 obtain ⟨p,q,m⟩:=J4 H
 have H:=q
 refine Bl<|T.lk [0,1,12] (FUEL,(0:Int)) (λ⟨a,b⟩=>([(13,qi b)],L,λhh=>iter (A6s d e) a b=some p)) H ?_
 rintro ⟨a,b⟩ B C r
 obtain ⟨s,D,rfl,H,g⟩:=G5 r
 refine T.norm [13,0,1,12] z<|T.fl ?_
 refine Sr<|Wl z z<|Nt<|Sq<|T.cH H z (λH=>?_) λH=>?_
 ·refine Ks<|Sq<|Bl<|Sm z<|An z<|Sq<|T.dw (.vs [0,1,2,3,4,5,6,7,8] .done) 10 0 0 ?_
  refine Tm z z<|Tm z z<|bE H λE n H=>?_
  obtain ⟨G,w,rfl⟩:=G9.at c n
  refine Tv z (V.ix A9 z z c (E8 n))<|Tv z (V.Q9 D6 z w.u z)<|Tm z z<|Tm z z<|bE H λI o H=>?_
  obtain ⟨J,x,rfl⟩:=G9.at f o
  refine Tv z (V.ix A9 z z f (E8 o))<|Tv z (V.Q9 D6 z x.u z)<|Tv z (V.ne z z)<|T.M9 (X2 z z)<|Th<|T.cH H z (λH=>?_) λH=>?_
  ·exact Sg z<|Nr<|Br<|Tr<|Tr<|have H:=D5 H g; Br<|Tr<|have H:=H7 H m; E1 H
  refine T.skip<|Bn<|Th<|Rg<|bE H λy A H=>Ws z z A<|Mv z<|Nt<|T.ag (s,y) (D8 H g)
 exact Xt<|have H:=D5 H g; Be<|Th<|have H:=H7 H m; Sg z<|Nr<|E1 H
theorem A1f {h a e f} (c:G9 (VI .i64) 1 h a e) (H:A0L e=some f):∀ L,I7 prog 41 [a] h (L) (λv h' L'=>∃ g,L'=F3 3 1 v g::L∧A8 (VI .i64) h' g f):=by
 intro L
 refine I7.enter func41 z z z<|Sr<|An z<|Sq<|Sm z<|Vv (V.C2T A9 z c)<|Nt<|T.cond (b:=B4V a) z (λi=>?_) (λi=>?_)
 ·have H:=B1I (G9.B4V c i) H
  refine Sg z<|Nr<|Tr<|T.rn (VI .i64) 3 1 λo=>?_
  cases H
  exact T.rl z (Rv z) ⟨_,z,o⟩
 refine Ks<|Sr<|To (O.bs0 A9 z λs=>have k:A8 (VI .i64) h [] ([]:List Int):=A8.nil; Mv z ?_)
 obtain ⟨p,m,d⟩:=G9.row c
 refine bE H λq n H=>To (O.apX A9 A9 J6 z z z (j:=0) z (Src.fix m) m.wide (A8.ones VI.plain d) k d n z λt u w=>have r:A8 (VI .i64) h ([]++p) q:=A8.ap k d n; Ag z<|Nr ?_)
 cases H
 exact T.rl z (Rv z) ⟨_,z,r⟩
theorem B7Q {h a e f} (c:G9 I1 7 h a e) (H:A7P e=some f):∀ L,I7 prog 79 [a] h (L) (λv h' L'=>∃ g,L'=F3 139 7 v g::L∧A8 I1 h' g f):=by
 intro L
 refine I7.enter func79 z z z<|Sr<|An z<|Sq<|Sm z<|Vv (V.C2T O1 z c)<|Nt<|T.cond (b:=B4V a) z (λi=>?_) (λi=>?_)
 ·have H:=B1I (G9.B4V c i) H
  refine Sg z<|Nr<|Tr<|T.rn I1 139 7 λo=>?_
  cases H
  exact T.rl z (Rv z) ⟨_,z,o⟩
 refine Ks<|Sr<|To (O.bs0 O1 z λs=>have k:A8 I1 h [] ([]:List D7):=A8.nil; Mv z ?_)
 obtain ⟨p,m,d⟩:=G9.row c
 refine bE H λq n H=>To (O.apX O1 O1 A1O z z z (j:=0) z (Src.fix m) m.wide (A8.ones I1.plain d) k d n z λt u w=>have r:A8 I1 h ([]++p) q:=A8.ap k d n; Ag z<|Nr ?_)
 cases H
 exact T.rl z (Rv z) ⟨_,z,r⟩
theorem B8B {h a e f} (c:G9 I9 9 h a e) (H:A7H e=some f):∀ L,I7 prog 80 [a] h (L) (λv h' L'=>∃ g,L'=F3 121 9 v g::L∧A8 I9 h' g f):=by
 intro L
 refine I7.enter func80 z z z<|Sr<|An z<|Sq<|Sm z<|Vv (V.C2T O3 z c)<|Nt<|T.cond (b:=B4V a) z (λi=>?_) (λi=>?_)
 ·have H:=B1I (G9.B4V c i) H
  refine Sg z<|Nr<|Tr<|T.rn I9 121 9 λo=>?_
  cases H
  exact T.rl z (Rv z) ⟨_,z,o⟩
 refine Ks<|Sr<|To (O.bs0 O3 z λs=>have k:A8 I9 h [] ([]:List E9):=A8.nil; Mv z ?_)
 obtain ⟨p,m,d⟩:=G9.row c
 refine bE H λq n H=>To (O.apX O3 O3 A1I z z z (j:=0) z (Src.fix m) m.wide (A8.ones I9.plain d) k d n z λt u w=>have r:A8 I9 h ([]++p) q:=A8.ap k d n; Ag z<|Nr ?_)
 cases H
 exact T.rl z (Rv z) ⟨_,z,r⟩
theorem B0i {h a e f} (c:G9 VS 1 h a e) (H:A3X e=some f):∀ L,I7 prog 81 [a] h (L) (λv h' L'=>∃ g,L'=F3 9 1 v g::L∧A8 VS h' g f):=by
 intro L
 refine I7.enter func81 z z z<|Sr<|An z<|Sq<|Sm z<|Vv (V.C2T Y1 z c)<|Nt<|T.cond (b:=B4V a) z (λi=>?_) (λi=>?_)
 ·have H:=B1I (G9.B4V c i) H
  refine Sg z<|Nr<|Tr<|T.rn VS 9 1 λo=>?_
  cases H
  exact T.rl z (Rv z) ⟨_,z,o⟩
 refine Ks<|Sr<|To (O.bs0 Y1 z λs=>have k:A8 VS h [] ([]:List ByteArray):=A8.nil; Mv z ?_)
 obtain ⟨p,m,d⟩:=G9.row c
 refine bE H λq n H=>To (O.apX Y1 Y1 C0b z z z (j:=0) z (Src.fix m) m.wide (A8.ones VS.plain d) k d n z λt u w=>have r:A8 VS h ([]++p) q:=A8.ap k d n; Ag z<|Nr ?_)
 cases H
 exact T.rl z (Rv z) ⟨_,z,r⟩
theorem C0M {h a e f} (c:G9 L9 3 h a e) (H:B0I e=some f):∀ L,I7 prog 82 [a] h (L) (λv h' L'=>∃ g,L'=F3 168 3 v g::L∧A8 L9 h' g f):=by
 intro L
 refine I7.enter func82 z z z<|Sr<|An z<|Sq<|Sm z<|Vv (V.C2T A1k z c)<|Nt<|T.cond (b:=B4V a) z (λi=>?_) (λi=>?_)
 ·have H:=B1I (G9.B4V c i) H
  refine Sg z<|Nr<|Tr<|T.rn L9 168 3 λo=>?_
  cases H
  exact T.rl z (Rv z) ⟨_,z,o⟩
 refine Ks<|Sr<|To (O.bs0 A1k z λs=>have k:A8 L9 h [] ([]:List H9):=A8.nil; Mv z ?_)
 obtain ⟨p,m,d⟩:=G9.row c
 refine bE H λq n H=>To (O.apX A1k A1k A9N z z z (j:=0) z (Src.fix m) m.wide (A8.ones L9.plain d) k d n z λt u w=>have r:A8 L9 h ([]++p) q:=A8.ap k d n; Ag z<|Nr ?_)
 cases H
 exact T.rl z (Rv z) ⟨_,z,r⟩
theorem B9z {h a e f} (c:G9 I4 6 h a e) (H:A9j e=some f):∀ L,I7 prog 83 [a] h (L) (λv h' L'=>∃ g,L'=F3 43 6 v g::L∧A8 I4 h' g f):=by
 intro L
 refine I7.enter func83 z z z<|Sr<|An z<|Sq<|Sm z<|Vv (V.C2T A0f z c)<|Nt<|T.cond (b:=B4V a) z (λi=>?_) (λi=>?_)
 ·have H:=B1I (G9.B4V c i) H
  refine Sg z<|Nr<|Tr<|T.rn I4 43 6 λo=>?_
  cases H
  exact T.rl z (Rv z) ⟨_,z,o⟩
 refine Ks<|Sr<|To (O.bs0 A0f z λs=>have k:A8 I4 h [] ([]:List F7):=A8.nil; Mv z ?_)
 obtain ⟨p,m,d⟩:=G9.row c
 refine bE H λq n H=>To (O.apX A0f A0f A2H z z z (j:=0) z (Src.fix m) m.wide (A8.ones I4.plain d) k d n z λt u w=>have r:A8 I4 h ([]++p) q:=A8.ap k d n; Ag z<|Nr ?_)
 cases H
 exact T.rl z (Rv z) ⟨_,z,r⟩
end Go.Proofs.X
open Go Go.Proofs Go.Proofs.Tryz Go.Sl Go.Dm
namespace Go.Proofs.X
theorem A2a:A0T prog 81=some (88,3,24):=by kernel_rfl
theorem K7:A0T prog 84=some (30,1,24):=by kernel_rfl
theorem D9:U1 prog 30=some (false,1):=by kernel_rfl
theorem A1E:U1 prog 88=some (true,3):=by kernel_rfl
theorem C2k {h e f} (H:bits_Len64 e=some f):∀ L,FnW prog 203 [.int .u64 e] h L (.int .i64 f):=by
 intro L
 refine I7.enter func203 z z z<|Sr<|An z<|Sq<|Sm z<|Vv (V.ge z z)<|Nt ?_
 obtain ⟨g,i,j⟩:=J4 H
 refine T.ck (α:=Int×Int) [] (λ⟨a,b⟩=>([(0,.int .u64 a),(2,qi b)],L,λhh=>g=(a,b))) ?_ ?_
 ·have H:=i
  refine T.cH H z (λH=>?_) λH=>?_
  ·refine Sm z<|bE H λk m H=>Vv (V.A3S z z m)<|An z<|Rg<|An z<|T.mt (k,(32:Int)) (K9 H)
  refine Ks<|T.mt (e,(0:Int)) (K9 H)
 rintro ⟨a,b⟩ K M n
 have H:=H7 n j
 refine T.norm [0,2] z<|T.fl ?_
 refine Sq<|Sm z<|Vv (V.ge z z)<|Nt ?_
 obtain ⟨o,p,q⟩:=J4 H
 refine T.ck (α:=Int×Int) [] (λ⟨c,d⟩=>([(0,.int .u64 c),(2,qi d)],L,λhh=>o=(c,d))) ?_ ?_
 ·have H:=p
  refine T.cH H z (λH=>?_) λH=>?_
  ·refine Sm z<|bE H λr s H=>Vv (V.A3S z z s)<|An z<|Rg<|Mv z<|bE H λt u H=>Ws z z u<|An z<|T.mt (r,t) (K9 H)
  refine Ks<|T.mt (a,b) (K9 H)
 rintro ⟨c,d⟩ N O w
 have H:=H7 w q
 refine T.norm [0,2] z<|T.fl ?_
 refine Sq<|Sm z<|Vv (V.ge z z)<|Nt<|T.cH H z (λH=>?_) λH=>?_
 ·exact Sm z<|bE H λP x H=>Vv (V.A3S z z x)<|An z<|Rg<|Mv z<|bE H λS y H=>Ws z z y<|An z<|Sm z<|Mv z<|bE H λU A H=>Vv (V.A5u underlying240 underlying5 z A)<|bE H λW B H=>Vv (V.C5P underlying9 z z B)<|bE H λX C H=>Vv (V.A5u underlying5 underlying3 z C)<|bE H λY D H=>Ws z z D<|Ag z<|Nr<|E1 H
 exact Ks<|Sm z<|Mv z<|bE H λZ E H=>Vv (V.A5u underlying240 underlying5 z E)<|bE H λaa G H=>Vv (V.C5P underlying9 z z G)<|bE H λab I H=>Vv (V.A5u underlying5 underlying3 z I)<|bE H λac J H=>Ws z z J<|Ag z<|Nr<|E1 H
theorem B3M {h a b} (H:bits_Len a=some b):∀ L,FnW prog 137 [.int .u64 a] h L (.int .i64 b):=by
 intro L
 exact I7.enter func137 z z z<|Sr<|An z<|Sq<|Cf z<|Ks<|Sm z<|bE H λf c H=>To (O.cs (C2k c _) λi k=>Ag z<|Nr<|E1 H)
theorem C3s {h d A B r C q_0} (X:A8 (VI .i64) h A B) (H:B4q B r C=some q_0):∀ L,I7 prog 256 [d,.int .i64 r,.int .i64 C] h (F3 3 1 d A::L) (λv h' L'=>∃ G,v=.tuple #[]∧L'=F3 3 1 d G::L∧A8 (VI .i64) h' G q_0):=by
 intro L
 refine I7.enter func256 z z z<|Sm z<|bE H λY Z H=>Ws z z Z<|An z<|T.A0G ?_
 obtain ⟨aa,ab,ac⟩:=J4 H
 have H:=ab
 refine Bl<|T.lk [1,2] (FUEL,B,Y,A) (λ⟨n,e,f,k⟩=>([(0,d),(6,qi f)],F3 3 1 d k::L,λhh=>iter (A4A r C) n (e,f)=some aa∧A8 (VI .i64) hh k e)) ⟨H,X⟩ ?_
 rintro ⟨n,e,f,k⟩ aU aV ⟨ad,I⟩
 obtain ⟨ae,aW,rfl,H,J⟩:=G5 ad
 refine T.norm [0,6,1,2] z<|T.fl ?_
 refine Sq<|Sm z<|Mv z<|Wl z z<|Nt<|T.cH H z (λH=>?_) λH=>?_
 ·refine Ks<|Sq<|Bl<|Sm z<|An z<|T.A0G ?_
  obtain ⟨af,ai,aj⟩:=J4 H
  have H:=ai
  refine Bl<|T.lk [1,2,6] (FUEL,e,f,k) (λ⟨o,m,c,b⟩=>([(0,d),(7,qi c)],F3 3 1 d b::L,λhh=>iter (A4w r) o (m,c)=some af∧A8 (VI .i64) hh b m)) ⟨H,I⟩ ?_
  rintro ⟨o,m,c,b⟩ aX aY ⟨ak,a⟩
  obtain ⟨am,aZ,rfl,H,K⟩:=G5 ak
  refine T.norm [0,7,1,2,6] z<|T.fl ?_
  refine Sq<|Sq ?_
  obtain ⟨an,ao,ap⟩:=J4 H
  refine T.ck (α:=Bool) [0,1,2,6,7] (λp=>([(30,.bool p)],F3 3 1 d b::L,λhh=>an=p)) ?_ ?_
  ·have H:=ao
   refine T.dw (.vs [0,1,2,3,4,5,6,7,8,9,10,11,12] (.alt 13 (.g (.v 14 .done)) .no)) 16 1 1 ?_
   refine Tm z z<|Tm z z<|Tv z (V.gt z z)<|Tm z z<|T.bH 19 H z (λH=>?_) λH=>?_
   ·refine Tm z z<|Tm z z<|bE H λa0 M H=>?_
    obtain ⟨a1,aq,rfl⟩:=A8.get a M
    refine Tv z (Val.XA λ_ _ _=>V.ixR A9 z z (j:=0) z (A8.bd a M))<|Tv z (Val.XA λ_ _ _=>V.ldR D6 z (j:=0) z aq z)<|Tm z z<|Tm z z<|bE H λa2 ar H=>Tv z (V.X9 z z ar)<|bE H λa3 N H=>?_
    obtain ⟨a4,au,rfl⟩:=A8.get a N
    refine Tv z (Val.XA λ_ _ _=>V.ixR A9 z z (j:=0) z (A8.bd a N))<|Tv z (Val.XA λ_ _ _=>V.ldR D6 z (j:=0) z au z)<|bE H λaw ax H=>Tp z z (X3 [0] [0] z z) (O.G6 z (C0Y ax _) z λa5 a6 a7 a8 ay=>?_) T.O4
    obtain ⟨rfl,aA⟩:=ay
    refine O8 _ aA<|T.N8 Li<|Tv z (V.pkT z z)<|T.M9 (X3 [0] [0] z z)<|Th<|T.mt aw (K9 H)
   refine T2 z z<|T2 z z<|T2 z z<|T2 z z<|Tk z<|T.A3Y z z (X3 [0] [0] z z) z ?_ T.O4
   refine T.N8 Lr<|Tv z (V.pkF z z)<|T.M9 (X3 [0] [0] z z)<|Th<|T.mt false (K9 H)
  rintro p s a9 aB
  have H:=H7 aB ap
  refine T.norm [30,0,1,2,6,7] z<|T.fl ?_
  refine T.cH H z (λH=>?_) λH=>?_
  ·refine Ks<|Sq<|Bl<|T.dw (.vs [0,1,2,3,4,5,6,7] (.x 8 (.x 9 (.v 10 (.v 11 (.alt 12 (.x 13 (.x 14 (.alt 15 (.alt 16 (.alt 17 .done .no) .no) .no))) .no)))))) 15 1 0 ?_
   refine Tm z z<|Tm z z<|Tm z z<|Tm z z<|bE H λP aC H=>Tv z (V.X9 z z aC)<|Tm z z<|Tm z z<|bE H λah aD H=>Tv z (V.X9 z z aD)<|bE H λq S H=>?_
   obtain ⟨al,aE,rfl⟩:=A8.get a S
   refine T.tx z z (Val.XA λ_ _ _=>V.ixR A9 z z (j:=0) z (A8.bd a S)) z Calm.i<|T.tx z z (Val.XA λ_ _ _=>V.ldR D6 z (j:=0) z aE z) z Calm.i<|Tm z z<|Tm z z<|bE H λw U H=>?_
   obtain ⟨av,aG,rfl⟩:=A8.get a U
   refine Ts z z (X3 [] [0] z z) (V.ixR A9 z z (j:=0) z (A8.bd a U)) z ?_ T.O4
   refine T.tx z z (Val.XA λ_ _ _=>V.ldR D6 z (j:=0) z aG z) z Calm.i<|bE H λaz D H=>?_
   obtain ⟨ba,bb,rfl⟩:=A8.get a D
   refine T.tx z z (Val.XA λ_ _ _=>V.ixR A9 z z (j:=0) z (A8.bd a D)) z Calm.i<|bE H λaI aJ H=>Tp z z (X3 [] [0] z z) (O.stR D6 z z (j:=0) z (A8.bdN a D) z ?_) T.O4
   have y:A8 (VI .i64) s (b.set c.toNat [qi q]) aI:=A8.set a.u (show (VI .i64) s [qi q] q from z) aJ
   refine bE H λbc E H=>?_
   obtain ⟨be,bf,rfl⟩:=A8.get y E
   refine Ts z z (SX.one (XA.fr [] Lr z) z) (V.ixR A9 z z (j:=0) z (A8.bd y E)) z ?_ T.O4
   refine bE H λW aK H=>Tp z z (SX.one (XA.fr [] Lr z) z) (O.stR D6 z z (j:=0) z (A8.bdN y E) z ?_) T.O4
   have aM:A8 (VI .i64) s ((b.set c.toNat [qi q]).set P.toNat [qi w]) W:=A8.set y (show (VI .i64) s [qi w] w from z) aK
   refine T.M9 (SX.one (XA.fr [] Lr z) z)<|Bn<|Th<|Rg<|Mv z<|bE H λaN aO H=>Vv (V.X9 z z aO)<|An z<|T.ag (am,W,aN,((b.set c.toNat [qi q]).set P.toNat [qi w])) ⟨(D8 H K),aM⟩
  refine Xt<|have H:=D5 H K; Be<|Th<|have H:=H7 H aj; Bn<|Th<|Rg<|Mv z<|bE H λaP aS H=>Ws z z aS<|An z<|T.ag (ae,m,aP,b) ⟨(D8 H J),a.u⟩
 refine Xt<|have H:=D5 H J; Be<|Th<|have H:=H7 H ac; ?_
 cases H
 exact T.A0R results256 Li ⟨_,z,z,I⟩
theorem C3E (n:Nat):∀ {h:PH} {pv0:Value} {pcs0:List (List Value)} {data1:List Int} (pr0:A8 (VI .i64) h pcs0 data1) {a3:Int} {b4:Int} {limit5:Int} {q_0:List Int} (H:B8e n data1 a3 b4 limit5=some q_0) (L:List E5),I7 prog 250 [pv0,.int .i64 a3,.int .i64 b4,.int .i64 limit5] h (F3 3 1 pv0 pcs0::L) (λv h' L'=>∃ ls0,v=.tuple #[]∧L'=F3 3 1 pv0 ls0::L∧A8 (VI .i64) h' ls0 q_0):=by
  induction n with
  | zero=>intros; rename_i H _; cases H
  | succ n self=>
    intro h pv0 pcs0 data1 pr0 a3 b4 limit5 q_0 H L
    refine I7.enter func250 z z z<|Sr<|An z<|Sr<|An z ?_
    obtain ⟨b,c,d⟩:=J4 H
    have H:=c
    refine Bl<|T.C3f (α:=Nat) [0,1,2,3,8,9] z (λa=>[]) (λa=>F3 3 1 pv0 pcs0::L) (λa hh=>iter (A9a data1 a3 b4 limit5) a ()=some b) (λa=>a) FUEL trivial z H ?_
    rintro a o p e
    obtain ⟨q,r,rfl,H,f⟩:=G5 e
    refine T.norm [0,1,2,3,8,9] z<|T.fl ?_
    refine Bl<|Sm z<|Mv z<|bE H λs g H=>Vv (V.X9 z z g)<|An z<|Sq<|Sm z<|Vv (V.le z z)<|Nt<|T.cH H z (λH=>?_) λH=>?_
    ·refine Sm z<|Mv z<|Mv z<|bE H λt i H=>To (O.G6 z (C3s pr0.u i _) z λw x y A j=>?_)
     obtain ⟨B,rfl,k,m⟩:=j
     refine O8 _ k<|Nr<|Tr<|Br<|Tr<|have H:=D5 H f; Br<|have H:=H7 H d; ?_
     cases H
     exact T.C4Q results250 Li ⟨_,z,z,m⟩
    refine Ks<|Sq<|Sm z<|We z z<|Nt<|T.cH H z (λH=>?_) λH=>?_
    ·refine Sm z<|Mv z<|Mv z<|dead H
    refine Ks<|Sq<|Sm z<|Vv (V.not z)<|Nt<|Cf z<|Ks<|Sm z<|Mv z<|Mv z<|dead H
theorem C2i {h a b c q_0} (d:A8 (VI .i64) h b c) (H:B2c c=some q_0):∀ L,I7 prog 235 [a] h (F3 3 1 a b::L) (λv h' L'=>∃ e,v=.tuple #[]∧L'=F3 3 1 a e::L∧A8 (VI .i64) h' e q_0):=by
 intro L
 refine I7.enter func235 z z z<|Sm z<|Vv (V.A2p A9 z (j:=0) z d.len)<|An z<|Rg<|Mv z<|Mv z<|Mv z<|bE H λq f H=>Vv (V.A5u underlying3 underlying208 z f)<|bE H λr g H=>To (O.cs (B3M g _) λt x=>bE H λy m H=>To (O.G6 z (C3E _ d.u m _) z λA B C D n=>?_))
 obtain ⟨E,rfl,o,p⟩:=n
 refine O8 _ o<|Ni ?_
 cases H
 exact T.A0R results235 Li ⟨_,z,z,p⟩
theorem B3g {h d B C r D I s q_0} (Z:A8 (VI .i64) h B C) (aa:B0r h I s) (H:A6T C r D s=some q_0):∀ L,I7 prog 274 [d,.int .i64 r,.int .i64 D,I] h (F3 3 1 d B::L) (λv h' L'=>∃ J,v=.tuple #[]∧L'=F3 3 1 d J::L∧A8 (VI .i64) h' J q_0):=by
 intro L
 refine I7.enter func274 z z z<|Sm z<|bE H λab ac H=>Ws z z ac<|An z<|T.A0G ?_
 obtain ⟨ad,ae,af⟩:=J4 H
 have H:=ae
 refine Bl<|T.lk [1,2,3] (FUEL,C,ab,B) (λ⟨n,e,f,k⟩=>([(0,d),(8,qi f)],F3 3 1 d k::L,λhh=>iter (A1X r D s) n (e,f)=some ad∧A8 (VI .i64) hh k e)) ⟨H,Z⟩ ?_
 rintro ⟨n,e,f,k⟩ a0 a1 ⟨ai,K⟩
 obtain ⟨aj,a2,rfl,H,M⟩:=G5 ai
 refine T.norm [0,8,1,2,3] z<|T.fl ?_
 refine Sq<|Sm z<|Mv z<|Wl z z<|Nt<|T.cH H z (λH=>?_) λH=>?_
 ·refine Ks<|Sq<|Bl<|Sm z<|An z<|T.A0G ?_
  obtain ⟨ak,am,an⟩:=J4 H
  have H:=am
  refine Bl<|T.lk [1,2,3,8] (FUEL,e,f,k) (λ⟨o,m,c,b⟩=>([(0,d),(9,qi c)],F3 3 1 d b::L,λhh=>iter (A1Y r s) o (m,c)=some ak∧A8 (VI .i64) hh b m)) ⟨H,K⟩ ?_
  rintro ⟨o,m,c,b⟩ ao a3 ⟨ap,a⟩
  obtain ⟨aq,a4,rfl,H,N⟩:=G5 ap
  refine T.norm [0,9,1,2,3,8] z<|T.fl ?_
  refine Sq<|Sq ?_
  obtain ⟨ar,au,aw⟩:=J4 H
  refine T.ck (α:=Bool) [0,1,2,3,8,9] (λp=>([(34,.bool p)],F3 3 1 d b::L,λhh=>ar=p)) ?_ ?_
  ·have H:=au
   refine T.dw (.vs [0,1,2,3,4,5,6,7,8,9,10,11,12,13] (.alt 14 (.g (.v 15 (.v 16 .done))) .no)) 18 1 1 ?_
   refine Tm z z<|Tm z z<|Tv z (V.gt z z)<|Tm z z<|T.bH 21 H z (λH=>?_) λH=>?_
   ·refine Tm z z<|Tm z z<|Tm z z<|bE H λa5 P H=>?_
    obtain ⟨a6,ax,rfl⟩:=A8.get a P
    refine Tv z (Val.XA λ_ _ _=>V.ixR A9 z z (j:=0) z (A8.bd a P))<|Tv z (Val.XA λ_ _ _=>V.ldR D6 z (j:=0) z ax z)<|Tm z z<|Tm z z<|bE H λa7 ay H=>Tv z (V.X9 z z ay)<|bE H λa8 S H=>?_
    obtain ⟨a9,aA,rfl⟩:=A8.get a S
    refine Tv z (Val.XA λ_ _ _=>V.ixR A9 z z (j:=0) z (A8.bd a S))<|Tv z (Val.XA λ_ _ _=>V.ldR D6 z (j:=0) z aA z)<|bE H λaB aC H=>?_
    obtain ⟨ah,al,av,aD,aE⟩:=B0r.call (aa.u (g:=ao)) aC
    refine Tp z z (X3 [0] [0] z z) (O.A1b z aD z (aE _) z λaz ba bb bc aG=>?_) T.O4
    obtain ⟨rfl,aI⟩:=aG
    refine O8 _ aI<|T.N8 Li<|Tv z (V.lt z z)<|Tv z (V.pkT z z)<|T.M9 (X3 [0] [0] z z)<|Th<|T.mt (decide (aB<(0:Int))) (K9 H)
   refine T2 z z<|T2 z z<|T2 z z<|T2 z z<|T2 z z<|T.A3Y z z (X3 [0] [0] z z) z ?_ T.O4
   refine T.N8 Lr<|Tk z<|Tv z (V.pkF z z)<|T.M9 (X3 [0] [0] z z)<|Th<|T.mt false (K9 H)
  rintro p w be aJ
  have H:=H7 aJ aw
  refine T.norm [34,0,1,2,3,8,9] z<|T.fl ?_
  refine T.cH H z (λH=>?_) λH=>?_
  ·refine Ks<|Sq<|Bl<|T.dw (.vs [0,1,2,3,4,5,6,7] (.x 8 (.x 9 (.v 10 (.v 11 (.alt 12 (.x 13 (.x 14 (.alt 15 (.alt 16 (.alt 17 .done .no) .no) .no))) .no)))))) 15 1 0 ?_
   refine Tm z z<|Tm z z<|Tm z z<|Tm z z<|bE H λU aK H=>Tv z (V.X9 z z aK)<|Tm z z<|Tm z z<|bE H λbf aM H=>Tv z (V.X9 z z aM)<|bE H λq W H=>?_
   obtain ⟨bg,aN,rfl⟩:=A8.get a W
   refine T.tx z z (Val.XA λ_ _ _=>V.ixR A9 z z (j:=0) z (A8.bd a W)) z Calm.i<|T.tx z z (Val.XA λ_ _ _=>V.ldR D6 z (j:=0) z aN z) z Calm.i<|Tm z z<|Tm z z<|bE H λy X H=>?_
   obtain ⟨bi,aO,rfl⟩:=A8.get a X
   refine Ts z z (X3 [] [0] z z) (V.ixR A9 z z (j:=0) z (A8.bd a X)) z ?_ T.O4
   refine T.tx z z (Val.XA λ_ _ _=>V.ldR D6 z (j:=0) z aO z) z Calm.i<|bE H λbj E H=>?_
   obtain ⟨bk,bm,rfl⟩:=A8.get a E
   refine T.tx z z (Val.XA λ_ _ _=>V.ixR A9 z z (j:=0) z (A8.bd a E)) z Calm.i<|bE H λaP aS H=>Tp z z (X3 [] [0] z z) (O.stR D6 z z (j:=0) z (A8.bdN a E) z ?_) T.O4
   have A:A8 (VI .i64) w (b.set c.toNat [qi q]) aP:=A8.set a.u (show (VI .i64) w [qi q] q from z) aS
   refine bE H λbn G H=>?_
   obtain ⟨bo,bp,rfl⟩:=A8.get A G
   refine Ts z z (SX.one (XA.fr [] Lr z) z) (V.ixR A9 z z (j:=0) z (A8.bd A G)) z ?_ T.O4
   refine bE H λY aU H=>Tp z z (SX.one (XA.fr [] Lr z) z) (O.stR D6 z z (j:=0) z (A8.bdN A G) z ?_) T.O4
   have aV:A8 (VI .i64) w ((b.set c.toNat [qi q]).set U.toNat [qi y]) Y:=A8.set A (show (VI .i64) w [qi y] y from z) aU
   refine T.M9 (SX.one (XA.fr [] Lr z) z)<|Bn<|Th<|Rg<|Mv z<|bE H λaW aX H=>Vv (V.X9 z z aX)<|An z<|T.ag (aq,Y,aW,((b.set c.toNat [qi q]).set U.toNat [qi y])) ⟨(D8 H N),aV⟩
  refine Xt<|have H:=D5 H N; Be<|Th<|have H:=H7 H an; Bn<|Th<|Rg<|Mv z<|bE H λaY aZ H=>Ws z z aZ<|An z<|T.ag (aj,m,aY,b) ⟨(D8 H M),a.u⟩
 refine Xt<|have H:=D5 H M; Be<|Th<|have H:=H7 H af; ?_
 cases H
 exact T.A0R results274 Li ⟨_,z,z,K⟩
theorem B9B {h a m n k p o q_0} (y:A8 (VI .i64) h m n) (q:B0r h p o) (H:B2g n k o=some q_0):∀ L,I7 prog 255 [a,.int .i64 k,p] h (F3 3 1 a m::L) (λv h' L'=>∃ r,v=.tuple #[]∧L'=F3 3 1 a r::L∧A8 (VI .i64) h' r q_0):=by
 intro L
 refine I7.enter func255 z z z<|Sr<|An z<|Sm z<|Ag z<|An z<|Sq ?_
 obtain ⟨A,B,C⟩:=J4 H
 have H:=B
 refine Bl<|T.lk [1,2,6] (FUEL,n,(0:Int),(20:Int),m) (λ⟨d,e,f,b,g⟩=>([(0,a),(7,qi f),(8,qi b)],F3 3 1 a g::L,λhh=>iter (A8U k o) d (e,f,b)=some A∧A8 (VI .i64) hh g e)) ⟨H,y⟩ ?_
 rintro ⟨d,e,f,b,g⟩ au aw ⟨D,s⟩
 obtain ⟨E,ax,rfl,H,t⟩:=G5 D
 refine T.norm [0,7,8,1,2,6] z<|T.fl ?_
 refine Sq<|Sm z<|Mv z<|Vv (V.le z z)<|Nt<|T.cH H z (λH=>?_) λH=>?_
 ·refine Ks<|Bl<|Sm z<|Mv z<|Mv z<|Mv z<|bE H λG I H=>To (O.G6 z (B3g s q.u I _) z λay aA aB aC J=>?_)
  obtain ⟨K,rfl,M,N⟩:=J
  refine O8 _ M<|Nt<|Sm z<|An z<|Rg<|Mv z<|Mv z<|bE H λP S H=>Ws z z S<|Ag z<|Ni<|Bn<|Th<|T.ag (E,G,b,P,K) ⟨(D8 H t),N⟩
 refine Xt<|have H:=D5 H t; Be<|Th<|have H:=H7 H C; Sm z<|Mv z<|Mv z<|Mv z<|bE H λaD U H=>To (O.G6 z (B3g s q.u U _) z λaE aG aI aJ W=>?_)
 obtain ⟨w,rfl,X,Y⟩:=W
 refine O8 _ X<|Nt<|T.A0G ?_
 obtain ⟨Z,aa,ab⟩:=J4 H
 have H:=aa
 refine Bl<|T.lk [0,1,2] (FUEL,(20:Int)) (λ⟨i,c⟩=>([(6,qi c)],F3 3 1 a w::L,λhh=>iter (A8Q k) i c=some Z)) H ?_
 rintro ⟨i,c⟩ aK aM ac
 obtain ⟨ad,aN,rfl,H,x⟩:=G5 ac
 refine T.norm [6,0,1,2] z<|T.fl ?_
 refine Sq<|Sm z<|Mv z<|Wl z z<|Nt<|T.cH H z (λH=>?_) λH=>?_
 ·refine Ks<|Bl<|Sm z<|bE H λae af H=>Vv (V.A9y z z af)<|Ag z<|An z<|Sq ?_
  obtain ⟨ai,aj,ak⟩:=J4 H
  have H:=aj
  refine Bl<|T.C3f (α:=Nat) [0,1,2,6,7,8] z (λj=>[]) (λj=>F3 3 1 a w::L) (λj hh=>iter (B2V k c ae) j ()=some ai) (λj=>j) FUEL trivial z H ?_
  rintro j aO aP am
  obtain ⟨aS,aU,rfl,H,an⟩:=G5 am
  refine T.norm [0,1,2,6,7,8] z<|T.fl ?_
  refine Sq<|Sm z<|Mv z<|Vv (V.le z z)<|Nt<|T.cH H z (λH=>?_) λH=>?_
  ·refine Ks<|Bl<|Sm z<|Mv z<|Mv z<|Mv z<|bE H λaV ao H=>Ws z z ao<|Mv z<|Mv z<|dead H
  refine Xt<|have H:=D5 H an; Be<|Th<|have H:=H7 H ak; Sq<|Sm z<|Mv z<|bE H λaW ap H=>Ws z z ap<|An z<|Sm z<|Mv z<|Wl z z<|Nt<|T.cH H z (λH=>?_) λH=>?_
  ·refine Rg<|Mv z<|Mv z<|Mv z<|Mv z<|Mv z<|dead H
  refine Ks<|Rg<|Mv z<|bE H λaq ar H=>Vv (V.A9y z z ar)<|Ag z<|Ni<|Bn<|Th<|T.ag (ad,aq) (D8 H x)
 refine Xt<|have H:=D5 H x; Be<|Th<|have H:=H7 H ab; ?_
 cases H
 exact T.A0R results255 Li ⟨_,z,z,Y.u⟩
theorem B4W {h a b c d e q_0} (f:A8 (VI .i64) h b c) (i:B0r h d e) (H:A4B c e=some q_0):∀ L,I7 prog 248 [a,d] h (F3 3 1 a b::L) (λv h' L'=>∃ g,v=.tuple #[]∧L'=F3 3 1 a g::L∧A8 (VI .i64) h' g q_0):=by
 intro L
 refine I7.enter func248 z z z<|Rg<|Mv z<|Mv z<|Vv (V.A2p A9 z (j:=0) z f.len)<|Mv z<|bE H λp k H=>To (O.G6 z (B9B f i k _) z λq r s t m=>?_)
 obtain ⟨u,rfl,n,o⟩:=m
 refine O8 _ n<|Ni ?_
 cases H
 exact T.A0R results248 Li ⟨_,z,z,o⟩
theorem B8D {h d B C r D I s q_0} (ab:A8 (VSl (VI .i64) 1) h B C) (ac:B0C h I s) (H:A8t C r D s=some q_0):∀ L,I7 prog 265 [d,.int .i64 r,.int .i64 D,I] h (F3 30 1 d B::L) (λv h' L'=>∃ J,v=.tuple #[]∧L'=F3 30 1 d J::L∧A8 (VSl (VI .i64) 1) h' J q_0):=by
 intro L
 refine I7.enter func265 z z z<|Sm z<|bE H λad ae H=>Ws z z ae<|An z<|T.A0G ?_
 obtain ⟨af,ai,aj⟩:=J4 H
 have H:=ai
 refine Bl<|T.lk [1,2,3] (FUEL,C,ad,B) (λ⟨n,e,f,k⟩=>([(0,d),(8,qi f)],F3 30 1 d k::L,λhh=>iter (A1G r D s) n (e,f)=some af∧A8 (VSl (VI .i64) 1) hh k e)) ⟨H,ab⟩ ?_
 rintro ⟨n,e,f,k⟩ a6 a7 ⟨ak,K⟩
 obtain ⟨am,a8,rfl,H,M⟩:=G5 ak
 refine T.norm [0,8,1,2,3] z<|T.fl ?_
 refine Sq<|Sm z<|Mv z<|Wl z z<|Nt<|T.cH H z (λH=>?_) λH=>?_
 ·refine Ks<|Sq<|Bl<|Sm z<|An z<|T.A0G ?_
  obtain ⟨an,ao,ap⟩:=J4 H
  have H:=ao
  refine Bl<|T.lk [1,2,3,8] (FUEL,e,f,k) (λ⟨o,m,c,b⟩=>([(0,d),(9,qi c)],F3 30 1 d b::L,λhh=>iter (A1H r s) o (m,c)=some an∧A8 (VSl (VI .i64) 1) hh b m)) ⟨H,K⟩ ?_
  rintro ⟨o,m,c,b⟩ aq a9 ⟨ar,a⟩
  obtain ⟨au,ah,rfl,H,N⟩:=G5 ar
  refine T.norm [0,9,1,2,3,8] z<|T.fl ?_
  refine Sq<|Sq ?_
  obtain ⟨aw,ax,ay⟩:=J4 H
  refine T.ck (α:=Bool) [0,1,2,3,8,9] (λp=>([(34,.bool p)],F3 30 1 d b::L,λhh=>aw=p)) ?_ ?_
  ·have H:=ax
   refine T.dw (.vs [0,1,2,3,4,5,6,7,8,9,10,11,12,13] (.alt 14 (.g (.v 15 (.v 16 .done))) .no)) 18 1 1 ?_
   refine Tm z z<|Tm z z<|Tv z (V.gt z z)<|Tm z z<|T.bH 21 H z (λH=>?_) λH=>?_
   ·refine Tm z z<|Tm z z<|Tm z z<|bE H λal P H=>?_
    obtain ⟨av,aA,⟨az,rfl,aB⟩⟩:=A8.get a P
    refine Tv z (Val.XA λ_ _ _=>V.ixR K7 z z (j:=0) z (A8.bd a P))<|Tv z (Val.XA λ_ _ _=>V.ldR D9 z (j:=0) z aA z)<|Tm z z<|Tm z z<|bE H λba aC H=>Tv z (V.X9 z z aC)<|bE H λbb S H=>?_
    obtain ⟨bc,aD,⟨be,rfl,aE⟩⟩:=A8.get a S
    refine Tv z (Val.XA λ_ _ _=>V.ixR K7 z z (j:=0) z (A8.bd a S))<|Tv z (Val.XA λ_ _ _=>V.ldR D9 z (j:=0) z aD z)<|bE H λaG aI H=>?_
    obtain ⟨bf,bg,bi,aJ,aK⟩:=B0C.call (ac.u (g:=aq)) aB aE aI
    refine Tp z z (X3 [0] [0] z z) (O.A1b z aJ z (aK _) z λbj bk bm bn aM=>?_) T.O4
    obtain ⟨rfl,aN⟩:=aM
    refine O8 _ aN<|T.N8 Li<|Tv z (V.lt z z)<|Tv z (V.pkT z z)<|T.M9 (X3 [0] [0] z z)<|Th<|T.mt (decide (aG<(0:Int))) (K9 H)
   refine T2 z z<|T2 z z<|T2 z z<|T2 z z<|T2 z z<|T.A3Y z z (X3 [0] [0] z z) z ?_ T.O4
   refine T.N8 Lr<|Tk z<|Tv z (V.pkF z z)<|T.M9 (X3 [0] [0] z z)<|Th<|T.mt false (K9 H)
  rintro p w bo aO
  have H:=H7 aO ay
  refine T.norm [34,0,1,2,3,8,9] z<|T.fl ?_
  refine T.cH H z (λH=>?_) λH=>?_
  ·refine Ks<|Sq<|Bl<|T.dw (.vs [0,1,2,3,4,5,6,7] (.x 8 (.x 9 (.v 10 (.v 11 (.alt 12 (.x 13 (.x 14 (.alt 15 (.alt 16 (.alt 17 .done .no) .no) .no))) .no)))))) 15 1 0 ?_
   refine Tm z z<|Tm z z<|Tm z z<|Tm z z<|bE H λU aP H=>Tv z (V.X9 z z aP)<|Tm z z<|Tm z z<|bE H λbp aS H=>Tv z (V.X9 z z aS)<|bE H λaU W H=>?_
   obtain ⟨bq,aV,⟨q,rfl,X⟩⟩:=A8.get a W
   refine T.tx z z (Val.XA λ_ _ _=>V.ixR K7 z z (j:=0) z (A8.bd a W)) z Calm.i<|T.tx z z (Val.XA λ_ _ _=>V.ldR D9 z (j:=0) z aV z) z Calm.i<|Tm z z<|Tm z z<|bE H λaW Y H=>?_
   obtain ⟨br,aX,⟨y,rfl,Z⟩⟩:=A8.get a Y
   refine Ts z z (X3 [] [0] z z) (V.ixR K7 z z (j:=0) z (A8.bd a Y)) z ?_ T.O4
   refine T.tx z z (Val.XA λ_ _ _=>V.ldR D9 z (j:=0) z aX z) z Calm.i<|bE H λbs E H=>?_
   obtain ⟨bt,bu,⟨bw,rfl,bx⟩⟩:=A8.get a E
   refine T.tx z z (Val.XA λ_ _ _=>V.ixR K7 z z (j:=0) z (A8.bd a E)) z Calm.i<|bE H λaY aZ H=>Tp z z (X3 [] [0] z z) (O.stR D9 z z (j:=0) z (A8.bdN a E) (G9.one X) ?_) T.O4
   have A:A8 (VSl (VI .i64) 1) w (b.set c.toNat [q]) aY:=A8.set a.u (show (VSl (VI .i64) 1) w [q] aU from ⟨q,z,X.u⟩) aZ
   refine bE H λbA G H=>?_
   obtain ⟨bB,bC,⟨bD,rfl,bG⟩⟩:=A8.get A G
   refine Ts z z (SX.one (XA.fr [] Lr z) z) (V.ixR K7 z z (j:=0) z (A8.bd A G)) z ?_ T.O4
   refine bE H λaa a0 H=>Tp z z (SX.one (XA.fr [] Lr z) z) (O.stR D9 z z (j:=0) z (A8.bdN A G) (G9.one Z) ?_) T.O4
   have a1:A8 (VSl (VI .i64) 1) w ((b.set c.toNat [q]).set U.toNat [y]) aa:=A8.set A (show (VSl (VI .i64) 1) w [y] aW from ⟨y,z,Z.u⟩) a0
   refine T.M9 (SX.one (XA.fr [] Lr z) z)<|Bn<|Th<|Rg<|Mv z<|bE H λa2 a3 H=>Vv (V.X9 z z a3)<|An z<|T.ag (au,aa,a2,((b.set c.toNat [q]).set U.toNat [y])) ⟨(D8 H N),a1⟩
  refine Xt<|have H:=D5 H N; Be<|Th<|have H:=H7 H ap; Bn<|Th<|Rg<|Mv z<|bE H λa4 a5 H=>Ws z z a5<|An z<|T.ag (am,m,a4,b) ⟨(D8 H M),a.u⟩
 refine Xt<|have H:=D5 H M; Be<|Th<|have H:=H7 H aj; ?_
 cases H
 exact T.A0R results265 Li ⟨_,z,z,K⟩
theorem B7W (n:Nat):∀ {h:PH} {pv0:Value} {pcs0:List (List Value)} {data1:List (List Int)} (pr0:A8 (VSl (VI .i64) 1) h pcs0 data1) {a3:Int} {b4:Int} {limit5:Int} {pv4:Value} {cmp6:(List Int)→(List Int)→Option Int} (pr4:B0C h pv4 cmp6) {q_0:List (List Int)} (H:B1j n data1 a3 b4 limit5 cmp6=some q_0) (L:List E5),I7 prog 253 [pv0,.int .i64 a3,.int .i64 b4,.int .i64 limit5,pv4] h (F3 30 1 pv0 pcs0::L) (λv h' L'=>∃ ls0,v=.tuple #[]∧L'=F3 30 1 pv0 ls0::L∧A8 (VSl (VI .i64) 1) h' ls0 q_0):=by
  induction n with
  | zero=>intros; rename_i H _; cases H
  | succ n self=>
    intro h pv0 pcs0 data1 pr0 a3 b4 limit5 pv4 cmp6 pr4 q_0 H L
    refine I7.enter func253 z z z<|Sr<|An z<|Sr<|An z ?_
    obtain ⟨b,c,d⟩:=J4 H
    have H:=c
    refine Bl<|T.C3f (α:=Nat) [0,1,2,3,4,10,11] z (λa=>[]) (λa=>F3 30 1 pv0 pcs0::L) (λa hh=>iter (A4M data1 a3 b4 limit5 cmp6) a ()=some b) (λa=>a) FUEL trivial z H ?_
    rintro a o p e
    obtain ⟨q,r,rfl,H,f⟩:=G5 e
    refine T.norm [0,1,2,3,4,10,11] z<|T.fl ?_
    refine Bl<|Sm z<|Mv z<|bE H λs g H=>Vv (V.X9 z z g)<|An z<|Sq<|Sm z<|Vv (V.le z z)<|Nt<|T.cH H z (λH=>?_) λH=>?_
    ·refine Sm z<|Mv z<|Mv z<|Mv z<|bE H λt i H=>To (O.G6 z (B8D pr0.u pr4.u i _) z λw x y A j=>?_)
     obtain ⟨B,rfl,k,m⟩:=j
     refine O8 _ k<|Nr<|Tr<|Br<|Tr<|have H:=D5 H f; Br<|have H:=H7 H d; ?_
     cases H
     exact T.C4Q results253 Li ⟨_,z,z,m⟩
    refine Ks<|Sq<|Sm z<|We z z<|Nt<|T.cH H z (λH=>?_) λH=>?_
    ·refine Sm z<|Mv z<|Mv z<|Mv z<|dead H
    refine Ks<|Sq<|Sm z<|Vv (V.not z)<|Nt<|Cf z<|Ks<|Sm z<|Mv z<|Mv z<|Mv z<|dead H
theorem B6l {h a b c d e q_0} (f:A8 (VSl (VI .i64) 1) h b c) (i:B0C h d e) (H:A5F c e=some q_0):∀ L,I7 prog 242 [a,d] h (F3 30 1 a b::L) (λv h' L'=>∃ g,v=.tuple #[]∧L'=F3 30 1 a g::L∧A8 (VSl (VI .i64) 1) h' g q_0):=by
 intro L
 refine I7.enter func242 z z z<|Sm z<|Vv (V.A2p K7 z (j:=0) z f.len)<|An z<|Rg<|Mv z<|Mv z<|Mv z<|bE H λt k H=>Vv (V.A5u underlying3 underlying208 z k)<|bE H λw m H=>To (O.cs (B3M m _) λy B=>Mv z<|bE H λC p H=>To (O.G6 z (B7W _ f.u i.u p _) z λD E G I q=>?_))
 obtain ⟨J,rfl,r,s⟩:=q
 refine O8 _ r<|Ni ?_
 cases H
 exact T.A0R results242 Li ⟨_,z,z,s⟩
theorem B9q {h f C D s E J w q_0} (ac:A8 M5 h C D) (ad:B0Q h J w) (H:B6Q D s E w=some q_0):∀ L,I7 prog 194 [f,.int .i64 s,.int .i64 E,J] h (F3 88 3 f C::L) (λv h' L'=>∃ K,v=.tuple #[]∧L'=F3 88 3 f K::L∧A8 M5 h' K q_0):=by
 intro L
 refine I7.enter func194 z z z<|Sm z<|bE H λae af H=>Ws z z af<|An z<|T.A0G ?_
 obtain ⟨ai,aj,ak⟩:=J4 H
 have H:=aj
 refine Bl<|T.lk [1,2,3] (FUEL,D,ae,C) (λ⟨p,k,m,n⟩=>([(0,f),(8,qi m)],F3 88 3 f n::L,λhh=>iter (B3c s E w) p (k,m)=some ai∧A8 M5 hh n k)) ⟨H,ac⟩ ?_
 rintro ⟨p,k,m,n⟩ a4 a5 ⟨am,M⟩
 obtain ⟨an,a6,rfl,H,N⟩:=G5 am
 refine T.norm [0,8,1,2,3] z<|T.fl ?_
 refine Sq<|Sm z<|Mv z<|Wl z z<|Nt<|T.cH H z (λH=>?_) λH=>?_
 ·refine Ks<|Sq<|Bl<|Sm z<|An z<|T.A0G ?_
  obtain ⟨ao,ap,aq⟩:=J4 H
  have H:=ap
  refine Bl<|T.lk [1,2,3,8] (FUEL,k,m,n) (λ⟨q,o,e,c⟩=>([(0,f),(9,qi e)],F3 88 3 f c::L,λhh=>iter (B2O s w) q (o,e)=some ao∧A8 M5 hh c o)) ⟨H,M⟩ ?_
  rintro ⟨q,o,e,c⟩ G a7 ⟨ar,b⟩
  obtain ⟨au,a8,rfl,H,P⟩:=G5 ar
  refine T.norm [0,9,1,2,3,8] z<|T.fl ?_
  refine Sq<|Sq ?_
  obtain ⟨aw,ax,ay⟩:=J4 H
  refine T.ck (α:=Bool) [0,1,2,3,8,9] (λr=>([(34,.bool r)],F3 88 3 f c::L,λhh=>aw=r)) ?_ ?_
  ·have H:=ax
   refine T.dw (.vs [0,1,2,3,4,5,6,7,8,9,10,11,12,13] (.alt 14 (.g (.v 15 (.v 16 .done))) .no)) 18 1 1 ?_
   refine Tm z z<|Tm z z<|Tv z (V.gt z z)<|Tm z z<|T.bH 21 H z (λH=>?_) λH=>?_
   ·refine Tm z z<|Tm z z<|Tm z z<|bE H λy S H=>?_
    obtain ⟨a9,aA,rfl⟩:=A8.get b S
    refine Tv z (Val.XA λ_ _ _=>V.ixR A2a z z (j:=0) z (A8.bd b S))<|Tv z (Val.XA λ_ _ _=>V.C7Z z (j:=0) z aA A1E)<|Tm z z<|Tm z z<|bE H λah aB H=>Tv z (V.X9 z z aB)<|bE H λA U H=>?_
    obtain ⟨al,aC,rfl⟩:=A8.get b U
    refine Tv z (Val.XA λ_ _ _=>V.ixR A2a z z (j:=0) z (A8.bd b U))<|Tv z (Val.XA λ_ _ _=>V.C7Z z (j:=0) z aC A1E)<|bE H λaD aE H=>?_
    obtain ⟨av,az,ba,aG,aI⟩:=B0Q.call (ad.u (g:=G)) (show M5 G [qi y.A3v,qi y.Y6,qi y.A3h] y from rfl) (show M5 G [qi A.A3v,qi A.Y6,qi A.A3h] A from rfl) aE
    refine Tp z z (X3 [0] [0] z z) (O.A1b z aG z (aI _) z λbb bc be bf aJ=>?_) T.O4
    obtain ⟨rfl,aK⟩:=aJ
    refine O8 _ aK<|T.N8 Li<|Tv z (V.lt z z)<|Tv z (V.pkT z z)<|T.M9 (X3 [0] [0] z z)<|Th<|T.mt (decide (aD<(0:Int))) (K9 H)
   refine T2 z z<|T2 z z<|T2 z z<|T2 z z<|T2 z z<|T.A3Y z z (X3 [0] [0] z z) z ?_ T.O4
   refine T.N8 Lr<|Tk z<|Tv z (V.pkF z z)<|T.M9 (X3 [0] [0] z z)<|Th<|T.mt false (K9 H)
  rintro r B bg aM
  have H:=H7 aM ay
  refine T.norm [34,0,1,2,3,8,9] z<|T.fl ?_
  refine T.cH H z (λH=>?_) λH=>?_
  ·refine Ks<|Sq<|Bl<|T.dw (.vs [0,1,2,3,4,5,6,7] (.x 8 (.x 9 (.v 10 (.v 11 (.alt 12 (.x 13 (.x 14 (.alt 15 (.alt 16 (.alt 17 .done .no) .no) .no))) .no)))))) 15 1 0 ?_
   refine Tm z z<|Tm z z<|Tm z z<|Tm z z<|bE H λW aN H=>Tv z (V.X9 z z aN)<|Tm z z<|Tm z z<|bE H λbi aO H=>Tv z (V.X9 z z aO)<|bE H λa X H=>?_
   obtain ⟨bj,aP,rfl⟩:=A8.get b X
   refine T.tx z z (Val.XA λ_ _ _=>V.ixR A2a z z (j:=0) z (A8.bd b X)) z Calm.i<|T.tx z z (Val.XA λ_ _ _=>V.C7Z z (j:=0) z aP A1E) z Calm.i<|Tm z z<|Tm z z<|bE H λd Y H=>?_
   obtain ⟨bk,aS,rfl⟩:=A8.get b Y
   refine Ts z z (X3 [] [0] z z) (V.ixR A2a z z (j:=0) z (A8.bd b Y)) z ?_ T.O4
   refine T.tx z z (Val.XA λ_ _ _=>V.C7Z z (j:=0) z aS A1E) z Calm.i<|bE H λbm Z H=>?_
   obtain ⟨bn,aU,rfl⟩:=A8.get b Z
   refine T.tx z z (Val.XA λ_ _ _=>V.ixR A2a z z (j:=0) z (A8.bd b Z)) z Calm.i<|bE H λaV aW H=>Tp z z (X3 [] [0] z z) (O.stX A1E z z (j:=0) z z z z aU ?_) T.O4
   have I:A8 M5 B (c.set e.toNat [qi a.A3v,qi a.Y6,qi a.A3h]) aV:=A8.set b.u (show M5 B [qi a.A3v,qi a.Y6,qi a.A3h] a from z) aW
   refine bE H λbo aa H=>?_
   obtain ⟨bp,aX,rfl⟩:=A8.get I aa
   refine Ts z z (SX.one (XA.fr [] Lr z) z) (V.ixR A2a z z (j:=0) z (A8.bd I aa)) z ?_ T.O4
   refine bE H λab aY H=>Tp z z (SX.one (XA.fr [] Lr z) z) (O.stX A1E z z (j:=0) z z z z aX ?_) T.O4
   have aZ:A8 M5 B ((c.set e.toNat [qi a.A3v,qi a.Y6,qi a.A3h]).set W.toNat [qi d.A3v,qi d.Y6,qi d.A3h]) ab:=A8.set I (show M5 B [qi d.A3v,qi d.Y6,qi d.A3h] d from z) aY
   refine T.M9 (SX.one (XA.fr [] Lr z) z)<|Bn<|Th<|Rg<|Mv z<|bE H λa0 a1 H=>Vv (V.X9 z z a1)<|An z<|T.ag (au,ab,a0,((c.set e.toNat [qi a.A3v,qi a.Y6,qi a.A3h]).set W.toNat [qi d.A3v,qi d.Y6,qi d.A3h])) ⟨(D8 H P),aZ⟩
  refine Xt<|have H:=D5 H P; Be<|Th<|have H:=H7 H aq; Bn<|Th<|Rg<|Mv z<|bE H λa2 a3 H=>Ws z z a3<|An z<|T.ag (an,o,a2,c) ⟨(D8 H N),b.u⟩
 refine Xt<|have H:=D5 H N; Be<|Th<|have H:=H7 H ak; ?_
 cases H
 exact T.A0R results194 Li ⟨_,z,z,M⟩
theorem B9I (n:Nat):∀ {h:PH} {pv0:Value} {pcs0:List (List Value)} {data1:List H8} (pr0:A8 M5 h pcs0 data1) {a3:Int} {b4:Int} {limit5:Int} {pv4:Value} {cmp6:H8→H8→Option Int} (pr4:B0Q h pv4 cmp6) {q_0:List H8} (H:B6O n data1 a3 b4 limit5 cmp6=some q_0) (L:List E5),I7 prog 136 [pv0,.int .i64 a3,.int .i64 b4,.int .i64 limit5,pv4] h (F3 88 3 pv0 pcs0::L) (λv h' L'=>∃ ls0,v=.tuple #[]∧L'=F3 88 3 pv0 ls0::L∧A8 M5 h' ls0 q_0):=by
  induction n with
  | zero=>intros; rename_i H _; cases H
  | succ n self=>
    intro h pv0 pcs0 data1 pr0 a3 b4 limit5 pv4 cmp6 pr4 q_0 H L
    refine I7.enter func136 z z z<|Sr<|An z<|Sr<|An z ?_
    obtain ⟨b,c,d⟩:=J4 H
    have H:=c
    refine Bl<|T.C3f (α:=Nat) [0,1,2,4] z (λa=>[]) (λa=>F3 88 3 pv0 pcs0::L) (λa hh=>iter (B2U data1 a3 b4 cmp6) a ()=some b) (λa=>a) FUEL trivial z H ?_
    rintro a o p e
    obtain ⟨q,r,rfl,H,f⟩:=G5 e
    refine T.norm [0,1,2,4] z<|T.fl ?_
    refine Bl<|Sm z<|Mv z<|bE H λs g H=>Vv (V.X9 z z g)<|An z<|Sq<|Sm z<|Vv (V.le z z)<|Nt<|T.cH H z (λH=>?_) λH=>?_
    ·refine Sm z<|Mv z<|Mv z<|Mv z<|bE H λt i H=>To (O.G6 z (B9q pr0.u pr4.u i _) z λw x y A j=>?_)
     obtain ⟨B,rfl,k,m⟩:=j
     refine O8 _ k<|Nr<|Tr<|Br<|Tr<|have H:=D5 H f; Br<|have H:=H7 H d; ?_
     cases H
     exact T.C4Q results136 Li ⟨_,z,z,m⟩
    exact dead H
theorem B7C {h a b c d e q_0} (f:A8 M5 h b c) (i:B0Q h d e) (H:B3A c e=some q_0):∀ L,I7 prog 75 [a,d] h (F3 88 3 a b::L) (λv h' L'=>∃ g,v=.tuple #[]∧L'=F3 88 3 a g::L∧A8 M5 h' g q_0):=by
 intro L
 refine I7.enter func75 z z z<|Sm z<|Vv (V.A2p A2a z (j:=0) z f.len)<|An z<|Rg<|Mv z<|Mv z<|Mv z<|bE H λt k H=>Vv (V.A5u underlying3 underlying208 z k)<|bE H λw m H=>To (O.cs (B3M m _) λy B=>Mv z<|bE H λC p H=>To (O.G6 z (B9I _ f.u i.u p _) z λD E G I q=>?_))
 obtain ⟨J,rfl,r,s⟩:=q
 refine O8 _ r<|Ni ?_
 cases H
 exact T.A0R results75 Li ⟨_,z,z,s⟩
end Go.Proofs.X
open Go Go.Proofs Go.Proofs.Tryz Go.Sl Go.Dm
namespace Go.Proofs.X
theorem A1d:zer prog 30=some (.slice none 0 0):=by kernel_rfl
theorem C1K {h a b c d} (H:bits_Mul64 a b=some (c,d)):∀ L,FnW prog 193 [.int .u64 a,.int .u64 b] h L (.tuple #[.int .u64 c,.int .u64 d]):=by
 intro L
 exact I7.enter func193 z z z<|Sg z<|An z<|Sm z<|bE H λy e H=>Vv (V.C3H z z e)<|An z<|Sm z<|bE H λA f H=>Vv (V.A3S z z f)<|An z<|Sm z<|bE H λB g H=>Vv (V.C3H z z g)<|An z<|Sm z<|bE H λC i H=>Vv (V.A3S z z i)<|An z<|Sm z<|Mv z<|bE H λD j H=>Vv (V.D0n z z j)<|An z<|Sm z<|Mv z<|bE H λE k H=>Vv (V.D0n z z k)<|Mv z<|bE H λG m H=>Vv (V.A3S z z m)<|bE H λI n H=>Vv (V.D0o z z n)<|An z<|Sm z<|bE H λJ o H=>Vv (V.C3H z z o)<|An z<|Sm z<|bE H λK p H=>Vv (V.A3S z z p)<|An z<|Sq<|T.norm [0,1,6,7,9,12,13] z<|Rg<|Mv z<|Mv z<|Mv z<|bE H λM q H=>Vv (V.D0n z z q)<|bE H λN r H=>Vv (V.D0o z z r)<|An z<|Sm z<|Mv z<|bE H λO s H=>Vv (V.D0n z z s)<|Mv z<|bE H λP t H=>Vv (V.D0o z z t)<|Mv z<|bE H λS u H=>Vv (V.A3S z z u)<|bE H λU w H=>Vv (V.D0o z z w)<|An z<|Sm z<|Mv z<|bE H λW x H=>Vv (V.D0n z z x)<|Ag z<|Nr<|E1 H
theorem C5a {h a b c d} (H:bits_Mul a b=some (c,d)):∀ L,FnW prog 132 [.int .u64 a,.int .u64 b] h L (.tuple #[.int .u64 c,.int .u64 d]):=by
 intro L
 exact I7.enter func132 z z z<|Sg z<|An z<|Sq<|Cf z<|Ks<|Sm z<|Mv z<|bE H λ⟨i,j⟩ e H=>To (O.cs (C1K e _) λm o=>Mv z<|Wx z z<|Wx z z<|Ag z<|An z<|Sm z<|Mv z<|Ag z<|Ag z<|Nr<|E1 H)
theorem A9h {h r s w y} (A:G9 (VI .i64) 1 h r s) (H:A6n s w=some y):∀ L,I7 prog 71 [r,.int .i64 w] h (L) (λv h' L'=>∃ B,L'=F3 3 1 v B::L∧A8 (VI .i64) h' B y):=by
 intro L
 refine I7.enter func71 z z z<|Sr<|An z<|Sq<|Sm z<|Wl z z<|Nt ?_
 obtain ⟨U,W,X⟩:=J4 H
 refine T.ck (α:=Unit) [0,1] (λ_=>([],L,λhh=>U=())) ?_ ?_
 ·have H:=W
  refine T.cH H z dead λH=>Ks<|T.mt () (K9 H)
 rintro _ aN aO Y
 have H:=H7 Y X
 refine T.norm [0,1] z<|T.fl ?_
 refine Sm z<|Vv (V.P7 A9 z A)<|bE H λaP Z H=>Vv (V.A5u underlying3 underlying208 z Z)<|Mv z<|bE H λaS aa H=>Vv (V.A5u underlying3 underlying208 z aa)<|bE H λ⟨aU,ab⟩ ac H=>To (O.cs (C5a ac _) λaW aY=>Mv z<|Wx z z<|Wx z z<|Ag z<|An z<|Sq<|Sq ?_)
 obtain ⟨af,ai,aj⟩:=J4 H
 refine T.ck (α:=Bool) [0,6] (λf=>([(26,.bool f)],L,λhh=>af=f)) ?_ ?_
 ·have H:=ai
  refine Rg<|Mv z<|Wg z z<|Mv z<|T.bH 23 H z (λH=>?_) λH=>?_
  ·refine S2<|Kt z<|Nt<|T.mt true (K9 H)
  refine Mv z<|Wg z z<|Kf z<|Nt<|T.mt (decide ((9223372036854775807:Int)<ab)) (K9 H)
 rintro f aZ a0 ak
 have H:=H7 ak aj
 refine T.norm [26,0,6] z<|T.fl ?_
 obtain ⟨am,an,ao⟩:=J4 H
 refine T.ck (α:=Unit) [0,6] (λ_=>([],L,λhh=>am=())) ?_ ?_
 ·have H:=an
  refine T.cH H z dead λH=>Ks<|T.mt () (K9 H)
 rintro _ n a1 ap
 have H:=H7 ap ao
 refine T.norm [0,6] z<|T.fl ?_
 refine Sm z<|bE H λo aq H=>Vv (V.A5u underlying208 underlying3 z aq)<|bE H λk C H=>To (O.mkX A9 J6 z z z z C z λD a2 a3=>have p:A8 (VI .i64) n _ k:=A8.rep z C; An z<|Sm z<|Mv z ?_)
 obtain ⟨m,E,q⟩:=G9.row (A.u (g:=n))
 refine bE H λ⟨G,ar⟩ I H=>?_
 have J:0+k.length≤List.length (α:=List Value) (List.replicate o.toNat [qi 0]):=by rw [p.len]; omega
 refine To (O.copy A9 z z (j:=0) z (λ_ iv=>D1.D4G iv (j:=0) z p.len) J (C1J.fix E) E.wide (A8.ones VI.plain q) z<|T.int (D4a q I).symm<|have au:A8 (VI .i64) n (A3u (List.replicate o.toNat [qi 0]) 0 (List.take (min (List.length m) k.length) m)) G:=A8.cp p q J I; An z<|Sq ?_)
 obtain ⟨aw,ax,ay⟩:=J4 H
 have H:=ax
 refine Bl<|T.lk [] (FUEL,G,ar,(A3u (List.replicate o.toNat [qi 0]) 0 (List.take (min (List.length m) k.length) m))) (λ⟨e,d,a,b⟩=>([(7,D),(8,qi a)],F3 3 1 D b::L,λhh=>iter A9d e (d,a)=some aw∧A8 (VI .i64) hh b d)) ⟨H,au⟩ ?_
 rintro ⟨e,d,a,b⟩ aA a4 ⟨aB,c⟩
 obtain ⟨aC,a5,rfl,H,K⟩:=G5 aB
 refine T.norm [7,8] z<|T.fl ?_
 refine Sq<|Sm z<|Mv z<|Vv (V.A2p A9 z (j:=0) z c.len)<|Wl z z<|Nt<|T.cH H z (λH=>?_) λH=>?_
 ·refine Ks<|Bl<|T.dw (.vs [0,1,2] (.x 3 (.v 4 (.v 5 (.x 6 (.alt 7 (.g (.v 8 (.alt 9 .done .no))) .no)))))) 7 1 0 ?_
  refine Tm z z<|Tm z z<|Tm z z<|bE H λa6 aD H=>T.tx z z (Val.XA λ_ _ _=>V.C3J A9 z (j:=0) z c.len (.inr ⟨_,_,z,z⟩) (.inl ⟨z,z⟩) (A4S aD)) z Calm.i<|Tm z z<|Tm z z<|bE H λa7 aE H=>T.tx z z (Val.XA λ_ _ _=>V.C3J A9 z (j:=0) z c.len (.inl ⟨z,z⟩) (.inr ⟨_,_,z,z⟩) (A4S aE)) z Calm.i<|bE H λa8 M H=>bE H λa9 aG H=>T.wide 0 z λaI=>bE H λ⟨N,ah⟩ P H=>have S:a.toNat+((d.length:Int).toNat - a.toNat)≤List.length (α:=List Value) b:=C7a c.len M; Tp z z (X3 [] [0] z z) (O.copy A9 z z (j:=0) z (λ_ iv=>D1.C2Q iv (j:=0) z c.len (A4S M)) S (C1J.C2Q (j:=0) z c.len (A4S aG)) (A1J.take (A1J.drop aI)) (A8.ones VI.plain (A8.part c (0:Int).toNat (a.toNat - (0:Int).toNat))) z ?_) T.O4
  refine T.int (D4a (A8.part c (0:Int).toNat (a.toNat - (0:Int).toNat)) P).symm<|have aJ:A8 (VI .i64) aA (A3u b a.toNat (List.take (min (List.length (List.take (a.toNat - (0:Int).toNat) (List.drop (0:Int).toNat b))) ((d.length:Int).toNat - a.toNat)) (List.take (a.toNat - (0:Int).toNat) (List.drop (0:Int).toNat b)))) N:=A8.cp c (A8.part c (0:Int).toNat (a.toNat - (0:Int).toNat)) S P; T.N8 Lr<|bE H λaK aM H=>Tv z (V.C6P z z aM)<|Ts z z (SX.one (XA.fr [] Lr z) z) (V.asg z) z ?_ T.O4
  refine T.M9 (SX.one (XA.fr [] Lr z) z)<|Bn<|Th<|T.ag (aC,N,aK,(A3u b a.toNat (List.take (min (List.length (List.take (a.toNat - (0:Int).toNat) (List.drop (0:Int).toNat b))) ((d.length:Int).toNat - a.toNat)) (List.take (a.toNat - (0:Int).toNat) (List.drop (0:Int).toNat b))))) ⟨(D8 H K),aJ⟩
 refine Xt<|have H:=D5 H K; Be<|Th<|have H:=H7 H ay; Sm z<|Ag z<|Nr ?_
 cases H
 exact T.rl z (Rv z) ⟨_,z,c⟩
theorem B8E {h m s n B} (d:A8 (VI .i64) h s n) (H:A7Y n=some B):∀ L,I7 prog 236 [m] h (F3 3 1 m s::L) (λv h' L'=>∃ C,L'=F3 3 1 v C::L∧A8 (VI .i64) h' C B):=by
 intro L
 refine I7.enter func236 z z z<|Sr<|An z<|Sq<|Sm z<|Vv (V.A2p A9 z (j:=0) z d.len)<|Wl z z<|Nt<|T.cH H z (λH=>?_) λH=>?_
 ·refine Sm z<|Ag z<|Nr<|Tr ?_
  cases H
  exact T.rl z (Rv z) ⟨_,z,d⟩
 refine Ks<|Sq<|Sr<|An z ?_
 obtain ⟨S,U,D⟩:=J4 H
 have H:=U
 refine Bl<|T.lk [0] (FUEL,(1:Int)) (λ⟨g,f⟩=>([(3,qi f)],F3 3 1 m s::L,λhh=>iter (A4y n) g f=some S)) H ?_
 rintro ⟨g,f⟩ aI aJ W
 obtain ⟨X,aK,rfl,H,x⟩:=G5 W
 refine T.norm [3,0] z<|T.fl ?_
 refine Sq<|Sm z<|Mv z<|Vv (V.A2p A9 z (j:=0) z d.len)<|Wl z z<|Nt<|T.cH H z (λH=>?_) λH=>?_
 ·refine Ks<|Sq<|Bl<|Sq<|T.dw (.vs [0,1,2,3,4,5,6,7,8,9] .done) 11 1 1 ?_
  refine Tm z z<|Tm z z<|bE H λaM E H=>?_
  obtain ⟨aN,Y,rfl⟩:=A8.get d E
  refine Tv z (Val.XA λ_ _ _=>V.ixR A9 z z (j:=0) z (A8.bd d E))<|Tv z (Val.XA λ_ _ _=>V.ldR D6 z (j:=0) z Y z)<|Tm z z<|Tm z z<|bE H λaO Z H=>Tv z (V.X9 z z Z)<|bE H λaP G H=>?_
  obtain ⟨aS,aa,rfl⟩:=A8.get d G
  refine Tv z (Val.XA λ_ _ _=>V.ixR A9 z z (j:=0) z (A8.bd d G))<|Tv z (Val.XA λ_ _ _=>V.ldR D6 z (j:=0) z aa z)<|Tv z (V.eq z z)<|T.M9 (X3 [0] [0] z z)<|Th<|T.cH H z (λH=>?_) λH=>?_
  ·refine Sm z<|Mv z<|bE H λaU ab H=>Vv (V.C3J A9 z (j:=0) z d.len (.inr ⟨_,_,z,z⟩) (.inl ⟨z,z⟩) (A4S ab))<|An z<|Sq<|Sr<|An z ?_
   obtain ⟨ac,ad,ae⟩:=J4 H
   have H:=ad
   refine Bl<|T.lk [4] (FUEL,n,f,(1:Int),s) (λ⟨i,e,b,k,c⟩=>([(0,m),(3,qi b),(5,qi k)],F3 3 1 m c::L,λhh=>iter (A4K n f) i (e,b,k)=some ac∧A8 (VI .i64) hh c e)) ⟨H,d.u⟩ ?_
   rintro ⟨i,e,b,k,c⟩ o aV ⟨af,a⟩
   obtain ⟨I,aW,rfl,H,y⟩:=G5 af
   refine T.norm [0,3,5,4] z<|T.fl ?_
   refine Sq<|Sm z<|Mv z<|Vv (V.D4c A9 z (j:=0) z)<|Wl z z<|Nt<|T.cH H z (λH=>?_) λH=>?_
   ·refine Ks<|Sq<|Bl<|Sq<|T.dw (.vs [0,1,2,3,4,5,6,7,8,9] .done) 11 1 1 ?_
    refine Tm z z<|Tm z z<|bE H λaX p H=>?_
    obtain ⟨aY,ai,rfl⟩:=A8.get a (X4 p).2.2.2
    refine Tv z (Val.XA λ_ _ _=>V.ixV A9 z z (j:=0) z ⟨(X4 p).1,(X4 p).2.1,(X4 p).2.2.1⟩ (A8.bd a (X4 p).2.2.2).2)<|Tv z (Val.XA λ_ _ _=>V.ldR D6 z (j:=0) z ai z)<|Tm z z<|Tm z z<|bE H λaZ aj H=>Tv z (V.X9 z z aj)<|bE H λa0 q H=>?_
    obtain ⟨a1,ak,rfl⟩:=A8.get a (X4 q).2.2.2
    refine Tv z (Val.XA λ_ _ _=>V.ixV A9 z z (j:=0) z ⟨(X4 q).1,(X4 q).2.1,(X4 q).2.2.1⟩ (A8.bd a (X4 q).2.2.2).2)<|Tv z (Val.XA λ_ _ _=>V.ldR D6 z (j:=0) z ak z)<|Tv z (V.ne z z)<|T.M9 (X3 [0] [0] z z)<|Th<|T.cH H z (λH=>?_) λH=>?_
    ·refine Sm z<|Mv z<|Mv z<|Mv z<|bE H λw r H=>?_
     obtain ⟨a2,am,rfl⟩:=A8.get a (X4 r).2.2.2
     refine Vv (V.ixV A9 z z (j:=0) z ⟨(X4 r).1,(X4 r).2.1,(X4 r).2.2.1⟩ (A8.bd a (X4 r).2.2.2).2)<|Vv (V.ldR D6 z (j:=0) z am z)<|bE H λa3 A H=>?_
     obtain ⟨a4,a5,rfl⟩:=A8.get a A
     refine Vv (V.ixR A9 z z (j:=0) z (A8.bd a A))<|bE H λJ an H=>To (O.stR D6 z z (j:=0) z (A8.bdN a A) z<|have ao:A8 (VI .i64) o (c.set b.toNat [qi w]) J:=A8.set a (show (VI .i64) o [qi w] w from z) an; Nt<|Rg<|Mv z<|bE H λap aq H=>Ws z z aq<|Ag z<|Ni<|Bn<|Th<|Rg<|Mv z<|bE H λar au H=>Ws z z au<|An z<|T.ag (I,J,ap,ar,(c.set b.toNat [qi w])) ⟨(D8 H y),ao⟩)
    refine T.skip<|Bn<|Th<|Rg<|Mv z<|bE H λaw ax H=>Ws z z ax<|An z<|T.ag (I,e,b,aw,c) ⟨(D8 H y),a⟩
   refine Xt<|have H:=D5 H y; Be<|Th<|have H:=H7 H ae; Sm z<|Mv z<|bE H λa6 ay H=>Vv (V.C3J A9 z (j:=0) z a.len (.inr ⟨_,_,z,z⟩) (.inl ⟨z,z⟩) (A4S ay))<|bE H λa7 K H=>have M:=C7a a.len K; bE H λaA aB H=>To (O.clear A9 J6 z z z (j:=0) z (λ_ iv=>D1.C2Q iv (j:=0) z a.len (A4S K)) M<|have N:A8 (VI .i64) o (A3u c b.toNat (List.replicate ((e.length:Int).toNat - b.toNat) ([qi 0]:List Value))) aA:=A8.clr a (show (VI .i64) o [qi 0] (0:Int) from z) M aB; Nt<|Sm z<|Mv z<|bE H λaC P H=>To (O.slP A9 z z (j:=0) z (A8.D2J N P) z λa8=>have aD:A8 (VI .i64) o (List.take b.toNat (A3u c b.toNat (List.replicate ((e.length:Int).toNat - b.toNat) ([qi 0]:List Value)))) aC:=A8.slp N P; Ag z<|Nr<|Br<|Tr<|Tr<|have H:=D5 H x; Br<|Tr<|have H:=H7 H D; ?_))
   cases H
   exact T.rl z (Rv z) ⟨_,z,aD⟩
  refine T.skip<|Bn<|Th<|Rg<|Mv z<|bE H λaE aG H=>Ws z z aG<|An z<|T.ag (X,aE) (D8 H x)
 refine Xt<|have H:=D5 H x; Be<|Th<|have H:=H7 H D; Sm z<|Ag z<|Nr ?_
 cases H
 exact T.rl z (Rv z) ⟨_,z,d.u⟩
theorem B3i {h n s o D w E} (d:A8 (VSl (VI .i64) 1) h s o) (G:B8u h D w) (H:A3j o w=some E):∀ L,I7 prog 244 [n,D] h (F3 30 1 n s::L) (λv h' L'=>∃ I,L'=F3 30 1 v I::L∧A8 (VSl (VI .i64) 1) h' I E):=by
 intro L
 refine I7.enter func244 z z z<|Sr<|An z<|Sq<|Sm z<|Vv (V.A2p K7 z (j:=0) z d.len)<|Wl z z<|Nt<|T.cH H z (λH=>?_) λH=>?_
 ·refine Sm z<|Ag z<|Nr<|Tr ?_
  cases H
  exact T.rl z (Rv z) ⟨_,z,d⟩
 refine Ks<|Sq<|Sr<|An z ?_
 obtain ⟨aa,ab,J⟩:=J4 H
 have H:=ab
 refine Bl<|T.lk [0,1] (FUEL,(1:Int)) (λ⟨i,f⟩=>([(5,qi f)],F3 30 1 n s::L,λhh=>iter (A1T o w) i f=some aa)) H ?_
 rintro ⟨i,f⟩ ac a8 ad
 obtain ⟨ae,a9,rfl,H,A⟩:=G5 ad
 refine T.norm [5,0,1] z<|T.fl ?_
 refine Sq<|Sm z<|Mv z<|Vv (V.A2p K7 z (j:=0) z d.len)<|Wl z z<|Nt<|T.cH H z (λH=>?_) λH=>?_
 ·refine Ks<|Sq<|Bl<|Sq<|T.dw (.vs [0,1,2,3,4,5,6,7,8,9] (.alt 10 .done .no)) 12 1 1 ?_
  refine Tm z z<|Tm z z<|Tm z z<|bE H λah K H=>?_
  obtain ⟨al,af,⟨av,rfl,ai⟩⟩:=A8.get d K
  refine Tv z (Val.XA λ_ _ _=>V.ixR K7 z z (j:=0) z (A8.bd d K))<|Tv z (Val.XA λ_ _ _=>V.ldR D9 z (j:=0) z af z)<|Tm z z<|Tm z z<|bE H λaz aj H=>Tv z (V.X9 z z aj)<|bE H λba M H=>?_
  obtain ⟨bb,ak,⟨bc,rfl,am⟩⟩:=A8.get d M
  refine Tv z (Val.XA λ_ _ _=>V.ixR K7 z z (j:=0) z (A8.bd d M))<|Tv z (Val.XA λ_ _ _=>V.ldR D9 z (j:=0) z ak z)<|bE H λbe an H=>?_
  obtain ⟨bf,bg,bi,ao,ap⟩:=B8u.call (G.u (g:=ac)) ai.u am.u an
  refine Tp z z (X3 [0] [0] z z) (O.A1b z ao z (ap _) z λbj bk bm bn aq=>?_) T.O4
  obtain ⟨rfl,ar⟩:=aq
  refine O8 _ ar<|T.M9 (SX.two (XA.fr [0] Li z) (XA.fr [0] Li z))<|Th<|T.cH H z (λH=>?_) λH=>?_
  ·refine Sm z<|Mv z<|bE H λbo au H=>Vv (V.C3J K7 z (j:=0) z d.len (.inr ⟨_,_,z,z⟩) (.inl ⟨z,z⟩) (A4S au))<|An z<|Sq<|Sr<|An z ?_
   obtain ⟨aw,ax,ay⟩:=J4 H
   have H:=ax
   refine Bl<|T.lk [1,6] (FUEL,o,f,(1:Int),s) (λ⟨k,e,b,m,c⟩=>([(0,n),(5,qi b),(7,qi m)],F3 30 1 n c::L,λhh=>iter (A1S o w f) k (e,b,m)=some aw∧A8 (VSl (VI .i64) 1) hh c e)) ⟨H,d.u⟩ ?_
   rintro ⟨k,e,b,m,c⟩ x bp ⟨aA,a⟩
   obtain ⟨N,bq,rfl,H,B⟩:=G5 aA
   refine T.norm [0,5,7,1,6] z<|T.fl ?_
   refine Sq<|Sm z<|Mv z<|Vv (V.D4c K7 z (j:=0) z)<|Wl z z<|Nt<|T.cH H z (λH=>?_) λH=>?_
   ·refine Ks<|Sq<|Bl<|Sq<|T.dw (.vs [0,1,2,3,4,5,6,7,8,9] (.alt 10 (.g (.v 11 .done)) .no)) 13 1 1 ?_
    refine Tm z z<|Tm z z<|Tm z z<|bE H λbr p H=>?_
    obtain ⟨bs,aB,⟨bt,rfl,aC⟩⟩:=A8.get a (X4 p).2.2.2
    refine Tv z (Val.XA λ_ _ _=>V.ixV K7 z z (j:=0) z ⟨(X4 p).1,(X4 p).2.1,(X4 p).2.2.1⟩ (A8.bd a (X4 p).2.2.2).2)<|Tv z (Val.XA λ_ _ _=>V.ldR D9 z (j:=0) z aB z)<|Tm z z<|Tm z z<|bE H λbu aD H=>Tv z (V.X9 z z aD)<|bE H λbw q H=>?_
    obtain ⟨bx,aE,⟨bA,rfl,aG⟩⟩:=A8.get a (X4 q).2.2.2
    refine Tv z (Val.XA λ_ _ _=>V.ixV K7 z z (j:=0) z ⟨(X4 q).1,(X4 q).2.1,(X4 q).2.2.1⟩ (A8.bd a (X4 q).2.2.2).2)<|Tv z (Val.XA λ_ _ _=>V.ldR D9 z (j:=0) z aE z)<|bE H λbB aI H=>?_
    obtain ⟨bC,bD,bG,aJ,aK⟩:=B8u.call (G.u (g:=x)) aC aG aI
    refine Tp z z (X3 [0] [0] z z) (O.A1b z aJ z (aK _) z λbI P bJ bK aM=>?_) T.O4
    obtain ⟨rfl,aN⟩:=aM
    refine O8 _ aN<|T.N8 Li<|Tv z (V.not z)<|T.M9 (X3 [0] [0] z z)<|Th<|T.cH H z (λH=>?_) λH=>?_
    ·refine Sm z<|Mv z<|Mv z<|Mv z<|bE H λaO r H=>?_
     obtain ⟨bM,aP,⟨y,rfl,S⟩⟩:=A8.get a (X4 r).2.2.2
     refine Vv (V.ixV K7 z z (j:=0) z ⟨(X4 r).1,(X4 r).2.1,(X4 r).2.2.1⟩ (A8.bd a (X4 r).2.2.2).2)<|Vv (V.ldR D9 z (j:=0) z aP z)<|bE H λbN C H=>?_
     obtain ⟨bO,bP,⟨bS,rfl,bU⟩⟩:=A8.get a C
     refine Vv (V.ixR K7 z z (j:=0) z (A8.bd a C))<|bE H λU aS H=>To (O.stR D9 z z (j:=0) z (A8.bdN a C) (G9.one S)<|have aU:A8 (VSl (VI .i64) 1) P (c.set b.toNat [y]) U:=A8.set a.u (show (VSl (VI .i64) 1) P [y] aO from ⟨y,z,S.u⟩) aS; Nt<|Rg<|Mv z<|bE H λaV aW H=>Ws z z aW<|Ag z<|Ni<|Bn<|Th<|Rg<|Mv z<|bE H λaX aY H=>Ws z z aY<|An z<|T.ag (N,U,aV,aX,(c.set b.toNat [y])) ⟨(D8 H B),aU⟩)
    refine T.skip<|Bn<|Th<|Rg<|Mv z<|bE H λaZ a0 H=>Ws z z a0<|An z<|T.ag (N,e,b,aZ,c) ⟨(D8 H B),a.u⟩
   refine Xt<|have H:=D5 H B; Be<|Th<|have H:=H7 H ay; Sm z<|Mv z<|bE H λbV a1 H=>Vv (V.C3J K7 z (j:=0) z a.len (.inr ⟨_,_,z,z⟩) (.inl ⟨z,z⟩) (A4S a1))<|bE H λbW W H=>have X:=C7a a.len W; bE H λa2 a3 H=>To (O.clear K7 A1d z z z (j:=0) z (λ_ iv=>D1.C2Q iv (j:=0) z a.len (A4S W)) X<|have Y:A8 (VSl (VI .i64) 1) x (A3u c b.toNat (List.replicate ((e.length:Int).toNat - b.toNat) ([qs]:List Value))) a2:=A8.clr a (show (VSl (VI .i64) 1) x [qs] ([]:List Int) from ⟨(qs),z,G9.nil⟩) X a3; Nt<|Sm z<|Mv z<|bE H λa4 Z H=>To (O.slP K7 z z (j:=0) z (A8.D2J Y Z) z λbX=>have a5:A8 (VSl (VI .i64) 1) x (List.take b.toNat (A3u c b.toNat (List.replicate ((e.length:Int).toNat - b.toNat) ([qs]:List Value)))) a4:=A8.slp Y Z; Ag z<|Nr<|Br<|Tr<|Tr<|have H:=D5 H A; Br<|Tr<|have H:=H7 H J; ?_))
   cases H
   exact T.rl z (Rv z) ⟨_,z,a5⟩
  refine T.skip<|Bn<|Th<|Rg<|Mv z<|bE H λa6 a7 H=>Ws z z a7<|An z<|T.ag (ae,a6) (D8 H A)
 refine Xt<|have H:=D5 H A; Be<|Th<|have H:=H7 H J; Sm z<|Ag z<|Nr ?_
 cases H
 exact T.rl z (Rv z) ⟨_,z,d.u⟩
theorem B4X {h d e f m i n q_0} (c:A8 VS h e f) (r:B0O h m i) (H:A4x f i=some (n,q_0)):∀ L,I7 prog 163 [d,m] h (F3 9 1 d e::L) (λv h' L'=>∃ o,v=.int .i64 n∧L'=F3 9 1 d o::L∧A8 VS h' o q_0):=by
 intro L
 refine I7.enter func163 z z z<|Sr<|An z<|Sq<|Sm z<|Vv (V.A2p Y1 z (j:=0) z c.len)<|Mv z<|Nt ?_
 obtain ⟨s,t,p⟩:=J4 H
 have H:=t
 refine Bl<|T.lk [0,1,7] (FUEL,(0:Int)) (λ⟨a,b⟩=>([(8,qi b)],F3 9 1 d e::L,λhh=>iter (A2G f i) a b=some s)) H ?_
 rintro ⟨a,b⟩ w K x
 obtain ⟨y,M,rfl,H,k⟩:=G5 x
 refine T.norm [8,0,1,7] z<|T.fl ?_
 refine Sr<|Wl z z<|Nt<|Sq<|T.cH H z (λH=>?_) λH=>?_
 ·refine Ks<|Sq<|Bl<|Sm z<|An z<|Sm z<|Mv z<|Mv z<|bE H λN q H=>?_
  obtain ⟨P,A,rfl⟩:=A8.get c q
  refine Vv (V.ixR Y1 z z (j:=0) z (A8.bd c q))<|Vv (V.ldR J3 z (j:=0) z A z)<|bE H λS B H=>?_
  obtain ⟨U,W,X,C,D⟩:=B0O.call (r.u (g:=w)) B
  refine To (O.A1b z C z (D _) z λY Z aa ab E=>?_)
  obtain ⟨rfl,G⟩:=E
  refine O8 _ G<|Nt<|T.cH H z (λH=>?_) λH=>?_
  ·refine Sm z<|Ag z<|Nr<|Br<|Tr<|Tr<|have H:=D5 H k; Br<|Tr<|have H:=H7 H p; ?_
   cases H
   exact T.rl z (Rv z) ⟨_,z,z,c.u⟩
  refine T.skip<|Bn<|Th<|Rg<|bE H λI J H=>Ws z z J<|Mv z<|Nt<|T.ag (y,I) (D8 H k)
 refine Xt<|have H:=D5 H k; Be<|Th<|have H:=H7 H p; Sg z<|Nr ?_
 cases H
 exact T.rl z (Rv z) ⟨_,z,z,c.u⟩
theorem B4Y {h i q r s n t} (K:A8 VS h q r) (w:B0O h s n) (H:A2J r n=some t):∀ L,I7 prog 114 [i,s] h (F3 9 1 i q::L) (λv h' L'=>∃ x,L'=F3 9 1 v x::L∧A8 VS h' x t):=by
 intro L
 refine I7.enter func114 z z z<|Sr<|An z<|Sm z<|Mv z<|bE H λ⟨M,N⟩ P H=>To (O.G6 z (B4X K w P _) z λaD aE aG aI S=>?_)
 obtain ⟨U,rfl,W,y⟩:=S
 refine O8 _ W<|An z<|Sq<|Sm z<|We z z<|Nt<|T.cH H z (λH=>?_) λH=>?_
 ·refine Sm z<|Ag z<|Nr<|Tr ?_
  cases H
  exact T.rl z (Rv z) ⟨_,z,y⟩
 refine Ks<|Sq<|Sm z<|bE H λX Y H=>Ws z z Y<|An z ?_
 obtain ⟨Z,aa,ab⟩:=J4 H
 have H:=aa
 refine Bl<|T.lk [1] (FUEL,N,M,X,U) (λ⟨e,d,a,f,c⟩=>([(0,i),(5,qi a),(6,qi f)],F3 9 1 i c::L,λhh=>iter (A2F n) e (d,a,f)=some Z∧A8 VS hh c d)) ⟨H,y⟩ ?_
 rintro ⟨e,d,a,f,c⟩ k aJ ⟨ac,b⟩
 obtain ⟨A,aK,rfl,H,o⟩:=G5 ac
 refine T.norm [0,5,6,1] z<|T.fl ?_
 refine Sq<|Sm z<|Mv z<|Vv (V.A2p Y1 z (j:=0) z b.len)<|Wl z z<|Nt<|T.cH H z (λH=>?_) λH=>?_
 ·refine Ks<|Sq<|Bl<|Sm z<|Mv z<|bE H λm B H=>?_
  obtain ⟨aM,ad,rfl⟩:=A8.get b B
  refine Vv (V.ixR Y1 z z (j:=0) z (A8.bd b B))<|Vv (V.ldR J3 z (j:=0) z ad z)<|An z<|Sm z<|Mv z<|bE H λaN ae H=>?_
  obtain ⟨aO,aP,aS,af,ai⟩:=B0O.call (w.u (g:=k)) ae
  refine To (O.A1b z af z (ai _) z λaU C aV aW aj=>?_)
  obtain ⟨rfl,ak⟩:=aj
  refine O8 _ ak<|Vv (V.not z)<|Nt<|T.cH H z (λH=>?_) λH=>?_
  ·refine Sm z<|Mv z<|Mv z<|bE H λaX p H=>?_
   obtain ⟨aY,aZ,rfl⟩:=A8.get b p
   refine Vv (V.ixR Y1 z z (j:=0) z (A8.bd b p))<|bE H λD am H=>To (O.stR J3 z z (j:=0) z (A8.bdN b p) z<|have an:A8 VS C (c.set a.toNat [.string m]) D:=A8.set b.u (show VS C [.string m] m from z) am; Nt<|Rg<|Mv z<|bE H λao ap H=>Ws z z ap<|Ag z<|Ni<|Bn<|Th<|Rg<|Mv z<|bE H λaq ar H=>Ws z z ar<|An z<|T.ag (A,D,ao,aq,(c.set a.toNat [.string m])) ⟨(D8 H o),an⟩)
  refine T.skip<|Bn<|Th<|Rg<|Mv z<|bE H λau aw H=>Ws z z aw<|An z<|T.ag (A,d,a,au,c) ⟨(D8 H o),b.u⟩
 refine Xt<|have H:=D5 H o; Be<|Th<|have H:=H7 H ab; Sm z<|Mv z<|bE H λa0 ax H=>Vv (V.C3J Y1 z (j:=0) z b.len (.inr ⟨_,_,z,z⟩) (.inl ⟨z,z⟩) (A4S ax))<|bE H λa1 E H=>have G:=C7a b.len E; bE H λay aA H=>To (O.clear Y1 C0b z z z (j:=0) z (λ_ iv=>D1.C2Q iv (j:=0) z b.len (A4S E)) G<|have I:A8 VS k (A3u c a.toNat (List.replicate ((d.length:Int).toNat - a.toNat) ([.string qe]:List Value))) ay:=A8.clr b (show VS k [.string qe] qe from z) G aA; Nt<|Sm z<|Mv z<|bE H λaB J H=>To (O.slP Y1 z z (j:=0) z (A8.D2J I J) z λa2=>have aC:A8 VS k (List.take a.toNat (A3u c a.toNat (List.replicate ((d.length:Int).toNat - a.toNat) ([.string qe]:List Value)))) aB:=A8.slp I J; Ag z<|Nr ?_))
 cases H
 exact T.rl z (Rv z) ⟨_,z,aC⟩
end Go.Proofs.X
open Go Go.Proofs Go.Proofs.Tryz Go.Sl Go.Dm
namespace Go.Proofs.X
instance:MixC prog:=⟨by kernel_rfl⟩
theorem A9x:A5A prog 121=some ([.string ⟨#[]⟩,.string ⟨#[]⟩,.string ⟨#[]⟩,.int .i64 (0),.int .i64 (0),.string ⟨#[]⟩,.bool false,.bool false,.slice none 0 0],[(0,1),(1,1),(2,1),(3,1),(4,1),(5,1),(6,1),(7,1),(8,1)]):=by kernel_rfl
theorem B8r:A5A prog 139=some ([.string ⟨#[]⟩,.int .u8 (0),.int .i64 (0),.int .i64 (0),.slice none 0 0,.int .i64 (0),.int .i64 (0)],[(0,1),(1,1),(2,1),(3,1),(4,1),(5,1),(6,1)]):=by kernel_rfl
theorem C2X:A5A prog 168=some ([.string ⟨#[]⟩,.string ⟨#[]⟩,.int .u8 (0)],[(0,1),(1,1),(2,1)]):=by kernel_rfl
theorem C9b:A5A prog 26=some ([.slice none 0 0,.slice none 0 0,.slice none 0 0,.slice none 0 0],[(0,1),(1,1),(2,1),(3,1)]):=by kernel_rfl
theorem C4N:A5A prog 33=some ([.slice none 0 0,.slice none 0 0,.slice none 0 0,.slice none 0 0,.slice none 0 0],[(0,1),(1,1),(2,1),(3,1),(4,1)]):=by kernel_rfl
theorem C0F:A5A prog 43=some ([.int .u8 (0),.int .i64 (0),.string ⟨#[]⟩,.string ⟨#[]⟩,.string ⟨#[]⟩,.int .i64 (0)],[(0,1),(1,1),(2,1),(3,1),(4,1),(5,1)]):=by kernel_rfl
theorem A9r:A0B prog 121=true:=by kernel_rfl
theorem B8t:A0B prog 139=true:=by kernel_rfl
theorem C2N:A0B prog 168=true:=by kernel_rfl
theorem D0s:A0B prog 26=true:=by kernel_rfl
theorem C5O:A0B prog 33=true:=by kernel_rfl
theorem C1h:A0B prog 43=true:=by kernel_rfl
theorem A5c:A0T prog 22=some (5,1,1):=by kernel_rfl
theorem A9P:A0T prog 23=some (143,1,2):=by kernel_rfl
theorem C4E:A0T prog 24=some (146,1,4):=by kernel_rfl
theorem A3d:O5 prog 118 0=some 0:=by kernel_rfl
theorem A8y:O5 prog 118 1=some 1:=by kernel_rfl
theorem A0g:O5 prog 121 0=some 0:=by kernel_rfl
theorem B9e:O5 prog 121 1=some 1:=by kernel_rfl
theorem A8J:O5 prog 121 2=some 2:=by kernel_rfl
theorem B1a:O5 prog 121 5=some 5:=by kernel_rfl
theorem A0x:O5 prog 121 8=some 8:=by kernel_rfl
theorem A0i:O5 prog 139 0=some 0:=by kernel_rfl
theorem A3c:O5 prog 139 1=some 1:=by kernel_rfl
theorem X6:O5 prog 139 2=some 2:=by kernel_rfl
theorem A0H:O5 prog 139 3=some 3:=by kernel_rfl
theorem X8:O5 prog 139 4=some 4:=by kernel_rfl
theorem A7x:O5 prog 26 0=some 0:=by kernel_rfl
theorem A7v:O5 prog 26 1=some 1:=by kernel_rfl
theorem C0n:O5 prog 26 2=some 2:=by kernel_rfl
theorem B9Y:O5 prog 26 3=some 3:=by kernel_rfl
theorem M0:O5 prog 33 0=some 0:=by kernel_rfl
theorem Q3:O5 prog 33 1=some 1:=by kernel_rfl
theorem A9C:O5 prog 33 2=some 2:=by kernel_rfl
theorem A5O:O5 prog 33 3=some 3:=by kernel_rfl
theorem A2v:O5 prog 33 4=some 4:=by kernel_rfl
theorem A2s:O5 prog 43 0=some 0:=by kernel_rfl
theorem A4d:O5 prog 43 1=some 1:=by kernel_rfl
theorem Y8:O5 prog 43 2=some 2:=by kernel_rfl
theorem A4b:O5 prog 43 3=some 3:=by kernel_rfl
theorem U8:O5 prog 43 4=some 4:=by kernel_rfl
theorem U0:O5 prog 43 5=some 5:=by kernel_rfl
theorem A6d:U1 prog 118=some (true,2):=by kernel_rfl
theorem A1F:U1 prog 119=some (false,1):=by kernel_rfl
theorem A6h:U1 prog 137=some (false,1):=by kernel_rfl
theorem C2Y:U1 prog 143=some (false,1):=by kernel_rfl
theorem C8s:U1 prog 146=some (false,1):=by kernel_rfl
theorem A8z:U1 prog 22=some (false,1):=by kernel_rfl
theorem B1H:U1 prog 23=some (false,1):=by kernel_rfl
theorem C4V:U1 prog 24=some (false,1):=by kernel_rfl
theorem C5w:U1 prog 26=some (true,4):=by kernel_rfl
theorem O7:U1 prog 27=some (false,1):=by kernel_rfl
theorem M8:U1 prog 28=some (false,1):=by kernel_rfl
theorem A1R:U1 prog 29=some (false,1):=by kernel_rfl
theorem A1h:U1 prog 31=some (false,1):=by kernel_rfl
theorem J7:U1 prog 33=some (true,5):=by kernel_rfl
theorem A5h:U1 prog 41=some (false,1):=by kernel_rfl
theorem K3:U1 prog 43=some (true,6):=by kernel_rfl
theorem A3Q:U1 prog 5=some (false,1):=by kernel_rfl
theorem B4z:zer prog 118=some (.agg #[.slice none 0 0,.slice none 0 0]):=by kernel_rfl
theorem A6Y:zer prog 33=some (.agg #[.slice none 0 0,.slice none 0 0,.slice none 0 0,.slice none 0 0,.slice none 0 0]):=by kernel_rfl
theorem C7C:zer prog 5=some (.int .u8 (0)):=by kernel_rfl
theorem A0I {h a b} (H:Y0 a=some b):∀ L,FnW prog 128 [.int .i64 a] h L (.string b):=by
 intro L
 refine I7.enter func128 z z z<|Sr<|An z<|Sm z<|bE H λq f H=>Vv (V.B4j z z f)<|bE H λr g H=>Vv (V.A0Z z z g)<|bE H λs i H=>Ws z z i<|bE H λc k H=>Vv (V.A5u underlying3 underlying5 z k)<|Mv z<|bE H λt m H=>Vv (V.A0Z z z m)<|bE H λu n H=>Ws z z n<|bE H λd o H=>Vv (V.A5u underlying3 underlying5 z o)<|To (O.bq A5c C7C [.tmp 7,.tmp 11] (VI .u8) [[.int .u8 c],[.int .u8 d]] [c,d] λw p=>Vv (V.D3X underlying22 underlying5 underlying9 z (j:=0) z (A8.C9j p))<|Ag z<|Nr<|T.drop ?_)
 exact E1 H
theorem B4o {h f r1 c i} (o:C5U h f r1) (H:A2c r1 c=some i):∀ L,FnW prog 129 [.agg f.toArray,.int .i64 c] h L (.bool i):=by
 intro L
 obtain ⟨D,E,rfl,d⟩:=o
 refine I7.enter func129 z z z<|Sr<|To (O.T9 z z z λG I J j=>An z<|Sq<|Sr<|An z ?_)
 obtain ⟨p,q,m⟩:=J4 H
 have H:=q
 refine Bl<|T.lk [1,2] (FUEL,(0:Int)) (λ⟨a,b⟩=>([(5,qi b)],L,λhh=>iter (A6Q r1 c) a b=some p)) H ?_
 rintro ⟨a,b⟩ K M r
 obtain ⟨s,N,rfl,H,e⟩:=G5 r
 refine T.norm [5,1,2] z<|T.fl ?_
 refine Sq<|Sm z<|Vv (V.fa A3d z)<|Wd 0 M8 z j.u z<|Vv (V.P7 O3 z d)<|Wl z z<|Nt<|T.cH H z (λH=>?_) λH=>?_
 ·refine Ks<|Sq<|Bl<|Sq<|T.dw (.vs [0,1,2,3,4,5,6] (.alt 7 (.g (.v 8 .done)) .no)) 10 0 0 ?_
  refine Tv z (V.fa A3d z)<|Td z 0 M8 z j.u z<|Tm z z<|bE H λP n H=>?_
  obtain ⟨S,w,⟨U,rfl,W⟩⟩:=G9.at d n
  refine Tv z (V.ix O3 z z d (E8 n))<|Tv z (V.fa A0g z)<|Td z 0 J3 z w.u z<|Tm z z<|bE H λX x H=>Tp z z (X2 z z) (O.G6 z (A0I x _) z λY Z aa ab y=>?_) T.O4
  obtain ⟨rfl,A⟩:=y
  refine O8 _ A<|T.N8 Li<|Tv z (V.seq z z)<|T.M9 (X2 z z)<|Th<|T.cH H z (λH=>?_) λH=>?_
  ·exact Sg z<|Nr<|Br<|Tr<|Tr<|have H:=D5 H e; Br<|Tr<|have H:=H7 H m; E1 H
  refine T.skip<|Bn<|Th<|Rg<|Mv z<|bE H λB C H=>Ws z z C<|An z<|T.ag (s,B) (D8 H e)
 exact Xt<|have H:=D5 H e; Be<|Th<|have H:=H7 H m; Sg z<|Nr<|E1 H
theorem B5B {h aG aw aI am ax} (ay:G9 (VI .u16) 1 h aG aw) (ae:G9 (VI .u8) 1 h aI am) (H:B2F aw am=some ax):∀ L,I7 prog 67 [aG,aI] h (L) (λv h' L'=>∃ v0_1 v0_3,v=.agg #[v0_1,v0_3]∧L'=L∧G9 I9 9 h' v0_1 ax.A7∧G9 L9 3 h' v0_3 ax.N7):=by
 intro L
 refine I7.enter func67 z z z<|Sr<|To (O.alloc B4z z z λn=>Nt<|Sr<|To (O.alloc B4z z z λo=>Nt<|Sq<|Sr<|An z ?_))
 obtain ⟨av,az,ba⟩:=J4 H
 have H:=az
 refine Bl<|T.rn I9 121 9 λbb=>T.fs [2,2] ?_
 refine T.lk [0,1,4,5] (FUEL,([]:List E9),(0:Int),(qs),[]) (λ⟨P,C,I,a,b⟩=>([(6,qi I)],blk o (.cells [a,qs].toArray 118)::blk n (.cells [qs,qs].toArray 118)::F3 121 9 a b::L,λhh=>iter (A8u aw) P (C,I)=some av∧A8 I9 hh b C)) ⟨H,bb⟩ ?_
 rintro ⟨P,C,I,a,b⟩ dO dP ⟨bc,af⟩
 obtain ⟨bd,dS,rfl,H,aJ⟩:=G5 bc
 refine T.norm [6,0,1,4,5] z<|T.fl ?_
 refine Sq<|Sq ?_
 obtain ⟨be,bf,bg⟩:=J4 H
 refine T.ck (α:=Bool) [0,1,4,5,6] (λai=>([(23,.bool ai)],blk o (.cells [a,qs].toArray 118)::blk n (.cells [qs,qs].toArray 118)::F3 121 9 a b::L,λhh=>be=ai)) ?_ ?_
 ·have H:=bf
  refine Rg<|Mv z<|Mv z<|Vv (V.P7 A9P z ay)<|Wl z z<|Mv z<|T.bH 20 H z (λH=>?_) λH=>?_
  ·refine Mv z<|Wl z z<|Kt z<|Nt<|T.mt (decide (I<(12:Int))) (K9 H)
  refine S2<|Kf z<|Nt<|T.mt false (K9 H)
 rintro ai bi dU bj
 have H:=H7 bj bg
 refine T.norm [23,0,1,4,5,6] z<|T.fl ?_
 refine T.cH H z (λH=>?_) λH=>?_
 ·refine Ks<|Sq<|Bl<|Sm z<|Mv z<|bE H λdV aK H=>?_
  obtain ⟨dW,bk,rfl⟩:=G9.at ay aK
  refine Vv (V.ix A9P z z ay (E8 aK))<|Vv (V.Q9 C2Y z bk.u z)<|bE H λbm bn H=>Vv (V.A5u underlying143 underlying3 z bn)<|An z<|Sm z<|bE H λdX bo H=>Vv (V.A9y z z bo)<|bE H λdY bp H=>Vv (V.A0Z z z bp)<|Mv z<|bE H λdZ bq H=>Vv (V.B4j z z bq)<|bE H λd0 br H=>Ws z z br<|bE H λr bt H=>To (O.cs (A0I bt _) λd2 d4=>Mv z<|bE H λd5 bx H=>Vv (V.A0Z z z bx)<|bE H λs bA H=>Vv (V.A9y z z bA)<|Mv z<|bE H λw bB H=>Vv (V.A0Z z z bB)<|Mv z<|bE H λx bC H=>Vv (V.A0Z z z bC)<|We z z<|Mv z<|bE H λy bD H=>Vv (V.A0Z z z bD)<|We z z<|Vv (V.bld (xs:=[(0,.tmp 37),(3,.tmp 40),(4,.tmp 42),(6,.tmp 45),(7,.tmp 48)]) (cs:=[_,_,_,_,_,_,_,_,_]) A9x A9r z (F6.cons z z z (F6.cons z z z (F6.cons z z z (F6.cons z z z (F6.cons z z z F6.nil))))))<|To (O.alloc A1I z z λan=>To (O.stF (vs:=[.string r,.string qe,.string qe,qi s,qi w,.string qe,.bool (decide (x=(0:Int))),.bool (decide (y=(0:Int))),qs]) U7 z z (j:=0) z z z z<|T.fl ?_)))
  refine Nt<|Sq<|Sm z<|bE H λd6 bG H=>Vv (V.A0Z z z bG)<|We z z<|Nt ?_
  obtain ⟨bI,bJ,bK⟩:=J4 H
  refine T.ck (α:=ByteArray) [0,1,4,5,6,7,8] (λf=>([],blk an (.cells [.string r,.string f,.string qe,qi s,qi w,.string qe,.bool (decide (x=(0:Int))),.bool (decide (y=(0:Int))),qs].toArray 121)::blk o (.cells [a,qs].toArray 118)::blk n (.cells [qs,qs].toArray 118)::F3 121 9 a b::L,λhh=>bI=f)) ?_ ?_
  ·have H:=bJ
   refine T.cH H z (λH=>?_) λH=>?_
   ·refine Rg<|Mv z<|bE H λd7 bM H=>Vv (V.A0Z z z bM)<|bE H λaM bN H=>To (O.cs (A0I bN _) λd9 dl=>Vv (V.fa B9e z)<|To (O.st (vs:=[.string aM]) (k:=1) J3 z z (j:=0) z z z<|T.fl ?_))
    refine Nt<|T.mt aM (K9 H)
   refine Ks<|T.mt qe (K9 H)
  rintro f dv dz bS
  have H:=H7 bS bK
  refine T.norm [0,1,4,5,6,7,8] z<|T.fl ?_
  refine Sq<|Sm z<|bE H λea bU H=>Vv (V.A0Z z z bU)<|Wg z z<|Nt ?_
  obtain ⟨bV,bW,bX⟩:=J4 H
  refine T.ck (α:=ByteArray) [0,1,4,5,6,7,8] (λi=>([],blk an (.cells [.string r,.string f,.string i,qi s,qi w,.string qe,.bool (decide (x=(0:Int))),.bool (decide (y=(0:Int))),qs].toArray 121)::blk o (.cells [a,qs].toArray 118)::blk n (.cells [qs,qs].toArray 118)::F3 121 9 a b::L,λhh=>bV=i)) ?_ ?_
  ·have H:=bW
   refine T.cH H z (λH=>?_) λH=>?_
   ·refine Rg<|Mv z<|bE H λeb bY H=>Vv (V.A0Z z z bY)<|bE H λaN bZ H=>To (O.cs (A0I bZ _) λed ef=>Vv (V.fa A8J z)<|To (O.st (vs:=[.string aN]) (k:=2) J3 z z (j:=0) z z z<|T.fl ?_))
    refine Nt<|T.mt aN (K9 H)
   refine Ks<|T.mt qe (K9 H)
  rintro i eg ei b3
  have H:=H7 b3 bX
  refine T.norm [0,1,4,5,6,7,8] z<|T.fl ?_
  refine Sq<|Sm z<|bE H λej b4 H=>Vv (V.A0Z z z b4)<|We z z<|Nt ?_
  obtain ⟨b5,b6,b7⟩:=J4 H
  refine T.ck (α:=ByteArray) [0,1,4,5,6,7,8] (λp=>([],blk an (.cells [.string r,.string f,.string i,qi s,qi w,.string p,.bool (decide (x=(0:Int))),.bool (decide (y=(0:Int))),qs].toArray 121)::blk o (.cells [a,qs].toArray 118)::blk n (.cells [qs,qs].toArray 118)::F3 121 9 a b::L,λhh=>b5=p)) ?_ ?_
  ·have H:=b6
   refine T.cH H z (λH=>?_) λH=>?_
   ·refine Rg<|Mv z<|bE H λek b8 H=>Vv (V.A0Z z z b8)<|bE H λaO b9 H=>To (O.cs (A0I b9 _) λen ep=>Vv (V.fa B1a z)<|To (O.st (vs:=[.string aO]) (k:=5) J3 z z (j:=0) z z z<|T.fl ?_))
    refine Nt<|T.mt aO (K9 H)
   refine Ks<|T.mt qe (K9 H)
  rintro p bv er bz
  have H:=H7 bz b7
  refine T.norm [0,1,4,5,6,7,8] z<|T.fl ?_
  refine Sq<|Sr<|An z ?_
  obtain ⟨ca,cb,cc⟩:=J4 H
  have H:=cb
  refine Bl<|T.rn VS 9 1 λcd=>T.fs [4,4,4,4] ?_
  refine T.lk [0,1,4,5,6,7,8] (FUEL,([]:List ByteArray),(0:Int),(qs),[]) (λ⟨S,D,U,m,A⟩=>([(9,qi U)],blk an (.cells [.string r,.string f,.string i,qi s,qi w,.string p,.bool (decide (x=(0:Int))),.bool (decide (y=(0:Int))),m].toArray 121)::blk o (.cells [a,qs].toArray 118)::blk n (.cells [qs,qs].toArray 118)::F3 121 9 a b::F3 9 1 m A::L,λhh=>iter (A5e bm) S (D,U)=some ca∧A8 VS hh A D)) ⟨H,cd⟩ ?_
  rintro ⟨S,D,U,m,A⟩ es et ⟨ce,ao⟩
  obtain ⟨aP,eu,rfl,H,aA⟩:=G5 ce
  refine T.norm [9,0,1,4,5,6,7,8] z<|T.fl ?_
  refine Sq<|Sm z<|Wl z z<|Nt<|T.cH H z (λH=>?_) λH=>?_
  ·refine Ks<|Sq<|Bl<|Sm z<|Mv z<|bE H λew cf H=>Vv (V.A9y z z cf)<|bE H λex cg H=>Ws z z cg<|bE H λey ci H=>Vv (V.A3S z z ci)<|bE H λeA cj H=>Vv (V.A0Z z z cj)<|We z z<|Nt<|T.cH H z (λH=>?_) λH=>?_
   ·refine Sr<|Vv (V.fa A0x z)<|Vv (V.ldO (k:=8) A1F z (j:=0) z z)<|An z<|Rg<|Mv z<|Mv z<|bE H λaS ck H=>To (O.cs (A0I ck _) λcm eD=>To (O.b1 (E:=VS) Y1 C0b z z z z z λeE aB=>bE H λaU aV H=>To (O.ax Y1 C0b 5 ao.u aB aV VS.plain λaW cp=>T.fl ?_)))
    refine T.fs [1] ?_
    refine T.drop<|Vv (V.fa A0x z)<|T.Q7 0 z λcq cr=>To (O.st (vs:=[aW]) (k:=8) A1F z z (j:=1) z cr (by (simp only [BT,cq]) <;> rfl) ?_)
    refine T.fl ?_
    refine Ni<|Bn<|Th<|Rg<|Mv z<|bE H λct cu H=>Ws z z cu<|An z<|T.fs [1,4,4,4,4] ?_
    exact T.ag (aP,aU,ct,aW,(A++[[.string aS]])) ⟨(D8 H aA),cp⟩
   refine T.skip<|Bn<|Th<|Rg<|Mv z<|bE H λcw cx H=>Ws z z cx<|An z<|T.ag (aP,D,cw,m,A) ⟨(D8 H aA),ao⟩
  refine Xt<|have H:=D5 H aA; Be<|Th<|have H:=H7 H cc; Sr<|Vv (V.fa A3d z)<|Vv (V.ldO (k:=0) M8 z (j:=1) z z)<|An z<|Rg<|Mv z<|Vv (V.A5r (j:=0) (by exact U7) z z) ?_
  refine T.fs [4] ?_
  refine T.J8 λaX eJ cy=>have cA:=A8.slc cy ao.u; To (O.bq O3 A1I [.tmp 93] I9 [[.string r,.string f,.string i,qi s,qi w,.string p,.bool (decide (x=(0:Int))),.bool (decide (y=(0:Int))),m]] [(E9.mk r f i s w p (decide (x=(0:Int))) (decide (y=(0:Int))) D)] (hE:=(A8.cons ⟨m,z,cA⟩ A8.nil)) λeK aC=>bE H λaY aZ H=>To (O.ax O3 A1I 4 af.u aC aZ I9.plain λa0 cB=>T.fl ?_))
  refine T.fs [1] ?_
  refine T.drop<|Vv (V.fa A3d z)<|T.Q7 0 z λcC cD=>To (O.st (vs:=[a0]) (k:=0) M8 z z (j:=2) z cD (by (simp only [BT,cC]) <;> rfl) ?_)
  refine T.fl ?_
  refine Ni<|Bn<|Th<|Rg<|Mv z<|bE H λcE cG H=>Ws z z cG<|An z<|T.fs [2] ?_
  refine T.drop<|T.fs [1,2,2] ?_
  exact T.ag (bd,aY,cE,a0,(b++[[.string r,.string f,.string i,qi s,qi w,.string p,.bool (decide (x=(0:Int))),.bool (decide (y=(0:Int))),m]])) ⟨(D8 H aJ),cB⟩
 refine Xt<|have H:=D5 H aJ; Be<|Th<|have H:=H7 H ba; Sr<|An z<|Sq<|Sr<|An z ?_
 obtain ⟨cI,cJ,cK⟩:=J4 H
 have H:=cJ
 refine Bl<|T.rn L9 168 3 λcM=>T.fs [3,3,3] ?_
 refine T.lk [1,4,5] (FUEL,([]:List H9),(0:Int),(0:Int),(qs),[]) (λ⟨W,J,K,M,G,N⟩=>([(12,qi K),(13,qi M)],blk o (.cells [a,G].toArray 118)::blk n (.cells [qs,qs].toArray 118)::F3 121 9 a b::F3 168 3 G N::L,λhh=>iter (A7I am C) W (J,K,M)=some cI∧A8 L9 hh N J)) ⟨H,cM⟩ ?_
 rintro ⟨W,J,K,M,G,N⟩ eO eP ⟨cN,a1⟩
 obtain ⟨cO,eS,rfl,H,a2⟩:=G5 cN
 refine T.norm [12,13,1,4,5] z<|T.fl ?_
 refine Sq<|Sm z<|Wl z z<|Nt<|T.cH H z (λH=>?_) λH=>?_
 ·refine Ks<|Sq<|Bl<|Sm z<|bE H λcP cS H=>Ws z z cS<|An z<|T.A0G ?_
  obtain ⟨a3,cU,cV⟩:=J4 H
  refine T.ck (α:=Int×(List H9)×Value×(List (List Value))) [1,4,5,13] (λ⟨X,Y,Z,aa⟩=>([(12,qi X)],blk o (.cells [a,Z].toArray 118)::blk n (.cells [qs,qs].toArray 118)::F3 121 9 a b::F3 168 3 Z aa::L,λhh=>a3=(X,Y)∧A8 L9 hh aa Y)) ?_ ?_
  ·have H:=cU
   refine Bl<|T.lk [1,4,5,13] (FUEL,J,K,cP,G,N) (λ⟨ab,q,B,ac,c,d⟩=>([(12,qi B),(14,qi ac)],blk o (.cells [a,c].toArray 118)::blk n (.cells [qs,qs].toArray 118)::F3 121 9 a b::F3 168 3 c d::L,λhh=>iter (A8k am C M) ab (q,B,ac)=some a3∧A8 L9 hh d q)) ⟨H,a1⟩ ?_
   rintro ⟨ab,q,B,ac,c,d⟩ eU eV ⟨cW,ad⟩
   obtain ⟨aD,eW,rfl,H,aj⟩:=G5 cW
   refine T.norm [12,14,1,4,5,13] z<|T.fl ?_
   refine Sq<|Sm z<|Wl z z<|Nt<|T.cH H z (λH=>?_) λH=>?_
   ·refine Ks<|Sq<|Bl<|Sq<|Sr<|Vv (V.A5r (j:=0) (by exact A6d) z z) ?_
    refine Mv z<|T.fs [2] ?_
    refine bE H λcX cY H=>To (O.G6 z (I7.A6Z (val:=.bool cX) func129 z A1x λeX eY cZ=>?_) z λeZ e0 e1 e2 c0=>?_)
    ·have c1:=A8.slc cZ af.u
     exact B4o ⟨a,c,z,c1⟩ cY _
    obtain ⟨rfl,c2⟩:=c0
    refine O8 _ c2<|Vv (V.not z)<|Nt<|T.cH H z (λH=>?_) λH=>?_
    ·refine T.exit<|Te<|T.blX z<|Te<|Te<|have H:=D5 H aj; Be<|Th<|T.fs [3,1,3,3] ?_
     exact T.mt (B,q,c,d) ⟨H,ad.u⟩
    refine Ks<|Sq<|Sr<|Vv (V.A5r (j:=1) (by exact A6d) z z) ?_
    refine Mv z<|bE H λc3 c4 H=>To (O.G6 z (I7.A6Z (val:=.bool c3) func129 z A1x λe3 e4 c5=>?_) z λe5 e6 e7 e8 c6=>?_)
    ·have c7:=A8.slc c5 af.u
     exact B4o ⟨a,c,z,c7⟩ c4 _
    obtain ⟨rfl,c8⟩:=c6
    refine O8 _ c8<|Vv (V.not z)<|Nt<|T.cH H z (λH=>?_) λH=>?_
    ·refine T.exit<|Te<|Be<|Th<|Rg<|Mv z<|bE H λc9 ch H=>Ws z z ch<|An z<|T.fs [3,1,3,3] ?_
     exact T.ag (aD,q,B,c9,c,d) ⟨(D8 H aj),ad.u⟩
    refine Ks<|Sq<|Sq ?_
    obtain ⟨cl,cv,cz⟩:=J4 H
    refine T.ck (α:=Bool) [1,4,5,12,13,14] (λak=>([(126,.bool ak)],F3 121 9 a b::blk o (.cells [a,c].toArray 118)::blk n (.cells [qs,qs].toArray 118)::F3 168 3 c d::L,λhh=>cl=ak)) ?_ ?_
    ·have H:=cv
     refine Rg<|Mv z<|Mv z<|Vv (V.P7 A5c z ae)<|Wl z z<|Mv z<|T.bH 119 H z (λH=>?_) λH=>?_
     ·refine Mv z<|Mv z<|bE H λe9 a4 H=>?_
      obtain ⟨eh,da,rfl⟩:=G9.at ae a4
      refine Vv (V.ix A5c z z ae (E8 a4))<|Vv (V.Q9 A3Q z da.u z)<|bE H λdb dc H=>Vv (V.A0Z z z dc)<|Wl z z<|Kt z<|Nt<|T.mt (decide (db<(2:Int))) (K9 H)
     refine S2<|S2<|S2<|Kf z<|Nt<|T.mt false (K9 H)
    rintro ak el ev dd
    have H:=H7 dd cz
    refine T.norm [126,1,4,5,12,13,14] z<|T.fl ?_
    refine T.cH H z (λH=>?_) λH=>?_
    ·refine Sr<|Vv (V.fa A8y z)<|Vv (V.ldO (k:=1) A1R z (j:=1) z z)<|An z<|T.fs [3,2] ?_
     refine T.dw (.vs [0,1,3,5,6,7,8,9,10] (.alt 2 (.g (.alt 4 (.g (.v 11 (.alt 12 (.alt 13 (.g (.v 14 (.alt 15 .done .no))) .no) .no))) .no)) .no)) 13 2 0 ?_
     refine Tm z z<|Tm z z<|Tm z z<|Tm z z<|Tm z z<|bE H λez a5 H=>?_
     obtain ⟨fb,de,rfl⟩:=G9.at ae a5
     refine Tv z (V.ix A5c z z ae (E8 a5))<|Tv z (V.Q9 A3Q z de.u z)<|bE H λfc df H=>Tv z (V.A0Z z z df)<|bE H λaq dg H=>Tv z (V.D0o z z dg)<|bE H λar di H=>Tp z z (X3 [] [1,1] z z) (O.G6 z (A0I di _) z λfd fe ff fg dj=>?_) T.O4
     obtain ⟨rfl,dk⟩:=dj
     refine O8 _ dk<|T.N8 Li<|bE H λau dm H=>Tp z z (X3 [] [1,1] z z) (O.G6 z (A0I dm _) z λfi a6 fj fk dn=>?_) T.O4
     obtain ⟨rfl,dp⟩:=dn
     refine O8 _ dp<|T.N8 Li<|Tv z (V.bld (xs:=[(0,.tmp 131),(1,.tmp 133),(2,.tmp 139)]) (cs:=[_,_,_]) C2X C2N z (F6.cons z z z (F6.cons z z z (F6.cons z z z F6.nil))))<|Tp z z (X3 [] [1,1] z z) (O.bq A1k A9N [.tmp 140] L9 [[.string ar,.string au,.int .u8 aq]] [(H9.mk ar au aq)] λfm aE=>?_) T.O4
     refine bE H λa7 a8 H=>Tp z z (X3 [] [2,2] z z) (O.ax A1k A9N 2 ad.u aE a8 L9.plain λa9 dq=>?_) T.O4
     refine T.fl ?_
     refine T.fs [1] ?_
     refine T.drop<|T.N8 Lr<|Tv z (V.fa A8y z)<|T.Q7 0 z λdr ds=>Tp z z (SX.one (XA.fr [] Lr z) z) (O.st (vs:=[a9]) (k:=1) A1R z z (j:=1) z ds (by (simp only [BT,dr]) <;> rfl) ?_) T.O4
     refine T.fl ?_
     refine T.M9 (SX.one (XA.fr [] Lr z) z)<|Th<|Rg<|Mv z<|bE H λdt du H=>Ws z z du<|Ag z<|Ni<|Bn<|Th<|Rg<|Mv z<|bE H λdw dx H=>Ws z z dx<|An z<|T.fs [1,2,3,3] ?_
     exact T.ag (aD,a7,dt,dw,a9,(d++[[.string ar,.string au,.int .u8 aq]])) ⟨(D8 H aj),dq⟩
    refine Ks<|Rg<|Mv z<|bE H λdy dA H=>Ws z z dA<|Ag z<|Ni<|Bn<|Th<|Rg<|Mv z<|bE H λdB dC H=>Ws z z dC<|An z<|T.fs [3,1,3,3] ?_
    exact T.ag (aD,q,dy,dB,c,d) ⟨(D8 H aj),ad.u⟩
   refine Xt<|have H:=D5 H aj; Be<|Th<|T.mt (B,q,c,d) ⟨H,ad⟩
  rintro ⟨X,Y,Z,aa⟩ fp fq ⟨dD,dE⟩
  have H:=H7 dD cV
  refine T.norm [12,1,4,5,13] z<|T.fl ?_
  refine Bn<|Th<|Rg<|Mv z<|bE H λdG dI H=>Ws z z dI<|An z<|T.ag (cO,Y,X,dG,Z,aa) ⟨(D8 H a2),dE⟩
 refine Xt<|have H:=D5 H a2; Be<|Th<|have H:=H7 H cK; Sr<|Vv (V.A5r (j:=0) (by exact A6d) z z) ?_
 refine T.fs [2] ?_
 refine T.J8 λfs ft dJ=>have ah:=A8.slc dJ af.u; T.fs [2] ?_
 refine T.J8 λfu fw dK=>have al:=A8.slc dK a1.u; To (O.stF (vs:=[a,G]) A6d z z (j:=1) z z (by (simp only [BT,G9.one ah,G9.one al]) <;> rfl) z ?_)
 refine T.freeze λfx fy dM=>have dN:=Y2.of dM; Nr<|T.drop ?_
 cases H
 exact T.rl z (RVs.cons (RV.B2Y z dN A6d) RVs.nil) ⟨_,_,z,z,ah.u,al.u⟩
theorem C2m {h a b} (H:B9T a=some b):∀ L,FnW prog 127 [.int .i64 a] h L (.string b):=by
 intro L
 refine I7.enter func127 z z z<|Sr<|An z<|Sm z<|bE H λk d H=>Vv (V.A0Z z z d)<|bE H λm f H=>Ws z z f<|bE H λc g H=>Vv (V.A5u underlying3 underlying5 z g)<|To (O.bq A5c C7C [.const (.int .u8 (116)),.tmp 6] (VI .u8) [[.int .u8 116],[.int .u8 c]] [(116:Int),c] λn i=>Vv (V.D3X underlying22 underlying5 underlying9 z (j:=0) z (A8.C9j i))<|Ag z<|Nr<|T.drop ?_)
 exact E1 H
theorem A1B {h b c d} (e:C4p h b c) (H:A1n c=some d):∀ L,FnW prog 66 [.agg b.toArray] h L (.int .i64 d):=by
 intro L
 obtain ⟨m,rfl⟩:=e
 refine I7.enter func66 z z z<|Sr<|To (O.T9 z z z λn o p a=>An z<|Sq<|Sr<|Vv (V.fa A3c z)<|Wd 1 A6h z a z<|Nt<|Bl<|Sr<|We z z<|An z<|T.cH H z (λH=>?_) λH=>?_)
 ·exact Sr<|Vv (V.fa X6 z)<|Wd 2 D6 z a z<|bE H λq f H=>Vv (V.A9y z z f)<|Vv (V.fa A0H z)<|Wd 3 D6 z a z<|bE H λr g H=>Ws z z g<|Ag z<|Nr<|Br<|Tr<|E1 H
 refine Sr<|We z z<|An z<|T.cH H z (λH=>?_) λH=>?_
 ·exact Sr<|Vv (V.fa X6 z)<|Wd 2 D6 z a z<|Vv (V.fa A0H z)<|Wd 3 D6 z a z<|bE H λs i H=>Vv (V.A9y z z i)<|bE H λt j H=>Ws z z j<|Ag z<|Nr<|Br<|Tr<|E1 H
 exact T.skip<|Bn<|Th<|Sr<|Vv (V.fa X6 z)<|Wd 2 D6 z a z<|Ag z<|Nr<|E1 H
theorem C1y {h aI a s} (H:A3a aI a=some s):∀ L,I7 prog 65 [.int .i64 aI,.int .i64 a] h (L) (λv h' L'=>∃ v0_1,v=.agg #[.string s.F8,.int .u8 s.P8,.int .i64 s.fA,.int .i64 s.fB,v0_1,.int .i64 s.fX,.int .i64 s.fY]∧L'=L∧G9 (VI .i64) 1 h' v0_1 s.A2Y):=by
 intro L
 refine I7.enter func65 z z z<|Sr<|To (O.alloc A1O z z λU=>Nt<|Sm z<|bE H λb a7 H=>To (O.cs (C2m a7 _) λW dM=>Mv z<|bE H λdN ah H=>Vv (V.A0Z z z ah)<|bE H λdO al H=>Ws z z al<|bE H λc av H=>Vv (V.A5u underlying3 underlying137 z av)<|Mv z<|Mv z<|bE H λd az H=>Vv (V.X9 z z az)<|Vv (V.bld (xs:=[(0,.tmp 10),(1,.tmp 14),(5,.tmp 15),(6,.tmp 17)]) (cs:=[_,_,_,_,_,_,_]) B8r B8t z (F6.cons z z z (F6.cons z z z (F6.cons z z z (F6.cons z z z F6.nil)))))<|To (O.alloc A1O z z λX=>To (O.stF (vs:=[.string b,.int .u8 c,qi 0,qi 0,qs,qi a,qi d]) I8 z z (j:=0) z z z z<|Nt<|Sm z<|bE H λdP ba H=>Vv (V.B4j z z ba)<|An z<|Sq<|Sr<|Vv (V.fa A3c z)<|Vv (V.ldO (k:=1) A6h z (j:=0) z z)<|Nt<|Bl<|Sr<|We z z<|An z<|T.cH H z (λH=>?_) λH=>?_))))
 ·refine Rg<|Mv z<|bE H λdS bb H=>Vv (V.A0Z z z bb)<|bE H λad bc H=>Ws z z bc<|Vv (V.fa X6 z)<|To (O.st (vs:=[qi ad]) (k:=2) D6 z z (j:=0) z z z<|Ni<|Bn<|Th<|Sq<|Sr<|An z ?_)
  obtain ⟨bd,be,bf⟩:=J4 H
  have H:=be
  refine Bl<|T.rn (VI .i64) 3 1 λbg=>T.fs [2,2] ?_
  refine T.lk [1,4,5] (FUEL,([]:List Int),(0:Int),(qs),[]) (λ⟨K,t,w,e,f⟩=>([(7,qi w)],blk X (.cells [.string b,.int .u8 c,qi ad,qi 0,e,qi a,qi d].toArray 139)::blk U (.cells [.string qe,.int .u8 0,qi 0,qi 0,qs,qi 0,qi 0].toArray 139)::F3 3 1 e f::L,λhh=>iter (B3F a b c d ad) K (t,w)=some bd∧A8 (VI .i64) hh f t)) ⟨H,bg⟩ ?_
  rintro ⟨K,t,w,e,f⟩ dU dV ⟨bi,Y⟩
  obtain ⟨au,dW,rfl,H,ae⟩:=G5 bi
  refine T.norm [7,1,4,5] z<|T.fl ?_
  refine Sq<|Sm z<|Vv (V.A5r (j:=0) (by exact I8) z z) ?_
  refine bE H λdX bj H=>To (O.cs (A1B ⟨e,z⟩ bj _) λbk d0=>Wl z z<|Nt<|T.cH H z (λH=>?_) λH=>?_)
  ·refine Ks<|Sq<|Bl<|Sm z<|Mv z<|bE H λd1 bo H=>Vv (V.A3S z z bo)<|bE H λd2 bp H=>Vv (V.A0Z z z bp)<|We z z<|Mv z<|T.bH 74 H z (λH=>?_) λH=>?_
   ·refine Mv z<|bE H λd3 bq H=>Vv (V.A0Z z z bq)<|Wg z z<|Kt z<|Nt<|T.cH H z (λH=>?_) λH=>?_
    ·refine Sr<|Vv (V.fa X8 z)<|Vv (V.ldO (k:=4) D9 z (j:=0) z z)<|An z<|Rg<|Mv z<|Mv z<|To (O.b1 (E:=VI .i64) A9 J6 z z z z z λd4 aw=>bE H λaJ aK H=>To (O.ax A9 J6 3 Y.u aw aK VI.plain λaM br=>T.fl ?_))
     refine T.fs [1] ?_
     refine T.drop<|Vv (V.fa X8 z)<|T.Q7 0 z λbs bt=>To (O.st (vs:=[aM]) (k:=4) D9 z z (j:=1) z bt (by (simp only [BT,bs]) <;> rfl) ?_)
     refine T.fl ?_
     refine Ni<|Bn<|Th<|Rg<|Mv z<|bE H λbu bw H=>Ws z z bw<|An z<|T.fs [1,2,2] ?_
     exact T.ag (au,aJ,bu,aM,(f++[[qi w]])) ⟨(D8 H ae),br⟩
    refine T.skip<|Bn<|Th<|Rg<|Mv z<|bE H λbx bA H=>Ws z z bA<|An z<|T.ag (au,t,bx,e,f) ⟨(D8 H ae),Y.u⟩
   refine S2<|Sk<|Kf z<|Nt<|Cf z<|T.skip<|Bn<|Th<|Rg<|Mv z<|bE H λbB bC H=>Ws z z bC<|An z<|T.ag (au,t,bB,e,f) ⟨(D8 H ae),Y.u⟩
  refine Xt<|have H:=D5 H ae; Be<|Th<|have H:=H7 H bf; Sr<|Vv (V.A5r (j:=0) (by exact I8) z z) ?_
  refine T.fs [2] ?_
  refine T.J8 λd7 d8 bD=>have aN:=A8.slc bD Y.u; To (O.stF (vs:=[.string b,.int .u8 c,qi ad,qi 0,e,qi a,qi d]) I8 z z (j:=1) z z (by (simp only [BT,G9.one aN]) <;> rfl) z ?_)
  refine T.freeze λd9 dh bG=>have bI:=Y2.of bG; Nr<|T.drop ?_
  cases H
  exact T.rl z (RVs.cons (RV.B2Y z bI I8) RVs.nil) ⟨_,z,z,aN.u⟩
 refine Sr<|We z z<|An z<|T.cH H z (λH=>?_) λH=>?_
 ·refine Rg<|Mv z<|bE H λdl bJ H=>Vv (V.A0Z z z bJ)<|bE H λaf bK H=>Ws z z bK<|Mv z<|bE H λdv bM H=>Vv (V.B4j z z bM)<|bE H λai bN H=>Vv (V.A0Z z z bN)<|Vv (V.fa X6 z)<|To (O.st (vs:=[qi af]) (k:=2) D6 z z (j:=0) z z z<|Vv (V.fa A0H z)<|To (O.st (vs:=[qi ai]) (k:=3) D6 z z (j:=0) z z z<|Ni<|Bn<|Th<|Sq<|Sq<|T.norm [1,4,5] z<|T.fl ?_))
  refine Rg<|An z ?_
  obtain ⟨bO,bP,bS⟩:=J4 H
  have H:=bP
  refine Bl<|T.rn (VI .i64) 3 1 λbU=>T.fs [2,2] ?_
  refine T.lk [1,4,5] (FUEL,([]:List Int),(0:Int),(qs),[]) (λ⟨M,x,y,g,i⟩=>([(7,qi y)],blk X (.cells [.string b,.int .u8 c,qi af,qi ai,g,qi a,qi d].toArray 139)::blk U (.cells [.string qe,.int .u8 0,qi 0,qi 0,qs,qi 0,qi 0].toArray 139)::F3 3 1 g i::L,λhh=>iter (B4b a b c d af ai) M (x,y)=some bO∧A8 (VI .i64) hh i x)) ⟨H,bU⟩ ?_
  rintro ⟨M,x,y,g,i⟩ dz ea ⟨bV,Z⟩
  obtain ⟨ax,eb,rfl,H,aj⟩:=G5 bV
  refine T.norm [7,1,4,5] z<|T.fl ?_
  refine Sq<|Sm z<|Vv (V.A5r (j:=0) (by exact I8) z z) ?_
  refine bE H λec bW H=>To (O.cs (A1B ⟨g,z⟩ bW _) λbX ef=>Wl z z<|Nt<|T.cH H z (λH=>?_) λH=>?_)
  ·refine Ks<|Sq<|Bl<|Sm z<|Mv z<|bE H λeg b0 H=>Vv (V.A3S z z b0)<|bE H λei b2 H=>Vv (V.A0Z z z b2)<|We z z<|Mv z<|T.bH 74 H z (λH=>?_) λH=>?_
   ·refine Mv z<|bE H λej b3 H=>Vv (V.A0Z z z b3)<|Wg z z<|Kt z<|Nt<|T.cH H z (λH=>?_) λH=>?_
    ·refine Sr<|Vv (V.fa X8 z)<|Vv (V.ldO (k:=4) D9 z (j:=0) z z)<|An z<|Rg<|Mv z<|Mv z<|To (O.b1 (E:=VI .i64) A9 J6 z z z z z λek ay=>bE H λaO aP H=>To (O.ax A9 J6 3 Z.u ay aP VI.plain λaS b4=>T.fl ?_))
     refine T.fs [1] ?_
     refine T.drop<|Vv (V.fa X8 z)<|T.Q7 0 z λb5 b6=>To (O.st (vs:=[aS]) (k:=4) D9 z z (j:=1) z b6 (by (simp only [BT,b5]) <;> rfl) ?_)
     refine T.fl ?_
     refine Ni<|Bn<|Th<|Rg<|Mv z<|bE H λb7 b8 H=>Ws z z b8<|An z<|T.fs [1,2,2] ?_
     exact T.ag (ax,aO,b7,aS,(i++[[qi y]])) ⟨(D8 H aj),b4⟩
    refine T.skip<|Bn<|Th<|Rg<|Mv z<|bE H λb9 bh H=>Ws z z bh<|An z<|T.ag (ax,x,b9,g,i) ⟨(D8 H aj),Z.u⟩
   refine S2<|Sk<|Kf z<|Nt<|Cf z<|T.skip<|Bn<|Th<|Rg<|Mv z<|bE H λbl bv H=>Ws z z bv<|An z<|T.ag (ax,x,bl,g,i) ⟨(D8 H aj),Z.u⟩
  refine Xt<|have H:=D5 H aj; Be<|Th<|have H:=H7 H bS; Sr<|Vv (V.A5r (j:=0) (by exact I8) z z) ?_
  refine T.fs [2] ?_
  refine T.J8 λeo ep bz=>have aU:=A8.slc bz Z.u; To (O.stF (vs:=[.string b,.int .u8 c,qi af,qi ai,g,qi a,qi d]) I8 z z (j:=1) z z (by (simp only [BT,G9.one aU]) <;> rfl) z ?_)
  refine T.freeze λer es ca=>have cb:=Y2.of ca; Nr<|T.drop ?_
  cases H
  exact T.rl z (RVs.cons (RV.B2Y z cb I8) RVs.nil) ⟨_,z,z,aU.u⟩
 refine Sr<|We z z<|An z<|T.cH H z (λH=>?_) λH=>?_
 ·refine Rg<|Mv z<|bE H λet cc H=>Vv (V.A0Z z z cc)<|bE H λak cd H=>Ws z z cd<|Mv z<|bE H λeu ce H=>Vv (V.B4j z z ce)<|bE H λew cf H=>Vv (V.A0Z z z cf)<|bE H λam cg H=>Ws z z cg<|Vv (V.fa X6 z)<|To (O.st (vs:=[qi ak]) (k:=2) D6 z z (j:=0) z z z<|Vv (V.fa A0H z)<|To (O.st (vs:=[qi am]) (k:=3) D6 z z (j:=0) z z z<|Ni<|Bn<|Th<|Sq<|Sq<|T.norm [1,4,5] z<|T.fl ?_))
  refine Rg<|An z ?_
  obtain ⟨ci,cj,ck⟩:=J4 H
  have H:=cj
  refine Bl<|T.rn (VI .i64) 3 1 λcm=>T.fs [2,2] ?_
  refine T.lk [1,4,5] (FUEL,([]:List Int),(0:Int),(qs),[]) (λ⟨N,A,B,m,n⟩=>([(7,qi B)],blk X (.cells [.string b,.int .u8 c,qi ak,qi am,m,qi a,qi d].toArray 139)::blk U (.cells [.string qe,.int .u8 0,qi 0,qi 0,qs,qi 0,qi 0].toArray 139)::F3 3 1 m n::L,λhh=>iter (B3C a b c d ak am) N (A,B)=some ci∧A8 (VI .i64) hh n A)) ⟨H,cm⟩ ?_
  rintro ⟨N,A,B,m,n⟩ ex ey ⟨cn,aa⟩
  obtain ⟨aA,eA,rfl,H,an⟩:=G5 cn
  refine T.norm [7,1,4,5] z<|T.fl ?_
  refine Sq<|Sm z<|Vv (V.A5r (j:=0) (by exact I8) z z) ?_
  refine bE H λeB co H=>To (O.cs (A1B ⟨m,z⟩ co _) λcp eE=>Wl z z<|Nt<|T.cH H z (λH=>?_) λH=>?_)
  ·refine Ks<|Sq<|Bl<|Sm z<|Mv z<|bE H λeG ct H=>Vv (V.A3S z z ct)<|bE H λeI cu H=>Vv (V.A0Z z z cu)<|We z z<|Mv z<|T.bH 74 H z (λH=>?_) λH=>?_
   ·refine Mv z<|bE H λeJ cw H=>Vv (V.A0Z z z cw)<|Wg z z<|Kt z<|Nt<|T.cH H z (λH=>?_) λH=>?_
    ·refine Sr<|Vv (V.fa X8 z)<|Vv (V.ldO (k:=4) D9 z (j:=0) z z)<|An z<|Rg<|Mv z<|Mv z<|To (O.b1 (E:=VI .i64) A9 J6 z z z z z λeK aB=>bE H λaV aW H=>To (O.ax A9 J6 3 aa.u aB aW VI.plain λaX cx=>T.fl ?_))
     refine T.fs [1] ?_
     refine T.drop<|Vv (V.fa X8 z)<|T.Q7 0 z λcy cA=>To (O.st (vs:=[aX]) (k:=4) D9 z z (j:=1) z cA (by (simp only [BT,cy]) <;> rfl) ?_)
     refine T.fl ?_
     refine Ni<|Bn<|Th<|Rg<|Mv z<|bE H λcB cC H=>Ws z z cC<|An z<|T.fs [1,2,2] ?_
     exact T.ag (aA,aV,cB,aX,(n++[[qi B]])) ⟨(D8 H an),cx⟩
    refine T.skip<|Bn<|Th<|Rg<|Mv z<|bE H λcD cE H=>Ws z z cE<|An z<|T.ag (aA,A,cD,m,n) ⟨(D8 H an),aa.u⟩
   refine S2<|Sk<|Kf z<|Nt<|Cf z<|T.skip<|Bn<|Th<|Rg<|Mv z<|bE H λcG cI H=>Ws z z cI<|An z<|T.ag (aA,A,cG,m,n) ⟨(D8 H an),aa.u⟩
  refine Xt<|have H:=D5 H an; Be<|Th<|have H:=H7 H ck; Sr<|Vv (V.A5r (j:=0) (by exact I8) z z) ?_
  refine T.fs [2] ?_
  refine T.J8 λeO eP cJ=>have aY:=A8.slc cJ aa.u; To (O.stF (vs:=[.string b,.int .u8 c,qi ak,qi am,m,qi a,qi d]) I8 z z (j:=1) z z (by (simp only [BT,G9.one aY]) <;> rfl) z ?_)
  refine T.freeze λeS eU cK=>have cM:=Y2.of cK; Nr<|T.drop ?_
  cases H
  exact T.rl z (RVs.cons (RV.B2Y z cM I8) RVs.nil) ⟨_,z,z,aY.u⟩
 refine Sr<|We z z<|An z<|T.cH H z (λH=>?_) λH=>?_
 ·refine Sm z<|bE H λeV cN H=>Vv (V.A0Z z z cN)<|bE H λJ cO H=>Ws z z cO<|Vv (V.fa X6 z)<|To (O.st (vs:=[qi J]) (k:=2) D6 z z (j:=0) z z z<|Nt<|T.norm [1,4,5,6] z<|T.fl ?_)
  refine Rg<|Vv (V.fa X6 z)<|Vv (V.ldO (k:=2) D6 z (j:=0) z z)<|Mv z<|bE H λeW cP H=>Vv (V.B4j z z cP)<|bE H λao cS H=>Vv (V.A0Z z z cS)<|Vv (V.min2 z z)<|Vv (V.fa A0H z)<|To (O.st (vs:=[qi (min J ao)]) (k:=3) D6 z z (j:=0) z z z<|Ni<|Bn<|Th<|Sq<|Sr<|An z ?_)
  obtain ⟨cU,cV,cW⟩:=J4 H
  have H:=cV
  refine Bl<|T.rn (VI .i64) 3 1 λcX=>T.fs [2,2] ?_
  refine T.lk [1,4,5] (FUEL,([]:List Int),(0:Int),(qs),[]) (λ⟨P,C,D,o,p⟩=>([(7,qi D)],blk X (.cells [.string b,.int .u8 c,qi J,qi (min J ao),o,qi a,qi d].toArray 139)::blk U (.cells [.string qe,.int .u8 0,qi 0,qi 0,qs,qi 0,qi 0].toArray 139)::F3 3 1 o p::L,λhh=>iter (B3r a b c d J ao) P (C,D)=some cU∧A8 (VI .i64) hh p C)) ⟨H,cX⟩ ?_
  rintro ⟨P,C,D,o,p⟩ eX eY ⟨cY,ab⟩
  obtain ⟨aC,eZ,rfl,H,aq⟩:=G5 cY
  refine T.norm [7,1,4,5] z<|T.fl ?_
  refine Sq<|Sm z<|Vv (V.A5r (j:=0) (by exact I8) z z) ?_
  refine bE H λe0 cZ H=>To (O.cs (A1B ⟨o,z⟩ cZ _) λc0 e3=>Wl z z<|Nt<|T.cH H z (λH=>?_) λH=>?_)
  ·refine Ks<|Sq<|Bl<|Sm z<|Mv z<|bE H λe4 c3 H=>Vv (V.A3S z z c3)<|bE H λe5 c4 H=>Vv (V.A0Z z z c4)<|We z z<|Mv z<|T.bH 74 H z (λH=>?_) λH=>?_
   ·refine Mv z<|bE H λe6 c5 H=>Vv (V.A0Z z z c5)<|Wg z z<|Kt z<|Nt<|T.cH H z (λH=>?_) λH=>?_
    ·refine Sr<|Vv (V.fa X8 z)<|Vv (V.ldO (k:=4) D9 z (j:=0) z z)<|An z<|Rg<|Mv z<|Mv z<|To (O.b1 (E:=VI .i64) A9 J6 z z z z z λe7 aD=>bE H λaZ a0 H=>To (O.ax A9 J6 3 ab.u aD a0 VI.plain λa1 c6=>T.fl ?_))
     refine T.fs [1] ?_
     refine T.drop<|Vv (V.fa X8 z)<|T.Q7 0 z λc7 c8=>To (O.st (vs:=[a1]) (k:=4) D9 z z (j:=1) z c8 (by (simp only [BT,c7]) <;> rfl) ?_)
     refine T.fl ?_
     refine Ni<|Bn<|Th<|Rg<|Mv z<|bE H λc9 ch H=>Ws z z ch<|An z<|T.fs [1,2,2] ?_
     exact T.ag (aC,aZ,c9,a1,(p++[[qi D]])) ⟨(D8 H aq),c6⟩
    refine T.skip<|Bn<|Th<|Rg<|Mv z<|bE H λcl cv H=>Ws z z cv<|An z<|T.ag (aC,C,cl,o,p) ⟨(D8 H aq),ab.u⟩
   refine S2<|Sk<|Kf z<|Nt<|Cf z<|T.skip<|Bn<|Th<|Rg<|Mv z<|bE H λcz da H=>Ws z z da<|An z<|T.ag (aC,C,cz,o,p) ⟨(D8 H aq),ab.u⟩
  refine Xt<|have H:=D5 H aq; Be<|Th<|have H:=H7 H cW; Sr<|Vv (V.A5r (j:=0) (by exact I8) z z) ?_
  refine T.fs [2] ?_
  refine T.J8 λeh el db=>have a2:=A8.slc db ab.u; To (O.stF (vs:=[.string b,.int .u8 c,qi J,qi (min J ao),o,qi a,qi d]) I8 z z (j:=1) z z (by (simp only [BT,G9.one a2]) <;> rfl) z ?_)
  refine T.freeze λev ez dc=>have dd:=Y2.of dc; Nr<|T.drop ?_
  cases H
  exact T.rl z (RVs.cons (RV.B2Y z dd I8) RVs.nil) ⟨_,z,z,a2.u⟩
 refine T.skip<|Bn<|Th<|Sq<|Sr<|An z ?_
 obtain ⟨de,df,dg⟩:=J4 H
 have H:=df
 refine Bl<|T.rn (VI .i64) 3 1 λdi=>T.fs [2,2] ?_
 refine T.lk [1,4,5] (FUEL,([]:List Int),(0:Int),(qs),[]) (λ⟨S,G,I,q,r⟩=>([(7,qi I)],blk X (.cells [.string b,.int .u8 c,qi 0,qi 0,q,qi a,qi d].toArray 139)::blk U (.cells [.string qe,.int .u8 0,qi 0,qi 0,qs,qi 0,qi 0].toArray 139)::F3 3 1 q r::L,λhh=>iter (B3s a b c d) S (G,I)=some de∧A8 (VI .i64) hh r G)) ⟨H,di⟩ ?_
 rintro ⟨S,G,I,q,r⟩ fb fc ⟨dj,ac⟩
 obtain ⟨aE,fd,rfl,H,ar⟩:=G5 dj
 refine T.norm [7,1,4,5] z<|T.fl ?_
 refine Sq<|Sm z<|Vv (V.A5r (j:=0) (by exact I8) z z) ?_
 refine bE H λfe dk H=>To (O.cs (A1B ⟨q,z⟩ dk _) λdm fi=>Wl z z<|Nt<|T.cH H z (λH=>?_) λH=>?_)
 ·refine Ks<|Sq<|Bl<|Sm z<|Mv z<|bE H λfj dq H=>Vv (V.A3S z z dq)<|bE H λfk dr H=>Vv (V.A0Z z z dr)<|We z z<|Mv z<|T.bH 74 H z (λH=>?_) λH=>?_
  ·refine Mv z<|bE H λfm ds H=>Vv (V.A0Z z z ds)<|Wg z z<|Kt z<|Nt<|T.cH H z (λH=>?_) λH=>?_
   ·refine Sr<|Vv (V.fa X8 z)<|Vv (V.ldO (k:=4) D9 z (j:=0) z z)<|An z<|Rg<|Mv z<|Mv z<|To (O.b1 (E:=VI .i64) A9 J6 z z z z z λfn aG=>bE H λa3 a4 H=>To (O.ax A9 J6 3 ac.u aG a4 VI.plain λa5 dt=>T.fl ?_))
    refine T.fs [1] ?_
    refine T.drop<|Vv (V.fa X8 z)<|T.Q7 0 z λdu dw=>To (O.st (vs:=[a5]) (k:=4) D9 z z (j:=1) z dw (by (simp only [BT,du]) <;> rfl) ?_)
    refine T.fl ?_
    refine Ni<|Bn<|Th<|Rg<|Mv z<|bE H λdx dy H=>Ws z z dy<|An z<|T.fs [1,2,2] ?_
    exact T.ag (aE,a3,dx,a5,(r++[[qi I]])) ⟨(D8 H ar),dt⟩
   refine T.skip<|Bn<|Th<|Rg<|Mv z<|bE H λdA dB H=>Ws z z dB<|An z<|T.ag (aE,G,dA,q,r) ⟨(D8 H ar),ac.u⟩
  refine S2<|Sk<|Kf z<|Nt<|Cf z<|T.skip<|Bn<|Th<|Rg<|Mv z<|bE H λdC dD H=>Ws z z dD<|An z<|T.ag (aE,G,dC,q,r) ⟨(D8 H ar),ac.u⟩
 refine Xt<|have H:=D5 H ar; Be<|Th<|have H:=H7 H dg; Sr<|Vv (V.A5r (j:=0) (by exact I8) z z) ?_
 refine T.fs [2] ?_
 refine T.J8 λfq fr dE=>have a6:=A8.slc dE ac.u; To (O.stF (vs:=[.string b,.int .u8 c,qi 0,qi 0,q,qi a,qi d]) I8 z z (j:=1) z z (by (simp only [BT,G9.one a6]) <;> rfl) z ?_)
 refine T.freeze λfs ft dG=>have dI:=Y2.of dG; Nr<|T.drop ?_
 cases H
 exact T.rl z (RVs.cons (RV.B2Y z dI I8) RVs.nil) ⟨_,z,z,a6.u⟩
theorem B3u {h I D J m K} (ak:C1e h I D) (H:B0A D J=some (m,K)):∀ L,FnW prog 68 [.agg I.toArray,.int .i64 J] h L (.tuple #[.agg #[.int .u8 m.F9,.int .i64 m.K6,.string m.fA,.string m.fB,.string m.I5,.int .i64 m.fN],.bool K]):=by
 intro L
 obtain ⟨bO,bP,bS,bU,bV,rfl,d,e,bW,bX⟩:=ak
 refine I7.enter func68 z z z<|Sr<|To (O.T9 z z z λbY bZ b0 c=>To (O.alloc A2H z z λf=>An z<|Sm z<|bE H λb1 am H=>Vv (V.A0Z z z am)<|bE H λb2 an H=>Ws z z an<|bE H λa ao H=>Vv (V.A5u underlying3 underlying41 z ao)<|Vv (V.bld (xs:=[(0,.tmp 16)]) (cs:=[_,_,_,_,_,_]) C0F C1h z (F6.cons z z z F6.nil))<|To (O.alloc A2H z z λi=>To (O.stF (vs:=[.int .u8 a,qi 0,.string qe,.string qe,.string qe,qi 0]) K3 z z (j:=0) z z z z<|Nt<|Sm z<|bE H λb3 ap H=>Vv (V.B4j z z ap)<|An z<|Sq<|Sm z<|bE H λb4 aq H=>Vv (V.A0Z z z aq)<|Wg z z<|Nt ?_))))
 obtain ⟨ar,au,aw⟩:=J4 H
 refine T.ck (α:=Int) [1,2,4,6] (λb=>([],blk i (.cells [.int .u8 a,qi b,.string qe,.string qe,.string qe,qi 0].toArray 43)::blk f (.cells [.int .u8 0,qi 0,.string qe,.string qe,.string qe,qi 0].toArray 43)::L,λhh=>ar=b)) ?_ ?_
 ·have H:=au
  refine T.cH H z (λH=>?_) λH=>?_
  ·refine Rg<|Mv z<|bE H λb5 ax H=>Vv (V.A0Z z z ax)<|bE H λM ay H=>Ws z z ay<|Vv (V.fa A4d z)<|To (O.st (vs:=[qi M]) (k:=1) D6 z z (j:=0) z z z<|Nt<|T.mt M (K9 H))
  refine Ks<|T.mt (0:Int) (K9 H)
 rintro b b6 b7 aA
 have H:=H7 aA aw
 refine T.norm [1,2,4,6] z<|T.fl ?_
 refine Sm z<|bE H λb8 aB H=>Vv (V.B4j z z aB)<|An z<|Sq<|T.dw (.vs [0,1,2,3,4,5] (.alt 6 (.alt 7 .done .no) .no)) 9 0 0 ?_
 refine Tv z (V.fa Q3 z)<|Td z 1 M8 z c.u z<|Tv z (V.P7 O3 z e)<|Tv z (V.fa M0 z)<|Td z 0 O7 z c.u z<|Tv z (V.P7 O1 z d)<|Ts z z (X2 z z) (V.asg z) z ?_ T.O4
 refine Ts z z (X2 z z) (V.asg z) z ?_ T.O4
 refine T.M9 (X2 z z)<|Th<|Sq<|Sq ?_
 obtain ⟨aC,aD,aE⟩:=J4 H
 refine T.ck (α:=Bool) [1,2,4,6,7,8] (λr=>([(40,.bool r)],blk i (.cells [.int .u8 a,qi b,.string qe,.string qe,.string qe,qi 0].toArray 43)::blk f (.cells [.int .u8 0,qi 0,.string qe,.string qe,.string qe,qi 0].toArray 43)::L,λhh=>aC=r)) ?_ ?_
 ·have H:=aD
  refine Rg<|Mv z<|We z z<|Mv z<|T.bH 37 H z (λH=>?_) λH=>?_
  ·refine S2<|Kt z<|Nt<|T.mt true (K9 H)
  refine Mv z<|We z z<|Kf z<|Nt<|T.mt (decide ((D.C8.length:Int)=(0:Int))) (K9 H)
 rintro r b9 bh aG
 have H:=H7 aG aE
 refine T.norm [40,1,2,4,6,7,8] z<|T.fl ?_
 refine T.cH H z (λH=>?_) λH=>?_
 ·refine Sr<|Vv (V.A5r (j:=0) (by exact K3) z z) ?_
  refine To (O.stF (vs:=[.int .u8 a,qi b,.string qe,.string qe,.string qe,qi 0]) K3 z z (j:=1) z z z z<|Ag z<|Nr<|Tr<|Fr_ 1 z<|T.drop ?_)
  cases H
  exact T.B0p (L':=L) results68 (RVs.cons (RV.cellS z (j:=0) z K3) (Rv z)) Li (λ_ iv=>iv.drop) ⟨z,z⟩
 refine Ks<|Sq<|T.dw (.vs [0,1,2,3,4,5,6,7,8,9,10,11] (.alt 12 (.alt 13 (.alt 14 .done .no) .no) .no)) 16 0 0 ?_
 refine Tm z z<|Tm z z<|bE H λbl aI H=>Tv z (V.A0Z z z aI)<|Tm z z<|Tm z z<|bE H λbv aJ H=>Tv z (V.B4j z z aJ)<|Tm z z<|bE H λbz aK H=>Tv z (V.A0Z z z aK)<|Tm z z<|bE H λca aM H=>Tv z (V.B4j z z aM)<|Tm z z<|bE H λcb aN H=>Tv z (V.A0Z z z aN)<|Ts z z (X2 z z) (V.asg z) z ?_ T.O4
 refine Ts z z (X2 z z) (V.asg z) z ?_ T.O4
 refine Ts z z (X2 z z) (V.asg z) z ?_ T.O4
 refine T.M9 (X2 z z)<|Th<|Sm z<|bE H λcc aO H=>Vv (V.B4j z z aO)<|bE H λs aP H=>Vv (V.A0Z z z aP)<|An z<|Sq<|Sr<|Vv (V.fa A2s z)<|Vv (V.ldO (k:=0) A5h z (j:=0) z z)<|Nt<|Bl<|Sq<|Sr<|We z z<|An z ?_
 obtain ⟨aS,aU,aV⟩:=J4 H
 refine T.ck (α:=Bool) [1,2,4,6,9,10,11,12,58] (λw=>([(59,.bool w)],blk i (.cells [.int .u8 a,qi b,.string qe,.string qe,.string qe,qi 0].toArray 43)::blk f (.cells [.int .u8 0,qi 0,.string qe,.string qe,.string qe,qi 0].toArray 43)::L,λhh=>aS=w)) ?_ ?_
 ·have H:=aU
  refine T.cH H z (λH=>?_) λH=>?_
  ·refine Ks<|T.mt (decide (a=(1:Int))) (K9 H)
  refine Sr<|We z z<|An z<|T.cH H z (λH=>?_) λH=>?_
  ·refine Ks<|T.mt (decide (a=(2:Int))) (K9 H)
  refine Sr<|We z z<|An z<|T.cH H z (λH=>?_) λH=>?_
  ·refine Ks<|T.mt (decide (a=(3:Int))) (K9 H)
  refine Sr<|We z z<|An z<|T.cH H z (λH=>?_) λH=>?_
  ·refine Ks<|T.mt (decide (a=(4:Int))) (K9 H)
  refine Rg<|We z z<|An z<|T.mt (decide (a=(5:Int))) (K9 H)
 rintro w cd ce aW
 have H:=H7 aW aV
 refine T.norm [59,1,2,4,6,9,10,11,12,58] z<|T.fl ?_
 refine T.cH H z (λH=>?_) λH=>?_
 ·refine Sq<|T.dw (.vs [0,1,2,3,4,5,6,7,8,9,10,11,12] (.alt 13 (.g (.v 14 (.alt 15 .done .no))) .no)) 13 1 0 ?_
  refine Tv z (V.fa Q3 z)<|Td z 1 M8 z c.u z<|Tm z z<|bE H λx N H=>?_
  obtain ⟨cf,aX,⟨cg,rfl,ci⟩⟩:=G9.at e N
  refine Tv z (V.ix O3 z z e (E8 N))<|Tv z (V.fa A0g z)<|Td z 0 J3 z aX.u z<|Tv z (V.fa Q3 z)<|Td z 1 M8 z c.u z<|Tm z z<|bE H λy P H=>?_
  obtain ⟨cj,aY,⟨ck,rfl,cm⟩⟩:=G9.at e P
  refine Tv z (V.ix O3 z z e (E8 P))<|Tv z (V.fa A0g z)<|Td z 0 J3 z aY.u z<|Tv z (V.fa Y8 z)<|Tp z z (X3 [] [0] z z) (O.st (vs:=[.string x.F8]) (k:=2) J3 z z (j:=0) z z z ?_) T.O4
  refine T.N8 Lr<|Tv z (V.fa A4b z)<|Tp z z (SX.one (XA.fr [] Lr z) z) (O.st (vs:=[.string y.F8]) (k:=3) J3 z z (j:=0) z z z ?_) T.O4
  refine T.M9 (SX.one (XA.fr [] Lr z) z)<|Th<|Sq<|Sq ?_
  obtain ⟨aZ,a0,a1⟩:=J4 H
  refine T.ck (α:=Bool) [4,6,9,10,12] (λA=>([(86,.bool A)],blk i (.cells [.int .u8 a,qi b,.string x.F8,.string y.F8,.string qe,qi 0].toArray 43)::blk f (.cells [.int .u8 0,qi 0,.string qe,.string qe,.string qe,qi 0].toArray 43)::L,λhh=>aZ=A)) ?_ ?_
  ·have H:=a0
   refine Rg<|Vv (V.fa A2s z)<|Vv (V.ldO (k:=0) A5h z (j:=0) z z)<|We z z<|Mv z<|T.bH 82 H z (λH=>?_) λH=>?_
   ·refine S2<|Sk<|Kt z<|Nt<|T.mt true (K9 H)
   refine Vv (V.fa A2s z)<|Vv (V.ldO (k:=0) A5h z (j:=0) z z)<|We z z<|Kf z<|Nt<|T.mt (decide (a=(4:Int))) (K9 H)
  rintro A cn co a2
  have H:=H7 a2 a1
  refine T.norm [86,4,6,9,10,12] z<|T.fl ?_
  obtain ⟨a3,a4,a5⟩:=J4 H
  refine T.ck (α:=Int) [4,6,9,10] (λn=>([],blk i (.cells [.int .u8 a,qi b,.string x.F8,.string y.F8,.string qe,qi n].toArray 43)::blk f (.cells [.int .u8 0,qi 0,.string qe,.string qe,.string qe,qi 0].toArray 43)::L,λhh=>a3=n)) ?_ ?_
  ·have H:=a4
   refine T.cH H z (λH=>?_) λH=>?_
   ·refine Rg<|Mv z<|Vv (V.fa U0 z)<|To (O.st (vs:=[qi s]) (k:=5) D6 z z (j:=0) z z z<|Nt<|T.mt s (K9 H))
   refine Ks<|T.mt (0:Int) (K9 H)
  rintro n cp cq a6
  have H:=H7 a6 a5
  refine T.norm [4,6,9,10] z<|T.fl ?_
  refine Sq<|Sr<|Vv (V.fa A2s z)<|Vv (V.ldO (k:=0) A5h z (j:=0) z z)<|We z z<|Nt ?_
  obtain ⟨a7,a8,a9⟩:=J4 H
  refine T.ck (α:=Int) [4,6,9,10] (λo=>([],blk i (.cells [.int .u8 a,qi b,.string x.F8,.string y.F8,.string qe,qi o].toArray 43)::blk f (.cells [.int .u8 0,qi 0,.string qe,.string qe,.string qe,qi 0].toArray 43)::L,λhh=>a7=o)) ?_ ?_
  ·have H:=a8
   refine T.cH H z (λH=>?_) λH=>?_
   ·refine Rg<|Vv (V.fa U0 z)<|Vv (V.ldO (k:=5) D6 z (j:=0) z z)<|bE H λS ah H=>Ws z z ah<|Vv (V.fa U0 z)<|To (O.st (vs:=[qi S]) (k:=5) D6 z z (j:=0) z z z<|Nt<|T.mt S (K9 H))
   refine Ks<|T.mt n (K9 H)
  rintro o cr ct al
  have H:=H7 al a9
  refine T.norm [4,6,9,10] z<|T.fl ?_
  refine Sr<|Vv (V.A5r (j:=0) (by exact K3) z z) ?_
  refine Mv z<|Mv z<|Wn z z<|To (O.stF (vs:=[.int .u8 a,qi b,.string x.F8,.string y.F8,.string qe,qi o]) K3 z z (j:=1) z z z z<|Ag z<|Nr<|Br<|Tr<|Fr_ 1 z<|T.drop ?_)
  cases H
  exact T.B0p (L':=L) results68 (RVs.cons (RV.cellS z (j:=0) z K3) (Rv z)) Li (λ_ iv=>iv.drop) ⟨z,z⟩
 refine Sq<|Sr<|We z z<|An z ?_
 obtain ⟨av,az,ba⟩:=J4 H
 refine T.ck (α:=Bool) [1,2,4,6,9,11,12,58] (λB=>([(100,.bool B)],blk i (.cells [.int .u8 a,qi b,.string qe,.string qe,.string qe,qi 0].toArray 43)::blk f (.cells [.int .u8 0,qi 0,.string qe,.string qe,.string qe,qi 0].toArray 43)::L,λhh=>av=B)) ?_ ?_
 ·have H:=az
  refine T.cH H z (λH=>?_) λH=>?_
  ·refine Ks<|T.mt (decide (a=(6:Int))) (K9 H)
  refine Rg<|We z z<|An z<|T.mt (decide (a=(7:Int))) (K9 H)
 rintro B cu cw bb
 have H:=H7 bb ba
 refine T.norm [100,1,2,4,6,9,11,12,58] z<|T.fl ?_
 refine T.cH H z (λH=>?_) λH=>?_
 ·refine Sq<|T.dw (.vs [0,1,2,3,4,5,6,7,8,9,10,11,12] (.alt 13 (.g (.v 14 (.alt 15 .done .no))) .no)) 13 1 0 ?_
  refine Tv z (V.fa Q3 z)<|Td z 1 M8 z c.u z<|Tm z z<|bE H λE U H=>?_
  obtain ⟨cx,bc,⟨cy,rfl,cA⟩⟩:=G9.at e U
  refine Tv z (V.ix O3 z z e (E8 U))<|Tv z (V.fa A0g z)<|Td z 0 J3 z bc.u z<|Tv z (V.fa M0 z)<|Td z 0 O7 z c.u z<|Tm z z<|bE H λG W H=>?_
  obtain ⟨cB,bd,⟨cC,rfl,cD⟩⟩:=G9.at d W
  refine Tv z (V.ix O1 z z d (E8 W))<|Tv z (V.fa A0i z)<|Td z 0 J3 z bd.u z<|Tv z (V.fa Y8 z)<|Tp z z (X3 [] [0] z z) (O.st (vs:=[.string E.F8]) (k:=2) J3 z z (j:=0) z z z ?_) T.O4
  refine T.N8 Lr<|Tv z (V.fa U8 z)<|Tp z z (SX.one (XA.fr [] Lr z) z) (O.st (vs:=[.string G.F8]) (k:=4) J3 z z (j:=0) z z z ?_) T.O4
  refine T.M9 (SX.one (XA.fr [] Lr z) z)<|Th<|Sq<|Sr<|Vv (V.fa A2s z)<|Vv (V.ldO (k:=0) A5h z (j:=0) z z)<|We z z<|Nt ?_
  obtain ⟨be,bf,bg⟩:=J4 H
  refine T.ck (α:=Int) [4,6] (λp=>([],blk i (.cells [.int .u8 a,qi b,.string E.F8,.string qe,.string G.F8,qi p].toArray 43)::blk f (.cells [.int .u8 0,qi 0,.string qe,.string qe,.string qe,qi 0].toArray 43)::L,λhh=>be=p)) ?_ ?_
  ·have H:=bf
   refine T.cH H z (λH=>?_) λH=>?_
   ·refine Rg<|Mv z<|bE H λcE bi H=>Vv (V.B4j z z bi)<|Vv (V.fa M0 z)<|Wd 0 O7 z c.u z<|Mv z<|bE H λcG X H=>?_
    obtain ⟨cI,bj,⟨bk,rfl,cJ⟩⟩:=G9.at d X
    refine Vv (V.ix O1 z z d (E8 X))<|Vv (V.ldS z bj.u (by exact I8)) ?_
    refine bE H λcK bm H=>To (O.G6 z (A1B ⟨bk,z⟩ bm _) z λcM cN cO cP bn=>?_)
    obtain ⟨rfl,bo⟩:=bn
    refine O8 _ bo<|bE H λY bp H=>Vv (V.A0Z z z bp)<|Vv (V.fa U0 z)<|To (O.st (vs:=[qi Y]) (k:=5) D6 z z (j:=0) z z z<|Nt<|T.mt Y (K9 H))
   refine Ks<|T.mt (0:Int) (K9 H)
  rintro p cS cU bq
  have H:=H7 bq bg
  refine T.norm [4,6] z<|T.fl ?_
  refine Sr<|Vv (V.A5r (j:=0) (by exact K3) z z) ?_
  refine To (O.stF (vs:=[.int .u8 a,qi b,.string E.F8,.string qe,.string G.F8,qi p]) K3 z z (j:=1) z z z z<|Ag z<|Nr<|Br<|Tr<|Fr_ 1 z<|T.drop ?_)
  cases H
  exact T.B0p (L':=L) results68 (RVs.cons (RV.cellS z (j:=0) z K3) (Rv z)) Li (λ_ iv=>iv.drop) ⟨z,z⟩
 refine Sr<|We z z<|An z<|T.cH H z (λH=>?_) λH=>?_
 ·refine Sq<|Sm z<|bE H λcV br H=>Vv (V.A0Z z z br)<|We z z<|Nt ?_
  obtain ⟨bs,bt,bu⟩:=J4 H
  refine T.ck (α:=ByteArray) [4,6] (λq=>([],blk i (.cells [.int .u8 a,qi b,.string q,.string qe,.string qe,qi 0].toArray 43)::blk f (.cells [.int .u8 0,qi 0,.string qe,.string qe,.string qe,qi 0].toArray 43)::L,λhh=>bs=q)) ?_ ?_
  ·have H:=bt
   refine T.cH H z (λH=>?_) λH=>?_
   ·refine Rg<|Vv (V.fa Q3 z)<|Wd 1 M8 z c.u z<|Mv z<|bE H λZ aa H=>?_
    obtain ⟨cW,bw,⟨cX,rfl,cY⟩⟩:=G9.at e aa
    refine Vv (V.ix O3 z z e (E8 aa))<|Vv (V.fa A0g z)<|Wd 0 J3 z bw.u z<|Vv (V.fa Y8 z)<|To (O.st (vs:=[.string Z.F8]) (k:=2) J3 z z (j:=0) z z z<|Nt<|T.mt Z.F8 (K9 H))
   refine Ks<|T.mt qe (K9 H)
  rintro q cZ c0 bx
  have H:=H7 bx bu
  refine T.norm [4,6] z<|T.fl ?_
  refine Sr<|Vv (V.A5r (j:=0) (by exact K3) z z) ?_
  refine To (O.stF (vs:=[.int .u8 a,qi b,.string q,.string qe,.string qe,qi 0]) K3 z z (j:=1) z z z z<|Ag z<|Nr<|Br<|Tr<|Fr_ 1 z<|T.drop ?_)
  cases H
  exact T.B0p (L':=L) results68 (RVs.cons (RV.cellS z (j:=0) z K3) (Rv z)) Li (λ_ iv=>iv.drop) ⟨z,z⟩
 refine Sr<|We z z<|An z<|T.cH H z (λH=>?_) λH=>?_
 ·refine Sq<|T.dw (.vs [0,1,2,3,4,5,6,7,8,9,10,11,12] (.alt 13 (.g (.v 14 (.alt 15 .done .no))) .no)) 13 1 0 ?_
  refine Tv z (V.fa Q3 z)<|Td z 1 M8 z c.u z<|Tm z z<|bE H λab ac H=>?_
  obtain ⟨c1,bA,⟨c2,rfl,c3⟩⟩:=G9.at e ac
  refine Tv z (V.ix O3 z z e (E8 ac))<|Tv z (V.fa B1a z)<|Td z 5 J3 z bA.u z<|Tv z (V.fa M0 z)<|Td z 0 O7 z c.u z<|Tm z z<|bE H λad ae H=>?_
  obtain ⟨c4,bB,⟨c5,rfl,c6⟩⟩:=G9.at d ae
  refine Tv z (V.ix O1 z z d (E8 ae))<|Tv z (V.fa A0i z)<|Td z 0 J3 z bB.u z<|Tv z (V.fa Y8 z)<|Tp z z (X3 [] [0] z z) (O.st (vs:=[.string ab.A0z]) (k:=2) J3 z z (j:=0) z z z ?_) T.O4
  refine T.N8 Lr<|Tv z (V.fa U8 z)<|Tp z z (SX.one (XA.fr [] Lr z) z) (O.st (vs:=[.string ad.F8]) (k:=4) J3 z z (j:=0) z z z ?_) T.O4
  refine T.M9 (SX.one (XA.fr [] Lr z) z)<|Th<|Sq<|T.dw (.vs [0,1,2,3] (.alt 4 (.alt 5 .done .no) .no)) 4 2 1 ?_
  refine Tv z (Val.XA λ_ _ _=>V.A5r (j:=0) (by exact K3) z z) ?_
  refine Tv z (V.fa Y8 z)<|Tv z (Val.XA λ_ _ _=>V.ldO (k:=2) J3 z (j:=0) z z)<|Tv z (V.sne z z)<|Tp z z (X3 [0] [1,1] z z) (O.stF (vs:=[.int .u8 a,qi b,.string ab.A0z,.string qe,.string ad.F8,qi 0]) K3 z z (j:=1) z z z z ?_) T.O4
  refine Ts z z (SX.one (XA.fr [1] Lr z) z) (V.asg z) z ?_ T.O4
  refine T.M9 (SX.one (XA.fr [1] Lr z) z)<|Th<|T.ret<|Br<|Tr<|Fr_ 1 z<|T.drop ?_
  cases H
  exact T.B0p (L':=L) results68 (RVs.cons (RV.cellS z (j:=0) z K3) (Rv z)) Li (λ_ iv=>iv.drop) ⟨z,z⟩
 refine Sq<|Sr<|We z z<|An z ?_
 obtain ⟨bC,bD,bG⟩:=J4 H
 refine T.ck (α:=Bool) [1,2,4,6,11,12] (λC=>([(164,.bool C)],blk i (.cells [.int .u8 a,qi b,.string qe,.string qe,.string qe,qi 0].toArray 43)::blk f (.cells [.int .u8 0,qi 0,.string qe,.string qe,.string qe,qi 0].toArray 43)::L,λhh=>bC=C)) ?_ ?_
 ·have H:=bD
  refine T.cH H z (λH=>?_) λH=>?_
  ·refine Ks<|T.mt (decide (a=(15:Int))) (K9 H)
  refine Rg<|We z z<|An z<|T.mt (decide (a=(16:Int))) (K9 H)
 rintro C c7 c8 bI
 have H:=H7 bI bG
 refine T.norm [164,1,2,4,6,11,12] z<|T.fl ?_
 refine T.cH H z (λH=>?_) λH=>?_
 ·refine Rg<|Mv z<|Vv (V.fa U0 z)<|To (O.st (vs:=[qi s]) (k:=5) D6 z z (j:=0) z z z<|Ni<|Bn<|Th<|Sq<|Sm z<|bE H λc9 bJ H=>Vv (V.A0Z z z bJ)<|Wg z z<|Nt<|T.cH H z (λH=>?_) λH=>?_)
  ·refine Rg<|Vv (V.fa M0 z)<|Wd 0 O7 z c.u z<|Mv z<|bE H λaf ag H=>?_
   obtain ⟨ch,bK,⟨cl,rfl,cv⟩⟩:=G9.at d ag
   refine Vv (V.ix O1 z z d (E8 ag))<|Vv (V.fa A0i z)<|Wd 0 J3 z bK.u z<|Vv (V.fa U8 z)<|To (O.st (vs:=[.string af.F8]) (k:=4) J3 z z (j:=0) z z z<|Nt<|Sr<|Vv (V.A5r (j:=0) (by exact K3) z z) ?_)
   refine To (O.stF (vs:=[.int .u8 a,qi b,.string qe,.string qe,.string af.F8,qi s]) K3 z z (j:=1) z z z z<|Ag z<|Nr<|Fr_ 1 z<|T.drop ?_)
   cases H
   exact T.B0p (L':=L) results68 (RVs.cons (RV.cellS z (j:=0) z K3) (Rv z)) Li (λ_ iv=>iv.drop) ⟨z,z⟩
  refine Ks<|Sr<|Vv (V.A5r (j:=0) (by exact K3) z z) ?_
  refine To (O.stF (vs:=[.int .u8 a,qi b,.string qe,.string qe,.string qe,qi s]) K3 z z (j:=1) z z z z<|Ag z<|Nr<|Fr_ 1 z<|T.drop ?_)
  cases H
  exact T.B0p (L':=L) results68 (RVs.cons (RV.cellS z (j:=0) z K3) (Rv z)) Li (λ_ iv=>iv.drop) ⟨z,z⟩
 refine T.skip<|Bn<|Th<|Sq<|Sm z<|bE H λcz bM H=>Vv (V.A0Z z z bM)<|Wg z z<|Nt<|T.cH H z (λH=>?_) λH=>?_
 ·refine Rg<|Vv (V.fa M0 z)<|Wd 0 O7 z c.u z<|Mv z<|bE H λai aj H=>?_
  obtain ⟨da,bN,⟨db,rfl,dc⟩⟩:=G9.at d aj
  refine Vv (V.ix O1 z z d (E8 aj))<|Vv (V.fa A0i z)<|Wd 0 J3 z bN.u z<|Vv (V.fa U8 z)<|To (O.st (vs:=[.string ai.F8]) (k:=4) J3 z z (j:=0) z z z<|Nt<|Sr<|Vv (V.A5r (j:=0) (by exact K3) z z) ?_)
  refine To (O.stF (vs:=[.int .u8 a,qi b,.string qe,.string qe,.string ai.F8,qi 0]) K3 z z (j:=1) z z z z<|Ag z<|Nr<|Fr_ 1 z<|T.drop ?_)
  cases H
  exact T.B0p (L':=L) results68 (RVs.cons (RV.cellS z (j:=0) z K3) (Rv z)) Li (λ_ iv=>iv.drop) ⟨z,z⟩
 refine Ks<|Sr<|Vv (V.A5r (j:=0) (by exact K3) z z) ?_
 refine To (O.stF (vs:=[.int .u8 a,qi b,.string qe,.string qe,.string qe,qi 0]) K3 z z (j:=1) z z z z<|Ag z<|Nr<|Fr_ 1 z<|T.drop ?_)
 cases H
 exact T.B0p (L':=L) results68 (RVs.cons (RV.cellS z (j:=0) z K3) (Rv z)) Li (λ_ iv=>iv.drop) ⟨z,z⟩
theorem B5K {h aG ai W} (bj:Z0 h aG ai) (H:A9U ai=some W):∀ L,I7 prog 26 [.agg aG.toArray] h (L) (λv h' L'=>∃ v0_1 v0_3 v0_5 v0_7 v0_9,v=.agg #[v0_1,v0_3,v0_5,v0_7,v0_9]∧L'=L∧G9 I1 7 h' v0_1 W.C8∧G9 I9 9 h' v0_3 W.A7∧G9 L9 3 h' v0_5 W.N7∧G9 (VI .i64) 1 h' v0_7 W.R7∧G9 I4 6 h' v0_9 W.J9):=by
 intro L
 obtain ⟨dt,du,dw,dx,rfl,au,aq,aw,ax⟩:=bj
 refine I7.enter func26 z z z<|Sr<|To (O.T9 z z z λdy bk dA x=>To (O.alloc A6Y z z λG=>Nt<|Sr<|To (O.alloc A6Y z z λI=>Nt<|Sr<|An z<|Sq<|Sr<|An z ?_)))
 obtain ⟨bm,bn,bo⟩:=J4 H
 have H:=bn
 refine Bl<|T.rn I1 139 7 λbp=>T.fs [2,2] ?_
 refine T.lk [1,2,3] (FUEL,([]:List D7),(0:Int),(0:Int),(qs),[]) (λ⟨X,J,Y,K,d,r⟩=>([(4,qi Y),(5,qi K)],blk I (.cells [d,qs,qs,qs,qs].toArray 33)::blk G (.cells [qs,qs,qs,qs,qs].toArray 33)::F3 139 7 d r::L,λhh=>iter (A1D ai) X (J,Y,K)=some bm∧A8 I1 hh r J)) ⟨H,bp⟩ ?_
 rintro ⟨X,J,Y,K,d,r⟩ dB dC ⟨bq,ay⟩
 obtain ⟨br,dD,rfl,H,aI⟩:=G5 bq
 refine T.norm [4,5,1,2,3] z<|T.fl ?_
 refine Sq<|Sq ?_
 obtain ⟨bt,bu,bw⟩:=J4 H
 refine T.ck (α:=Bool) [1,2,3,4,5] (λaj=>([(23,.bool aj)],blk I (.cells [d,qs,qs,qs,qs].toArray 33)::blk G (.cells [qs,qs,qs,qs,qs].toArray 33)::F3 139 7 d r::L,λhh=>bt=aj)) ?_ ?_
 ·have H:=bu
  refine Rg<|Mv z<|Vv (V.fa A7x z)<|Wd 0 A8z z x.u z<|Vv (V.P7 A5c z au)<|Wl z z<|Mv z<|T.bH 20 H z (λH=>?_) λH=>?_
  ·refine Mv z<|Wl z z<|Kt z<|Nt<|T.mt (decide (K<(3:Int))) (K9 H)
  refine S2<|Kf z<|Nt<|T.mt false (K9 H)
 rintro aj bx dE bA
 have H:=H7 bA bw
 refine T.norm [23,1,2,3,4,5] z<|T.fl ?_
 refine T.cH H z (λH=>?_) λH=>?_
 ·refine Ks<|Sq<|Bl<|Sm z<|Vv (V.fa A7x z)<|Wd 0 A8z z x.u z<|Mv z<|bE H λdG aJ H=>?_
  obtain ⟨dI,bB,rfl⟩:=G9.at au aJ
  refine Vv (V.ix A5c z z au (E8 aJ))<|Vv (V.Q9 A3Q z bB.u z)<|bE H λdJ bC H=>Vv (V.A5u underlying5 underlying3 z bC)<|bE H λa bD H=>To (O.G6 z (C1y bD _) z λdK dM dN dO bG=>?_)
  obtain ⟨Z,rfl,bI,aK⟩:=bG
  refine O8 _ bI<|To (O.alloc A1O z z λdP=>To (O.stF (vs:=[.string a.F8,.int .u8 a.P8,qi a.fA,qi a.fB,Z,qi a.fX,qi a.fY]) I8 z z (j:=0) z z (by (simp only [BT,G9.one aK]) <;> rfl) z ?_))
  refine T.fl ?_
  refine T.freeze λaM dS bJ=>have aN:=Y2.of bJ; Nt<|Sr<|Vv (V.fa M0 z)<|Vv (V.ldO (k:=0) O7 z (j:=0) z z)<|An z<|Sm z<|Vv (V.ldS z aN (by exact I8)) ?_
  refine To (O.bq O1 A1O [.tmp 37] I1 [[.string a.F8,.int .u8 a.P8,qi a.fA,qi a.fB,Z,qi a.fX,qi a.fY]] [a] (hE:=(A8.cons ⟨Z,z,aK.u⟩ A8.nil)) λdU aA=>bE H λaO aP H=>To (O.ax O1 A1O 3 ay.u aA aP I1.plain λaS bK=>T.fl ?_))
  refine T.fs [1] ?_
  refine T.drop<|Vv (V.fa M0 z)<|T.Q7 0 z λbM bN=>To (O.st (vs:=[aS]) (k:=0) O7 z z (j:=1) z bN (by (simp only [BT,bM]) <;> rfl) ?_)
  refine T.fl ?_
  refine Nt<|Rg<|Mv z<|Vv (V.ldS z aN (by exact I8)) ?_
  refine bE H λdX bO H=>To (O.cs (A1B ⟨Z,z⟩ bO _) λdZ d1=>bE H λbU bV H=>Ws z z bV<|Ag z<|Ni<|Bn<|Th<|Rg<|Mv z<|bE H λbW bX H=>Ws z z bX<|An z<|T.fs [1,2,2] ?_)
  exact T.ag (br,aO,bU,bW,aS,(r++[[.string a.F8,.int .u8 a.P8,qi a.fA,qi a.fB,Z,qi a.fX,qi a.fY]])) ⟨(D8 H aI),bK.u⟩
 refine Xt<|have H:=D5 H aI; Be<|Th<|have H:=H7 H bo; Sq ?_
 obtain ⟨bY,bZ,b0⟩:=J4 H
 refine T.ck (α:=Q5×Addr×Value×Value) [1,2,3] (λ⟨A,ak,n,o⟩=>([(8,.pointer (some ak))],blk I (.cells [d,qs,qs,qs,qs].toArray 33)::blk G (.cells [qs,qs,qs,qs,qs].toArray 33)::F3 139 7 d r::L,λhh=>bY=A∧Y2 hh ak [n,o]∧G9 I9 9 hh n A.A7∧G9 L9 3 hh o A.N7)) ?_ ?_
 ·have H:=bZ
  refine T.dw (.vs [0,1,2,3,4,5,6,7,8,9] (.alt 10 (.alt 11 (.alt 12 .done .no) .no) (.alt 11 (.alt 10 (.alt 12 .done .no) .no) .no))) 14 0 0 ?_
  refine Tv z (V.fa A7v z)<|Td z 1 B1H z x.u z<|Tv z (V.fa A7v z)<|Td z 1 B1H z x.u z<|Tv z (V.P7 A9P z aq)<|Tm z z<|Tv z (V.min2 z z)<|bE H λb2 aU H=>T.D3Y z z A9P z aq.u (.inl ⟨z,z⟩) (.inr ⟨_,_,z,z⟩) (A3O aU).2 z Calm.i λb3 b4 d2=>?_
  have aV:G9 (VI .u16) 1 bx b3 b2:=by rw [(A3O aU).1]; exact b4
  refine Tv z (V.fa C0n z)<|Td z 2 A8z z x.u z<|T.C3n ?_ ?_
  ·refine bE H λb5 b6 H=>Tp z z (X2 z z) (O.G6 z (B5B aV aw.u b6 _) z λd3 d4 d5 d6 b7=>?_) T.O4
   obtain ⟨aW,aX,rfl,b8,aY,aZ⟩:=b7
   refine O8 _ b8<|Tp z z (SX.two (XA.fr [] Li z) (XA.fr [] Li z)) (O.alloc B4z z z λb9=>?_) T.O4
   refine Tp z z (SX.two (XA.fr [] Li z) (XA.fr [] Li z)) (O.stF (vs:=[aW,aX]) A6d z z (j:=0) z z (by (simp only [BT,G9.one aY,G9.one aZ]) <;> rfl) z ?_) T.O4
   refine T.fl ?_
   refine T.freeze λd7 d8 bh=>have bl:=Y2.of bh; T.M9 (SX.two (XA.fr [] Li z) (XA.fr [] Li z))<|Th<|T.mt (b5,⟨b9,0,none⟩,aW,aX) ⟨(K9 H),bl,aY.u,aZ.u⟩
  refine Tp z z (X2 z z) (O.alloc B4z z z λbv=>?_) T.O4
  refine bE H λbz ca H=>Tp z z (X2 z z) (O.G6 z (B5B aV aw.u ca _) z λd9 dh dl dv cb=>?_) T.O4
  obtain ⟨a0,a1,rfl,cc,a2,a3⟩:=cb
  refine O8 _ cc<|Tp z z (SX.two (XA.fr [] Li z) (XA.fr [] Li z)) (O.stF (vs:=[a0,a1]) A6d z z (j:=0) z z (by (simp only [BT,G9.one a2,G9.one a3]) <;> rfl) z ?_) T.O4
  refine T.fl ?_
  refine T.freeze λdz ea cd=>have ce:=Y2.of cd; T.M9 (SX.two (XA.fr [] Li z) (XA.fr [] Li z))<|Th<|T.mt (bz,⟨bv,0,none⟩,a0,a1) ⟨(K9 H),ce,a2.u,a3.u⟩
 rintro ⟨A,ak,n,o⟩ a4 eb ⟨cf,a5,M,aa⟩
 have H:=H7 cf b0
 refine T.norm [8,1,2,3] z<|T.fl ?_
 refine Sq<|T.dw (.vs [0,1,2,3,4] (.alt 5 (.g (.v 6 (.alt 7 .done .no))) .no)) 5 1 0 ?_
 refine Tv z (V.fa A3d z)<|Td z 0 M8 z a5 z<|Tv z (V.fa A8y z)<|Td z 1 A1R z a5 z<|Tv z (V.fa Q3 z)<|Tp z z (X3 [] [0] z z) (O.st (vs:=[n]) (k:=1) M8 z z (j:=0) z (G9.cells M) (by (simp only [BT,G9.one M]) <;> rfl) ?_) T.O4
 refine T.fl ?_
 refine T.N8 Lr<|Tv z (V.fa A9C z)<|Tp z z (SX.one (XA.fr [] Lr z) z) (O.st (vs:=[o]) (k:=2) A1R z z (j:=0) z (G9.cells aa) (by (simp only [BT,G9.one aa]) <;> rfl) ?_) T.O4
 refine T.fl ?_
 refine T.M9 (SX.one (XA.fr [] Lr z) z)<|Th<|Sq<|Sr<|Vv (V.fa C0n z)<|Wd 2 A8z z x.u z<|Vv (V.P7 A5c z aw)<|bE H λec cg H=>Vv (V.A0Z z z cg)<|Wg z z<|Nt ?_
 obtain ⟨ci,cj,ck⟩:=J4 H
 refine T.ck (α:=(List Int)×Value×(List (List Value))) [1,2,3] (λ⟨ab,ac,am⟩=>([],blk I (.cells [d,n,o,ac,qs].toArray 33)::blk G (.cells [qs,qs,qs,qs,qs].toArray 33)::F3 139 7 d r::F3 3 1 ac am::L,λhh=>ci=ab∧A8 (VI .i64) hh am ab)) ?_ ?_
 ·have H:=cj
  refine T.cH H z (λH=>?_) λH=>?_
  ·refine Sr<|An z<|T.A0G ?_
   obtain ⟨cm,cn,co⟩:=J4 H
   have H:=cn
   refine Bl<|T.rn (VI .i64) 3 1 λcp=>T.fs [3,3,3] ?_
   refine T.lk [1,2,3] (FUEL,([]:List Int),(0:Int),(qs),[]) (λ⟨ad,N,ae,P,y⟩=>([(9,qi ae)],blk I (.cells [d,n,o,P,qs].toArray 33)::blk G (.cells [qs,qs,qs,qs,qs].toArray 33)::F3 139 7 d r::F3 3 1 P y::L,λhh=>iter (A5i ai A) ad (N,ae)=some cm∧A8 (VI .i64) hh y N)) ⟨H,cp⟩ ?_
   rintro ⟨ad,N,ae,P,y⟩ cq ed ⟨cr,aB⟩
   obtain ⟨cs,ee,rfl,H,a6⟩:=G5 cr
   refine T.norm [9,1,2,3] z<|T.fl ?_
   refine Sq<|Sm z<|Vv (V.fa Q3 z)<|Vv (V.ldO (k:=1) M8 z (j:=0) z z)<|Vv (V.P7 O3 z M)<|Wl z z<|Nt<|T.cH H z (λH=>?_) λH=>?_
   ·refine Ks<|Sq<|Bl<|Sr<|Vv (V.fa A5O z)<|Vv (V.ldO (k:=3) D9 z (j:=0) z z)<|An z<|Rg<|Mv z<|Vv (V.fa A7v z)<|Wd 1 B1H z x.u z<|Mv z<|bE H λef a7 H=>?_
    obtain ⟨eg,ct,rfl⟩:=G9.at aq a7
    refine Vv (V.ix A9P z z aq (E8 a7))<|Vv (V.Q9 C2Y z ct.u z)<|bE H λei cu H=>Vv (V.A5u underlying143 underlying3 z cu)<|bE H λej cw H=>Vv (V.B4j z z cw)<|bE H λa8 cx H=>Vv (V.A0Z z z cx)<|To (O.b1 (E:=VI .i64) A9 J6 z z z z z λek aC=>bE H λa9 ah H=>To (O.ax A9 J6 4 aB aC ah VI.plain λal cy=>T.fl ?_))
    refine T.fs [1] ?_
    refine T.drop<|Vv (V.fa A5O z)<|T.Q7 0 z λcA cB=>To (O.st (vs:=[al]) (k:=3) D9 z z (j:=1) z cB (by (simp only [BT,cA]) <;> rfl) ?_)
    refine T.fl ?_
    refine Ni<|Bn<|Th<|Rg<|Mv z<|bE H λcC cD H=>Ws z z cD<|An z<|T.fs [1,3,3,3] ?_
    exact T.ag (cs,a9,cC,al,(y++[[qi a8]])) ⟨(D8 H a6),cy⟩
   refine Xt<|have H:=D5 H a6; Be<|Th<|have H:=H7 H co; Th<|T.mt (N,P,y) ⟨(K9 H),aB⟩
  refine Ks<|T.rn (VI .i64) 3 1 λcE=>T.fs [3,3,3] ?_
  exact T.mt (([]:List Int),(qs),[]) ⟨(K9 H),cE⟩
 rintro ⟨ab,ac,am⟩ eo ep ⟨cG,cI⟩
 have H:=H7 cG ck
 refine T.norm [1,2,3] z<|T.fl ?_
 refine Sq<|Sr<|An z ?_
 obtain ⟨cJ,cK,cM⟩:=J4 H
 have H:=cK
 refine Bl<|T.fs [2] ?_
 refine T.J8 λer es cN=>have cO:=A8.slc cN ay.u; T.fs [2] ?_
 refine T.J8 λcP et cS=>have cU:=A8.slc cS cI.u; T.rn I4 43 6 λcV=>T.fs [2,2] ?_
 refine T.lk [1,2,3] (FUEL,J,ab,([]:List F7),(0:Int),d,ac,(qs),[]) (λ⟨af,s,w,B,S,f,m,p,q⟩=>([(11,qi S)],blk I (.cells [f,n,o,m,p].toArray 33)::blk G (.cells [qs,qs,qs,qs,qs].toArray 33)::F3 43 6 p q::L,λhh=>iter (A4Y ai A) af (s,w,B,S)=some cJ∧G9 I1 7 hh f s∧G9 (VI .i64) 1 hh m w∧A8 I4 hh q B)) ⟨H,cO.u,cU,cV⟩ ?_
 rintro ⟨af,s,w,B,S,f,m,p,q⟩ eu ew ⟨cW,C,D,U⟩
 obtain ⟨ar,ex,rfl,H,an⟩:=G5 cW
 refine T.norm [11,1,2,3] z<|T.fl ?_
 refine Sq<|Sq ?_
 obtain ⟨cX,cY,cZ⟩:=J4 H
 refine T.ck (α:=Bool) [1,2,3,11] (λao=>([(96,.bool ao)],blk I (.cells [f,n,o,m,p].toArray 33)::blk G (.cells [qs,qs,qs,qs,qs].toArray 33)::F3 43 6 p q::L,λhh=>cX=ao)) ?_ ?_
 ·have H:=cY
  refine Rg<|Mv z<|Vv (V.fa B9Y z)<|Wd 3 C4V z x.u z<|Vv (V.P7 C4E z ax)<|Wl z z<|Mv z<|T.bH 93 H z (λH=>?_) λH=>?_
  ·refine Mv z<|Wl z z<|Kt z<|Nt<|T.mt (decide (S<(12:Int))) (K9 H)
  refine S2<|Kf z<|Nt<|T.mt false (K9 H)
 rintro ao ey eA c0
 have H:=H7 c0 cZ
 refine T.norm [96,1,2,3,11] z<|T.fl ?_
 refine T.cH H z (λH=>?_) λH=>?_
 ·refine Ks<|Sq<|Bl<|Sq<|T.dw (.vs [0,1,2,3,4,5,6] (.alt 7 (.g (.vs [8,9,10] (.alt 11 (.alt 12 (.alt 13 .done .no) .no) .no))) (.alt 11 (.alt 7 (.g (.vs [8,9,10] (.alt 12 (.alt 13 .done .no) .no))) .no) .no))) 15 1 1 ?_
  refine Tv z (Val.XA λ_ _ _=>V.A5r (j:=0) (by exact J7) z z) ?_
  refine Tv z (V.fa B9Y z)<|Td z 3 C4V z x.u z<|Tm z z<|bE H λeB av H=>?_
  obtain ⟨eC,c1,rfl⟩:=G9.at ax av
  refine Tv z (V.ix C4E z z ax (E8 av))<|Tv z (V.Q9 C8s z c1.u z)<|bE H λeD c2 H=>Tv z (V.A5u underlying146 underlying3 z c2)<|T.C3n ?_ ?_
  ·refine bE H λ⟨b,eE⟩ c3 H=>Tp z z (X3 [0] [0] z z) (O.G6 z (B3u ⟨f,n,o,m,p,z,C.u,M.u,aa.u,D.u⟩ c3 _) z λeG eI eJ eK c4=>?_) T.O4
   obtain ⟨rfl,c5⟩:=c4
   refine O8 _ c5<|T.N8 Li<|Tm z z<|Tv z (V.ext z z)<|Tv z (V.ext z z)<|Tp z z (X3 [0] [0] z z) (O.alloc A2H z z λeM=>?_) T.O4
   refine Tp z z (X3 [1] [1] z z) (O.stF (vs:=[.int .u8 b.F9,qi b.K6,.string b.fA,.string b.fB,.string b.I5,qi b.fN]) K3 z z (j:=0) z z z z ?_) T.O4
   refine T.fl ?_
   refine T.freeze λaz eN c6=>have c7:=Y2.of c6; Ts z z (SX.two (XA.fr [0] Li z) (XA.fr [0] Li z)) (V.asg z) z ?_ T.O4
   refine T.M9 (SX.two (XA.fr [0] Li z) (XA.fr [0] Li z))<|Th<|Sm z<|Nt<|T.cH H z (λH=>?_) λH=>?_
   ·refine Sr<|Vv (V.fa A2v z)<|Vv (V.ldO (k:=4) A1h z (j:=0) z z)<|An z<|Rg<|Mv z<|Vv (V.ldS z c7 (by exact K3)) ?_
    refine To (O.bq A0f A2H [.tmp 114] I4 [[.int .u8 b.F9,qi b.K6,.string b.fA,.string b.fB,.string b.I5,qi b.fN]] [b] λeO aD=>bE H λba bb H=>To (O.ax A0f A2H 3 U.u aD bb I4.plain λbc c8=>T.fl ?_))
    refine T.fs [1] ?_
    refine T.drop<|Vv (V.fa A2v z)<|T.Q7 0 z λc9 ch=>To (O.st (vs:=[bc]) (k:=4) A1h z z (j:=1) z ch (by (simp only [BT,c9]) <;> rfl) ?_)
    refine T.fl ?_
    refine Ni<|Bn<|Th<|Rg<|Mv z<|bE H λcl cv H=>Ws z z cv<|An z<|T.fs [1,2,2] ?_
    exact T.ag (ar,s,w,ba,cl,f,m,bc,(q++[[.int .u8 b.F9,qi b.K6,.string b.fA,.string b.fB,.string b.I5,qi b.fN]])) ⟨(D8 H an),C.u,D.u,c8⟩
   refine T.skip<|Bn<|Th<|Rg<|Mv z<|bE H λcz da H=>Ws z z da<|An z<|T.ag (ar,s,w,B,cz,f,m,p,q) ⟨(D8 H an),C.u,D.u,U.u⟩
  refine Tp z z (X3 [0] [0] z z) (O.alloc A2H z z λeU=>?_) T.O4
  refine bE H λ⟨c,eV⟩ db H=>Tp z z (X3 [1] [1] z z) (O.G6 z (B3u ⟨f,n,o,m,p,z,C.u,M.u,aa.u,D.u⟩ db _) z λeW eX eY eZ dc=>?_) T.O4
  obtain ⟨rfl,dd⟩:=dc
  refine O8 _ dd<|T.N8 Li<|Tm z z<|Tv z (V.ext z z)<|Tv z (V.ext z z)<|Tp z z (X3 [1] [1] z z) (O.stF (vs:=[.int .u8 c.F9,qi c.K6,.string c.fA,.string c.fB,.string c.I5,qi c.fN]) K3 z z (j:=0) z z z z ?_) T.O4
  refine T.fl ?_
  refine T.freeze λbd e0 de=>have df:=Y2.of de; Ts z z (SX.two (XA.fr [0] Li z) (XA.fr [0] Li z)) (V.asg z) z ?_ T.O4
  refine T.M9 (SX.two (XA.fr [0] Li z) (XA.fr [0] Li z))<|Th<|Sm z<|Nt<|T.cH H z (λH=>?_) λH=>?_
  ·refine Sr<|Vv (V.fa A2v z)<|Vv (V.ldO (k:=4) A1h z (j:=0) z z)<|An z<|Rg<|Mv z<|Vv (V.ldS z df (by exact K3)) ?_
   refine To (O.bq A0f A2H [.tmp 114] I4 [[.int .u8 c.F9,qi c.K6,.string c.fA,.string c.fB,.string c.I5,qi c.fN]] [c] λe1 aE=>bE H λbe bf H=>To (O.ax A0f A2H 3 U.u aE bf I4.plain λbg dg=>T.fl ?_))
   refine T.fs [1] ?_
   refine T.drop<|Vv (V.fa A2v z)<|T.Q7 0 z λdi dj=>To (O.st (vs:=[bg]) (k:=4) A1h z z (j:=1) z dj (by (simp only [BT,di]) <;> rfl) ?_)
   refine T.fl ?_
   refine Ni<|Bn<|Th<|Rg<|Mv z<|bE H λdk dm H=>Ws z z dm<|An z<|T.fs [1,2,2] ?_
   exact T.ag (ar,s,w,be,dk,f,m,bg,(q++[[.int .u8 c.F9,qi c.K6,.string c.fA,.string c.fB,.string c.I5,qi c.fN]])) ⟨(D8 H an),C.u,D.u,dg⟩
  refine T.skip<|Bn<|Th<|Rg<|Mv z<|bE H λdn dp H=>Ws z z dp<|An z<|T.ag (ar,s,w,B,dn,f,m,p,q) ⟨(D8 H an),C.u,D.u,U.u⟩
 refine Xt<|have H:=D5 H an; Be<|Th<|have H:=H7 H cM; Sr<|Vv (V.A5r (j:=0) (by exact J7) z z) ?_
 refine T.fs [2] ?_
 refine T.J8 λe4 e5 dq=>have bi:=A8.slc dq U.u; To (O.stF (vs:=[f,n,o,m,p]) J7 z z (j:=1) z z (by (simp only [BT,G9.one C,G9.one M,G9.one aa,G9.one D,G9.one bi]) <;> rfl) z ?_)
 refine T.freeze λe6 e7 dr=>have ds:=Y2.of dr; Nr<|T.drop ?_
 cases H
 exact T.rl z (RVs.cons (RV.B2Y z ds J7) RVs.nil) ⟨_,_,_,_,_,z,z,C.u,M.u,aa.u,D.u,bi.u⟩
theorem B8i {h n g o} (r:M7 h n g) (H:A8c g=some o):∀ L,FnW prog 25 [.agg n.toArray] h L (.int .i64 o):=by
 intro L
 obtain ⟨ab,ac,ad,ae,af,rfl,i,ai,aj,ak,am⟩:=r
 refine I7.enter func25 z z z<|Sr<|To (O.T9 z z z λan ao ap p=>An z<|Sr<|An z<|Sq<|Sr<|An z ?_)
 obtain ⟨s,t,w⟩:=J4 H
 have H:=t
 refine Bl<|T.lk [1] (FUEL,(0:Int),(0:Int)) (λ⟨a,b,c⟩=>([(3,qi b),(4,qi c)],L,λhh=>iter (A2U g) a (b,c)=some s)) H ?_
 rintro ⟨a,b,c⟩ aq ar x
 obtain ⟨m,au,rfl,H,f⟩:=G5 x
 refine T.norm [3,4,1] z<|T.fl ?_
 refine Sq<|Sm z<|Vv (V.fa M0 z)<|Wd 0 O7 z p.u z<|Vv (V.P7 O1 z i)<|Wl z z<|Nt<|T.cH H z (λH=>?_) λH=>?_
 ·refine Ks<|Sq<|Bl<|Sr<|Vv (V.fa M0 z)<|Wd 0 O7 z p.u z<|Mv z<|bE H λd q H=>?_
  obtain ⟨aw,y,⟨A,rfl,B⟩⟩:=G9.at i q
  refine Vv (V.ix O1 z z i (E8 q))<|Vv (V.ldS z y.u (by exact I8)) ?_
  refine To (O.alloc A1O z z λax=>To (O.stF (vs:=[.string d.F8,.int .u8 d.P8,qi d.fA,qi d.fB,A,qi d.fX,qi d.fY]) I8 z z (j:=0) z z (by (simp only [BT,G9.one B]) <;> rfl) z ?_))
  refine T.freeze λay aA C=>have e:=Y2.of C; Nt<|Sr<|Vv (V.fa A3c z)<|Wd 1 A6h z e z<|Nt<|Bl<|Sr<|We z z<|An z<|T.cH H z (λH=>?_) λH=>?_
  ·refine Rg<|Mv z<|Vv (V.fa X6 z)<|Wd 2 D6 z e z<|bE H λaB D H=>Vv (V.A9y z z D)<|Vv (V.fa A0H z)<|Wd 3 D6 z e z<|bE H λaC E H=>Ws z z E<|bE H λG I H=>Ws z z I<|Ag z<|Ni<|Bn<|Bn<|Th<|Rg<|Mv z<|bE H λJ K H=>Ws z z K<|An z<|T.ag (m,G,J) (D8 H f)
  refine Sr<|We z z<|An z<|T.cH H z (λH=>?_) λH=>?_
  ·refine Rg<|Mv z<|Vv (V.fa X6 z)<|Wd 2 D6 z e z<|Vv (V.fa A0H z)<|Wd 3 D6 z e z<|bE H λaD M H=>Vv (V.A9y z z M)<|bE H λaE N H=>Ws z z N<|bE H λP S H=>Ws z z S<|Ag z<|Ni<|Bn<|Bn<|Th<|Rg<|Mv z<|bE H λU W H=>Ws z z W<|An z<|T.ag (m,P,U) (D8 H f)
  refine Rg<|Mv z<|Vv (V.fa X6 z)<|Wd 2 D6 z e z<|bE H λX Y H=>Ws z z Y<|Ag z<|Ni<|Bn<|Bn<|Th<|Rg<|Mv z<|bE H λZ aa H=>Ws z z aa<|An z<|T.ag (m,X,Z) (D8 H f)
 exact Xt<|have H:=D5 H f; Be<|Th<|have H:=H7 H w; Sm z<|Ag z<|Nr<|E1 H
theorem C0O {h s f c} (Y:Z0 h s f) (H:B0W f=some c):∀ L,I7 prog 6 [.agg s.toArray] h (L) (λv h' L'=>∃ v0_1 v0_3 v0_5 v0_7 v0_9,v=.agg #[v0_1,v0_3,v0_5,v0_7,v0_9]∧L'=L∧G9 I1 7 h' v0_1 c.C8∧G9 I9 9 h' v0_3 c.A7∧G9 L9 3 h' v0_5 c.N7∧G9 (VI .i64) 1 h' v0_7 c.R7∧G9 I4 6 h' v0_9 c.J9):=by
 intro L
 obtain ⟨a0,t,m,n,rfl,w,x,Z,aa⟩:=Y
 refine I7.enter func6 z z z<|Sr<|To (O.box z z z λy=>To (O.alloc A6Y z z λA=>Nt<|Sr<|Vv (V.fa A7x z)<|Vv (V.ldO (k:=0) A8z z (j:=1) z z)<|Vv (V.fa A7x z)<|Vv (V.ldO (k:=0) A8z z (j:=1) z z)<|Vv (V.P7 A5c z w)<|Vv (V.min2 z z)<|bE H λq B H=>T.slM z A5c z w (.inl ⟨z,z⟩) (.inr ⟨_,_,z,z⟩) (A3O B).2 z λb ab a1=>?_))
 have g:G9 (VI .u8) 1 h b q:=by rw [(A3O B).1]; exact ab
 refine Vv (V.fa A7x z)<|To (O.st (vs:=[b]) (k:=0) A8z z z (j:=1) z (G9.cells g) (by (simp only [BT,G9.one g]) <;> rfl) ?_)
 refine Nt<|Sr<|Vv (V.fa A7x z)<|Vv (V.ldO (k:=0) A8z z (j:=0) z z)<|Vv (V.bld (xs:=[(0,.tmp 15)]) (cs:=[_,_,_,_]) C9b D0s z (F6.cons z (G9.cells g) z F6.nil))<|bE H λac ad H=>To (O.G6 z (B5K (show Z0 h [b,qs,qs,qs] (R6.mk q ([]:List Int) ([]:List Int) ([]:List Int)) from ⟨b,(qs),(qs),(qs),z,g,G9.nil,G9.nil,G9.nil⟩) ad _) z λa2 ae a3 a4 af=>?_)
 obtain ⟨C,D,E,G,I,rfl,ai,aj,ak,am,an,ao⟩:=af
 refine O8 _ ai<|bE H λap aq H=>To (O.cs (B8i (show M7 ae [C,D,E,G,I] ac from ⟨C,D,E,G,I,z,aj,ak,am,an,ao⟩) aq _) λa6 a8=>An z<|Sg z<|An z<|Sq ?_)
 obtain ⟨J,aw,ax⟩:=J4 H
 refine T.ck (α:=Int) [1,2] (λi=>([(5,qi i)],blk y (.cells [b,t,m,n].toArray 26)::blk A (.cells [qs,qs,qs,qs,qs].toArray 33)::L,λhh=>J=i)) ?_ ?_
 ·have H:=aw
  refine Bl<|T.lk [1,2,3] (FUEL,(1:Int),(0:Int)) (λ⟨d,e,a⟩=>([(4,qi e),(5,qi a)],blk y (.cells [b,t,m,n].toArray 26)::blk A (.cells [qs,qs,qs,qs,qs].toArray 33)::L,λhh=>iter (A6K f ap) d (e,a)=some J)) H ?_
  rintro ⟨d,e,a⟩ a9 ah ay
  obtain ⟨aA,al,rfl,H,o⟩:=G5 ay
  refine T.norm [4,5,1,2,3] z<|T.fl ?_
  refine Sq<|Sm z<|Vv (V.fa A7v z)<|Vv (V.ldO (k:=1) B1H z (j:=0) z z)<|Vv (V.P7 A9P z x)<|Wl z z<|Mv z<|T.bH 24 H z (λH=>?_) λH=>?_
  ·refine Mv z<|Mv z<|Wl z z<|Kt z<|Mv z<|T.bH 29 H z (λH=>?_) λH=>?_
   ·refine Mv z<|Mv z<|Mv z<|bE H λav aB H=>Vv (V.X9 z z aB)<|bE H λaz aC H=>Vv (V.A9y z z aC)<|Vv (V.le z z)<|Kt z<|Nt<|T.cH H z (λH=>?_) λH=>?_
    ·refine Ks<|Bl<|Sm z<|Mv z<|Mv z<|bE H λba aD H=>Vv (V.X9 z z aD)<|bE H λaE aG H=>Vv (V.A9y z z aG)<|An z<|Rg<|Mv z<|bE H λaI aJ H=>Ws z z aJ<|Ag z<|Ni<|Bn<|Th<|T.ag (aA,aE,aI) (D8 H o)
    refine Xt<|have H:=D5 H o; Be<|Th<|T.mt a H
   refine S2<|S2<|S2<|Kf z<|Nt<|Cf z<|Xt<|have H:=D5 H o; Be<|Th<|T.mt a H
  refine S2<|Sk<|Kf z<|Mv z<|S2<|S2<|S2<|Kf z<|Nt<|Cf z<|Xt<|have H:=D5 H o; Be<|Th<|T.mt a H
 rintro i K bb aK
 have H:=H7 aK ax
 refine T.norm [5,1,2] z<|T.fl ?_
 refine Sr<|Vv (V.fa A7v z)<|Vv (V.ldO (k:=1) B1H z (j:=0) z z)<|Mv z<|bE H λM N H=>T.slM z A9P z x.u (.inl ⟨z,z⟩) (.inr ⟨_,_,z,z⟩) (A3O N).2 z λp aM bc=>?_
 have r:G9 (VI .u16) 1 K p M:=by rw [(A3O N).1]; exact aM
 refine Vv (V.fa A7v z)<|To (O.st (vs:=[p]) (k:=1) B1H z z (j:=0) z (G9.cells r) (by (simp only [BT,G9.one r]) <;> rfl) ?_)
 refine Nt<|Sr<|Vv (V.A5r (j:=0) (by exact C5w) z z) ?_
 refine bE H λbd aN H=>To (O.G6 z (B5K (show Z0 K [b,p,m,n] (R6.mk q M f.N7 f.J9) from ⟨b,p,m,n,z,g.u,r,Z.u,aa.u⟩) aN _) z λbe bf bg bi aO=>?_)
 obtain ⟨aP,aS,aU,aV,aW,rfl,aX,P,S,U,W,X⟩:=aO
 refine O8 _ aX<|To (O.stF (vs:=[aP,aS,aU,aV,aW]) J7 z z (j:=1) z z (by (simp only [BT,G9.one P,G9.one S,G9.one U,G9.one W,G9.one X]) <;> rfl) z ?_)
 refine T.freeze λbj bk aY=>have aZ:=Y2.of aY; Nr<|T.drop ?_
 cases H
 exact T.rl z (RVs.cons (RV.B2Y z aZ J7) RVs.nil) ⟨_,_,_,_,_,z,z,P.u,S.u,U.u,W.u,X.u⟩
theorem A9L {h b d a} (c:G9 I4 6 h b d) (H:B0T d=some a):∀ L,I7 prog 31 [b] h (L) (λv h' L'=>∃ v0_1 v0_3 v0_5 v0_7 v0_9,v=.agg #[v0_1,v0_3,v0_5,v0_7,v0_9]∧L'=L∧G9 I1 7 h' v0_1 a.C8∧G9 I9 9 h' v0_3 a.A7∧G9 L9 3 h' v0_5 a.N7∧G9 (VI .i64) 1 h' v0_7 a.R7∧G9 I4 6 h' v0_9 a.J9):=by
 intro L
 refine I7.enter func31 z z z<|Sr<|To (O.alloc A6Y z z λw=>Nt<|Sr<|Vv (V.bld (xs:=[(0,.const (.string ⟨#[114]⟩)),(1,.const (.int .u8 (1))),(2,.const (qi (4)))]) (cs:=[_,_,_,_,_,_,_]) B8r B8t z (F6.cons z z z (F6.cons z z z (F6.cons z z z F6.nil))))<|To (O.bq O1 A1O [.tmp 3] I1 [[.string (⟨#[114]⟩:ByteArray),.int .u8 1,qi 4,qi 0,qs,qi 0,qi 0]] [(D7.mk (⟨#[114]⟩:ByteArray) (1:Int) (4:Int) (0:Int) ([]:List Int) (0:Int) (0:Int))] (hE:=(A8.cons ⟨(qs),z,G9.nil⟩ A8.nil)) λi k=>Vv (V.bld (xs:=[(0,.const (.string ⟨#[97,110,110,97]⟩))]) (cs:=[_,_,_,_,_,_,_,_,_]) A9x A9r z (F6.cons z z z F6.nil))<|Vv (V.bld (xs:=[(0,.const (.string ⟨#[98,111,114,105,115]⟩))]) (cs:=[_,_,_,_,_,_,_,_,_]) A9x A9r z (F6.cons z z z F6.nil))<|Vv (V.bld (xs:=[(0,.const (.string ⟨#[99,97,114,108]⟩))]) (cs:=[_,_,_,_,_,_,_,_,_]) A9x A9r z (F6.cons z z z F6.nil))<|To (O.bq O3 A1I [.tmp 5,.tmp 6,.tmp 7] I9 [[.string (⟨#[97,110,110,97]⟩:ByteArray),.string qe,.string qe,qi 0,qi 0,.string qe,.bool false,.bool false,qs],[.string (⟨#[98,111,114,105,115]⟩:ByteArray),.string qe,.string qe,qi 0,qi 0,.string qe,.bool false,.bool false,qs],[.string (⟨#[99,97,114,108]⟩:ByteArray),.string qe,.string qe,qi 0,qi 0,.string qe,.bool false,.bool false,qs]] [(E9.mk (⟨#[97,110,110,97]⟩:ByteArray) qe qe (0:Int) (0:Int) qe false false ([]:List ByteArray)),(E9.mk (⟨#[98,111,114,105,115]⟩:ByteArray) qe qe (0:Int) (0:Int) qe false false ([]:List ByteArray)),(E9.mk (⟨#[99,97,114,108]⟩:ByteArray) qe qe (0:Int) (0:Int) qe false false ([]:List ByteArray))] (hE:=(A8.cons ⟨(qs),z,G9.nil⟩ (A8.cons ⟨(qs),z,G9.nil⟩ (A8.cons ⟨(qs),z,G9.nil⟩ A8.nil)))) λm n=>Mv z<|T.Q7 0 z λx o=>T.Q7 1 z λy p=>Vv (V.bld (xs:=[(0,.tmp 4),(1,.tmp 8),(4,.tmp 9)]) (cs:=[_,_,_,_,_]) C4N C5O z (F6.cons z p z (F6.cons z o z (F6.cons z (G9.cells c) z F6.nil))))<|T.fs [1] ?_)))
 refine T.J8 λA B q=>have f:=A8.slc q k.u; T.J8 λC D r=>have g:=A8.slc r n.u; To (O.stF (vs:=[(.slice (some ⟨i,0,none⟩) 1 1),(.slice (some ⟨m,0,none⟩) 3 3),qs,qs,b]) J7 z z (j:=0) z z (by (simp only [BT,G9.one f,G9.one g,G9.one c]) <;> rfl) z ?_)
 refine T.freeze λE G s=>have t:=Y2.of s; Nr ?_
 cases H
 exact T.rl z (RVs.cons (RV.B2Y z t J7) RVs.nil) ⟨_,_,_,_,_,z,z,f.u,g.u,G9.nil,G9.nil,c.u⟩
end Go.Proofs.X
open Go Go.Proofs Go.Proofs.Tryz Go.Sl Go.Dm
namespace Go.Proofs.X
theorem B0d:A5A prog 202=some ([.string ⟨#[]⟩,.nilFunc,.nilFunc,.nilFunc,.nilFunc,.nilFunc],[(0,1),(1,1),(2,1),(3,1),(4,1),(5,1)]):=by kernel_rfl
theorem A9I:A0B prog 202=true:=by kernel_rfl
theorem A3g:A0T prog 259=some (135,1,8):=by kernel_rfl
theorem B7v:O5 prog 139 5=some 5:=by kernel_rfl
theorem B6M:O5 prog 139 6=some 6:=by kernel_rfl
theorem C3N:O5 prog 202 1=some 1:=by kernel_rfl
theorem C4r:O5 prog 202 2=some 2:=by kernel_rfl
theorem C4f:O5 prog 202 3=some 3:=by kernel_rfl
theorem C3F:O5 prog 202 4=some 4:=by kernel_rfl
theorem B6e:U1 prog 111=some (false,1):=by kernel_rfl
theorem A5R:U1 prog 135=some (false,1):=by kernel_rfl
theorem C0d:U1 prog 199=some (false,1):=by kernel_rfl
theorem A0w:U1 prog 202=some (true,6):=by kernel_rfl
theorem C3h:U1 prog 39=some (false,1):=by kernel_rfl
theorem C6B:zer prog 111=some (.nilFunc):=by kernel_rfl
theorem A3f:zer prog 135=some (.nilFunc):=by kernel_rfl
theorem A7B:zer prog 202=some (.agg #[.string ⟨#[]⟩,.nilFunc,.nilFunc,.nilFunc,.nilFunc,.nilFunc]):=by kernel_rfl
theorem C3w {h d f} (H:B4G d=some f):∀ L,FnW prog 214 [.string d] h L (.bool f):=by
 intro L
 refine I7.enter func214 z z z<|Sr<|An z<|Sq<|Sr<|An z ?_
 obtain ⟨g,i,e⟩:=J4 H
 have H:=i
 refine Bl<|T.lk [0] (FUEL,(0:Int)) (λ⟨a,b⟩=>([(3,qi b)],L,λhh=>iter (A4E d) a b=some g)) H ?_
 rintro ⟨a,b⟩ q r j
 obtain ⟨k,s,rfl,H,c⟩:=G5 j
 refine T.norm [3,0] z<|T.fl ?_
 refine Sq<|Sm z<|Mv z<|Vv (V.B2w underlying9 z)<|Wl z z<|Nt<|T.cH H z (λH=>?_) λH=>?_
 ·refine Ks<|Sq<|Bl<|Sm z<|Mv z<|bE H λt m H=>Vv (V.C5P underlying9 z z m)<|Wl z z<|Mv z<|T.bH 14 H z (λH=>?_) λH=>?_
  ·exact S2<|S2<|Kt z<|Nt<|Ct z<|Sg z<|Nr<|Br<|Tr<|Tr<|have H:=D5 H c; Br<|Tr<|have H:=H7 H e; E1 H
  refine Mv z<|Mv z<|bE H λu n H=>Vv (V.C5P underlying9 z z n)<|Wg z z<|Kf z<|Nt<|T.cH H z (λH=>?_) λH=>?_
  ·exact Sg z<|Nr<|Br<|Tr<|Tr<|have H:=D5 H c; Br<|Tr<|have H:=H7 H e; E1 H
  refine T.skip<|Bn<|Th<|Rg<|Mv z<|bE H λo p H=>Ws z z p<|An z<|T.ag (k,o) (D8 H c)
 refine Xt<|have H:=D5 H c; Be<|Th<|have H:=H7 H e; Sm z<|Vv (V.B2w underlying9 z)<|Vv (V.ge z z)<|Mv z<|T.bH 23 H z (λH=>?_) λH=>?_
 ·exact Mv z<|Vv (V.B2w underlying9 z)<|Vv (V.le z z)<|Kt z<|Ag z<|Nr<|E1 H
 exact S2<|Sk<|Kf z<|Ag z<|Nr<|E1 H
theorem B3k {h a b c} (H:B1t a b=some c):∀ L,FnW prog 219 [.int .i64 a,.int .i64 b] h L (.int .i64 c):=by
 intro L
 exact I7.enter func219 z z z<|Sr<|An z<|Sm z<|Mv z<|Vv (V.min2 z z)<|bE H λe d H=>Ws z z d<|Ag z<|Nr<|E1 H
theorem B6v {h a b c} (H:A3t a b=some c):∀ L,FnW prog 171 [.int .i64 a,.int .i64 b] h L (.int .i64 c):=by
 intro L
 refine I7.enter func171 z z z<|Sr<|An z<|Sq<|Sm z<|Wl z z<|Mv z<|T.bH 7 H z (λH=>?_) λH=>?_
 ·exact S2<|Kt z<|Mv z<|S2<|Kt z<|Nt<|Ct z<|Sg z<|Nr<|Tr<|E1 H
 refine Mv z<|Wg z z<|Kf z<|Mv z<|T.bH 11 H z (λH=>?_) λH=>?_
 ·exact S2<|Kt z<|Nt<|Ct z<|Sg z<|Nr<|Tr<|E1 H
 refine Mv z<|Wn z z<|Kf z<|Nt<|T.cH H z (λH=>?_) λH=>?_
 ·exact Sg z<|Nr<|Tr<|E1 H
 exact Ks<|Sm z<|Ag z<|Nr<|E1 H
theorem B7n {h a b c} (H:A4m a b=some c):∀ L,FnW prog 176 [.int .i64 a,.int .i64 b] h L (.int .i64 c):=by
 intro L
 refine I7.enter func176 z z z<|Sr<|An z<|Sq<|Sm z<|Wl z z<|Mv z<|T.bH 7 H z (λH=>?_) λH=>?_
 ·exact S2<|Kt z<|Mv z<|S2<|Kt z<|Mv z<|S2<|Kt z<|Nt<|Ct z<|Sg z<|Nr<|Tr<|E1 H
 refine Mv z<|Wg z z<|Kf z<|Mv z<|T.bH 11 H z (λH=>?_) λH=>?_
 ·exact S2<|Kt z<|Mv z<|S2<|Kt z<|Nt<|Ct z<|Sg z<|Nr<|Tr<|E1 H
 refine Mv z<|Wl z z<|Kf z<|Mv z<|T.bH 15 H z (λH=>?_) λH=>?_
 ·exact S2<|Kt z<|Nt<|Ct z<|Sg z<|Nr<|Tr<|E1 H
 refine Mv z<|Wg z z<|Kf z<|Nt<|T.cH H z (λH=>?_) λH=>?_
 ·exact Sg z<|Nr<|Tr<|E1 H
 exact Ks<|Sm z<|bE H λf d H=>Vv (V.A9y z z d)<|Mv z<|bE H λg e H=>Ws z z e<|Ag z<|Nr<|E1 H
theorem B7I {h a b c} (H:A3U a b=some c):∀ L,FnW prog 181 [.int .i64 a,.int .i64 b] h L (.int .i64 c):=by
 intro L
 refine I7.enter func181 z z z<|Sr<|An z<|Sq<|Sm z<|Wl z z<|Mv z<|T.bH 7 H z (λH=>?_) λH=>?_
 ·exact S2<|Kt z<|Mv z<|S2<|Kt z<|Mv z<|S2<|Kt z<|Nt<|Ct z<|Sg z<|Nr<|Tr<|E1 H
 refine Mv z<|Wg z z<|Kf z<|Mv z<|T.bH 11 H z (λH=>?_) λH=>?_
 ·exact S2<|Kt z<|Mv z<|S2<|Kt z<|Nt<|Ct z<|Sg z<|Nr<|Tr<|E1 H
 refine Mv z<|Wl z z<|Kf z<|Mv z<|T.bH 15 H z (λH=>?_) λH=>?_
 ·exact S2<|Kt z<|Nt<|Ct z<|Sg z<|Nr<|Tr<|E1 H
 refine Mv z<|Wg z z<|Kf z<|Nt<|T.cH H z (λH=>?_) λH=>?_
 ·exact Sg z<|Nr<|Tr<|E1 H
 exact Ks<|Sm z<|Mv z<|bE H λf d H=>Vv (V.A9y z z d)<|bE H λg e H=>Ws z z e<|Ag z<|Nr<|E1 H
theorem B8H {h a b c} (H:A5s a b=some c):∀ L,FnW prog 186 [.int .i64 a,.int .i64 b] h L (.int .i64 c):=by
 intro L
 refine I7.enter func186 z z z<|Sr<|An z<|Sq<|Sm z<|Wl z z<|Mv z<|T.bH 7 H z (λH=>?_) λH=>?_
 ·exact S2<|Kt z<|Mv z<|S2<|Kt z<|Mv z<|S2<|Sk<|Kt z<|Nt<|Ct z<|Sg z<|Nr<|Tr<|E1 H
 refine Mv z<|Wg z z<|Kf z<|Mv z<|T.bH 11 H z (λH=>?_) λH=>?_
 ·exact S2<|Kt z<|Mv z<|S2<|Sk<|Kt z<|Nt<|Ct z<|Sg z<|Nr<|Tr<|E1 H
 refine Mv z<|Wl z z<|Kf z<|Mv z<|T.bH 15 H z (λH=>?_) λH=>?_
 ·exact S2<|Sk<|Kt z<|Nt<|Ct z<|Sg z<|Nr<|Tr<|E1 H
 refine Mv z<|Mv z<|Wg z z<|Kf z<|Nt<|T.cH H z (λH=>?_) λH=>?_
 ·exact Sg z<|Nr<|Tr<|E1 H
 exact Ks<|Sm z<|Ag z<|Nr<|E1 H
theorem B5c {h a b c d e} (H:A2O a b c d=some e):∀ L,FnW prog 172 [.int .i64 a,.int .i64 b,.int .i64 c,.int .i64 d] h L (.bool e):=by
 intro L
 refine I7.enter func172 z z z<|Sr<|An z<|Sm z<|Mv z<|bE H λj f H=>Vv (V.X9 z z f)<|We z z<|Mv z<|T.bH 13 H z (λH=>?_) λH=>?_
 ·exact S2<|S2<|S2<|Kt z<|Ag z<|Nr<|E1 H
 exact Mv z<|Mv z<|bE H λk g H=>Vv (V.X9 z z g)<|Mv z<|bE H λm i H=>Vv (V.X9 z z i)<|We z z<|Kf z<|Ag z<|Nr<|E1 H
theorem B4Z {h a b c d e} (H:A2S a b c d=some e):∀ L,FnW prog 173 [.int .i64 a,.int .i64 b,.int .i64 c,.int .i64 d] h L (.bool e):=by
 intro L
 refine I7.enter func173 z z z<|Sr<|An z<|Sm z<|bE H λj f H=>Vv (V.A0Z z z f)<|We z z<|Mv z<|T.bH 12 H z (λH=>?_) λH=>?_
 ·exact Mv z<|Mv z<|bE H λk g H=>Vv (V.X9 z z g)<|Mv z<|bE H λm i H=>Vv (V.B4j z z i)<|We z z<|Kt z<|Ag z<|Nr<|E1 H
 exact S2<|S2<|S2<|Kf z<|Ag z<|Nr<|E1 H
theorem B6h {h e g f d i} (H:A3z e g f d=some i):∀ L,FnW prog 177 [.int .i64 e,.int .i64 g,.int .i64 f,.int .i64 d] h L (.bool i):=by
 intro L
 refine I7.enter func177 z z z<|Sr<|An z<|Sm z<|Mv z<|bE H λK j H=>To (O.cs (B3k j _) λN S=>An z<|Sq<|Bl<|Sq ?_)
 obtain ⟨n,o,p⟩:=J4 H
 refine T.ck (α:=Bool) [0,1,2,3,9] (λa=>([(13,.bool a)],L,λhh=>n=a)) ?_ ?_
 ·have H:=o
  refine Rg<|Mv z<|We z z<|Mv z<|T.bH 16 H z (λH=>?_) λH=>?_
  ·refine Mv z<|Mv z<|bE H λU q H=>Vv (V.A9y z z q)<|bE H λr s H=>Ws z z s<|We z z<|Kt z<|An z<|T.mt (decide (d=r)) (K9 H)
  refine S2<|S2<|Sk<|Kf z<|An z<|T.mt false (K9 H)
 rintro a W X t
 have H:=H7 t p
 refine T.norm [13,0,1,2,3,9] z<|T.fl ?_
 refine T.cH H z (λH=>?_) λH=>?_
 ·refine Sq ?_
  obtain ⟨u,w,x⟩:=J4 H
  refine T.ck (α:=Bool) [] (λb=>([(8,.bool b)],L,λhh=>u=b)) ?_ ?_
  ·have H:=w
   refine Rg<|Mv z<|We z z<|Mv z<|T.bH 25 H z (λH=>?_) λH=>?_
   ·refine S2<|S2<|Kt z<|An z<|T.mt true (K9 H)
   refine Mv z<|Mv z<|bE H λy A H=>Vv (V.X9 z z A)<|We z z<|Kf z<|An z<|T.mt (decide (f=y)) (K9 H)
  rintro b Y Z B
  have H:=H7 B x
  refine T.norm [8] z<|T.fl ?_
  exact T.ret<|Br<|Tr<|E1 H
 refine Sq ?_
 obtain ⟨C,D,E⟩:=J4 H
 refine T.ck (α:=Bool) [0,2,3,9] (λc=>([(31,.bool c)],L,λhh=>C=c)) ?_ ?_
 ·have H:=D
  refine Rg<|Mv z<|Wg z z<|Mv z<|T.bH 34 H z (λH=>?_) λH=>?_
  ·refine Mv z<|Mv z<|We z z<|Mv z<|T.bH 38 H z (λH=>?_) λH=>?_
   ·refine S2<|Sk<|Kt z<|Kt z<|An z<|T.mt true (K9 H)
   refine Mv z<|Mv z<|We z z<|Kf z<|Kt z<|An z<|T.mt (decide (d=e)) (K9 H)
  refine S2<|S2<|S2<|S2<|Kf z<|An z<|T.mt false (K9 H)
 rintro c aa ab G
 have H:=H7 G E
 refine T.norm [31,0,2,3,9] z<|T.fl ?_
 refine T.cH H z (λH=>?_) λH=>?_
 ·exact Sm z<|Mv z<|bE H λac I H=>Vv (V.X9 z z I)<|We z z<|Ag z<|Nr<|Br<|Tr<|E1 H
 refine T.skip<|Bn<|Th<|Sm z<|Mv z<|bE H λad J H=>Vv (V.X9 z z J)<|We z z<|Mv z<|T.bH 52 H z (λH=>?_) λH=>?_
 ·refine Mv z<|Mv z<|Wl z z<|Mv z<|T.bH 56 H z (λH=>?_) λH=>?_
  ·exact S2<|Sk<|Kt z<|Kt z<|Ag z<|Nr<|E1 H
  exact Mv z<|Mv z<|Vv (V.ge z z)<|Kf z<|Kt z<|Ag z<|Nr<|E1 H
 exact S2<|S2<|S2<|S2<|Kf z<|Ag z<|Nr<|E1 H
theorem B6k {h c d e b f} (H:A3w c d e b=some f):∀ L,FnW prog 178 [.int .i64 c,.int .i64 d,.int .i64 e,.int .i64 b] h L (.bool f):=by
 intro L
 refine I7.enter func178 z z z<|Sr<|An z<|Sq<|Sq ?_
 obtain ⟨g,i,j⟩:=J4 H
 refine T.ck (α:=Bool) [0,1,2,3] (λa=>([(17,.bool a)],L,λhh=>g=a)) ?_ ?_
 ·have H:=i
  refine Rg<|Mv z<|We z z<|Mv z<|T.bH 11 H z (λH=>?_) λH=>?_
  ·refine Mv z<|Mv z<|bE H λw k H=>Vv (V.A9y z z k)<|bE H λm n H=>Ws z z n<|We z z<|Kt z<|Nt<|T.mt (decide (b=m)) (K9 H)
  refine S2<|S2<|Sk<|Kf z<|Nt<|T.mt false (K9 H)
 rintro a x y o
 have H:=H7 o j
 refine T.norm [17,0,1,2,3] z<|T.fl ?_
 refine T.cH H z (λH=>?_) λH=>?_
 ·exact Sm z<|Mv z<|We z z<|Ag z<|Nr<|Tr<|E1 H
 refine Ks<|Sm z<|Mv z<|Wl z z<|Mv z<|T.bH 24 H z (λH=>?_) λH=>?_
 ·exact Mv z<|Mv z<|bE H λA p H=>Ws z z p<|Mv z<|Mv z<|bE H λB q H=>To (O.cs (B3k q _) λD G=>Mv z<|bE H λI t H=>Ws z z t<|bE H λJ u H=>Vv (V.X9 z z u)<|We z z<|Kt z<|Ag z<|Nr<|E1 H)
 exact S2<|S2<|S2<|S2<|S2<|Kf z<|Ag z<|Nr<|E1 H
theorem B6i {h a b c} (H:A3x a b=some c):∀ L,FnW prog 179 [.int .i64 a,.int .i64 b] h L (.int .i64 c):=by
 intro L
 refine I7.enter func179 z z z<|Sr<|An z<|Sq<|Sm z<|Wg z z<|Nt<|T.cH H z (λH=>?_) λH=>?_
 ·exact Sm z<|Ag z<|Nr<|Tr<|E1 H
 exact Ks<|Sm z<|bE H λe d H=>Vv (V.B4j z z d)<|Ag z<|Nr<|E1 H
theorem B5U {h a b c d e} (H:A3A a b c d=some e):∀ L,FnW prog 182 [.int .i64 a,.int .i64 b,.int .i64 c,.int .i64 d] h L (.bool e):=by
 intro L
 exact I7.enter func182 z z z<|Sr<|An z<|Sm z<|Mv z<|bE H λg f H=>Vv (V.X9 z z f)<|We z z<|Ag z<|Nr<|E1 H
theorem B5X {h a b c d e} (H:A3D a b c d=some e):∀ L,FnW prog 183 [.int .i64 a,.int .i64 b,.int .i64 c,.int .i64 d] h L (.bool e):=by
 intro L
 refine I7.enter func183 z z z<|Sr<|An z<|Sm z<|Mv z<|Wl z z<|Mv z<|T.bH 12 H z (λH=>?_) λH=>?_
 ·exact Mv z<|Mv z<|bE H λk f H=>Ws z z f<|Mv z<|Mv z<|bE H λm g H=>Vv (V.A9y z z g)<|bE H λn i H=>Ws z z i<|bE H λo j H=>Vv (V.X9 z z j)<|We z z<|Kt z<|Ag z<|Nr<|E1 H
 exact S2<|S2<|S2<|S2<|Sk<|Kf z<|Ag z<|Nr<|E1 H
theorem B6K {h a b c d e} (H:A3W a b c d=some e):∀ L,FnW prog 187 [.int .i64 a,.int .i64 b,.int .i64 c,.int .i64 d] h L (.bool e):=by
 intro L
 refine I7.enter func187 z z z<|Sr<|An z<|Sm z<|Mv z<|bE H λi f H=>Vv (V.X9 z z f)<|We z z<|Mv z<|T.bH 13 H z (λH=>?_) λH=>?_
 ·refine Mv z<|We z z<|Mv z<|T.bH 16 H z (λH=>?_) λH=>?_
  ·exact S2<|S2<|Kt z<|Kt z<|Ag z<|Nr<|E1 H
  exact Mv z<|Mv z<|bE H λj g H=>Vv (V.A0Z z z g)<|Wn z z<|Kf z<|Kt z<|Ag z<|Nr<|E1 H
 exact S2<|S2<|S2<|S2<|Kf z<|Ag z<|Nr<|E1 H
theorem B2e {h a b} (H:A6b a=some b):∀ L,FnW prog 223 [.int .i64 a] h L (.int .i64 b):=by
 intro L
 exact I7.enter func223 z z z<|Sr<|An z<|Sm z<|Ag z<|Nr<|E1 H
theorem C3C {h a b c} (H:B7X a b=some c):∀ L,FnW prog 174 [.int .i64 a,.int .i64 b] h L (.int .i64 c):=by
 intro L
 exact I7.enter func174 z z z<|Sr<|An z<|Sg z<|Nr<|E1 H
theorem C3I {h a b c} (H:B4F a b=some c):∀ L,FnW prog 184 [.int .i64 a,.int .i64 b] h L (.int .i64 c):=by
 intro L
 exact I7.enter func184 z z z<|Sr<|An z<|Sm z<|Mv z<|bE H λf d H=>Vv (V.B4j z z d)<|bE H λg e H=>Ws z z e<|Ag z<|Nr<|E1 H
theorem C4d {h a b c d e} (H:B8k a b c d=some e):∀ L,FnW prog 188 [.int .i64 a,.int .i64 b,.int .i64 c,.int .i64 d] h L (.bool e):=by
 intro L
 exact I7.enter func188 z z z<|Sr<|An z<|Sg z<|Nr<|E1 H
theorem C4m {h a b c} (H:B4A a b=some c):∀ L,FnW prog 189 [.int .i64 a,.int .i64 b] h L (.int .i64 c):=by
 intro L
 exact I7.enter func189 z z z<|Sr<|An z<|Sm z<|bE H λe d H=>Vv (V.B4j z z d)<|Ag z<|Nr<|E1 H
theorem B5a {h a b c d e f g i} (j:Y2 h b c) (k:(VI .i64) h c d) (m:Y2 h e f) (n:(VI .i64) h f g) (H:A7w a d g=some i):∀ L,FnW prog 217 [.int .i64 a,.pointer (some b),.pointer (some e)] h L (.int .i64 i):=by
 intro L
 obtain rfl:=k
 obtain rfl:=n
 exact I7.enter func217 z z z<|Sr<|An z<|Sm z<|Vv (V.Q9 D6 z j z)<|bE H λq o H=>Ws z z o<|Vv (V.Q9 D6 z m z)<|bE H λr p H=>Vv (V.A0Z z z p)<|Ag z<|Nr<|E1 H
theorem B5b {h a b c d e f g i} (k:Y2 h b c) (m:(VI .i64) h c d) (j:Y2 h e f) (n:(VI .i64) h f g) (H:A7s a d g=some i):∀ L,FnW prog 218 [.int .i64 a,.pointer (some b),.pointer (some e)] h L (.int .i64 i):=by
 intro L
 obtain rfl:=m
 obtain rfl:=n
 exact I7.enter func218 z z z<|Sr<|An z<|Sr<|Vv (V.Q9 D6 z k z)<|Mv z<|bE H λr o H=>Vv (V.X9 z z o)<|Vv (V.Q9 D6 z j z)<|bE H λs p H=>Ws z z p<|Vv (V.Q9 D6 z j z)<|bE H λt q H=>Vv (V.A0Z z z q)<|Ag z<|Nr<|E1 H
theorem B6x {h d q r} (H:A8R d q=some r):∀ L,I7 prog 175 [.int .i64 d,.int .i64 q] h (L) (λv h' L'=>L'=L∧G9 A4g 1 h' v r):=by
 intro L
 refine I7.enter func175 z z z<|Sr<|To (O.T9 z z z λb C ac m=>An z<|Sr<|An z<|Sq<|Sr<|Vv (V.Q9 D6 z m z)<|Mv z<|Nt ?_)
 obtain ⟨D,E,G⟩:=J4 H
 have H:=E
 refine Bl<|T.rn A4g 135 1 λI=>T.lk [2,7] (FUEL,([]:List (Int→Option Int)),(0:Int),(qs),[]) (λ⟨g,i,a,k,f⟩=>([(5,k),(8,qi a)],F3 135 1 k f::L,λhh=>iter (A9E d) g (i,a)=some D∧A8 A4g hh f i)) ⟨H,I⟩ ?_
 rintro ⟨g,i,a,k,f⟩ ad ae ⟨J,n⟩
 obtain ⟨K,af,rfl,H,s⟩:=G5 J
 refine T.norm [5,8,2,7] z<|T.fl ?_
 refine Sr<|Wl z z<|Nt<|Sq<|T.cH H z (λH=>?_) λH=>?_
 ·refine Ks<|Sq<|Bl<|Sm z<|To (O.alloc J6 z z λc=>To (O.stF (vs:=[qi a]) D6 z z (j:=0) z z z z<|T.freeze λt ai M=>have w:=Y2.of M; Nt<|Rg<|Mv z<|Vv (V.mkf z z)<|Vv (V.mkf z z)<|To (O.bq A3g A3f [.tmp 12,.tmp 13] A4g [[.func (.func 217) #[] #[qp c,qp b]],[.func (.func 218) #[] #[qp c,qp b]]] [(λp=>A7w p a d),(λp=>A7s p a d)] (hE:=(A8.cons ⟨(.func (.func 217) #[] #[qp c,qp b]),z,⟨⟨z,z⟩,.inr ⟨217,[],[qp c,qp b],z,λx ak am an N P=>B5a w.u (show (VI .i64) x [qi a] a from z) m.u (show (VI .i64) x [qi d] d from z) N P⟩⟩⟩ (A8.cons ⟨(.func (.func 218) #[] #[qp c,qp b]),z,⟨⟨z,z⟩,.inr ⟨218,[],[qp c,qp b],z,λy ao aq ar S U=>B5b w.u (show (VI .i64) y [qi a] a from z) m.u (show (VI .i64) y [qi d] d from z) S U⟩⟩⟩ A8.nil))) λaj o=>bE H λA B H=>To (O.ax A3g A3f 1 n.u o B A4g.plain λW X=>Fr_ 1 z<|T.drop<|Ag z<|Ni<|Bn<|Th<|Rg<|bE H λY Z H=>Ws z z Z<|Mv z<|Nt<|T.ag (K,A,Y,W,(f++[[.func (.func 217) #[] #[qp c,qp b]],[.func (.func 218) #[] #[qp c,qp b]]])) ⟨(D8 H s),X⟩))))
 refine Xt<|have H:=D5 H s; Be<|Th<|have H:=H7 H G; Sm z<|Ag z<|Nr<|T.J8 λax ay aa=>have ab:=A8.slc aa n.u; ?_
 cases H
 exact T.rl z (Rv z) ⟨z,ab⟩
theorem A3e {h c d e f g i j k} (a:Y2 h d e) (m:(VI .i64) h e f) (b:Y2 h g i) (n:(VI .i64) h i j) (H:R4 c f j=some k):∀ L,FnW prog 220 [.int .i64 c,.pointer (some d),.pointer (some g)] h L (.bool k):=by
 intro L
 obtain rfl:=m
 obtain rfl:=n
 refine I7.enter func220 z z z<|Sr<|An z<|Sr<|Vv (V.Q9 D6 z a z)<|Wg z z<|Mv z<|T.bH 7 H z (λH=>?_) λH=>?_
 ·refine Mv z<|Vv (V.Q9 D6 z b z)<|We z z<|Kt z<|Mv z<|T.bH 12 H z (λH=>?_) λH=>?_
  ·exact S2<|S2<|S2<|S2<|Sk<|Kt z<|Ag z<|Nr<|E1 H
  refine Vv (V.Q9 D6 z a z)<|We z z<|Mv z<|T.bH 15 H z (λH=>?_) λH=>?_
  ·exact Mv z<|Vv (V.Q9 D6 z b z)<|bE H λs o H=>Vv (V.A9y z z o)<|bE H λt p H=>Ws z z p<|We z z<|Kt z<|Kf z<|Ag z<|Nr<|E1 H
  exact S2<|S2<|Sk<|Kf z<|Kf z<|Ag z<|Nr<|E1 H
 refine S2<|Sk<|Kf z<|Mv z<|Vv (V.Q9 D6 z a z)<|We z z<|Mv z<|T.bH 15 H z (λH=>?_) λH=>?_
 ·exact Mv z<|Vv (V.Q9 D6 z b z)<|bE H λu q H=>Vv (V.A9y z z q)<|bE H λw r H=>Ws z z r<|We z z<|Kt z<|Kf z<|Ag z<|Nr<|E1 H
 exact S2<|S2<|Sk<|Kf z<|Kf z<|Ag z<|Nr<|E1 H
theorem A9Z {h a b c d e f g i j k m} (n:Y2 h b c) (o:C3d h c d) (p:Y2 h e f) (q:(VI .i64) h f g) (r:Y2 h i j) (s:(VI .i64) h j k) (H:A1u a d g k=some m):∀ L,FnW prog 221 [.int .i64 a,.pointer (some b),.pointer (some e),.pointer (some i)] h L (.int .i64 m):=by
 intro L
 obtain ⟨G,rfl,t⟩:=o
 obtain rfl:=q
 obtain rfl:=s
 refine I7.enter func221 z z z<|Sr<|An z<|Sq<|Sr<|Vv (V.Q9 B6e z n z)<|Mv z<|bE H λI w H=>?_
 obtain ⟨J,K,M,x,y⟩:=A2D.call t w
 refine To (O.A1b z x z (y _) z λN P S U A=>?_)
 obtain ⟨rfl,B⟩:=A
 refine O8 _ B<|Nt<|T.cH H z (λH=>?_) λH=>?_
 ·exact Sm z<|Ag z<|Nr<|Tr<|E1 H
 exact Ks<|Sr<|Vv (V.Q9 D6 z p.u z)<|Vv (V.Q9 D6 z r.u z)<|bE H λW C H=>Ws z z C<|bE H λX D H=>Vv (V.X9 z z D)<|Mv z<|bE H λY E H=>Vv (V.X9 z z E)<|Ag z<|Nr<|E1 H
theorem B0b {h b c d e f g i j k m n} (o:Y2 h c d) (p:C3d h d e) (a:Y2 h f g) (q:(VI .i64) h g i) (r:Y2 h j k) (s:(VI .i64) h k m) (H:A1Z b e i m=some n):∀ L,FnW prog 222 [.int .i64 b,.pointer (some c),.pointer (some f),.pointer (some j)] h L (.int .i64 n):=by
 intro L
 obtain ⟨P,rfl,t⟩:=p
 obtain rfl:=q
 obtain rfl:=s
 refine I7.enter func222 z z z<|Sr<|An z<|Sq<|Bl<|Sr<|Vv (V.Q9 B6e z o z)<|Mv z<|bE H λS w H=>?_
 obtain ⟨U,W,X,x,y⟩:=A2D.call t w
 refine To (O.A1b z x z (y _) z λY Z aa ab A=>?_)
 obtain ⟨rfl,B⟩:=A
 refine O8 _ B<|An z<|T.cH H z (λH=>?_) λH=>?_
 ·exact Sr<|Vv (V.Q9 D6 z a.u z)<|bE H λac C H=>Vv (V.A9y z z C)<|bE H λad D H=>Ws z z D<|Mv z<|bE H λae E H=>Vv (V.X9 z z E)<|Ag z<|Nr<|Br<|Tr<|E1 H
 refine Sm z<|Vv (V.Q9 D6 z a.u z)<|Wl z z<|An z<|T.cH H z (λH=>?_) λH=>?_
 ·exact Sr<|Vv (V.Q9 D6 z a.u z)<|bE H λaf G H=>Vv (V.X9 z z G)<|Mv z<|bE H λag I H=>Vv (V.X9 z z I)<|Ag z<|Nr<|Br<|Tr<|E1 H
 exact T.skip<|Bn<|Th<|Sr<|Vv (V.Q9 D6 z r.u z)<|bE H λai J H=>Vv (V.A9y z z J)<|Vv (V.Q9 D6 z a.u z)<|bE H λaj K H=>Ws z z K<|bE H λak M H=>Vv (V.X9 z z M)<|Mv z<|bE H λam N H=>Vv (V.X9 z z N)<|Ag z<|Nr<|E1 H
theorem B6m {h a b c d e f i j} (k:Y2 h b c) (m:A4g h c d) (n:Y2 h e f) (o:A4g h f i) (H:A8O a d i=some j):∀ L,FnW prog 224 [.int .i64 a,.pointer (some b),.pointer (some e)] h L (.int .i64 j):=by
 intro L
 obtain ⟨I,rfl,p⟩:=m
 obtain ⟨J,rfl,q⟩:=o
 refine I7.enter func224 z z z<|Sr<|An z<|Sq<|T.dw (.vs [0,1,2] (.alt 3 (.alt 4 (.alt 5 .done .no) .no) .no)) 7 0 0 ?_
 refine Tv z (V.Q9 A5R z k z)<|Tv z (V.Q9 A5R z n z)<|Tm z z<|bE H λK r H=>?_
 obtain ⟨M,N,P,s,w⟩:=A8Y.call q r
 refine Tp z z (X2 z z) (O.A1b z s z (w _) z λS x U W y=>?_) T.O4
 obtain ⟨rfl,A⟩:=y
 refine O8 _ A<|bE H λX B H=>?_
 obtain ⟨Y,Z,aa,C,D⟩:=A8Y.call (p.u (g:=x)) B
 refine Tp z z (SX.two (XA.fr [] Li z) (XA.fr [] Li z)) (O.A1b z C z (D _) z λab ac ad ae E=>?_) T.O4
 obtain ⟨rfl,G⟩:=E
 refine O8 _ G<|Ts z z (SX.two (XA.fr [] Li z) (XA.fr [] Li z)) (V.asg z) z ?_ T.O4
 exact T.M9 (SX.two (XA.fr [] Li z) (XA.fr [] Li z))<|Th<|T.ret<|E1 H
theorem B7J {h a d x} (H:A9M a d=some x):∀ L,I7 prog 180 [.int .i64 a,.int .i64 d] h (L) (λv h' L'=>L'=L∧G9 A4g 1 h' v x):=by
 intro L
 refine I7.enter func180 z z z<|Sr<|To (O.T9 z z z λc aO aP m=>To (O.T9 z z z λk aS aU o=>An z<|Sr<|Vv (V.Q9 D6 z m.u z)<|Vv (V.Q9 D6 z o z)<|bE H λi P H=>To (O.cs (B3k P _) λaW aY=>To (O.alloc J6 z z λf=>To (O.stF (vs:=[qi i]) D6 z z (j:=0) z z z z<|T.freeze λaZ a0 W=>have p:=Y2.of W; Nt<|Sr<|Vv (V.mkf z z)<|To (O.alloc C6B z z λg=>To (O.stF (vs:=[.func (.func 220) #[] #[qp k,qp c]]) B6e z z (j:=0) z z z z<|T.freeze λa1 a2 X=>have q:=Y2.of X; Nt<|Sr<|Vv (V.mkf z z)<|To (O.alloc A3f z z λr=>To (O.stF (vs:=[.func (.func 221) #[] #[qp g,qp f,qp c]]) A5R z z (j:=0) z z z z<|T.freeze λa3 a4 Y=>have y:=Y2.of Y; Nt<|Sr<|Vv (V.mkf z z)<|To (O.alloc A3f z z λs=>To (O.stF (vs:=[.func (.func 222) #[] #[qp g,qp c,qp f]]) A5R z z (j:=0) z z z z<|T.freeze λn a5 Z=>have A:=Y2.of Z; Nt<|Sr<|Vv (V.Q9 A5R z y.u z)<|To (O.bq A3g A3f [.func 223,.tmp 16] A4g [[.func (.func 223) #[] #[]],[.func (.func 221) #[] #[qp g,qp f,qp c]]] [A6b,(λb=>A1u b (λb=>R4 b d a) i a)] (hE:=(A8.cons ⟨(.func (.func 223) #[] #[]),z,⟨⟨z,z⟩,.inr ⟨223,[],[],z,λa7 a8 a9 ah aa ab=>B2e aa ab⟩⟩⟩ (A8.cons ⟨(.func (.func 221) #[] #[qp g,qp f,qp c]),z,⟨⟨z,z⟩,.inr ⟨221,[],[qp g,qp f,qp c],z,λB ac al av ad ae=>A9Z q.u ⟨(.func (.func 220) #[] #[qp k,qp c]),z,(A2D.mono (show A2D n (.func (.func 220) #[] #[qp k,qp c]) (λb=>R4 b d a) from ⟨⟨z,z⟩,.inr ⟨220,[],[qp k,qp c],z,λC az ba bb af ag=>A3e o.u (show (VI .i64) C [qi d] d from z) m.u (show (VI .i64) C [qi a] a from z) af ag⟩⟩) ac)⟩ p.u (show (VI .i64) B [qi i] i from z) m.u (show (VI .i64) B [qi a] a from z) ad ae⟩⟩⟩ A8.nil))) λa6 t=>An z<|Sq<|Sr<|Vv (V.Q9 D6 z o.u z)<|Wn z z<|Nt<|T.cH H z (λH=>?_) λH=>?_))))))))))))
 ·refine Rg<|Mv z<|Vv (V.Q9 A5R z A z)<|Vv (V.mkf z z)<|To (O.bq A3g A3f [.tmp 21,.tmp 22] A4g [[.func (.func 222) #[] #[qp g,qp c,qp f]],[.func (.func 224) #[] #[qp r,qp s]]] [(λb=>A1Z b (λb=>R4 b d a) a i),(λb=>A8O b (λb=>A1u b (λb=>R4 b d a) i a) (λb=>A1Z b (λb=>R4 b d a) a i))] (hE:=(A8.cons ⟨(.func (.func 222) #[] #[qp g,qp c,qp f]),z,⟨⟨z,z⟩,.inr ⟨222,[],[qp g,qp c,qp f],z,λD ai bd be aj ak=>B0b q.u ⟨(.func (.func 220) #[] #[qp k,qp c]),z,(A2D.mono (show A2D n (.func (.func 220) #[] #[qp k,qp c]) (λb=>R4 b d a) from ⟨⟨z,z⟩,.inr ⟨220,[],[qp k,qp c],z,λE bf bg bi am an=>A3e o.u (show (VI .i64) E [qi d] d from z) m.u (show (VI .i64) E [qi a] a from z) am an⟩⟩) ai)⟩ m.u (show (VI .i64) D [qi a] a from z) p.u (show (VI .i64) D [qi i] i from z) aj ak⟩⟩⟩ (A8.cons ⟨(.func (.func 224) #[] #[qp r,qp s]),z,⟨⟨z,z⟩,.inr ⟨224,[],[qp r,qp s],z,λbj G bk bm ao aq=>B6m y.u ⟨(.func (.func 221) #[] #[qp g,qp f,qp c]),z,(A8Y.mono (show A8Y n (.func (.func 221) #[] #[qp g,qp f,qp c]) (λb=>A1u b (λb=>R4 b d a) i a) from ⟨⟨z,z⟩,.inr ⟨221,[],[qp g,qp f,qp c],z,λI ar bn bo au aw=>A9Z q.u ⟨(.func (.func 220) #[] #[qp k,qp c]),z,(A2D.mono (show A2D n (.func (.func 220) #[] #[qp k,qp c]) (λb=>R4 b d a) from ⟨⟨z,z⟩,.inr ⟨220,[],[qp k,qp c],z,λJ bp bq br ax ay=>A3e o.u (show (VI .i64) J [qi d] d from z) m.u (show (VI .i64) J [qi a] a from z) ax ay⟩⟩) ar)⟩ p.u (show (VI .i64) I [qi i] i from z) m.u (show (VI .i64) I [qi a] a from z) au aw⟩⟩) G)⟩ A.u ⟨(.func (.func 222) #[] #[qp g,qp c,qp f]),z,(A8Y.mono (show A8Y n (.func (.func 222) #[] #[qp g,qp c,qp f]) (λb=>A1Z b (λb=>R4 b d a) a i) from ⟨⟨z,z⟩,.inr ⟨222,[],[qp g,qp c,qp f],z,λK aA bt bu aB aC=>B0b q.u ⟨(.func (.func 220) #[] #[qp k,qp c]),z,(A2D.mono (show A2D n (.func (.func 220) #[] #[qp k,qp c]) (λb=>R4 b d a) from ⟨⟨z,z⟩,.inr ⟨220,[],[qp k,qp c],z,λM bw bx bA aD aE=>A3e o.u (show (VI .i64) M [qi d] d from z) m.u (show (VI .i64) M [qi a] a from z) aD aE⟩⟩) aA)⟩ m.u (show (VI .i64) K [qi a] a from z) p.u (show (VI .i64) K [qi i] i from z) aB aC⟩⟩) G)⟩ ao aq⟩⟩⟩ A8.nil))) λbc w=>bE H λaG N H=>To (O.ax A3g A3f 1 t w N A4g.plain λbB aI=>Fr_ 1 z<|T.drop<|An z<|Sm z<|Ag z<|Nr<|T.J8 λbG bI aJ=>have aK:=A8.slc aJ aI.u; ?_))
  cases H
  exact T.rl z (Rv z) ⟨z,aK⟩
 refine Ks<|Sm z<|Ag z<|Nr<|T.J8 λbJ bK aM=>have aN:=A8.slc aM t.u; ?_
 cases H
 exact T.rl z (Rv z) ⟨z,aN⟩
theorem B6D {h a b c d e f g i} (j:Y2 h b c) (k:(VI .i64) h c d) (m:Y2 h e f) (n:(VI .i64) h f g) (H:A8N a d g=some i):∀ L,FnW prog 225 [.int .i64 a,.pointer (some b),.pointer (some e)] h L (.int .i64 i):=by
 intro L
 obtain rfl:=k
 obtain rfl:=n
 exact I7.enter func225 z z z<|Sr<|An z<|Sr<|Vv (V.Q9 D6 z j z)<|Vv (V.Q9 D6 z m z)<|bE H λs o H=>Vv (V.A9y z z o)<|bE H λt p H=>Ws z z p<|bE H λu q H=>Vv (V.X9 z z q)<|Mv z<|bE H λw r H=>Vv (V.X9 z z r)<|Ag z<|Nr<|E1 H
theorem B6S {h a b f} (H:A9H a b=some f):∀ L,I7 prog 185 [.int .i64 a,.int .i64 b] h (L) (λv h' L'=>L'=L∧G9 A4g 1 h' v f):=by
 intro L
 refine I7.enter func185 z z z<|Sr<|To (O.T9 z z z λc w x i=>To (O.T9 z z z λd j y k=>An z<|Sr<|Vv (V.mkf z z)<|To (O.bq A3g A3f [.func 223,.tmp 5] A4g [[.func (.func 223) #[] #[]],[.func (.func 225) #[] #[qp c,qp d]]] [A6b,(λn=>A8N n a b)] (hE:=(A8.cons ⟨(.func (.func 223) #[] #[]),z,⟨⟨z,z⟩,.inr ⟨223,[],[],z,λB C D E o p=>B2e o p⟩⟩⟩ (A8.cons ⟨(.func (.func 225) #[] #[qp c,qp d]),z,⟨⟨z,z⟩,.inr ⟨225,[],[qp c,qp d],z,λg G I J q r=>B6D i.u (show (VI .i64) g [qi a] a from z) k.u (show (VI .i64) g [qi b] b from z) q r⟩⟩⟩ A8.nil))) λA m=>Ag z<|Nr<|T.J8 λK M s=>have t:=A8.slc s m.u; ?_)))
 cases H
 exact T.rl z (Rv z) ⟨z,t⟩
theorem B7E {h a b c d e} (f:Y2 h b c) (g:(VI .i64) h c d) (H:A9Q a d=some e):∀ L,FnW prog 226 [.int .i64 a,.pointer (some b)] h L (.int .i64 e):=by
 intro L
 obtain rfl:=g
 exact I7.enter func226 z z z<|Sr<|An z<|Sr<|Vv (V.Q9 D6 z f z)<|bE H λk i H=>Vv (V.X9 z z i)<|Mv z<|bE H λm j H=>Vv (V.X9 z z j)<|Ag z<|Nr<|E1 H
theorem B8c {h a c d} (H:B1l a c=some d):∀ L,I7 prog 190 [.int .i64 a,.int .i64 c] h (L) (λv h' L'=>L'=L∧G9 A4g 1 h' v d):=by
 intro L
 refine I7.enter func190 z z z<|Sr<|To (O.T9 z z z λb f s g=>An z<|Sr<|Vv (V.mkf z z)<|To (O.bq A3g A3f [.func 223,.tmp 5] A4g [[.func (.func 223) #[] #[]],[.func (.func 226) #[] #[qp b]]] [A6b,(λj=>A9Q j a)] (hE:=(A8.cons ⟨(.func (.func 223) #[] #[]),z,⟨⟨z,z⟩,.inr ⟨223,[],[],z,λw x y A k m=>B2e k m⟩⟩⟩ (A8.cons ⟨(.func (.func 226) #[] #[qp b]),z,⟨⟨z,z⟩,.inr ⟨226,[],[qp b],z,λn B C D o p=>B7E g.u (show (VI .i64) n [qi a] a from z) o p⟩⟩⟩ A8.nil))) λt i=>Ag z<|Nr<|T.J8 λE G q=>have r:=A8.slc q i.u; ?_))
 cases H
 exact T.rl z (Rv z) ⟨z,r⟩
theorem A2M {h b a c} (H:X5 b=some (a,c)):∀ L,I7 prog 126 [.int .u8 b] h (L) (λv h' L'=>∃ v0_1 v0_3 v0_5 v0_7 v0_9,v=.tuple #[.agg #[.string a.A7f,v0_1,v0_3,v0_5,v0_7,v0_9],.bool c]∧L'=L∧B0r h' v0_1 a.C6Q∧A8I h' v0_3 a.W9∧A8I h' v0_5 a.A0s∧B0r h' v0_7 a.B9M∧B1P h' v0_9 a.C4j):=by
 intro L
 refine I7.enter func126 z z z<|Sr<|To (O.alloc A7B z z λae=>An z<|Sq<|Sm z<|Nt<|Bl<|Sr<|We z z<|An z<|T.cH H z (λH=>?_) λH=>?_)
 ·refine Sr<|Vv (V.bld (xs:=[(0,.const (.string ⟨#[114,111,117,110,100]⟩)),(1,.func 171),(2,.func 172),(3,.func 173),(4,.func 174),(5,.func 175)]) (cs:=[_,_,_,_,_,_]) B0d A9I z (F6.cons z z z (F6.cons z z z (F6.cons z z z (F6.cons z z z (F6.cons z z z (F6.cons z z z F6.nil)))))))<|To (O.stF (vs:=[.string (⟨#[114,111,117,110,100]⟩:ByteArray),.func (.func 171) #[] #[],.func (.func 172) #[] #[],.func (.func 173) #[] #[],.func (.func 174) #[] #[],.func (.func 175) #[] #[]]) A0w z z (j:=0) z z z z<|Ag z<|Nr<|Br<|Tr ?_)
  cases H
  exact T.B0p (L':=L) results126 (RVs.cons (RV.cellS z (j:=0) z A0w) (Rv z)) Lr (λ_ iv=>iv.drop) ⟨_,_,_,_,_,z,z,⟨⟨z,z⟩,.inr ⟨171,[],[],z,λaf ag ai aj ak d e=>B6v d e⟩⟩,⟨⟨z,z⟩,.inr ⟨172,[],[],z,λam an ao ap aq ar au f g=>B5c f g⟩⟩,⟨⟨z,z⟩,.inr ⟨173,[],[],z,λaw ax ay aA aB aC aD i k=>B4Z i k⟩⟩,⟨⟨z,z⟩,.inr ⟨174,[],[],z,λaE aG aI aJ aK m n=>C3C m n⟩⟩,⟨⟨z,z⟩,.inr ⟨175,[],[],z,λaM aN aO aP aS o p=>B6x o p⟩⟩⟩
 refine Sr<|We z z<|An z<|T.cH H z (λH=>?_) λH=>?_
 ·refine Sr<|Vv (V.bld (xs:=[(0,.const (.string ⟨#[108,111,110,103]⟩)),(1,.func 176),(2,.func 177),(3,.func 178),(4,.func 179),(5,.func 180)]) (cs:=[_,_,_,_,_,_]) B0d A9I z (F6.cons z z z (F6.cons z z z (F6.cons z z z (F6.cons z z z (F6.cons z z z (F6.cons z z z F6.nil)))))))<|To (O.stF (vs:=[.string (⟨#[108,111,110,103]⟩:ByteArray),.func (.func 176) #[] #[],.func (.func 177) #[] #[],.func (.func 178) #[] #[],.func (.func 179) #[] #[],.func (.func 180) #[] #[]]) A0w z z (j:=0) z z z z<|Ag z<|Nr<|Br<|Tr ?_)
  cases H
  exact T.B0p (L':=L) results126 (RVs.cons (RV.cellS z (j:=0) z A0w) (Rv z)) Lr (λ_ iv=>iv.drop) ⟨_,_,_,_,_,z,z,⟨⟨z,z⟩,.inr ⟨176,[],[],z,λaU aV aW aX aY q r=>B7n q r⟩⟩,⟨⟨z,z⟩,.inr ⟨177,[],[],z,λaZ a0 a1 a2 a3 a4 a5 s t=>B6h s t⟩⟩,⟨⟨z,z⟩,.inr ⟨178,[],[],z,λa6 a7 a8 a9 ah al av u w=>B6k u w⟩⟩,⟨⟨z,z⟩,.inr ⟨179,[],[],z,λaz ba bb bc bd x y=>B6i x y⟩⟩,⟨⟨z,z⟩,.inr ⟨180,[],[],z,λbe bf bg bi bj A B=>B7J A B⟩⟩⟩
 refine Sr<|We z z<|An z<|T.cH H z (λH=>?_) λH=>?_
 ·refine Sr<|Vv (V.bld (xs:=[(0,.const (.string ⟨#[104,111,114,115,101,115,104,111,101]⟩)),(1,.func 181),(2,.func 182),(3,.func 183),(4,.func 184),(5,.func 185)]) (cs:=[_,_,_,_,_,_]) B0d A9I z (F6.cons z z z (F6.cons z z z (F6.cons z z z (F6.cons z z z (F6.cons z z z (F6.cons z z z F6.nil)))))))<|To (O.stF (vs:=[.string (⟨#[104,111,114,115,101,115,104,111,101]⟩:ByteArray),.func (.func 181) #[] #[],.func (.func 182) #[] #[],.func (.func 183) #[] #[],.func (.func 184) #[] #[],.func (.func 185) #[] #[]]) A0w z z (j:=0) z z z z<|Ag z<|Nr<|Br<|Tr ?_)
  cases H
  exact T.B0p (L':=L) results126 (RVs.cons (RV.cellS z (j:=0) z A0w) (Rv z)) Lr (λ_ iv=>iv.drop) ⟨_,_,_,_,_,z,z,⟨⟨z,z⟩,.inr ⟨181,[],[],z,λbk bm bn bo bp C D=>B7I C D⟩⟩,⟨⟨z,z⟩,.inr ⟨182,[],[],z,λbq br bs bt bu bw bx E G=>B5U E G⟩⟩,⟨⟨z,z⟩,.inr ⟨183,[],[],z,λbA bB bC bD bE bG bI I J=>B5X I J⟩⟩,⟨⟨z,z⟩,.inr ⟨184,[],[],z,λbJ bK bM bN bO K M=>C3I K M⟩⟩,⟨⟨z,z⟩,.inr ⟨185,[],[],z,λbP bS bU bV bW N P=>B6S N P⟩⟩⟩
 refine Sr<|We z z<|An z<|T.cH H z (λH=>?_) λH=>?_
 ·refine Sr<|Vv (V.bld (xs:=[(0,.const (.string ⟨#[114,111,119]⟩)),(1,.func 186),(2,.func 187),(3,.func 188),(4,.func 189),(5,.func 190)]) (cs:=[_,_,_,_,_,_]) B0d A9I z (F6.cons z z z (F6.cons z z z (F6.cons z z z (F6.cons z z z (F6.cons z z z (F6.cons z z z F6.nil)))))))<|To (O.stF (vs:=[.string (⟨#[114,111,119]⟩:ByteArray),.func (.func 186) #[] #[],.func (.func 187) #[] #[],.func (.func 188) #[] #[],.func (.func 189) #[] #[],.func (.func 190) #[] #[]]) A0w z z (j:=0) z z z z<|Ag z<|Nr<|Br<|Tr ?_)
  cases H
  exact T.B0p (L':=L) results126 (RVs.cons (RV.cellS z (j:=0) z A0w) (Rv z)) Lr (λ_ iv=>iv.drop) ⟨_,_,_,_,_,z,z,⟨⟨z,z⟩,.inr ⟨186,[],[],z,λbX bY bZ b0 b1 S U=>B8H S U⟩⟩,⟨⟨z,z⟩,.inr ⟨187,[],[],z,λb2 b3 b4 b5 b6 b7 b8 W X=>B6K W X⟩⟩,⟨⟨z,z⟩,.inr ⟨188,[],[],z,λb9 bh bl bv bz ca cb Y Z=>C4d Y Z⟩⟩,⟨⟨z,z⟩,.inr ⟨189,[],[],z,λcc cd ce cf cg aa ab=>C4m aa ab⟩⟩,⟨⟨z,z⟩,.inr ⟨190,[],[],z,λci cj ck cm cn ac ad=>B8c ac ad⟩⟩⟩
 refine T.skip<|Bn<|Th<|Sr<|Vv (V.bld (xs:=[]) (cs:=[_,_,_,_,_,_]) B0d A9I z F6.nil)<|To (O.stF (vs:=[.string qe,.nilFunc,.nilFunc,.nilFunc,.nilFunc,.nilFunc]) A0w z z (j:=0) z z z z<|Ag z<|Nr ?_)
 cases H
 exact T.B0p (L':=L) results126 (RVs.cons (RV.cellS z (j:=0) z A0w) (Rv z)) Lr (λ_ iv=>iv.drop) ⟨_,_,_,_,_,z,z,⟨⟨z,z⟩,.inl λ_ _=>z⟩,⟨⟨z,z⟩,.inl λ_ _ _ _=>z⟩,⟨⟨z,z⟩,.inl λ_ _ _ _=>z⟩,⟨⟨z,z⟩,.inl λ_ _=>z⟩,⟨⟨z,z⟩,.inl λ_ _=>z⟩⟩
theorem A2m {h b c d} (f:I1 h b c) (H:A2N c=some d):∀ L,FnW prog 64 [.agg b.toArray] h L (.int .i64 d):=by
 intro L
 obtain ⟨M,rfl,N⟩:=f
 refine I7.enter func64 z z z<|Sr<|To (O.T9 z z z λP S U a=>An z<|Sr<|Vv (V.fa A3c z)<|Wd 1 A6h z a z<|bE H λ⟨i,W⟩ m H=>To (O.G6 z (A2M m _) z λX Y Z aa n=>?_))
 obtain ⟨o,p,q,r,s,rfl,t,e,w,x,y,A⟩:=n
 refine O8 _ t<|Mv z<|Wx z z<|Wx z z<|To (O.alloc A7B z z λab=>To (O.stF (vs:=[.string i.A7f,o,p,q,r,s]) A0w z z (j:=0) z z (by (simp only [BT,e.1.1,w.1.1,x.1.1,y.1.1,A.1.1]) <;> rfl) z ?_))
 refine T.freeze λB ac C=>have D:=Y2.of C; An z<|Sq<|Sm z<|Vv (V.not z)<|Nt<|T.cH H z (λH=>?_) λH=>?_
 ·exact Sg z<|Nr<|Tr<|E1 H
 refine Ks<|Sr<|Vv (V.fa C3N z)<|Wd 1 C3h z D z<|Vv (V.fa X6 z)<|Wd 2 D6 z a.u z<|Vv (V.fa A0H z)<|Wd 3 D6 z a.u z<|bE H λad E H=>?_
 obtain ⟨ae,af,ag,G,I⟩:=B0r.call (e.u (g:=B)) E
 refine To (O.A1b z G z (I _) z λai aj ak am J=>?_)
 obtain ⟨rfl,K⟩:=J
 exact O8 _ K<|Ag z<|Nr<|E1 H
theorem A6P {h b c d e f} (m:I1 h b c) (H:A4e c d e=some f):∀ L,FnW prog 107 [.agg b.toArray,.int .i64 d,.int .i64 e] h L (.bool f):=by
 intro L
 obtain ⟨P,rfl,S⟩:=m
 refine I7.enter func107 z z z<|Sr<|To (O.T9 z z z λU W X a=>An z<|Sr<|Vv (V.fa A3c z)<|Wd 1 A6h z a z<|bE H λ⟨n,Y⟩ o H=>To (O.G6 z (A2M o _) z λZ aa ab ac p=>?_))
 obtain ⟨q,r,s,t,w,rfl,x,y,i,A,B,C⟩:=p
 refine O8 _ x<|Mv z<|Wx z z<|Wx z z<|To (O.alloc A7B z z λad=>To (O.stF (vs:=[.string n.A7f,q,r,s,t,w]) A0w z z (j:=0) z z (by (simp only [BT,y.1.1,i.1.1,A.1.1,B.1.1,C.1.1]) <;> rfl) z ?_))
 refine T.freeze λD ae E=>have G:=Y2.of E; An z<|Sm z<|Mv z<|Wn z z<|Mv z<|T.bH 18 H z (λH=>?_) λH=>?_
 ·refine Vv (V.fa C4r z)<|Wd 2 C0d z G z<|Vv (V.fa X6 z)<|Wd 2 D6 z a.u z<|Vv (V.fa A0H z)<|Wd 3 D6 z a.u z<|Mv z<|Mv z<|Vv (V.min2 z z)<|Mv z<|Mv z<|Vv (V.max2 z z)<|bE H λaf I H=>?_
  obtain ⟨ag,ai,aj,J,K⟩:=A8I.call (i.u (g:=D)) I
  refine To (O.A1b z J z (K _) z λak am an ao M=>?_)
  obtain ⟨rfl,N⟩:=M
  exact O8 _ N<|Kt z<|Ag z<|Nr<|E1 H
 exact S2<|S2<|S2<|S2<|S2<|S2<|Sk<|Kf z<|Ag z<|Nr<|E1 H
theorem A6W {h b c d e f} (m:I1 h b c) (H:A4p c d e=some f):∀ L,FnW prog 108 [.agg b.toArray,.int .i64 d,.int .i64 e] h L (.bool f):=by
 intro L
 obtain ⟨P,rfl,S⟩:=m
 refine I7.enter func108 z z z<|Sr<|To (O.T9 z z z λU W X a=>An z<|Sr<|Vv (V.fa A3c z)<|Wd 1 A6h z a z<|bE H λ⟨n,Y⟩ o H=>To (O.G6 z (A2M o _) z λZ aa ab ac p=>?_))
 obtain ⟨q,r,s,t,w,rfl,x,y,A,i,B,C⟩:=p
 refine O8 _ x<|Mv z<|Wx z z<|Wx z z<|To (O.alloc A7B z z λad=>To (O.stF (vs:=[.string n.A7f,q,r,s,t,w]) A0w z z (j:=0) z z (by (simp only [BT,y.1.1,A.1.1,i.1.1,B.1.1,C.1.1]) <;> rfl) z ?_))
 refine T.freeze λD ae E=>have G:=Y2.of E; An z<|Sm z<|Mv z<|Wn z z<|Mv z<|T.bH 18 H z (λH=>?_) λH=>?_
 ·refine Vv (V.fa C4f z)<|Wd 3 C0d z G z<|Vv (V.fa X6 z)<|Wd 2 D6 z a.u z<|Vv (V.fa A0H z)<|Wd 3 D6 z a.u z<|Mv z<|Mv z<|Vv (V.min2 z z)<|Mv z<|Mv z<|Vv (V.max2 z z)<|bE H λaf I H=>?_
  obtain ⟨ag,ai,aj,J,K⟩:=A8I.call (i.u (g:=D)) I
  refine To (O.A1b z J z (K _) z λak am an ao M=>?_)
  obtain ⟨rfl,N⟩:=M
  exact O8 _ N<|Kt z<|Ag z<|Nr<|E1 H
 exact S2<|S2<|S2<|S2<|S2<|S2<|Sk<|Kf z<|Ag z<|Nr<|E1 H
theorem C4a {h a b c d e} (j:I1 h a b) (H:B4M b c d=some e):∀ L,FnW prog 208 [.agg a.toArray,.int .i64 c,.int .i64 d] h L (.bool e):=by
 intro L
 obtain ⟨f,rfl,g⟩:=j
 refine I7.enter func208 z z z<|Sr<|To (O.T9 z z z λr s t i=>An z<|Sr<|Vv (V.ldS z i (by exact I8)) ?_)
 refine Mv z<|Mv z<|bE H λw k H=>To (O.cs (A6P ⟨f,z,g.u⟩ k _) λy B=>Mv z<|T.bH 11 H z (λH=>?_) λH=>?_)
 ·exact S2<|S2<|Kt z<|Ag z<|Nr<|E1 H
 refine Vv (V.ldS z i.u (by exact I8)) ?_
 exact Mv z<|Mv z<|bE H λC o H=>To (O.cs (A6W ⟨f,z,g.u⟩ o _) λE I=>Kf z<|Ag z<|Nr<|E1 H)
theorem C1N {h Y D r Z} (aB:I1 h Y D) (H:B2t D r=some Z):∀ L,I7 prog 157 [.agg Y.toArray,.int .i64 r] h (L) (λv h' L'=>∃ aa,L'=F3 3 1 v aa::L∧A8 (VI .i64) h' aa Z):=by
 intro L
 obtain ⟨ab,rfl,ac⟩:=aB
 refine I7.enter func157 z z z<|Sr<|To (O.T9 z z z λbx bA bB ad=>An z<|Sr<|Vv (V.ldS z ad (by exact I8)) ?_)
 refine bE H λaC aD H=>To (O.cs (A2m ⟨ab,z,ac.u⟩ aD _) λaE bG=>bE H λK ae H=>To (O.mkX A9 J6 z z z z ae z λg bI bJ=>have af:A8 (VI .i64) aE _ K:=A8.rep z ae; An z<|Sq<|Sm z<|Vv (V.A2p A9 z (j:=0) z af.len)<|Mv z<|Nt ?_))
 obtain ⟨aJ,aK,aM⟩:=J4 H
 have H:=aK
 refine Bl<|T.lk [1,2,15] (FUEL,(0:Int),K,(List.replicate aC.toNat [qi 0])) (λ⟨s,i,t,c⟩=>([(16,qi i),(5,g)],F3 3 1 g c::L,λhh=>iter (A3H K) s (i,t)=some aJ∧A8 (VI .i64) hh c t)) ⟨H,af⟩ ?_
 rintro ⟨s,i,t,c⟩ G bK ⟨aN,k⟩
 obtain ⟨aO,bM,rfl,H,ai⟩:=G5 aN
 refine T.norm [16,5,1,2,15] z<|T.fl ?_
 refine Sr<|Wl z z<|Nt<|Sq<|T.cH H z (λH=>?_) λH=>?_
 ·refine Ks<|Sq<|Bl<|Sm z<|An z<|Rg<|Mv z<|Mv z<|bE H λbN M H=>?_
  obtain ⟨bO,bP,rfl⟩:=A8.get k M
  refine Vv (V.ixR A9 z z (j:=0) z (A8.bd k M))<|bE H λaj aP H=>To (O.stR D6 z z (j:=0) z (A8.bdN k M) z<|have aS:A8 (VI .i64) G (c.set i.toNat [qi (-1)]) aj:=A8.set k (show (VI .i64) G [qi (-1)] (-1:Int) from z) aP; Ni<|Bn<|Th<|Rg<|bE H λaU aV H=>Ws z z aV<|Mv z<|Nt<|T.ag (aO,aU,aj,(c.set i.toNat [qi (-1)])) ⟨(D8 H ai),aS⟩)
 refine Xt<|have H:=D5 H ai; Be<|Th<|have H:=H7 H aM; Sm z<|Mv z<|bE H λbS N H=>?_
 obtain ⟨bU,bV,rfl⟩:=A8.get k N
 refine Vv (V.ixR A9 z z (j:=0) z (A8.bd k N))<|bE H λak aW H=>To (O.stR D6 z z (j:=0) z (A8.bdN k N) z<|have aX:A8 (VI .i64) G (c.set r.toNat [qi 0]) ak:=A8.set k (show (VI .i64) G [qi 0] (0:Int) from z) aW; Nt<|Sm z<|To (O.b1 (E:=VI .i64) A9 J6 z z z z z λaY aZ=>An z<|Sq ?_))
 obtain ⟨a0,a1,a2⟩:=J4 H
 have H:=a1
 refine Bl<|Fr_ 1 z<|T.lk [2] (FUEL,ak,[r],(c.set r.toNat [qi 0]),(.slice (some ⟨aY,0,none⟩) 1 1),[[qi r]]) (λ⟨w,m,x,q,y,n⟩=>([(5,g),(7,y)],F3 3 1 g q::F3 3 1 y n::L,λhh=>iter (A8q D) w (m,x)=some a0∧A8 (VI .i64) hh q m∧A8 (VI .i64) hh n x)) ⟨H,aX,aZ⟩ ?_
 rintro ⟨w,m,x,q,y,n⟩ a3 bW ⟨a4,P,B⟩
 obtain ⟨a5,bX,rfl,H,am⟩:=G5 a4
 refine T.norm [5,7,2] z<|T.fl ?_
 refine Sq<|Sm z<|Vv (V.A2p A9 z (j:=1) z B.len)<|Wg z z<|Nt<|T.cH H z (λH=>?_) λH=>?_
 ·refine Ks<|Bl<|Sm z<|bE H λa6 an H=>?_
  obtain ⟨bY,a7,rfl⟩:=A8.get B an
  refine Vv (V.ixR A9 z z (j:=1) z (A8.bd B an))<|Vv (V.ldR D6 z (j:=1) z a7 z)<|An z<|Sm z<|bE H λao aq H=>To (O.slR A9 z z (j:=1) z (A8.slb B aq) z λa8=>have a9:A8 (VI .i64) a3 (List.drop (1:Int).toNat n) ao:=A8.sl B aq; An z<|Sm z<|Vv (V.A2p A9 z (j:=1) z P.len)<|Mv z<|Nt<|T.A0G ?_)
  obtain ⟨ah,al,av⟩:=J4 H
  have H:=al
  refine Bl<|Fr_ 1 z<|T.lk [2,8,37] (FUEL,m,(0:Int),ao,q,a8,(List.drop (1:Int).toNat n)) (λ⟨A,o,d,p,a,f,b⟩=>([(36,g),(38,qi d),(5,g),(7,f)],F3 3 1 g a::F3 3 1 f b::L,λhh=>iter (A7M D m a6) A (o,d,p)=some ah∧A8 (VI .i64) hh a o∧A8 (VI .i64) hh b p)) ⟨H,P,a9⟩ ?_
  rintro ⟨A,o,d,p,a,f,b⟩ bZ b0 ⟨az,e,I⟩
  obtain ⟨ar,b2,rfl,H,S⟩:=G5 az
  refine T.norm [36,38,5,7,2,8,37] z<|T.fl ?_
  refine Sr<|Wl z z<|Nt<|Sq<|T.cH H z (λH=>?_) λH=>?_
  ·refine Ks<|Sq<|Bl<|Sm z<|bE H λb3 au H=>?_
   obtain ⟨b4,ba,rfl⟩:=A8.get e au
   refine Vv (V.ixR A9 z z (j:=0) z (A8.bd e au))<|Vv (V.ldR D6 z (j:=0) z ba z)<|Ag z<|An z<|Sq ?_
   obtain ⟨bb,bc,be⟩:=J4 H
   refine T.ck (α:=Bool) [2,5,7,8,9,36,37,38] (λC=>([(50,.bool C)],F3 3 1 g a::F3 3 1 f b::L,λhh=>bb=C)) ?_ ?_
   ·have H:=bc
    refine Rg<|Mv z<|Wl z z<|Mv z<|T.bH 45 H z (λH=>?_) λH=>?_
    ·refine Vv (V.ldS z ad.u (by exact I8)) ?_
     refine Mv z<|Mv z<|bE H λbf bg H=>To (O.G6 z (C4a ⟨ab,z,ac.u⟩ bg _) z λb5 b6 b7 b8 bi=>?_)
     obtain ⟨rfl,bj⟩:=bi
     refine O8 _ bj<|Kt z<|Nt<|T.mt bf (K9 H)
    refine S2<|S2<|Kf z<|Nt<|T.mt false (K9 H)
   rintro C U b9 bk
   have H:=H7 bk be
   refine T.norm [50,2,5,7,8,9,36,37,38] z<|T.fl ?_
   refine T.cH H z (λH=>?_) λH=>?_
   ·refine Sm z<|Mv z<|Mv z<|Mv z<|bE H λbh aw H=>?_
    obtain ⟨bl,bm,rfl⟩:=A8.get e aw
    refine Vv (V.ixR A9 z z (j:=0) z (A8.bd e aw))<|Vv (V.ldR D6 z (j:=0) z bm z)<|bE H λJ bn H=>Ws z z bn<|bE H λbv W H=>?_
    obtain ⟨bz,ca,rfl⟩:=A8.get e W
    refine Vv (V.ixR A9 z z (j:=0) z (A8.bd e W))<|bE H λax bo H=>To (O.stR D6 z z (j:=0) z (A8.bdN e W) z<|have bp:A8 (VI .i64) U (a.set d.toNat [qi J]) ax:=A8.set e.u (show (VI .i64) U [qi J] J from z) bo; Nt<|Rg<|Mv z<|Mv z<|To (O.b1 (E:=VI .i64) A9 J6 z z z z z λcb X=>bE H λay aA H=>To (O.ax A9 J6 2 I.u X aA VI.plain λbq br=>T.fl ?_)))
    refine T.fs [1] ?_
    refine T.drop<|Ag z<|Ni<|Bn<|Th<|Rg<|bE H λbs bt H=>Ws z z bt<|Mv z<|Nt<|Fr_ 1 z<|T.ag (ar,ax,bs,ay,(a.set d.toNat [qi J]),bq,(b++[[qi d]])) ⟨(D8 H S),bp,br⟩
   refine T.skip<|Bn<|Th<|Rg<|bE H λbu bw H=>Ws z z bw<|Mv z<|Nt<|T.ag (ar,o,bu,p,a,f,b) ⟨(D8 H S),e.u,I.u⟩
  refine Xt<|have H:=D5 H S; Be<|Th<|have H:=H7 H av; Bn<|Th<|T.ag (a5,o,p,a,f,b) ⟨(D8 H am),e,I⟩
 refine Xt<|have H:=D5 H am; Be<|Th<|have H:=H7 H a2; Sm z<|Ag z<|Nr<|Fr_ 1 z<|T.drop ?_
 cases H
 exact T.rl z (Rv z) ⟨_,z,P⟩
theorem B4n {h o p q} (D:I1 h o p) (H:A3V p=some q):∀ L,I7 prog 105 [.agg o.toArray] h (L) (λv h' L'=>∃ r,L'=F3 3 1 v r::L∧A8 (VI .i64) h' r q):=by
 intro L
 obtain ⟨E,rfl,G⟩:=D
 refine I7.enter func105 z z z<|Sr<|To (O.T9 z z z λaG aI aJ f=>An z<|Sr<|Vv (V.fa A3c z)<|Wd 1 A6h z f z<|bE H λ⟨I,aK⟩ J H=>To (O.G6 z (A2M J _) z λaM aN aO aP K=>?_))
 obtain ⟨M,N,P,S,U,rfl,W,X,Y,Z,s,aa⟩:=K
 refine O8 _ W<|Mv z<|Wx z z<|Wx z z<|To (O.alloc A7B z z λaS=>To (O.stF (vs:=[.string I.A7f,M,N,P,S,U]) A0w z z (j:=0) z z (by (simp only [BT,X.1.1,Y.1.1,Z.1.1,s.1.1,aa.1.1]) <;> rfl) z ?_))
 refine T.freeze λab aU ac=>have ad:=Y2.of ac; An z<|Sq<|T.dw (.vs [0,1,2,3,4,5,6] (.alt 7 (.alt 8 (.alt 9 .done .no) .no) .no)) 11 0 0 ?_
 refine Tv z (V.ldS z f.u (by exact I8)) ?_
 refine Tv z (V.fa C3F z)<|Td z 4 C3h z ad z<|Tv z (V.fa X6 z)<|Td z 2 D6 z f.u z<|Tv z (V.fa A0H z)<|Td z 3 D6 z f.u z<|bE H λaV ae H=>?_
 obtain ⟨aW,aX,aY,af,ai⟩:=B0r.call (s.u (g:=ab)) ae
 refine Tp z z (X2 z z) (O.A1b z af z (ai _) z λaZ a0 a1 a2 aj=>?_) T.O4
 obtain ⟨rfl,ak⟩:=aj
 refine O8 _ ak<|bE H λw am H=>Tp z z (SX.two (XA.fr [] Li z) (XA.fr [] Li z)) (O.G6 z (C1N ⟨E,z,G.u⟩ am _) z λi a3 a4 a5 an=>?_) T.O4
 obtain ⟨ao,ap,x⟩:=an
 refine O8 _ ap<|Ts z z (SX.two (XA.fr [] Li z) (XA.fr [] Li z)) (V.asg z) z ?_ T.O4
 refine T.M9 (SX.two (XA.fr [] Li z) (XA.fr [] Li z))<|Th<|Sq<|Sm z<|Vv (V.A2p A9 z (j:=0) z x.len)<|Mv z<|Nt ?_
 obtain ⟨aq,ar,au⟩:=J4 H
 have H:=ar
 refine Bl<|T.lk [24] (FUEL,w,(0:Int),ao) (λ⟨e,a,d,b⟩=>([(23,i),(25,qi d),(5,i)],F3 3 1 i b::L,λhh=>iter (A6J w) e (a,d)=some aq∧A8 (VI .i64) hh b a)) ⟨H,x⟩ ?_
 rintro ⟨e,a,d,b⟩ y a6 ⟨aw,c⟩
 obtain ⟨A,a7,rfl,H,m⟩:=G5 aw
 refine T.norm [23,25,5,24] z<|T.fl ?_
 refine Sr<|Wl z z<|Nt<|Sq<|T.cH H z (λH=>?_) λH=>?_
 ·refine Ks<|Sq<|Bl<|Sm z<|bE H λa8 B H=>?_
  obtain ⟨a9,ax,rfl⟩:=A8.get c B
  refine Vv (V.ixR A9 z z (j:=0) z (A8.bd c B))<|Vv (V.ldR D6 z (j:=0) z ax z)<|Ag z<|An z<|Sm z<|Wl z z<|Nt<|T.cH H z (λH=>?_) λH=>?_
  ·refine Rg<|Mv z<|Mv z<|Mv z<|Vv (V.A2p A9 z (j:=0) z c.len)<|bE H λah n H=>?_
   obtain ⟨al,av,rfl⟩:=A8.get c n
   refine Vv (V.ixR A9 z z (j:=0) z (A8.bd c n))<|bE H λC ay H=>To (O.stR D6 z z (j:=0) z (A8.bdN c n) z<|have aA:A8 (VI .i64) y (b.set d.toNat [qi (a.length:Int)]) C:=A8.set c (show (VI .i64) y [qi (a.length:Int)] (a.length:Int) from z) ay; Ni<|Bn<|Th<|Rg<|bE H λaB aC H=>Ws z z aC<|Mv z<|Nt<|T.ag (A,C,aB,(b.set d.toNat [qi (a.length:Int)])) ⟨(D8 H m),aA⟩)
  refine T.skip<|Bn<|Th<|Rg<|bE H λaD aE H=>Ws z z aE<|Mv z<|Nt<|T.ag (A,a,aD,b) ⟨(D8 H m),c⟩
 refine Xt<|have H:=D5 H m; Be<|Th<|have H:=H7 H au; Sm z<|Ag z<|Nr ?_
 cases H
 exact T.rl z (Rv z) ⟨_,z,c⟩
theorem B1b {h j g m} (o:I1 h j g) (H:A5T g=some m):∀ L,FnW prog 166 [.agg j.toArray] h L (.int .i64 m):=by
 intro L
 obtain ⟨p,rfl,e⟩:=o
 refine I7.enter func166 z z z<|Sr<|To (O.T9 z z z λK M N a=>An z<|Sr<|Vv (V.ldS z a (by exact I8)) ?_)
 refine bE H λq r H=>To (O.cs (A2m ⟨p,z,e.u⟩ r _) λS W=>An z<|Sr<|An z<|Sq<|Bl<|Sr<|Vv (V.fa A0i z)<|Wd 0 J3 z a.u z<|bE H λX w H=>To (O.cs (C3w w _) λZ ab=>Vv (V.not z)<|An z<|T.cH H z (λH=>?_) λH=>?_))
 ·exact Sg z<|Nr<|Br<|Tr<|E1 H
 refine Sm z<|We z z<|An z<|T.cH H z (λH=>?_) λH=>?_
 ·exact Sg z<|Nr<|Br<|Tr<|E1 H
 refine T.skip<|Bn<|Th<|Sq<|Sr<|Vv (V.fa X8 z)<|Wd 4 D9 z a.u z<|Vv (V.P7 A9 z e)<|Mv z<|Nt ?_
 obtain ⟨A,B,i⟩:=J4 H
 have H:=B
 refine Bl<|T.lk [1,3,18,19] (FUEL,(0:Int),(-1:Int)) (λ⟨b,c,d⟩=>([(20,qi c),(4,qi d)],L,λhh=>iter (A1z g q) b (c,d)=some A)) H ?_
 rintro ⟨b,c,d⟩ ac ad C
 obtain ⟨D,ae,rfl,H,f⟩:=G5 C
 refine T.norm [20,4,1,3,18,19] z<|T.fl ?_
 refine Sr<|Wl z z<|Nt<|Sq<|T.cH H z (λH=>?_) λH=>?_
 ·refine Ks<|Sq<|Bl<|Sr<|bE H λE n H=>?_
  obtain ⟨af,G,rfl⟩:=G9.at e n
  refine Vv (V.ix A9 z z e (E8 n))<|Vv (V.Q9 D6 z G.u z)<|An z<|Sq<|Sm z<|Mv z<|Vv (V.le z z)<|Mv z<|T.bH 27 H z (λH=>?_) λH=>?_
  ·exact S2<|Sk<|Kt z<|Nt<|Ct z<|Sg z<|Nr<|Tr<|Br<|Tr<|Tr<|have H:=D5 H f; Br<|Tr<|have H:=H7 H i; E1 H
  refine Mv z<|Mv z<|Vv (V.ge z z)<|Kf z<|Nt<|T.cH H z (λH=>?_) λH=>?_
  ·exact Sg z<|Nr<|Tr<|Br<|Tr<|Tr<|have H:=D5 H f; Br<|Tr<|have H:=H7 H i; E1 H
  refine Ks<|Rg<|Mv z<|Ag z<|Ni<|Bn<|Th<|Rg<|bE H λI J H=>Ws z z J<|Mv z<|Nt<|T.ag (D,I,E) (D8 H f)
 refine Xt<|have H:=D5 H f; Be<|Th<|have H:=H7 H i; Sq<|Sr<|Vv (V.fa B7v z)<|Wd 5 D6 z a.u z<|Wl z z<|Mv z<|T.bH 37 H z (λH=>?_) λH=>?_
 ·exact S2<|Sk<|Kt z<|Mv z<|S2<|Sk<|Kt z<|Mv z<|S2<|Sk<|Kt z<|Nt<|Ct z<|Sg z<|Nr<|Tr<|E1 H
 refine Vv (V.fa B7v z)<|Wd 5 D6 z a.u z<|Wg z z<|Kf z<|Mv z<|T.bH 42 H z (λH=>?_) λH=>?_
 ·exact S2<|Sk<|Kt z<|Mv z<|S2<|Sk<|Kt z<|Nt<|Ct z<|Sg z<|Nr<|Tr<|E1 H
 refine Vv (V.fa B6M z)<|Wd 6 D6 z a.u z<|Wl z z<|Kf z<|Mv z<|T.bH 47 H z (λH=>?_) λH=>?_
 ·exact S2<|Sk<|Kt z<|Nt<|Ct z<|Sg z<|Nr<|Tr<|E1 H
 refine Vv (V.fa B6M z)<|Wd 6 D6 z a.u z<|Wg z z<|Kf z<|Nt<|T.cH H z (λH=>?_) λH=>?_
 ·exact Sg z<|Nr<|Tr<|E1 H
 exact Ks<|Sg z<|Nr<|E1 H
theorem B7H {h a b c d e f} (g:I1 h a b) (i:Y2 h c d) (j:I1 h d e) (H:A6D b e=some f):∀ L,FnW prog 170 [.agg a.toArray,.pointer (some c)] h L (.bool f):=by
 intro L
 obtain ⟨n,rfl,o⟩:=g
 obtain ⟨p,rfl,q⟩:=j
 refine I7.enter func170 z z z<|Sr<|To (O.T9 z z z λr s t m=>An z<|Sr<|Vv (V.fa A0i z)<|Wd 0 J3 z m z<|Vv (V.fa A0i z)<|Wd 0 J3 z i.u z<|Vv (V.seq z z)<|Ag z<|Nr ?_)
 exact E1 H
theorem B1R {h m f n o} (d:G9 I1 7 h m f) (H:A5w f=some (n,o)):∀ L,FnW prog 125 [m] h L (.tuple #[.int .i64 n,.int .i64 o]):=by
 intro L
 refine I7.enter func125 z z z<|Sg z<|An z<|Sq<|Sm z<|Vv (V.P7 O1 z d)<|Wg z z<|Nt<|T.cH H z (λH=>?_) λH=>?_
 ·exact Sg z<|Ag z<|Nr<|Tr<|E1 H
 refine Ks<|Sq<|Sm z<|Vv (V.P7 O1 z d)<|Mv z<|Nt ?_
 obtain ⟨w,x,g⟩:=J4 H
 have H:=x
 refine Bl<|T.lk [0,10,11] (FUEL,(0:Int)) (λ⟨b,c⟩=>([(12,qi c)],L,λhh=>iter (A4J f) b c=some w)) H ?_
 rintro ⟨b,c⟩ ab ac y
 obtain ⟨A,ad,rfl,H,e⟩:=G5 y
 refine T.norm [12,0,10,11] z<|T.fl ?_
 refine Sr<|Wl z z<|Nt<|Sq<|T.cH H z (λH=>?_) λH=>?_
 ·refine Ks<|Sq<|Bl<|Sm z<|bE H λa p H=>?_
  obtain ⟨ae,B,⟨i,rfl,k⟩⟩:=G9.at d p
  refine Vv (V.ix O1 z z d (E8 p))<|Vv (V.ldS z B.u (by exact I8)) ?_
  refine To (O.alloc A1O z z λq=>Ag z<|To (O.stF (vs:=[.string a.F8,.int .u8 a.P8,qi a.fA,qi a.fB,i,qi a.fX,qi a.fY]) I8 z z (j:=0) z z (by (simp only [BT,G9.one k]) <;> rfl) z ?_))
  refine T.freeze λaf ai C=>have r:=Y2.of C; Nt<|Sq<|Sr<|Vv (V.ldS z r (by exact I8)) ?_
  refine bE H λaj D H=>To (O.cs (B1b ⟨i,z,k.u⟩ D _) λs an=>An z<|Sm z<|Wn z z<|Nt<|T.cH H z (λH=>?_) λH=>?_)
  ·exact Sm z<|Mv z<|Ag z<|Ag z<|Nr<|Tr<|Br<|Tr<|Tr<|have H:=D5 H e; Br<|Tr<|have H:=H7 H g; E1 H
  refine Ks<|Sm z<|Mv z<|bE H λI t H=>T.slM z O1 z d.u (.inl ⟨z,z⟩) (.inr ⟨_,_,z,z⟩) (A3O t).2 z λJ K ao=>?_
  have M:G9 I1 7 s J I:=by rw [(A3O t).1]; exact K
  refine Vv (V.mkf z z)<|bE H λap N H=>To (O.cs (B1D M (show B0s s (.func (.func 170) #[] #[qp q]) (λP=>A6D P a) from ⟨⟨z,z⟩,.inr ⟨170,[],[qp q],z,λaq ar au aw S ax U W=>B7H S r.u ⟨i,z,k.u⟩ U W⟩⟩) N _) λaA aC=>Nt<|T.cH H z (λH=>?_) λH=>?_)
  ·exact Sm z<|Ag z<|Ag z<|Nr<|Br<|Tr<|Tr<|have H:=D5 H e; Br<|Tr<|have H:=H7 H g; E1 H
  refine T.skip<|Bn<|Th<|Rg<|bE H λZ aa H=>Ws z z aa<|Mv z<|Nt<|T.ag (A,Z) (D8 H e)
 exact Xt<|have H:=D5 H e; Be<|Th<|have H:=H7 H g; Sg z<|Ag z<|Nr<|E1 H
theorem C2F {h a b c d e f} (g:I1 h a b) (i:Y2 h c d) (j:VS h d e) (H:B2K b e=some f):∀ L,FnW prog 207 [.agg a.toArray,.pointer (some c)] h L (.bool f):=by
 intro L
 obtain ⟨n,rfl,o⟩:=g
 obtain rfl:=j
 refine I7.enter func207 z z z<|Sr<|To (O.T9 z z z λp q r m=>An z<|Sr<|Vv (V.fa A0i z)<|Wd 0 J3 z m z<|Vv (V.Q9 J3 z i.u z)<|Vv (V.seq z z)<|Ag z<|Nr ?_)
 exact E1 H
theorem A5x {h a b c} (d:G9 I1 7 h a b) (H:A3q b=some c):∀ L,FnW prog 63 [a] h L (.bool c):=by
 intro L
 exact I7.enter func63 z z z<|Sr<|An z<|Sm z<|bE H λ⟨i,j⟩ e H=>To (O.cs (B1R d e _) λm o=>Mv z<|Wx z z<|Wx z z<|Ag z<|An z<|Sm z<|We z z<|Ag z<|Nr<|E1 H)
theorem A5l {h i k m n} (f:G9 I1 7 h i k) (H:A2n k m=some n):∀ L,FnW prog 43 [i,.int .i64 m] h L (.int .i64 n):=by
 intro L
 refine I7.enter func43 z z z<|Sr<|An z<|Sq<|Sq ?_
 obtain ⟨w,x,y⟩:=J4 H
 refine T.ck (α:=Bool) [0,1] (λe=>([(20,.bool e)],L,λhh=>w=e)) ?_ ?_
 ·have H:=x
  refine Rg<|Mv z<|Wl z z<|Mv z<|T.bH 10 H z (λH=>?_) λH=>?_
  ·refine S2<|S2<|Kt z<|Mv z<|S2<|Sk<|Kt z<|Nt<|T.mt true (K9 H)
  refine Mv z<|Mv z<|Vv (V.P7 O1 z f)<|Vv (V.ge z z)<|Kf z<|Mv z<|T.bH 16 H z (λH=>?_) λH=>?_
  ·refine S2<|Sk<|Kt z<|Nt<|T.mt true (K9 H)
  refine Mv z<|bE H λA B H=>To (O.G6 z (A5x f B _) z λaf ai aj ak C=>?_)
  obtain ⟨rfl,D⟩:=C
  refine O8 _ D<|Vv (V.not z)<|Kf z<|Nt<|T.mt (!A) (K9 H)
 rintro e E am G
 have H:=H7 G y
 refine T.norm [20,0,1] z<|T.fl ?_
 refine T.cH H z (λH=>?_) λH=>?_
 ·exact Sg z<|Nr<|Tr<|E1 H
 refine Ks<|Sr<|An z<|Sq<|Sm z<|Mv z<|bE H λo p H=>T.slM z O1 z f.u (.inl ⟨z,z⟩) (.inr ⟨_,_,z,z⟩) (A3O p).2 z λI J an=>?_
 have g:G9 I1 7 E I o:=by rw [(A3O p).1]; exact J
 refine Vv (V.P7 O1 z g)<|Mv z<|Nt ?_
 obtain ⟨K,M,N⟩:=J4 H
 have H:=M
 refine Bl<|T.lk [23,24] (FUEL,(0:Int),(0:Int)) (λ⟨a,b,c⟩=>([(25,qi b),(5,qi c)],L,λhh=>iter (A3I o) a (b,c)=some K)) H ?_
 rintro ⟨a,b,c⟩ ao ap P
 obtain ⟨S,aq,rfl,H,q⟩:=G5 P
 refine T.norm [25,5,23,24] z<|T.fl ?_
 refine Sr<|Wl z z<|Nt<|Sq<|T.cH H z (λH=>?_) λH=>?_
 ·refine Ks<|Sq<|Bl<|Sr<|bE H λd r H=>?_
  obtain ⟨ar,U,⟨s,rfl,t⟩⟩:=G9.at g r
  refine Vv (V.ix O1 z z g (E8 r))<|Vv (V.ldS z U.u (by exact I8)) ?_
  refine To (O.alloc A1O z z λau=>To (O.stF (vs:=[.string d.F8,.int .u8 d.P8,qi d.fA,qi d.fB,s,qi d.fX,qi d.fY]) I8 z z (j:=0) z z (by (simp only [BT,G9.one t]) <;> rfl) z ?_))
  refine T.freeze λaw ax W=>have X:=Y2.of W; Nt<|Rg<|Mv z<|Vv (V.ldS z X (by exact I8)) ?_
  refine bE H λay Y H=>To (O.G6 z (A2m ⟨s,z,t.u⟩ Y _) z λaA aB aC aD Z=>?_)
  obtain ⟨rfl,aa⟩:=Z
  refine O8 _ aa<|bE H λab ac H=>Ws z z ac<|Ag z<|Ni<|Bn<|Th<|Rg<|bE H λad ae H=>Ws z z ae<|Mv z<|Nt<|T.ag (S,ad,ab) (D8 H q)
 exact Xt<|have H:=D5 H q; Be<|Th<|have H:=H7 H N; Sm z<|Ag z<|Nr<|E1 H
theorem B8N {h b c d} (a:G9 I1 7 h b c) (H:A7U c=some d):∀ L,FnW prog 104 [b] h L (.int .i64 d):=by
 intro L
 refine I7.enter func104 z z z<|Sr<|An z<|Sq<|Sm z<|Vv (V.P7 O1 z a)<|We z z<|Nt<|T.cH H z (λH=>?_) λH=>?_
 ·exact Sg z<|Nr<|Tr<|E1 H
 refine Ks<|Sm z<|Mv z<|Vv (V.P7 O1 z a)<|bE H λo f H=>Vv (V.X9 z z f)<|bE H λp e H=>?_
 obtain ⟨q,g,⟨i,rfl,j⟩⟩:=G9.at a e
 refine Vv (V.ix O1 z z a (E8 e))<|Vv (V.ldS z g (by exact I8)) ?_
 exact bE H λr k H=>To (O.cs (A2m ⟨i,z,j⟩ k _) λt w=>Ag z<|Nr<|E1 H)
theorem A7L {h b c d} (a:G9 I1 7 h b c) (H:A2u c=some d):∀ L,FnW prog 44 [b] h L (.int .i64 d):=by
 intro L
 refine I7.enter func44 z z z<|Sr<|An z<|Sq<|Sm z<|bE H λr e H=>To (O.cs (A5x a e _) λt x=>Vv (V.not z)<|Nt<|T.cH H z (λH=>?_) λH=>?_)
 ·exact Sg z<|Nr<|Tr<|E1 H
 exact Ks<|Sm z<|Mv z<|Vv (V.P7 O1 z a)<|bE H λy i H=>Vv (V.X9 z z i)<|bE H λA j H=>To (O.cs (A5l a.u j _) λC E=>Mv z<|bE H λG n H=>To (O.cs (B8N a.u n _) λJ M=>bE H λN q H=>Ws z z q<|Ag z<|Nr<|E1 H))
theorem A5z {h m g i n o p} (f:G9 I1 7 h m g) (H:A1P g i=some (n,o,p)):∀ L,FnW prog 24 [m,.int .i64 i] h L (.tuple #[.int .i64 n,.int .i64 o,.bool p]):=by
 intro L
 refine I7.enter func24 z z z<|Sg z<|Ag z<|An z<|Sq<|Sq ?_
 obtain ⟨w,x,y⟩:=J4 H
 refine T.ck (α:=Bool) [0,1] (λe=>([(16,.bool e)],L,λhh=>w=e)) ?_ ?_
 ·have H:=x
  refine Rg<|Mv z<|Wl z z<|Mv z<|T.bH 12 H z (λH=>?_) λH=>?_
  ·refine S2<|Sk<|Kt z<|Nt<|T.mt true (K9 H)
  refine Mv z<|bE H λA B H=>To (O.G6 z (A5x f B _) z λab ac ad ae C=>?_)
  obtain ⟨rfl,D⟩:=C
  refine O8 _ D<|Vv (V.not z)<|Kf z<|Nt<|T.mt (!A) (K9 H)
 rintro e af ai E
 have H:=H7 E y
 refine T.norm [16,0,1] z<|T.fl ?_
 refine T.cH H z (λH=>?_) λH=>?_
 ·exact Sg z<|Ag z<|Ag z<|Nr<|Tr<|E1 H
 refine Ks<|Sq<|Sm z<|Vv (V.P7 O1 z f)<|Mv z<|Nt ?_
 obtain ⟨G,I,q⟩:=J4 H
 have H:=I
 refine Bl<|T.lk [17,18] (FUEL,i,(0:Int)) (λ⟨a,b,c⟩=>([(1,qi b),(19,qi c)],L,λhh=>iter (A3L g) a (b,c)=some G)) H ?_
 rintro ⟨a,b,c⟩ aj ak J
 obtain ⟨K,am,rfl,H,k⟩:=G5 J
 refine T.norm [1,19,17,18] z<|T.fl ?_
 refine Sr<|Wl z z<|Nt<|Sq<|T.cH H z (λH=>?_) λH=>?_
 ·refine Ks<|Sq<|Bl<|Sm z<|bE H λd r H=>?_
  obtain ⟨an,M,⟨s,rfl,t⟩⟩:=G9.at f r
  refine Vv (V.ix O1 z z f (E8 r))<|Vv (V.ldS z M.u (by exact I8)) ?_
  refine To (O.alloc A1O z z λao=>Ag z<|To (O.stF (vs:=[.string d.F8,.int .u8 d.P8,qi d.fA,qi d.fB,s,qi d.fX,qi d.fY]) I8 z z (j:=0) z z (by (simp only [BT,G9.one t]) <;> rfl) z ?_))
  refine T.freeze λap aq N=>have P:=Y2.of N; Nt<|Sr<|Vv (V.ldS z P (by exact I8)) ?_
  refine bE H λar S H=>To (O.cs (A2m ⟨s,z,t.u⟩ S _) λaw ay=>An z<|Sq<|Sm z<|Mv z<|Wl z z<|Nt<|T.cH H z (λH=>?_) λH=>?_)
  ·exact Sm z<|Mv z<|Ag z<|Ag z<|Ag z<|Nr<|Tr<|Br<|Tr<|Tr<|have H:=D5 H k; Br<|Tr<|have H:=H7 H q; E1 H
  refine Ks<|Rg<|Mv z<|Mv z<|bE H λX Y H=>Vv (V.X9 z z Y)<|Ag z<|Ni<|Bn<|Th<|Rg<|bE H λZ aa H=>Ws z z aa<|Mv z<|Nt<|T.ag (K,X,Z) (D8 H k)
 exact Xt<|have H:=D5 H k; Be<|Th<|have H:=H7 H q; Sg z<|Ag z<|Ag z<|Nr<|E1 H
theorem C4h {h b c a d e} (f:G9 I1 7 h b c) (H:B4L c a=some (d,e)):∀ L,FnW prog 142 [b,.string a] h L (.tuple #[.int .i64 d,.bool e]):=by
 intro L
 refine I7.enter func142 z z z<|Sr<|To (O.T9 z z z λg i y j=>Ag z<|An z<|Sm z<|Vv (V.mkf z z)<|bE H λA k H=>To (O.cs (A8B f.u (show B0s i (.func (.func 207) #[] #[qp g]) (λm=>B2K m a) from ⟨⟨z,z⟩,.inr ⟨207,[],[qp g],z,λn B C D o E p q=>C2F o j.u (show VS n [.string a] a from z) p q⟩⟩) k _) λI K=>An z<|Sq<|Sm z<|Wl z z<|Mv z<|T.bH 12 H z (λH=>?_) λH=>?_))
 ·exact S2<|Sk<|Kt z<|Nt<|Ct z<|Sg z<|Ag z<|Nr<|Tr<|E1 H
 refine Mv z<|bE H λM t H=>To (O.cs (A5x f.u t _) λP U=>Vv (V.not z)<|Kf z<|Nt<|T.cH H z (λH=>?_) λH=>?_)
 ·exact Sg z<|Ag z<|Nr<|Tr<|E1 H
 exact Ks<|Sm z<|Ag z<|Ag z<|Nr<|E1 H
theorem B5A {h a b c} (g:I1 h a b) (H:B2J b=some c):∀ L,FnW prog 120 [.agg a.toArray] h L (.int .i64 c):=by
 intro L
 obtain ⟨d,rfl,e⟩:=g
 refine I7.enter func120 z z z<|Sr<|To (O.T9 z z z λp q r f=>An z<|Sq<|Sr<|Vv (V.ldS z f (by exact I8)) ?_)
 refine bE H λs i H=>To (O.cs (B1b ⟨d,z,e.u⟩ i _) λw y=>Wn z z<|Nt<|T.cH H z (λH=>?_) λH=>?_)
 ·exact Sg z<|Nr<|Tr<|E1 H
 refine Ks<|Sr<|Vv (V.ldS z f.u (by exact I8)) ?_
 exact bE H λA m H=>To (O.cs (A2m ⟨d,z,e.u⟩ m _) λC E=>Ag z<|Nr<|E1 H)
theorem C3T {h b c d e} (a:G9 I1 7 h b c) (H:B4Q c d=some e):∀ L,FnW prog 46 [b,.int .i64 d] h L (.bool e):=by
 intro L
 refine I7.enter func46 z z z<|Sr<|An z<|Sm z<|Mv z<|bE H λ⟨r,s,t⟩ g H=>To (O.cs (A5z a g _) λx A=>Mv z<|Wx z z<|Wx z z<|Wx z z<|Ag z<|Ag z<|An z<|Sm z<|Mv z<|T.bH 16 H z (λH=>?_) λH=>?_)
 ·refine Mv z<|Mv z<|bE H λB f H=>?_
  obtain ⟨C,m,⟨D,rfl,n⟩⟩:=G9.at a f
  exact Vv (V.ix O1 z z a (E8 f))<|Vv (V.fa X8 z)<|Wd 4 D9 z m.u z<|Mv z<|bE H λE o H=>To (O.cs (A2f n.u o _) λI K=>Kt z<|Ag z<|Nr<|E1 H)
 exact S2<|S2<|S2<|Sk<|Kf z<|Ag z<|Nr<|E1 H
theorem C2A {h b c d e} (a:G9 I1 7 h b c) (H:B2A c d=some e):∀ L,FnW prog 45 [b,.int .i64 d] h L (.int .i64 e):=by
 intro L
 refine I7.enter func45 z z z<|Sr<|An z<|Sm z<|Mv z<|bE H λ⟨x,y,A⟩ k H=>To (O.cs (A5z a k _) λC E=>Mv z<|Wx z z<|Wx z z<|Wx z z<|Ag z<|Ag z<|An z<|Sq<|Sm z<|Vv (V.not z)<|Nt<|T.cH H z (λH=>?_) λH=>?_)
 ·exact Sg z<|Nr<|Tr<|E1 H
 refine Ks<|Sm z<|Mv z<|bE H λG f H=>?_
 obtain ⟨I,o,⟨p,rfl,q⟩⟩:=G9.at a f
 refine Vv (V.ix O1 z z a (E8 f))<|Vv (V.ldS z o.u (by exact I8)) ?_
 refine bE H λJ r H=>To (O.G6 z (B4n ⟨p,z,q.u⟩ r _) z λK M N P s=>?_)
 obtain ⟨S,t,g⟩:=s
 refine O8 _ t<|Mv z<|bE H λU i H=>?_
 obtain ⟨W,w,rfl⟩:=A8.get g i
 exact Vv (V.ixR A9 z z (j:=0) z (A8.bd g i))<|Vv (V.ldR D6 z (j:=0) z w z)<|Ag z<|Nr<|T.drop<|E1 H
theorem B7D {h e f g i a k m n} (d:G9 I1 7 h e f) (H:A9w f g i=some (a,k,m,n)):∀ L,I7 prog 106 [e,.int .i64 g,.int .i64 i] h (L) (λv h' L'=>∃ v0_1,v=.tuple #[.agg #[.string a.F8,.int .u8 a.P8,.int .i64 a.fA,.int .i64 a.fB,v0_1,.int .i64 a.fX,.int .i64 a.fY],.int .i64 k,.int .i64 m,.bool n]∧L'=L∧G9 (VI .i64) 1 h' v0_1 a.A2Y):=by
 intro L
 refine I7.enter func106 z z z<|Sr<|To (O.alloc A1O z z λq=>Ag z<|Ag z<|An z<|Sm z<|Mv z<|bE H λ⟨r,K,M⟩ s H=>To (O.cs (A5z d s _) λP U=>Mv z<|Wx z z<|Wx z z<|Wx z z<|Ag z<|Ag z<|An z<|Sm z<|Mv z<|bE H λ⟨x,W,X⟩ y H=>To (O.cs (A5z d.u y _) λZ ab=>Mv z<|Wx z z<|Wx z z<|Wx z z<|Ag z<|Ag z<|An z<|Sq<|Sq ?_)))
 obtain ⟨C,D,E⟩:=J4 H
 refine T.ck (α:=Bool) [0,6,7,8,10] (λc=>([(38,.bool c)],blk q (.cells [.string qe,.int .u8 0,qi 0,qi 0,qs,qi 0,qi 0].toArray 139)::L,λhh=>C=c)) ?_ ?_
 ·have H:=D
  refine Rg<|Mv z<|Vv (V.not z)<|Mv z<|T.bH 30 H z (λH=>?_) λH=>?_
  ·refine S2<|Kt z<|Mv z<|S2<|Sk<|Kt z<|Nt<|T.mt true (K9 H)
  refine Mv z<|Vv (V.not z)<|Kf z<|Mv z<|T.bH 34 H z (λH=>?_) λH=>?_
  ·refine S2<|Sk<|Kt z<|Nt<|T.mt true (K9 H)
  refine Mv z<|Mv z<|Wn z z<|Kf z<|Nt<|T.mt (!decide (r=x)) (K9 H)
 rintro c ac ad G
 have H:=H7 G E
 refine T.norm [38,0,6,7,8,10] z<|T.fl ?_
 refine T.cH H z (λH=>?_) λH=>?_
 ·refine Sr<|Vv (V.bld (xs:=[]) (cs:=[_,_,_,_,_,_,_]) B8r B8t z F6.nil)<|To (O.stF (vs:=[.string qe,.int .u8 0,qi 0,qi 0,qs,qi 0,qi 0]) I8 z z (j:=0) z z z z<|Ag z<|Ag z<|Ag z<|Nr<|Tr ?_)
  cases H
  exact T.B0p (L':=L) results106 (RVs.cons (RV.cellS z (j:=0) z I8) (RVs.cons (RV.tmp z) (RVs.cons (RV.tmp z) (Rv z)))) Li (λ_ iv=>iv.drop) ⟨_,z,z,G9.nil⟩
 refine Ks<|Sm z<|Mv z<|bE H λb o H=>?_
 obtain ⟨ae,I,⟨J,rfl,p⟩⟩:=G9.at d o
 refine Vv (V.ix O1 z z d (E8 o))<|Vv (V.ldS z I.u (by exact I8)) ?_
 refine Mv z<|Mv z<|To (O.stF (vs:=[.string b.F8,.int .u8 b.P8,qi b.fA,qi b.fB,J,qi b.fX,qi b.fY]) I8 z z (j:=0) z z (by (simp only [BT,G9.one p]) <;> rfl) z ?_)
 refine Ag z<|Ag z<|Ag z<|Nr ?_
 cases H
 exact T.B0p (L':=L) results106 (RVs.cons (RV.cellS z (j:=0) z I8) (RVs.cons (RV.tmp z) (RVs.cons (RV.tmp z) (Rv z)))) Li (λ_ iv=>iv.drop) ⟨_,z,z,p.u⟩
theorem C1d {h b c d e f} (k:G9 I1 7 h b c) (H:B0M c d e=some f):∀ L,FnW prog 49 [b,.int .i64 d,.int .i64 e] h L (.bool f):=by
 intro L
 refine I7.enter func49 z z z<|Sr<|An z<|Sm z<|Mv z<|Mv z<|bE H λ⟨a,w,x,y⟩ m H=>To (O.G6 z (B7D k m _) z λA B C D n=>?_)
 obtain ⟨g,rfl,o,i⟩:=n
 refine O8 _ o<|Mv z<|Wx z z<|Wx z z<|Wx z z<|Wx z z<|To (O.alloc A1O z z λE=>To (O.stF (vs:=[.string a.F8,.int .u8 a.P8,qi a.fA,qi a.fB,g,qi a.fX,qi a.fY]) I8 z z (j:=0) z z (by (simp only [BT,G9.one i]) <;> rfl) z ?_))
 refine T.freeze λG I p=>have q:=Y2.of p; Ag z<|Ag z<|An z<|Sm z<|Mv z<|T.bH 21 H z (λH=>?_) λH=>?_
 ·refine Vv (V.ldS z q (by exact I8)) ?_
  exact Mv z<|Mv z<|bE H λJ r H=>To (O.cs (A6P ⟨g,z,i.u⟩ r _) λM P=>Kt z<|Ag z<|Nr<|E1 H)
 exact S2<|S2<|Kf z<|Ag z<|Nr<|E1 H
theorem C0g {h b c d e f} (k:G9 I1 7 h b c) (H:B0X c d e=some f):∀ L,FnW prog 51 [b,.int .i64 d,.int .i64 e] h L (.bool f):=by
 intro L
 refine I7.enter func51 z z z<|Sr<|An z<|Sm z<|Mv z<|Mv z<|bE H λ⟨a,w,x,y⟩ m H=>To (O.G6 z (B7D k m _) z λA B C D n=>?_)
 obtain ⟨g,rfl,o,i⟩:=n
 refine O8 _ o<|Mv z<|Wx z z<|Wx z z<|Wx z z<|Wx z z<|To (O.alloc A1O z z λE=>To (O.stF (vs:=[.string a.F8,.int .u8 a.P8,qi a.fA,qi a.fB,g,qi a.fX,qi a.fY]) I8 z z (j:=0) z z (by (simp only [BT,G9.one i]) <;> rfl) z ?_))
 refine T.freeze λG I p=>have q:=Y2.of p; Ag z<|Ag z<|An z<|Sm z<|Mv z<|T.bH 21 H z (λH=>?_) λH=>?_
 ·refine Vv (V.ldS z q (by exact I8)) ?_
  exact Mv z<|Mv z<|bE H λJ r H=>To (O.cs (A6W ⟨g,z,i.u⟩ r _) λM P=>Kt z<|Ag z<|Nr<|E1 H)
 exact S2<|S2<|Kf z<|Ag z<|Nr<|E1 H
end Go.Proofs.X
open Go Go.Proofs Go.Proofs.Tryz Go.Sl Go.Dm
namespace Go.Proofs.X
theorem C4B:A5A prog 193=some ([.slice none 0 0,.slice none 0 0,.map none],[(0,2),(2,1)]):=by kernel_rfl
theorem C5Y:A0B prog 193=true:=by kernel_rfl
theorem B5v:O5 prog 121 3=some 3:=by kernel_rfl
theorem A5p:O5 prog 121 4=some 4:=by kernel_rfl
theorem A8l:O5 prog 168 0=some 0:=by kernel_rfl
theorem A8r:O5 prog 168 1=some 1:=by kernel_rfl
theorem B5k:O5 prog 168 2=some 2:=by kernel_rfl
theorem A5n:O5 prog 190 0=some 0:=by kernel_rfl
theorem A5j:O5 prog 190 1=some 1:=by kernel_rfl
theorem A0D:O5 prog 193 0=some 0:=by kernel_rfl
theorem A4W:O5 prog 193 1=some 2:=by kernel_rfl
theorem B0Z:U1 prog 124=some (false,1):=by kernel_rfl
theorem A1C:U1 prog 168=some (true,3):=by kernel_rfl
theorem A8L:U1 prog 191=some (false,1):=by kernel_rfl
theorem B1k {h d g} (H:A7D d=some g):∀ L,FnW prog 209 [.string d] h L (.bool g):=by
 intro L
 refine I7.enter func209 z z z<|Sr<|An z<|Sq<|Sq ?_
 obtain ⟨i,j,k⟩:=J4 H
 refine T.ck (α:=Bool) [0] (λc=>([(11,.bool c)],L,λhh=>i=c)) ?_ ?_
 ·have H:=j
  refine Rg<|Mv z<|Vv (V.B2w underlying9 z)<|We z z<|Mv z<|T.bH 7 H z (λH=>?_) λH=>?_
  ·refine S2<|Sk<|Kt z<|Nt<|T.mt true (K9 H)
  refine Mv z<|Vv (V.B2w underlying9 z)<|Wg z z<|Kf z<|Nt<|T.mt (decide ((12:Int)<(d.size:Int))) (K9 H)
 rintro c w x m
 have H:=H7 m k
 refine T.norm [11,0] z<|T.fl ?_
 refine T.cH H z (λH=>?_) λH=>?_
 ·exact Sg z<|Nr<|Tr<|E1 H
 refine Ks<|Sq<|Sm z<|Vv (V.B2w underlying9 z)<|Mv z<|Nt ?_
 obtain ⟨n,o,f⟩:=J4 H
 have H:=o
 refine Bl<|T.lk [0,13] (FUEL,(0:Int)) (λ⟨a,b⟩=>([(14,qi b)],L,λhh=>iter (B1e d) a b=some n)) H ?_
 rintro ⟨a,b⟩ y A p
 obtain ⟨q,B,rfl,H,e⟩:=G5 p
 refine T.norm [14,0,13] z<|T.fl ?_
 refine Sr<|Wl z z<|Nt<|Sq<|T.cH H z (λH=>?_) λH=>?_
 ·refine Ks<|Sq<|Bl<|Sm z<|An z<|Sm z<|Mv z<|bE H λC r H=>Vv (V.C5P underlying9 z z r)<|Wl z z<|Mv z<|T.bH 21 H z (λH=>?_) λH=>?_
  ·exact S2<|S2<|Kt z<|Nt<|Ct z<|Sg z<|Nr<|Br<|Tr<|Tr<|have H:=D5 H e; Br<|Tr<|have H:=H7 H f; E1 H
  refine Mv z<|Mv z<|bE H λD s H=>Vv (V.C5P underlying9 z z s)<|Wg z z<|Kf z<|Nt<|T.cH H z (λH=>?_) λH=>?_
  ·exact Sg z<|Nr<|Br<|Tr<|Tr<|have H:=D5 H e; Br<|Tr<|have H:=H7 H f; E1 H
  refine T.skip<|Bn<|Th<|Rg<|bE H λt u H=>Ws z z u<|Mv z<|Nt<|T.ag (q,t) (D8 H e)
 exact Xt<|have H:=D5 H e; Be<|Th<|have H:=H7 H f; Sg z<|Nr<|E1 H
theorem B1f {h a b} (H:A7q a=some b):∀ L,FnW prog 210 [.string a] h L (.bool b):=by
 intro L
 refine I7.enter func210 z z z<|Sr<|An z<|Sm z<|Vv (V.seq z z)<|Mv z<|T.bH 5 H z (λH=>?_) λH=>?_
 ·exact S2<|Kt z<|Ag z<|Nr<|E1 H
 exact Mv z<|bE H λf c H=>To (O.cs (B1k c _) λi k=>Kf z<|Ag z<|Nr<|E1 H)
theorem C0f {h n e o} (s:I9 h n e) (H:B0F e=some o):∀ L,FnW prog 158 [.agg n.toArray] h L (.int .i64 o):=by
 intro L
 obtain ⟨aw,rfl,b⟩:=s
 refine I7.enter func158 z z z<|Sr<|To (O.T9 z z z λax ay aA a=>An z<|Sq<|Bl<|Sq ?_)
 obtain ⟨t,w,x⟩:=J4 H
 refine T.ck (α:=Bool) [1] (λf=>([(5,.bool f)],L,λhh=>t=f)) ?_ ?_
 ·have H:=w
  refine Rg<|Vv (V.fa A0g z)<|Wd 0 J3 z a z<|bE H λaB y H=>To (O.cs (B1k y _) λaD aG=>Vv (V.not z)<|Mv z<|T.bH 10 H z (λH=>?_) λH=>?_)
  ·refine S2<|S2<|Kt z<|Mv z<|S2<|S2<|Kt z<|Mv z<|S2<|S2<|Kt z<|An z<|T.mt true (K9 H)
  refine Vv (V.fa B9e z)<|Wd 1 J3 z a.u z<|bE H λaI C H=>To (O.cs (B1f C _) λaK aN=>Vv (V.not z)<|Kf z<|Mv z<|T.bH 16 H z (λH=>?_) λH=>?_)
  ·refine S2<|S2<|Kt z<|Mv z<|S2<|S2<|Kt z<|An z<|T.mt true (K9 H)
  refine Vv (V.fa A8J z)<|Wd 2 J3 z a.u z<|bE H λaO G H=>To (O.cs (B1f G _) λaS aV=>Vv (V.not z)<|Kf z<|Mv z<|T.bH 22 H z (λH=>?_) λH=>?_)
  ·refine S2<|S2<|Kt z<|An z<|T.mt true (K9 H)
  refine Vv (V.fa B1a z)<|Wd 5 J3 z a.u z<|bE H λK M H=>To (O.G6 z (B1f M _) z λaW aX aY aZ N=>?_)
  obtain ⟨rfl,P⟩:=N
  refine O8 _ P<|Vv (V.not z)<|Kf z<|An z<|T.mt (!K) (K9 H)
 rintro f a0 a1 S
 have H:=H7 S x
 refine T.norm [5,1] z<|T.fl ?_
 refine T.cH H z (λH=>?_) λH=>?_
 ·exact Sg z<|Nr<|Br<|Tr<|E1 H
 refine Sq ?_
 obtain ⟨U,W,X⟩:=J4 H
 refine T.ck (α:=Bool) [1] (λg=>([(28,.bool g)],L,λhh=>U=g)) ?_ ?_
 ·have H:=W
  refine Rg<|Vv (V.fa B5v z)<|Wd 3 D6 z a.u z<|Wl z z<|Mv z<|T.bH 32 H z (λH=>?_) λH=>?_
  ·refine S2<|Sk<|Kt z<|An z<|T.mt true (K9 H)
  refine Vv (V.fa B5v z)<|Wd 3 D6 z a.u z<|Wg z z<|Kf z<|An z<|T.mt (decide ((9999:Int)<e.A0o)) (K9 H)
 rintro g a2 a3 Y
 have H:=H7 Y X
 refine T.norm [28,1] z<|T.fl ?_
 refine T.cH H z (λH=>?_) λH=>?_
 ·exact Sg z<|Nr<|Br<|Tr<|E1 H
 refine Sq ?_
 obtain ⟨Z,aa,ab⟩:=J4 H
 refine T.ck (α:=Bool) [1] (λi=>([(37,.bool i)],L,λhh=>Z=i)) ?_ ?_
 ·have H:=aa
  refine Rg<|Vv (V.fa A5p z)<|Wd 4 D6 z a.u z<|Wl z z<|Mv z<|T.bH 41 H z (λH=>?_) λH=>?_
  ·refine S2<|Sk<|Kt z<|An z<|T.mt true (K9 H)
  refine Vv (V.fa A5p z)<|Wd 4 D6 z a.u z<|Wg z z<|Kf z<|An z<|T.mt (decide ((2:Int)<e.A0y)) (K9 H)
 rintro i a4 a5 ac
 have H:=H7 ac ab
 refine T.norm [37,1] z<|T.fl ?_
 refine T.cH H z (λH=>?_) λH=>?_
 ·exact Sg z<|Nr<|Br<|Tr<|E1 H
 refine Sr<|Vv (V.fa A0x z)<|Wd 8 A1F z a.u z<|Vv (V.P7 Y1 z b)<|Wg z z<|An z<|T.cH H z (λH=>?_) λH=>?_
 ·exact Sg z<|Nr<|Br<|Tr<|E1 H
 refine T.skip<|Bn<|Th<|Sq<|Sr<|Vv (V.fa A0x z)<|Wd 8 A1F z a.u z<|Vv (V.P7 Y1 z b)<|Mv z<|Nt ?_
 obtain ⟨ad,ae,m⟩:=J4 H
 have H:=ae
 refine Bl<|T.lk [1,52,53] (FUEL,(0:Int)) (λ⟨c,d⟩=>([(54,qi d)],L,λhh=>iter (A4i e) c d=some ad)) H ?_
 rintro ⟨c,d⟩ a6 a7 af
 obtain ⟨p,a8,rfl,H,j⟩:=G5 af
 refine T.norm [54,1,52,53] z<|T.fl ?_
 refine Sr<|Wl z z<|Nt<|Sq<|T.cH H z (λH=>?_) λH=>?_
 ·refine Ks<|Sq<|Bl<|Sm z<|bE H λa9 q H=>?_
  obtain ⟨ah,ai,rfl⟩:=G9.at b q
  refine Vv (V.ix Y1 z z b (E8 q))<|Vv (V.Q9 J3 z ai.u z)<|Ag z<|An z<|Sm z<|bE H λal aj H=>To (O.cs (B1k aj _) λaz bb=>Vv (V.not z)<|Mv z<|T.bH 62 H z (λH=>?_) λH=>?_)
  ·exact S2<|S2<|S2<|S2<|S2<|S2<|Kt z<|Nt<|Ct z<|Sg z<|Nr<|Br<|Tr<|Tr<|have H:=D5 H j; Br<|Tr<|have H:=H7 H m; E1 H
  refine Mv z<|Wg z z<|Mv z<|T.bH 65 H z (λH=>?_) λH=>?_
  ·refine Vv (V.fa A0x z)<|Wd 8 A1F z a.u z<|Mv z<|bE H λbc an H=>Vv (V.X9 z z an)<|bE H λbd r H=>?_
   obtain ⟨be,ao,rfl⟩:=G9.at b r
   refine Vv (V.ix Y1 z z b (E8 r))<|Vv (V.Q9 J3 z ao.u z)<|Mv z<|Vv (V.sge z z)<|Kt z<|Kf z<|Nt<|T.cH H z (λH=>?_) λH=>?_
   ·exact Sg z<|Nr<|Br<|Tr<|Tr<|have H:=D5 H j; Br<|Tr<|have H:=H7 H m; E1 H
   refine T.skip<|Bn<|Th<|Rg<|bE H λap aq H=>Ws z z aq<|Mv z<|Nt<|T.ag (p,ap) (D8 H j)
  refine S2<|S2<|S2<|S2<|Kf z<|Kf z<|Nt<|Cf z<|T.skip<|Bn<|Th<|Rg<|bE H λar au H=>Ws z z au<|Mv z<|Nt<|T.ag (p,ar) (D8 H j)
 exact Xt<|have H:=D5 H j; Be<|Th<|have H:=H7 H m; Sg z<|Nr<|E1 H
theorem B9u {h c a b} (f:I9 h c a) (H:A9o a=some b):∀ L,I7 prog 159 [.agg c.toArray] h (L) (λv h' L'=>∃ v0_1,v=.agg #[.string b.F8,.string b.A2b,.string b.V6,.int .i64 b.A0o,.int .i64 b.A0y,.string b.A0z,.bool b.X7,.bool b.Y4,v0_1]∧L'=L∧G9 VS 1 h' v0_1 b.O6):=by
 intro L
 obtain ⟨w,rfl,g⟩:=f
 refine I7.enter func159 z z z<|Sr<|To (O.box z z z λx=>To (O.alloc A1I z z λy=>Nt<|Sr<|Vv (V.fa A0x z)<|Vv (V.ldO (k:=8) A1F z (j:=1) z z)<|bE H λA i H=>To (O.G6 z (B0i g i _) z λd B C D m=>?_)))
 obtain ⟨E,n,o⟩:=m
 refine O8 _ n<|Vv (V.fa A0x z)<|T.Q7 0 z λp q=>To (O.st (vs:=[d]) (k:=8) A1F z z (j:=2) z q (by (simp only [BT,p]) <;> rfl) ?_)
 refine T.fl ?_
 refine Nt<|Sr<|Vv (V.A5r (j:=0) (by exact U7) z z) ?_
 refine T.fs [1] ?_
 refine T.J8 λG I r=>have e:=A8.slc r o.u; To (O.stF (vs:=[.string a.F8,.string a.A2b,.string a.V6,qi a.A0o,qi a.A0y,.string a.A0z,.bool a.X7,.bool a.Y4,d]) U7 z z (j:=1) z z (by (simp only [BT,G9.one e]) <;> rfl) z ?_)
 refine T.freeze λJ K s=>have t:=Y2.of s; Nr<|T.drop ?_
 cases H
 exact T.rl z (RVs.cons (RV.B2Y z t U7) RVs.nil) ⟨_,z,z,e.u⟩
theorem B1d {h a b c} (H:bytealg_CompareString a b=some c):∀ L,FnW prog 211 [.string a,.string b] h L (.int .i64 c):=by
 intro L
 refine I7.enter func211 z z z<|Sr<|An z<|Sm z<|Mv z<|Vv (V.D5d func232 (by kernel_rfl) z (by kernel_rfl) (by kernel_rfl) z z) ?_
 exact Ag z<|Nr<|E1 H
theorem B0l {h a b c} (H:strings_Compare a b=some c):∀ L,FnW prog 160 [.string a,.string b] h L (.int .i64 c):=by
 intro L
 exact I7.enter func160 z z z<|Sr<|An z<|Sm z<|Mv z<|bE H λg d H=>To (O.cs (B1d d _) λj m=>Ag z<|Nr<|E1 H)
theorem B3v {h a b c d e} (i:L9 h a b) (j:L9 h c d) (H:A1a b d=some e):∀ L,FnW prog 111 [.agg a.toArray,.agg c.toArray] h L (.int .i64 e):=by
 intro L
 obtain rfl:=i
 obtain rfl:=j
 refine I7.enter func111 z z z<|Sr<|To (O.T9 z z z λs t w f=>To (O.T9 z z z λx y A g=>An z<|Sq<|Sr<|Vv (V.fa A8l z)<|Wd 0 J3 z f.u z<|Vv (V.fa A8l z)<|Wd 0 J3 z g z<|bE H λB m H=>To (O.cs (B0l m _) λD G=>An z<|Sm z<|Wn z z<|Nt<|T.cH H z (λH=>?_) λH=>?_)))
 ·exact Sm z<|Ag z<|Nr<|Tr<|E1 H
 exact Ks<|Sr<|Vv (V.fa A8r z)<|Wd 1 J3 z f.u z<|Vv (V.fa A8r z)<|Wd 1 J3 z g.u z<|bE H λI p H=>To (O.cs (B0l p _) λK N=>Ag z<|Nr<|E1 H)
theorem B5y {h a b d c} (H:A7z a b d=some c):∀ L,FnW prog 162 [.string a,.string b,.int .u8 d] h L (.agg #[.string c.fA,.string c.fB,.int .u8 c.F9]):=by
 intro L
 refine I7.enter func162 z z z<|Sr<|To (O.alloc A9N z z λg=>Nt<|Sm z<|Mv z<|Vv (V.minS z z)<|Mv z<|Mv z<|Vv (V.maxS z z)<|Mv z<|Vv (V.bld (xs:=[(0,.tmp 9),(1,.tmp 12),(2,.tmp 13)]) (cs:=[_,_,_]) C2X C2N z (F6.cons z z z (F6.cons z z z (F6.cons z z z F6.nil))))<|To (O.stF (vs:=[.string (minS a b),.string (maxS a b),.int .u8 d]) A1C z z (j:=0) z z z z<|T.freeze λi k e=>have f:=Y2.of e; Nr ?_))
 cases H
 exact T.rl z (RVs.cons (RV.B2Y z f A1C) RVs.nil) ⟨z,z⟩
theorem C3t {h a} (H:B4K  = some a):∀ L,I7 prog 109 [] h (L) (λv h' L'=>∃ b vo0_1 csso0_2 vo0_4 csso0_5 mbo0_7 eso0_8,v=.pointer (some ⟨b,0,none⟩)∧L'=blk b (.cells [vo0_1,vo0_4,.map (some mbo0_7)].toArray 193)::F3 121 9 vo0_1 csso0_2::F3 168 3 vo0_4 csso0_5::blk mbo0_7 (.map eso0_8.toArray eso0_8.length)::L∧A8 I9 h' csso0_2 a.K4.U6∧A8 L9 h' csso0_5 a.K4.A0F∧V7 Value.string false (VI .i64) h' 0 eso0_8 a.fat):=by
 intro L
 refine I7.enter func109 z z z<|Sr<|An z<|Sr<|To (O.mkM z λf=>have c:V7 Value.string false (VI .i64) h 0 ([]:List MapEntry) ([]:List (ByteArray×Int)):=trivial; Vv (V.bld (xs:=[(1,.tmp 1)]) (cs:=[_,_,_]) C4B C5Y z (F6.cons z z z F6.nil))<|To (O.box z z z λg=>Ag z<|Nr<|T.rn I9 121 9 λd=>T.rn L9 168 3 λe=>T.fs [3] ?_))
 refine T.fs [1,2,3] ?_
 cases H
 exact T.rl z (Rv z) ⟨_,_,_,_,_,_,_,z,z,d,e,c⟩
theorem A9b {h a b c} (d:Pt A1q h a b) (H:A4t b=some c):∀ L,FnW prog 117 [a] h L (.bool c):=by
 intro L
 refine I7.enter func117 z z z<|Sr<|An z<|Sm z<|have e:=d; ?_
 obtain ⟨j,_,rfl,f,⟨m,n,o,rfl,p,q,g⟩⟩:=e
 refine Vv (V.D1E underlying114 z)<|Mv z<|Mv z<|NL z A4W A8L f z<|have i:=g; ?_
 obtain ⟨r,_,rfl,_⟩:=i
 exact Vv (V.D4j underlying191 z)<|Kf z<|Ag z<|Nr<|E1 H
theorem C3z {h o i p a q m r s} (f:G9 L9 3 h o i) (C:L9 h p a) (w:B1T h q m) (H:B1E i a m=some (r,s)):∀ L,FnW prog 165 [o,.agg p.toArray,q] h L (.tuple #[.int .i64 r,.bool s]):=by
 intro L
 obtain rfl:=C
 refine I7.enter func165 z z z<|Sr<|To (O.T9 z z z λak am an x=>Ag z<|An z<|Sm z<|Vv (V.P7 A1k z f)<|An z<|Sm z<|Ag z<|An z<|Sq ?_)
 obtain ⟨D,E,G⟩:=J4 H
 have H:=E
 refine Bl<|T.lk [0,2,4,8] (FUEL,(i.length:Int),(0:Int)) (λ⟨d,b,c⟩=>([(10,qi b),(9,qi c)],L,λhh=>iter (A0V i a m) d (b,c)=some D)) H ?_
 rintro ⟨d,b,c⟩ e ao I
 obtain ⟨y,ap,rfl,H,n⟩:=G5 I
 refine T.norm [10,9,0,2,4,8] z<|T.fl ?_
 refine Sq<|Sm z<|Mv z<|Wl z z<|Nt<|T.cH H z (λH=>?_) λH=>?_
 ·refine Ks<|Bl<|Sm z<|Mv z<|bE H λaq J H=>Ws z z J<|bE H λar K H=>Vv (V.A5u underlying3 underlying208 z K)<|bE H λau M H=>Vv (V.A3S z z M)<|bE H λN P H=>Vv (V.A5u underlying208 underlying3 z P)<|An z<|Sq<|T.dw (.vs [0,1,2,3,4,5] (.alt 6 (.g (.v 7 .done)) .no)) 9 0 0 ?_
  refine Tm z z<|Tm z z<|Tm z z<|bE H λj A H=>?_
  obtain ⟨aw,S,rfl⟩:=G9.at f A
  refine Tv z (V.ix A1k z z f (E8 A))<|Tv z (V.ldS z S.u (by exact A1C)) ?_
  refine Tv z (V.ldS z x.u (by exact A1C)) ?_
  refine bE H λax U H=>?_
  obtain ⟨ay,aA,aB,W,X⟩:=B1T.call (w.u (g:=e)) (show L9 e [.string j.fA,.string j.fB,.int .u8 j.F9] j from rfl) (show L9 e [.string a.fA,.string a.fB,.int .u8 a.F9] a from rfl) U
  refine Tp z z (X2 z z) (O.A1b z W z (X _) z λaC aD aE aG Y=>?_) T.O4
  obtain ⟨rfl,Z⟩:=Y
  refine O8 _ Z<|T.N8 Li<|Tv z (V.lt z z)<|T.M9 (X2 z z)<|Th<|T.cH H z (λH=>?_) λH=>?_
  ·refine Rg<|Mv z<|bE H λaa ab H=>Ws z z ab<|Ag z<|Ni<|Bn<|Th<|T.ag (y,b,aa) (D8 H n)
  refine Rg<|Mv z<|Ag z<|Ni<|Bn<|Th<|T.ag (y,N,c) (D8 H n)
 refine Xt<|have H:=D5 H n; Be<|Th<|have H:=H7 H G; Sq<|T.dw (.vs [0,1,2,3,4,5,6,7,8,9,10] (.alt 11 (.g (.v 12 (.v 13 (.alt 14 (.alt 15 .done .no) .no)))) .no)) 17 0 0 ?_
 refine Tm z z<|Tm z z<|Tm z z<|Tv z (V.lt z z)<|Tm z z<|T.bH 39 H z (λH=>?_) λH=>?_
 ·refine Tm z z<|Tm z z<|Tm z z<|bE H λk B H=>?_
  obtain ⟨aI,ac,rfl⟩:=G9.at f B
  refine Tv z (V.ix A1k z z f (E8 B))<|Tv z (V.ldS z ac.u (by exact A1C)) ?_
  refine Tv z (V.ldS z x.u (by exact A1C)) ?_
  refine bE H λaJ ad H=>?_
  obtain ⟨aK,aM,aN,ae,af⟩:=B1T.call (w.u (g:=e)) (show L9 e [.string k.fA,.string k.fB,.int .u8 k.F9] k from rfl) (show L9 e [.string a.fA,.string a.fB,.int .u8 a.F9] a from rfl) ad
  refine Tp z z (X2 z z) (O.A1b z ae z (af _) z λaO aP aS aU ai=>?_) T.O4
  obtain ⟨rfl,aj⟩:=ai
  refine O8 _ aj<|T.N8 Li<|Tv z (V.eq z z)<|Tv z (V.pkT z z)<|Ts z z (X2 z z) (V.asg z) z ?_ T.O4
  refine Ts z z (X2 z z) (V.asg z) z ?_ T.O4
  exact T.M9 (X2 z z)<|Th<|T.ret<|E1 H
 refine T2 z z<|T2 z z<|T2 z z<|T.A3Y z z (X2 z z) z ?_ T.O4
 refine T.N8 Lr<|Tk z<|Tv z (V.pkF z z)<|Ts z z (X2 z z) (V.asg z) z ?_ T.O4
 refine Ts z z (X2 z z) (V.asg z) z ?_ T.O4
 exact T.M9 (X2 z z)<|Th<|T.ret<|E1 H
theorem C4g {h d b e f g i k} (a:A8 L9 h b e) (m:G9 L9 3 h g i) (H:B8C e f i=some k):∀ L,I7 prog 161 [d,.int .i64 f,g] h (F3 168 3 d b::L) (λv h' L'=>∃ n,L'=F3 168 3 v n::L∧A8 L9 h' n k):=by
 intro L
 refine I7.enter func161 z z z<|Sr<|An z<|Sm z<|Mv z<|bE H λw q H=>Vv (V.C3J A1k z (j:=0) z a.len (.inr ⟨_,_,z,z⟩) (.inl ⟨z,z⟩) (A4S q))<|Nt<|Sm z<|Vv (V.P7 A1k z m)<|An z<|Sq<|Sm z<|We z z<|Nt<|T.cH H z (λH=>?_) λH=>?_
 ·refine Sm z<|Ag z<|Nr<|Tr ?_
  cases H
  exact T.rl z (Rv z) ⟨_,z,a⟩
 refine Ks<|Sm z<|Vv (V.A2p A1k z (j:=0) z a.len)<|An z<|Sq<|Sm z<|Mv z<|We z z<|Nt<|T.cH H z (λH=>?_) λH=>?_
 ·refine Sm z<|Mv z ?_
  obtain ⟨r,o,c⟩:=G9.row m
  refine bE H λs p H=>To (O.apX A1k A1k A9N z z z (j:=0) z (Src.fix o) o.wide (A8.ones L9.plain c) a c p z λx y A=>have t:A8 L9 h (b++r) s:=A8.ap a c p; Ag z<|Nr<|Tr ?_)
  cases H
  exact T.rl z (Rv z) ⟨_,z,t⟩
 refine Ks<|Sq<|Sm z<|Mv z<|bE H λB u H=>Ws z z u<|Mv z<|dead H
theorem B5S {h b c d e f i} (m:Pt A1q h b c) (H:A2A c d e=some (f,i)):∀ L,FnW prog 118 [b,.string d,.string e] h L (.tuple #[.int .i64 f,.bool i]):=by
 intro L
 refine I7.enter func118 z z z<|Sg z<|An z<|Sq<|T.dw (.vs [0,1,2,3,4,5,6] (.alt 7 (.g (.alt 8 (.g (.v 9 (.v 10 (.alt 11 (.alt 12 .done .no) .no)))) .no)) .no)) 14 0 0 ?_
 refine Tm z z<|have n:=m; ?_
 obtain ⟨E,_,rfl,o,⟨G,I,J,rfl,K,p,M⟩⟩:=n
 refine TF z z z A0D<|Tv z (V.fa A5j z)<|Td z 1 A1R z o z<|Tm z z<|Tm z z<|bE H λa q H=>Tp z z (X2 z z) (O.G6 z (B5y q _) z λN j P S r=>?_) T.O4
 obtain ⟨rfl,s⟩:=r
 refine O8 _ s<|T.N8 Li<|bE H λ⟨U,W⟩ w H=>Tp z z (X2 z z) (O.G6 z (C3z p.u (show L9 j [.string a.fA,.string a.fB,.int .u8 a.F9] a from z) (show B1T j (.func (.func 111) #[] #[]) A1a from ⟨⟨z,z⟩,.inr ⟨111,[],[],z,λX Y Z aa x ab ac y ad A B=>B3v x y A B⟩⟩) w _) z λae af ag ai C=>?_) T.O4
 obtain ⟨rfl,D⟩:=C
 refine O8 _ D<|T.N8 Li<|Tv z (V.ext z z)<|Tv z (V.ext z z)<|Ts z z (X2 z z) (V.asg z) z ?_ T.O4
 refine Ts z z (X2 z z) (V.asg z) z ?_ T.O4
 exact T.M9 (X2 z z)<|Th<|T.ret<|E1 H
theorem C4M {h f b v0_1 css0_2 v0_4 css0_5 mb0_7 es0_8 o p q q_0} (hR0_3:A8 I9 h css0_2 b.K4.U6) (hR0_6:A8 L9 h css0_5 b.K4.A0F) (hM0_9:V7 Value.string false (VI .i64) h 0 es0_8 b.fat) (D:I9 h o p) (H:C0w b p=some (q,q_0)):∀ L,I7 prog 110 [.pointer (some ⟨f,0,none⟩),.agg o.toArray] h (blk f (.cells [v0_1,v0_4,.map (some mb0_7)].toArray 193)::F3 121 9 v0_1 css0_2::F3 168 3 v0_4 css0_5::blk mb0_7 (.map es0_8.toArray es0_8.length)::L) (λv h' L'=>∃ vl0_1 cssl0_2 vl0_4 cssl0_5 mbl0_7 esl0_8,v=.int .i64 q∧L'=blk f (.cells [vl0_1,vl0_4,.map (some mbl0_7)].toArray 193)::F3 121 9 vl0_1 cssl0_2::F3 168 3 vl0_4 cssl0_5::blk mbl0_7 (.map esl0_8.toArray esl0_8.length)::L∧A8 I9 h' cssl0_2 q_0.K4.U6∧A8 L9 h' cssl0_5 q_0.K4.A0F∧V7 Value.string false (VI .i64) h' 0 esl0_8 q_0.fat):=by
 intro L
 obtain ⟨s,rfl,w⟩:=D
 refine I7.enter func110 z z z<|Sr<|To (O.T9 z z z λaq ar au c=>An z<|Sq<|Sm z<|bE H λd G H=>To (O.G6 z (I7.A6Z (val:=.bool d) func117 z C7l λaw ax I=>I7.A6Z (val:=.bool d) func117 z A1x λay aA J=>I7.A6Z (val:=.bool d) func117 z A1x λaB aC K=>I7.A6Z (val:=.bool d) func117 z D0g λM aD N=>?_) z λaE aG aI aJ P=>?_))
 ·have S:=A8.slc J hR0_3.u
  have U:=A8.slc K hR0_6.u
  have W:Mp Value.string false (VI .i64) M (.map (some mb0_7)) b.fat:=⟨_,_,z,N,hM0_9.u⟩
  exact A9b (Pt.mk I.u ⟨v0_1,v0_4,(.map (some mb0_7)),z,S.u,U.u,W⟩) G _
 obtain ⟨rfl,X⟩:=P
 refine O8 _ X<|Nt<|T.cH H z (λH=>?_) λH=>?_
 ·refine Sg z<|Nr<|Tr ?_
  cases H
  exact T.rl z (Rv z) ⟨_,_,_,_,_,_,z,z,hR0_3.u,hR0_6.u,hM0_9.u⟩
 refine Ks<|Sq<|Sr<|Vv (V.ldS z c.u (by exact U7)) ?_
 refine bE H λaK Y H=>To (O.cs (C0f ⟨s,z,w.u⟩ Y _) λy aO=>An z<|Sm z<|Wn z z<|Nt<|T.cH H z (λH=>?_) λH=>?_)
 ·refine Sm z<|Ag z<|Nr<|Tr ?_
  cases H
  exact T.rl z (Rv z) ⟨_,_,_,_,_,_,z,z,hR0_3.u,hR0_6.u,hM0_9.u⟩
 refine Ks<|Sq<|Sq<|T.fs [3,1] ?_
 refine T.dw (.vs [0,1,2,3,4,5,6,7,8,9] (.alt 10 (.alt 11 .done .no) .no)) 13 2 2 ?_
 refine Tm z z<|TF z z z A4W<|Tv z (Val.XA λ_ _ _=>V.ldO (k:=2) A8L z (j:=0) z z)<|Tv z (V.fa A0g z)<|Td z 0 J3 z c.u z<|bE H λ⟨aP,aS⟩ ab H=>?_
 obtain ⟨_,ac,rfl⟩:=V7.lookO (r:=mb0_7) (zc:=[qi 0]) (agg:=false) underlying191 (A0t.str underlying9) J6 (show (VI .i64) y [qi 0] (0:Int) from rfl) hM0_9.u ab
 refine Tv z (Val.XA λ_ _ _=>V.lkO z z (j:=1) z ac)<|Tm z z<|Tv z (V.ext z z)<|Tv z (V.ext z z)<|Ts z z (X3 [1,1] [1,1] z z) (V.asg z) z ?_ T.O4
 refine Ts z z (X3 [1,1] [1,1] z z) (V.asg z) z ?_ T.O4
 refine T.M9 (X3 [1,1] [1,1] z z)<|Th<|Sm z<|Nt<|T.cH H z (λH=>?_) λH=>?_
 ·refine Sg z<|Nr<|Tr<|T.fs [1,3,3,3] ?_
  cases H
  exact T.rl z (Rv z) ⟨_,_,_,_,_,_,z,z,hR0_3.u,hR0_6.u,hM0_9.u⟩
 refine Ks<|Sq<|Sm z<|NF z A0D<|Vv (V.fa A5n z)<|Vv (V.ldO (k:=0) M8 z (j:=0) z z)<|Vv (V.A2p O3 z (j:=2) z hR0_3.len)<|We z z<|Nt<|T.cH H z (λH=>?_) λH=>?_
 ·refine Sg z<|Nr<|Tr<|T.fs [1,3,3,3] ?_
  cases H
  exact T.rl z (Rv z) ⟨_,_,_,_,_,_,z,z,hR0_3.u,hR0_6.u,hM0_9.u⟩
 refine Ks<|Sq<|T.fs [1,2,2] ?_
 refine T.dw (.vs [0,1,2,3,4,5,6,7,8,9,10,11] (.alt 12 .done .no)) 12 3 2 ?_
 refine Tm z z<|TF z z z A4W<|Tv z (Val.XA λ_ _ _=>V.ldO (k:=2) A8L z (j:=0) z z)<|Tv z (V.fa A0g z)<|Td z 0 J3 z c.u z<|Tm z z<|TF z z z A0D<|Tv z (V.fa A5n z)<|Tv z (Val.XA λ_ _ _=>V.ldO (k:=0) M8 z (j:=0) z z)<|Tv z (Val.XA λ_ _ _=>V.A2p O3 z (j:=1) z hR0_3.len)<|bE H λaU ad H=>Tp z z (X3 [1,1] [2,2,2] z z) (O.B0n (agg:=false) (E:=(VI .i64)) (cs:=[qi (b.K4.U6.length:Int)]) underlying191 (A0t.str underlying9) z z z (j:=2) z hM0_9.u (show (VI .i64) y [qi (b.K4.U6.length:Int)] (b.K4.U6.length:Int) from z) _ (.inl z) λaV A=>?_) T.O4
 rw [Option.some.inj ad] at A
 refine T.fl ?_
 refine T.M9 (SX.one (XA.fr [2,2] Lr z) z)<|Th<|Sq<|T.norm [0,3] z<|T.fl ?_
 refine T.fs [2,2] ?_
 refine T.dw (.vs [0,1,2,3,4] (.x 5 (.v 6 (.alt 7 (.g (.alt 8 (.alt 9 (.g (.vs [10,11,12] (.alt 13 .done .no))) .no) .no)) .no)))) 9 2 0 ?_
 refine Tm z z<|Tm z z<|TF z z z A0D<|Tv z (V.fa A5n z)<|T.tx z z (Val.XA λ_ _ _=>V.ldO (k:=0) M8 z (j:=0) z z) z Calm.i<|Tv z (V.ldS z c.u (by exact U7)) ?_
 refine bE H λa ae H=>Tp z z (X3 [] [1,1] z z) (O.G6 z (B9u ⟨s,z,w.u⟩ ae _) z λaW B aX aY af=>?_) T.O4
 obtain ⟨m,rfl,ag,ai⟩:=af
 refine O8 _ ag<|T.N8 Li<|Tp z z (X3 [] [1,1] z z) (O.bq O3 A1I [.tmp 52] I9 [[.string a.F8,.string a.A2b,.string a.V6,qi a.A0o,qi a.A0y,.string a.A0z,.bool a.X7,.bool a.Y4,m]] [a] (hE:=(A8.cons ⟨m,z,ai⟩ A8.nil)) λaZ n=>?_) T.O4
 refine bE H λaj C H=>Tp z z (X3 [] [2,2] z z) (O.ax O3 A1I 2 hR0_3.u n C I9.plain λak am=>?_) T.O4
 refine T.fl ?_
 refine T.fs [1] ?_
 refine T.drop<|T.N8 Lr<|TF z z z A0D<|Tv z (V.fa A5n z)<|T.Q7 0 z λan ao=>Tp z z (SX.one (XA.fr [] Lr z) z) (O.st (vs:=[ak]) (k:=0) M8 z z (j:=1) z ao (by (simp only [BT,an]) <;> rfl) ?_) T.O4
 refine T.fl ?_
 refine T.M9 (SX.one (XA.fr [] Lr z) z)<|Th<|Sg z<|Nr<|T.fs [2,3,3,3] ?_
 cases H
 exact T.rl z (Rv z) ⟨_,_,_,_,_,_,z,z,am,hR0_6.u,A.u⟩
theorem C4C {h m c v0_1 css0_2 v0_4 css0_5 mb0_7 es0_8 a b A B q_0} (hR0_3:A8 I9 h css0_2 c.K4.U6) (hR0_6:A8 L9 h css0_5 c.K4.A0F) (hM0_9:V7 Value.string false (VI .i64) h 0 es0_8 c.fat) (H:B7F c a b A=some (B,q_0)):∀ L,I7 prog 112 [.pointer (some ⟨m,0,none⟩),.string a,.string b,.int .u8 A] h (blk m (.cells [v0_1,v0_4,.map (some mb0_7)].toArray 193)::F3 121 9 v0_1 css0_2::F3 168 3 v0_4 css0_5::blk mb0_7 (.map es0_8.toArray es0_8.length)::L) (λv h' L'=>∃ vl0_1 cssl0_2 vl0_4 cssl0_5 mbl0_7 esl0_8,v=.int .i64 B∧L'=blk m (.cells [vl0_1,vl0_4,.map (some mbl0_7)].toArray 193)::F3 121 9 vl0_1 cssl0_2::F3 168 3 vl0_4 cssl0_5::blk mbl0_7 (.map esl0_8.toArray esl0_8.length)::L∧A8 I9 h' cssl0_2 q_0.K4.U6∧A8 L9 h' cssl0_5 q_0.K4.A0F∧V7 Value.string false (VI .i64) h' 0 esl0_8 q_0.fat):=by
 intro L
 refine I7.enter func112 z z z<|Sr<|An z<|Sq<|Sm z<|bE H λo E H=>To (O.G6 z (I7.A6Z (val:=.bool o) func117 z C7l λaZ a0 G=>I7.A6Z (val:=.bool o) func117 z A1x λa1 a2 I=>I7.A6Z (val:=.bool o) func117 z A1x λa3 a4 J=>I7.A6Z (val:=.bool o) func117 z D0g λK a5 M=>?_) z λa6 a7 a8 a9 N=>?_)
 ·have P:=A8.slc I hR0_3.u
  have S:=A8.slc J hR0_6.u
  have U:Mp Value.string false (VI .i64) K (.map (some mb0_7)) c.fat:=⟨_,_,z,M,hM0_9.u⟩
  exact A9b (Pt.mk G.u ⟨v0_1,v0_4,(.map (some mb0_7)),z,P.u,S.u,U⟩) E _
 obtain ⟨rfl,W⟩:=N
 refine O8 _ W<|Nt<|T.cH H z (λH=>?_) λH=>?_
 ·refine Sg z<|Nr<|Tr ?_
  cases H
  exact T.rl z (Rv z) ⟨_,_,_,_,_,_,z,z,hR0_3.u,hR0_6.u,hM0_9.u⟩
 refine Ks<|Sq<|Sq ?_
 obtain ⟨X,Y,Z⟩:=J4 H
 refine T.ck (α:=Bool) [0,1,2,3] (λn=>([(27,.bool n)],blk m (.cells [v0_1,v0_4,.map (some mb0_7)].toArray 193)::F3 121 9 v0_1 css0_2::F3 168 3 v0_4 css0_5::blk mb0_7 (.map es0_8.toArray es0_8.length)::L,λhh=>X=n)) ?_ ?_
 ·have H:=Y
  refine Rg<|Mv z<|Wn z z<|Mv z<|T.bH 19 H z (λH=>?_) λH=>?_
  ·refine Mv z<|Wn z z<|Kt z<|Mv z<|T.bH 23 H z (λH=>?_) λH=>?_
   ·refine S2<|Sk<|Kt z<|Nt<|T.mt true (K9 H)
   refine Mv z<|Mv z<|Vv (V.seq z z)<|Kf z<|Nt<|T.mt (decide (a=b)) (K9 H)
  refine S2<|Kf z<|Mv z<|Mv z<|Mv z<|Vv (V.seq z z)<|Kf z<|Nt<|T.mt (decide (a=b)) (K9 H)
 rintro n aa ah ab
 have H:=H7 ab Z
 refine T.norm [27,0,1,2,3] z<|T.fl ?_
 refine T.cH H z (λH=>?_) λH=>?_
 ·refine Sg z<|Nr<|Tr ?_
  cases H
  exact T.rl z (Rv z) ⟨_,_,_,_,_,_,z,z,hR0_3.u,hR0_6.u,hM0_9.u⟩
 refine Ks<|Sq<|Sm z<|Mv z<|To (O.bq Y1 C0b [.tmp 28,.tmp 29] VS [[.string a],[.string b]] [a,b] λac w=>Vv (V.A2p Y1 z (j:=0) z w.len)<|Mv z<|Nt ?_)
 obtain ⟨ad,ae,C⟩:=J4 H
 have H:=ae
 refine Bl<|T.lk [0,1,2,3,30,31] (FUEL,(0:Int)) (λ⟨d,f⟩=>([(32,qi f)],F3 9 1 (.slice (some ⟨ac,0,none⟩) 2 2) [[.string a],[.string b]]::blk m (.cells [v0_1,v0_4,.map (some mb0_7)].toArray 193)::F3 121 9 v0_1 css0_2::F3 168 3 v0_4 css0_5::blk mb0_7 (.map es0_8.toArray es0_8.length)::L,λhh=>iter (A8M c a b) d f=some ad)) H ?_
 rintro ⟨d,f⟩ af al ai
 obtain ⟨aj,av,rfl,H,y⟩:=G5 ai
 refine T.norm [32,0,1,2,3,30,31] z<|T.fl ?_
 refine Sr<|Wl z z<|Nt<|Sq<|T.cH H z (λH=>?_) λH=>?_
 ·refine Ks<|Sq<|Bl<|Sr<|bE H λaz D H=>?_
  obtain ⟨ba,ak,rfl⟩:=A8.get w D
  refine Vv (V.ixR Y1 z z (j:=0) z (A8.bd w D))<|Vv (V.ldR J3 z (j:=0) z ak z)<|An z<|Sm z<|NF z A4W<|Vv (V.ldO (k:=2) A8L z (j:=1) z z)<|Mv z<|bE H λ⟨bb,bc⟩ am H=>?_
  obtain ⟨_,an,rfl⟩:=V7.lookO (r:=mb0_7) (zc:=[qi 0]) (agg:=false) underlying191 (A0t.str underlying9) J6 (show (VI .i64) af [qi 0] (0:Int) from rfl) hM0_9.u am
  refine Vv (V.lkO z z (j:=4) z an)<|Mv z<|Wx z z<|Wx z z<|Ag z<|An z<|Sm z<|Vv (V.not z)<|Nt<|T.cH H z (λH=>?_) λH=>?_
  ·refine Sg z<|Nr<|Br<|Tr<|Tr<|have H:=D5 H y; Br<|Tr<|have H:=H7 H C; T.drop ?_
   cases H
   exact T.rl z (Rv z) ⟨_,_,_,_,_,_,z,z,hR0_3.u,hR0_6.u,hM0_9.u⟩
  refine T.skip<|Bn<|Th<|Rg<|bE H λao ap H=>Ws z z ap<|Mv z<|Nt<|T.ag (aj,ao) (D8 H y)
 refine Xt<|have H:=D5 H y; Be<|Th<|have H:=H7 H C; Sm z<|Mv z<|Mv z<|T.fs [4,4,4,4] ?_
 refine bE H λ⟨p,q⟩ aq H=>To (O.G6 z (I7.A6Z (val:=.tuple #[qi p,.bool q]) func118 z C7l λbe bf ar=>I7.A6Z (val:=.tuple #[qi p,.bool q]) func118 z A1x λbg bi au=>I7.A6Z (val:=.tuple #[qi p,.bool q]) func118 z A1x λbj bk aw=>I7.A6Z (val:=.tuple #[qi p,.bool q]) func118 z D0g λax bm ay=>?_) z λbn bo bp bq aA=>?_)
 ·have aB:=A8.slc au hR0_3.u
  have aC:=A8.slc aw hR0_6.u
  have aD:Mp Value.string false (VI .i64) ax (.map (some mb0_7)) c.fat:=⟨_,_,z,ay,hM0_9.u⟩
  exact B5S (Pt.mk ar.u ⟨v0_1,v0_4,(.map (some mb0_7)),z,aB.u,aC.u,aD⟩) aq _
 obtain ⟨rfl,aE⟩:=aA
 refine O8 _ aE<|Mv z<|Wx z z<|Wx z z<|Ag z<|An z<|Sq<|Sm z<|Nt<|T.cH H z (λH=>?_) λH=>?_
 ·refine Sg z<|Nr<|Tr<|T.fs [4] ?_
  refine T.drop ?_
  cases H
  exact T.rl z (Rv z) ⟨_,_,_,_,_,_,z,z,hR0_3.u,hR0_6.u,hM0_9.u⟩
 refine Ks<|Sq<|Sm z<|NF z A0D<|Vv (V.fa A5j z)<|Vv (V.ldO (k:=1) A1R z (j:=0) z z)<|Vv (V.A2p A1k z (j:=2) z hR0_6.len)<|We z z<|Nt<|T.cH H z (λH=>?_) λH=>?_
 ·refine Sg z<|Nr<|Tr<|T.fs [4] ?_
  refine T.drop ?_
  cases H
  exact T.rl z (Rv z) ⟨_,_,_,_,_,_,z,z,hR0_3.u,hR0_6.u,hM0_9.u⟩
 refine Ks<|Sq<|T.fs [2,1] ?_
 refine T.dw (.vs [0,1,2,3,4] (.x 5 (.vs [6,7,8,9] (.alt 10 (.g (.alt 11 (.alt 12 (.g (.vs [13,14,15] (.alt 16 .done .no))) .no) .no)) .no)))) 12 2 0 ?_
 refine Tm z z<|Tm z z<|TF z z z A0D<|Tv z (V.fa A5j z)<|T.tx z z (Val.XA λ_ _ _=>V.ldO (k:=1) A1R z (j:=0) z z) z Calm.i<|Tm z z<|Tm z z<|Tm z z<|Tm z z<|bE H λs aG H=>Tp z z (X3 [] [1,1] z z) (O.G6 z (B5y aG _) z λbr aI bt bu aJ=>?_) T.O4
 obtain ⟨rfl,aK⟩:=aJ
 refine O8 _ aK<|T.N8 Li<|Tp z z (X3 [] [1,1] z z) (O.bq A1k A9N [.tmp 73] L9 [[.string s.fA,.string s.fB,.int .u8 s.F9]] [s] λbw aM=>?_) T.O4
 refine T.J8 λbx bA aN=>have aO:=A8.slc aN aM.u; T.fs [1] ?_
 refine bE H λbB aP H=>Tp z z (SX.two (XA.fr [] Li z) (XA.fr [0,1] Li z)) (O.G6 z (C4g hR0_6.u aO aP _) z λaS bC bD bG aU=>?_) T.O4
 obtain ⟨bI,aV,aW⟩:=aU
 refine O8 _ aV<|T.N8 Li<|TF z z z A0D<|Tv z (V.fa A5j z)<|T.Q7 0 z λaX aY=>Tp z z (SX.one (XA.fr [] Lr z) z) (O.st (vs:=[aS]) (k:=1) A1R z z (j:=1) z aY (by (simp only [BT,aX]) <;> rfl) ?_) T.O4
 refine T.fl ?_
 refine T.M9 (SX.one (XA.fr [] Lr z) z)<|Th<|Sq<|T.norm [0] z<|T.fl ?_
 refine Rg<|Ag z<|Nr<|T.fs [4] ?_
 refine T.drop<|T.fs [3,2,3,3] ?_
 cases H
 exact T.rl z (Rv z) ⟨_,_,_,_,_,_,z,z,hR0_3.u,aW,hM0_9.u⟩
theorem B5H {h af r1 ai aj ak} (aC:B1M h af r1) (H:A7E r1=some (ai,aj,ak)):∀ L,I7 prog 53 [.agg af.toArray] h (L) (λv h' L'=>∃ am,v=.tuple #[am,.int .i64 aj,.int .i64 ak]∧L'=L∧OPt A1q h' am ai):=by
 intro L
 obtain ⟨b1,b2,rfl,K,M⟩:=aC
 refine I7.enter func53 z z z<|Sr<|To (O.T9 z z z λb3 b4 b5 N=>Ag z<|Ag z<|An z<|Sr<|bE H λW aD H=>To (O.G6 z (C3t aD _) z λb6 b7 b8 b9 aE=>?_))
 obtain ⟨X,aG,aI,aJ,aK,aM,aN,rfl,aO,aP,aS,aU⟩:=aE
 refine O8 _ aO<|An z<|Sq<|Sr<|Vv (V.fa A3d z)<|Wd 0 M8 z N.u z<|Vv (V.P7 O3 z K)<|Mv z<|Nt ?_
 obtain ⟨aV,aW,an⟩:=J4 H
 have H:=aW
 refine Bl<|T.lk [1,5,14,15] (FUEL,W.K4.U6,W.K4.A0F,W.fat,(0:Int),aG,aI,aJ,aK,aM,aN) (λ⟨D,n,o,p,E,q,r,s,w,x,e⟩=>([(16,qi E)],blk X (.cells [q,s,.map (some x)].toArray 193)::F3 121 9 q r::F3 168 3 s w::blk x (.map e.toArray e.length)::L,λhh=>iter (A2o r1) D (n,o,p,E)=some aV∧A8 I9 hh r n∧A8 L9 hh w o∧V7 Value.string false (VI .i64) hh 0 e p)) ⟨H,aP,aS,aU⟩ ?_
 rintro ⟨D,n,o,p,E,q,r,s,w,x,e⟩ bh bl ⟨aX,ao,ap,aq⟩
 obtain ⟨aY,bv,rfl,H,Y⟩:=G5 aX
 refine T.norm [16,1,5,14,15] z<|T.fl ?_
 refine Sr<|Wl z z<|Nt<|Sq<|T.cH H z (λH=>?_) λH=>?_
 ·refine Ks<|Sq<|Bl<|Sm z<|bE H λf ar H=>?_
  obtain ⟨bz,aZ,⟨au,rfl,aw⟩⟩:=G9.at K ar
  refine Vv (V.ix O3 z z K (E8 ar))<|Vv (V.ldS z aZ.u (by exact U7)) ?_
  refine To (O.alloc A1I z z λca=>Ag z<|To (O.stF (vs:=[.string f.F8,.string f.A2b,.string f.V6,qi f.A0o,qi f.A0y,.string f.A0z,.bool f.X7,.bool f.Y4,au]) U7 z z (j:=0) z z (by (simp only [BT,G9.one aw]) <;> rfl) z ?_))
  refine T.fl ?_
  refine T.freeze λcb cc a0=>have a1:=Y2.of a0; Nt<|Sm z<|Vv (V.ldS z a1 (by exact U7)) ?_
  refine bE H λ⟨cd,Z⟩ a2 H=>To (O.G6 z (C4M ao.u ap.u aq.u ⟨au,z,aw.u⟩ a2 _) z λce cf cg ci a3=>?_)
  obtain ⟨a4,a5,a6,a7,a8,a9,rfl,ah,al,av,az⟩:=a3
  refine O8 _ ah<|An z<|Sm z<|Wn z z<|Nt<|T.cH H z (λH=>?_) λH=>?_
  ·refine Sm z<|Mv z<|Ag z<|Ag z<|Ag z<|Nr<|Br<|Tr<|Tr<|have H:=D5 H Y; Br<|Tr<|have H:=H7 H an; T.drop<|T.drop<|T.drop<|T.drop ?_
   cases H
   exact T.rl z (RVs.cons (RV.tmp z) (RVs.cons (RV.tmp z) (Rv z))) ⟨_,z,z,OPt.nil⟩
  refine T.skip<|Bn<|Th<|Rg<|bE H λba bb H=>Ws z z bb<|Mv z<|Nt<|T.ag (aY,Z.K4.U6,Z.K4.A0F,Z.fat,ba,a4,a5,a6,a7,a8,a9) ⟨(D8 H Y),al,av,az⟩
 refine Xt<|have H:=D5 H Y; Be<|Th<|have H:=H7 H an; Sq<|Sr<|Vv (V.fa A8y z)<|Wd 1 A1R z N.u z<|Vv (V.P7 A1k z M)<|Mv z<|Nt ?_
 obtain ⟨bc,bd,aa⟩:=J4 H
 have H:=bd
 refine Bl<|T.lk [1,5,30,31] (FUEL,n,o,p,(0:Int),q,r,s,w,x,e) (λ⟨G,y,A,B,I,a,i,b,m,c,d⟩=>([(32,qi I)],blk X (.cells [a,b,.map (some c)].toArray 193)::F3 121 9 a i::F3 168 3 b m::blk c (.map d.toArray d.length)::L,λhh=>iter (A2B r1) G (y,A,B,I)=some bc∧A8 I9 hh i y∧A8 L9 hh m A∧V7 Value.string false (VI .i64) hh 0 d B)) ⟨H,ao,ap,aq⟩ ?_
 rintro ⟨G,y,A,B,I,a,i,b,m,c,d⟩ cj ck ⟨be,ab,ac,ad⟩
 obtain ⟨ax,cm,rfl,H,P⟩:=G5 be
 refine T.norm [32,1,5,30,31] z<|T.fl ?_
 refine Sr<|Wl z z<|Nt<|Sq<|T.cH H z (λH=>?_) λH=>?_
 ·refine Ks<|Sq<|Bl<|Sm z<|bE H λC ay H=>?_
  obtain ⟨cn,bf,rfl⟩:=G9.at M ay
  refine Vv (V.ix A1k z z M (E8 ay))<|Vv (V.ldS z bf.u (by exact A1C)) ?_
  refine To (O.alloc A9N z z λco=>Ag z<|To (O.stF (vs:=[.string C.fA,.string C.fB,.int .u8 C.F9]) A1C z z (j:=0) z z z z<|T.fl ?_))
  refine T.freeze λaA cp bg=>have J:=Y2.of bg; Nt<|Sr<|An z<|Sq<|Sq ?_
  obtain ⟨bi,bj,bk⟩:=J4 H
  refine T.ck (α:=Bool) [1,5,9,10,11,30,31,32] (λS=>([(56,.bool S)],blk X (.cells [a,b,.map (some c)].toArray 193)::F3 121 9 a i::F3 168 3 b m::blk c (.map d.toArray d.length)::L,λhh=>bi=S)) ?_ ?_
  ·have H:=bj
   refine T.dw (.vs [0,1,2,3,4,5,6,7,8,9,10,11,12,13,14,15] (.alt 16 (.g (.vs [17,18,19] .done)) .no)) 21 0 0 ?_
   refine Tv z (V.fa A8l z)<|Td z 0 J3 z J z<|Tv z (V.fa A8r z)<|Td z 1 J3 z J z<|Tv z (V.slt z z)<|Tm z z<|T.bH 42 H z (λH=>?_) λH=>?_
   ·refine Tm z z<|Tv z (V.eq z z)<|Tm z z<|T.bH 45 H z (λH=>?_) λH=>?_
    ·refine T2 z z<|T2 z z<|T2 z z<|Tk z<|T.A3Y z z (X2 z z) z ?_ T.O4
     refine T.N8 Lr<|Tk z<|Tv z (V.pkT z z)<|Tv z (V.pkT z z)<|T.M9 (X2 z z)<|Th<|T.mt true (K9 H)
    refine Tv z (V.fa A8y z)<|Td z 1 A1R z N.u z<|Tm z z<|bE H λcq bm H=>Tv z (V.X9 z z bm)<|bE H λU aB H=>?_
    obtain ⟨cr,bn,rfl⟩:=G9.at M aB
    refine Tv z (V.ix A1k z z M (E8 aB))<|Tv z (V.ldS z bn.u (by exact A1C)) ?_
    refine Tv z (V.ldS z J (by exact A1C)) ?_
    refine bE H λbo bp H=>Tp z z (X2 z z) (O.G6 z (B3v (show L9 aA [.string U.fA,.string U.fB,.int .u8 U.F9] U from z) (show L9 aA [.string C.fA,.string C.fB,.int .u8 C.F9] C from z) bp _) z λcs ct cu cw bq=>?_) T.O4
    obtain ⟨rfl,br⟩:=bq
    refine O8 _ br<|T.N8 Li<|Tv z (V.le z z)<|Tv z (V.pkF z z)<|Tv z (V.pkT z z)<|T.M9 (X2 z z)<|Th<|T.mt (decide (bo≤(0:Int))) (K9 H)
   refine T2 z z<|T2 z z<|T2 z z<|T2 z z<|T2 z z<|T.A3Y z z (X2 z z) z ?_ T.O4
   refine T.N8 Lr<|T2 z z<|Tv z (V.pkF z z)<|T.M9 (X2 z z)<|Th<|T.mt false (K9 H)
  rintro S cx cy bs
  have H:=H7 bs bk
  refine T.norm [56,1,5,9,10,11,30,31,32] z<|T.fl ?_
  refine T.cH H z (λH=>?_) λH=>?_
  ·refine Rg<|Mv z<|Vv (V.fa A8l z)<|Wd 0 J3 z J.u z<|Vv (V.fa A8r z)<|Wd 1 J3 z J.u z<|Vv (V.fa B5k z)<|Wd 2 B0Z z J.u z<|bE H λ⟨cA,ae⟩ bt H=>To (O.G6 z (C4C ab.u ac.u ad.u bt _) z λcB cC cD cE bu=>?_)
   obtain ⟨bw,bx,bA,bB,bC,bD,rfl,bG,bI,bJ,bK⟩:=bu
   refine O8 _ bG<|An z<|Sm z<|Wn z z<|Nt<|T.cH H z (λH=>?_) λH=>?_
   ·refine Sq<|T.dw (.vs [0,1,2,3,4,5] (.alt 6 (.alt 7 (.alt 8 .done .no) .no) .no)) 10 0 0 ?_
    refine Tv z (V.fa A3d z)<|Td z 0 M8 z N.u z<|Tv z (V.P7 O3 z K)<|Tm z z<|bE H λcG bM H=>Tv z (V.C6P z z bM)<|Tm z z<|Ts z z (X2 z z) (V.asg z) z ?_ T.O4
    refine Ts z z (X2 z z) (V.asg z) z ?_ T.O4
    refine Ts z z (X2 z z) (V.asg z) z ?_ T.O4
    refine T.M9 (X2 z z)<|Th<|T.ret<|Br<|Tr<|Tr<|have H:=D5 H P; Br<|Tr<|have H:=H7 H aa; T.drop<|T.drop<|T.drop<|T.drop ?_
    cases H
    exact T.rl z (RVs.cons (RV.tmp z) (RVs.cons (RV.tmp z) (Rv z))) ⟨_,z,z,OPt.nil⟩
   refine T.skip<|Bn<|Th<|Rg<|bE H λbN bO H=>Ws z z bO<|Mv z<|Nt<|T.ag (ax,ae.K4.U6,ae.K4.A0F,ae.fat,bN,bw,bx,bA,bB,bC,bD) ⟨(D8 H P),bI,bJ,bK⟩
  refine Ks<|Sm z<|Wn z z<|Nt<|T.cH H z (λH=>?_) λH=>?_
  ·refine Sq<|T.dw (.vs [0,1,2,3,4,5] (.alt 6 (.alt 7 (.alt 8 .done .no) .no) .no)) 10 0 0 ?_
   refine Tv z (V.fa A3d z)<|Td z 0 M8 z N.u z<|Tv z (V.P7 O3 z K)<|Tm z z<|bE H λcI bP H=>Tv z (V.C6P z z bP)<|Tm z z<|Ts z z (X2 z z) (V.asg z) z ?_ T.O4
   refine Ts z z (X2 z z) (V.asg z) z ?_ T.O4
   refine Ts z z (X2 z z) (V.asg z) z ?_ T.O4
   refine T.M9 (X2 z z)<|Th<|T.ret<|Br<|Tr<|Tr<|have H:=D5 H P; Br<|Tr<|have H:=H7 H aa; T.drop<|T.drop<|T.drop<|T.drop ?_
   cases H
   exact T.rl z (RVs.cons (RV.tmp z) (RVs.cons (RV.tmp z) (Rv z))) ⟨_,z,z,OPt.nil⟩
  refine T.skip<|Bn<|Th<|Rg<|bE H λbS bU H=>Ws z z bU<|Mv z<|Nt<|T.ag (ax,y,A,B,bS,a,i,b,m,c,d) ⟨(D8 H P),ab.u,ac.u,ad.u⟩
 refine Xt<|have H:=D5 H P; Be<|Th<|have H:=H7 H aa; Sm z<|Ag z<|Ag z<|Ag z<|Nr<|T.fs [1] ?_
 refine T.J8 λcJ cK bV=>have bW:=A8.slc bV ab.u; T.fs [1] ?_
 refine T.J8 λcM cN bX=>have bY:=A8.slc bX ac.u; Fr_ 1 z<|T.C6d VI.mono ad.u λcO cP bZ=>T.C0E λcS cU b0=>?_
 cases H
 exact T.rl z (RVs.cons (RV.tmp z) (RVs.cons (RV.tmp z) (Rv z))) ⟨_,z,z,(OPt.some (Pt.mk b0 ⟨a,b,(.map (some c)),z,bW.u,bY.u,bZ.u⟩))⟩
theorem B6H {h a r1 b c} (d:B1M h a r1) (H:A5D r1=some (b,c)):∀ L,FnW prog 138 [.agg a.toArray] h L (.tuple #[.int .i64 b,.int .i64 c]):=by
 intro L
 obtain ⟨e,f,rfl,g,i⟩:=d
 refine I7.enter func138 z z z<|Sr<|To (O.T9 z z z λo p q j=>Ag z<|An z<|Sr<|Vv (V.ldS z j (by exact A6d)) ?_)
 refine bE H λ⟨r,s,t⟩ k H=>To (O.G6 z (B5H ⟨e,f,z,g.u,i.u⟩ k _) z λw x y A m=>?_)
 obtain ⟨B,rfl,n,C⟩:=m
 exact O8 _ n<|Mv z<|Wx z z<|Wx z z<|Wx z z<|Ag z<|Ag z<|An z<|Sm z<|Mv z<|Ag z<|Ag z<|Nr<|E1 H
end Go.Proofs.X
open Go Go.Proofs Go.Proofs.Tryz Go.Sl Go.Dm
namespace Go.Proofs.X
theorem B8n {h d a b} (e:I9 h d a) (H:B1g a=some b):∀ L,I7 prog 159 [.agg d.toArray] h (L) (λv h' L'=>∃ vo0_1 csso0_2,v=.agg #[.string b.F8,.string b.A2b,.string b.V6,.int .i64 b.A0o,.int .i64 b.A0y,.string b.A0z,.bool b.X7,.bool b.Y4,vo0_1]∧L'=F3 9 1 vo0_1 csso0_2::L∧A8 VS h' csso0_2 b.O6):=by
 intro L
 obtain ⟨s,rfl,f⟩:=e
 refine I7.enter func159 z z z<|Sr<|To (O.box z z z λt=>To (O.alloc A1I z z λu=>Nt<|Sr<|Vv (V.fa A0x z)<|Vv (V.ldO (k:=8) A1F z (j:=1) z z)<|bE H λw g H=>To (O.G6 z (B0i f g _) z λc x y A i=>?_)))
 obtain ⟨m,n,o⟩:=i
 refine O8 _ n<|Vv (V.fa A0x z)<|T.Q7 0 z λp q=>To (O.st (vs:=[c]) (k:=8) A1F z z (j:=2) z q (by (simp only [BT,p]) <;> rfl) ?_)
 refine T.fl ?_
 refine Nt<|Sr<|Vv (V.A5r (j:=0) (by exact U7) z z) ?_
 refine T.Q7 1 z λr B=>To (O.stF (vs:=[.string a.F8,.string a.A2b,.string a.V6,qi a.A0o,qi a.A0y,.string a.A0z,.bool a.X7,.bool a.Y4,c]) U7 z z (j:=2) z z (by (simp only [BT,r]) <;> rfl) z ?_)
 refine T.fl ?_
 refine Nr<|T.fs [1] ?_
 refine T.drop ?_
 cases H
 exact T.B0p (L':=F3 9 1 c m::L) results159 (RVs.cons (RV.cellS z (j:=0) z U7) RVs.nil) Li (λ_ iv=>iv.drop) ⟨_,_,z,z,o⟩
theorem B7x {h d e f a g} (i:Pt A1q h d e) (H:B1u e f=some (a,g)):∀ L,I7 prog 113 [d,.string f] h (L) (λv h' L'=>∃ vo0_1 csso0_2,v=.tuple #[.agg #[.string a.F8,.string a.A2b,.string a.V6,.int .i64 a.A0o,.int .i64 a.A0y,.string a.A0z,.bool a.X7,.bool a.Y4,vo0_1],.bool g]∧L'=F3 9 1 vo0_1 csso0_2::L∧A8 VS h' csso0_2 a.O6):=by
 intro L
 refine I7.enter func113 z z z<|Sr<|To (O.alloc A1I z z λP=>An z<|Sq<|Sm z<|bE H λS q H=>To (O.cs (A9b i q _) λc X=>Nt<|T.cH H z (λH=>?_) λH=>?_))
 ·refine Sr<|Vv (V.bld (xs:=[]) (cs:=[_,_,_,_,_,_,_,_,_]) A9x A9r z F6.nil)<|To (O.stF (vs:=[.string qe,.string qe,.string qe,qi 0,qi 0,.string qe,.bool false,.bool false,qs]) U7 z z (j:=0) z z z z<|Ag z<|Nr<|Tr<|T.rn VS 9 1 λt=>Fr_ 1 z ?_)
  cases H
  exact T.B0p (L':=F3 9 1 (qs) []::L) results113 (RVs.cons (RV.cellS z (j:=0) z U7) (Rv z)) Li (λ_ iv=>iv.drop) ⟨_,_,z,z,t⟩
 refine Ks<|Sm z<|have w:=i; ?_
 obtain ⟨Y,_,rfl,m,⟨Z,aa,ab,rfl,n,ac,x⟩⟩:=w
 refine NL z A4W A8L m.u z<|Mv z<|bE H λ⟨ad,ae⟩ y H=>?_
 obtain ⟨_,A,rfl⟩:=Mp.look (zc:=[qi 0]) (agg:=false) underlying191 (A0t.str underlying9) J6 (show (VI .i64) c [qi 0] (0:Int) from rfl) x.u y
 refine Vv (V.lkF z z A)<|Mv z<|Wx z z<|Wx z z<|Ag z<|An z<|Sq<|Sm z<|Vv (V.not z)<|Nt<|T.cH H z (λH=>?_) λH=>?_
 ·refine Sr<|Vv (V.bld (xs:=[]) (cs:=[_,_,_,_,_,_,_,_,_]) A9x A9r z F6.nil)<|To (O.stF (vs:=[.string qe,.string qe,.string qe,qi 0,qi 0,.string qe,.bool false,.bool false,qs]) U7 z z (j:=0) z z z z<|Ag z<|Nr<|Tr<|T.rn VS 9 1 λB=>Fr_ 1 z ?_)
  cases H
  exact T.B0p (L':=F3 9 1 (qs) []::L) results113 (RVs.cons (RV.cellS z (j:=0) z U7) (Rv z)) Li (λ_ iv=>iv.drop) ⟨_,_,z,z,B⟩
 refine Ks<|Sm z<|NF z A0D<|Vv (V.fa A5n z)<|Wd 0 M8 z m.u z<|Mv z<|bE H λaf o H=>?_
 obtain ⟨ag,C,⟨D,rfl,E⟩⟩:=G9.at n o
 refine Vv (V.ix O3 z z n (E8 o))<|Vv (V.ldS z C.u (by exact U7)) ?_
 refine bE H λb G H=>To (O.G6 z (B8n ⟨D,z,E.u⟩ G _) z λai aj ak am I=>?_)
 obtain ⟨p,J,rfl,K,M⟩:=I
 refine O8 _ K<|T.Q7 0 z λN an=>To (O.stF (vs:=[.string b.F8,.string b.A2b,.string b.V6,qi b.A0o,qi b.A0y,.string b.A0z,.bool b.X7,.bool b.Y4,p]) U7 z z (j:=1) z z (by (simp only [BT,N]) <;> rfl) z ?_)
 refine Ag z<|Nr ?_
 cases H
 exact T.B0p (L':=F3 9 1 p J::L) results113 (RVs.cons (RV.cellS z (j:=0) z U7) (Rv z)) Li (λ_ iv=>iv.drop) ⟨_,_,z,z,M⟩
theorem B9D {h a b c d e} (f:Y2 h b c) (g:I9 h c d) (H:A4I a d=some e):∀ L,FnW prog 115 [.string a,.pointer (some b)] h L (.bool e):=by
 intro L
 obtain ⟨o,rfl,i⟩:=g
 exact I7.enter func115 z z z<|Sr<|An z<|Sr<|Vv (V.fa A0x z)<|Wd 8 A1F z f z<|Mv z<|bE H λp j H=>To (O.cs (B6N i j _) λr t=>Vv (V.not z)<|Ag z<|Nr<|E1 H)
theorem C0K {h d e f g i} (m:Pt A1q h d e) (H:B0K e f g=some i):∀ L,I7 prog 54 [d,.string f,.string g] h (L) (λv h' L'=>∃ n,L'=F3 9 1 v n::L∧A8 VS h' n i):=by
 intro L
 refine I7.enter func54 z z z<|Sr<|An z<|Sm z<|Mv z<|bE H λ⟨b,Y⟩ r H=>To (O.G6 z (B7x m r _) z λZ aa ab ac s=>?_)
 obtain ⟨t,ad,rfl,w,x⟩:=s
 refine O8 _ w<|Mv z<|Wx z z<|Wx z z<|To (O.alloc A1I z z λae=>T.Q7 1 z λy af=>To (O.stF (vs:=[.string b.F8,.string b.A2b,.string b.V6,qi b.A0o,qi b.A0y,.string b.A0z,.bool b.X7,.bool b.Y4,t]) U7 z z (j:=0) z z (by (simp only [BT,y]) <;> rfl) z ?_))
 refine An z<|Sm z<|Mv z<|bE H λ⟨a,ag⟩ A H=>To (O.G6 z (B7x m.u A _) z λai aj ak am B=>?_)
 obtain ⟨o,an,rfl,C,D⟩:=B
 refine O8 _ C<|Mv z<|Wx z z<|Wx z z<|To (O.alloc A1I z z λp=>T.fs [1] ?_)
 refine T.J8 λao ap E=>have q:=A8.slc E D.u; To (O.stF (vs:=[.string a.F8,.string a.A2b,.string a.V6,qi a.A0o,qi a.A0y,.string a.A0z,.bool a.X7,.bool a.Y4,o]) U7 z z (j:=0) z z (by (simp only [BT,G9.one q]) <;> rfl) z ?_)
 refine T.fl ?_
 refine T.freeze λc aq G=>have I:=Y2.of G; An z<|Sq<|Sm z<|Vv (V.not z)<|Mv z<|T.bH 25 H z (λH=>?_) λH=>?_
 ·refine S2<|Kt z<|Nt<|Ct z<|Sg z<|Nr<|Tr<|T.rn VS 9 1 λJ=>T.fs [1] ?_
  refine T.drop<|Fr_ 1 z<|T.drop ?_
  cases H
  exact T.rl z (Rv z) ⟨_,z,J⟩
 refine Mv z<|Vv (V.not z)<|Kf z<|Nt<|T.cH H z (λH=>?_) λH=>?_
 ·refine Sg z<|Nr<|Tr<|T.rn VS 9 1 λK=>T.fs [1] ?_
  refine T.drop<|Fr_ 1 z<|T.drop ?_
  cases H
  exact T.rl z (Rv z) ⟨_,z,K⟩
 refine Ks<|Sr<|Vv (V.fa A0x z)<|Vv (V.ldO (k:=8) A1F z (j:=0) z z)<|Vv (V.mkf z z)<|Fr_ 1 z<|bE H λar M H=>To (O.G6 z (B4Y x.u (show B0O c (.func (.func 115) #[] #[qp p]) (λN=>A4I N (E9.mk a.F8 a.A2b a.V6 a.A0o a.A0y a.A0z a.X7 a.Y4 a.O6)) from ⟨⟨z,z⟩,.inr ⟨115,[],[qp p],z,λau aw ax ay P S=>B9D I.u ⟨o,z,q.u⟩ P S⟩⟩) M _) z λaA aB aC aD U=>?_)
 obtain ⟨aE,W,X⟩:=U
 refine O8 _ W<|Ag z<|Nr<|Fr_ 1 z<|T.drop ?_
 cases H
 exact T.rl z (Rv z) ⟨_,z,X⟩
theorem C4n {h b c d e f g} (a:Pt A1q h b c) (H:B4D c d e=some (f,g)):∀ L,FnW prog 55 [b,.string d,.string e] h L (.tuple #[.int .u8 f,.bool g]):=by
 intro L
 refine I7.enter func55 z z z<|Sg z<|An z<|Sq<|Sm z<|bE H λx m H=>To (O.cs (A9b a m _) λA C=>Nt<|T.cH H z (λH=>?_) λH=>?_)
 ·exact Sg z<|Ag z<|Nr<|Tr<|E1 H
 refine Ks<|Sm z<|Mv z<|Mv z<|bE H λ⟨D,E⟩ p H=>To (O.cs (B5S a.u p _) λI K=>Mv z<|Wx z z<|Wx z z<|Ag z<|An z<|Sq<|Sm z<|Vv (V.not z)<|Nt<|T.cH H z (λH=>?_) λH=>?_)
 ·exact Sg z<|Ag z<|Nr<|Tr<|E1 H
 refine Ks<|Sm z<|have s:=a; ?_
 obtain ⟨M,_,rfl,t,⟨N,P,S,rfl,U,i,W⟩⟩:=s
 refine NF z A0D<|Vv (V.fa A5j z)<|Wd 1 A1R z t.u z<|Mv z<|bE H λX j H=>?_
 obtain ⟨Y,w,rfl⟩:=G9.at i j
 exact Vv (V.ix A1k z z i (E8 j))<|Vv (V.fa B5k z)<|Wd 2 B0Z z w.u z<|Ag z<|Ag z<|Nr<|E1 H
end Go.Proofs.X
