import Derived.Test.YthchjfilgaondaaGreatChecked
import Derived.KernelRfl
import Derived.Test.YthchjfilgaondaaGreatV
import Derived.Test.YthchjfilgaondaaGreatL12
import Derived.Test.YthchjfilgaondaaGreatDa
/- The walks: each function computes what its Lean function says. -/
set_option maxRecDepth 1000000
set_option maxHeartbeats 40000000
set_option linter.unusedVariables false
set_option linter.unusedSimpArgs false
set_option linter.unnecessarySimpa false
open Go Go.Proofs Go.Proofs.Tryz Go.Sl Go.Dm
namespace Go.Proofs.X
theorem I5:prog.follows .mixedOrders=true:=by kernel_rfl
theorem X5:A1d prog 119=some (9,1,16):=by kernel_rfl
theorem O6:A1d prog 27=some (139,7,80):=by kernel_rfl
theorem O9:A1d prog 28=some (121,9,112):=by kernel_rfl
theorem A0U:A1d prog 29=some (168,3,40):=by kernel_rfl
theorem A9:A1d prog 30=some (3,1,8):=by kernel_rfl
theorem U9:A1d prog 31=some (43,6,72):=by kernel_rfl
theorem V8:U6 prog 121=some (true,9):=by kernel_rfl
theorem J5:U6 prog 139=some (true,7):=by kernel_rfl
theorem D7:U6 prog 3=some (false,1):=by kernel_rfl
theorem J7:U6 prog 9=some (false,1):=by kernel_rfl
theorem A1K:zer prog 121=some (.agg #[.string ⟨#[]⟩,.string ⟨#[]⟩,.string ⟨#[]⟩,.int .i64 (0),.int .i64 (0),.string ⟨#[]⟩,.bool false,.bool false,.slice none 0 0]):=by kernel_rfl
theorem A1J:zer prog 139=some (.agg #[.string ⟨#[]⟩,.int .u8 (0),.int .i64 (0),.int .i64 (0),.slice none 0 0,.int .i64 (0),.int .i64 (0)]):=by kernel_rfl
theorem A9I:zer prog 168=some (.agg #[.string ⟨#[]⟩,.string ⟨#[]⟩,.int .u8 (0)]):=by kernel_rfl
theorem K8:zer prog 3=some (.int .i64 (0)):=by kernel_rfl
theorem A1R:zer prog 43=some (.agg #[.int .u8 (0),.int .i64 (0),.string ⟨#[]⟩,.string ⟨#[]⟩,.string ⟨#[]⟩,.int .i64 (0)]):=by kernel_rfl
theorem C0q:zer prog 9=some (.string ⟨#[]⟩):=by kernel_rfl
theorem B3u {h g c d i} (e:F8 (VI .i64) 1 h g c) (H:A3Y c d=some i):∀ L,FnW prog 84 [g,.int .i64 d] h L (.int .i64 i):=by
 intro L
 refine J6.enter func84 z z z<|Sr<|An z<|Sq<|Sm z<|Vv (V.Q3 A9 z e)<|Mv z<|Nt ?_
 obtain ⟨m,n,j⟩:=K4 H
 have H:=n
 refine Bl<|T.lk [0,1,7] (FUEL,(0:Int)) (fun ⟨a,b⟩=>([(8,qi b)],L,fun hh=>iter (A2J c d) a b=some m)) H ?_
 rintro ⟨a,b⟩ t w o
 obtain ⟨p,x,rfl,H,f⟩:=G8 o
 refine T.norm [8,0,1,7] z<|T.fl ?_
 refine Sr<|Wl z z<|Nt<|Sq<|T.cH H z (fun H=>?_) fun H=>?_
 ·refine Ks<|Sq<|Bl<|Sm z<|An z<|Sm z<|Mv z<|Mv z<|bE H fun y k H=>?_
  obtain ⟨A,q,rfl⟩:=F8.at e k
  refine Vv (V.ix A9 z z e (E9 k))<|Vv (V.S9 D7 z q.u z)<|We z z<|Nt<|T.cH H z (fun H=>?_) fun H=>?_
  ·exact Sm z<|Ag z<|Nr<|Br<|Tr<|Tr<|have H:=D6 H f; Br<|Tr<|have H:=I7 H j; E1 H
  refine T.skip<|Bn<|Th<|Rg<|bE H fun r s H=>Vv (V.H8 z z s)<|Mv z<|Nt<|T.ag (p,r) (D8 H f)
 exact T.exit<|Te<|Te<|have H:=D6 H f; Be<|Th<|have H:=I7 H j; Sg z<|Nr<|E1 H
theorem A1Z {h a b c d} (e:F8 (VI .i64) 1 h a b) (H:A0Z b c=some d):∀ L,FnW prog 39 [a,.int .i64 c] h L (.bool d):=by
 intro L
 exact J6.enter func39 z z z<|Sr<|An z<|Sm z<|Mv z<|bE H fun j f H=>To (O.cs (B3u e f _) fun m o=>Vv (V.ge z z)<|Ag z<|Nr<|E1 H)
theorem B5E {h i c j d k} (e:F8 (VI .i64) 1 h i c) (o:A2z h j d) (H:A8G c d=some k):∀ L,FnW prog 251 [i,j] h L (.int .i64 k):=by
 intro L
 refine J6.enter func251 z z z<|Sr<|An z<|Sq<|Sm z<|Vv (V.Q3 A9 z e)<|Mv z<|Nt ?_
 obtain ⟨p,q,m⟩:=K4 H
 have H:=q
 refine Bl<|T.lk [0,1,7] (FUEL,(0:Int)) (fun ⟨a,b⟩=>([(8,qi b)],L,fun hh=>iter (A1M c d) a b=some p)) H ?_
 rintro ⟨a,b⟩ r G s
 obtain ⟨t,I,rfl,H,f⟩:=G8 s
 refine T.norm [8,0,1,7] z<|T.fl ?_
 refine Sr<|Wl z z<|Nt<|Sq<|T.cH H z (fun H=>?_) fun H=>?_
 ·refine Ks<|Sq<|Bl<|Sm z<|An z<|Sm z<|Mv z<|Mv z<|bE H fun J n H=>?_
  obtain ⟨K,w,rfl⟩:=F8.at e n
  refine Vv (V.ix A9 z z e (E9 n))<|Vv (V.S9 D7 z w.u z)<|bE H fun M x H=>?_
  obtain ⟨N,P,S,y,A⟩:=A2z.call (o.u (g:=r)) x
  refine To (O.A1e z y z (A _) z fun U W X Y B=>?_)
  obtain ⟨rfl,C⟩:=B
  refine P7 _ C<|Nt<|T.cH H z (fun H=>?_) fun H=>?_
  ·exact Sm z<|Ag z<|Nr<|Br<|Tr<|Tr<|have H:=D6 H f; Br<|Tr<|have H:=I7 H m; E1 H
  refine T.skip<|Bn<|Th<|Rg<|bE H fun D E H=>Vv (V.H8 z z E)<|Mv z<|Nt<|T.ag (t,D) (D8 H f)
 exact T.exit<|Te<|Te<|have H:=D6 H f; Be<|Th<|have H:=I7 H m; Sg z<|Nr<|E1 H
theorem A7f {h a b c d e} (f:F8 (VI .i64) 1 h a b) (g:A2z h c d) (H:A0v b d=some e):∀ L,FnW prog 237 [a,c] h L (.bool e):=by
 intro L
 exact J6.enter func237 z z z<|Sr<|An z<|Sm z<|Mv z<|bE H fun m i H=>To (O.cs (B5E f g i _) fun o q=>Vv (V.ge z z)<|Ag z<|Nr<|E1 H)
theorem A8w {h i c j d k} (e:F8 I6 7 h i c) (o:B0O h j d) (H:A2g c d=some k):∀ L,FnW prog 206 [i,j] h L (.int .i64 k):=by
 intro L
 refine J6.enter func206 z z z<|Sr<|An z<|Sq<|Sm z<|Vv (V.Q3 O6 z e)<|Mv z<|Nt ?_
 obtain ⟨p,q,m⟩:=K4 H
 have H:=q
 refine Bl<|T.lk [0,1,7] (FUEL,(0:Int)) (fun ⟨a,b⟩=>([(8,qi b)],L,fun hh=>iter (A2i c d) a b=some p)) H ?_
 rintro ⟨a,b⟩ r J s
 obtain ⟨t,K,rfl,H,f⟩:=G8 s
 refine T.norm [8,0,1,7] z<|T.fl ?_
 refine Sr<|Wl z z<|Nt<|Sq<|T.cH H z (fun H=>?_) fun H=>?_
 ·refine Ks<|Sq<|Bl<|Sm z<|An z<|Sm z<|Mv z<|Mv z<|bE H fun M n H=>?_
  obtain ⟨N,w,⟨x,rfl,y⟩⟩:=F8.at e n
  refine Vv (V.ix O6 z z e (E9 n))<|Vv (V.ldS z w.u (by exact J5)) ?_
  refine bE H fun P A H=>?_
  obtain ⟨S,U,W,B,C⟩:=B0O.call (o.u (g:=r)) ⟨x,rfl,y.u⟩ A
  refine To (O.A1e z B z (C _) z fun X Y Z aa D=>?_)
  obtain ⟨rfl,E⟩:=D
  refine P7 _ E<|Nt<|T.cH H z (fun H=>?_) fun H=>?_
  ·exact Sm z<|Ag z<|Nr<|Br<|Tr<|Tr<|have H:=D6 H f; Br<|Tr<|have H:=I7 H m; E1 H
  refine T.skip<|Bn<|Th<|Rg<|bE H fun G I H=>Vv (V.H8 z z I)<|Mv z<|Nt<|T.ag (t,G) (D8 H f)
 exact T.exit<|Te<|Te<|have H:=D6 H f; Be<|Th<|have H:=I7 H m; Sg z<|Nr<|E1 H
theorem B1J {h a b c d e} (f:F8 I6 7 h a b) (g:B0O h c d) (H:A4b b d=some e):∀ L,FnW prog 169 [a,c] h L (.bool e):=by
 intro L
 exact J6.enter func169 z z z<|Sr<|An z<|Sm z<|Mv z<|bE H fun m i H=>To (O.cs (A8w f g i _) fun o q=>Vv (V.ge z z)<|Ag z<|Nr<|E1 H)
theorem B3t {h i c j d k} (e:F8 I8 9 h i c) (o:B2J h j d) (H:A3L c d=some k):∀ L,FnW prog 204 [i,j] h L (.int .i64 k):=by
 intro L
 refine J6.enter func204 z z z<|Sr<|An z<|Sq<|Sm z<|Vv (V.Q3 O9 z e)<|Mv z<|Nt ?_
 obtain ⟨p,q,m⟩:=K4 H
 have H:=q
 refine Bl<|T.lk [0,1,7] (FUEL,(0:Int)) (fun ⟨a,b⟩=>([(8,qi b)],L,fun hh=>iter (A2l c d) a b=some p)) H ?_
 rintro ⟨a,b⟩ r J s
 obtain ⟨t,K,rfl,H,f⟩:=G8 s
 refine T.norm [8,0,1,7] z<|T.fl ?_
 refine Sr<|Wl z z<|Nt<|Sq<|T.cH H z (fun H=>?_) fun H=>?_
 ·refine Ks<|Sq<|Bl<|Sm z<|An z<|Sm z<|Mv z<|Mv z<|bE H fun M n H=>?_
  obtain ⟨N,w,⟨x,rfl,y⟩⟩:=F8.at e n
  refine Vv (V.ix O9 z z e (E9 n))<|Vv (V.ldS z w.u (by exact V8)) ?_
  refine bE H fun P A H=>?_
  obtain ⟨S,U,W,B,C⟩:=B2J.call (o.u (g:=r)) ⟨x,rfl,y.u⟩ A
  refine To (O.A1e z B z (C _) z fun X Y Z aa D=>?_)
  obtain ⟨rfl,E⟩:=D
  refine P7 _ E<|Nt<|T.cH H z (fun H=>?_) fun H=>?_
  ·exact Sm z<|Ag z<|Nr<|Br<|Tr<|Tr<|have H:=D6 H f; Br<|Tr<|have H:=I7 H m; E1 H
  refine T.skip<|Bn<|Th<|Rg<|bE H fun G I H=>Vv (V.H8 z z I)<|Mv z<|Nt<|T.ag (t,G) (D8 H f)
 exact T.exit<|Te<|Te<|have H:=D6 H f; Be<|Th<|have H:=I7 H m; Sg z<|Nr<|E1 H
theorem C0g {h g c d i} (e:F8 VS 1 h g c) (H:B0y c d=some i):∀ L,FnW prog 164 [g,.string d] h L (.int .i64 i):=by
 intro L
 refine J6.enter func164 z z z<|Sr<|An z<|Sq<|Sm z<|Vv (V.Q3 X5 z e)<|Mv z<|Nt ?_
 obtain ⟨m,n,j⟩:=K4 H
 have H:=n
 refine Bl<|T.lk [0,1,7] (FUEL,(0:Int)) (fun ⟨a,b⟩=>([(8,qi b)],L,fun hh=>iter (A6x c d) a b=some m)) H ?_
 rintro ⟨a,b⟩ t w o
 obtain ⟨p,x,rfl,H,f⟩:=G8 o
 refine T.norm [8,0,1,7] z<|T.fl ?_
 refine Sr<|Wl z z<|Nt<|Sq<|T.cH H z (fun H=>?_) fun H=>?_
 ·refine Ks<|Sq<|Bl<|Sm z<|An z<|Sm z<|Mv z<|Mv z<|bE H fun y k H=>?_
  obtain ⟨A,q,rfl⟩:=F8.at e k
  refine Vv (V.ix X5 z z e (E9 k))<|Vv (V.S9 J7 z q.u z)<|Vv (V.seq z z)<|Nt<|T.cH H z (fun H=>?_) fun H=>?_
  ·exact Sm z<|Ag z<|Nr<|Br<|Tr<|Tr<|have H:=D6 H f; Br<|Tr<|have H:=I7 H j; E1 H
  refine T.skip<|Bn<|Th<|Rg<|bE H fun r s H=>Vv (V.H8 z z s)<|Mv z<|Nt<|T.ag (p,r) (D8 H f)
 exact T.exit<|Te<|Te<|have H:=D6 H f; Be<|Th<|have H:=I7 H j; Sg z<|Nr<|E1 H
theorem B7e {h a b c d} (e:F8 VS 1 h a b) (H:A6K b c=some d):∀ L,FnW prog 116 [a,.string c] h L (.bool d):=by
 intro L
 exact J6.enter func116 z z z<|Sr<|An z<|Sm z<|Mv z<|bE H fun j f H=>To (O.cs (C0g e f _) fun m o=>Vv (V.ge z z)<|Ag z<|Nr<|E1 H)
theorem A5z {h a b} (H:A1p a=some b):∀ L,FnW prog 273 [.int .i64 a] h L (.bool b):=by
 intro L
 exact J6.enter func273 z z z<|Sr<|An z<|Sm z<|Mv z<|Wn z z<|Ag z<|Nr<|E1 H
theorem B6G {h a b c} (H:A6p a b=some c):∀ L,FnW prog 254 [.int .i64 a,.int .i64 b] h L (.int .i64 c):=by
 intro L
 refine J6.enter func254 z z z<|Sr<|An z<|Sm z<|bE H fun k d H=>To (O.cs (A5z d _) fun n p=>An z<|Sm z<|bE H fun q g H=>To (O.cs (A5z g _) fun s u=>An z<|Sq<|Sm z<|Nt<|T.cH H z (fun H=>?_) fun H=>?_))
 ·refine Sq<|Sm z<|Nt<|T.cH H z (fun H=>?_) fun H=>?_
  ·exact Sg z<|Nr<|Tr<|Tr<|E1 H
  exact Ks<|Sg z<|Nr<|Tr<|E1 H
 refine Ks<|Sq<|Sm z<|Nt<|T.cH H z (fun H=>?_) fun H=>?_
 ·exact Sg z<|Nr<|Tr<|E1 H
 refine Ks<|Sq<|Sm z<|Mv z<|Wl z z<|Nt<|T.cH H z (fun H=>?_) fun H=>?_
 ·exact Sg z<|Nr<|Tr<|E1 H
 refine Ks<|Sq<|Sm z<|Mv z<|Wg z z<|Nt<|T.cH H z (fun H=>?_) fun H=>?_
 ·exact Sg z<|Nr<|Tr<|E1 H
 exact Ks<|Sg z<|Nr<|E1 H
theorem B9X {h a b c} (H:B0s a b=some c):∀ L,FnW prog 262 [.int .i64 a,.int .i64 b] h L (.bool c):=by
 intro L
 refine J6.enter func262 z z z<|Sr<|An z<|Sm z<|bE H fun k d H=>To (O.cs (A5z d _) fun n p=>Mv z<|T.bH 7 H z (fun H=>?_) fun H=>?_)
 ·refine Mv z<|bE H fun q g H=>To (O.cs (A5z g _) fun s u=>Vv (V.not z)<|Kt z<|Mv z<|T.bH 12 H z (fun H=>?_) fun H=>?_)
  ·exact S2<|Sk<|Kt z<|Ag z<|Nr<|E1 H
  exact Mv z<|Mv z<|Wl z z<|Kf z<|Ag z<|Nr<|E1 H
 exact S2<|Sk<|Kf z<|Mv z<|Mv z<|Mv z<|Wl z z<|Kf z<|Ag z<|Nr<|E1 H
theorem B8b {h j f k g m} (c:F8 (VI .i64) 1 h j f) (d:F8 (VI .i64) 1 h k g) (H:A3B f g=some m):∀ L,FnW prog 243 [j,k] h L (.int .i64 m):=by
 intro L
 refine J6.enter func243 z z z<|Sr<|An z<|Sq<|Sm z<|Vv (V.Q3 A9 z c)<|Mv z<|Nt ?_
 obtain ⟨p,q,i⟩:=K4 H
 have H:=q
 refine Bl<|T.lk [0,1,9,10] (FUEL,(0:Int)) (fun ⟨a,b⟩=>([(11,qi b)],L,fun hh=>iter (A2K f g) a b=some p)) H ?_
 rintro ⟨a,b⟩ D E r
 obtain ⟨s,G,rfl,H,e⟩:=G8 r
 refine T.norm [11,0,1,9,10] z<|T.fl ?_
 refine Sr<|Wl z z<|Nt<|Sq<|T.cH H z (fun H=>?_) fun H=>?_
 ·refine Ks<|Sq<|Bl<|Sm z<|bE H fun I n H=>?_
  obtain ⟨J,t,rfl⟩:=F8.at c n
  refine Vv (V.ix A9 z z c (E9 n))<|Vv (V.S9 D7 z t.u z)<|Ag z<|An z<|Sq<|Sm z<|Mv z<|Vv (V.Q3 A9 z d)<|Vv (V.ge z z)<|Nt<|T.cH H z (fun H=>?_) fun H=>?_
  ·exact Sg z<|Nr<|Tr<|Br<|Tr<|Tr<|have H:=D6 H e; Br<|Tr<|have H:=I7 H i; E1 H
  refine Ks<|Sm z<|Mv z<|bE H fun K o H=>?_
  obtain ⟨M,w,rfl⟩:=F8.at d o
  refine Vv (V.ix A9 z z d (E9 o))<|Vv (V.S9 D7 z w.u z)<|An z<|Sm z<|Mv z<|bE H fun N x H=>To (O.cs (B6G x _) fun S W=>An z<|Sm z<|Wn z z<|Nt<|T.cH H z (fun H=>?_) fun H=>?_)
  ·exact Sm z<|Ag z<|Nr<|Br<|Tr<|Tr<|have H:=D6 H e; Br<|Tr<|have H:=I7 H i; E1 H
  refine T.skip<|Bn<|Th<|Rg<|bE H fun B C H=>Vv (V.H8 z z C)<|Mv z<|Nt<|T.ag (s,B) (D8 H e)
 refine T.exit<|Te<|Te<|have H:=D6 H e; Be<|Th<|have H:=I7 H i; Sq<|Sm z<|Vv (V.Q3 A9 z c)<|Mv z<|Vv (V.Q3 A9 z d)<|Wl z z<|Nt<|T.cH H z (fun H=>?_) fun H=>?_
 ·exact Sg z<|Nr<|Tr<|E1 H
 exact Ks<|Sg z<|Nr<|E1 H
theorem B9S {h i d j e k} (c:F8 (VI .i64) 1 h i d) (f:F8 (VI .i64) 1 h j e) (H:A2S d e=some k):∀ L,FnW prog 245 [i,j] h L (.bool k):=by
 intro L
 refine J6.enter func245 z z z<|Sr<|An z<|Sq<|Sm z<|Vv (V.Q3 A9 z c)<|Mv z<|Vv (V.Q3 A9 z f)<|Wn z z<|Nt<|T.cH H z (fun H=>?_) fun H=>?_
 ·exact Sg z<|Nr<|Tr<|E1 H
 refine Ks<|Sq<|Sm z<|Vv (V.Q3 A9 z c)<|Mv z<|Nt ?_
 obtain ⟨p,q,m⟩:=K4 H
 have H:=q
 refine Bl<|T.lk [0,1,12] (FUEL,(0:Int)) (fun ⟨a,b⟩=>([(13,qi b)],L,fun hh=>iter (A6n d e) a b=some p)) H ?_
 rintro ⟨a,b⟩ B C r
 obtain ⟨s,D,rfl,H,g⟩:=G8 r
 refine T.norm [13,0,1,12] z<|T.fl ?_
 refine Sr<|Wl z z<|Nt<|Sq<|T.cH H z (fun H=>?_) fun H=>?_
 ·refine Ks<|Sq<|Bl<|Sm z<|An z<|Sq<|T.N8 (t:=(.vs [0,1,2,3,4,5,6,7,8] .done)) 10 0 0 z z I5 (by kernel_rfl) ?_
  refine Tm z z<|Tm z z<|bE H fun E n H=>?_
  obtain ⟨G,w,rfl⟩:=F8.at c n
  refine Tv z (V.ix A9 z z c (E9 n))<|Tv z (V.S9 D7 z w.u z)<|Tm z z<|Tm z z<|bE H fun I o H=>?_
  obtain ⟨J,x,rfl⟩:=F8.at f o
  refine Tv z (V.ix A9 z z f (E9 o))<|Tv z (V.S9 D7 z x.u z)<|Tv z (V.ne z z)<|T.O7 (X2 z z)<|Th<|T.cH H z (fun H=>?_) fun H=>?_
  ·exact Sg z<|Nr<|Br<|Tr<|Tr<|have H:=D6 H g; Br<|Tr<|have H:=I7 H m; E1 H
  refine T.skip<|Bn<|Th<|Rg<|bE H fun y A H=>Vv (V.H8 z z A)<|Mv z<|Nt<|T.ag (s,y) (D8 H g)
 exact T.exit<|Te<|Te<|have H:=D6 H g; Be<|Th<|have H:=I7 H m; Sg z<|Nr<|E1 H
theorem A1C {h a e f} (c:F8 (VI .i64) 1 h a e) (H:A0Y e=some f):∀ L,J6 prog 41 [a] h (L) (fun v h' L'=>∃ g,L'=F5 3 1 v g::L∧A7 (VI .i64) h' g f):=by
 intro L
 refine J6.enter func41 z z z<|Sr<|An z<|Sq<|Sm z<|Vv (V.C2z A9 z c)<|Nt<|T.cond (b:=B4D a) z (fun i=>?_) (fun i=>?_)
 ·have H:=B1t (F8.B4D c i) H
  refine Sg z<|Nr<|Tr<|T.R4 3 1<|have o:A7 (VI .i64) h [] ([]:List Int):=A7.nil; ?_
  cases H
  exact T.rl z (Rv z) ⟨_,z,o⟩
 refine Ks<|Sr<|To (O.bs0 A9 z fun s=>have k:A7 (VI .i64) h [] ([]:List Int):=A7.nil; Mv z ?_)
 obtain ⟨p,m,d⟩:=F8.row c
 refine bE H fun q n H=>To (O.apX A9 A9 K8 z z z (j:=0) z (Src.fix m) m.wide (A7.ones VI.plain d) k d n z fun t u w=>have r:A7 (VI .i64) h ([] ++ p) q:=A7.ap k d n; Ag z<|Nr ?_)
 cases H
 exact T.rl z (Rv z) ⟨_,z,r⟩
theorem B7S {h a e f} (c:F8 I6 7 h a e) (H:A7B e=some f):∀ L,J6 prog 79 [a] h (L) (fun v h' L'=>∃ g,L'=F5 139 7 v g::L∧A7 I6 h' g f):=by
 intro L
 refine J6.enter func79 z z z<|Sr<|An z<|Sq<|Sm z<|Vv (V.C2z O6 z c)<|Nt<|T.cond (b:=B4D a) z (fun i=>?_) (fun i=>?_)
 ·have H:=B1t (F8.B4D c i) H
  refine Sg z<|Nr<|Tr<|T.R4 139 7<|have o:A7 I6 h [] ([]:List D5):=A7.nil; ?_
  cases H
  exact T.rl z (Rv z) ⟨_,z,o⟩
 refine Ks<|Sr<|To (O.bs0 O6 z fun s=>have k:A7 I6 h [] ([]:List D5):=A7.nil; Mv z ?_)
 obtain ⟨p,m,d⟩:=F8.row c
 refine bE H fun q n H=>To (O.apX O6 O6 A1J z z z (j:=0) z (Src.fix m) m.wide (A7.ones I6.plain d) k d n z fun t u w=>have r:A7 I6 h ([] ++ p) q:=A7.ap k d n; Ag z<|Nr ?_)
 cases H
 exact T.rl z (Rv z) ⟨_,z,r⟩
theorem B7C {h a e f} (c:F8 I8 9 h a e) (H:A8a e=some f):∀ L,J6 prog 80 [a] h (L) (fun v h' L'=>∃ g,L'=F5 121 9 v g::L∧A7 I8 h' g f):=by
 intro L
 refine J6.enter func80 z z z<|Sr<|An z<|Sq<|Sm z<|Vv (V.C2z O9 z c)<|Nt<|T.cond (b:=B4D a) z (fun i=>?_) (fun i=>?_)
 ·have H:=B1t (F8.B4D c i) H
  refine Sg z<|Nr<|Tr<|T.R4 121 9<|have o:A7 I8 h [] ([]:List E8):=A7.nil; ?_
  cases H
  exact T.rl z (Rv z) ⟨_,z,o⟩
 refine Ks<|Sr<|To (O.bs0 O9 z fun s=>have k:A7 I8 h [] ([]:List E8):=A7.nil; Mv z ?_)
 obtain ⟨p,m,d⟩:=F8.row c
 refine bE H fun q n H=>To (O.apX O9 O9 A1K z z z (j:=0) z (Src.fix m) m.wide (A7.ones I8.plain d) k d n z fun t u w=>have r:A7 I8 h ([] ++ p) q:=A7.ap k d n; Ag z<|Nr ?_)
 cases H
 exact T.rl z (Rv z) ⟨_,z,r⟩
theorem B0c {h a e f} (c:F8 VS 1 h a e) (H:A4e e=some f):∀ L,J6 prog 81 [a] h (L) (fun v h' L'=>∃ g,L'=F5 9 1 v g::L∧A7 VS h' g f):=by
 intro L
 refine J6.enter func81 z z z<|Sr<|An z<|Sq<|Sm z<|Vv (V.C2z X5 z c)<|Nt<|T.cond (b:=B4D a) z (fun i=>?_) (fun i=>?_)
 ·have H:=B1t (F8.B4D c i) H
  refine Sg z<|Nr<|Tr<|T.R4 9 1<|have o:A7 VS h [] ([]:List ByteArray):=A7.nil; ?_
  cases H
  exact T.rl z (Rv z) ⟨_,z,o⟩
 refine Ks<|Sr<|To (O.bs0 X5 z fun s=>have k:A7 VS h [] ([]:List ByteArray):=A7.nil; Mv z ?_)
 obtain ⟨p,m,d⟩:=F8.row c
 refine bE H fun q n H=>To (O.apX X5 X5 C0q z z z (j:=0) z (Src.fix m) m.wide (A7.ones VS.plain d) k d n z fun t u w=>have r:A7 VS h ([] ++ p) q:=A7.ap k d n; Ag z<|Nr ?_)
 cases H
 exact T.rl z (Rv z) ⟨_,z,r⟩
theorem B9O {h a e f} (c:F8 L8 3 h a e) (H:B0z e=some f):∀ L,J6 prog 82 [a] h (L) (fun v h' L'=>∃ g,L'=F5 168 3 v g::L∧A7 L8 h' g f):=by
 intro L
 refine J6.enter func82 z z z<|Sr<|An z<|Sq<|Sm z<|Vv (V.C2z A0U z c)<|Nt<|T.cond (b:=B4D a) z (fun i=>?_) (fun i=>?_)
 ·have H:=B1t (F8.B4D c i) H
  refine Sg z<|Nr<|Tr<|T.R4 168 3<|have o:A7 L8 h [] ([]:List H7):=A7.nil; ?_
  cases H
  exact T.rl z (Rv z) ⟨_,z,o⟩
 refine Ks<|Sr<|To (O.bs0 A0U z fun s=>have k:A7 L8 h [] ([]:List H7):=A7.nil; Mv z ?_)
 obtain ⟨p,m,d⟩:=F8.row c
 refine bE H fun q n H=>To (O.apX A0U A0U A9I z z z (j:=0) z (Src.fix m) m.wide (A7.ones L8.plain d) k d n z fun t u w=>have r:A7 L8 h ([] ++ p) q:=A7.ap k d n; Ag z<|Nr ?_)
 cases H
 exact T.rl z (Rv z) ⟨_,z,r⟩
theorem B8N {h a e f} (c:F8 H9 6 h a e) (H:A8Y e=some f):∀ L,J6 prog 83 [a] h (L) (fun v h' L'=>∃ g,L'=F5 43 6 v g::L∧A7 H9 h' g f):=by
 intro L
 refine J6.enter func83 z z z<|Sr<|An z<|Sq<|Sm z<|Vv (V.C2z U9 z c)<|Nt<|T.cond (b:=B4D a) z (fun i=>?_) (fun i=>?_)
 ·have H:=B1t (F8.B4D c i) H
  refine Sg z<|Nr<|Tr<|T.R4 43 6<|have o:A7 H9 h [] ([]:List F3):=A7.nil; ?_
  cases H
  exact T.rl z (Rv z) ⟨_,z,o⟩
 refine Ks<|Sr<|To (O.bs0 U9 z fun s=>have k:A7 H9 h [] ([]:List F3):=A7.nil; Mv z ?_)
 obtain ⟨p,m,d⟩:=F8.row c
 refine bE H fun q n H=>To (O.apX U9 U9 A1R z z z (j:=0) z (Src.fix m) m.wide (A7.ones H9.plain d) k d n z fun t u w=>have r:A7 H9 h ([] ++ p) q:=A7.ap k d n; Ag z<|Nr ?_)
 cases H
 exact T.rl z (Rv z) ⟨_,z,r⟩
end Go.Proofs.X
open Go Go.Proofs Go.Proofs.Tryz Go.Sl Go.Dm
namespace Go.Proofs.X
theorem A1x:A1d prog 81=some (88,3,24):=by kernel_rfl
theorem J9:A1d prog 84=some (30,1,24):=by kernel_rfl
theorem E5:U6 prog 30=some (false,1):=by kernel_rfl
theorem A1y:U6 prog 88=some (true,3):=by kernel_rfl
theorem C1I {h e f} (H:bits_Len64 e=some f):∀ L,FnW prog 203 [.int .u64 e] h L (.int .i64 f):=by
 intro L
 refine J6.enter func203 z z z<|Sr<|An z<|Sq<|Sm z<|Vv (V.ge z z)<|Nt ?_
 obtain ⟨g,i,j⟩:=K4 H
 refine T.ck (α:=Int×Int) [] (fun ⟨a,b⟩=>([(0,.int .u64 a),(2,qi b)],L,fun hh=>g=(a,b))) ?_ ?_
 ·have H:=i
  refine T.cH H z (fun H=>?_) fun H=>?_
  ·refine Sm z<|bE H fun k m H=>Vv (V.A3P z z m)<|An z<|Rg<|An z<|T.mt (k,(32:Int)) (M7 H)
  refine Ks<|T.mt (e,(0:Int)) (M7 H)
 rintro ⟨a,b⟩ K M n
 have H:=I7 n j
 refine T.norm [0,2] z<|T.fl ?_
 refine Sq<|Sm z<|Vv (V.ge z z)<|Nt ?_
 obtain ⟨o,p,q⟩:=K4 H
 refine T.ck (α:=Int×Int) [] (fun ⟨c,d⟩=>([(0,.int .u64 c),(2,qi d)],L,fun hh=>o=(c,d))) ?_ ?_
 ·have H:=p
  refine T.cH H z (fun H=>?_) fun H=>?_
  ·refine Sm z<|bE H fun r s H=>Vv (V.A3P z z s)<|An z<|Rg<|Mv z<|bE H fun t u H=>Vv (V.H8 z z u)<|An z<|T.mt (r,t) (M7 H)
  refine Ks<|T.mt (a,b) (M7 H)
 rintro ⟨c,d⟩ N O w
 have H:=I7 w q
 refine T.norm [0,2] z<|T.fl ?_
 refine Sq<|Sm z<|Vv (V.ge z z)<|Nt<|T.cH H z (fun H=>?_) fun H=>?_
 ·exact Sm z<|bE H fun P x H=>Vv (V.A3P z z x)<|An z<|Rg<|Mv z<|bE H fun S y H=>Vv (V.H8 z z y)<|An z<|Sm z<|Mv z<|bE H fun U A H=>Vv (V.A5c underlying240 underlying5 z A)<|bE H fun W B H=>Vv (V.C4Z underlying9 z z B)<|bE H fun X C H=>Vv (V.A5c underlying5 underlying3 z C)<|bE H fun Y D H=>Vv (V.H8 z z D)<|Ag z<|Nr<|E1 H
 exact Ks<|Sm z<|Mv z<|bE H fun Z E H=>Vv (V.A5c underlying240 underlying5 z E)<|bE H fun aa G H=>Vv (V.C4Z underlying9 z z G)<|bE H fun ab I H=>Vv (V.A5c underlying5 underlying3 z I)<|bE H fun ac J H=>Vv (V.H8 z z J)<|Ag z<|Nr<|E1 H
theorem B3g {h a b} (H:bits_Len a=some b):∀ L,FnW prog 137 [.int .u64 a] h L (.int .i64 b):=by
 intro L
 exact J6.enter func137 z z z<|Sr<|An z<|Sq<|Cf z<|Ks<|Sm z<|bE H fun f c H=>To (O.cs (C1I c _) fun i k=>Ag z<|Nr<|E1 H)
theorem C3d {h d A B r C q_0} (X:A7 (VI .i64) h A B) (H:B3Y B r C=some q_0):∀ L,J6 prog 256 [d,.int .i64 r,.int .i64 C] h (F5 3 1 d A::L) (fun v h' L'=>∃ G,v=.tuple #[]∧L'=F5 3 1 d G::L∧A7 (VI .i64) h' G q_0):=by
 intro L
 refine J6.enter func256 z z z<|Sm z<|bE H fun Y Z H=>Vv (V.H8 z z Z)<|An z<|T.A0L ?_
 obtain ⟨aa,ab,ac⟩:=K4 H
 have H:=ab
 refine Bl<|T.lk [1,2] (FUEL,B,Y,A) (fun ⟨n,e,f,k⟩=>([(0,d),(6,qi f)],F5 3 1 d k::L,fun hh=>iter (A4I r C) n (e,f)=some aa∧A7 (VI .i64) hh k e)) ⟨H,X⟩ ?_
 rintro ⟨n,e,f,k⟩ aU aV ⟨ad,I⟩
 obtain ⟨ae,aW,rfl,H,J⟩:=G8 ad
 refine T.norm [0,6,1,2] z<|T.fl ?_
 refine Sq<|Sm z<|Mv z<|Wl z z<|Nt<|T.cH H z (fun H=>?_) fun H=>?_
 ·refine Ks<|Sq<|Bl<|Sm z<|An z<|T.A0L ?_
  obtain ⟨af,ai,aj⟩:=K4 H
  have H:=ai
  refine Bl<|T.lk [1,2,6] (FUEL,e,f,k) (fun ⟨o,m,c,b⟩=>([(0,d),(7,qi c)],F5 3 1 d b::L,fun hh=>iter (A4C r) o (m,c)=some af∧A7 (VI .i64) hh b m)) ⟨H,I⟩ ?_
  rintro ⟨o,m,c,b⟩ aX aY ⟨ak,a⟩
  obtain ⟨am,aZ,rfl,H,K⟩:=G8 ak
  refine T.norm [0,7,1,2,6] z<|T.fl ?_
  refine Sq<|Sq ?_
  obtain ⟨an,ao,ap⟩:=K4 H
  refine T.ck (α:=Bool) [0,1,2,6,7] (fun p=>([(30,.bool p)],F5 3 1 d b::L,fun hh=>an=p)) ?_ ?_
  ·have H:=ao
   refine T.N8 (t:=(.vs [0,1,2,3,4,5,6,7,8,9,10,11,12] (.alt 13 (.g (.v 14 .done)) .no))) 16 1 1 z z I5 (by kernel_rfl) ?_
   refine Tm z z<|Tm z z<|Tv z (V.gt z z)<|Tm z z<|T.bH 19 H z (fun H=>?_) fun H=>?_
   ·refine Tm z z<|Tm z z<|bE H fun a0 M H=>?_
    obtain ⟨a1,aq,rfl⟩:=A7.get a M
    refine Tv z (Val.XA fun _ _ _=>V.ixR A9 z z (j:=0) z (A7.bd a M))<|Tv z (Val.XA fun _ _ _=>V.ldR D7 z (j:=0) z aq z)<|Tm z z<|Tm z z<|bE H fun a2 ar H=>Tv z (V.Y9 z z ar)<|bE H fun a3 N H=>?_
    obtain ⟨a4,au,rfl⟩:=A7.get a N
    refine Tv z (Val.XA fun _ _ _=>V.ixR A9 z z (j:=0) z (A7.bd a N))<|Tv z (Val.XA fun _ _ _=>V.ldR D7 z (j:=0) z au z)<|bE H fun aw ax H=>Tp z z (X3 [0] [0] z z) (O.G9 z (B9X ax _) z fun a5 a6 a7 a8 ay=>?_) T.P5
    obtain ⟨rfl,aA⟩:=ay
    refine P7 _ aA<|T.O1 Li<|Tv z (V.pkT z z)<|T.O7 (X3 [0] [0] z z)<|Th<|T.mt aw (M7 H)
   refine T2 z z<|T2 z z<|T2 z z<|T2 z z<|Tk z<|T.A4a z z (X3 [0] [0] z z) z ?_ T.P5
   refine T.O1 Lr<|Tv z (V.pkF z z)<|T.O7 (X3 [0] [0] z z)<|Th<|T.mt false (M7 H)
  rintro p s a9 aB
  have H:=I7 aB ap
  refine T.norm [30,0,1,2,6,7] z<|T.fl ?_
  refine T.cH H z (fun H=>?_) fun H=>?_
  ·refine Ks<|Sq<|Bl<|T.N8 (t:=(.vs [0,1,2,3,4,5,6,7] (.x 8 (.x 9 (.v 10 (.v 11 (.alt 12 (.x 13 (.x 14 (.alt 15 (.alt 16 (.alt 17 .done .no) .no) .no))) .no))))))) 15 1 0 z z I5 (by kernel_rfl) ?_
   refine Tm z z<|Tm z z<|Tm z z<|Tm z z<|bE H fun P aC H=>Tv z (V.Y9 z z aC)<|Tm z z<|Tm z z<|bE H fun ah aD H=>Tv z (V.Y9 z z aD)<|bE H fun q S H=>?_
   obtain ⟨al,aE,rfl⟩:=A7.get a S
   refine T.tx z z (Val.XA fun _ _ _=>V.ixR A9 z z (j:=0) z (A7.bd a S)) z Calm.i<|T.tx z z (Val.XA fun _ _ _=>V.ldR D7 z (j:=0) z aE z) z Calm.i<|Tm z z<|Tm z z<|bE H fun w U H=>?_
   obtain ⟨av,aG,rfl⟩:=A7.get a U
   refine Ts z z (X3 [] [0] z z) (V.ixR A9 z z (j:=0) z (A7.bd a U)) z ?_ T.P5
   refine T.tx z z (Val.XA fun _ _ _=>V.ldR D7 z (j:=0) z aG z) z Calm.i<|bE H fun az D H=>?_
   obtain ⟨ba,bb,rfl⟩:=A7.get a D
   refine T.tx z z (Val.XA fun _ _ _=>V.ixR A9 z z (j:=0) z (A7.bd a D)) z Calm.i<|bE H fun aI aJ H=>Tp z z (X3 [] [0] z z) (O.stR D7 z z (j:=0) z (A7.bdN a D) z ?_) T.P5
   have y:A7 (VI .i64) s (b.set c.toNat [qi q]) aI:=A7.set a.u (show (VI .i64) s [qi q] q from z) aJ
   refine bE H fun bc E H=>?_
   obtain ⟨be,bf,rfl⟩:=A7.get y E
   refine Ts z z (SX.one (XA.fr [] Lr z) z) (V.ixR A9 z z (j:=0) z (A7.bd y E)) z ?_ T.P5
   refine bE H fun W aK H=>Tp z z (SX.one (XA.fr [] Lr z) z) (O.stR D7 z z (j:=0) z (A7.bdN y E) z ?_) T.P5
   have aM:A7 (VI .i64) s ((b.set c.toNat [qi q]).set P.toNat [qi w]) W:=A7.set y (show (VI .i64) s [qi w] w from z) aK
   refine T.O7 (SX.one (XA.fr [] Lr z) z)<|Bn<|Th<|Rg<|Mv z<|bE H fun aN aO H=>Vv (V.Y9 z z aO)<|An z<|T.ag (am,W,aN,((b.set c.toNat [qi q]).set P.toNat [qi w])) ⟨(D8 H K),aM⟩
  refine T.exit<|Te<|Te<|have H:=D6 H K; Be<|Th<|have H:=I7 H aj; Bn<|Th<|Rg<|Mv z<|bE H fun aP aS H=>Vv (V.H8 z z aS)<|An z<|T.ag (ae,m,aP,b) ⟨(D8 H J),a.u⟩
 refine T.exit<|Te<|Te<|have H:=D6 H J; Be<|Th<|have H:=I7 H ac; ?_
 cases H
 exact T.A0Q results256 Li ⟨_,z,z,I⟩
theorem C2W (n:Nat):∀ {h:PH} {pv0:Value} {pcs0:List (List Value)} {data1:List Int} (pr0:A7 (VI .i64) h pcs0 data1) {a3:Int} {b4:Int} {limit5:Int} {q_0:List Int} (H:B7G n data1 a3 b4 limit5=some q_0) (L:List D9),J6 prog 250 [pv0,.int .i64 a3,.int .i64 b4,.int .i64 limit5] h (F5 3 1 pv0 pcs0::L) (fun v h' L'=>∃ ls0,v=.tuple #[]∧L'=F5 3 1 pv0 ls0::L∧A7 (VI .i64) h' ls0 q_0):=by
  induction n with
  | zero=>intros; rename_i H _; cases H
  | succ n self=>
    intro h pv0 pcs0 data1 pr0 a3 b4 limit5 q_0 H L
    refine J6.enter func250 z z z<|Sr<|An z<|Sr<|An z ?_
    obtain ⟨b,c,d⟩:=K4 H
    have H:=c
    refine Bl<|T.C2r (α:=Nat) [0,1,2,3,8,9] z (fun a=>[]) (fun a=>F5 3 1 pv0 pcs0::L) (fun a hh=>iter (A8S data1 a3 b4 limit5) a ()=some b) (fun a=>a) FUEL trivial z H ?_
    rintro a o p e
    obtain ⟨q,r,rfl,H,f⟩:=G8 e
    refine T.norm [0,1,2,3,8,9] z<|T.fl ?_
    refine Bl<|Sm z<|Mv z<|bE H fun s g H=>Vv (V.Y9 z z g)<|An z<|Sq<|Sm z<|Vv (V.le z z)<|Nt<|T.cH H z (fun H=>?_) fun H=>?_
    ·refine Sm z<|Mv z<|Mv z<|bE H fun t i H=>To (O.G9 z (C3d pr0.u i _) z fun w x y A j=>?_)
     obtain ⟨B,rfl,k,m⟩:=j
     refine P7 _ k<|Nr<|Tr<|Br<|Tr<|have H:=D6 H f; Br<|have H:=I7 H d; ?_
     cases H
     exact T.C5a results250 Li ⟨_,z,z,m⟩
    refine Ks<|Sq<|Sm z<|We z z<|Nt<|T.cH H z (fun H=>?_) fun H=>?_
    ·refine Sm z<|Mv z<|Mv z<|dead H
    refine Ks<|Sq<|Sm z<|Vv (V.not z)<|Nt<|Cf z<|Ks<|Sm z<|Mv z<|Mv z<|dead H
theorem C1m {h a b c q_0} (d:A7 (VI .i64) h b c) (H:B2d c=some q_0):∀ L,J6 prog 235 [a] h (F5 3 1 a b::L) (fun v h' L'=>∃ e,v=.tuple #[]∧L'=F5 3 1 a e::L∧A7 (VI .i64) h' e q_0):=by
 intro L
 refine J6.enter func235 z z z<|Sm z<|Vv (V.A4x A9 z (j:=0) z d.len)<|An z<|Rg<|Mv z<|Mv z<|Mv z<|bE H fun q f H=>Vv (V.A5c underlying3 underlying208 z f)<|bE H fun r g H=>To (O.cs (B3g g _) fun t x=>bE H fun y m H=>To (O.G9 z (C2W _ d.u m _) z fun A B C D n=>?_))
 obtain ⟨E,rfl,o,p⟩:=n
 refine P7 _ o<|Ni ?_
 cases H
 exact T.A0Q results235 Li ⟨_,z,z,p⟩
theorem B2C {h d B C r D I s q_0} (Z:A7 (VI .i64) h B C) (aa:B0l h I s) (H:A6M C r D s=some q_0):∀ L,J6 prog 274 [d,.int .i64 r,.int .i64 D,I] h (F5 3 1 d B::L) (fun v h' L'=>∃ J,v=.tuple #[]∧L'=F5 3 1 d J::L∧A7 (VI .i64) h' J q_0):=by
 intro L
 refine J6.enter func274 z z z<|Sm z<|bE H fun ab ac H=>Vv (V.H8 z z ac)<|An z<|T.A0L ?_
 obtain ⟨ad,ae,af⟩:=K4 H
 have H:=ae
 refine Bl<|T.lk [1,2,3] (FUEL,C,ab,B) (fun ⟨n,e,f,k⟩=>([(0,d),(8,qi f)],F5 3 1 d k::L,fun hh=>iter (A1Y r D s) n (e,f)=some ad∧A7 (VI .i64) hh k e)) ⟨H,Z⟩ ?_
 rintro ⟨n,e,f,k⟩ a0 a1 ⟨ai,K⟩
 obtain ⟨aj,a2,rfl,H,M⟩:=G8 ai
 refine T.norm [0,8,1,2,3] z<|T.fl ?_
 refine Sq<|Sm z<|Mv z<|Wl z z<|Nt<|T.cH H z (fun H=>?_) fun H=>?_
 ·refine Ks<|Sq<|Bl<|Sm z<|An z<|T.A0L ?_
  obtain ⟨ak,am,an⟩:=K4 H
  have H:=am
  refine Bl<|T.lk [1,2,3,8] (FUEL,e,f,k) (fun ⟨o,m,c,b⟩=>([(0,d),(9,qi c)],F5 3 1 d b::L,fun hh=>iter (A1X r s) o (m,c)=some ak∧A7 (VI .i64) hh b m)) ⟨H,K⟩ ?_
  rintro ⟨o,m,c,b⟩ ao a3 ⟨ap,a⟩
  obtain ⟨aq,a4,rfl,H,N⟩:=G8 ap
  refine T.norm [0,9,1,2,3,8] z<|T.fl ?_
  refine Sq<|Sq ?_
  obtain ⟨ar,au,aw⟩:=K4 H
  refine T.ck (α:=Bool) [0,1,2,3,8,9] (fun p=>([(34,.bool p)],F5 3 1 d b::L,fun hh=>ar=p)) ?_ ?_
  ·have H:=au
   refine T.N8 (t:=(.vs [0,1,2,3,4,5,6,7,8,9,10,11,12,13] (.alt 14 (.g (.v 15 (.v 16 .done))) .no))) 18 1 1 z z I5 (by kernel_rfl) ?_
   refine Tm z z<|Tm z z<|Tv z (V.gt z z)<|Tm z z<|T.bH 21 H z (fun H=>?_) fun H=>?_
   ·refine Tm z z<|Tm z z<|Tm z z<|bE H fun a5 P H=>?_
    obtain ⟨a6,ax,rfl⟩:=A7.get a P
    refine Tv z (Val.XA fun _ _ _=>V.ixR A9 z z (j:=0) z (A7.bd a P))<|Tv z (Val.XA fun _ _ _=>V.ldR D7 z (j:=0) z ax z)<|Tm z z<|Tm z z<|bE H fun a7 ay H=>Tv z (V.Y9 z z ay)<|bE H fun a8 S H=>?_
    obtain ⟨a9,aA,rfl⟩:=A7.get a S
    refine Tv z (Val.XA fun _ _ _=>V.ixR A9 z z (j:=0) z (A7.bd a S))<|Tv z (Val.XA fun _ _ _=>V.ldR D7 z (j:=0) z aA z)<|bE H fun aB aC H=>?_
    obtain ⟨ah,al,av,aD,aE⟩:=B0l.call (aa.u (g:=ao)) aC
    refine Tp z z (X3 [0] [0] z z) (O.A1e z aD z (aE _) z fun az ba bb bc aG=>?_) T.P5
    obtain ⟨rfl,aI⟩:=aG
    refine P7 _ aI<|T.O1 Li<|Tv z (V.lt z z)<|Tv z (V.pkT z z)<|T.O7 (X3 [0] [0] z z)<|Th<|T.mt (decide (aB < (0:Int))) (M7 H)
   refine T2 z z<|T2 z z<|T2 z z<|T2 z z<|T2 z z<|T.A4a z z (X3 [0] [0] z z) z ?_ T.P5
   refine T.O1 Lr<|Tk z<|Tv z (V.pkF z z)<|T.O7 (X3 [0] [0] z z)<|Th<|T.mt false (M7 H)
  rintro p w be aJ
  have H:=I7 aJ aw
  refine T.norm [34,0,1,2,3,8,9] z<|T.fl ?_
  refine T.cH H z (fun H=>?_) fun H=>?_
  ·refine Ks<|Sq<|Bl<|T.N8 (t:=(.vs [0,1,2,3,4,5,6,7] (.x 8 (.x 9 (.v 10 (.v 11 (.alt 12 (.x 13 (.x 14 (.alt 15 (.alt 16 (.alt 17 .done .no) .no) .no))) .no))))))) 15 1 0 z z I5 (by kernel_rfl) ?_
   refine Tm z z<|Tm z z<|Tm z z<|Tm z z<|bE H fun U aK H=>Tv z (V.Y9 z z aK)<|Tm z z<|Tm z z<|bE H fun bf aM H=>Tv z (V.Y9 z z aM)<|bE H fun q W H=>?_
   obtain ⟨bg,aN,rfl⟩:=A7.get a W
   refine T.tx z z (Val.XA fun _ _ _=>V.ixR A9 z z (j:=0) z (A7.bd a W)) z Calm.i<|T.tx z z (Val.XA fun _ _ _=>V.ldR D7 z (j:=0) z aN z) z Calm.i<|Tm z z<|Tm z z<|bE H fun y X H=>?_
   obtain ⟨bi,aO,rfl⟩:=A7.get a X
   refine Ts z z (X3 [] [0] z z) (V.ixR A9 z z (j:=0) z (A7.bd a X)) z ?_ T.P5
   refine T.tx z z (Val.XA fun _ _ _=>V.ldR D7 z (j:=0) z aO z) z Calm.i<|bE H fun bj E H=>?_
   obtain ⟨bk,bm,rfl⟩:=A7.get a E
   refine T.tx z z (Val.XA fun _ _ _=>V.ixR A9 z z (j:=0) z (A7.bd a E)) z Calm.i<|bE H fun aP aS H=>Tp z z (X3 [] [0] z z) (O.stR D7 z z (j:=0) z (A7.bdN a E) z ?_) T.P5
   have A:A7 (VI .i64) w (b.set c.toNat [qi q]) aP:=A7.set a.u (show (VI .i64) w [qi q] q from z) aS
   refine bE H fun bn G H=>?_
   obtain ⟨bo,bp,rfl⟩:=A7.get A G
   refine Ts z z (SX.one (XA.fr [] Lr z) z) (V.ixR A9 z z (j:=0) z (A7.bd A G)) z ?_ T.P5
   refine bE H fun Y aU H=>Tp z z (SX.one (XA.fr [] Lr z) z) (O.stR D7 z z (j:=0) z (A7.bdN A G) z ?_) T.P5
   have aV:A7 (VI .i64) w ((b.set c.toNat [qi q]).set U.toNat [qi y]) Y:=A7.set A (show (VI .i64) w [qi y] y from z) aU
   refine T.O7 (SX.one (XA.fr [] Lr z) z)<|Bn<|Th<|Rg<|Mv z<|bE H fun aW aX H=>Vv (V.Y9 z z aX)<|An z<|T.ag (aq,Y,aW,((b.set c.toNat [qi q]).set U.toNat [qi y])) ⟨(D8 H N),aV⟩
  refine T.exit<|Te<|Te<|have H:=D6 H N; Be<|Th<|have H:=I7 H an; Bn<|Th<|Rg<|Mv z<|bE H fun aY aZ H=>Vv (V.H8 z z aZ)<|An z<|T.ag (aj,m,aY,b) ⟨(D8 H M),a.u⟩
 refine T.exit<|Te<|Te<|have H:=D6 H M; Be<|Th<|have H:=I7 H af; ?_
 cases H
 exact T.A0Q results274 Li ⟨_,z,z,K⟩
theorem B8R {h a m n k p o q_0} (y:A7 (VI .i64) h m n) (q:B0l h p o) (H:B2r n k o=some q_0):∀ L,J6 prog 255 [a,.int .i64 k,p] h (F5 3 1 a m::L) (fun v h' L'=>∃ r,v=.tuple #[]∧L'=F5 3 1 a r::L∧A7 (VI .i64) h' r q_0):=by
 intro L
 refine J6.enter func255 z z z<|Sr<|An z<|Sm z<|Ag z<|An z<|Sq ?_
 obtain ⟨A,B,C⟩:=K4 H
 have H:=B
 refine Bl<|T.lk [1,2,6] (FUEL,n,(0:Int),(20:Int),m) (fun ⟨d,e,f,b,g⟩=>([(0,a),(7,qi f),(8,qi b)],F5 3 1 a g::L,fun hh=>iter (A8B k o) d (e,f,b)=some A∧A7 (VI .i64) hh g e)) ⟨H,y⟩ ?_
 rintro ⟨d,e,f,b,g⟩ au aw ⟨D,s⟩
 obtain ⟨E,ax,rfl,H,t⟩:=G8 D
 refine T.norm [0,7,8,1,2,6] z<|T.fl ?_
 refine Sq<|Sm z<|Mv z<|Vv (V.le z z)<|Nt<|T.cH H z (fun H=>?_) fun H=>?_
 ·refine Ks<|Bl<|Sm z<|Mv z<|Mv z<|Mv z<|bE H fun G I H=>To (O.G9 z (B2C s q.u I _) z fun ay aA aB aC J=>?_)
  obtain ⟨K,rfl,M,N⟩:=J
  refine P7 _ M<|Nt<|Sm z<|An z<|Rg<|Mv z<|Mv z<|bE H fun P S H=>Vv (V.H8 z z S)<|Ag z<|Ni<|Bn<|Th<|T.ag (E,G,b,P,K) ⟨(D8 H t),N⟩
 refine T.exit<|Te<|Te<|have H:=D6 H t; Be<|Th<|have H:=I7 H C; Sm z<|Mv z<|Mv z<|Mv z<|bE H fun aD U H=>To (O.G9 z (B2C s q.u U _) z fun aE aG aI aJ W=>?_)
 obtain ⟨w,rfl,X,Y⟩:=W
 refine P7 _ X<|Nt<|T.A0L ?_
 obtain ⟨Z,aa,ab⟩:=K4 H
 have H:=aa
 refine Bl<|T.lk [0,1,2] (FUEL,(20:Int)) (fun ⟨i,c⟩=>([(6,qi c)],F5 3 1 a w::L,fun hh=>iter (A8J k) i c=some Z)) H ?_
 rintro ⟨i,c⟩ aK aM ac
 obtain ⟨ad,aN,rfl,H,x⟩:=G8 ac
 refine T.norm [6,0,1,2] z<|T.fl ?_
 refine Sq<|Sm z<|Mv z<|Wl z z<|Nt<|T.cH H z (fun H=>?_) fun H=>?_
 ·refine Ks<|Bl<|Sm z<|bE H fun ae af H=>Vv (V.B0g z z af)<|Ag z<|An z<|Sq ?_
  obtain ⟨ai,aj,ak⟩:=K4 H
  have H:=aj
  refine Bl<|T.C2r (α:=Nat) [0,1,2,6,7,8] z (fun j=>[]) (fun j=>F5 3 1 a w::L) (fun j hh=>iter (B2z k c ae) j ()=some ai) (fun j=>j) FUEL trivial z H ?_
  rintro j aO aP am
  obtain ⟨aS,aU,rfl,H,an⟩:=G8 am
  refine T.norm [0,1,2,6,7,8] z<|T.fl ?_
  refine Sq<|Sm z<|Mv z<|Vv (V.le z z)<|Nt<|T.cH H z (fun H=>?_) fun H=>?_
  ·refine Ks<|Bl<|Sm z<|Mv z<|Mv z<|Mv z<|bE H fun aV ao H=>Vv (V.H8 z z ao)<|Mv z<|Mv z<|dead H
  refine T.exit<|Te<|Te<|have H:=D6 H an; Be<|Th<|have H:=I7 H ak; Sq<|Sm z<|Mv z<|bE H fun aW ap H=>Vv (V.H8 z z ap)<|An z<|Sm z<|Mv z<|Wl z z<|Nt<|T.cH H z (fun H=>?_) fun H=>?_
  ·refine Rg<|Mv z<|Mv z<|Mv z<|Mv z<|Mv z<|dead H
  refine Ks<|Rg<|Mv z<|bE H fun aq ar H=>Vv (V.B0g z z ar)<|Ag z<|Ni<|Bn<|Th<|T.ag (ad,aq) (D8 H x)
 refine T.exit<|Te<|Te<|have H:=D6 H x; Be<|Th<|have H:=I7 H ab; ?_
 cases H
 exact T.A0Q results255 Li ⟨_,z,z,Y.u⟩
theorem B4A {h a b c d e q_0} (f:A7 (VI .i64) h b c) (i:B0l h d e) (H:A4r c e=some q_0):∀ L,J6 prog 248 [a,d] h (F5 3 1 a b::L) (fun v h' L'=>∃ g,v=.tuple #[]∧L'=F5 3 1 a g::L∧A7 (VI .i64) h' g q_0):=by
 intro L
 refine J6.enter func248 z z z<|Rg<|Mv z<|Mv z<|Vv (V.A4x A9 z (j:=0) z f.len)<|Mv z<|bE H fun p k H=>To (O.G9 z (B8R f i k _) z fun q r s t m=>?_)
 obtain ⟨u,rfl,n,o⟩:=m
 refine P7 _ n<|Ni ?_
 cases H
 exact T.A0Q results248 Li ⟨_,z,z,o⟩
theorem B7B {h d B C r D I s q_0} (ab:A7 (VSl (VI .i64) 1) h B C) (ac:B0B h I s) (H:A7L C r D s=some q_0):∀ L,J6 prog 265 [d,.int .i64 r,.int .i64 D,I] h (F5 30 1 d B::L) (fun v h' L'=>∃ J,v=.tuple #[]∧L'=F5 30 1 d J::L∧A7 (VSl (VI .i64) 1) h' J q_0):=by
 intro L
 refine J6.enter func265 z z z<|Sm z<|bE H fun ad ae H=>Vv (V.H8 z z ae)<|An z<|T.A0L ?_
 obtain ⟨af,ai,aj⟩:=K4 H
 have H:=ai
 refine Bl<|T.lk [1,2,3] (FUEL,C,ad,B) (fun ⟨n,e,f,k⟩=>([(0,d),(8,qi f)],F5 30 1 d k::L,fun hh=>iter (A1u r D s) n (e,f)=some af∧A7 (VSl (VI .i64) 1) hh k e)) ⟨H,ab⟩ ?_
 rintro ⟨n,e,f,k⟩ a6 a7 ⟨ak,K⟩
 obtain ⟨am,a8,rfl,H,M⟩:=G8 ak
 refine T.norm [0,8,1,2,3] z<|T.fl ?_
 refine Sq<|Sm z<|Mv z<|Wl z z<|Nt<|T.cH H z (fun H=>?_) fun H=>?_
 ·refine Ks<|Sq<|Bl<|Sm z<|An z<|T.A0L ?_
  obtain ⟨an,ao,ap⟩:=K4 H
  have H:=ao
  refine Bl<|T.lk [1,2,3,8] (FUEL,e,f,k) (fun ⟨o,m,c,b⟩=>([(0,d),(9,qi c)],F5 30 1 d b::L,fun hh=>iter (A1w r s) o (m,c)=some an∧A7 (VSl (VI .i64) 1) hh b m)) ⟨H,K⟩ ?_
  rintro ⟨o,m,c,b⟩ aq a9 ⟨ar,a⟩
  obtain ⟨au,ah,rfl,H,N⟩:=G8 ar
  refine T.norm [0,9,1,2,3,8] z<|T.fl ?_
  refine Sq<|Sq ?_
  obtain ⟨aw,ax,ay⟩:=K4 H
  refine T.ck (α:=Bool) [0,1,2,3,8,9] (fun p=>([(34,.bool p)],F5 30 1 d b::L,fun hh=>aw=p)) ?_ ?_
  ·have H:=ax
   refine T.N8 (t:=(.vs [0,1,2,3,4,5,6,7,8,9,10,11,12,13] (.alt 14 (.g (.v 15 (.v 16 .done))) .no))) 18 1 1 z z I5 (by kernel_rfl) ?_
   refine Tm z z<|Tm z z<|Tv z (V.gt z z)<|Tm z z<|T.bH 21 H z (fun H=>?_) fun H=>?_
   ·refine Tm z z<|Tm z z<|Tm z z<|bE H fun al P H=>?_
    obtain ⟨av,aA,⟨az,rfl,aB⟩⟩:=A7.get a P
    refine Tv z (Val.XA fun _ _ _=>V.ixR J9 z z (j:=0) z (A7.bd a P))<|Tv z (Val.XA fun _ _ _=>V.ldR E5 z (j:=0) z aA z)<|Tm z z<|Tm z z<|bE H fun ba aC H=>Tv z (V.Y9 z z aC)<|bE H fun bb S H=>?_
    obtain ⟨bc,aD,⟨be,rfl,aE⟩⟩:=A7.get a S
    refine Tv z (Val.XA fun _ _ _=>V.ixR J9 z z (j:=0) z (A7.bd a S))<|Tv z (Val.XA fun _ _ _=>V.ldR E5 z (j:=0) z aD z)<|bE H fun aG aI H=>?_
    obtain ⟨bf,bg,bi,aJ,aK⟩:=B0B.call (ac.u (g:=aq)) aB aE aI
    refine Tp z z (X3 [0] [0] z z) (O.A1e z aJ z (aK _) z fun bj bk bm bn aM=>?_) T.P5
    obtain ⟨rfl,aN⟩:=aM
    refine P7 _ aN<|T.O1 Li<|Tv z (V.lt z z)<|Tv z (V.pkT z z)<|T.O7 (X3 [0] [0] z z)<|Th<|T.mt (decide (aG < (0:Int))) (M7 H)
   refine T2 z z<|T2 z z<|T2 z z<|T2 z z<|T2 z z<|T.A4a z z (X3 [0] [0] z z) z ?_ T.P5
   refine T.O1 Lr<|Tk z<|Tv z (V.pkF z z)<|T.O7 (X3 [0] [0] z z)<|Th<|T.mt false (M7 H)
  rintro p w bo aO
  have H:=I7 aO ay
  refine T.norm [34,0,1,2,3,8,9] z<|T.fl ?_
  refine T.cH H z (fun H=>?_) fun H=>?_
  ·refine Ks<|Sq<|Bl<|T.N8 (t:=(.vs [0,1,2,3,4,5,6,7] (.x 8 (.x 9 (.v 10 (.v 11 (.alt 12 (.x 13 (.x 14 (.alt 15 (.alt 16 (.alt 17 .done .no) .no) .no))) .no))))))) 15 1 0 z z I5 (by kernel_rfl) ?_
   refine Tm z z<|Tm z z<|Tm z z<|Tm z z<|bE H fun U aP H=>Tv z (V.Y9 z z aP)<|Tm z z<|Tm z z<|bE H fun bp aS H=>Tv z (V.Y9 z z aS)<|bE H fun aU W H=>?_
   obtain ⟨bq,aV,⟨q,rfl,X⟩⟩:=A7.get a W
   refine T.tx z z (Val.XA fun _ _ _=>V.ixR J9 z z (j:=0) z (A7.bd a W)) z Calm.i<|T.tx z z (Val.XA fun _ _ _=>V.ldR E5 z (j:=0) z aV z) z Calm.i<|Tm z z<|Tm z z<|bE H fun aW Y H=>?_
   obtain ⟨br,aX,⟨y,rfl,Z⟩⟩:=A7.get a Y
   refine Ts z z (X3 [] [0] z z) (V.ixR J9 z z (j:=0) z (A7.bd a Y)) z ?_ T.P5
   refine T.tx z z (Val.XA fun _ _ _=>V.ldR E5 z (j:=0) z aX z) z Calm.i<|bE H fun bs E H=>?_
   obtain ⟨bt,bu,⟨bw,rfl,bx⟩⟩:=A7.get a E
   refine T.tx z z (Val.XA fun _ _ _=>V.ixR J9 z z (j:=0) z (A7.bd a E)) z Calm.i<|bE H fun aY aZ H=>Tp z z (X3 [] [0] z z) (O.stR E5 z z (j:=0) z (A7.bdN a E) (F8.one X) ?_) T.P5
   have A:A7 (VSl (VI .i64) 1) w (b.set c.toNat [q]) aY:=A7.set a.u (show (VSl (VI .i64) 1) w [q] aU from ⟨q,z,X.u⟩) aZ
   refine bE H fun bA G H=>?_
   obtain ⟨bB,bC,⟨bD,rfl,bG⟩⟩:=A7.get A G
   refine Ts z z (SX.one (XA.fr [] Lr z) z) (V.ixR J9 z z (j:=0) z (A7.bd A G)) z ?_ T.P5
   refine bE H fun aa a0 H=>Tp z z (SX.one (XA.fr [] Lr z) z) (O.stR E5 z z (j:=0) z (A7.bdN A G) (F8.one Z) ?_) T.P5
   have a1:A7 (VSl (VI .i64) 1) w ((b.set c.toNat [q]).set U.toNat [y]) aa:=A7.set A (show (VSl (VI .i64) 1) w [y] aW from ⟨y,z,Z.u⟩) a0
   refine T.O7 (SX.one (XA.fr [] Lr z) z)<|Bn<|Th<|Rg<|Mv z<|bE H fun a2 a3 H=>Vv (V.Y9 z z a3)<|An z<|T.ag (au,aa,a2,((b.set c.toNat [q]).set U.toNat [y])) ⟨(D8 H N),a1⟩
  refine T.exit<|Te<|Te<|have H:=D6 H N; Be<|Th<|have H:=I7 H ap; Bn<|Th<|Rg<|Mv z<|bE H fun a4 a5 H=>Vv (V.H8 z z a5)<|An z<|T.ag (am,m,a4,b) ⟨(D8 H M),a.u⟩
 refine T.exit<|Te<|Te<|have H:=D6 H M; Be<|Th<|have H:=I7 H aj; ?_
 cases H
 exact T.A0Q results265 Li ⟨_,z,z,K⟩
theorem B7J (n:Nat):∀ {h:PH} {pv0:Value} {pcs0:List (List Value)} {data1:List (List Int)} (pr0:A7 (VSl (VI .i64) 1) h pcs0 data1) {a3:Int} {b4:Int} {limit5:Int} {pv4:Value} {cmp6:(List Int)→(List Int)→Option Int} (pr4:B0B h pv4 cmp6) {q_0:List (List Int)} (H:B1c n data1 a3 b4 limit5 cmp6=some q_0) (L:List D9),J6 prog 253 [pv0,.int .i64 a3,.int .i64 b4,.int .i64 limit5,pv4] h (F5 30 1 pv0 pcs0::L) (fun v h' L'=>∃ ls0,v=.tuple #[]∧L'=F5 30 1 pv0 ls0::L∧A7 (VSl (VI .i64) 1) h' ls0 q_0):=by
  induction n with
  | zero=>intros; rename_i H _; cases H
  | succ n self=>
    intro h pv0 pcs0 data1 pr0 a3 b4 limit5 pv4 cmp6 pr4 q_0 H L
    refine J6.enter func253 z z z<|Sr<|An z<|Sr<|An z ?_
    obtain ⟨b,c,d⟩:=K4 H
    have H:=c
    refine Bl<|T.C2r (α:=Nat) [0,1,2,3,4,10,11] z (fun a=>[]) (fun a=>F5 30 1 pv0 pcs0::L) (fun a hh=>iter (A4E data1 a3 b4 limit5 cmp6) a ()=some b) (fun a=>a) FUEL trivial z H ?_
    rintro a o p e
    obtain ⟨q,r,rfl,H,f⟩:=G8 e
    refine T.norm [0,1,2,3,4,10,11] z<|T.fl ?_
    refine Bl<|Sm z<|Mv z<|bE H fun s g H=>Vv (V.Y9 z z g)<|An z<|Sq<|Sm z<|Vv (V.le z z)<|Nt<|T.cH H z (fun H=>?_) fun H=>?_
    ·refine Sm z<|Mv z<|Mv z<|Mv z<|bE H fun t i H=>To (O.G9 z (B7B pr0.u pr4.u i _) z fun w x y A j=>?_)
     obtain ⟨B,rfl,k,m⟩:=j
     refine P7 _ k<|Nr<|Tr<|Br<|Tr<|have H:=D6 H f; Br<|have H:=I7 H d; ?_
     cases H
     exact T.C5a results253 Li ⟨_,z,z,m⟩
    refine Ks<|Sq<|Sm z<|We z z<|Nt<|T.cH H z (fun H=>?_) fun H=>?_
    ·refine Sm z<|Mv z<|Mv z<|Mv z<|dead H
    refine Ks<|Sq<|Sm z<|Vv (V.not z)<|Nt<|Cf z<|Ks<|Sm z<|Mv z<|Mv z<|Mv z<|dead H
theorem B5O {h a b c d e q_0} (f:A7 (VSl (VI .i64) 1) h b c) (i:B0B h d e) (H:A5y c e=some q_0):∀ L,J6 prog 242 [a,d] h (F5 30 1 a b::L) (fun v h' L'=>∃ g,v=.tuple #[]∧L'=F5 30 1 a g::L∧A7 (VSl (VI .i64) 1) h' g q_0):=by
 intro L
 refine J6.enter func242 z z z<|Sm z<|Vv (V.A4x J9 z (j:=0) z f.len)<|An z<|Rg<|Mv z<|Mv z<|Mv z<|bE H fun t k H=>Vv (V.A5c underlying3 underlying208 z k)<|bE H fun w m H=>To (O.cs (B3g m _) fun y B=>Mv z<|bE H fun C p H=>To (O.G9 z (B7J _ f.u i.u p _) z fun D E G I q=>?_))
 obtain ⟨J,rfl,r,s⟩:=q
 refine P7 _ r<|Ni ?_
 cases H
 exact T.A0Q results242 Li ⟨_,z,z,s⟩
theorem B8X {h f C D s E J w q_0} (ac:A7 L9 h C D) (ad:B0E h J w) (H:B6I D s E w=some q_0):∀ L,J6 prog 194 [f,.int .i64 s,.int .i64 E,J] h (F5 88 3 f C::L) (fun v h' L'=>∃ K,v=.tuple #[]∧L'=F5 88 3 f K::L∧A7 L9 h' K q_0):=by
 intro L
 refine J6.enter func194 z z z<|Sm z<|bE H fun ae af H=>Vv (V.H8 z z af)<|An z<|T.A0L ?_
 obtain ⟨ai,aj,ak⟩:=K4 H
 have H:=aj
 refine Bl<|T.lk [1,2,3] (FUEL,D,ae,C) (fun ⟨p,k,m,n⟩=>([(0,f),(8,qi m)],F5 88 3 f n::L,fun hh=>iter (B2O s E w) p (k,m)=some ai∧A7 L9 hh n k)) ⟨H,ac⟩ ?_
 rintro ⟨p,k,m,n⟩ a4 a5 ⟨am,M⟩
 obtain ⟨an,a6,rfl,H,N⟩:=G8 am
 refine T.norm [0,8,1,2,3] z<|T.fl ?_
 refine Sq<|Sm z<|Mv z<|Wl z z<|Nt<|T.cH H z (fun H=>?_) fun H=>?_
 ·refine Ks<|Sq<|Bl<|Sm z<|An z<|T.A0L ?_
  obtain ⟨ao,ap,aq⟩:=K4 H
  have H:=ap
  refine Bl<|T.lk [1,2,3,8] (FUEL,k,m,n) (fun ⟨q,o,e,c⟩=>([(0,f),(9,qi e)],F5 88 3 f c::L,fun hh=>iter (B2E s w) q (o,e)=some ao∧A7 L9 hh c o)) ⟨H,M⟩ ?_
  rintro ⟨q,o,e,c⟩ G a7 ⟨ar,b⟩
  obtain ⟨au,a8,rfl,H,P⟩:=G8 ar
  refine T.norm [0,9,1,2,3,8] z<|T.fl ?_
  refine Sq<|Sq ?_
  obtain ⟨aw,ax,ay⟩:=K4 H
  refine T.ck (α:=Bool) [0,1,2,3,8,9] (fun r=>([(34,.bool r)],F5 88 3 f c::L,fun hh=>aw=r)) ?_ ?_
  ·have H:=ax
   refine T.N8 (t:=(.vs [0,1,2,3,4,5,6,7,8,9,10,11,12,13] (.alt 14 (.g (.v 15 (.v 16 .done))) .no))) 18 1 1 z z I5 (by kernel_rfl) ?_
   refine Tm z z<|Tm z z<|Tv z (V.gt z z)<|Tm z z<|T.bH 21 H z (fun H=>?_) fun H=>?_
   ·refine Tm z z<|Tm z z<|Tm z z<|bE H fun y S H=>?_
    obtain ⟨a9,aA,rfl⟩:=A7.get b S
    refine Tv z (Val.XA fun _ _ _=>V.ixR A1x z z (j:=0) z (A7.bd b S))<|Tv z (Val.XA fun _ _ _=>V.C7D z (j:=0) z aA A1y)<|Tm z z<|Tm z z<|bE H fun ah aB H=>Tv z (V.Y9 z z aB)<|bE H fun A U H=>?_
    obtain ⟨al,aC,rfl⟩:=A7.get b U
    refine Tv z (Val.XA fun _ _ _=>V.ixR A1x z z (j:=0) z (A7.bd b U))<|Tv z (Val.XA fun _ _ _=>V.C7D z (j:=0) z aC A1y)<|bE H fun aD aE H=>?_
    obtain ⟨av,az,ba,aG,aI⟩:=B0E.call (ad.u (g:=G)) (show L9 G [qi y.A1T,qi y.Y8,qi y.A2G] y from rfl) (show L9 G [qi A.A1T,qi A.Y8,qi A.A2G] A from rfl) aE
    refine Tp z z (X3 [0] [0] z z) (O.A1e z aG z (aI _) z fun bb bc be bf aJ=>?_) T.P5
    obtain ⟨rfl,aK⟩:=aJ
    refine P7 _ aK<|T.O1 Li<|Tv z (V.lt z z)<|Tv z (V.pkT z z)<|T.O7 (X3 [0] [0] z z)<|Th<|T.mt (decide (aD < (0:Int))) (M7 H)
   refine T2 z z<|T2 z z<|T2 z z<|T2 z z<|T2 z z<|T.A4a z z (X3 [0] [0] z z) z ?_ T.P5
   refine T.O1 Lr<|Tk z<|Tv z (V.pkF z z)<|T.O7 (X3 [0] [0] z z)<|Th<|T.mt false (M7 H)
  rintro r B bg aM
  have H:=I7 aM ay
  refine T.norm [34,0,1,2,3,8,9] z<|T.fl ?_
  refine T.cH H z (fun H=>?_) fun H=>?_
  ·refine Ks<|Sq<|Bl<|T.N8 (t:=(.vs [0,1,2,3,4,5,6,7] (.x 8 (.x 9 (.v 10 (.v 11 (.alt 12 (.x 13 (.x 14 (.alt 15 (.alt 16 (.alt 17 .done .no) .no) .no))) .no))))))) 15 1 0 z z I5 (by kernel_rfl) ?_
   refine Tm z z<|Tm z z<|Tm z z<|Tm z z<|bE H fun W aN H=>Tv z (V.Y9 z z aN)<|Tm z z<|Tm z z<|bE H fun bi aO H=>Tv z (V.Y9 z z aO)<|bE H fun a X H=>?_
   obtain ⟨bj,aP,rfl⟩:=A7.get b X
   refine T.tx z z (Val.XA fun _ _ _=>V.ixR A1x z z (j:=0) z (A7.bd b X)) z Calm.i<|T.tx z z (Val.XA fun _ _ _=>V.C7D z (j:=0) z aP A1y) z Calm.i<|Tm z z<|Tm z z<|bE H fun d Y H=>?_
   obtain ⟨bk,aS,rfl⟩:=A7.get b Y
   refine Ts z z (X3 [] [0] z z) (V.ixR A1x z z (j:=0) z (A7.bd b Y)) z ?_ T.P5
   refine T.tx z z (Val.XA fun _ _ _=>V.C7D z (j:=0) z aS A1y) z Calm.i<|bE H fun bm Z H=>?_
   obtain ⟨bn,aU,rfl⟩:=A7.get b Z
   refine T.tx z z (Val.XA fun _ _ _=>V.ixR A1x z z (j:=0) z (A7.bd b Z)) z Calm.i<|bE H fun aV aW H=>Tp z z (X3 [] [0] z z) (O.stX A1y z z (j:=0) z z z z aU ?_) T.P5
   have I:A7 L9 B (c.set e.toNat [qi a.A1T,qi a.Y8,qi a.A2G]) aV:=A7.set b.u (show L9 B [qi a.A1T,qi a.Y8,qi a.A2G] a from z) aW
   refine bE H fun bo aa H=>?_
   obtain ⟨bp,aX,rfl⟩:=A7.get I aa
   refine Ts z z (SX.one (XA.fr [] Lr z) z) (V.ixR A1x z z (j:=0) z (A7.bd I aa)) z ?_ T.P5
   refine bE H fun ab aY H=>Tp z z (SX.one (XA.fr [] Lr z) z) (O.stX A1y z z (j:=0) z z z z aX ?_) T.P5
   have aZ:A7 L9 B ((c.set e.toNat [qi a.A1T,qi a.Y8,qi a.A2G]).set W.toNat [qi d.A1T,qi d.Y8,qi d.A2G]) ab:=A7.set I (show L9 B [qi d.A1T,qi d.Y8,qi d.A2G] d from z) aY
   refine T.O7 (SX.one (XA.fr [] Lr z) z)<|Bn<|Th<|Rg<|Mv z<|bE H fun a0 a1 H=>Vv (V.Y9 z z a1)<|An z<|T.ag (au,ab,a0,((c.set e.toNat [qi a.A1T,qi a.Y8,qi a.A2G]).set W.toNat [qi d.A1T,qi d.Y8,qi d.A2G])) ⟨(D8 H P),aZ⟩
  refine T.exit<|Te<|Te<|have H:=D6 H P; Be<|Th<|have H:=I7 H aq; Bn<|Th<|Rg<|Mv z<|bE H fun a2 a3 H=>Vv (V.H8 z z a3)<|An z<|T.ag (an,o,a2,c) ⟨(D8 H N),b.u⟩
 refine T.exit<|Te<|Te<|have H:=D6 H N; Be<|Th<|have H:=I7 H ak; ?_
 cases H
 exact T.A0Q results194 Li ⟨_,z,z,M⟩
theorem B8J (n:Nat):∀ {h:PH} {pv0:Value} {pcs0:List (List Value)} {data1:List I1} (pr0:A7 L9 h pcs0 data1) {a3:Int} {b4:Int} {limit5:Int} {pv4:Value} {cmp6:I1→I1→Option Int} (pr4:B0E h pv4 cmp6) {q_0:List I1} (H:B6U n data1 a3 b4 limit5 cmp6=some q_0) (L:List D9),J6 prog 136 [pv0,.int .i64 a3,.int .i64 b4,.int .i64 limit5,pv4] h (F5 88 3 pv0 pcs0::L) (fun v h' L'=>∃ ls0,v=.tuple #[]∧L'=F5 88 3 pv0 ls0::L∧A7 L9 h' ls0 q_0):=by
  induction n with
  | zero=>intros; rename_i H _; cases H
  | succ n self=>
    intro h pv0 pcs0 data1 pr0 a3 b4 limit5 pv4 cmp6 pr4 q_0 H L
    refine J6.enter func136 z z z<|Sr<|An z<|Sr<|An z ?_
    obtain ⟨b,c,d⟩:=K4 H
    have H:=c
    refine Bl<|T.C2r (α:=Nat) [0,1,2,4] z (fun a=>[]) (fun a=>F5 88 3 pv0 pcs0::L) (fun a hh=>iter (B2A data1 a3 b4 cmp6) a ()=some b) (fun a=>a) FUEL trivial z H ?_
    rintro a o p e
    obtain ⟨q,r,rfl,H,f⟩:=G8 e
    refine T.norm [0,1,2,4] z<|T.fl ?_
    refine Bl<|Sm z<|Mv z<|bE H fun s g H=>Vv (V.Y9 z z g)<|An z<|Sq<|Sm z<|Vv (V.le z z)<|Nt<|T.cH H z (fun H=>?_) fun H=>?_
    ·refine Sm z<|Mv z<|Mv z<|Mv z<|bE H fun t i H=>To (O.G9 z (B8X pr0.u pr4.u i _) z fun w x y A j=>?_)
     obtain ⟨B,rfl,k,m⟩:=j
     refine P7 _ k<|Nr<|Tr<|Br<|Tr<|have H:=D6 H f; Br<|have H:=I7 H d; ?_
     cases H
     exact T.C5a results136 Li ⟨_,z,z,m⟩
    exact dead H
theorem B6C {h a b c d e q_0} (f:A7 L9 h b c) (i:B0E h d e) (H:B3D c e=some q_0):∀ L,J6 prog 75 [a,d] h (F5 88 3 a b::L) (fun v h' L'=>∃ g,v=.tuple #[]∧L'=F5 88 3 a g::L∧A7 L9 h' g q_0):=by
 intro L
 refine J6.enter func75 z z z<|Sm z<|Vv (V.A4x A1x z (j:=0) z f.len)<|An z<|Rg<|Mv z<|Mv z<|Mv z<|bE H fun t k H=>Vv (V.A5c underlying3 underlying208 z k)<|bE H fun w m H=>To (O.cs (B3g m _) fun y B=>Mv z<|bE H fun C p H=>To (O.G9 z (B8J _ f.u i.u p _) z fun D E G I q=>?_))
 obtain ⟨J,rfl,r,s⟩:=q
 refine P7 _ r<|Ni ?_
 cases H
 exact T.A0Q results75 Li ⟨_,z,z,s⟩
end Go.Proofs.X
open Go Go.Proofs Go.Proofs.Tryz Go.Sl Go.Dm
namespace Go.Proofs.X
theorem A1I:zer prog 30=some (.slice none 0 0):=by kernel_rfl
theorem C1N {h a b c d} (H:bits_Mul64 a b=some (c,d)):∀ L,FnW prog 193 [.int .u64 a,.int .u64 b] h L (.tuple #[.int .u64 c,.int .u64 d]):=by
 intro L
 exact J6.enter func193 z z z<|Sg z<|An z<|Sm z<|bE H fun y e H=>Vv (V.C3G z z e)<|An z<|Sm z<|bE H fun A f H=>Vv (V.A3P z z f)<|An z<|Sm z<|bE H fun B g H=>Vv (V.C3G z z g)<|An z<|Sm z<|bE H fun C i H=>Vv (V.A3P z z i)<|An z<|Sm z<|Mv z<|bE H fun D j H=>Vv (V.C9D z z j)<|An z<|Sm z<|Mv z<|bE H fun E k H=>Vv (V.C9D z z k)<|Mv z<|bE H fun G m H=>Vv (V.A3P z z m)<|bE H fun I n H=>Vv (V.C9a z z n)<|An z<|Sm z<|bE H fun J o H=>Vv (V.C3G z z o)<|An z<|Sm z<|bE H fun K p H=>Vv (V.A3P z z p)<|An z<|Sq<|T.norm [0,1,6,7,9,12,13] z<|Rg<|Mv z<|Mv z<|Mv z<|bE H fun M q H=>Vv (V.C9D z z q)<|bE H fun N r H=>Vv (V.C9a z z r)<|An z<|Sm z<|Mv z<|bE H fun O s H=>Vv (V.C9D z z s)<|Mv z<|bE H fun P t H=>Vv (V.C9a z z t)<|Mv z<|bE H fun S u H=>Vv (V.A3P z z u)<|bE H fun U w H=>Vv (V.C9a z z w)<|An z<|Sm z<|Mv z<|bE H fun W x H=>Vv (V.C9D z z x)<|Ag z<|Nr<|E1 H
theorem C5i {h a b c d} (H:bits_Mul a b=some (c,d)):∀ L,FnW prog 132 [.int .u64 a,.int .u64 b] h L (.tuple #[.int .u64 c,.int .u64 d]):=by
 intro L
 exact J6.enter func132 z z z<|Sg z<|An z<|Sq<|Cf z<|Ks<|Sm z<|Mv z<|bE H fun ⟨i,j⟩ e H=>To (O.cs (C1N e _) fun m o=>Mv z<|Wx z z<|Wx z z<|Ag z<|An z<|Sm z<|Mv z<|Ag z<|Ag z<|Nr<|E1 H)
theorem A9h {h r s w y} (A:F8 (VI .i64) 1 h r s) (H:A6h s w=some y):∀ L,J6 prog 71 [r,.int .i64 w] h (L) (fun v h' L'=>∃ B,L'=F5 3 1 v B::L∧A7 (VI .i64) h' B y):=by
 intro L
 refine J6.enter func71 z z z<|Sr<|An z<|Sq<|Sm z<|Wl z z<|Nt ?_
 obtain ⟨U,W,X⟩:=K4 H
 refine T.ck (α:=Unit) [0,1] (fun _=>([],L,fun hh=>U=())) ?_ ?_
 ·have H:=W
  refine T.cH H z dead fun H=>Ks<|T.mt () (M7 H)
 rintro _ aN aO Y
 have H:=I7 Y X
 refine T.norm [0,1] z<|T.fl ?_
 refine Sm z<|Vv (V.Q3 A9 z A)<|bE H fun aP Z H=>Vv (V.A5c underlying3 underlying208 z Z)<|Mv z<|bE H fun aS aa H=>Vv (V.A5c underlying3 underlying208 z aa)<|bE H fun ⟨aU,ab⟩ ac H=>To (O.cs (C5i ac _) fun aW aY=>Mv z<|Wx z z<|Wx z z<|Ag z<|An z<|Sq<|Sq ?_)
 obtain ⟨af,ai,aj⟩:=K4 H
 refine T.ck (α:=Bool) [0,6] (fun f=>([(26,.bool f)],L,fun hh=>af=f)) ?_ ?_
 ·have H:=ai
  refine Rg<|Mv z<|Wg z z<|Mv z<|T.bH 23 H z (fun H=>?_) fun H=>?_
  ·refine S2<|Kt z<|Nt<|T.mt true (M7 H)
  refine Mv z<|Wg z z<|Kf z<|Nt<|T.mt (decide ((9223372036854775807:Int) < ab)) (M7 H)
 rintro f aZ a0 ak
 have H:=I7 ak aj
 refine T.norm [26,0,6] z<|T.fl ?_
 obtain ⟨am,an,ao⟩:=K4 H
 refine T.ck (α:=Unit) [0,6] (fun _=>([],L,fun hh=>am=())) ?_ ?_
 ·have H:=an
  refine T.cH H z dead fun H=>Ks<|T.mt () (M7 H)
 rintro _ n a1 ap
 have H:=I7 ap ao
 refine T.norm [0,6] z<|T.fl ?_
 refine Sm z<|bE H fun o aq H=>Vv (V.A5c underlying208 underlying3 z aq)<|bE H fun k C H=>To (O.mkX A9 K8 z z z z C z fun D a2 a3=>have p:A7 (VI .i64) n _ k:=A7.rep z C; An z<|Sm z<|Mv z ?_)
 obtain ⟨m,E,q⟩:=F8.row (A.u (g:=n))
 refine bE H fun ⟨G,ar⟩ I H=>?_
 have J:0 + k.length≤List.length (α:=List Value) (List.replicate o.toNat [qi 0]):=by rw [p.len]; omega
 refine To (O.copy A9 z z (j:=0) z (fun _ iv=>D1.D3Y iv (j:=0) z p.len) J (C1H.fix E) E.wide (A7.ones VI.plain q) z<|T.int (D2S q I).symm<|have au:A7 (VI .i64) n (A3k (List.replicate o.toNat [qi 0]) 0 (List.take (min (List.length m) k.length) m)) G:=A7.cp p q J I; An z<|Sq ?_)
 obtain ⟨aw,ax,ay⟩:=K4 H
 have H:=ax
 refine Bl<|T.lk [] (FUEL,G,ar,(A3k (List.replicate o.toNat [qi 0]) 0 (List.take (min (List.length m) k.length) m))) (fun ⟨e,d,a,b⟩=>([(7,D),(8,qi a)],F5 3 1 D b::L,fun hh=>iter A9d e (d,a)=some aw∧A7 (VI .i64) hh b d)) ⟨H,au⟩ ?_
 rintro ⟨e,d,a,b⟩ aA a4 ⟨aB,c⟩
 obtain ⟨aC,a5,rfl,H,K⟩:=G8 aB
 refine T.norm [7,8] z<|T.fl ?_
 refine Sq<|Sm z<|Mv z<|Vv (V.A4x A9 z (j:=0) z c.len)<|Wl z z<|Nt<|T.cH H z (fun H=>?_) fun H=>?_
 ·refine Ks<|Bl<|T.N8 (t:=(.vs [0,1,2] (.x 3 (.v 4 (.v 5 (.x 6 (.alt 7 (.g (.v 8 (.alt 9 .done .no))) .no))))))) 7 1 0 z z I5 (by kernel_rfl) ?_
  refine Tm z z<|Tm z z<|Tm z z<|bE H fun a6 aD H=>T.tx z z (Val.XA fun _ _ _=>V.C3R A9 z (j:=0) z c.len (.inr ⟨_,_,z,z⟩) (.inl ⟨z,z⟩) (A4N aD)) z Calm.i<|Tm z z<|Tm z z<|bE H fun a7 aE H=>T.tx z z (Val.XA fun _ _ _=>V.C3R A9 z (j:=0) z c.len (.inl ⟨z,z⟩) (.inr ⟨_,_,z,z⟩) (A4N aE)) z Calm.i<|bE H fun a8 M H=>bE H fun a9 aG H=>T.wide 0 z fun aI=>bE H fun ⟨N,ah⟩ P H=>have S:a.toNat + ((d.length:Int).toNat - a.toNat)≤List.length (α:=List Value) b:=C6A c.len M; Tp z z (X3 [] [0] z z) (O.copy A9 z z (j:=0) z (fun _ iv=>D1.C2q iv (j:=0) z c.len (A4N M)) S (C1H.C2q (j:=0) z c.len (A4N aG)) (O3.take (O3.drop aI)) (A7.ones VI.plain (A7.part c (0:Int).toNat (a.toNat - (0:Int).toNat))) z ?_) T.P5
  refine T.int (D2S (A7.part c (0:Int).toNat (a.toNat - (0:Int).toNat)) P).symm<|have aJ:A7 (VI .i64) aA (A3k b a.toNat (List.take (min (List.length (List.take (a.toNat - (0:Int).toNat) (List.drop (0:Int).toNat b))) ((d.length:Int).toNat - a.toNat)) (List.take (a.toNat - (0:Int).toNat) (List.drop (0:Int).toNat b)))) N:=A7.cp c (A7.part c (0:Int).toNat (a.toNat - (0:Int).toNat)) S P; T.O1 Lr<|bE H fun aK aM H=>Tv z (V.H8 z z aM)<|Ts z z (SX.one (XA.fr [] Lr z) z) (V.asg z) z ?_ T.P5
  refine T.O7 (SX.one (XA.fr [] Lr z) z)<|Bn<|Th<|T.ag (aC,N,aK,(A3k b a.toNat (List.take (min (List.length (List.take (a.toNat - (0:Int).toNat) (List.drop (0:Int).toNat b))) ((d.length:Int).toNat - a.toNat)) (List.take (a.toNat - (0:Int).toNat) (List.drop (0:Int).toNat b))))) ⟨(D8 H K),aJ⟩
 refine T.exit<|Te<|Te<|have H:=D6 H K; Be<|Th<|have H:=I7 H ay; Sm z<|Ag z<|Nr ?_
 cases H
 exact T.rl z (Rv z) ⟨_,z,c⟩
theorem B7A {h m s n B} (d:A7 (VI .i64) h s n) (H:A7C n=some B):∀ L,J6 prog 236 [m] h (F5 3 1 m s::L) (fun v h' L'=>∃ C,L'=F5 3 1 v C::L∧A7 (VI .i64) h' C B):=by
 intro L
 refine J6.enter func236 z z z<|Sr<|An z<|Sq<|Sm z<|Vv (V.A4x A9 z (j:=0) z d.len)<|Wl z z<|Nt<|T.cH H z (fun H=>?_) fun H=>?_
 ·refine Sm z<|Ag z<|Nr<|Tr ?_
  cases H
  exact T.rl z (Rv z) ⟨_,z,d⟩
 refine Ks<|Sq<|Sr<|An z ?_
 obtain ⟨S,U,D⟩:=K4 H
 have H:=U
 refine Bl<|T.lk [0] (FUEL,(1:Int)) (fun ⟨g,f⟩=>([(3,qi f)],F5 3 1 m s::L,fun hh=>iter (A4q n) g f=some S)) H ?_
 rintro ⟨g,f⟩ aI aJ W
 obtain ⟨X,aK,rfl,H,x⟩:=G8 W
 refine T.norm [3,0] z<|T.fl ?_
 refine Sq<|Sm z<|Mv z<|Vv (V.A4x A9 z (j:=0) z d.len)<|Wl z z<|Nt<|T.cH H z (fun H=>?_) fun H=>?_
 ·refine Ks<|Sq<|Bl<|Sq<|T.N8 (t:=(.vs [0,1,2,3,4,5,6,7,8,9] .done)) 11 1 1 z z I5 (by kernel_rfl) ?_
  refine Tm z z<|Tm z z<|bE H fun aM E H=>?_
  obtain ⟨aN,Y,rfl⟩:=A7.get d E
  refine Tv z (Val.XA fun _ _ _=>V.ixR A9 z z (j:=0) z (A7.bd d E))<|Tv z (Val.XA fun _ _ _=>V.ldR D7 z (j:=0) z Y z)<|Tm z z<|Tm z z<|bE H fun aO Z H=>Tv z (V.Y9 z z Z)<|bE H fun aP G H=>?_
  obtain ⟨aS,aa,rfl⟩:=A7.get d G
  refine Tv z (Val.XA fun _ _ _=>V.ixR A9 z z (j:=0) z (A7.bd d G))<|Tv z (Val.XA fun _ _ _=>V.ldR D7 z (j:=0) z aa z)<|Tv z (V.eq z z)<|T.O7 (X3 [0] [0] z z)<|Th<|T.cH H z (fun H=>?_) fun H=>?_
  ·refine Sm z<|Mv z<|bE H fun aU ab H=>Vv (V.C3R A9 z (j:=0) z d.len (.inr ⟨_,_,z,z⟩) (.inl ⟨z,z⟩) (A4N ab))<|An z<|Sq<|Sr<|An z ?_
   obtain ⟨ac,ad,ae⟩:=K4 H
   have H:=ad
   refine Bl<|T.lk [4] (FUEL,n,f,(1:Int),s) (fun ⟨i,e,b,k,c⟩=>([(0,m),(3,qi b),(5,qi k)],F5 3 1 m c::L,fun hh=>iter (A4s n f) i (e,b,k)=some ac∧A7 (VI .i64) hh c e)) ⟨H,d.u⟩ ?_
   rintro ⟨i,e,b,k,c⟩ o aV ⟨af,a⟩
   obtain ⟨I,aW,rfl,H,y⟩:=G8 af
   refine T.norm [0,3,5,4] z<|T.fl ?_
   refine Sq<|Sm z<|Mv z<|Vv (V.D2R A9 z (j:=0) z)<|Wl z z<|Nt<|T.cH H z (fun H=>?_) fun H=>?_
   ·refine Ks<|Sq<|Bl<|Sq<|T.N8 (t:=(.vs [0,1,2,3,4,5,6,7,8,9] .done)) 11 1 1 z z I5 (by kernel_rfl) ?_
    refine Tm z z<|Tm z z<|bE H fun aX p H=>?_
    obtain ⟨aY,ai,rfl⟩:=A7.get a (X9 p).2.2.2
    refine Tv z (Val.XA fun _ _ _=>V.ixV A9 z z (j:=0) z ⟨(X9 p).1,(X9 p).2.1,(X9 p).2.2.1⟩ (A7.bd a (X9 p).2.2.2).2)<|Tv z (Val.XA fun _ _ _=>V.ldR D7 z (j:=0) z ai z)<|Tm z z<|Tm z z<|bE H fun aZ aj H=>Tv z (V.Y9 z z aj)<|bE H fun a0 q H=>?_
    obtain ⟨a1,ak,rfl⟩:=A7.get a (X9 q).2.2.2
    refine Tv z (Val.XA fun _ _ _=>V.ixV A9 z z (j:=0) z ⟨(X9 q).1,(X9 q).2.1,(X9 q).2.2.1⟩ (A7.bd a (X9 q).2.2.2).2)<|Tv z (Val.XA fun _ _ _=>V.ldR D7 z (j:=0) z ak z)<|Tv z (V.ne z z)<|T.O7 (X3 [0] [0] z z)<|Th<|T.cH H z (fun H=>?_) fun H=>?_
    ·refine Sm z<|Mv z<|Mv z<|Mv z<|bE H fun w r H=>?_
     obtain ⟨a2,am,rfl⟩:=A7.get a (X9 r).2.2.2
     refine Vv (V.ixV A9 z z (j:=0) z ⟨(X9 r).1,(X9 r).2.1,(X9 r).2.2.1⟩ (A7.bd a (X9 r).2.2.2).2)<|Vv (V.ldR D7 z (j:=0) z am z)<|bE H fun a3 A H=>?_
     obtain ⟨a4,a5,rfl⟩:=A7.get a A
     refine Vv (V.ixR A9 z z (j:=0) z (A7.bd a A))<|bE H fun J an H=>To (O.stR D7 z z (j:=0) z (A7.bdN a A) z<|have ao:A7 (VI .i64) o (c.set b.toNat [qi w]) J:=A7.set a (show (VI .i64) o [qi w] w from z) an; Nt<|Rg<|Mv z<|bE H fun ap aq H=>Vv (V.H8 z z aq)<|Ag z<|Ni<|Bn<|Th<|Rg<|Mv z<|bE H fun ar au H=>Vv (V.H8 z z au)<|An z<|T.ag (I,J,ap,ar,(c.set b.toNat [qi w])) ⟨(D8 H y),ao⟩)
    refine T.skip<|Bn<|Th<|Rg<|Mv z<|bE H fun aw ax H=>Vv (V.H8 z z ax)<|An z<|T.ag (I,e,b,aw,c) ⟨(D8 H y),a⟩
   refine T.exit<|Te<|Te<|have H:=D6 H y; Be<|Th<|have H:=I7 H ae; Sm z<|Mv z<|bE H fun a6 ay H=>Vv (V.C3R A9 z (j:=0) z a.len (.inr ⟨_,_,z,z⟩) (.inl ⟨z,z⟩) (A4N ay))<|bE H fun a7 K H=>have M:=C6A a.len K; bE H fun aA aB H=>To (O.clear A9 K8 z z z (j:=0) z (fun _ iv=>D1.C2q iv (j:=0) z a.len (A4N K)) M<|have N:A7 (VI .i64) o (A3k c b.toNat (List.replicate ((e.length:Int).toNat - b.toNat) ([qi 0]:List Value))) aA:=A7.clr a (show (VI .i64) o [qi 0] (0:Int) from z) M aB; Nt<|Sm z<|Mv z<|bE H fun aC P H=>To (O.slP A9 z z (j:=0) z (A7.D1m N P) z fun a8=>have aD:A7 (VI .i64) o (List.take b.toNat (A3k c b.toNat (List.replicate ((e.length:Int).toNat - b.toNat) ([qi 0]:List Value)))) aC:=A7.slp N P; Ag z<|Nr<|Br<|Tr<|Tr<|have H:=D6 H x; Br<|Tr<|have H:=I7 H D; ?_))
   cases H
   exact T.rl z (Rv z) ⟨_,z,aD⟩
  refine T.skip<|Bn<|Th<|Rg<|Mv z<|bE H fun aE aG H=>Vv (V.H8 z z aG)<|An z<|T.ag (X,aE) (D8 H x)
 refine T.exit<|Te<|Te<|have H:=D6 H x; Be<|Th<|have H:=I7 H D; Sm z<|Ag z<|Nr ?_
 cases H
 exact T.rl z (Rv z) ⟨_,z,d.u⟩
theorem B2Q {h n s o D w E} (d:A7 (VSl (VI .i64) 1) h s o) (G:B7s h D w) (H:A2Y o w=some E):∀ L,J6 prog 244 [n,D] h (F5 30 1 n s::L) (fun v h' L'=>∃ I,L'=F5 30 1 v I::L∧A7 (VSl (VI .i64) 1) h' I E):=by
 intro L
 refine J6.enter func244 z z z<|Sr<|An z<|Sq<|Sm z<|Vv (V.A4x J9 z (j:=0) z d.len)<|Wl z z<|Nt<|T.cH H z (fun H=>?_) fun H=>?_
 ·refine Sm z<|Ag z<|Nr<|Tr ?_
  cases H
  exact T.rl z (Rv z) ⟨_,z,d⟩
 refine Ks<|Sq<|Sr<|An z ?_
 obtain ⟨aa,ab,J⟩:=K4 H
 have H:=ab
 refine Bl<|T.lk [0,1] (FUEL,(1:Int)) (fun ⟨i,f⟩=>([(5,qi f)],F5 30 1 n s::L,fun hh=>iter (A1Q o w) i f=some aa)) H ?_
 rintro ⟨i,f⟩ ac a8 ad
 obtain ⟨ae,a9,rfl,H,A⟩:=G8 ad
 refine T.norm [5,0,1] z<|T.fl ?_
 refine Sq<|Sm z<|Mv z<|Vv (V.A4x J9 z (j:=0) z d.len)<|Wl z z<|Nt<|T.cH H z (fun H=>?_) fun H=>?_
 ·refine Ks<|Sq<|Bl<|Sq<|T.N8 (t:=(.vs [0,1,2,3,4,5,6,7,8,9] (.alt 10 .done .no))) 12 1 1 z z I5 (by kernel_rfl) ?_
  refine Tm z z<|Tm z z<|Tm z z<|bE H fun ah K H=>?_
  obtain ⟨al,af,⟨av,rfl,ai⟩⟩:=A7.get d K
  refine Tv z (Val.XA fun _ _ _=>V.ixR J9 z z (j:=0) z (A7.bd d K))<|Tv z (Val.XA fun _ _ _=>V.ldR E5 z (j:=0) z af z)<|Tm z z<|Tm z z<|bE H fun az aj H=>Tv z (V.Y9 z z aj)<|bE H fun ba M H=>?_
  obtain ⟨bb,ak,⟨bc,rfl,am⟩⟩:=A7.get d M
  refine Tv z (Val.XA fun _ _ _=>V.ixR J9 z z (j:=0) z (A7.bd d M))<|Tv z (Val.XA fun _ _ _=>V.ldR E5 z (j:=0) z ak z)<|bE H fun be an H=>?_
  obtain ⟨bf,bg,bi,ao,ap⟩:=B7s.call (G.u (g:=ac)) ai.u am.u an
  refine Tp z z (X3 [0] [0] z z) (O.A1e z ao z (ap _) z fun bj bk bm bn aq=>?_) T.P5
  obtain ⟨rfl,ar⟩:=aq
  refine P7 _ ar<|T.O7 (SX.two (XA.fr [0] Li z) (XA.fr [0] Li z))<|Th<|T.cH H z (fun H=>?_) fun H=>?_
  ·refine Sm z<|Mv z<|bE H fun bo au H=>Vv (V.C3R J9 z (j:=0) z d.len (.inr ⟨_,_,z,z⟩) (.inl ⟨z,z⟩) (A4N au))<|An z<|Sq<|Sr<|An z ?_
   obtain ⟨aw,ax,ay⟩:=K4 H
   have H:=ax
   refine Bl<|T.lk [1,6] (FUEL,o,f,(1:Int),s) (fun ⟨k,e,b,m,c⟩=>([(0,n),(5,qi b),(7,qi m)],F5 30 1 n c::L,fun hh=>iter (A1P o w f) k (e,b,m)=some aw∧A7 (VSl (VI .i64) 1) hh c e)) ⟨H,d.u⟩ ?_
   rintro ⟨k,e,b,m,c⟩ x bp ⟨aA,a⟩
   obtain ⟨N,bq,rfl,H,B⟩:=G8 aA
   refine T.norm [0,5,7,1,6] z<|T.fl ?_
   refine Sq<|Sm z<|Mv z<|Vv (V.D2R J9 z (j:=0) z)<|Wl z z<|Nt<|T.cH H z (fun H=>?_) fun H=>?_
   ·refine Ks<|Sq<|Bl<|Sq<|T.N8 (t:=(.vs [0,1,2,3,4,5,6,7,8,9] (.alt 10 (.g (.v 11 .done)) .no))) 13 1 1 z z I5 (by kernel_rfl) ?_
    refine Tm z z<|Tm z z<|Tm z z<|bE H fun br p H=>?_
    obtain ⟨bs,aB,⟨bt,rfl,aC⟩⟩:=A7.get a (X9 p).2.2.2
    refine Tv z (Val.XA fun _ _ _=>V.ixV J9 z z (j:=0) z ⟨(X9 p).1,(X9 p).2.1,(X9 p).2.2.1⟩ (A7.bd a (X9 p).2.2.2).2)<|Tv z (Val.XA fun _ _ _=>V.ldR E5 z (j:=0) z aB z)<|Tm z z<|Tm z z<|bE H fun bu aD H=>Tv z (V.Y9 z z aD)<|bE H fun bw q H=>?_
    obtain ⟨bx,aE,⟨bA,rfl,aG⟩⟩:=A7.get a (X9 q).2.2.2
    refine Tv z (Val.XA fun _ _ _=>V.ixV J9 z z (j:=0) z ⟨(X9 q).1,(X9 q).2.1,(X9 q).2.2.1⟩ (A7.bd a (X9 q).2.2.2).2)<|Tv z (Val.XA fun _ _ _=>V.ldR E5 z (j:=0) z aE z)<|bE H fun bB aI H=>?_
    obtain ⟨bC,bD,bG,aJ,aK⟩:=B7s.call (G.u (g:=x)) aC aG aI
    refine Tp z z (X3 [0] [0] z z) (O.A1e z aJ z (aK _) z fun bI P bJ bK aM=>?_) T.P5
    obtain ⟨rfl,aN⟩:=aM
    refine P7 _ aN<|T.O1 Li<|Tv z (V.not z)<|T.O7 (X3 [0] [0] z z)<|Th<|T.cH H z (fun H=>?_) fun H=>?_
    ·refine Sm z<|Mv z<|Mv z<|Mv z<|bE H fun aO r H=>?_
     obtain ⟨bM,aP,⟨y,rfl,S⟩⟩:=A7.get a (X9 r).2.2.2
     refine Vv (V.ixV J9 z z (j:=0) z ⟨(X9 r).1,(X9 r).2.1,(X9 r).2.2.1⟩ (A7.bd a (X9 r).2.2.2).2)<|Vv (V.ldR E5 z (j:=0) z aP z)<|bE H fun bN C H=>?_
     obtain ⟨bO,bP,⟨bS,rfl,bU⟩⟩:=A7.get a C
     refine Vv (V.ixR J9 z z (j:=0) z (A7.bd a C))<|bE H fun U aS H=>To (O.stR E5 z z (j:=0) z (A7.bdN a C) (F8.one S)<|have aU:A7 (VSl (VI .i64) 1) P (c.set b.toNat [y]) U:=A7.set a.u (show (VSl (VI .i64) 1) P [y] aO from ⟨y,z,S.u⟩) aS; Nt<|Rg<|Mv z<|bE H fun aV aW H=>Vv (V.H8 z z aW)<|Ag z<|Ni<|Bn<|Th<|Rg<|Mv z<|bE H fun aX aY H=>Vv (V.H8 z z aY)<|An z<|T.ag (N,U,aV,aX,(c.set b.toNat [y])) ⟨(D8 H B),aU⟩)
    refine T.skip<|Bn<|Th<|Rg<|Mv z<|bE H fun aZ a0 H=>Vv (V.H8 z z a0)<|An z<|T.ag (N,e,b,aZ,c) ⟨(D8 H B),a.u⟩
   refine T.exit<|Te<|Te<|have H:=D6 H B; Be<|Th<|have H:=I7 H ay; Sm z<|Mv z<|bE H fun bV a1 H=>Vv (V.C3R J9 z (j:=0) z a.len (.inr ⟨_,_,z,z⟩) (.inl ⟨z,z⟩) (A4N a1))<|bE H fun bW W H=>have X:=C6A a.len W; bE H fun a2 a3 H=>To (O.clear J9 A1I z z z (j:=0) z (fun _ iv=>D1.C2q iv (j:=0) z a.len (A4N W)) X<|have Y:A7 (VSl (VI .i64) 1) x (A3k c b.toNat (List.replicate ((e.length:Int).toNat - b.toNat) ([qs]:List Value))) a2:=A7.clr a (show (VSl (VI .i64) 1) x [qs] ([]:List Int) from ⟨(qs),z,F8.nil⟩) X a3; Nt<|Sm z<|Mv z<|bE H fun a4 Z H=>To (O.slP J9 z z (j:=0) z (A7.D1m Y Z) z fun bX=>have a5:A7 (VSl (VI .i64) 1) x (List.take b.toNat (A3k c b.toNat (List.replicate ((e.length:Int).toNat - b.toNat) ([qs]:List Value)))) a4:=A7.slp Y Z; Ag z<|Nr<|Br<|Tr<|Tr<|have H:=D6 H A; Br<|Tr<|have H:=I7 H J; ?_))
   cases H
   exact T.rl z (Rv z) ⟨_,z,a5⟩
  refine T.skip<|Bn<|Th<|Rg<|Mv z<|bE H fun a6 a7 H=>Vv (V.H8 z z a7)<|An z<|T.ag (ae,a6) (D8 H A)
 refine T.exit<|Te<|Te<|have H:=D6 H A; Be<|Th<|have H:=I7 H J; Sm z<|Ag z<|Nr ?_
 cases H
 exact T.rl z (Rv z) ⟨_,z,d.u⟩
theorem B4x {h d e f m i n q_0} (c:A7 VS h e f) (r:B0p h m i) (H:A4B f i=some (n,q_0)):∀ L,J6 prog 163 [d,m] h (F5 9 1 d e::L) (fun v h' L'=>∃ o,v=.int .i64 n∧L'=F5 9 1 d o::L∧A7 VS h' o q_0):=by
 intro L
 refine J6.enter func163 z z z<|Sr<|An z<|Sq<|Sm z<|Vv (V.A4x X5 z (j:=0) z c.len)<|Mv z<|Nt ?_
 obtain ⟨s,t,p⟩:=K4 H
 have H:=t
 refine Bl<|T.lk [0,1,7] (FUEL,(0:Int)) (fun ⟨a,b⟩=>([(8,qi b)],F5 9 1 d e::L,fun hh=>iter (A2A f i) a b=some s)) H ?_
 rintro ⟨a,b⟩ w K x
 obtain ⟨y,M,rfl,H,k⟩:=G8 x
 refine T.norm [8,0,1,7] z<|T.fl ?_
 refine Sr<|Wl z z<|Nt<|Sq<|T.cH H z (fun H=>?_) fun H=>?_
 ·refine Ks<|Sq<|Bl<|Sm z<|An z<|Sm z<|Mv z<|Mv z<|bE H fun N q H=>?_
  obtain ⟨P,A,rfl⟩:=A7.get c q
  refine Vv (V.ixR X5 z z (j:=0) z (A7.bd c q))<|Vv (V.ldR J7 z (j:=0) z A z)<|bE H fun S B H=>?_
  obtain ⟨U,W,X,C,D⟩:=B0p.call (r.u (g:=w)) B
  refine To (O.A1e z C z (D _) z fun Y Z aa ab E=>?_)
  obtain ⟨rfl,G⟩:=E
  refine P7 _ G<|Nt<|T.cH H z (fun H=>?_) fun H=>?_
  ·refine Sm z<|Ag z<|Nr<|Br<|Tr<|Tr<|have H:=D6 H k; Br<|Tr<|have H:=I7 H p; ?_
   cases H
   exact T.rl z (Rv z) ⟨_,z,z,c.u⟩
  refine T.skip<|Bn<|Th<|Rg<|bE H fun I J H=>Vv (V.H8 z z J)<|Mv z<|Nt<|T.ag (y,I) (D8 H k)
 refine T.exit<|Te<|Te<|have H:=D6 H k; Be<|Th<|have H:=I7 H p; Sg z<|Nr ?_
 cases H
 exact T.rl z (Rv z) ⟨_,z,z,c.u⟩
theorem B4C {h i q r s n t} (K:A7 VS h q r) (w:B0p h s n) (H:A2N r n=some t):∀ L,J6 prog 114 [i,s] h (F5 9 1 i q::L) (fun v h' L'=>∃ x,L'=F5 9 1 v x::L∧A7 VS h' x t):=by
 intro L
 refine J6.enter func114 z z z<|Sr<|An z<|Sm z<|Mv z<|bE H fun ⟨M,N⟩ P H=>To (O.G9 z (B4x K w P _) z fun aD aE aG aI S=>?_)
 obtain ⟨U,rfl,W,y⟩:=S
 refine P7 _ W<|An z<|Sq<|Sm z<|We z z<|Nt<|T.cH H z (fun H=>?_) fun H=>?_
 ·refine Sm z<|Ag z<|Nr<|Tr ?_
  cases H
  exact T.rl z (Rv z) ⟨_,z,y⟩
 refine Ks<|Sq<|Sm z<|bE H fun X Y H=>Vv (V.H8 z z Y)<|An z ?_
 obtain ⟨Z,aa,ab⟩:=K4 H
 have H:=aa
 refine Bl<|T.lk [1] (FUEL,N,M,X,U) (fun ⟨e,d,a,f,c⟩=>([(0,i),(5,qi a),(6,qi f)],F5 9 1 i c::L,fun hh=>iter (A2C n) e (d,a,f)=some Z∧A7 VS hh c d)) ⟨H,y⟩ ?_
 rintro ⟨e,d,a,f,c⟩ k aJ ⟨ac,b⟩
 obtain ⟨A,aK,rfl,H,o⟩:=G8 ac
 refine T.norm [0,5,6,1] z<|T.fl ?_
 refine Sq<|Sm z<|Mv z<|Vv (V.A4x X5 z (j:=0) z b.len)<|Wl z z<|Nt<|T.cH H z (fun H=>?_) fun H=>?_
 ·refine Ks<|Sq<|Bl<|Sm z<|Mv z<|bE H fun m B H=>?_
  obtain ⟨aM,ad,rfl⟩:=A7.get b B
  refine Vv (V.ixR X5 z z (j:=0) z (A7.bd b B))<|Vv (V.ldR J7 z (j:=0) z ad z)<|An z<|Sm z<|Mv z<|bE H fun aN ae H=>?_
  obtain ⟨aO,aP,aS,af,ai⟩:=B0p.call (w.u (g:=k)) ae
  refine To (O.A1e z af z (ai _) z fun aU C aV aW aj=>?_)
  obtain ⟨rfl,ak⟩:=aj
  refine P7 _ ak<|Vv (V.not z)<|Nt<|T.cH H z (fun H=>?_) fun H=>?_
  ·refine Sm z<|Mv z<|Mv z<|bE H fun aX p H=>?_
   obtain ⟨aY,aZ,rfl⟩:=A7.get b p
   refine Vv (V.ixR X5 z z (j:=0) z (A7.bd b p))<|bE H fun D am H=>To (O.stR J7 z z (j:=0) z (A7.bdN b p) z<|have an:A7 VS C (c.set a.toNat [.string m]) D:=A7.set b.u (show VS C [.string m] m from z) am; Nt<|Rg<|Mv z<|bE H fun ao ap H=>Vv (V.H8 z z ap)<|Ag z<|Ni<|Bn<|Th<|Rg<|Mv z<|bE H fun aq ar H=>Vv (V.H8 z z ar)<|An z<|T.ag (A,D,ao,aq,(c.set a.toNat [.string m])) ⟨(D8 H o),an⟩)
  refine T.skip<|Bn<|Th<|Rg<|Mv z<|bE H fun au aw H=>Vv (V.H8 z z aw)<|An z<|T.ag (A,d,a,au,c) ⟨(D8 H o),b.u⟩
 refine T.exit<|Te<|Te<|have H:=D6 H o; Be<|Th<|have H:=I7 H ab; Sm z<|Mv z<|bE H fun a0 ax H=>Vv (V.C3R X5 z (j:=0) z b.len (.inr ⟨_,_,z,z⟩) (.inl ⟨z,z⟩) (A4N ax))<|bE H fun a1 E H=>have G:=C6A b.len E; bE H fun ay aA H=>To (O.clear X5 C0q z z z (j:=0) z (fun _ iv=>D1.C2q iv (j:=0) z b.len (A4N E)) G<|have I:A7 VS k (A3k c a.toNat (List.replicate ((d.length:Int).toNat - a.toNat) ([.string qe]:List Value))) ay:=A7.clr b (show VS k [.string qe] qe from z) G aA; Nt<|Sm z<|Mv z<|bE H fun aB J H=>To (O.slP X5 z z (j:=0) z (A7.D1m I J) z fun a2=>have aC:A7 VS k (List.take a.toNat (A3k c a.toNat (List.replicate ((d.length:Int).toNat - a.toNat) ([.string qe]:List Value)))) aB:=A7.slp I J; Ag z<|Nr ?_))
 cases H
 exact T.rl z (Rv z) ⟨_,z,aC⟩
end Go.Proofs.X
open Go Go.Proofs Go.Proofs.Tryz Go.Sl Go.Dm
namespace Go.Proofs.X
theorem A9p:A5h prog 121=some ([.string ⟨#[]⟩,.string ⟨#[]⟩,.string ⟨#[]⟩,.int .i64 (0),.int .i64 (0),.string ⟨#[]⟩,.bool false,.bool false,.slice none 0 0],[(0,1),(1,1),(2,1),(3,1),(4,1),(5,1),(6,1),(7,1),(8,1)]):=by kernel_rfl
theorem B7m:A5h prog 139=some ([.string ⟨#[]⟩,.int .u8 (0),.int .i64 (0),.int .i64 (0),.slice none 0 0,.int .i64 (0),.int .i64 (0)],[(0,1),(1,1),(2,1),(3,1),(4,1),(5,1),(6,1)]):=by kernel_rfl
theorem C2s:A5h prog 168=some ([.string ⟨#[]⟩,.string ⟨#[]⟩,.int .u8 (0)],[(0,1),(1,1),(2,1)]):=by kernel_rfl
theorem C8C:A5h prog 26=some ([.slice none 0 0,.slice none 0 0,.slice none 0 0,.slice none 0 0],[(0,1),(1,1),(2,1),(3,1)]):=by kernel_rfl
theorem C0G:A5h prog 33=some ([.slice none 0 0,.slice none 0 0,.slice none 0 0,.slice none 0 0,.slice none 0 0],[(0,1),(1,1),(2,1),(3,1),(4,1)]):=by kernel_rfl
theorem C0c:A5h prog 43=some ([.int .u8 (0),.int .i64 (0),.string ⟨#[]⟩,.string ⟨#[]⟩,.string ⟨#[]⟩,.int .i64 (0)],[(0,1),(1,1),(2,1),(3,1),(4,1),(5,1)]):=by kernel_rfl
theorem A9n:A0B prog 121=true:=by kernel_rfl
theorem B8c:A0B prog 139=true:=by kernel_rfl
theorem C2x:A0B prog 168=true:=by kernel_rfl
theorem C8z:A0B prog 26=true:=by kernel_rfl
theorem C0J:A0B prog 33=true:=by kernel_rfl
theorem B9t:A0B prog 43=true:=by kernel_rfl
theorem A5o:A1d prog 22=some (5,1,1):=by kernel_rfl
theorem A9Q:A1d prog 23=some (143,1,2):=by kernel_rfl
theorem C4r:A1d prog 24=some (146,1,4):=by kernel_rfl
theorem A2T:O5 prog 118 0=some 0:=by kernel_rfl
theorem A8n:O5 prog 118 1=some 1:=by kernel_rfl
theorem A0k:O5 prog 121 0=some 0:=by kernel_rfl
theorem B8k:O5 prog 121 1=some 1:=by kernel_rfl
theorem A8o:O5 prog 121 2=some 2:=by kernel_rfl
theorem B0K:O5 prog 121 5=some 5:=by kernel_rfl
theorem A0A:O5 prog 121 8=some 8:=by kernel_rfl
theorem A0j:O5 prog 139 0=some 0:=by kernel_rfl
theorem A2W:O5 prog 139 1=some 1:=by kernel_rfl
theorem Y2:O5 prog 139 2=some 2:=by kernel_rfl
theorem A0K:O5 prog 139 3=some 3:=by kernel_rfl
theorem Y1:O5 prog 139 4=some 4:=by kernel_rfl
theorem A7r:O5 prog 26 0=some 0:=by kernel_rfl
theorem A7k:O5 prog 26 1=some 1:=by kernel_rfl
theorem C0k:O5 prog 26 2=some 2:=by kernel_rfl
theorem B9x:O5 prog 26 3=some 3:=by kernel_rfl
theorem N7:O5 prog 33 0=some 0:=by kernel_rfl
theorem U4:O5 prog 33 1=some 1:=by kernel_rfl
theorem A9L:O5 prog 33 2=some 2:=by kernel_rfl
theorem A5F:O5 prog 33 3=some 3:=by kernel_rfl
theorem Y3:O5 prog 33 4=some 4:=by kernel_rfl
theorem A2w:O5 prog 43 0=some 0:=by kernel_rfl
theorem A4d:O5 prog 43 1=some 1:=by kernel_rfl
theorem Z9:O5 prog 43 2=some 2:=by kernel_rfl
theorem A3U:O5 prog 43 3=some 3:=by kernel_rfl
theorem V7:O5 prog 43 4=some 4:=by kernel_rfl
theorem U3:O5 prog 43 5=some 5:=by kernel_rfl
theorem A5N:U6 prog 118=some (true,2):=by kernel_rfl
theorem A1v:U6 prog 119=some (false,1):=by kernel_rfl
theorem A5Z:U6 prog 137=some (false,1):=by kernel_rfl
theorem C2c:U6 prog 143=some (false,1):=by kernel_rfl
theorem C7n:U6 prog 146=some (false,1):=by kernel_rfl
theorem A8y:U6 prog 22=some (false,1):=by kernel_rfl
theorem B1z:U6 prog 23=some (false,1):=by kernel_rfl
theorem C5g:U6 prog 24=some (false,1):=by kernel_rfl
theorem C4V:U6 prog 26=some (true,4):=by kernel_rfl
theorem Q0:U6 prog 27=some (false,1):=by kernel_rfl
theorem O0:U6 prog 28=some (false,1):=by kernel_rfl
theorem A1H:U6 prog 29=some (false,1):=by kernel_rfl
theorem Y4:U6 prog 31=some (false,1):=by kernel_rfl
theorem J4:U6 prog 33=some (true,5):=by kernel_rfl
theorem A5d:U6 prog 41=some (false,1):=by kernel_rfl
theorem K3:U6 prog 43=some (true,6):=by kernel_rfl
theorem A3N:U6 prog 5=some (false,1):=by kernel_rfl
theorem B3V:zer prog 118=some (.agg #[.slice none 0 0,.slice none 0 0]):=by kernel_rfl
theorem A3q:zer prog 33=some (.agg #[.slice none 0 0,.slice none 0 0,.slice none 0 0,.slice none 0 0,.slice none 0 0]):=by kernel_rfl
theorem C6P:zer prog 5=some (.int .u8 (0)):=by kernel_rfl
theorem A0H {h a b} (H:Y7 a=some b):∀ L,FnW prog 128 [.int .i64 a] h L (.string b):=by
 intro L
 refine J6.enter func128 z z z<|Sr<|An z<|Sm z<|bE H fun q f H=>Vv (V.B2U z z f)<|bE H fun r g H=>Vv (V.A1c z z g)<|bE H fun s i H=>Vv (V.H8 z z i)<|bE H fun c k H=>Vv (V.A5c underlying3 underlying5 z k)<|Mv z<|bE H fun t m H=>Vv (V.A1c z z m)<|bE H fun u n H=>Vv (V.H8 z z n)<|bE H fun d o H=>Vv (V.A5c underlying3 underlying5 z o)<|To (O.bs A5o C6P z (e:=z) (hk:=z) (xs:=[.tmp 7,.tmp 11]) (hv:=CO.eq (CO.cons z (CO.cons z CO.nil))) (hw:=O3.of z) (hd:=z) fun w=>have p:A7 (VI .u8) h [[.int .u8 c],[.int .u8 d]] ([c,d]:List Int):=(A7.cons z (A7.cons z A7.nil)); Vv (V.D2H underlying22 underlying5 underlying9 z (j:=0) z (A7.C7V p))<|Ag z<|Nr<|T.drop ?_)
 exact E1 H
theorem B3H {h f r1 c i} (o:C4G h f r1) (H:A2f r1 c=some i):∀ L,FnW prog 129 [.agg f.toArray,.int .i64 c] h L (.bool i):=by
 intro L
 obtain ⟨D,E,rfl,d⟩:=o
 refine J6.enter func129 z z z<|Sr<|To (O.U5 z z z fun G I J j=>An z<|Sq<|Sr<|An z ?_)
 obtain ⟨p,q,m⟩:=K4 H
 have H:=q
 refine Bl<|T.lk [1,2] (FUEL,(0:Int)) (fun ⟨a,b⟩=>([(5,qi b)],L,fun hh=>iter (A6E r1 c) a b=some p)) H ?_
 rintro ⟨a,b⟩ K M r
 obtain ⟨s,N,rfl,H,e⟩:=G8 r
 refine T.norm [5,1,2] z<|T.fl ?_
 refine Sq<|Sm z<|Vv (V.fa A2T z)<|Vv (V.M5 (k:=0) O0 z j.u z)<|Vv (V.Q3 O9 z d)<|Wl z z<|Nt<|T.cH H z (fun H=>?_) fun H=>?_
 ·refine Ks<|Sq<|Bl<|Sq<|T.N8 (t:=(.vs [0,1,2,3,4,5,6] (.alt 7 (.g (.v 8 .done)) .no))) 10 0 0 z z I5 (by kernel_rfl) ?_
  refine Tv z (V.fa A2T z)<|Tv z (V.M5 (k:=0) O0 z j.u z)<|Tm z z<|bE H fun P n H=>?_
  obtain ⟨S,w,⟨U,rfl,W⟩⟩:=F8.at d n
  refine Tv z (V.ix O9 z z d (E9 n))<|Tv z (V.fa A0k z)<|Tv z (V.M5 (k:=0) J7 z w.u z)<|Tm z z<|bE H fun X x H=>Tp z z (X2 z z) (O.G9 z (A0H x _) z fun Y Z aa ab y=>?_) T.P5
  obtain ⟨rfl,A⟩:=y
  refine P7 _ A<|T.O1 Li<|Tv z (V.seq z z)<|T.O7 (X2 z z)<|Th<|T.cH H z (fun H=>?_) fun H=>?_
  ·exact Sg z<|Nr<|Br<|Tr<|Tr<|have H:=D6 H e; Br<|Tr<|have H:=I7 H m; E1 H
  refine T.skip<|Bn<|Th<|Rg<|Mv z<|bE H fun B C H=>Vv (V.H8 z z C)<|An z<|T.ag (s,B) (D8 H e)
 exact T.exit<|Te<|Te<|have H:=D6 H e; Be<|Th<|have H:=I7 H m; Sg z<|Nr<|E1 H
theorem B4P {h aG aw aI am ax} (ay:F8 (VI .u16) 1 h aG aw) (ae:F8 (VI .u8) 1 h aI am) (H:B2j aw am=some ax):∀ L,J6 prog 67 [aG,aI] h (L) (fun v h' L'=>∃ v0_1 v0_3,v=.agg #[v0_1,v0_3]∧L'=L∧F8 I8 9 h' v0_1 ax.A8∧F8 L8 3 h' v0_3 ax.M9):=by
 intro L
 refine J6.enter func67 z z z<|Sr<|To (O.alloc B3V z z fun n=>Nt<|Sr<|To (O.alloc B3V z z fun o=>Nt<|Sq<|Sr<|An z ?_))
 obtain ⟨av,az,ba⟩:=K4 H
 have H:=az
 refine Bl<|T.R4 121 9<|have bb:A7 I8 h [] ([]:List E8):=A7.nil; T.fs [2,2] ?_
 refine T.lk [0,1,4,5] (FUEL,([]:List E8),(0:Int),(qs),[]) (fun ⟨P,C,I,a,b⟩=>([(6,qi I)],blk o (.cells [a,qs].toArray 118)::blk n (.cells [qs,qs].toArray 118)::F5 121 9 a b::L,fun hh=>iter (A8f aw) P (C,I)=some av∧A7 I8 hh b C)) ⟨H,bb⟩ ?_
 rintro ⟨P,C,I,a,b⟩ dO dP ⟨bc,af⟩
 obtain ⟨bd,dS,rfl,H,aJ⟩:=G8 bc
 refine T.norm [6,0,1,4,5] z<|T.fl ?_
 refine Sq<|Sq ?_
 obtain ⟨be,bf,bg⟩:=K4 H
 refine T.ck (α:=Bool) [0,1,4,5,6] (fun ai=>([(23,.bool ai)],blk o (.cells [a,qs].toArray 118)::blk n (.cells [qs,qs].toArray 118)::F5 121 9 a b::L,fun hh=>be=ai)) ?_ ?_
 ·have H:=bf
  refine Rg<|Mv z<|Mv z<|Vv (V.Q3 A9Q z ay)<|Wl z z<|Mv z<|T.bH 20 H z (fun H=>?_) fun H=>?_
  ·refine Mv z<|Wl z z<|Kt z<|Nt<|T.mt (decide (I < (12:Int))) (M7 H)
  refine S2<|Kf z<|Nt<|T.mt false (M7 H)
 rintro ai bi dU bj
 have H:=I7 bj bg
 refine T.norm [23,0,1,4,5,6] z<|T.fl ?_
 refine T.cH H z (fun H=>?_) fun H=>?_
 ·refine Ks<|Sq<|Bl<|Sm z<|Mv z<|bE H fun dV aK H=>?_
  obtain ⟨dW,bk,rfl⟩:=F8.at ay aK
  refine Vv (V.ix A9Q z z ay (E9 aK))<|Vv (V.S9 C2c z bk.u z)<|bE H fun bm bn H=>Vv (V.A5c underlying143 underlying3 z bn)<|An z<|Sm z<|bE H fun dX bo H=>Vv (V.B0g z z bo)<|bE H fun dY bp H=>Vv (V.A1c z z bp)<|Mv z<|bE H fun dZ bq H=>Vv (V.B2U z z bq)<|bE H fun d0 br H=>Vv (V.H8 z z br)<|bE H fun r bt H=>To (O.cs (A0H bt _) fun d2 d4=>Mv z<|bE H fun d5 bx H=>Vv (V.A1c z z bx)<|bE H fun s bA H=>Vv (V.B0g z z bA)<|Mv z<|bE H fun w bB H=>Vv (V.A1c z z bB)<|Mv z<|bE H fun x bC H=>Vv (V.A1c z z bC)<|We z z<|Mv z<|bE H fun y bD H=>Vv (V.A1c z z bD)<|We z z<|Vv (V.bld (xs:=[(0,.tmp 37),(3,.tmp 40),(4,.tmp 42),(6,.tmp 45),(7,.tmp 48)]) (cs:=[_,_,_,_,_,_,_,_,_]) A9p A9n z (F4.cons z z z (F4.cons z z z (F4.cons z z z (F4.cons z z z (F4.cons z z z F4.nil))))))<|To (O.alloc A1K z z fun an=>To (O.stF (vs:=[.string r,.string qe,.string qe,qi s,qi w,.string qe,.bool (decide (x=(0:Int))),.bool (decide (y=(0:Int))),qs]) V8 z z (j:=0) z z z z<|T.fl ?_)))
  refine Nt<|Sq<|Sm z<|bE H fun d6 bG H=>Vv (V.A1c z z bG)<|We z z<|Nt ?_
  obtain ⟨bI,bJ,bK⟩:=K4 H
  refine T.ck (α:=ByteArray) [0,1,4,5,6,7,8] (fun f=>([],blk an (.cells [.string r,.string f,.string qe,qi s,qi w,.string qe,.bool (decide (x=(0:Int))),.bool (decide (y=(0:Int))),qs].toArray 121)::blk o (.cells [a,qs].toArray 118)::blk n (.cells [qs,qs].toArray 118)::F5 121 9 a b::L,fun hh=>bI=f)) ?_ ?_
  ·have H:=bJ
   refine T.cH H z (fun H=>?_) fun H=>?_
   ·refine Rg<|Mv z<|bE H fun d7 bM H=>Vv (V.A1c z z bM)<|bE H fun aM bN H=>To (O.cs (A0H bN _) fun d9 dl=>Vv (V.fa B8k z)<|To (O.st (vs:=[.string aM]) (k:=1) J7 z z (j:=0) z z z<|T.fl ?_))
    refine Nt<|T.mt aM (M7 H)
   refine Ks<|T.mt qe (M7 H)
  rintro f dv dz bS
  have H:=I7 bS bK
  refine T.norm [0,1,4,5,6,7,8] z<|T.fl ?_
  refine Sq<|Sm z<|bE H fun ea bU H=>Vv (V.A1c z z bU)<|Wg z z<|Nt ?_
  obtain ⟨bV,bW,bX⟩:=K4 H
  refine T.ck (α:=ByteArray) [0,1,4,5,6,7,8] (fun i=>([],blk an (.cells [.string r,.string f,.string i,qi s,qi w,.string qe,.bool (decide (x=(0:Int))),.bool (decide (y=(0:Int))),qs].toArray 121)::blk o (.cells [a,qs].toArray 118)::blk n (.cells [qs,qs].toArray 118)::F5 121 9 a b::L,fun hh=>bV=i)) ?_ ?_
  ·have H:=bW
   refine T.cH H z (fun H=>?_) fun H=>?_
   ·refine Rg<|Mv z<|bE H fun eb bY H=>Vv (V.A1c z z bY)<|bE H fun aN bZ H=>To (O.cs (A0H bZ _) fun ed ef=>Vv (V.fa A8o z)<|To (O.st (vs:=[.string aN]) (k:=2) J7 z z (j:=0) z z z<|T.fl ?_))
    refine Nt<|T.mt aN (M7 H)
   refine Ks<|T.mt qe (M7 H)
  rintro i eg ei b3
  have H:=I7 b3 bX
  refine T.norm [0,1,4,5,6,7,8] z<|T.fl ?_
  refine Sq<|Sm z<|bE H fun ej b4 H=>Vv (V.A1c z z b4)<|We z z<|Nt ?_
  obtain ⟨b5,b6,b7⟩:=K4 H
  refine T.ck (α:=ByteArray) [0,1,4,5,6,7,8] (fun p=>([],blk an (.cells [.string r,.string f,.string i,qi s,qi w,.string p,.bool (decide (x=(0:Int))),.bool (decide (y=(0:Int))),qs].toArray 121)::blk o (.cells [a,qs].toArray 118)::blk n (.cells [qs,qs].toArray 118)::F5 121 9 a b::L,fun hh=>b5=p)) ?_ ?_
  ·have H:=b6
   refine T.cH H z (fun H=>?_) fun H=>?_
   ·refine Rg<|Mv z<|bE H fun ek b8 H=>Vv (V.A1c z z b8)<|bE H fun aO b9 H=>To (O.cs (A0H b9 _) fun en ep=>Vv (V.fa B0K z)<|To (O.st (vs:=[.string aO]) (k:=5) J7 z z (j:=0) z z z<|T.fl ?_))
    refine Nt<|T.mt aO (M7 H)
   refine Ks<|T.mt qe (M7 H)
  rintro p bv er bz
  have H:=I7 bz b7
  refine T.norm [0,1,4,5,6,7,8] z<|T.fl ?_
  refine Sq<|Sr<|An z ?_
  obtain ⟨ca,cb,cc⟩:=K4 H
  have H:=cb
  refine Bl<|T.R4 9 1<|have cd:A7 VS bv [] ([]:List ByteArray):=A7.nil; T.fs [4,4,4,4] ?_
  refine T.lk [0,1,4,5,6,7,8] (FUEL,([]:List ByteArray),(0:Int),(qs),[]) (fun ⟨S,D,U,m,A⟩=>([(9,qi U)],blk an (.cells [.string r,.string f,.string i,qi s,qi w,.string p,.bool (decide (x=(0:Int))),.bool (decide (y=(0:Int))),m].toArray 121)::blk o (.cells [a,qs].toArray 118)::blk n (.cells [qs,qs].toArray 118)::F5 121 9 a b::F5 9 1 m A::L,fun hh=>iter (A5n bm) S (D,U)=some ca∧A7 VS hh A D)) ⟨H,cd⟩ ?_
  rintro ⟨S,D,U,m,A⟩ es et ⟨ce,ao⟩
  obtain ⟨aP,eu,rfl,H,aA⟩:=G8 ce
  refine T.norm [9,0,1,4,5,6,7,8] z<|T.fl ?_
  refine Sq<|Sm z<|Wl z z<|Nt<|T.cH H z (fun H=>?_) fun H=>?_
  ·refine Ks<|Sq<|Bl<|Sm z<|Mv z<|bE H fun ew cf H=>Vv (V.B0g z z cf)<|bE H fun ex cg H=>Vv (V.H8 z z cg)<|bE H fun ey ci H=>Vv (V.A3P z z ci)<|bE H fun eA cj H=>Vv (V.A1c z z cj)<|We z z<|Nt<|T.cH H z (fun H=>?_) fun H=>?_
   ·refine Sr<|Vv (V.fa A0A z)<|Vv (V.ldO (k:=8) A1v z (j:=0) z z)<|An z<|Rg<|Mv z<|Mv z<|bE H fun aS ck H=>To (O.cs (A0H ck _) fun cm eD=>To (O.b1 (E:=VS) X5 C0q z z z z z fun eE aB=>bE H fun aU aV H=>To (O.apX X5 X5 C0q z z z (j:=5) z (Src.row (j:=0) z) (O3.of z) (A7.ones VS.plain aB) ao.u aB aV z fun aW eG eI=>have cp:A7 VS cm (A ++ [[.string aS]]) aU:=A7.ap ao.u aB aV; T.fl ?_)))
    refine T.fs [1] ?_
    refine T.drop<|Vv (V.fa A0A z)<|T.Q9 0 z fun cq cr=>To (O.st (vs:=[aW]) (k:=8) A1v z z (j:=1) z cr (by (simp only [BT,cq]) <;> rfl) ?_)
    refine T.fl ?_
    refine Ni<|Bn<|Th<|Rg<|Mv z<|bE H fun ct cu H=>Vv (V.H8 z z cu)<|An z<|T.fs [1,4,4,4,4] ?_
    exact T.ag (aP,aU,ct,aW,(A ++ [[.string aS]])) ⟨(D8 H aA),cp⟩
   refine T.skip<|Bn<|Th<|Rg<|Mv z<|bE H fun cw cx H=>Vv (V.H8 z z cx)<|An z<|T.ag (aP,D,cw,m,A) ⟨(D8 H aA),ao⟩
  refine T.exit<|Te<|Te<|have H:=D6 H aA; Be<|Th<|have H:=I7 H cc; Sr<|Vv (V.fa A2T z)<|Vv (V.ldO (k:=0) O0 z (j:=1) z z)<|An z<|Rg<|Mv z<|Vv (V.A4O (j:=0) (by exact V8) z z) ?_
  refine T.fs [4] ?_
  refine T.K5 fun aX eJ cy=>have cA:=A7.slc cy ao.u; To (O.bs O9 A1K z (e:=z) (hk:=z) (xs:=[.tmp 93]) (hv:=CO.eq (CO.cons z CO.nil)) (hw:=O3.of z) (hd:=z) fun eK=>have aC:A7 I8 aX [[.string r,.string f,.string i,qi s,qi w,.string p,.bool (decide (x=(0:Int))),.bool (decide (y=(0:Int))),m]] ([(E8.mk r f i s w p (decide (x=(0:Int))) (decide (y=(0:Int))) D)]:List E8):=(A7.cons ⟨m,z,cA⟩ A7.nil); bE H fun aY aZ H=>To (O.apX O9 O9 A1K z z z (j:=4) z (Src.row (j:=0) z) (O3.of z) (A7.ones I8.plain aC) af.u aC aZ z fun a0 eM eN=>have cB:A7 I8 aX (b ++ [[.string r,.string f,.string i,qi s,qi w,.string p,.bool (decide (x=(0:Int))),.bool (decide (y=(0:Int))),m]]) aY:=A7.ap af.u aC aZ; T.fl ?_))
  refine T.fs [1] ?_
  refine T.drop<|Vv (V.fa A2T z)<|T.Q9 0 z fun cC cD=>To (O.st (vs:=[a0]) (k:=0) O0 z z (j:=2) z cD (by (simp only [BT,cC]) <;> rfl) ?_)
  refine T.fl ?_
  refine Ni<|Bn<|Th<|Rg<|Mv z<|bE H fun cE cG H=>Vv (V.H8 z z cG)<|An z<|T.fs [2] ?_
  refine T.drop<|T.fs [1,2,2] ?_
  exact T.ag (bd,aY,cE,a0,(b ++ [[.string r,.string f,.string i,qi s,qi w,.string p,.bool (decide (x=(0:Int))),.bool (decide (y=(0:Int))),m]])) ⟨(D8 H aJ),cB⟩
 refine T.exit<|Te<|Te<|have H:=D6 H aJ; Be<|Th<|have H:=I7 H ba; Sr<|An z<|Sq<|Sr<|An z ?_
 obtain ⟨cI,cJ,cK⟩:=K4 H
 have H:=cJ
 refine Bl<|T.R4 168 3<|have cM:A7 L8 bi [] ([]:List H7):=A7.nil; T.fs [3,3,3] ?_
 refine T.lk [1,4,5] (FUEL,([]:List H7),(0:Int),(0:Int),(qs),[]) (fun ⟨W,J,K,M,G,N⟩=>([(12,qi K),(13,qi M)],blk o (.cells [a,G].toArray 118)::blk n (.cells [qs,qs].toArray 118)::F5 121 9 a b::F5 168 3 G N::L,fun hh=>iter (A8b am C) W (J,K,M)=some cI∧A7 L8 hh N J)) ⟨H,cM⟩ ?_
 rintro ⟨W,J,K,M,G,N⟩ eO eP ⟨cN,a1⟩
 obtain ⟨cO,eS,rfl,H,a2⟩:=G8 cN
 refine T.norm [12,13,1,4,5] z<|T.fl ?_
 refine Sq<|Sm z<|Wl z z<|Nt<|T.cH H z (fun H=>?_) fun H=>?_
 ·refine Ks<|Sq<|Bl<|Sm z<|bE H fun cP cS H=>Vv (V.H8 z z cS)<|An z<|T.A0L ?_
  obtain ⟨a3,cU,cV⟩:=K4 H
  refine T.ck (α:=Int×(List H7)×Value×(List (List Value))) [1,4,5,13] (fun ⟨X,Y,Z,aa⟩=>([(12,qi X)],blk o (.cells [a,Z].toArray 118)::blk n (.cells [qs,qs].toArray 118)::F5 121 9 a b::F5 168 3 Z aa::L,fun hh=>a3=(X,Y)∧A7 L8 hh aa Y)) ?_ ?_
  ·have H:=cU
   refine Bl<|T.lk [1,4,5,13] (FUEL,J,K,cP,G,N) (fun ⟨ab,q,B,ac,c,d⟩=>([(12,qi B),(14,qi ac)],blk o (.cells [a,c].toArray 118)::blk n (.cells [qs,qs].toArray 118)::F5 121 9 a b::F5 168 3 c d::L,fun hh=>iter (A7J am C M) ab (q,B,ac)=some a3∧A7 L8 hh d q)) ⟨H,a1⟩ ?_
   rintro ⟨ab,q,B,ac,c,d⟩ eU eV ⟨cW,ad⟩
   obtain ⟨aD,eW,rfl,H,aj⟩:=G8 cW
   refine T.norm [12,14,1,4,5,13] z<|T.fl ?_
   refine Sq<|Sm z<|Wl z z<|Nt<|T.cH H z (fun H=>?_) fun H=>?_
   ·refine Ks<|Sq<|Bl<|Sq<|Sr<|Vv (V.A4O (j:=0) (by exact A5N) z z) ?_
    refine Mv z<|T.fs [2] ?_
    refine bE H fun cX cY H=>To (O.G9 z (J6.A6P (val:=.bool cX) func129 z A1N fun eX eY cZ=>?_) z fun eZ e0 e1 e2 c0=>?_)
    ·have c1:=A7.slc cZ af.u
     exact B3H ⟨a,c,z,c1⟩ cY _
    obtain ⟨rfl,c2⟩:=c0
    refine P7 _ c2<|Vv (V.not z)<|Nt<|T.cH H z (fun H=>?_) fun H=>?_
    ·refine T.exit<|Te<|T.blX z<|Te<|Te<|have H:=D6 H aj; Be<|Th<|T.fs [3,1,3,3] ?_
     exact T.mt (B,q,c,d) ⟨H,ad.u⟩
    refine Ks<|Sq<|Sr<|Vv (V.A4O (j:=1) (by exact A5N) z z) ?_
    refine Mv z<|bE H fun c3 c4 H=>To (O.G9 z (J6.A6P (val:=.bool c3) func129 z A1N fun e3 e4 c5=>?_) z fun e5 e6 e7 e8 c6=>?_)
    ·have c7:=A7.slc c5 af.u
     exact B3H ⟨a,c,z,c7⟩ c4 _
    obtain ⟨rfl,c8⟩:=c6
    refine P7 _ c8<|Vv (V.not z)<|Nt<|T.cH H z (fun H=>?_) fun H=>?_
    ·refine T.exit<|Te<|Be<|Th<|Rg<|Mv z<|bE H fun c9 ch H=>Vv (V.H8 z z ch)<|An z<|T.fs [3,1,3,3] ?_
     exact T.ag (aD,q,B,c9,c,d) ⟨(D8 H aj),ad.u⟩
    refine Ks<|Sq<|Sq ?_
    obtain ⟨cl,cv,cz⟩:=K4 H
    refine T.ck (α:=Bool) [1,4,5,12,13,14] (fun ak=>([(126,.bool ak)],F5 121 9 a b::blk o (.cells [a,c].toArray 118)::blk n (.cells [qs,qs].toArray 118)::F5 168 3 c d::L,fun hh=>cl=ak)) ?_ ?_
    ·have H:=cv
     refine Rg<|Mv z<|Mv z<|Vv (V.Q3 A5o z ae)<|Wl z z<|Mv z<|T.bH 119 H z (fun H=>?_) fun H=>?_
     ·refine Mv z<|Mv z<|bE H fun e9 a4 H=>?_
      obtain ⟨eh,da,rfl⟩:=F8.at ae a4
      refine Vv (V.ix A5o z z ae (E9 a4))<|Vv (V.S9 A3N z da.u z)<|bE H fun db dc H=>Vv (V.A1c z z dc)<|Wl z z<|Kt z<|Nt<|T.mt (decide (db < (2:Int))) (M7 H)
     refine S2<|S2<|S2<|Kf z<|Nt<|T.mt false (M7 H)
    rintro ak el ev dd
    have H:=I7 dd cz
    refine T.norm [126,1,4,5,12,13,14] z<|T.fl ?_
    refine T.cH H z (fun H=>?_) fun H=>?_
    ·refine Sr<|Vv (V.fa A8n z)<|Vv (V.ldO (k:=1) A1H z (j:=1) z z)<|An z<|T.fs [3,2] ?_
     refine T.N8 (t:=(.vs [0,1,3,5,6,7,8,9,10] (.alt 2 (.g (.alt 4 (.g (.v 11 (.alt 12 (.alt 13 (.g (.v 14 (.alt 15 .done .no))) .no) .no))) .no)) .no))) 13 2 0 z z I5 (by kernel_rfl) ?_
     refine Tm z z<|Tm z z<|Tm z z<|Tm z z<|Tm z z<|bE H fun ez a5 H=>?_
     obtain ⟨fb,de,rfl⟩:=F8.at ae a5
     refine Tv z (V.ix A5o z z ae (E9 a5))<|Tv z (V.S9 A3N z de.u z)<|bE H fun fc df H=>Tv z (V.A1c z z df)<|bE H fun aq dg H=>Tv z (V.C9a z z dg)<|bE H fun ar di H=>Tp z z (X3 [] [1,1] z z) (O.G9 z (A0H di _) z fun fd fe ff fg dj=>?_) T.P5
     obtain ⟨rfl,dk⟩:=dj
     refine P7 _ dk<|T.O1 Li<|bE H fun au dm H=>Tp z z (X3 [] [1,1] z z) (O.G9 z (A0H dm _) z fun fi a6 fj fk dn=>?_) T.P5
     obtain ⟨rfl,dp⟩:=dn
     refine P7 _ dp<|T.O1 Li<|Tv z (V.bld (xs:=[(0,.tmp 131),(1,.tmp 133),(2,.tmp 139)]) (cs:=[_,_,_]) C2s C2x z (F4.cons z z z (F4.cons z z z (F4.cons z z z F4.nil))))<|Tp z z (X3 [] [1,1] z z) (O.bs A0U A9I z (e:=z) (hk:=z) (xs:=[.tmp 140]) (hv:=CO.eq (CO.cons z CO.nil)) (hw:=O3.of z) (hd:=z) fun fm=>?_) T.P5
     have aE:A7 L8 a6 [[.string ar,.string au,.int .u8 aq]] ([(H7.mk ar au aq)]:List H7):=(A7.cons z A7.nil)
     refine bE H fun a7 a8 H=>Tp z z (X3 [] [2,2] z z) (O.apX A0U A0U A9I z z z (j:=2) z (Src.row (j:=0) z) (O3.of z) (A7.ones L8.plain aE) ad.u aE a8 z fun a9 fn fo=>?_) T.P5
     have dq:A7 L8 a6 (d ++ [[.string ar,.string au,.int .u8 aq]]) a7:=A7.ap ad.u aE a8
     refine T.fl ?_
     refine T.fs [1] ?_
     refine T.drop<|T.O1 Lr<|Tv z (V.fa A8n z)<|T.Q9 0 z fun dr ds=>Tp z z (SX.one (XA.fr [] Lr z) z) (O.st (vs:=[a9]) (k:=1) A1H z z (j:=1) z ds (by (simp only [BT,dr]) <;> rfl) ?_) T.P5
     refine T.fl ?_
     refine T.O7 (SX.one (XA.fr [] Lr z) z)<|Th<|Rg<|Mv z<|bE H fun dt du H=>Vv (V.H8 z z du)<|Ag z<|Ni<|Bn<|Th<|Rg<|Mv z<|bE H fun dw dx H=>Vv (V.H8 z z dx)<|An z<|T.fs [1,2,3,3] ?_
     exact T.ag (aD,a7,dt,dw,a9,(d ++ [[.string ar,.string au,.int .u8 aq]])) ⟨(D8 H aj),dq⟩
    refine Ks<|Rg<|Mv z<|bE H fun dy dA H=>Vv (V.H8 z z dA)<|Ag z<|Ni<|Bn<|Th<|Rg<|Mv z<|bE H fun dB dC H=>Vv (V.H8 z z dC)<|An z<|T.fs [3,1,3,3] ?_
    exact T.ag (aD,q,dy,dB,c,d) ⟨(D8 H aj),ad.u⟩
   refine T.exit<|Te<|Te<|have H:=D6 H aj; Be<|Th<|T.mt (B,q,c,d) ⟨H,ad⟩
  rintro ⟨X,Y,Z,aa⟩ fp fq ⟨dD,dE⟩
  have H:=I7 dD cV
  refine T.norm [12,1,4,5,13] z<|T.fl ?_
  refine Bn<|Th<|Rg<|Mv z<|bE H fun dG dI H=>Vv (V.H8 z z dI)<|An z<|T.ag (cO,Y,X,dG,Z,aa) ⟨(D8 H a2),dE⟩
 refine T.exit<|Te<|Te<|have H:=D6 H a2; Be<|Th<|have H:=I7 H cK; Sr<|Vv (V.A4O (j:=0) (by exact A5N) z z) ?_
 refine T.fs [2] ?_
 refine T.K5 fun fs ft dJ=>have ah:=A7.slc dJ af.u; T.fs [2] ?_
 refine T.K5 fun fu fw dK=>have al:=A7.slc dK a1.u; To (O.stF (vs:=[a,G]) A5N z z (j:=1) z z (by (simp only [BT,F8.one ah,F8.one al]) <;> rfl) z ?_)
 refine T.freeze fun fx fy dM=>have dN:=Z0.of dM; Nr<|T.drop ?_
 cases H
 exact T.rl z (RVs.cons (RV.B2N z dN A5N) RVs.nil) ⟨_,_,z,z,ah.u,al.u⟩
theorem C1x {h a b} (H:C0s a=some b):∀ L,FnW prog 127 [.int .i64 a] h L (.string b):=by
 intro L
 refine J6.enter func127 z z z<|Sr<|An z<|Sm z<|bE H fun k d H=>Vv (V.A1c z z d)<|bE H fun m f H=>Vv (V.H8 z z f)<|bE H fun c g H=>Vv (V.A5c underlying3 underlying5 z g)<|To (O.bs A5o C6P z (e:=z) (hk:=z) (xs:=[.const (.int .u8 (116)),.tmp 6]) (hv:=CO.eq (CO.cons z (CO.cons z CO.nil))) (hw:=O3.of z) (hd:=z) fun n=>have i:A7 (VI .u8) h [[.int .u8 116],[.int .u8 c]] ([(116:Int),c]:List Int):=(A7.cons z (A7.cons z A7.nil)); Vv (V.D2H underlying22 underlying5 underlying9 z (j:=0) z (A7.C7V i))<|Ag z<|Nr<|T.drop ?_)
 exact E1 H
theorem A2n {h b c d} (e:C3w h b c) (H:A1z c=some d):∀ L,FnW prog 66 [.agg b.toArray] h L (.int .i64 d):=by
 intro L
 obtain ⟨m,rfl⟩:=e
 refine J6.enter func66 z z z<|Sr<|To (O.U5 z z z fun n o p a=>An z<|Sq<|Sr<|Vv (V.fa A2W z)<|Vv (V.M5 (k:=1) A5Z z a z)<|Nt<|Bl<|Sr<|We z z<|An z<|T.cH H z (fun H=>?_) fun H=>?_)
 ·exact Sr<|Vv (V.fa Y2 z)<|Vv (V.M5 (k:=2) D7 z a z)<|bE H fun q f H=>Vv (V.B0g z z f)<|Vv (V.fa A0K z)<|Vv (V.M5 (k:=3) D7 z a z)<|bE H fun r g H=>Vv (V.H8 z z g)<|Ag z<|Nr<|Br<|Tr<|E1 H
 refine Sr<|We z z<|An z<|T.cH H z (fun H=>?_) fun H=>?_
 ·exact Sr<|Vv (V.fa Y2 z)<|Vv (V.M5 (k:=2) D7 z a z)<|Vv (V.fa A0K z)<|Vv (V.M5 (k:=3) D7 z a z)<|bE H fun s i H=>Vv (V.B0g z z i)<|bE H fun t j H=>Vv (V.H8 z z j)<|Ag z<|Nr<|Br<|Tr<|E1 H
 exact T.skip<|Bn<|Th<|Sr<|Vv (V.fa Y2 z)<|Vv (V.M5 (k:=2) D7 z a z)<|Ag z<|Nr<|E1 H
theorem B9Y {h aI a s} (H:A2X aI a=some s):∀ L,J6 prog 65 [.int .i64 aI,.int .i64 a] h (L) (fun v h' L'=>∃ v0_1,v=.agg #[.string s.F7,.int .u8 s.Q4,.int .i64 s.fA,.int .i64 s.fB,v0_1,.int .i64 s.fX,.int .i64 s.fY]∧L'=L∧F8 (VI .i64) 1 h' v0_1 s.A2M):=by
 intro L
 refine J6.enter func65 z z z<|Sr<|To (O.alloc A1J z z fun U=>Nt<|Sm z<|bE H fun b a7 H=>To (O.cs (C1x a7 _) fun W dM=>Mv z<|bE H fun dN ah H=>Vv (V.A1c z z ah)<|bE H fun dO al H=>Vv (V.H8 z z al)<|bE H fun c av H=>Vv (V.A5c underlying3 underlying137 z av)<|Mv z<|Mv z<|bE H fun d az H=>Vv (V.Y9 z z az)<|Vv (V.bld (xs:=[(0,.tmp 10),(1,.tmp 14),(5,.tmp 15),(6,.tmp 17)]) (cs:=[_,_,_,_,_,_,_]) B7m B8c z (F4.cons z z z (F4.cons z z z (F4.cons z z z (F4.cons z z z F4.nil)))))<|To (O.alloc A1J z z fun X=>To (O.stF (vs:=[.string b,.int .u8 c,qi 0,qi 0,qs,qi a,qi d]) J5 z z (j:=0) z z z z<|Nt<|Sm z<|bE H fun dP ba H=>Vv (V.B2U z z ba)<|An z<|Sq<|Sr<|Vv (V.fa A2W z)<|Vv (V.ldO (k:=1) A5Z z (j:=0) z z)<|Nt<|Bl<|Sr<|We z z<|An z<|T.cH H z (fun H=>?_) fun H=>?_))))
 ·refine Rg<|Mv z<|bE H fun dS bb H=>Vv (V.A1c z z bb)<|bE H fun ad bc H=>Vv (V.H8 z z bc)<|Vv (V.fa Y2 z)<|To (O.st (vs:=[qi ad]) (k:=2) D7 z z (j:=0) z z z<|Ni<|Bn<|Th<|Sq<|Sr<|An z ?_)
  obtain ⟨bd,be,bf⟩:=K4 H
  have H:=be
  refine Bl<|T.R4 3 1<|have bg:A7 (VI .i64) W [] ([]:List Int):=A7.nil; T.fs [2,2] ?_
  refine T.lk [1,4,5] (FUEL,([]:List Int),(0:Int),(qs),[]) (fun ⟨K,t,w,e,f⟩=>([(7,qi w)],blk X (.cells [.string b,.int .u8 c,qi ad,qi 0,e,qi a,qi d].toArray 139)::blk U (.cells [.string qe,.int .u8 0,qi 0,qi 0,qs,qi 0,qi 0].toArray 139)::F5 3 1 e f::L,fun hh=>iter (B3n a b c d ad) K (t,w)=some bd∧A7 (VI .i64) hh f t)) ⟨H,bg⟩ ?_
  rintro ⟨K,t,w,e,f⟩ dU dV ⟨bi,Y⟩
  obtain ⟨au,dW,rfl,H,ae⟩:=G8 bi
  refine T.norm [7,1,4,5] z<|T.fl ?_
  refine Sq<|Sm z<|Vv (V.A4O (j:=0) (by exact J5) z z) ?_
  refine bE H fun dX bj H=>To (O.cs (A2n ⟨e,z⟩ bj _) fun bk d0=>Wl z z<|Nt<|T.cH H z (fun H=>?_) fun H=>?_)
  ·refine Ks<|Sq<|Bl<|Sm z<|Mv z<|bE H fun d1 bo H=>Vv (V.A3P z z bo)<|bE H fun d2 bp H=>Vv (V.A1c z z bp)<|We z z<|Mv z<|T.bH 74 H z (fun H=>?_) fun H=>?_
   ·refine Mv z<|bE H fun d3 bq H=>Vv (V.A1c z z bq)<|Wg z z<|Kt z<|Nt<|T.cH H z (fun H=>?_) fun H=>?_
    ·refine Sr<|Vv (V.fa Y1 z)<|Vv (V.ldO (k:=4) E5 z (j:=0) z z)<|An z<|Rg<|Mv z<|Mv z<|To (O.b1 (E:=VI .i64) A9 K8 z z z z z fun d4 aw=>bE H fun aJ aK H=>To (O.apX A9 A9 K8 z z z (j:=3) z (Src.row (j:=0) z) (O3.of z) (A7.ones VI.plain aw) Y.u aw aK z fun aM d5 d6=>have br:A7 (VI .i64) bk (f ++ [[qi w]]) aJ:=A7.ap Y.u aw aK; T.fl ?_))
     refine T.fs [1] ?_
     refine T.drop<|Vv (V.fa Y1 z)<|T.Q9 0 z fun bs bt=>To (O.st (vs:=[aM]) (k:=4) E5 z z (j:=1) z bt (by (simp only [BT,bs]) <;> rfl) ?_)
     refine T.fl ?_
     refine Ni<|Bn<|Th<|Rg<|Mv z<|bE H fun bu bw H=>Vv (V.H8 z z bw)<|An z<|T.fs [1,2,2] ?_
     exact T.ag (au,aJ,bu,aM,(f ++ [[qi w]])) ⟨(D8 H ae),br⟩
    refine T.skip<|Bn<|Th<|Rg<|Mv z<|bE H fun bx bA H=>Vv (V.H8 z z bA)<|An z<|T.ag (au,t,bx,e,f) ⟨(D8 H ae),Y.u⟩
   refine S2<|Sk<|Kf z<|Nt<|Cf z<|T.skip<|Bn<|Th<|Rg<|Mv z<|bE H fun bB bC H=>Vv (V.H8 z z bC)<|An z<|T.ag (au,t,bB,e,f) ⟨(D8 H ae),Y.u⟩
  refine T.exit<|Te<|Te<|have H:=D6 H ae; Be<|Th<|have H:=I7 H bf; Sr<|Vv (V.A4O (j:=0) (by exact J5) z z) ?_
  refine T.fs [2] ?_
  refine T.K5 fun d7 d8 bD=>have aN:=A7.slc bD Y.u; To (O.stF (vs:=[.string b,.int .u8 c,qi ad,qi 0,e,qi a,qi d]) J5 z z (j:=1) z z (by (simp only [BT,F8.one aN]) <;> rfl) z ?_)
  refine T.freeze fun d9 dh bG=>have bI:=Z0.of bG; Nr<|T.drop ?_
  cases H
  exact T.rl z (RVs.cons (RV.B2N z bI J5) RVs.nil) ⟨_,z,z,aN.u⟩
 refine Sr<|We z z<|An z<|T.cH H z (fun H=>?_) fun H=>?_
 ·refine Rg<|Mv z<|bE H fun dl bJ H=>Vv (V.A1c z z bJ)<|bE H fun af bK H=>Vv (V.H8 z z bK)<|Mv z<|bE H fun dv bM H=>Vv (V.B2U z z bM)<|bE H fun ai bN H=>Vv (V.A1c z z bN)<|Vv (V.fa Y2 z)<|To (O.st (vs:=[qi af]) (k:=2) D7 z z (j:=0) z z z<|Vv (V.fa A0K z)<|To (O.st (vs:=[qi ai]) (k:=3) D7 z z (j:=0) z z z<|Ni<|Bn<|Th<|Sq<|Sq<|T.norm [1,4,5] z<|T.fl ?_))
  refine Rg<|An z ?_
  obtain ⟨bO,bP,bS⟩:=K4 H
  have H:=bP
  refine Bl<|T.R4 3 1<|have bU:A7 (VI .i64) W [] ([]:List Int):=A7.nil; T.fs [2,2] ?_
  refine T.lk [1,4,5] (FUEL,([]:List Int),(0:Int),(qs),[]) (fun ⟨M,x,y,g,i⟩=>([(7,qi y)],blk X (.cells [.string b,.int .u8 c,qi af,qi ai,g,qi a,qi d].toArray 139)::blk U (.cells [.string qe,.int .u8 0,qi 0,qi 0,qs,qi 0,qi 0].toArray 139)::F5 3 1 g i::L,fun hh=>iter (B3f a b c d af ai) M (x,y)=some bO∧A7 (VI .i64) hh i x)) ⟨H,bU⟩ ?_
  rintro ⟨M,x,y,g,i⟩ dz ea ⟨bV,Z⟩
  obtain ⟨ax,eb,rfl,H,aj⟩:=G8 bV
  refine T.norm [7,1,4,5] z<|T.fl ?_
  refine Sq<|Sm z<|Vv (V.A4O (j:=0) (by exact J5) z z) ?_
  refine bE H fun ec bW H=>To (O.cs (A2n ⟨g,z⟩ bW _) fun bX ef=>Wl z z<|Nt<|T.cH H z (fun H=>?_) fun H=>?_)
  ·refine Ks<|Sq<|Bl<|Sm z<|Mv z<|bE H fun eg b0 H=>Vv (V.A3P z z b0)<|bE H fun ei b2 H=>Vv (V.A1c z z b2)<|We z z<|Mv z<|T.bH 74 H z (fun H=>?_) fun H=>?_
   ·refine Mv z<|bE H fun ej b3 H=>Vv (V.A1c z z b3)<|Wg z z<|Kt z<|Nt<|T.cH H z (fun H=>?_) fun H=>?_
    ·refine Sr<|Vv (V.fa Y1 z)<|Vv (V.ldO (k:=4) E5 z (j:=0) z z)<|An z<|Rg<|Mv z<|Mv z<|To (O.b1 (E:=VI .i64) A9 K8 z z z z z fun ek ay=>bE H fun aO aP H=>To (O.apX A9 A9 K8 z z z (j:=3) z (Src.row (j:=0) z) (O3.of z) (A7.ones VI.plain ay) Z.u ay aP z fun aS em en=>have b4:A7 (VI .i64) bX (i ++ [[qi y]]) aO:=A7.ap Z.u ay aP; T.fl ?_))
     refine T.fs [1] ?_
     refine T.drop<|Vv (V.fa Y1 z)<|T.Q9 0 z fun b5 b6=>To (O.st (vs:=[aS]) (k:=4) E5 z z (j:=1) z b6 (by (simp only [BT,b5]) <;> rfl) ?_)
     refine T.fl ?_
     refine Ni<|Bn<|Th<|Rg<|Mv z<|bE H fun b7 b8 H=>Vv (V.H8 z z b8)<|An z<|T.fs [1,2,2] ?_
     exact T.ag (ax,aO,b7,aS,(i ++ [[qi y]])) ⟨(D8 H aj),b4⟩
    refine T.skip<|Bn<|Th<|Rg<|Mv z<|bE H fun b9 bh H=>Vv (V.H8 z z bh)<|An z<|T.ag (ax,x,b9,g,i) ⟨(D8 H aj),Z.u⟩
   refine S2<|Sk<|Kf z<|Nt<|Cf z<|T.skip<|Bn<|Th<|Rg<|Mv z<|bE H fun bl bv H=>Vv (V.H8 z z bv)<|An z<|T.ag (ax,x,bl,g,i) ⟨(D8 H aj),Z.u⟩
  refine T.exit<|Te<|Te<|have H:=D6 H aj; Be<|Th<|have H:=I7 H bS; Sr<|Vv (V.A4O (j:=0) (by exact J5) z z) ?_
  refine T.fs [2] ?_
  refine T.K5 fun eo ep bz=>have aU:=A7.slc bz Z.u; To (O.stF (vs:=[.string b,.int .u8 c,qi af,qi ai,g,qi a,qi d]) J5 z z (j:=1) z z (by (simp only [BT,F8.one aU]) <;> rfl) z ?_)
  refine T.freeze fun er es ca=>have cb:=Z0.of ca; Nr<|T.drop ?_
  cases H
  exact T.rl z (RVs.cons (RV.B2N z cb J5) RVs.nil) ⟨_,z,z,aU.u⟩
 refine Sr<|We z z<|An z<|T.cH H z (fun H=>?_) fun H=>?_
 ·refine Rg<|Mv z<|bE H fun et cc H=>Vv (V.A1c z z cc)<|bE H fun ak cd H=>Vv (V.H8 z z cd)<|Mv z<|bE H fun eu ce H=>Vv (V.B2U z z ce)<|bE H fun ew cf H=>Vv (V.A1c z z cf)<|bE H fun am cg H=>Vv (V.H8 z z cg)<|Vv (V.fa Y2 z)<|To (O.st (vs:=[qi ak]) (k:=2) D7 z z (j:=0) z z z<|Vv (V.fa A0K z)<|To (O.st (vs:=[qi am]) (k:=3) D7 z z (j:=0) z z z<|Ni<|Bn<|Th<|Sq<|Sq<|T.norm [1,4,5] z<|T.fl ?_))
  refine Rg<|An z ?_
  obtain ⟨ci,cj,ck⟩:=K4 H
  have H:=cj
  refine Bl<|T.R4 3 1<|have cm:A7 (VI .i64) W [] ([]:List Int):=A7.nil; T.fs [2,2] ?_
  refine T.lk [1,4,5] (FUEL,([]:List Int),(0:Int),(qs),[]) (fun ⟨N,A,B,m,n⟩=>([(7,qi B)],blk X (.cells [.string b,.int .u8 c,qi ak,qi am,m,qi a,qi d].toArray 139)::blk U (.cells [.string qe,.int .u8 0,qi 0,qi 0,qs,qi 0,qi 0].toArray 139)::F5 3 1 m n::L,fun hh=>iter (B3j a b c d ak am) N (A,B)=some ci∧A7 (VI .i64) hh n A)) ⟨H,cm⟩ ?_
  rintro ⟨N,A,B,m,n⟩ ex ey ⟨cn,aa⟩
  obtain ⟨aA,eA,rfl,H,an⟩:=G8 cn
  refine T.norm [7,1,4,5] z<|T.fl ?_
  refine Sq<|Sm z<|Vv (V.A4O (j:=0) (by exact J5) z z) ?_
  refine bE H fun eB co H=>To (O.cs (A2n ⟨m,z⟩ co _) fun cp eE=>Wl z z<|Nt<|T.cH H z (fun H=>?_) fun H=>?_)
  ·refine Ks<|Sq<|Bl<|Sm z<|Mv z<|bE H fun eG ct H=>Vv (V.A3P z z ct)<|bE H fun eI cu H=>Vv (V.A1c z z cu)<|We z z<|Mv z<|T.bH 74 H z (fun H=>?_) fun H=>?_
   ·refine Mv z<|bE H fun eJ cw H=>Vv (V.A1c z z cw)<|Wg z z<|Kt z<|Nt<|T.cH H z (fun H=>?_) fun H=>?_
    ·refine Sr<|Vv (V.fa Y1 z)<|Vv (V.ldO (k:=4) E5 z (j:=0) z z)<|An z<|Rg<|Mv z<|Mv z<|To (O.b1 (E:=VI .i64) A9 K8 z z z z z fun eK aB=>bE H fun aV aW H=>To (O.apX A9 A9 K8 z z z (j:=3) z (Src.row (j:=0) z) (O3.of z) (A7.ones VI.plain aB) aa.u aB aW z fun aX eM eN=>have cx:A7 (VI .i64) cp (n ++ [[qi B]]) aV:=A7.ap aa.u aB aW; T.fl ?_))
     refine T.fs [1] ?_
     refine T.drop<|Vv (V.fa Y1 z)<|T.Q9 0 z fun cy cA=>To (O.st (vs:=[aX]) (k:=4) E5 z z (j:=1) z cA (by (simp only [BT,cy]) <;> rfl) ?_)
     refine T.fl ?_
     refine Ni<|Bn<|Th<|Rg<|Mv z<|bE H fun cB cC H=>Vv (V.H8 z z cC)<|An z<|T.fs [1,2,2] ?_
     exact T.ag (aA,aV,cB,aX,(n ++ [[qi B]])) ⟨(D8 H an),cx⟩
    refine T.skip<|Bn<|Th<|Rg<|Mv z<|bE H fun cD cE H=>Vv (V.H8 z z cE)<|An z<|T.ag (aA,A,cD,m,n) ⟨(D8 H an),aa.u⟩
   refine S2<|Sk<|Kf z<|Nt<|Cf z<|T.skip<|Bn<|Th<|Rg<|Mv z<|bE H fun cG cI H=>Vv (V.H8 z z cI)<|An z<|T.ag (aA,A,cG,m,n) ⟨(D8 H an),aa.u⟩
  refine T.exit<|Te<|Te<|have H:=D6 H an; Be<|Th<|have H:=I7 H ck; Sr<|Vv (V.A4O (j:=0) (by exact J5) z z) ?_
  refine T.fs [2] ?_
  refine T.K5 fun eO eP cJ=>have aY:=A7.slc cJ aa.u; To (O.stF (vs:=[.string b,.int .u8 c,qi ak,qi am,m,qi a,qi d]) J5 z z (j:=1) z z (by (simp only [BT,F8.one aY]) <;> rfl) z ?_)
  refine T.freeze fun eS eU cK=>have cM:=Z0.of cK; Nr<|T.drop ?_
  cases H
  exact T.rl z (RVs.cons (RV.B2N z cM J5) RVs.nil) ⟨_,z,z,aY.u⟩
 refine Sr<|We z z<|An z<|T.cH H z (fun H=>?_) fun H=>?_
 ·refine Sm z<|bE H fun eV cN H=>Vv (V.A1c z z cN)<|bE H fun J cO H=>Vv (V.H8 z z cO)<|Vv (V.fa Y2 z)<|To (O.st (vs:=[qi J]) (k:=2) D7 z z (j:=0) z z z<|Nt<|T.norm [1,4,5,6] z<|T.fl ?_)
  refine Rg<|Vv (V.fa Y2 z)<|Vv (V.ldO (k:=2) D7 z (j:=0) z z)<|Mv z<|bE H fun eW cP H=>Vv (V.B2U z z cP)<|bE H fun ao cS H=>Vv (V.A1c z z cS)<|Vv (V.min2 z z)<|Vv (V.fa A0K z)<|To (O.st (vs:=[qi (min J ao)]) (k:=3) D7 z z (j:=0) z z z<|Ni<|Bn<|Th<|Sq<|Sr<|An z ?_)
  obtain ⟨cU,cV,cW⟩:=K4 H
  have H:=cV
  refine Bl<|T.R4 3 1<|have cX:A7 (VI .i64) W [] ([]:List Int):=A7.nil; T.fs [2,2] ?_
  refine T.lk [1,4,5] (FUEL,([]:List Int),(0:Int),(qs),[]) (fun ⟨P,C,D,o,p⟩=>([(7,qi D)],blk X (.cells [.string b,.int .u8 c,qi J,qi (min J ao),o,qi a,qi d].toArray 139)::blk U (.cells [.string qe,.int .u8 0,qi 0,qi 0,qs,qi 0,qi 0].toArray 139)::F5 3 1 o p::L,fun hh=>iter (B3v a b c d J ao) P (C,D)=some cU∧A7 (VI .i64) hh p C)) ⟨H,cX⟩ ?_
  rintro ⟨P,C,D,o,p⟩ eX eY ⟨cY,ab⟩
  obtain ⟨aC,eZ,rfl,H,aq⟩:=G8 cY
  refine T.norm [7,1,4,5] z<|T.fl ?_
  refine Sq<|Sm z<|Vv (V.A4O (j:=0) (by exact J5) z z) ?_
  refine bE H fun e0 cZ H=>To (O.cs (A2n ⟨o,z⟩ cZ _) fun c0 e3=>Wl z z<|Nt<|T.cH H z (fun H=>?_) fun H=>?_)
  ·refine Ks<|Sq<|Bl<|Sm z<|Mv z<|bE H fun e4 c3 H=>Vv (V.A3P z z c3)<|bE H fun e5 c4 H=>Vv (V.A1c z z c4)<|We z z<|Mv z<|T.bH 74 H z (fun H=>?_) fun H=>?_
   ·refine Mv z<|bE H fun e6 c5 H=>Vv (V.A1c z z c5)<|Wg z z<|Kt z<|Nt<|T.cH H z (fun H=>?_) fun H=>?_
    ·refine Sr<|Vv (V.fa Y1 z)<|Vv (V.ldO (k:=4) E5 z (j:=0) z z)<|An z<|Rg<|Mv z<|Mv z<|To (O.b1 (E:=VI .i64) A9 K8 z z z z z fun e7 aD=>bE H fun aZ a0 H=>To (O.apX A9 A9 K8 z z z (j:=3) z (Src.row (j:=0) z) (O3.of z) (A7.ones VI.plain aD) ab.u aD a0 z fun a1 e8 e9=>have c6:A7 (VI .i64) c0 (p ++ [[qi D]]) aZ:=A7.ap ab.u aD a0; T.fl ?_))
     refine T.fs [1] ?_
     refine T.drop<|Vv (V.fa Y1 z)<|T.Q9 0 z fun c7 c8=>To (O.st (vs:=[a1]) (k:=4) E5 z z (j:=1) z c8 (by (simp only [BT,c7]) <;> rfl) ?_)
     refine T.fl ?_
     refine Ni<|Bn<|Th<|Rg<|Mv z<|bE H fun c9 ch H=>Vv (V.H8 z z ch)<|An z<|T.fs [1,2,2] ?_
     exact T.ag (aC,aZ,c9,a1,(p ++ [[qi D]])) ⟨(D8 H aq),c6⟩
    refine T.skip<|Bn<|Th<|Rg<|Mv z<|bE H fun cl cv H=>Vv (V.H8 z z cv)<|An z<|T.ag (aC,C,cl,o,p) ⟨(D8 H aq),ab.u⟩
   refine S2<|Sk<|Kf z<|Nt<|Cf z<|T.skip<|Bn<|Th<|Rg<|Mv z<|bE H fun cz da H=>Vv (V.H8 z z da)<|An z<|T.ag (aC,C,cz,o,p) ⟨(D8 H aq),ab.u⟩
  refine T.exit<|Te<|Te<|have H:=D6 H aq; Be<|Th<|have H:=I7 H cW; Sr<|Vv (V.A4O (j:=0) (by exact J5) z z) ?_
  refine T.fs [2] ?_
  refine T.K5 fun eh el db=>have a2:=A7.slc db ab.u; To (O.stF (vs:=[.string b,.int .u8 c,qi J,qi (min J ao),o,qi a,qi d]) J5 z z (j:=1) z z (by (simp only [BT,F8.one a2]) <;> rfl) z ?_)
  refine T.freeze fun ev ez dc=>have dd:=Z0.of dc; Nr<|T.drop ?_
  cases H
  exact T.rl z (RVs.cons (RV.B2N z dd J5) RVs.nil) ⟨_,z,z,a2.u⟩
 refine T.skip<|Bn<|Th<|Sq<|Sr<|An z ?_
 obtain ⟨de,df,dg⟩:=K4 H
 have H:=df
 refine Bl<|T.R4 3 1<|have di:A7 (VI .i64) W [] ([]:List Int):=A7.nil; T.fs [2,2] ?_
 refine T.lk [1,4,5] (FUEL,([]:List Int),(0:Int),(qs),[]) (fun ⟨S,G,I,q,r⟩=>([(7,qi I)],blk X (.cells [.string b,.int .u8 c,qi 0,qi 0,q,qi a,qi d].toArray 139)::blk U (.cells [.string qe,.int .u8 0,qi 0,qi 0,qs,qi 0,qi 0].toArray 139)::F5 3 1 q r::L,fun hh=>iter (B3K a b c d) S (G,I)=some de∧A7 (VI .i64) hh r G)) ⟨H,di⟩ ?_
 rintro ⟨S,G,I,q,r⟩ fb fc ⟨dj,ac⟩
 obtain ⟨aE,fd,rfl,H,ar⟩:=G8 dj
 refine T.norm [7,1,4,5] z<|T.fl ?_
 refine Sq<|Sm z<|Vv (V.A4O (j:=0) (by exact J5) z z) ?_
 refine bE H fun fe dk H=>To (O.cs (A2n ⟨q,z⟩ dk _) fun dm fi=>Wl z z<|Nt<|T.cH H z (fun H=>?_) fun H=>?_)
 ·refine Ks<|Sq<|Bl<|Sm z<|Mv z<|bE H fun fj dq H=>Vv (V.A3P z z dq)<|bE H fun fk dr H=>Vv (V.A1c z z dr)<|We z z<|Mv z<|T.bH 74 H z (fun H=>?_) fun H=>?_
  ·refine Mv z<|bE H fun fm ds H=>Vv (V.A1c z z ds)<|Wg z z<|Kt z<|Nt<|T.cH H z (fun H=>?_) fun H=>?_
   ·refine Sr<|Vv (V.fa Y1 z)<|Vv (V.ldO (k:=4) E5 z (j:=0) z z)<|An z<|Rg<|Mv z<|Mv z<|To (O.b1 (E:=VI .i64) A9 K8 z z z z z fun fn aG=>bE H fun a3 a4 H=>To (O.apX A9 A9 K8 z z z (j:=3) z (Src.row (j:=0) z) (O3.of z) (A7.ones VI.plain aG) ac.u aG a4 z fun a5 fo fp=>have dt:A7 (VI .i64) dm (r ++ [[qi I]]) a3:=A7.ap ac.u aG a4; T.fl ?_))
    refine T.fs [1] ?_
    refine T.drop<|Vv (V.fa Y1 z)<|T.Q9 0 z fun du dw=>To (O.st (vs:=[a5]) (k:=4) E5 z z (j:=1) z dw (by (simp only [BT,du]) <;> rfl) ?_)
    refine T.fl ?_
    refine Ni<|Bn<|Th<|Rg<|Mv z<|bE H fun dx dy H=>Vv (V.H8 z z dy)<|An z<|T.fs [1,2,2] ?_
    exact T.ag (aE,a3,dx,a5,(r ++ [[qi I]])) ⟨(D8 H ar),dt⟩
   refine T.skip<|Bn<|Th<|Rg<|Mv z<|bE H fun dA dB H=>Vv (V.H8 z z dB)<|An z<|T.ag (aE,G,dA,q,r) ⟨(D8 H ar),ac.u⟩
  refine S2<|Sk<|Kf z<|Nt<|Cf z<|T.skip<|Bn<|Th<|Rg<|Mv z<|bE H fun dC dD H=>Vv (V.H8 z z dD)<|An z<|T.ag (aE,G,dC,q,r) ⟨(D8 H ar),ac.u⟩
 refine T.exit<|Te<|Te<|have H:=D6 H ar; Be<|Th<|have H:=I7 H dg; Sr<|Vv (V.A4O (j:=0) (by exact J5) z z) ?_
 refine T.fs [2] ?_
 refine T.K5 fun fq fr dE=>have a6:=A7.slc dE ac.u; To (O.stF (vs:=[.string b,.int .u8 c,qi 0,qi 0,q,qi a,qi d]) J5 z z (j:=1) z z (by (simp only [BT,F8.one a6]) <;> rfl) z ?_)
 refine T.freeze fun fs ft dG=>have dI:=Z0.of dG; Nr<|T.drop ?_
 cases H
 exact T.rl z (RVs.cons (RV.B2N z dI J5) RVs.nil) ⟨_,z,z,a6.u⟩
theorem B2S {h I D J m K} (ak:B9p h I D) (H:B0t D J=some (m,K)):∀ L,FnW prog 68 [.agg I.toArray,.int .i64 J] h L (.tuple #[.agg #[.int .u8 m.H6,.int .i64 m.J3,.string m.fA,.string m.fB,.string m.J2,.int .i64 m.fN],.bool K]):=by
 intro L
 obtain ⟨bO,bP,bS,bU,bV,rfl,d,e,bW,bX⟩:=ak
 refine J6.enter func68 z z z<|Sr<|To (O.U5 z z z fun bY bZ b0 c=>To (O.alloc A1R z z fun f=>An z<|Sm z<|bE H fun b1 am H=>Vv (V.A1c z z am)<|bE H fun b2 an H=>Vv (V.H8 z z an)<|bE H fun a ao H=>Vv (V.A5c underlying3 underlying41 z ao)<|Vv (V.bld (xs:=[(0,.tmp 16)]) (cs:=[_,_,_,_,_,_]) C0c B9t z (F4.cons z z z F4.nil))<|To (O.alloc A1R z z fun i=>To (O.stF (vs:=[.int .u8 a,qi 0,.string qe,.string qe,.string qe,qi 0]) K3 z z (j:=0) z z z z<|Nt<|Sm z<|bE H fun b3 ap H=>Vv (V.B2U z z ap)<|An z<|Sq<|Sm z<|bE H fun b4 aq H=>Vv (V.A1c z z aq)<|Wg z z<|Nt ?_))))
 obtain ⟨ar,au,aw⟩:=K4 H
 refine T.ck (α:=Int) [1,2,4,6] (fun b=>([],blk i (.cells [.int .u8 a,qi b,.string qe,.string qe,.string qe,qi 0].toArray 43)::blk f (.cells [.int .u8 0,qi 0,.string qe,.string qe,.string qe,qi 0].toArray 43)::L,fun hh=>ar=b)) ?_ ?_
 ·have H:=au
  refine T.cH H z (fun H=>?_) fun H=>?_
  ·refine Rg<|Mv z<|bE H fun b5 ax H=>Vv (V.A1c z z ax)<|bE H fun M ay H=>Vv (V.H8 z z ay)<|Vv (V.fa A4d z)<|To (O.st (vs:=[qi M]) (k:=1) D7 z z (j:=0) z z z<|Nt<|T.mt M (M7 H))
  refine Ks<|T.mt (0:Int) (M7 H)
 rintro b b6 b7 aA
 have H:=I7 aA aw
 refine T.norm [1,2,4,6] z<|T.fl ?_
 refine Sm z<|bE H fun b8 aB H=>Vv (V.B2U z z aB)<|An z<|Sq<|T.N8 (t:=(.vs [0,1,2,3,4,5] (.alt 6 (.alt 7 .done .no) .no))) 9 0 0 z z I5 (by kernel_rfl) ?_
 refine Tv z (V.fa U4 z)<|Tv z (V.M5 (k:=1) O0 z c.u z)<|Tv z (V.Q3 O9 z e)<|Tv z (V.fa N7 z)<|Tv z (V.M5 (k:=0) Q0 z c.u z)<|Tv z (V.Q3 O6 z d)<|Ts z z (X2 z z) (V.asg z) z ?_ T.P5
 refine Ts z z (X2 z z) (V.asg z) z ?_ T.P5
 refine T.O7 (X2 z z)<|Th<|Sq<|Sq ?_
 obtain ⟨aC,aD,aE⟩:=K4 H
 refine T.ck (α:=Bool) [1,2,4,6,7,8] (fun r=>([(40,.bool r)],blk i (.cells [.int .u8 a,qi b,.string qe,.string qe,.string qe,qi 0].toArray 43)::blk f (.cells [.int .u8 0,qi 0,.string qe,.string qe,.string qe,qi 0].toArray 43)::L,fun hh=>aC=r)) ?_ ?_
 ·have H:=aD
  refine Rg<|Mv z<|We z z<|Mv z<|T.bH 37 H z (fun H=>?_) fun H=>?_
  ·refine S2<|Kt z<|Nt<|T.mt true (M7 H)
  refine Mv z<|We z z<|Kf z<|Nt<|T.mt (decide ((D.C8.length:Int)=(0:Int))) (M7 H)
 rintro r b9 bh aG
 have H:=I7 aG aE
 refine T.norm [40,1,2,4,6,7,8] z<|T.fl ?_
 refine T.cH H z (fun H=>?_) fun H=>?_
 ·refine Sr<|Vv (V.A4O (j:=0) (by exact K3) z z) ?_
  refine To (O.stF (vs:=[.int .u8 a,qi b,.string qe,.string qe,.string qe,qi 0]) K3 z z (j:=1) z z z z<|Ag z<|Nr<|Tr<|Fr_ 1 z<|T.drop ?_)
  cases H
  exact T.A9b (L':=L) results68 (RVs.cons (RV.cellS z (j:=0) z K3) (Rv z)) Li (fun _ iv=>iv.drop) ⟨z,z⟩
 refine Ks<|Sq<|T.N8 (t:=(.vs [0,1,2,3,4,5,6,7,8,9,10,11] (.alt 12 (.alt 13 (.alt 14 .done .no) .no) .no))) 16 0 0 z z I5 (by kernel_rfl) ?_
 refine Tm z z<|Tm z z<|bE H fun bl aI H=>Tv z (V.A1c z z aI)<|Tm z z<|Tm z z<|bE H fun bv aJ H=>Tv z (V.B2U z z aJ)<|Tm z z<|bE H fun bz aK H=>Tv z (V.A1c z z aK)<|Tm z z<|bE H fun ca aM H=>Tv z (V.B2U z z aM)<|Tm z z<|bE H fun cb aN H=>Tv z (V.A1c z z aN)<|Ts z z (X2 z z) (V.asg z) z ?_ T.P5
 refine Ts z z (X2 z z) (V.asg z) z ?_ T.P5
 refine Ts z z (X2 z z) (V.asg z) z ?_ T.P5
 refine T.O7 (X2 z z)<|Th<|Sm z<|bE H fun cc aO H=>Vv (V.B2U z z aO)<|bE H fun s aP H=>Vv (V.A1c z z aP)<|An z<|Sq<|Sr<|Vv (V.fa A2w z)<|Vv (V.ldO (k:=0) A5d z (j:=0) z z)<|Nt<|Bl<|Sq<|Sr<|We z z<|An z ?_
 obtain ⟨aS,aU,aV⟩:=K4 H
 refine T.ck (α:=Bool) [1,2,4,6,9,10,11,12,58] (fun w=>([(59,.bool w)],blk i (.cells [.int .u8 a,qi b,.string qe,.string qe,.string qe,qi 0].toArray 43)::blk f (.cells [.int .u8 0,qi 0,.string qe,.string qe,.string qe,qi 0].toArray 43)::L,fun hh=>aS=w)) ?_ ?_
 ·have H:=aU
  refine T.cH H z (fun H=>?_) fun H=>?_
  ·refine Ks<|T.mt (decide (a=(1:Int))) (M7 H)
  refine Sr<|We z z<|An z<|T.cH H z (fun H=>?_) fun H=>?_
  ·refine Ks<|T.mt (decide (a=(2:Int))) (M7 H)
  refine Sr<|We z z<|An z<|T.cH H z (fun H=>?_) fun H=>?_
  ·refine Ks<|T.mt (decide (a=(3:Int))) (M7 H)
  refine Sr<|We z z<|An z<|T.cH H z (fun H=>?_) fun H=>?_
  ·refine Ks<|T.mt (decide (a=(4:Int))) (M7 H)
  refine Rg<|We z z<|An z<|T.mt (decide (a=(5:Int))) (M7 H)
 rintro w cd ce aW
 have H:=I7 aW aV
 refine T.norm [59,1,2,4,6,9,10,11,12,58] z<|T.fl ?_
 refine T.cH H z (fun H=>?_) fun H=>?_
 ·refine Sq<|T.N8 (t:=(.vs [0,1,2,3,4,5,6,7,8,9,10,11,12] (.alt 13 (.g (.v 14 (.alt 15 .done .no))) .no))) 13 1 0 z z I5 (by kernel_rfl) ?_
  refine Tv z (V.fa U4 z)<|Tv z (V.M5 (k:=1) O0 z c.u z)<|Tm z z<|bE H fun x N H=>?_
  obtain ⟨cf,aX,⟨cg,rfl,ci⟩⟩:=F8.at e N
  refine Tv z (V.ix O9 z z e (E9 N))<|Tv z (V.fa A0k z)<|Tv z (V.M5 (k:=0) J7 z aX.u z)<|Tv z (V.fa U4 z)<|Tv z (V.M5 (k:=1) O0 z c.u z)<|Tm z z<|bE H fun y P H=>?_
  obtain ⟨cj,aY,⟨ck,rfl,cm⟩⟩:=F8.at e P
  refine Tv z (V.ix O9 z z e (E9 P))<|Tv z (V.fa A0k z)<|Tv z (V.M5 (k:=0) J7 z aY.u z)<|Tv z (V.fa Z9 z)<|Tp z z (X3 [] [0] z z) (O.st (vs:=[.string x.F7]) (k:=2) J7 z z (j:=0) z z z ?_) T.P5
  refine T.O1 Lr<|Tv z (V.fa A3U z)<|Tp z z (SX.one (XA.fr [] Lr z) z) (O.st (vs:=[.string y.F7]) (k:=3) J7 z z (j:=0) z z z ?_) T.P5
  refine T.O7 (SX.one (XA.fr [] Lr z) z)<|Th<|Sq<|Sq ?_
  obtain ⟨aZ,a0,a1⟩:=K4 H
  refine T.ck (α:=Bool) [4,6,9,10,12] (fun A=>([(86,.bool A)],blk i (.cells [.int .u8 a,qi b,.string x.F7,.string y.F7,.string qe,qi 0].toArray 43)::blk f (.cells [.int .u8 0,qi 0,.string qe,.string qe,.string qe,qi 0].toArray 43)::L,fun hh=>aZ=A)) ?_ ?_
  ·have H:=a0
   refine Rg<|Vv (V.fa A2w z)<|Vv (V.ldO (k:=0) A5d z (j:=0) z z)<|We z z<|Mv z<|T.bH 82 H z (fun H=>?_) fun H=>?_
   ·refine S2<|Sk<|Kt z<|Nt<|T.mt true (M7 H)
   refine Vv (V.fa A2w z)<|Vv (V.ldO (k:=0) A5d z (j:=0) z z)<|We z z<|Kf z<|Nt<|T.mt (decide (a=(4:Int))) (M7 H)
  rintro A cn co a2
  have H:=I7 a2 a1
  refine T.norm [86,4,6,9,10,12] z<|T.fl ?_
  obtain ⟨a3,a4,a5⟩:=K4 H
  refine T.ck (α:=Int) [4,6,9,10] (fun n=>([],blk i (.cells [.int .u8 a,qi b,.string x.F7,.string y.F7,.string qe,qi n].toArray 43)::blk f (.cells [.int .u8 0,qi 0,.string qe,.string qe,.string qe,qi 0].toArray 43)::L,fun hh=>a3=n)) ?_ ?_
  ·have H:=a4
   refine T.cH H z (fun H=>?_) fun H=>?_
   ·refine Rg<|Mv z<|Vv (V.fa U3 z)<|To (O.st (vs:=[qi s]) (k:=5) D7 z z (j:=0) z z z<|Nt<|T.mt s (M7 H))
   refine Ks<|T.mt (0:Int) (M7 H)
  rintro n cp cq a6
  have H:=I7 a6 a5
  refine T.norm [4,6,9,10] z<|T.fl ?_
  refine Sq<|Sr<|Vv (V.fa A2w z)<|Vv (V.ldO (k:=0) A5d z (j:=0) z z)<|We z z<|Nt ?_
  obtain ⟨a7,a8,a9⟩:=K4 H
  refine T.ck (α:=Int) [4,6,9,10] (fun o=>([],blk i (.cells [.int .u8 a,qi b,.string x.F7,.string y.F7,.string qe,qi o].toArray 43)::blk f (.cells [.int .u8 0,qi 0,.string qe,.string qe,.string qe,qi 0].toArray 43)::L,fun hh=>a7=o)) ?_ ?_
  ·have H:=a8
   refine T.cH H z (fun H=>?_) fun H=>?_
   ·refine Rg<|Vv (V.fa U3 z)<|Vv (V.ldO (k:=5) D7 z (j:=0) z z)<|bE H fun S ah H=>Vv (V.H8 z z ah)<|Vv (V.fa U3 z)<|To (O.st (vs:=[qi S]) (k:=5) D7 z z (j:=0) z z z<|Nt<|T.mt S (M7 H))
   refine Ks<|T.mt n (M7 H)
  rintro o cr ct al
  have H:=I7 al a9
  refine T.norm [4,6,9,10] z<|T.fl ?_
  refine Sr<|Vv (V.A4O (j:=0) (by exact K3) z z) ?_
  refine Mv z<|Mv z<|Wn z z<|To (O.stF (vs:=[.int .u8 a,qi b,.string x.F7,.string y.F7,.string qe,qi o]) K3 z z (j:=1) z z z z<|Ag z<|Nr<|Br<|Tr<|Fr_ 1 z<|T.drop ?_)
  cases H
  exact T.A9b (L':=L) results68 (RVs.cons (RV.cellS z (j:=0) z K3) (Rv z)) Li (fun _ iv=>iv.drop) ⟨z,z⟩
 refine Sq<|Sr<|We z z<|An z ?_
 obtain ⟨av,az,ba⟩:=K4 H
 refine T.ck (α:=Bool) [1,2,4,6,9,11,12,58] (fun B=>([(100,.bool B)],blk i (.cells [.int .u8 a,qi b,.string qe,.string qe,.string qe,qi 0].toArray 43)::blk f (.cells [.int .u8 0,qi 0,.string qe,.string qe,.string qe,qi 0].toArray 43)::L,fun hh=>av=B)) ?_ ?_
 ·have H:=az
  refine T.cH H z (fun H=>?_) fun H=>?_
  ·refine Ks<|T.mt (decide (a=(6:Int))) (M7 H)
  refine Rg<|We z z<|An z<|T.mt (decide (a=(7:Int))) (M7 H)
 rintro B cu cw bb
 have H:=I7 bb ba
 refine T.norm [100,1,2,4,6,9,11,12,58] z<|T.fl ?_
 refine T.cH H z (fun H=>?_) fun H=>?_
 ·refine Sq<|T.N8 (t:=(.vs [0,1,2,3,4,5,6,7,8,9,10,11,12] (.alt 13 (.g (.v 14 (.alt 15 .done .no))) .no))) 13 1 0 z z I5 (by kernel_rfl) ?_
  refine Tv z (V.fa U4 z)<|Tv z (V.M5 (k:=1) O0 z c.u z)<|Tm z z<|bE H fun E U H=>?_
  obtain ⟨cx,bc,⟨cy,rfl,cA⟩⟩:=F8.at e U
  refine Tv z (V.ix O9 z z e (E9 U))<|Tv z (V.fa A0k z)<|Tv z (V.M5 (k:=0) J7 z bc.u z)<|Tv z (V.fa N7 z)<|Tv z (V.M5 (k:=0) Q0 z c.u z)<|Tm z z<|bE H fun G W H=>?_
  obtain ⟨cB,bd,⟨cC,rfl,cD⟩⟩:=F8.at d W
  refine Tv z (V.ix O6 z z d (E9 W))<|Tv z (V.fa A0j z)<|Tv z (V.M5 (k:=0) J7 z bd.u z)<|Tv z (V.fa Z9 z)<|Tp z z (X3 [] [0] z z) (O.st (vs:=[.string E.F7]) (k:=2) J7 z z (j:=0) z z z ?_) T.P5
  refine T.O1 Lr<|Tv z (V.fa V7 z)<|Tp z z (SX.one (XA.fr [] Lr z) z) (O.st (vs:=[.string G.F7]) (k:=4) J7 z z (j:=0) z z z ?_) T.P5
  refine T.O7 (SX.one (XA.fr [] Lr z) z)<|Th<|Sq<|Sr<|Vv (V.fa A2w z)<|Vv (V.ldO (k:=0) A5d z (j:=0) z z)<|We z z<|Nt ?_
  obtain ⟨be,bf,bg⟩:=K4 H
  refine T.ck (α:=Int) [4,6] (fun p=>([],blk i (.cells [.int .u8 a,qi b,.string E.F7,.string qe,.string G.F7,qi p].toArray 43)::blk f (.cells [.int .u8 0,qi 0,.string qe,.string qe,.string qe,qi 0].toArray 43)::L,fun hh=>be=p)) ?_ ?_
  ·have H:=bf
   refine T.cH H z (fun H=>?_) fun H=>?_
   ·refine Rg<|Mv z<|bE H fun cE bi H=>Vv (V.B2U z z bi)<|Vv (V.fa N7 z)<|Vv (V.M5 (k:=0) Q0 z c.u z)<|Mv z<|bE H fun cG X H=>?_
    obtain ⟨cI,bj,⟨bk,rfl,cJ⟩⟩:=F8.at d X
    refine Vv (V.ix O6 z z d (E9 X))<|Vv (V.ldS z bj.u (by exact J5)) ?_
    refine bE H fun cK bm H=>To (O.G9 z (A2n ⟨bk,z⟩ bm _) z fun cM cN cO cP bn=>?_)
    obtain ⟨rfl,bo⟩:=bn
    refine P7 _ bo<|bE H fun Y bp H=>Vv (V.A1c z z bp)<|Vv (V.fa U3 z)<|To (O.st (vs:=[qi Y]) (k:=5) D7 z z (j:=0) z z z<|Nt<|T.mt Y (M7 H))
   refine Ks<|T.mt (0:Int) (M7 H)
  rintro p cS cU bq
  have H:=I7 bq bg
  refine T.norm [4,6] z<|T.fl ?_
  refine Sr<|Vv (V.A4O (j:=0) (by exact K3) z z) ?_
  refine To (O.stF (vs:=[.int .u8 a,qi b,.string E.F7,.string qe,.string G.F7,qi p]) K3 z z (j:=1) z z z z<|Ag z<|Nr<|Br<|Tr<|Fr_ 1 z<|T.drop ?_)
  cases H
  exact T.A9b (L':=L) results68 (RVs.cons (RV.cellS z (j:=0) z K3) (Rv z)) Li (fun _ iv=>iv.drop) ⟨z,z⟩
 refine Sr<|We z z<|An z<|T.cH H z (fun H=>?_) fun H=>?_
 ·refine Sq<|Sm z<|bE H fun cV br H=>Vv (V.A1c z z br)<|We z z<|Nt ?_
  obtain ⟨bs,bt,bu⟩:=K4 H
  refine T.ck (α:=ByteArray) [4,6] (fun q=>([],blk i (.cells [.int .u8 a,qi b,.string q,.string qe,.string qe,qi 0].toArray 43)::blk f (.cells [.int .u8 0,qi 0,.string qe,.string qe,.string qe,qi 0].toArray 43)::L,fun hh=>bs=q)) ?_ ?_
  ·have H:=bt
   refine T.cH H z (fun H=>?_) fun H=>?_
   ·refine Rg<|Vv (V.fa U4 z)<|Vv (V.M5 (k:=1) O0 z c.u z)<|Mv z<|bE H fun Z aa H=>?_
    obtain ⟨cW,bw,⟨cX,rfl,cY⟩⟩:=F8.at e aa
    refine Vv (V.ix O9 z z e (E9 aa))<|Vv (V.fa A0k z)<|Vv (V.M5 (k:=0) J7 z bw.u z)<|Vv (V.fa Z9 z)<|To (O.st (vs:=[.string Z.F7]) (k:=2) J7 z z (j:=0) z z z<|Nt<|T.mt Z.F7 (M7 H))
   refine Ks<|T.mt qe (M7 H)
  rintro q cZ c0 bx
  have H:=I7 bx bu
  refine T.norm [4,6] z<|T.fl ?_
  refine Sr<|Vv (V.A4O (j:=0) (by exact K3) z z) ?_
  refine To (O.stF (vs:=[.int .u8 a,qi b,.string q,.string qe,.string qe,qi 0]) K3 z z (j:=1) z z z z<|Ag z<|Nr<|Br<|Tr<|Fr_ 1 z<|T.drop ?_)
  cases H
  exact T.A9b (L':=L) results68 (RVs.cons (RV.cellS z (j:=0) z K3) (Rv z)) Li (fun _ iv=>iv.drop) ⟨z,z⟩
 refine Sr<|We z z<|An z<|T.cH H z (fun H=>?_) fun H=>?_
 ·refine Sq<|T.N8 (t:=(.vs [0,1,2,3,4,5,6,7,8,9,10,11,12] (.alt 13 (.g (.v 14 (.alt 15 .done .no))) .no))) 13 1 0 z z I5 (by kernel_rfl) ?_
  refine Tv z (V.fa U4 z)<|Tv z (V.M5 (k:=1) O0 z c.u z)<|Tm z z<|bE H fun ab ac H=>?_
  obtain ⟨c1,bA,⟨c2,rfl,c3⟩⟩:=F8.at e ac
  refine Tv z (V.ix O9 z z e (E9 ac))<|Tv z (V.fa B0K z)<|Tv z (V.M5 (k:=5) J7 z bA.u z)<|Tv z (V.fa N7 z)<|Tv z (V.M5 (k:=0) Q0 z c.u z)<|Tm z z<|bE H fun ad ae H=>?_
  obtain ⟨c4,bB,⟨c5,rfl,c6⟩⟩:=F8.at d ae
  refine Tv z (V.ix O6 z z d (E9 ae))<|Tv z (V.fa A0j z)<|Tv z (V.M5 (k:=0) J7 z bB.u z)<|Tv z (V.fa Z9 z)<|Tp z z (X3 [] [0] z z) (O.st (vs:=[.string ab.A0t]) (k:=2) J7 z z (j:=0) z z z ?_) T.P5
  refine T.O1 Lr<|Tv z (V.fa V7 z)<|Tp z z (SX.one (XA.fr [] Lr z) z) (O.st (vs:=[.string ad.F7]) (k:=4) J7 z z (j:=0) z z z ?_) T.P5
  refine T.O7 (SX.one (XA.fr [] Lr z) z)<|Th<|Sq<|T.N8 (t:=(.vs [0,1,2,3] (.alt 4 (.alt 5 .done .no) .no))) 4 2 1 z z I5 (by kernel_rfl) ?_
  refine Tv z (Val.XA fun _ _ _=>V.A4O (j:=0) (by exact K3) z z) ?_
  refine Tv z (V.fa Z9 z)<|Tv z (Val.XA fun _ _ _=>V.ldO (k:=2) J7 z (j:=0) z z)<|Tv z (V.sne z z)<|Tp z z (X3 [0] [1,1] z z) (O.stF (vs:=[.int .u8 a,qi b,.string ab.A0t,.string qe,.string ad.F7,qi 0]) K3 z z (j:=1) z z z z ?_) T.P5
  refine Ts z z (SX.one (XA.fr [1] Lr z) z) (V.asg z) z ?_ T.P5
  refine T.O7 (SX.one (XA.fr [1] Lr z) z)<|Th<|T.ret<|Br<|Tr<|Fr_ 1 z<|T.drop ?_
  cases H
  exact T.A9b (L':=L) results68 (RVs.cons (RV.cellS z (j:=0) z K3) (Rv z)) Li (fun _ iv=>iv.drop) ⟨z,z⟩
 refine Sq<|Sr<|We z z<|An z ?_
 obtain ⟨bC,bD,bG⟩:=K4 H
 refine T.ck (α:=Bool) [1,2,4,6,11,12] (fun C=>([(164,.bool C)],blk i (.cells [.int .u8 a,qi b,.string qe,.string qe,.string qe,qi 0].toArray 43)::blk f (.cells [.int .u8 0,qi 0,.string qe,.string qe,.string qe,qi 0].toArray 43)::L,fun hh=>bC=C)) ?_ ?_
 ·have H:=bD
  refine T.cH H z (fun H=>?_) fun H=>?_
  ·refine Ks<|T.mt (decide (a=(15:Int))) (M7 H)
  refine Rg<|We z z<|An z<|T.mt (decide (a=(16:Int))) (M7 H)
 rintro C c7 c8 bI
 have H:=I7 bI bG
 refine T.norm [164,1,2,4,6,11,12] z<|T.fl ?_
 refine T.cH H z (fun H=>?_) fun H=>?_
 ·refine Rg<|Mv z<|Vv (V.fa U3 z)<|To (O.st (vs:=[qi s]) (k:=5) D7 z z (j:=0) z z z<|Ni<|Bn<|Th<|Sq<|Sm z<|bE H fun c9 bJ H=>Vv (V.A1c z z bJ)<|Wg z z<|Nt<|T.cH H z (fun H=>?_) fun H=>?_)
  ·refine Rg<|Vv (V.fa N7 z)<|Vv (V.M5 (k:=0) Q0 z c.u z)<|Mv z<|bE H fun af ag H=>?_
   obtain ⟨ch,bK,⟨cl,rfl,cv⟩⟩:=F8.at d ag
   refine Vv (V.ix O6 z z d (E9 ag))<|Vv (V.fa A0j z)<|Vv (V.M5 (k:=0) J7 z bK.u z)<|Vv (V.fa V7 z)<|To (O.st (vs:=[.string af.F7]) (k:=4) J7 z z (j:=0) z z z<|Nt<|Sr<|Vv (V.A4O (j:=0) (by exact K3) z z) ?_)
   refine To (O.stF (vs:=[.int .u8 a,qi b,.string qe,.string qe,.string af.F7,qi s]) K3 z z (j:=1) z z z z<|Ag z<|Nr<|Fr_ 1 z<|T.drop ?_)
   cases H
   exact T.A9b (L':=L) results68 (RVs.cons (RV.cellS z (j:=0) z K3) (Rv z)) Li (fun _ iv=>iv.drop) ⟨z,z⟩
  refine Ks<|Sr<|Vv (V.A4O (j:=0) (by exact K3) z z) ?_
  refine To (O.stF (vs:=[.int .u8 a,qi b,.string qe,.string qe,.string qe,qi s]) K3 z z (j:=1) z z z z<|Ag z<|Nr<|Fr_ 1 z<|T.drop ?_)
  cases H
  exact T.A9b (L':=L) results68 (RVs.cons (RV.cellS z (j:=0) z K3) (Rv z)) Li (fun _ iv=>iv.drop) ⟨z,z⟩
 refine T.skip<|Bn<|Th<|Sq<|Sm z<|bE H fun cz bM H=>Vv (V.A1c z z bM)<|Wg z z<|Nt<|T.cH H z (fun H=>?_) fun H=>?_
 ·refine Rg<|Vv (V.fa N7 z)<|Vv (V.M5 (k:=0) Q0 z c.u z)<|Mv z<|bE H fun ai aj H=>?_
  obtain ⟨da,bN,⟨db,rfl,dc⟩⟩:=F8.at d aj
  refine Vv (V.ix O6 z z d (E9 aj))<|Vv (V.fa A0j z)<|Vv (V.M5 (k:=0) J7 z bN.u z)<|Vv (V.fa V7 z)<|To (O.st (vs:=[.string ai.F7]) (k:=4) J7 z z (j:=0) z z z<|Nt<|Sr<|Vv (V.A4O (j:=0) (by exact K3) z z) ?_)
  refine To (O.stF (vs:=[.int .u8 a,qi b,.string qe,.string qe,.string ai.F7,qi 0]) K3 z z (j:=1) z z z z<|Ag z<|Nr<|Fr_ 1 z<|T.drop ?_)
  cases H
  exact T.A9b (L':=L) results68 (RVs.cons (RV.cellS z (j:=0) z K3) (Rv z)) Li (fun _ iv=>iv.drop) ⟨z,z⟩
 refine Ks<|Sr<|Vv (V.A4O (j:=0) (by exact K3) z z) ?_
 refine To (O.stF (vs:=[.int .u8 a,qi b,.string qe,.string qe,.string qe,qi 0]) K3 z z (j:=1) z z z z<|Ag z<|Nr<|Fr_ 1 z<|T.drop ?_)
 cases H
 exact T.A9b (L':=L) results68 (RVs.cons (RV.cellS z (j:=0) z K3) (Rv z)) Li (fun _ iv=>iv.drop) ⟨z,z⟩
theorem B5c {h aG ai W} (bj:A0b h aG ai) (H:B0a ai=some W):∀ L,J6 prog 26 [.agg aG.toArray] h (L) (fun v h' L'=>∃ v0_1 v0_3 v0_5 v0_7 v0_9,v=.agg #[v0_1,v0_3,v0_5,v0_7,v0_9]∧L'=L∧F8 I6 7 h' v0_1 W.C8∧F8 I8 9 h' v0_3 W.A8∧F8 L8 3 h' v0_5 W.M9∧F8 (VI .i64) 1 h' v0_7 W.R8∧F8 H9 6 h' v0_9 W.F9):=by
 intro L
 obtain ⟨dt,du,dw,dx,rfl,au,aq,aw,ax⟩:=bj
 refine J6.enter func26 z z z<|Sr<|To (O.U5 z z z fun dy bk dA x=>To (O.alloc A3q z z fun G=>Nt<|Sr<|To (O.alloc A3q z z fun I=>Nt<|Sr<|An z<|Sq<|Sr<|An z ?_)))
 obtain ⟨bm,bn,bo⟩:=K4 H
 have H:=bn
 refine Bl<|T.R4 139 7<|have bp:A7 I6 bk [] ([]:List D5):=A7.nil; T.fs [2,2] ?_
 refine T.lk [1,2,3] (FUEL,([]:List D5),(0:Int),(0:Int),(qs),[]) (fun ⟨X,J,Y,K,d,r⟩=>([(4,qi Y),(5,qi K)],blk I (.cells [d,qs,qs,qs,qs].toArray 33)::blk G (.cells [qs,qs,qs,qs,qs].toArray 33)::F5 139 7 d r::L,fun hh=>iter (A1t ai) X (J,Y,K)=some bm∧A7 I6 hh r J)) ⟨H,bp⟩ ?_
 rintro ⟨X,J,Y,K,d,r⟩ dB dC ⟨bq,ay⟩
 obtain ⟨br,dD,rfl,H,aI⟩:=G8 bq
 refine T.norm [4,5,1,2,3] z<|T.fl ?_
 refine Sq<|Sq ?_
 obtain ⟨bt,bu,bw⟩:=K4 H
 refine T.ck (α:=Bool) [1,2,3,4,5] (fun aj=>([(23,.bool aj)],blk I (.cells [d,qs,qs,qs,qs].toArray 33)::blk G (.cells [qs,qs,qs,qs,qs].toArray 33)::F5 139 7 d r::L,fun hh=>bt=aj)) ?_ ?_
 ·have H:=bu
  refine Rg<|Mv z<|Vv (V.fa A7r z)<|Vv (V.M5 (k:=0) A8y z x.u z)<|Vv (V.Q3 A5o z au)<|Wl z z<|Mv z<|T.bH 20 H z (fun H=>?_) fun H=>?_
  ·refine Mv z<|Wl z z<|Kt z<|Nt<|T.mt (decide (K < (3:Int))) (M7 H)
  refine S2<|Kf z<|Nt<|T.mt false (M7 H)
 rintro aj bx dE bA
 have H:=I7 bA bw
 refine T.norm [23,1,2,3,4,5] z<|T.fl ?_
 refine T.cH H z (fun H=>?_) fun H=>?_
 ·refine Ks<|Sq<|Bl<|Sm z<|Vv (V.fa A7r z)<|Vv (V.M5 (k:=0) A8y z x.u z)<|Mv z<|bE H fun dG aJ H=>?_
  obtain ⟨dI,bB,rfl⟩:=F8.at au aJ
  refine Vv (V.ix A5o z z au (E9 aJ))<|Vv (V.S9 A3N z bB.u z)<|bE H fun dJ bC H=>Vv (V.A5c underlying5 underlying3 z bC)<|bE H fun a bD H=>To (O.G9 z (B9Y bD _) z fun dK dM dN dO bG=>?_)
  obtain ⟨Z,rfl,bI,aK⟩:=bG
  refine P7 _ bI<|To (O.alloc A1J z z fun dP=>To (O.stF (vs:=[.string a.F7,.int .u8 a.Q4,qi a.fA,qi a.fB,Z,qi a.fX,qi a.fY]) J5 z z (j:=0) z z (by (simp only [BT,F8.one aK]) <;> rfl) z ?_))
  refine T.fl ?_
  refine T.freeze fun aM dS bJ=>have aN:=Z0.of bJ; Nt<|Sr<|Vv (V.fa N7 z)<|Vv (V.ldO (k:=0) Q0 z (j:=0) z z)<|An z<|Sm z<|Vv (V.ldS z aN (by exact J5)) ?_
  refine To (O.bs O6 A1J z (e:=z) (hk:=z) (xs:=[.tmp 37]) (hv:=CO.eq (CO.cons z CO.nil)) (hw:=O3.of z) (hd:=z) fun dU=>have aA:A7 I6 aM [[.string a.F7,.int .u8 a.Q4,qi a.fA,qi a.fB,Z,qi a.fX,qi a.fY]] ([a]:List D5):=(A7.cons ⟨Z,z,aK.u⟩ A7.nil); bE H fun aO aP H=>To (O.apX O6 O6 A1J z z z (j:=3) z (Src.row (j:=0) z) (O3.of z) (A7.ones I6.plain aA) ay.u aA aP z fun aS dV dW=>have bK:A7 I6 aM (r ++ [[.string a.F7,.int .u8 a.Q4,qi a.fA,qi a.fB,Z,qi a.fX,qi a.fY]]) aO:=A7.ap ay.u aA aP; T.fl ?_))
  refine T.fs [1] ?_
  refine T.drop<|Vv (V.fa N7 z)<|T.Q9 0 z fun bM bN=>To (O.st (vs:=[aS]) (k:=0) Q0 z z (j:=1) z bN (by (simp only [BT,bM]) <;> rfl) ?_)
  refine T.fl ?_
  refine Nt<|Rg<|Mv z<|Vv (V.ldS z aN (by exact J5)) ?_
  refine bE H fun dX bO H=>To (O.cs (A2n ⟨Z,z⟩ bO _) fun dZ d1=>bE H fun bU bV H=>Vv (V.H8 z z bV)<|Ag z<|Ni<|Bn<|Th<|Rg<|Mv z<|bE H fun bW bX H=>Vv (V.H8 z z bX)<|An z<|T.fs [1,2,2] ?_)
  exact T.ag (br,aO,bU,bW,aS,(r ++ [[.string a.F7,.int .u8 a.Q4,qi a.fA,qi a.fB,Z,qi a.fX,qi a.fY]])) ⟨(D8 H aI),bK.u⟩
 refine T.exit<|Te<|Te<|have H:=D6 H aI; Be<|Th<|have H:=I7 H bo; Sq ?_
 obtain ⟨bY,bZ,b0⟩:=K4 H
 refine T.ck (α:=Q7×Addr×Value×Value) [1,2,3] (fun ⟨A,ak,n,o⟩=>([(8,.pointer (some ak))],blk I (.cells [d,qs,qs,qs,qs].toArray 33)::blk G (.cells [qs,qs,qs,qs,qs].toArray 33)::F5 139 7 d r::L,fun hh=>bY=A∧Z0 hh ak [n,o]∧F8 I8 9 hh n A.A8∧F8 L8 3 hh o A.M9)) ?_ ?_
 ·have H:=bZ
  refine T.N8 (t:=(.vs [0,1,2,3,4,5,6,7,8,9] (.alt 10 (.alt 11 (.alt 12 .done .no) .no) (.alt 11 (.alt 10 (.alt 12 .done .no) .no) .no)))) 14 0 0 z z I5 (by kernel_rfl) ?_
  refine Tv z (V.fa A7k z)<|Tv z (V.M5 (k:=1) B1z z x.u z)<|Tv z (V.fa A7k z)<|Tv z (V.M5 (k:=1) B1z z x.u z)<|Tv z (V.Q3 A9Q z aq)<|Tm z z<|Tv z (V.min2 z z)<|bE H fun b2 aU H=>T.D3q z z A9Q z aq.u (.inl ⟨z,z⟩) (.inr ⟨_,_,z,z⟩) (A3K aU).2 z Calm.i fun b3 b4 d2=>?_
  have aV:F8 (VI .u16) 1 bx b3 b2:=by rw [(A3K aU).1]; exact b4
  refine Tv z (V.fa C0k z)<|Tv z (V.M5 (k:=2) A8y z x.u z)<|T.C2A ?_ ?_
  ·refine bE H fun b5 b6 H=>Tp z z (X2 z z) (O.G9 z (B4P aV aw.u b6 _) z fun d3 d4 d5 d6 b7=>?_) T.P5
   obtain ⟨aW,aX,rfl,b8,aY,aZ⟩:=b7
   refine P7 _ b8<|Tp z z (SX.two (XA.fr [] Li z) (XA.fr [] Li z)) (O.alloc B3V z z fun b9=>?_) T.P5
   refine Tp z z (SX.two (XA.fr [] Li z) (XA.fr [] Li z)) (O.stF (vs:=[aW,aX]) A5N z z (j:=0) z z (by (simp only [BT,F8.one aY,F8.one aZ]) <;> rfl) z ?_) T.P5
   refine T.fl ?_
   refine T.freeze fun d7 d8 bh=>have bl:=Z0.of bh; T.O7 (SX.two (XA.fr [] Li z) (XA.fr [] Li z))<|Th<|T.mt (b5,⟨b9,0,none⟩,aW,aX) ⟨(M7 H),bl,aY.u,aZ.u⟩
  refine Tp z z (X2 z z) (O.alloc B3V z z fun bv=>?_) T.P5
  refine bE H fun bz ca H=>Tp z z (X2 z z) (O.G9 z (B4P aV aw.u ca _) z fun d9 dh dl dv cb=>?_) T.P5
  obtain ⟨a0,a1,rfl,cc,a2,a3⟩:=cb
  refine P7 _ cc<|Tp z z (SX.two (XA.fr [] Li z) (XA.fr [] Li z)) (O.stF (vs:=[a0,a1]) A5N z z (j:=0) z z (by (simp only [BT,F8.one a2,F8.one a3]) <;> rfl) z ?_) T.P5
  refine T.fl ?_
  refine T.freeze fun dz ea cd=>have ce:=Z0.of cd; T.O7 (SX.two (XA.fr [] Li z) (XA.fr [] Li z))<|Th<|T.mt (bz,⟨bv,0,none⟩,a0,a1) ⟨(M7 H),ce,a2.u,a3.u⟩
 rintro ⟨A,ak,n,o⟩ a4 eb ⟨cf,a5,M,aa⟩
 have H:=I7 cf b0
 refine T.norm [8,1,2,3] z<|T.fl ?_
 refine Sq<|T.N8 (t:=(.vs [0,1,2,3,4] (.alt 5 (.g (.v 6 (.alt 7 .done .no))) .no))) 5 1 0 z z I5 (by kernel_rfl) ?_
 refine Tv z (V.fa A2T z)<|Tv z (V.M5 (k:=0) O0 z a5 z)<|Tv z (V.fa A8n z)<|Tv z (V.M5 (k:=1) A1H z a5 z)<|Tv z (V.fa U4 z)<|Tp z z (X3 [] [0] z z) (O.st (vs:=[n]) (k:=1) O0 z z (j:=0) z (F8.cells M) (by (simp only [BT,F8.one M]) <;> rfl) ?_) T.P5
 refine T.fl ?_
 refine T.O1 Lr<|Tv z (V.fa A9L z)<|Tp z z (SX.one (XA.fr [] Lr z) z) (O.st (vs:=[o]) (k:=2) A1H z z (j:=0) z (F8.cells aa) (by (simp only [BT,F8.one aa]) <;> rfl) ?_) T.P5
 refine T.fl ?_
 refine T.O7 (SX.one (XA.fr [] Lr z) z)<|Th<|Sq<|Sr<|Vv (V.fa C0k z)<|Vv (V.M5 (k:=2) A8y z x.u z)<|Vv (V.Q3 A5o z aw)<|bE H fun ec cg H=>Vv (V.A1c z z cg)<|Wg z z<|Nt ?_
 obtain ⟨ci,cj,ck⟩:=K4 H
 refine T.ck (α:=(List Int)×Value×(List (List Value))) [1,2,3] (fun ⟨ab,ac,am⟩=>([],blk I (.cells [d,n,o,ac,qs].toArray 33)::blk G (.cells [qs,qs,qs,qs,qs].toArray 33)::F5 139 7 d r::F5 3 1 ac am::L,fun hh=>ci=ab∧A7 (VI .i64) hh am ab)) ?_ ?_
 ·have H:=cj
  refine T.cH H z (fun H=>?_) fun H=>?_
  ·refine Sr<|An z<|T.A0L ?_
   obtain ⟨cm,cn,co⟩:=K4 H
   have H:=cn
   refine Bl<|T.R4 3 1<|have cp:A7 (VI .i64) a4 [] ([]:List Int):=A7.nil; T.fs [3,3,3] ?_
   refine T.lk [1,2,3] (FUEL,([]:List Int),(0:Int),(qs),[]) (fun ⟨ad,N,ae,P,y⟩=>([(9,qi ae)],blk I (.cells [d,n,o,P,qs].toArray 33)::blk G (.cells [qs,qs,qs,qs,qs].toArray 33)::F5 139 7 d r::F5 3 1 P y::L,fun hh=>iter (A4X ai A) ad (N,ae)=some cm∧A7 (VI .i64) hh y N)) ⟨H,cp⟩ ?_
   rintro ⟨ad,N,ae,P,y⟩ cq ed ⟨cr,aB⟩
   obtain ⟨cs,ee,rfl,H,a6⟩:=G8 cr
   refine T.norm [9,1,2,3] z<|T.fl ?_
   refine Sq<|Sm z<|Vv (V.fa U4 z)<|Vv (V.ldO (k:=1) O0 z (j:=0) z z)<|Vv (V.Q3 O9 z M)<|Wl z z<|Nt<|T.cH H z (fun H=>?_) fun H=>?_
   ·refine Ks<|Sq<|Bl<|Sr<|Vv (V.fa A5F z)<|Vv (V.ldO (k:=3) E5 z (j:=0) z z)<|An z<|Rg<|Mv z<|Vv (V.fa A7k z)<|Vv (V.M5 (k:=1) B1z z x.u z)<|Mv z<|bE H fun ef a7 H=>?_
    obtain ⟨eg,ct,rfl⟩:=F8.at aq a7
    refine Vv (V.ix A9Q z z aq (E9 a7))<|Vv (V.S9 C2c z ct.u z)<|bE H fun ei cu H=>Vv (V.A5c underlying143 underlying3 z cu)<|bE H fun ej cw H=>Vv (V.B2U z z cw)<|bE H fun a8 cx H=>Vv (V.A1c z z cx)<|To (O.b1 (E:=VI .i64) A9 K8 z z z z z fun ek aC=>bE H fun a9 ah H=>To (O.apX A9 A9 K8 z z z (j:=4) z (Src.row (j:=0) z) (O3.of z) (A7.ones VI.plain aC) aB aC ah z fun al em en=>have cy:A7 (VI .i64) cq (y ++ [[qi a8]]) a9:=A7.ap aB aC ah; T.fl ?_))
    refine T.fs [1] ?_
    refine T.drop<|Vv (V.fa A5F z)<|T.Q9 0 z fun cA cB=>To (O.st (vs:=[al]) (k:=3) E5 z z (j:=1) z cB (by (simp only [BT,cA]) <;> rfl) ?_)
    refine T.fl ?_
    refine Ni<|Bn<|Th<|Rg<|Mv z<|bE H fun cC cD H=>Vv (V.H8 z z cD)<|An z<|T.fs [1,3,3,3] ?_
    exact T.ag (cs,a9,cC,al,(y ++ [[qi a8]])) ⟨(D8 H a6),cy⟩
   refine T.exit<|Te<|Te<|have H:=D6 H a6; Be<|Th<|have H:=I7 H co; Th<|T.mt (N,P,y) ⟨(M7 H),aB⟩
  refine Ks<|T.R4 3 1<|have cE:A7 (VI .i64) a4 [] ([]:List Int):=A7.nil; T.fs [3,3,3] ?_
  exact T.mt (([]:List Int),(qs),[]) ⟨(M7 H),cE⟩
 rintro ⟨ab,ac,am⟩ eo ep ⟨cG,cI⟩
 have H:=I7 cG ck
 refine T.norm [1,2,3] z<|T.fl ?_
 refine Sq<|Sr<|An z ?_
 obtain ⟨cJ,cK,cM⟩:=K4 H
 have H:=cK
 refine Bl<|T.fs [2] ?_
 refine T.K5 fun er es cN=>have cO:=A7.slc cN ay.u; T.fs [2] ?_
 refine T.K5 fun cP et cS=>have cU:=A7.slc cS cI.u; T.R4 43 6<|have cV:A7 H9 cP [] ([]:List F3):=A7.nil; T.fs [2,2] ?_
 refine T.lk [1,2,3] (FUEL,J,ab,([]:List F3),(0:Int),d,ac,(qs),[]) (fun ⟨af,s,w,B,S,f,m,p,q⟩=>([(11,qi S)],blk I (.cells [f,n,o,m,p].toArray 33)::blk G (.cells [qs,qs,qs,qs,qs].toArray 33)::F5 43 6 p q::L,fun hh=>iter (A4S ai A) af (s,w,B,S)=some cJ∧F8 I6 7 hh f s∧F8 (VI .i64) 1 hh m w∧A7 H9 hh q B)) ⟨H,cO.u,cU,cV⟩ ?_
 rintro ⟨af,s,w,B,S,f,m,p,q⟩ eu ew ⟨cW,C,D,U⟩
 obtain ⟨ar,ex,rfl,H,an⟩:=G8 cW
 refine T.norm [11,1,2,3] z<|T.fl ?_
 refine Sq<|Sq ?_
 obtain ⟨cX,cY,cZ⟩:=K4 H
 refine T.ck (α:=Bool) [1,2,3,11] (fun ao=>([(96,.bool ao)],blk I (.cells [f,n,o,m,p].toArray 33)::blk G (.cells [qs,qs,qs,qs,qs].toArray 33)::F5 43 6 p q::L,fun hh=>cX=ao)) ?_ ?_
 ·have H:=cY
  refine Rg<|Mv z<|Vv (V.fa B9x z)<|Vv (V.M5 (k:=3) C5g z x.u z)<|Vv (V.Q3 C4r z ax)<|Wl z z<|Mv z<|T.bH 93 H z (fun H=>?_) fun H=>?_
  ·refine Mv z<|Wl z z<|Kt z<|Nt<|T.mt (decide (S < (12:Int))) (M7 H)
  refine S2<|Kf z<|Nt<|T.mt false (M7 H)
 rintro ao ey eA c0
 have H:=I7 c0 cZ
 refine T.norm [96,1,2,3,11] z<|T.fl ?_
 refine T.cH H z (fun H=>?_) fun H=>?_
 ·refine Ks<|Sq<|Bl<|Sq<|T.N8 (t:=(.vs [0,1,2,3,4,5,6] (.alt 7 (.g (.vs [8,9,10] (.alt 11 (.alt 12 (.alt 13 .done .no) .no) .no))) (.alt 11 (.alt 7 (.g (.vs [8,9,10] (.alt 12 (.alt 13 .done .no) .no))) .no) .no)))) 15 1 1 z z I5 (by kernel_rfl) ?_
  refine Tv z (Val.XA fun _ _ _=>V.A4O (j:=0) (by exact J4) z z) ?_
  refine Tv z (V.fa B9x z)<|Tv z (V.M5 (k:=3) C5g z x.u z)<|Tm z z<|bE H fun eB av H=>?_
  obtain ⟨eC,c1,rfl⟩:=F8.at ax av
  refine Tv z (V.ix C4r z z ax (E9 av))<|Tv z (V.S9 C7n z c1.u z)<|bE H fun eD c2 H=>Tv z (V.A5c underlying146 underlying3 z c2)<|T.C2A ?_ ?_
  ·refine bE H fun ⟨b,eE⟩ c3 H=>Tp z z (X3 [0] [0] z z) (O.G9 z (B2S ⟨f,n,o,m,p,z,C.u,M.u,aa.u,D.u⟩ c3 _) z fun eG eI eJ eK c4=>?_) T.P5
   obtain ⟨rfl,c5⟩:=c4
   refine P7 _ c5<|T.O1 Li<|Tm z z<|Tv z (V.ext z z)<|Tv z (V.ext z z)<|Tp z z (X3 [0] [0] z z) (O.alloc A1R z z fun eM=>?_) T.P5
   refine Tp z z (X3 [1] [1] z z) (O.stF (vs:=[.int .u8 b.H6,qi b.J3,.string b.fA,.string b.fB,.string b.J2,qi b.fN]) K3 z z (j:=0) z z z z ?_) T.P5
   refine T.fl ?_
   refine T.freeze fun az eN c6=>have c7:=Z0.of c6; Ts z z (SX.two (XA.fr [0] Li z) (XA.fr [0] Li z)) (V.asg z) z ?_ T.P5
   refine T.O7 (SX.two (XA.fr [0] Li z) (XA.fr [0] Li z))<|Th<|Sm z<|Nt<|T.cH H z (fun H=>?_) fun H=>?_
   ·refine Sr<|Vv (V.fa Y3 z)<|Vv (V.ldO (k:=4) Y4 z (j:=0) z z)<|An z<|Rg<|Mv z<|Vv (V.ldS z c7 (by exact K3)) ?_
    refine To (O.bs U9 A1R z (e:=z) (hk:=z) (xs:=[.tmp 114]) (hv:=CO.eq (CO.cons z CO.nil)) (hw:=O3.of z) (hd:=z) fun eO=>have aD:A7 H9 az [[.int .u8 b.H6,qi b.J3,.string b.fA,.string b.fB,.string b.J2,qi b.fN]] ([b]:List F3):=(A7.cons z A7.nil); bE H fun ba bb H=>To (O.apX U9 U9 A1R z z z (j:=3) z (Src.row (j:=0) z) (O3.of z) (A7.ones H9.plain aD) U.u aD bb z fun bc eP eS=>have c8:A7 H9 az (q ++ [[.int .u8 b.H6,qi b.J3,.string b.fA,.string b.fB,.string b.J2,qi b.fN]]) ba:=A7.ap U.u aD bb; T.fl ?_))
    refine T.fs [1] ?_
    refine T.drop<|Vv (V.fa Y3 z)<|T.Q9 0 z fun c9 ch=>To (O.st (vs:=[bc]) (k:=4) Y4 z z (j:=1) z ch (by (simp only [BT,c9]) <;> rfl) ?_)
    refine T.fl ?_
    refine Ni<|Bn<|Th<|Rg<|Mv z<|bE H fun cl cv H=>Vv (V.H8 z z cv)<|An z<|T.fs [1,2,2] ?_
    exact T.ag (ar,s,w,ba,cl,f,m,bc,(q ++ [[.int .u8 b.H6,qi b.J3,.string b.fA,.string b.fB,.string b.J2,qi b.fN]])) ⟨(D8 H an),C.u,D.u,c8⟩
   refine T.skip<|Bn<|Th<|Rg<|Mv z<|bE H fun cz da H=>Vv (V.H8 z z da)<|An z<|T.ag (ar,s,w,B,cz,f,m,p,q) ⟨(D8 H an),C.u,D.u,U.u⟩
  refine Tp z z (X3 [0] [0] z z) (O.alloc A1R z z fun eU=>?_) T.P5
  refine bE H fun ⟨c,eV⟩ db H=>Tp z z (X3 [1] [1] z z) (O.G9 z (B2S ⟨f,n,o,m,p,z,C.u,M.u,aa.u,D.u⟩ db _) z fun eW eX eY eZ dc=>?_) T.P5
  obtain ⟨rfl,dd⟩:=dc
  refine P7 _ dd<|T.O1 Li<|Tm z z<|Tv z (V.ext z z)<|Tv z (V.ext z z)<|Tp z z (X3 [1] [1] z z) (O.stF (vs:=[.int .u8 c.H6,qi c.J3,.string c.fA,.string c.fB,.string c.J2,qi c.fN]) K3 z z (j:=0) z z z z ?_) T.P5
  refine T.fl ?_
  refine T.freeze fun bd e0 de=>have df:=Z0.of de; Ts z z (SX.two (XA.fr [0] Li z) (XA.fr [0] Li z)) (V.asg z) z ?_ T.P5
  refine T.O7 (SX.two (XA.fr [0] Li z) (XA.fr [0] Li z))<|Th<|Sm z<|Nt<|T.cH H z (fun H=>?_) fun H=>?_
  ·refine Sr<|Vv (V.fa Y3 z)<|Vv (V.ldO (k:=4) Y4 z (j:=0) z z)<|An z<|Rg<|Mv z<|Vv (V.ldS z df (by exact K3)) ?_
   refine To (O.bs U9 A1R z (e:=z) (hk:=z) (xs:=[.tmp 114]) (hv:=CO.eq (CO.cons z CO.nil)) (hw:=O3.of z) (hd:=z) fun e1=>have aE:A7 H9 bd [[.int .u8 c.H6,qi c.J3,.string c.fA,.string c.fB,.string c.J2,qi c.fN]] ([c]:List F3):=(A7.cons z A7.nil); bE H fun be bf H=>To (O.apX U9 U9 A1R z z z (j:=3) z (Src.row (j:=0) z) (O3.of z) (A7.ones H9.plain aE) U.u aE bf z fun bg e2 e3=>have dg:A7 H9 bd (q ++ [[.int .u8 c.H6,qi c.J3,.string c.fA,.string c.fB,.string c.J2,qi c.fN]]) be:=A7.ap U.u aE bf; T.fl ?_))
   refine T.fs [1] ?_
   refine T.drop<|Vv (V.fa Y3 z)<|T.Q9 0 z fun di dj=>To (O.st (vs:=[bg]) (k:=4) Y4 z z (j:=1) z dj (by (simp only [BT,di]) <;> rfl) ?_)
   refine T.fl ?_
   refine Ni<|Bn<|Th<|Rg<|Mv z<|bE H fun dk dm H=>Vv (V.H8 z z dm)<|An z<|T.fs [1,2,2] ?_
   exact T.ag (ar,s,w,be,dk,f,m,bg,(q ++ [[.int .u8 c.H6,qi c.J3,.string c.fA,.string c.fB,.string c.J2,qi c.fN]])) ⟨(D8 H an),C.u,D.u,dg⟩
  refine T.skip<|Bn<|Th<|Rg<|Mv z<|bE H fun dn dp H=>Vv (V.H8 z z dp)<|An z<|T.ag (ar,s,w,B,dn,f,m,p,q) ⟨(D8 H an),C.u,D.u,U.u⟩
 refine T.exit<|Te<|Te<|have H:=D6 H an; Be<|Th<|have H:=I7 H cM; Sr<|Vv (V.A4O (j:=0) (by exact J4) z z) ?_
 refine T.fs [2] ?_
 refine T.K5 fun e4 e5 dq=>have bi:=A7.slc dq U.u; To (O.stF (vs:=[f,n,o,m,p]) J4 z z (j:=1) z z (by (simp only [BT,F8.one C,F8.one M,F8.one aa,F8.one D,F8.one bi]) <;> rfl) z ?_)
 refine T.freeze fun e6 e7 dr=>have ds:=Z0.of dr; Nr<|T.drop ?_
 cases H
 exact T.rl z (RVs.cons (RV.B2N z ds J4) RVs.nil) ⟨_,_,_,_,_,z,z,C.u,M.u,aa.u,D.u,bi.u⟩
theorem B7q {h n g o} (r:O8 h n g) (H:A7M g=some o):∀ L,FnW prog 25 [.agg n.toArray] h L (.int .i64 o):=by
 intro L
 obtain ⟨ab,ac,ad,ae,af,rfl,i,ai,aj,ak,am⟩:=r
 refine J6.enter func25 z z z<|Sr<|To (O.U5 z z z fun an ao ap p=>An z<|Sr<|An z<|Sq<|Sr<|An z ?_)
 obtain ⟨s,t,w⟩:=K4 H
 have H:=t
 refine Bl<|T.lk [1] (FUEL,(0:Int),(0:Int)) (fun ⟨a,b,c⟩=>([(3,qi b),(4,qi c)],L,fun hh=>iter (A2D g) a (b,c)=some s)) H ?_
 rintro ⟨a,b,c⟩ aq ar x
 obtain ⟨m,au,rfl,H,f⟩:=G8 x
 refine T.norm [3,4,1] z<|T.fl ?_
 refine Sq<|Sm z<|Vv (V.fa N7 z)<|Vv (V.M5 (k:=0) Q0 z p.u z)<|Vv (V.Q3 O6 z i)<|Wl z z<|Nt<|T.cH H z (fun H=>?_) fun H=>?_
 ·refine Ks<|Sq<|Bl<|Sr<|Vv (V.fa N7 z)<|Vv (V.M5 (k:=0) Q0 z p.u z)<|Mv z<|bE H fun d q H=>?_
  obtain ⟨aw,y,⟨A,rfl,B⟩⟩:=F8.at i q
  refine Vv (V.ix O6 z z i (E9 q))<|Vv (V.ldS z y.u (by exact J5)) ?_
  refine To (O.alloc A1J z z fun ax=>To (O.stF (vs:=[.string d.F7,.int .u8 d.Q4,qi d.fA,qi d.fB,A,qi d.fX,qi d.fY]) J5 z z (j:=0) z z (by (simp only [BT,F8.one B]) <;> rfl) z ?_))
  refine T.freeze fun ay aA C=>have e:=Z0.of C; Nt<|Sr<|Vv (V.fa A2W z)<|Vv (V.M5 (k:=1) A5Z z e z)<|Nt<|Bl<|Sr<|We z z<|An z<|T.cH H z (fun H=>?_) fun H=>?_
  ·refine Rg<|Mv z<|Vv (V.fa Y2 z)<|Vv (V.M5 (k:=2) D7 z e z)<|bE H fun aB D H=>Vv (V.B0g z z D)<|Vv (V.fa A0K z)<|Vv (V.M5 (k:=3) D7 z e z)<|bE H fun aC E H=>Vv (V.H8 z z E)<|bE H fun G I H=>Vv (V.H8 z z I)<|Ag z<|Ni<|Bn<|Bn<|Th<|Rg<|Mv z<|bE H fun J K H=>Vv (V.H8 z z K)<|An z<|T.ag (m,G,J) (D8 H f)
  refine Sr<|We z z<|An z<|T.cH H z (fun H=>?_) fun H=>?_
  ·refine Rg<|Mv z<|Vv (V.fa Y2 z)<|Vv (V.M5 (k:=2) D7 z e z)<|Vv (V.fa A0K z)<|Vv (V.M5 (k:=3) D7 z e z)<|bE H fun aD M H=>Vv (V.B0g z z M)<|bE H fun aE N H=>Vv (V.H8 z z N)<|bE H fun P S H=>Vv (V.H8 z z S)<|Ag z<|Ni<|Bn<|Bn<|Th<|Rg<|Mv z<|bE H fun U W H=>Vv (V.H8 z z W)<|An z<|T.ag (m,P,U) (D8 H f)
  refine Rg<|Mv z<|Vv (V.fa Y2 z)<|Vv (V.M5 (k:=2) D7 z e z)<|bE H fun X Y H=>Vv (V.H8 z z Y)<|Ag z<|Ni<|Bn<|Bn<|Th<|Rg<|Mv z<|bE H fun Z aa H=>Vv (V.H8 z z aa)<|An z<|T.ag (m,X,Z) (D8 H f)
 exact T.exit<|Te<|Te<|have H:=D6 H f; Be<|Th<|have H:=I7 H w; Sm z<|Ag z<|Nr<|E1 H
theorem B9r {h s f c} (Y:A0b h s f) (H:B0w f=some c):∀ L,J6 prog 6 [.agg s.toArray] h (L) (fun v h' L'=>∃ v0_1 v0_3 v0_5 v0_7 v0_9,v=.agg #[v0_1,v0_3,v0_5,v0_7,v0_9]∧L'=L∧F8 I6 7 h' v0_1 c.C8∧F8 I8 9 h' v0_3 c.A8∧F8 L8 3 h' v0_5 c.M9∧F8 (VI .i64) 1 h' v0_7 c.R8∧F8 H9 6 h' v0_9 c.F9):=by
 intro L
 obtain ⟨a0,t,m,n,rfl,w,x,Z,aa⟩:=Y
 refine J6.enter func6 z z z<|Sr<|To (O.box z z z fun y=>To (O.alloc A3q z z fun A=>Nt<|Sr<|Vv (V.fa A7r z)<|Vv (V.ldO (k:=0) A8y z (j:=1) z z)<|Vv (V.fa A7r z)<|Vv (V.ldO (k:=0) A8y z (j:=1) z z)<|Vv (V.Q3 A5o z w)<|Vv (V.min2 z z)<|bE H fun q B H=>T.slM z A5o z w (.inl ⟨z,z⟩) (.inr ⟨_,_,z,z⟩) (A3K B).2 z fun b ab a1=>?_))
 have g:F8 (VI .u8) 1 h b q:=by rw [(A3K B).1]; exact ab
 refine Vv (V.fa A7r z)<|To (O.st (vs:=[b]) (k:=0) A8y z z (j:=1) z (F8.cells g) (by (simp only [BT,F8.one g]) <;> rfl) ?_)
 refine Nt<|Sr<|Vv (V.fa A7r z)<|Vv (V.ldO (k:=0) A8y z (j:=0) z z)<|Vv (V.bld (xs:=[(0,.tmp 15)]) (cs:=[_,_,_,_]) C8C C8z z (F4.cons z (F8.cells g) z F4.nil))<|bE H fun ac ad H=>To (O.G9 z (B5c (show A0b h [b,qs,qs,qs] (R7.mk q ([]:List Int) ([]:List Int) ([]:List Int)) from ⟨b,(qs),(qs),(qs),z,g,F8.nil,F8.nil,F8.nil⟩) ad _) z fun a2 ae a3 a4 af=>?_)
 obtain ⟨C,D,E,G,I,rfl,ai,aj,ak,am,an,ao⟩:=af
 refine P7 _ ai<|bE H fun ap aq H=>To (O.cs (B7q (show O8 ae [C,D,E,G,I] ac from ⟨C,D,E,G,I,z,aj,ak,am,an,ao⟩) aq _) fun a6 a8=>An z<|Sg z<|An z<|Sq ?_)
 obtain ⟨J,aw,ax⟩:=K4 H
 refine T.ck (α:=Int) [1,2] (fun i=>([(5,qi i)],blk y (.cells [b,t,m,n].toArray 26)::blk A (.cells [qs,qs,qs,qs,qs].toArray 33)::L,fun hh=>J=i)) ?_ ?_
 ·have H:=aw
  refine Bl<|T.lk [1,2,3] (FUEL,(1:Int),(0:Int)) (fun ⟨d,e,a⟩=>([(4,qi e),(5,qi a)],blk y (.cells [b,t,m,n].toArray 26)::blk A (.cells [qs,qs,qs,qs,qs].toArray 33)::L,fun hh=>iter (A6U f ap) d (e,a)=some J)) H ?_
  rintro ⟨d,e,a⟩ a9 ah ay
  obtain ⟨aA,al,rfl,H,o⟩:=G8 ay
  refine T.norm [4,5,1,2,3] z<|T.fl ?_
  refine Sq<|Sm z<|Vv (V.fa A7k z)<|Vv (V.ldO (k:=1) B1z z (j:=0) z z)<|Vv (V.Q3 A9Q z x)<|Wl z z<|Mv z<|T.bH 24 H z (fun H=>?_) fun H=>?_
  ·refine Mv z<|Mv z<|Wl z z<|Kt z<|Mv z<|T.bH 29 H z (fun H=>?_) fun H=>?_
   ·refine Mv z<|Mv z<|Mv z<|bE H fun av aB H=>Vv (V.Y9 z z aB)<|bE H fun az aC H=>Vv (V.B0g z z aC)<|Vv (V.le z z)<|Kt z<|Nt<|T.cH H z (fun H=>?_) fun H=>?_
    ·refine Ks<|Bl<|Sm z<|Mv z<|Mv z<|bE H fun ba aD H=>Vv (V.Y9 z z aD)<|bE H fun aE aG H=>Vv (V.B0g z z aG)<|An z<|Rg<|Mv z<|bE H fun aI aJ H=>Vv (V.H8 z z aJ)<|Ag z<|Ni<|Bn<|Th<|T.ag (aA,aE,aI) (D8 H o)
    refine T.exit<|Te<|Te<|have H:=D6 H o; Be<|Th<|T.mt a H
   refine S2<|S2<|S2<|Kf z<|Nt<|Cf z<|T.exit<|Te<|Te<|have H:=D6 H o; Be<|Th<|T.mt a H
  refine S2<|Sk<|Kf z<|Mv z<|S2<|S2<|S2<|Kf z<|Nt<|Cf z<|T.exit<|Te<|Te<|have H:=D6 H o; Be<|Th<|T.mt a H
 rintro i K bb aK
 have H:=I7 aK ax
 refine T.norm [5,1,2] z<|T.fl ?_
 refine Sr<|Vv (V.fa A7k z)<|Vv (V.ldO (k:=1) B1z z (j:=0) z z)<|Mv z<|bE H fun M N H=>T.slM z A9Q z x.u (.inl ⟨z,z⟩) (.inr ⟨_,_,z,z⟩) (A3K N).2 z fun p aM bc=>?_
 have r:F8 (VI .u16) 1 K p M:=by rw [(A3K N).1]; exact aM
 refine Vv (V.fa A7k z)<|To (O.st (vs:=[p]) (k:=1) B1z z z (j:=0) z (F8.cells r) (by (simp only [BT,F8.one r]) <;> rfl) ?_)
 refine Nt<|Sr<|Vv (V.A4O (j:=0) (by exact C4V) z z) ?_
 refine bE H fun bd aN H=>To (O.G9 z (B5c (show A0b K [b,p,m,n] (R7.mk q M f.M9 f.F9) from ⟨b,p,m,n,z,g.u,r,Z.u,aa.u⟩) aN _) z fun be bf bg bi aO=>?_)
 obtain ⟨aP,aS,aU,aV,aW,rfl,aX,P,S,U,W,X⟩:=aO
 refine P7 _ aX<|To (O.stF (vs:=[aP,aS,aU,aV,aW]) J4 z z (j:=1) z z (by (simp only [BT,F8.one P,F8.one S,F8.one U,F8.one W,F8.one X]) <;> rfl) z ?_)
 refine T.freeze fun bj bk aY=>have aZ:=Z0.of aY; Nr<|T.drop ?_
 cases H
 exact T.rl z (RVs.cons (RV.B2N z aZ J4) RVs.nil) ⟨_,_,_,_,_,z,z,P.u,S.u,U.u,W.u,X.u⟩
theorem A9O {h b d a} (c:F8 H9 6 h b d) (H:B0P d=some a):∀ L,J6 prog 31 [b] h (L) (fun v h' L'=>∃ v0_1 v0_3 v0_5 v0_7 v0_9,v=.agg #[v0_1,v0_3,v0_5,v0_7,v0_9]∧L'=L∧F8 I6 7 h' v0_1 a.C8∧F8 I8 9 h' v0_3 a.A8∧F8 L8 3 h' v0_5 a.M9∧F8 (VI .i64) 1 h' v0_7 a.R8∧F8 H9 6 h' v0_9 a.F9):=by
 intro L
 refine J6.enter func31 z z z<|Sr<|To (O.alloc A3q z z fun w=>Nt<|Sr<|Vv (V.bld (xs:=[(0,.const (.string ⟨#[114]⟩)),(1,.const (.int .u8 (1))),(2,.const (qi (4)))]) (cs:=[_,_,_,_,_,_,_]) B7m B8c z (F4.cons z z z (F4.cons z z z (F4.cons z z z F4.nil))))<|To (O.bs O6 A1J z (e:=z) (hk:=z) (xs:=[.tmp 3]) (hv:=CO.eq (CO.cons z CO.nil)) (hw:=O3.of z) (hd:=z) fun i=>have k:A7 I6 h [[.string (⟨#[114]⟩:ByteArray),.int .u8 1,qi 4,qi 0,qs,qi 0,qi 0]] ([(D5.mk (⟨#[114]⟩:ByteArray) (1:Int) (4:Int) (0:Int) ([]:List Int) (0:Int) (0:Int))]:List D5):=(A7.cons ⟨(qs),z,F8.nil⟩ A7.nil); Vv (V.bld (xs:=[(0,.const (.string ⟨#[97,110,110,97]⟩))]) (cs:=[_,_,_,_,_,_,_,_,_]) A9p A9n z (F4.cons z z z F4.nil))<|Vv (V.bld (xs:=[(0,.const (.string ⟨#[98,111,114,105,115]⟩))]) (cs:=[_,_,_,_,_,_,_,_,_]) A9p A9n z (F4.cons z z z F4.nil))<|Vv (V.bld (xs:=[(0,.const (.string ⟨#[99,97,114,108]⟩))]) (cs:=[_,_,_,_,_,_,_,_,_]) A9p A9n z (F4.cons z z z F4.nil))<|To (O.bs O9 A1K z (e:=z) (hk:=z) (xs:=[.tmp 5,.tmp 6,.tmp 7]) (hv:=CO.eq (CO.cons z (CO.cons z (CO.cons z CO.nil)))) (hw:=O3.of z) (hd:=z) fun m=>have n:A7 I8 h [[.string (⟨#[97,110,110,97]⟩:ByteArray),.string qe,.string qe,qi 0,qi 0,.string qe,.bool false,.bool false,qs],[.string (⟨#[98,111,114,105,115]⟩:ByteArray),.string qe,.string qe,qi 0,qi 0,.string qe,.bool false,.bool false,qs],[.string (⟨#[99,97,114,108]⟩:ByteArray),.string qe,.string qe,qi 0,qi 0,.string qe,.bool false,.bool false,qs]] ([(E8.mk (⟨#[97,110,110,97]⟩:ByteArray) qe qe (0:Int) (0:Int) qe false false ([]:List ByteArray)),(E8.mk (⟨#[98,111,114,105,115]⟩:ByteArray) qe qe (0:Int) (0:Int) qe false false ([]:List ByteArray)),(E8.mk (⟨#[99,97,114,108]⟩:ByteArray) qe qe (0:Int) (0:Int) qe false false ([]:List ByteArray))]:List E8):=(A7.cons ⟨(qs),z,F8.nil⟩ (A7.cons ⟨(qs),z,F8.nil⟩ (A7.cons ⟨(qs),z,F8.nil⟩ A7.nil))); Mv z<|T.Q9 0 z fun x o=>T.Q9 1 z fun y p=>Vv (V.bld (xs:=[(0,.tmp 4),(1,.tmp 8),(4,.tmp 9)]) (cs:=[_,_,_,_,_]) C0G C0J z (F4.cons z p z (F4.cons z o z (F4.cons z (F8.cells c) z F4.nil))))<|T.fs [1] ?_)))
 refine T.K5 fun A B q=>have f:=A7.slc q k.u; T.K5 fun C D r=>have g:=A7.slc r n.u; To (O.stF (vs:=[(.slice (some ⟨i,0,none⟩) 1 1),(.slice (some ⟨m,0,none⟩) 3 3),qs,qs,b]) J4 z z (j:=0) z z (by (simp only [BT,F8.one f,F8.one g,F8.one c]) <;> rfl) z ?_)
 refine T.freeze fun E G s=>have t:=Z0.of s; Nr ?_
 cases H
 exact T.rl z (RVs.cons (RV.B2N z t J4) RVs.nil) ⟨_,_,_,_,_,z,z,f.u,g.u,F8.nil,F8.nil,c.u⟩
end Go.Proofs.X
open Go Go.Proofs Go.Proofs.Tryz Go.Sl Go.Dm
namespace Go.Proofs.X
theorem A9P:A5h prog 202=some ([.string ⟨#[]⟩,.nilFunc,.nilFunc,.nilFunc,.nilFunc,.nilFunc],[(0,1),(1,1),(2,1),(3,1),(4,1),(5,1)]):=by kernel_rfl
theorem A9M:A0B prog 202=true:=by kernel_rfl
theorem A1L:A1d prog 259=some (135,1,8):=by kernel_rfl
theorem B6E:O5 prog 139 5=some 5:=by kernel_rfl
theorem B6m:O5 prog 139 6=some 6:=by kernel_rfl
theorem C2I:O5 prog 202 1=some 1:=by kernel_rfl
theorem C3E:O5 prog 202 2=some 2:=by kernel_rfl
theorem C2H:O5 prog 202 3=some 3:=by kernel_rfl
theorem C3a:O5 prog 202 4=some 4:=by kernel_rfl
theorem B5W:U6 prog 111=some (false,1):=by kernel_rfl
theorem A5H:U6 prog 135=some (false,1):=by kernel_rfl
theorem B9w:U6 prog 199=some (false,1):=by kernel_rfl
theorem A0y:U6 prog 202=some (true,6):=by kernel_rfl
theorem C1V:U6 prog 39=some (false,1):=by kernel_rfl
theorem C5R:zer prog 111=some (.nilFunc):=by kernel_rfl
theorem A3h:zer prog 135=some (.nilFunc):=by kernel_rfl
theorem A7p:zer prog 202=some (.agg #[.string ⟨#[]⟩,.nilFunc,.nilFunc,.nilFunc,.nilFunc,.nilFunc]):=by kernel_rfl
theorem C2Q {h d f} (H:B4c d=some f):∀ L,FnW prog 214 [.string d] h L (.bool f):=by
 intro L
 refine J6.enter func214 z z z<|Sr<|An z<|Sq<|Sr<|An z ?_
 obtain ⟨g,i,e⟩:=K4 H
 have H:=i
 refine Bl<|T.lk [0] (FUEL,(0:Int)) (fun ⟨a,b⟩=>([(3,qi b)],L,fun hh=>iter (A4A d) a b=some g)) H ?_
 rintro ⟨a,b⟩ q r j
 obtain ⟨k,s,rfl,H,c⟩:=G8 j
 refine T.norm [3,0] z<|T.fl ?_
 refine Sq<|Sm z<|Mv z<|Vv (V.B2i underlying9 z)<|Wl z z<|Nt<|T.cH H z (fun H=>?_) fun H=>?_
 ·refine Ks<|Sq<|Bl<|Sm z<|Mv z<|bE H fun t m H=>Vv (V.C4Z underlying9 z z m)<|Wl z z<|Mv z<|T.bH 14 H z (fun H=>?_) fun H=>?_
  ·exact S2<|S2<|Kt z<|Nt<|Ct z<|Sg z<|Nr<|Br<|Tr<|Tr<|have H:=D6 H c; Br<|Tr<|have H:=I7 H e; E1 H
  refine Mv z<|Mv z<|bE H fun u n H=>Vv (V.C4Z underlying9 z z n)<|Wg z z<|Kf z<|Nt<|T.cH H z (fun H=>?_) fun H=>?_
  ·exact Sg z<|Nr<|Br<|Tr<|Tr<|have H:=D6 H c; Br<|Tr<|have H:=I7 H e; E1 H
  refine T.skip<|Bn<|Th<|Rg<|Mv z<|bE H fun o p H=>Vv (V.H8 z z p)<|An z<|T.ag (k,o) (D8 H c)
 refine T.exit<|Te<|Te<|have H:=D6 H c; Be<|Th<|have H:=I7 H e; Sm z<|Vv (V.B2i underlying9 z)<|Vv (V.ge z z)<|Mv z<|T.bH 23 H z (fun H=>?_) fun H=>?_
 ·exact Mv z<|Vv (V.B2i underlying9 z)<|Vv (V.le z z)<|Kt z<|Ag z<|Nr<|E1 H
 exact S2<|Sk<|Kf z<|Ag z<|Nr<|E1 H
theorem B3s {h a b c} (H:B1E a b=some c):∀ L,FnW prog 219 [.int .i64 a,.int .i64 b] h L (.int .i64 c):=by
 intro L
 exact J6.enter func219 z z z<|Sr<|An z<|Sm z<|Mv z<|Vv (V.min2 z z)<|bE H fun e d H=>Vv (V.H8 z z d)<|Ag z<|Nr<|E1 H
theorem B5M {h a b c} (H:A3u a b=some c):∀ L,FnW prog 171 [.int .i64 a,.int .i64 b] h L (.int .i64 c):=by
 intro L
 refine J6.enter func171 z z z<|Sr<|An z<|Sq<|Sm z<|Wl z z<|Mv z<|T.bH 7 H z (fun H=>?_) fun H=>?_
 ·exact S2<|Kt z<|Mv z<|S2<|Kt z<|Nt<|Ct z<|Sg z<|Nr<|Tr<|E1 H
 refine Mv z<|Wg z z<|Kf z<|Mv z<|T.bH 11 H z (fun H=>?_) fun H=>?_
 ·exact S2<|Kt z<|Nt<|Ct z<|Sg z<|Nr<|Tr<|E1 H
 refine Mv z<|Wn z z<|Kf z<|Nt<|T.cH H z (fun H=>?_) fun H=>?_
 ·exact Sg z<|Nr<|Tr<|E1 H
 exact Ks<|Sm z<|Ag z<|Nr<|E1 H
theorem B6N {h a b c} (H:A4k a b=some c):∀ L,FnW prog 176 [.int .i64 a,.int .i64 b] h L (.int .i64 c):=by
 intro L
 refine J6.enter func176 z z z<|Sr<|An z<|Sq<|Sm z<|Wl z z<|Mv z<|T.bH 7 H z (fun H=>?_) fun H=>?_
 ·exact S2<|Kt z<|Mv z<|S2<|Kt z<|Mv z<|S2<|Kt z<|Nt<|Ct z<|Sg z<|Nr<|Tr<|E1 H
 refine Mv z<|Wg z z<|Kf z<|Mv z<|T.bH 11 H z (fun H=>?_) fun H=>?_
 ·exact S2<|Kt z<|Mv z<|S2<|Kt z<|Nt<|Ct z<|Sg z<|Nr<|Tr<|E1 H
 refine Mv z<|Wl z z<|Kf z<|Mv z<|T.bH 15 H z (fun H=>?_) fun H=>?_
 ·exact S2<|Kt z<|Nt<|Ct z<|Sg z<|Nr<|Tr<|E1 H
 refine Mv z<|Wg z z<|Kf z<|Nt<|T.cH H z (fun H=>?_) fun H=>?_
 ·exact Sg z<|Nr<|Tr<|E1 H
 exact Ks<|Sm z<|bE H fun f d H=>Vv (V.B0g z z d)<|Mv z<|bE H fun g e H=>Vv (V.H8 z z e)<|Ag z<|Nr<|E1 H
theorem B7h {h a b c} (H:A4i a b=some c):∀ L,FnW prog 181 [.int .i64 a,.int .i64 b] h L (.int .i64 c):=by
 intro L
 refine J6.enter func181 z z z<|Sr<|An z<|Sq<|Sm z<|Wl z z<|Mv z<|T.bH 7 H z (fun H=>?_) fun H=>?_
 ·exact S2<|Kt z<|Mv z<|S2<|Kt z<|Mv z<|S2<|Kt z<|Nt<|Ct z<|Sg z<|Nr<|Tr<|E1 H
 refine Mv z<|Wg z z<|Kf z<|Mv z<|T.bH 11 H z (fun H=>?_) fun H=>?_
 ·exact S2<|Kt z<|Mv z<|S2<|Kt z<|Nt<|Ct z<|Sg z<|Nr<|Tr<|E1 H
 refine Mv z<|Wl z z<|Kf z<|Mv z<|T.bH 15 H z (fun H=>?_) fun H=>?_
 ·exact S2<|Kt z<|Nt<|Ct z<|Sg z<|Nr<|Tr<|E1 H
 refine Mv z<|Wg z z<|Kf z<|Nt<|T.cH H z (fun H=>?_) fun H=>?_
 ·exact Sg z<|Nr<|Tr<|E1 H
 exact Ks<|Sm z<|Mv z<|bE H fun f d H=>Vv (V.B0g z z d)<|bE H fun g e H=>Vv (V.H8 z z e)<|Ag z<|Nr<|E1 H
theorem B7K {h a b c} (H:A4V a b=some c):∀ L,FnW prog 186 [.int .i64 a,.int .i64 b] h L (.int .i64 c):=by
 intro L
 refine J6.enter func186 z z z<|Sr<|An z<|Sq<|Sm z<|Wl z z<|Mv z<|T.bH 7 H z (fun H=>?_) fun H=>?_
 ·exact S2<|Kt z<|Mv z<|S2<|Kt z<|Mv z<|S2<|Sk<|Kt z<|Nt<|Ct z<|Sg z<|Nr<|Tr<|E1 H
 refine Mv z<|Wg z z<|Kf z<|Mv z<|T.bH 11 H z (fun H=>?_) fun H=>?_
 ·exact S2<|Kt z<|Mv z<|S2<|Sk<|Kt z<|Nt<|Ct z<|Sg z<|Nr<|Tr<|E1 H
 refine Mv z<|Wl z z<|Kf z<|Mv z<|T.bH 15 H z (fun H=>?_) fun H=>?_
 ·exact S2<|Sk<|Kt z<|Nt<|Ct z<|Sg z<|Nr<|Tr<|E1 H
 refine Mv z<|Mv z<|Wg z z<|Kf z<|Nt<|T.cH H z (fun H=>?_) fun H=>?_
 ·exact Sg z<|Nr<|Tr<|E1 H
 exact Ks<|Sm z<|Ag z<|Nr<|E1 H
theorem B4z {h a b c d e} (H:A2L a b c d=some e):∀ L,FnW prog 172 [.int .i64 a,.int .i64 b,.int .i64 c,.int .i64 d] h L (.bool e):=by
 intro L
 refine J6.enter func172 z z z<|Sr<|An z<|Sm z<|Mv z<|bE H fun j f H=>Vv (V.Y9 z z f)<|We z z<|Mv z<|T.bH 13 H z (fun H=>?_) fun H=>?_
 ·exact S2<|S2<|S2<|Kt z<|Ag z<|Nr<|E1 H
 exact Mv z<|Mv z<|bE H fun k g H=>Vv (V.Y9 z z g)<|Mv z<|bE H fun m i H=>Vv (V.Y9 z z i)<|We z z<|Kf z<|Ag z<|Nr<|E1 H
theorem B4B {h a b c d e} (H:A2O a b c d=some e):∀ L,FnW prog 173 [.int .i64 a,.int .i64 b,.int .i64 c,.int .i64 d] h L (.bool e):=by
 intro L
 refine J6.enter func173 z z z<|Sr<|An z<|Sm z<|bE H fun j f H=>Vv (V.A1c z z f)<|We z z<|Mv z<|T.bH 12 H z (fun H=>?_) fun H=>?_
 ·exact Mv z<|Mv z<|bE H fun k g H=>Vv (V.Y9 z z g)<|Mv z<|bE H fun m i H=>Vv (V.B2U z z i)<|We z z<|Kt z<|Ag z<|Nr<|E1 H
 exact S2<|S2<|S2<|Kf z<|Ag z<|Nr<|E1 H
theorem B5N {h e g f d i} (H:A3r e g f d=some i):∀ L,FnW prog 177 [.int .i64 e,.int .i64 g,.int .i64 f,.int .i64 d] h L (.bool i):=by
 intro L
 refine J6.enter func177 z z z<|Sr<|An z<|Sm z<|Mv z<|bE H fun K j H=>To (O.cs (B3s j _) fun N S=>An z<|Sq<|Bl<|Sq ?_)
 obtain ⟨n,o,p⟩:=K4 H
 refine T.ck (α:=Bool) [0,1,2,3,9] (fun a=>([(13,.bool a)],L,fun hh=>n=a)) ?_ ?_
 ·have H:=o
  refine Rg<|Mv z<|We z z<|Mv z<|T.bH 16 H z (fun H=>?_) fun H=>?_
  ·refine Mv z<|Mv z<|bE H fun U q H=>Vv (V.B0g z z q)<|bE H fun r s H=>Vv (V.H8 z z s)<|We z z<|Kt z<|An z<|T.mt (decide (d=r)) (M7 H)
  refine S2<|S2<|Sk<|Kf z<|An z<|T.mt false (M7 H)
 rintro a W X t
 have H:=I7 t p
 refine T.norm [13,0,1,2,3,9] z<|T.fl ?_
 refine T.cH H z (fun H=>?_) fun H=>?_
 ·refine Sq ?_
  obtain ⟨u,w,x⟩:=K4 H
  refine T.ck (α:=Bool) [] (fun b=>([(8,.bool b)],L,fun hh=>u=b)) ?_ ?_
  ·have H:=w
   refine Rg<|Mv z<|We z z<|Mv z<|T.bH 25 H z (fun H=>?_) fun H=>?_
   ·refine S2<|S2<|Kt z<|An z<|T.mt true (M7 H)
   refine Mv z<|Mv z<|bE H fun y A H=>Vv (V.Y9 z z A)<|We z z<|Kf z<|An z<|T.mt (decide (f=y)) (M7 H)
  rintro b Y Z B
  have H:=I7 B x
  refine T.norm [8] z<|T.fl ?_
  exact T.ret<|Br<|Tr<|E1 H
 refine Sq ?_
 obtain ⟨C,D,E⟩:=K4 H
 refine T.ck (α:=Bool) [0,2,3,9] (fun c=>([(31,.bool c)],L,fun hh=>C=c)) ?_ ?_
 ·have H:=D
  refine Rg<|Mv z<|Wg z z<|Mv z<|T.bH 34 H z (fun H=>?_) fun H=>?_
  ·refine Mv z<|Mv z<|We z z<|Mv z<|T.bH 38 H z (fun H=>?_) fun H=>?_
   ·refine S2<|Sk<|Kt z<|Kt z<|An z<|T.mt true (M7 H)
   refine Mv z<|Mv z<|We z z<|Kf z<|Kt z<|An z<|T.mt (decide (d=e)) (M7 H)
  refine S2<|S2<|S2<|S2<|Kf z<|An z<|T.mt false (M7 H)
 rintro c aa ab G
 have H:=I7 G E
 refine T.norm [31,0,2,3,9] z<|T.fl ?_
 refine T.cH H z (fun H=>?_) fun H=>?_
 ·exact Sm z<|Mv z<|bE H fun ac I H=>Vv (V.Y9 z z I)<|We z z<|Ag z<|Nr<|Br<|Tr<|E1 H
 refine T.skip<|Bn<|Th<|Sm z<|Mv z<|bE H fun ad J H=>Vv (V.Y9 z z J)<|We z z<|Mv z<|T.bH 52 H z (fun H=>?_) fun H=>?_
 ·refine Mv z<|Mv z<|Wl z z<|Mv z<|T.bH 56 H z (fun H=>?_) fun H=>?_
  ·exact S2<|Sk<|Kt z<|Kt z<|Ag z<|Nr<|E1 H
  exact Mv z<|Mv z<|Vv (V.ge z z)<|Kf z<|Kt z<|Ag z<|Nr<|E1 H
 exact S2<|S2<|S2<|S2<|Kf z<|Ag z<|Nr<|E1 H
theorem B6i {h c d e b f} (H:A3n c d e b=some f):∀ L,FnW prog 178 [.int .i64 c,.int .i64 d,.int .i64 e,.int .i64 b] h L (.bool f):=by
 intro L
 refine J6.enter func178 z z z<|Sr<|An z<|Sq<|Sq ?_
 obtain ⟨g,i,j⟩:=K4 H
 refine T.ck (α:=Bool) [0,1,2,3] (fun a=>([(17,.bool a)],L,fun hh=>g=a)) ?_ ?_
 ·have H:=i
  refine Rg<|Mv z<|We z z<|Mv z<|T.bH 11 H z (fun H=>?_) fun H=>?_
  ·refine Mv z<|Mv z<|bE H fun w k H=>Vv (V.B0g z z k)<|bE H fun m n H=>Vv (V.H8 z z n)<|We z z<|Kt z<|Nt<|T.mt (decide (b=m)) (M7 H)
  refine S2<|S2<|Sk<|Kf z<|Nt<|T.mt false (M7 H)
 rintro a x y o
 have H:=I7 o j
 refine T.norm [17,0,1,2,3] z<|T.fl ?_
 refine T.cH H z (fun H=>?_) fun H=>?_
 ·exact Sm z<|Mv z<|We z z<|Ag z<|Nr<|Tr<|E1 H
 refine Ks<|Sm z<|Mv z<|Wl z z<|Mv z<|T.bH 24 H z (fun H=>?_) fun H=>?_
 ·exact Mv z<|Mv z<|bE H fun A p H=>Vv (V.H8 z z p)<|Mv z<|Mv z<|bE H fun B q H=>To (O.cs (B3s q _) fun D G=>Mv z<|bE H fun I t H=>Vv (V.H8 z z t)<|bE H fun J u H=>Vv (V.Y9 z z u)<|We z z<|Kt z<|Ag z<|Nr<|E1 H)
 exact S2<|S2<|S2<|S2<|S2<|Kf z<|Ag z<|Nr<|E1 H
theorem B5G {h a b c} (H:A3j a b=some c):∀ L,FnW prog 179 [.int .i64 a,.int .i64 b] h L (.int .i64 c):=by
 intro L
 refine J6.enter func179 z z z<|Sr<|An z<|Sq<|Sm z<|Wg z z<|Nt<|T.cH H z (fun H=>?_) fun H=>?_
 ·exact Sm z<|Ag z<|Nr<|Tr<|E1 H
 exact Ks<|Sm z<|bE H fun e d H=>Vv (V.B2U z z d)<|Ag z<|Nr<|E1 H
theorem B5F {h a b c d e} (H:A3z a b c d=some e):∀ L,FnW prog 182 [.int .i64 a,.int .i64 b,.int .i64 c,.int .i64 d] h L (.bool e):=by
 intro L
 exact J6.enter func182 z z z<|Sr<|An z<|Sm z<|Mv z<|bE H fun g f H=>Vv (V.Y9 z z f)<|We z z<|Ag z<|Nr<|E1 H
theorem B5I {h a b c d e} (H:A3s a b c d=some e):∀ L,FnW prog 183 [.int .i64 a,.int .i64 b,.int .i64 c,.int .i64 d] h L (.bool e):=by
 intro L
 refine J6.enter func183 z z z<|Sr<|An z<|Sm z<|Mv z<|Wl z z<|Mv z<|T.bH 12 H z (fun H=>?_) fun H=>?_
 ·exact Mv z<|Mv z<|bE H fun k f H=>Vv (V.H8 z z f)<|Mv z<|Mv z<|bE H fun m g H=>Vv (V.B0g z z g)<|bE H fun n i H=>Vv (V.H8 z z i)<|bE H fun o j H=>Vv (V.Y9 z z j)<|We z z<|Kt z<|Ag z<|Nr<|E1 H
 exact S2<|S2<|S2<|S2<|Sk<|Kf z<|Ag z<|Nr<|E1 H
theorem B6w {h a b c d e} (H:A3T a b c d=some e):∀ L,FnW prog 187 [.int .i64 a,.int .i64 b,.int .i64 c,.int .i64 d] h L (.bool e):=by
 intro L
 refine J6.enter func187 z z z<|Sr<|An z<|Sm z<|Mv z<|bE H fun i f H=>Vv (V.Y9 z z f)<|We z z<|Mv z<|T.bH 13 H z (fun H=>?_) fun H=>?_
 ·refine Mv z<|We z z<|Mv z<|T.bH 16 H z (fun H=>?_) fun H=>?_
  ·exact S2<|S2<|Kt z<|Kt z<|Ag z<|Nr<|E1 H
  exact Mv z<|Mv z<|bE H fun j g H=>Vv (V.A1c z z g)<|Wn z z<|Kf z<|Kt z<|Ag z<|Nr<|E1 H
 exact S2<|S2<|S2<|S2<|Kf z<|Ag z<|Nr<|E1 H
theorem B2b {h a b} (H:A6b a=some b):∀ L,FnW prog 223 [.int .i64 a] h L (.int .i64 b):=by
 intro L
 exact J6.enter func223 z z z<|Sr<|An z<|Sm z<|Ag z<|Nr<|E1 H
theorem C3P {h a b c} (H:B7W a b=some c):∀ L,FnW prog 174 [.int .i64 a,.int .i64 b] h L (.int .i64 c):=by
 intro L
 exact J6.enter func174 z z z<|Sr<|An z<|Sg z<|Nr<|E1 H
theorem C2R {h a b c} (H:B4q a b=some c):∀ L,FnW prog 184 [.int .i64 a,.int .i64 b] h L (.int .i64 c):=by
 intro L
 exact J6.enter func184 z z z<|Sr<|An z<|Sm z<|Mv z<|bE H fun f d H=>Vv (V.B2U z z d)<|bE H fun g e H=>Vv (V.H8 z z e)<|Ag z<|Nr<|E1 H
theorem C2N {h a b c d e} (H:B7T a b c d=some e):∀ L,FnW prog 188 [.int .i64 a,.int .i64 b,.int .i64 c,.int .i64 d] h L (.bool e):=by
 intro L
 exact J6.enter func188 z z z<|Sr<|An z<|Sg z<|Nr<|E1 H
theorem C3f {h a b c} (H:B3X a b=some c):∀ L,FnW prog 189 [.int .i64 a,.int .i64 b] h L (.int .i64 c):=by
 intro L
 exact J6.enter func189 z z z<|Sr<|An z<|Sm z<|bE H fun e d H=>Vv (V.B2U z z d)<|Ag z<|Nr<|E1 H
theorem B4w {h a b c d e f g i} (j:Z0 h b c) (k:(VI .i64) h c d) (m:Z0 h e f) (n:(VI .i64) h f g) (H:A7v a d g=some i):∀ L,FnW prog 217 [.int .i64 a,.pointer (some b),.pointer (some e)] h L (.int .i64 i):=by
 intro L
 obtain rfl:=k
 obtain rfl:=n
 exact J6.enter func217 z z z<|Sr<|An z<|Sm z<|Vv (V.S9 D7 z j z)<|bE H fun q o H=>Vv (V.H8 z z o)<|Vv (V.S9 D7 z m z)<|bE H fun r p H=>Vv (V.A1c z z p)<|Ag z<|Nr<|E1 H
theorem B4E {h a b c d e f g i} (k:Z0 h b c) (m:(VI .i64) h c d) (j:Z0 h e f) (n:(VI .i64) h f g) (H:A7y a d g=some i):∀ L,FnW prog 218 [.int .i64 a,.pointer (some b),.pointer (some e)] h L (.int .i64 i):=by
 intro L
 obtain rfl:=m
 obtain rfl:=n
 exact J6.enter func218 z z z<|Sr<|An z<|Sr<|Vv (V.S9 D7 z k z)<|Mv z<|bE H fun r o H=>Vv (V.Y9 z z o)<|Vv (V.S9 D7 z j z)<|bE H fun s p H=>Vv (V.H8 z z p)<|Vv (V.S9 D7 z j z)<|bE H fun t q H=>Vv (V.A1c z z q)<|Ag z<|Nr<|E1 H
theorem B5C {h d q r} (H:A8C d q=some r):∀ L,J6 prog 175 [.int .i64 d,.int .i64 q] h (L) (fun v h' L'=>L'=L∧F8 A3o 1 h' v r):=by
 intro L
 refine J6.enter func175 z z z<|Sr<|To (O.U5 z z z fun b C ac m=>An z<|Sr<|An z<|Sq<|Sr<|Vv (V.S9 D7 z m z)<|Mv z<|Nt ?_)
 obtain ⟨D,E,G⟩:=K4 H
 have H:=E
 refine Bl<|T.R4 135 1<|have I:A7 A3o C [] ([]:List (Int→Option Int)):=A7.nil; T.lk [2,7] (FUEL,([]:List (Int→Option Int)),(0:Int),(qs),[]) (fun ⟨g,i,a,k,f⟩=>([(5,k),(8,qi a)],F5 135 1 k f::L,fun hh=>iter (B0b d) g (i,a)=some D∧A7 A3o hh f i)) ⟨H,I⟩ ?_
 rintro ⟨g,i,a,k,f⟩ ad ae ⟨J,n⟩
 obtain ⟨K,af,rfl,H,s⟩:=G8 J
 refine T.norm [5,8,2,7] z<|T.fl ?_
 refine Sr<|Wl z z<|Nt<|Sq<|T.cH H z (fun H=>?_) fun H=>?_
 ·refine Ks<|Sq<|Bl<|Sm z<|To (O.alloc K8 z z fun c=>To (O.stF (vs:=[qi a]) D7 z z (j:=0) z z z z<|T.freeze fun t ai M=>have w:=Z0.of M; Nt<|Rg<|Mv z<|Vv (V.mkf z z)<|Vv (V.mkf z z)<|To (O.bs A1L A3h z (e:=z) (hk:=z) (xs:=[.tmp 12,.tmp 13]) (hv:=CO.eq (CO.cons z (CO.cons z CO.nil))) (hw:=O3.of z) (hd:=z) fun aj=>have o:A7 A3o t [[.func (.func 217) #[] #[qp c,qp b]],[.func (.func 218) #[] #[qp c,qp b]]] ([(fun p=>A7v p a d),(fun p=>A7y p a d)]:List (Int→Option Int)):=(A7.cons ⟨(.func (.func 217) #[] #[qp c,qp b]),z,⟨⟨z,z⟩,.inr ⟨217,[],[qp c,qp b],z,fun x ak am an N P=>B4w w.u (show (VI .i64) x [qi a] a from z) m.u (show (VI .i64) x [qi d] d from z) N P⟩⟩⟩ (A7.cons ⟨(.func (.func 218) #[] #[qp c,qp b]),z,⟨⟨z,z⟩,.inr ⟨218,[],[qp c,qp b],z,fun y ao aq ar S U=>B4E w.u (show (VI .i64) y [qi a] a from z) m.u (show (VI .i64) y [qi d] d from z) S U⟩⟩⟩ A7.nil)); bE H fun A B H=>To (O.apX A1L A1L A3h z z z (j:=1) z (Src.row (j:=0) z) (O3.of z) (A7.ones A3o.plain o) n.u o B z fun W au aw=>have X:A7 A3o t (f ++ [[.func (.func 217) #[] #[qp c,qp b]],[.func (.func 218) #[] #[qp c,qp b]]]) A:=A7.ap n.u o B; Fr_ 1 z<|T.drop<|Ag z<|Ni<|Bn<|Th<|Rg<|bE H fun Y Z H=>Vv (V.H8 z z Z)<|Mv z<|Nt<|T.ag (K,A,Y,W,(f ++ [[.func (.func 217) #[] #[qp c,qp b]],[.func (.func 218) #[] #[qp c,qp b]]])) ⟨(D8 H s),X⟩))))
 refine T.exit<|Te<|Te<|have H:=D6 H s; Be<|Th<|have H:=I7 H G; Sm z<|Ag z<|Nr<|T.K5 fun ax ay aa=>have ab:=A7.slc aa n.u; ?_
 cases H
 exact T.rl z (Rv z) ⟨z,ab⟩
theorem A3d {h c d e f g i j k} (a:Z0 h d e) (m:(VI .i64) h e f) (b:Z0 h g i) (n:(VI .i64) h i j) (H:R6 c f j=some k):∀ L,FnW prog 220 [.int .i64 c,.pointer (some d),.pointer (some g)] h L (.bool k):=by
 intro L
 obtain rfl:=m
 obtain rfl:=n
 refine J6.enter func220 z z z<|Sr<|An z<|Sr<|Vv (V.S9 D7 z a z)<|Wg z z<|Mv z<|T.bH 7 H z (fun H=>?_) fun H=>?_
 ·refine Mv z<|Vv (V.S9 D7 z b z)<|We z z<|Kt z<|Mv z<|T.bH 12 H z (fun H=>?_) fun H=>?_
  ·exact S2<|S2<|S2<|S2<|Sk<|Kt z<|Ag z<|Nr<|E1 H
  refine Vv (V.S9 D7 z a z)<|We z z<|Mv z<|T.bH 15 H z (fun H=>?_) fun H=>?_
  ·exact Mv z<|Vv (V.S9 D7 z b z)<|bE H fun s o H=>Vv (V.B0g z z o)<|bE H fun t p H=>Vv (V.H8 z z p)<|We z z<|Kt z<|Kf z<|Ag z<|Nr<|E1 H
  exact S2<|S2<|Sk<|Kf z<|Kf z<|Ag z<|Nr<|E1 H
 refine S2<|Sk<|Kf z<|Mv z<|Vv (V.S9 D7 z a z)<|We z z<|Mv z<|T.bH 15 H z (fun H=>?_) fun H=>?_
 ·exact Mv z<|Vv (V.S9 D7 z b z)<|bE H fun u q H=>Vv (V.B0g z z q)<|bE H fun w r H=>Vv (V.H8 z z r)<|We z z<|Kt z<|Kf z<|Ag z<|Nr<|E1 H
 exact S2<|S2<|Sk<|Kf z<|Kf z<|Ag z<|Nr<|E1 H
theorem B0h {h a b c d e f g i j k m} (n:Z0 h b c) (o:C2p h c d) (p:Z0 h e f) (q:(VI .i64) h f g) (r:Z0 h i j) (s:(VI .i64) h j k) (H:A1j a d g k=some m):∀ L,FnW prog 221 [.int .i64 a,.pointer (some b),.pointer (some e),.pointer (some i)] h L (.int .i64 m):=by
 intro L
 obtain ⟨G,rfl,t⟩:=o
 obtain rfl:=q
 obtain rfl:=s
 refine J6.enter func221 z z z<|Sr<|An z<|Sq<|Sr<|Vv (V.S9 B5W z n z)<|Mv z<|bE H fun I w H=>?_
 obtain ⟨J,K,M,x,y⟩:=A2z.call t w
 refine To (O.A1e z x z (y _) z fun N P S U A=>?_)
 obtain ⟨rfl,B⟩:=A
 refine P7 _ B<|Nt<|T.cH H z (fun H=>?_) fun H=>?_
 ·exact Sm z<|Ag z<|Nr<|Tr<|E1 H
 exact Ks<|Sr<|Vv (V.S9 D7 z p.u z)<|Vv (V.S9 D7 z r.u z)<|bE H fun W C H=>Vv (V.H8 z z C)<|bE H fun X D H=>Vv (V.Y9 z z D)<|Mv z<|bE H fun Y E H=>Vv (V.Y9 z z E)<|Ag z<|Nr<|E1 H
theorem A9A {h b c d e f g i j k m n} (o:Z0 h c d) (p:C2p h d e) (a:Z0 h f g) (q:(VI .i64) h g i) (r:Z0 h j k) (s:(VI .i64) h k m) (H:A1V b e i m=some n):∀ L,FnW prog 222 [.int .i64 b,.pointer (some c),.pointer (some f),.pointer (some j)] h L (.int .i64 n):=by
 intro L
 obtain ⟨P,rfl,t⟩:=p
 obtain rfl:=q
 obtain rfl:=s
 refine J6.enter func222 z z z<|Sr<|An z<|Sq<|Bl<|Sr<|Vv (V.S9 B5W z o z)<|Mv z<|bE H fun S w H=>?_
 obtain ⟨U,W,X,x,y⟩:=A2z.call t w
 refine To (O.A1e z x z (y _) z fun Y Z aa ab A=>?_)
 obtain ⟨rfl,B⟩:=A
 refine P7 _ B<|An z<|T.cH H z (fun H=>?_) fun H=>?_
 ·exact Sr<|Vv (V.S9 D7 z a.u z)<|bE H fun ac C H=>Vv (V.B0g z z C)<|bE H fun ad D H=>Vv (V.H8 z z D)<|Mv z<|bE H fun ae E H=>Vv (V.Y9 z z E)<|Ag z<|Nr<|Br<|Tr<|E1 H
 refine Sm z<|Vv (V.S9 D7 z a.u z)<|Wl z z<|An z<|T.cH H z (fun H=>?_) fun H=>?_
 ·exact Sr<|Vv (V.S9 D7 z a.u z)<|bE H fun af G H=>Vv (V.Y9 z z G)<|Mv z<|bE H fun ag I H=>Vv (V.Y9 z z I)<|Ag z<|Nr<|Br<|Tr<|E1 H
 exact T.skip<|Bn<|Th<|Sr<|Vv (V.S9 D7 z r.u z)<|bE H fun ai J H=>Vv (V.B0g z z J)<|Vv (V.S9 D7 z a.u z)<|bE H fun aj K H=>Vv (V.H8 z z K)<|bE H fun ak M H=>Vv (V.Y9 z z M)<|Mv z<|bE H fun am N H=>Vv (V.Y9 z z N)<|Ag z<|Nr<|E1 H
theorem B5R {h a b c d e f i j} (k:Z0 h b c) (m:A3o h c d) (n:Z0 h e f) (o:A3o h f i) (H:A8D a d i=some j):∀ L,FnW prog 224 [.int .i64 a,.pointer (some b),.pointer (some e)] h L (.int .i64 j):=by
 intro L
 obtain ⟨I,rfl,p⟩:=m
 obtain ⟨J,rfl,q⟩:=o
 refine J6.enter func224 z z z<|Sr<|An z<|Sq<|T.N8 (t:=(.vs [0,1,2] (.alt 3 (.alt 4 (.alt 5 .done .no) .no) .no))) 7 0 0 z z I5 (by kernel_rfl) ?_
 refine Tv z (V.S9 A5H z k z)<|Tv z (V.S9 A5H z n z)<|Tm z z<|bE H fun K r H=>?_
 obtain ⟨M,N,P,s,w⟩:=A8M.call q r
 refine Tp z z (X2 z z) (O.A1e z s z (w _) z fun S x U W y=>?_) T.P5
 obtain ⟨rfl,A⟩:=y
 refine P7 _ A<|bE H fun X B H=>?_
 obtain ⟨Y,Z,aa,C,D⟩:=A8M.call (p.u (g:=x)) B
 refine Tp z z (SX.two (XA.fr [] Li z) (XA.fr [] Li z)) (O.A1e z C z (D _) z fun ab ac ad ae E=>?_) T.P5
 obtain ⟨rfl,G⟩:=E
 refine P7 _ G<|Ts z z (SX.two (XA.fr [] Li z) (XA.fr [] Li z)) (V.asg z) z ?_ T.P5
 exact T.O7 (SX.two (XA.fr [] Li z) (XA.fr [] Li z))<|Th<|T.ret<|E1 H
theorem B7f {h a d x} (H:A9H a d=some x):∀ L,J6 prog 180 [.int .i64 a,.int .i64 d] h (L) (fun v h' L'=>L'=L∧F8 A3o 1 h' v x):=by
 intro L
 refine J6.enter func180 z z z<|Sr<|To (O.U5 z z z fun c aO aP m=>To (O.U5 z z z fun k aS aU o=>An z<|Sr<|Vv (V.S9 D7 z m.u z)<|Vv (V.S9 D7 z o z)<|bE H fun i P H=>To (O.cs (B3s P _) fun aW aY=>To (O.alloc K8 z z fun f=>To (O.stF (vs:=[qi i]) D7 z z (j:=0) z z z z<|T.freeze fun aZ a0 W=>have p:=Z0.of W; Nt<|Sr<|Vv (V.mkf z z)<|To (O.alloc C5R z z fun g=>To (O.stF (vs:=[.func (.func 220) #[] #[qp k,qp c]]) B5W z z (j:=0) z z z z<|T.freeze fun a1 a2 X=>have q:=Z0.of X; Nt<|Sr<|Vv (V.mkf z z)<|To (O.alloc A3h z z fun r=>To (O.stF (vs:=[.func (.func 221) #[] #[qp g,qp f,qp c]]) A5H z z (j:=0) z z z z<|T.freeze fun a3 a4 Y=>have y:=Z0.of Y; Nt<|Sr<|Vv (V.mkf z z)<|To (O.alloc A3h z z fun s=>To (O.stF (vs:=[.func (.func 222) #[] #[qp g,qp c,qp f]]) A5H z z (j:=0) z z z z<|T.freeze fun n a5 Z=>have A:=Z0.of Z; Nt<|Sr<|Vv (V.S9 A5H z y.u z)<|To (O.bs A1L A3h z (e:=z) (hk:=z) (xs:=[.func 223,.tmp 16]) (hv:=CO.eq (CO.cons z (CO.cons z CO.nil))) (hw:=O3.of z) (hd:=z) fun a6=>have t:A7 A3o n [[.func (.func 223) #[] #[]],[.func (.func 221) #[] #[qp g,qp f,qp c]]] ([A6b,(fun b=>A1j b (fun b=>R6 b d a) i a)]:List (Int→Option Int)):=(A7.cons ⟨(.func (.func 223) #[] #[]),z,⟨⟨z,z⟩,.inr ⟨223,[],[],z,fun a7 a8 a9 ah aa ab=>B2b aa ab⟩⟩⟩ (A7.cons ⟨(.func (.func 221) #[] #[qp g,qp f,qp c]),z,⟨⟨z,z⟩,.inr ⟨221,[],[qp g,qp f,qp c],z,fun B ac al av ad ae=>B0h q.u ⟨(.func (.func 220) #[] #[qp k,qp c]),z,(A2z.mono (show A2z n (.func (.func 220) #[] #[qp k,qp c]) (fun b=>R6 b d a) from ⟨⟨z,z⟩,.inr ⟨220,[],[qp k,qp c],z,fun C az ba bb af ag=>A3d o.u (show (VI .i64) C [qi d] d from z) m.u (show (VI .i64) C [qi a] a from z) af ag⟩⟩) ac)⟩ p.u (show (VI .i64) B [qi i] i from z) m.u (show (VI .i64) B [qi a] a from z) ad ae⟩⟩⟩ A7.nil)); An z<|Sq<|Sr<|Vv (V.S9 D7 z o.u z)<|Wn z z<|Nt<|T.cH H z (fun H=>?_) fun H=>?_))))))))))))
 ·refine Rg<|Mv z<|Vv (V.S9 A5H z A z)<|Vv (V.mkf z z)<|To (O.bs A1L A3h z (e:=z) (hk:=z) (xs:=[.tmp 21,.tmp 22]) (hv:=CO.eq (CO.cons z (CO.cons z CO.nil))) (hw:=O3.of z) (hd:=z) fun bc=>have w:A7 A3o n [[.func (.func 222) #[] #[qp g,qp c,qp f]],[.func (.func 224) #[] #[qp r,qp s]]] ([(fun b=>A1V b (fun b=>R6 b d a) a i),(fun b=>A8D b (fun b=>A1j b (fun b=>R6 b d a) i a) (fun b=>A1V b (fun b=>R6 b d a) a i))]:List (Int→Option Int)):=(A7.cons ⟨(.func (.func 222) #[] #[qp g,qp c,qp f]),z,⟨⟨z,z⟩,.inr ⟨222,[],[qp g,qp c,qp f],z,fun D ai bd be aj ak=>A9A q.u ⟨(.func (.func 220) #[] #[qp k,qp c]),z,(A2z.mono (show A2z n (.func (.func 220) #[] #[qp k,qp c]) (fun b=>R6 b d a) from ⟨⟨z,z⟩,.inr ⟨220,[],[qp k,qp c],z,fun E bf bg bi am an=>A3d o.u (show (VI .i64) E [qi d] d from z) m.u (show (VI .i64) E [qi a] a from z) am an⟩⟩) ai)⟩ m.u (show (VI .i64) D [qi a] a from z) p.u (show (VI .i64) D [qi i] i from z) aj ak⟩⟩⟩ (A7.cons ⟨(.func (.func 224) #[] #[qp r,qp s]),z,⟨⟨z,z⟩,.inr ⟨224,[],[qp r,qp s],z,fun bj G bk bm ao aq=>B5R y.u ⟨(.func (.func 221) #[] #[qp g,qp f,qp c]),z,(A8M.mono (show A8M n (.func (.func 221) #[] #[qp g,qp f,qp c]) (fun b=>A1j b (fun b=>R6 b d a) i a) from ⟨⟨z,z⟩,.inr ⟨221,[],[qp g,qp f,qp c],z,fun I ar bn bo au aw=>B0h q.u ⟨(.func (.func 220) #[] #[qp k,qp c]),z,(A2z.mono (show A2z n (.func (.func 220) #[] #[qp k,qp c]) (fun b=>R6 b d a) from ⟨⟨z,z⟩,.inr ⟨220,[],[qp k,qp c],z,fun J bp bq br ax ay=>A3d o.u (show (VI .i64) J [qi d] d from z) m.u (show (VI .i64) J [qi a] a from z) ax ay⟩⟩) ar)⟩ p.u (show (VI .i64) I [qi i] i from z) m.u (show (VI .i64) I [qi a] a from z) au aw⟩⟩) G)⟩ A.u ⟨(.func (.func 222) #[] #[qp g,qp c,qp f]),z,(A8M.mono (show A8M n (.func (.func 222) #[] #[qp g,qp c,qp f]) (fun b=>A1V b (fun b=>R6 b d a) a i) from ⟨⟨z,z⟩,.inr ⟨222,[],[qp g,qp c,qp f],z,fun K aA bt bu aB aC=>A9A q.u ⟨(.func (.func 220) #[] #[qp k,qp c]),z,(A2z.mono (show A2z n (.func (.func 220) #[] #[qp k,qp c]) (fun b=>R6 b d a) from ⟨⟨z,z⟩,.inr ⟨220,[],[qp k,qp c],z,fun M bw bx bA aD aE=>A3d o.u (show (VI .i64) M [qi d] d from z) m.u (show (VI .i64) M [qi a] a from z) aD aE⟩⟩) aA)⟩ m.u (show (VI .i64) K [qi a] a from z) p.u (show (VI .i64) K [qi i] i from z) aB aC⟩⟩) G)⟩ ao aq⟩⟩⟩ A7.nil)); bE H fun aG N H=>To (O.apX A1L A1L A3h z z z (j:=1) z (Src.row (j:=0) z) (O3.of z) (A7.ones A3o.plain w) t w N z fun bB bC bD=>have aI:A7 A3o n ([[.func (.func 223) #[] #[]],[.func (.func 221) #[] #[qp g,qp f,qp c]]] ++ [[.func (.func 222) #[] #[qp g,qp c,qp f]],[.func (.func 224) #[] #[qp r,qp s]]]) aG:=A7.ap t w N; Fr_ 1 z<|T.drop<|An z<|Sm z<|Ag z<|Nr<|T.K5 fun bG bI aJ=>have aK:=A7.slc aJ aI.u; ?_))
  cases H
  exact T.rl z (Rv z) ⟨z,aK⟩
 refine Ks<|Sm z<|Ag z<|Nr<|T.K5 fun bJ bK aM=>have aN:=A7.slc aM t.u; ?_
 cases H
 exact T.rl z (Rv z) ⟨z,aN⟩
theorem B6d {h a b c d e f g i} (j:Z0 h b c) (k:(VI .i64) h c d) (m:Z0 h e f) (n:(VI .i64) h f g) (H:A8H a d g=some i):∀ L,FnW prog 225 [.int .i64 a,.pointer (some b),.pointer (some e)] h L (.int .i64 i):=by
 intro L
 obtain rfl:=k
 obtain rfl:=n
 exact J6.enter func225 z z z<|Sr<|An z<|Sr<|Vv (V.S9 D7 z j z)<|Vv (V.S9 D7 z m z)<|bE H fun s o H=>Vv (V.B0g z z o)<|bE H fun t p H=>Vv (V.H8 z z p)<|bE H fun u q H=>Vv (V.Y9 z z q)<|Mv z<|bE H fun w r H=>Vv (V.Y9 z z r)<|Ag z<|Nr<|E1 H
theorem B6A {h a b f} (H:B0i a b=some f):∀ L,J6 prog 185 [.int .i64 a,.int .i64 b] h (L) (fun v h' L'=>L'=L∧F8 A3o 1 h' v f):=by
 intro L
 refine J6.enter func185 z z z<|Sr<|To (O.U5 z z z fun c w x i=>To (O.U5 z z z fun d j y k=>An z<|Sr<|Vv (V.mkf z z)<|To (O.bs A1L A3h z (e:=z) (hk:=z) (xs:=[.func 223,.tmp 5]) (hv:=CO.eq (CO.cons z (CO.cons z CO.nil))) (hw:=O3.of z) (hd:=z) fun A=>have m:A7 A3o j [[.func (.func 223) #[] #[]],[.func (.func 225) #[] #[qp c,qp d]]] ([A6b,(fun n=>A8H n a b)]:List (Int→Option Int)):=(A7.cons ⟨(.func (.func 223) #[] #[]),z,⟨⟨z,z⟩,.inr ⟨223,[],[],z,fun B C D E o p=>B2b o p⟩⟩⟩ (A7.cons ⟨(.func (.func 225) #[] #[qp c,qp d]),z,⟨⟨z,z⟩,.inr ⟨225,[],[qp c,qp d],z,fun g G I J q r=>B6d i.u (show (VI .i64) g [qi a] a from z) k.u (show (VI .i64) g [qi b] b from z) q r⟩⟩⟩ A7.nil)); Ag z<|Nr<|T.K5 fun K M s=>have t:=A7.slc s m.u; ?_)))
 cases H
 exact T.rl z (Rv z) ⟨z,t⟩
theorem B6O {h a b c d e} (f:Z0 h b c) (g:(VI .i64) h c d) (H:A9u a d=some e):∀ L,FnW prog 226 [.int .i64 a,.pointer (some b)] h L (.int .i64 e):=by
 intro L
 obtain rfl:=g
 exact J6.enter func226 z z z<|Sr<|An z<|Sr<|Vv (V.S9 D7 z f z)<|bE H fun k i H=>Vv (V.Y9 z z i)<|Mv z<|bE H fun m j H=>Vv (V.Y9 z z j)<|Ag z<|Nr<|E1 H
theorem B7D {h a c d} (H:B1h a c=some d):∀ L,J6 prog 190 [.int .i64 a,.int .i64 c] h (L) (fun v h' L'=>L'=L∧F8 A3o 1 h' v d):=by
 intro L
 refine J6.enter func190 z z z<|Sr<|To (O.U5 z z z fun b f s g=>An z<|Sr<|Vv (V.mkf z z)<|To (O.bs A1L A3h z (e:=z) (hk:=z) (xs:=[.func 223,.tmp 5]) (hv:=CO.eq (CO.cons z (CO.cons z CO.nil))) (hw:=O3.of z) (hd:=z) fun t=>have i:A7 A3o f [[.func (.func 223) #[] #[]],[.func (.func 226) #[] #[qp b]]] ([A6b,(fun j=>A9u j a)]:List (Int→Option Int)):=(A7.cons ⟨(.func (.func 223) #[] #[]),z,⟨⟨z,z⟩,.inr ⟨223,[],[],z,fun w x y A k m=>B2b k m⟩⟩⟩ (A7.cons ⟨(.func (.func 226) #[] #[qp b]),z,⟨⟨z,z⟩,.inr ⟨226,[],[qp b],z,fun n B C D o p=>B6O g.u (show (VI .i64) n [qi a] a from z) o p⟩⟩⟩ A7.nil)); Ag z<|Nr<|T.K5 fun E G q=>have r:=A7.slc q i.u; ?_))
 cases H
 exact T.rl z (Rv z) ⟨z,r⟩
theorem A2H {h b a c} (H:Y0 b=some (a,c)):∀ L,J6 prog 126 [.int .u8 b] h (L) (fun v h' L'=>∃ v0_1 v0_3 v0_5 v0_7 v0_9,v=.tuple #[.agg #[.string a.A7b,v0_1,v0_3,v0_5,v0_7,v0_9],.bool c]∧L'=L∧B0l h' v0_1 a.C5v∧A8x h' v0_3 a.Y5∧A8x h' v0_5 a.A0D∧B0l h' v0_7 a.B9f∧B1B h' v0_9 a.C3k):=by
 intro L
 refine J6.enter func126 z z z<|Sr<|To (O.alloc A7p z z fun ae=>An z<|Sq<|Sm z<|Nt<|Bl<|Sr<|We z z<|An z<|T.cH H z (fun H=>?_) fun H=>?_)
 ·refine Sr<|Vv (V.bld (xs:=[(0,.const (.string ⟨#[114,111,117,110,100]⟩)),(1,.func 171),(2,.func 172),(3,.func 173),(4,.func 174),(5,.func 175)]) (cs:=[_,_,_,_,_,_]) A9P A9M z (F4.cons z z z (F4.cons z z z (F4.cons z z z (F4.cons z z z (F4.cons z z z (F4.cons z z z F4.nil)))))))<|To (O.stF (vs:=[.string (⟨#[114,111,117,110,100]⟩:ByteArray),.func (.func 171) #[] #[],.func (.func 172) #[] #[],.func (.func 173) #[] #[],.func (.func 174) #[] #[],.func (.func 175) #[] #[]]) A0y z z (j:=0) z z z z<|Ag z<|Nr<|Br<|Tr ?_)
  cases H
  exact T.A9b (L':=L) results126 (RVs.cons (RV.cellS z (j:=0) z A0y) (Rv z)) Lr (fun _ iv=>iv.drop) ⟨_,_,_,_,_,z,z,⟨⟨z,z⟩,.inr ⟨171,[],[],z,fun af ag ai aj ak d e=>B5M d e⟩⟩,⟨⟨z,z⟩,.inr ⟨172,[],[],z,fun am an ao ap aq ar au f g=>B4z f g⟩⟩,⟨⟨z,z⟩,.inr ⟨173,[],[],z,fun aw ax ay aA aB aC aD i k=>B4B i k⟩⟩,⟨⟨z,z⟩,.inr ⟨174,[],[],z,fun aE aG aI aJ aK m n=>C3P m n⟩⟩,⟨⟨z,z⟩,.inr ⟨175,[],[],z,fun aM aN aO aP aS o p=>B5C o p⟩⟩⟩
 refine Sr<|We z z<|An z<|T.cH H z (fun H=>?_) fun H=>?_
 ·refine Sr<|Vv (V.bld (xs:=[(0,.const (.string ⟨#[108,111,110,103]⟩)),(1,.func 176),(2,.func 177),(3,.func 178),(4,.func 179),(5,.func 180)]) (cs:=[_,_,_,_,_,_]) A9P A9M z (F4.cons z z z (F4.cons z z z (F4.cons z z z (F4.cons z z z (F4.cons z z z (F4.cons z z z F4.nil)))))))<|To (O.stF (vs:=[.string (⟨#[108,111,110,103]⟩:ByteArray),.func (.func 176) #[] #[],.func (.func 177) #[] #[],.func (.func 178) #[] #[],.func (.func 179) #[] #[],.func (.func 180) #[] #[]]) A0y z z (j:=0) z z z z<|Ag z<|Nr<|Br<|Tr ?_)
  cases H
  exact T.A9b (L':=L) results126 (RVs.cons (RV.cellS z (j:=0) z A0y) (Rv z)) Lr (fun _ iv=>iv.drop) ⟨_,_,_,_,_,z,z,⟨⟨z,z⟩,.inr ⟨176,[],[],z,fun aU aV aW aX aY q r=>B6N q r⟩⟩,⟨⟨z,z⟩,.inr ⟨177,[],[],z,fun aZ a0 a1 a2 a3 a4 a5 s t=>B5N s t⟩⟩,⟨⟨z,z⟩,.inr ⟨178,[],[],z,fun a6 a7 a8 a9 ah al av u w=>B6i u w⟩⟩,⟨⟨z,z⟩,.inr ⟨179,[],[],z,fun az ba bb bc bd x y=>B5G x y⟩⟩,⟨⟨z,z⟩,.inr ⟨180,[],[],z,fun be bf bg bi bj A B=>B7f A B⟩⟩⟩
 refine Sr<|We z z<|An z<|T.cH H z (fun H=>?_) fun H=>?_
 ·refine Sr<|Vv (V.bld (xs:=[(0,.const (.string ⟨#[104,111,114,115,101,115,104,111,101]⟩)),(1,.func 181),(2,.func 182),(3,.func 183),(4,.func 184),(5,.func 185)]) (cs:=[_,_,_,_,_,_]) A9P A9M z (F4.cons z z z (F4.cons z z z (F4.cons z z z (F4.cons z z z (F4.cons z z z (F4.cons z z z F4.nil)))))))<|To (O.stF (vs:=[.string (⟨#[104,111,114,115,101,115,104,111,101]⟩:ByteArray),.func (.func 181) #[] #[],.func (.func 182) #[] #[],.func (.func 183) #[] #[],.func (.func 184) #[] #[],.func (.func 185) #[] #[]]) A0y z z (j:=0) z z z z<|Ag z<|Nr<|Br<|Tr ?_)
  cases H
  exact T.A9b (L':=L) results126 (RVs.cons (RV.cellS z (j:=0) z A0y) (Rv z)) Lr (fun _ iv=>iv.drop) ⟨_,_,_,_,_,z,z,⟨⟨z,z⟩,.inr ⟨181,[],[],z,fun bk bm bn bo bp C D=>B7h C D⟩⟩,⟨⟨z,z⟩,.inr ⟨182,[],[],z,fun bq br bs bt bu bw bx E G=>B5F E G⟩⟩,⟨⟨z,z⟩,.inr ⟨183,[],[],z,fun bA bB bC bD bE bG bI I J=>B5I I J⟩⟩,⟨⟨z,z⟩,.inr ⟨184,[],[],z,fun bJ bK bM bN bO K M=>C2R K M⟩⟩,⟨⟨z,z⟩,.inr ⟨185,[],[],z,fun bP bS bU bV bW N P=>B6A N P⟩⟩⟩
 refine Sr<|We z z<|An z<|T.cH H z (fun H=>?_) fun H=>?_
 ·refine Sr<|Vv (V.bld (xs:=[(0,.const (.string ⟨#[114,111,119]⟩)),(1,.func 186),(2,.func 187),(3,.func 188),(4,.func 189),(5,.func 190)]) (cs:=[_,_,_,_,_,_]) A9P A9M z (F4.cons z z z (F4.cons z z z (F4.cons z z z (F4.cons z z z (F4.cons z z z (F4.cons z z z F4.nil)))))))<|To (O.stF (vs:=[.string (⟨#[114,111,119]⟩:ByteArray),.func (.func 186) #[] #[],.func (.func 187) #[] #[],.func (.func 188) #[] #[],.func (.func 189) #[] #[],.func (.func 190) #[] #[]]) A0y z z (j:=0) z z z z<|Ag z<|Nr<|Br<|Tr ?_)
  cases H
  exact T.A9b (L':=L) results126 (RVs.cons (RV.cellS z (j:=0) z A0y) (Rv z)) Lr (fun _ iv=>iv.drop) ⟨_,_,_,_,_,z,z,⟨⟨z,z⟩,.inr ⟨186,[],[],z,fun bX bY bZ b0 b1 S U=>B7K S U⟩⟩,⟨⟨z,z⟩,.inr ⟨187,[],[],z,fun b2 b3 b4 b5 b6 b7 b8 W X=>B6w W X⟩⟩,⟨⟨z,z⟩,.inr ⟨188,[],[],z,fun b9 bh bl bv bz ca cb Y Z=>C2N Y Z⟩⟩,⟨⟨z,z⟩,.inr ⟨189,[],[],z,fun cc cd ce cf cg aa ab=>C3f aa ab⟩⟩,⟨⟨z,z⟩,.inr ⟨190,[],[],z,fun ci cj ck cm cn ac ad=>B7D ac ad⟩⟩⟩
 refine T.skip<|Bn<|Th<|Sr<|Vv (V.bld (xs:=[]) (cs:=[_,_,_,_,_,_]) A9P A9M z F4.nil)<|To (O.stF (vs:=[.string qe,.nilFunc,.nilFunc,.nilFunc,.nilFunc,.nilFunc]) A0y z z (j:=0) z z z z<|Ag z<|Nr ?_)
 cases H
 exact T.A9b (L':=L) results126 (RVs.cons (RV.cellS z (j:=0) z A0y) (Rv z)) Lr (fun _ iv=>iv.drop) ⟨_,_,_,_,_,z,z,⟨⟨z,z⟩,.inl fun _ _=>z⟩,⟨⟨z,z⟩,.inl fun _ _ _ _=>z⟩,⟨⟨z,z⟩,.inl fun _ _ _ _=>z⟩,⟨⟨z,z⟩,.inl fun _ _=>z⟩,⟨⟨z,z⟩,.inl fun _ _=>z⟩⟩
theorem A2j {h b c d} (f:I6 h b c) (H:A2F c=some d):∀ L,FnW prog 64 [.agg b.toArray] h L (.int .i64 d):=by
 intro L
 obtain ⟨M,rfl,N⟩:=f
 refine J6.enter func64 z z z<|Sr<|To (O.U5 z z z fun P S U a=>An z<|Sr<|Vv (V.fa A2W z)<|Vv (V.M5 (k:=1) A5Z z a z)<|bE H fun ⟨i,W⟩ m H=>To (O.G9 z (A2H m _) z fun X Y Z aa n=>?_))
 obtain ⟨o,p,q,r,s,rfl,t,e,w,x,y,A⟩:=n
 refine P7 _ t<|Mv z<|Wx z z<|Wx z z<|To (O.alloc A7p z z fun ab=>To (O.stF (vs:=[.string i.A7b,o,p,q,r,s]) A0y z z (j:=0) z z (by (simp only [BT,e.1.1,w.1.1,x.1.1,y.1.1,A.1.1]) <;> rfl) z ?_))
 refine T.freeze fun B ac C=>have D:=Z0.of C; An z<|Sq<|Sm z<|Vv (V.not z)<|Nt<|T.cH H z (fun H=>?_) fun H=>?_
 ·exact Sg z<|Nr<|Tr<|E1 H
 refine Ks<|Sr<|Vv (V.fa C2I z)<|Vv (V.M5 (k:=1) C1V z D z)<|Vv (V.fa Y2 z)<|Vv (V.M5 (k:=2) D7 z a.u z)<|Vv (V.fa A0K z)<|Vv (V.M5 (k:=3) D7 z a.u z)<|bE H fun ad E H=>?_
 obtain ⟨ae,af,ag,G,I⟩:=B0l.call (e.u (g:=B)) E
 refine To (O.A1e z G z (I _) z fun ai aj ak am J=>?_)
 obtain ⟨rfl,K⟩:=J
 exact P7 _ K<|Ag z<|Nr<|E1 H
theorem A6B {h b c d e f} (m:I6 h b c) (H:A4f c d e=some f):∀ L,FnW prog 107 [.agg b.toArray,.int .i64 d,.int .i64 e] h L (.bool f):=by
 intro L
 obtain ⟨P,rfl,S⟩:=m
 refine J6.enter func107 z z z<|Sr<|To (O.U5 z z z fun U W X a=>An z<|Sr<|Vv (V.fa A2W z)<|Vv (V.M5 (k:=1) A5Z z a z)<|bE H fun ⟨n,Y⟩ o H=>To (O.G9 z (A2H o _) z fun Z aa ab ac p=>?_))
 obtain ⟨q,r,s,t,w,rfl,x,y,i,A,B,C⟩:=p
 refine P7 _ x<|Mv z<|Wx z z<|Wx z z<|To (O.alloc A7p z z fun ad=>To (O.stF (vs:=[.string n.A7b,q,r,s,t,w]) A0y z z (j:=0) z z (by (simp only [BT,y.1.1,i.1.1,A.1.1,B.1.1,C.1.1]) <;> rfl) z ?_))
 refine T.freeze fun D ae E=>have G:=Z0.of E; An z<|Sm z<|Mv z<|Wn z z<|Mv z<|T.bH 18 H z (fun H=>?_) fun H=>?_
 ·refine Vv (V.fa C3E z)<|Vv (V.M5 (k:=2) B9w z G z)<|Vv (V.fa Y2 z)<|Vv (V.M5 (k:=2) D7 z a.u z)<|Vv (V.fa A0K z)<|Vv (V.M5 (k:=3) D7 z a.u z)<|Mv z<|Mv z<|Vv (V.min2 z z)<|Mv z<|Mv z<|Vv (V.max2 z z)<|bE H fun af I H=>?_
  obtain ⟨ag,ai,aj,J,K⟩:=A8x.call (i.u (g:=D)) I
  refine To (O.A1e z J z (K _) z fun ak am an ao M=>?_)
  obtain ⟨rfl,N⟩:=M
  exact P7 _ N<|Kt z<|Ag z<|Nr<|E1 H
 exact S2<|S2<|S2<|S2<|S2<|S2<|Sk<|Kf z<|Ag z<|Nr<|E1 H
theorem A6C {h b c d e f} (m:I6 h b c) (H:A3S c d e=some f):∀ L,FnW prog 108 [.agg b.toArray,.int .i64 d,.int .i64 e] h L (.bool f):=by
 intro L
 obtain ⟨P,rfl,S⟩:=m
 refine J6.enter func108 z z z<|Sr<|To (O.U5 z z z fun U W X a=>An z<|Sr<|Vv (V.fa A2W z)<|Vv (V.M5 (k:=1) A5Z z a z)<|bE H fun ⟨n,Y⟩ o H=>To (O.G9 z (A2H o _) z fun Z aa ab ac p=>?_))
 obtain ⟨q,r,s,t,w,rfl,x,y,A,i,B,C⟩:=p
 refine P7 _ x<|Mv z<|Wx z z<|Wx z z<|To (O.alloc A7p z z fun ad=>To (O.stF (vs:=[.string n.A7b,q,r,s,t,w]) A0y z z (j:=0) z z (by (simp only [BT,y.1.1,A.1.1,i.1.1,B.1.1,C.1.1]) <;> rfl) z ?_))
 refine T.freeze fun D ae E=>have G:=Z0.of E; An z<|Sm z<|Mv z<|Wn z z<|Mv z<|T.bH 18 H z (fun H=>?_) fun H=>?_
 ·refine Vv (V.fa C2H z)<|Vv (V.M5 (k:=3) B9w z G z)<|Vv (V.fa Y2 z)<|Vv (V.M5 (k:=2) D7 z a.u z)<|Vv (V.fa A0K z)<|Vv (V.M5 (k:=3) D7 z a.u z)<|Mv z<|Mv z<|Vv (V.min2 z z)<|Mv z<|Mv z<|Vv (V.max2 z z)<|bE H fun af I H=>?_
  obtain ⟨ag,ai,aj,J,K⟩:=A8x.call (i.u (g:=D)) I
  refine To (O.A1e z J z (K _) z fun ak am an ao M=>?_)
  obtain ⟨rfl,N⟩:=M
  exact P7 _ N<|Kt z<|Ag z<|Nr<|E1 H
 exact S2<|S2<|S2<|S2<|S2<|S2<|Sk<|Kf z<|Ag z<|Nr<|E1 H
theorem C3z {h a b c d e} (j:I6 h a b) (H:B4h b c d=some e):∀ L,FnW prog 208 [.agg a.toArray,.int .i64 c,.int .i64 d] h L (.bool e):=by
 intro L
 obtain ⟨f,rfl,g⟩:=j
 refine J6.enter func208 z z z<|Sr<|To (O.U5 z z z fun r s t i=>An z<|Sr<|Vv (V.ldS z i (by exact J5)) ?_)
 refine Mv z<|Mv z<|bE H fun w k H=>To (O.cs (A6B ⟨f,z,g.u⟩ k _) fun y B=>Mv z<|T.bH 11 H z (fun H=>?_) fun H=>?_)
 ·exact S2<|S2<|Kt z<|Ag z<|Nr<|E1 H
 refine Vv (V.ldS z i.u (by exact J5)) ?_
 exact Mv z<|Mv z<|bE H fun C o H=>To (O.cs (A6C ⟨f,z,g.u⟩ o _) fun E I=>Kf z<|Ag z<|Nr<|E1 H)
theorem C0Y {h Y D r Z} (aB:I6 h Y D) (H:B1O D r=some Z):∀ L,J6 prog 157 [.agg Y.toArray,.int .i64 r] h (L) (fun v h' L'=>∃ aa,L'=F5 3 1 v aa::L∧A7 (VI .i64) h' aa Z):=by
 intro L
 obtain ⟨ab,rfl,ac⟩:=aB
 refine J6.enter func157 z z z<|Sr<|To (O.U5 z z z fun bx bA bB ad=>An z<|Sr<|Vv (V.ldS z ad (by exact J5)) ?_)
 refine bE H fun aC aD H=>To (O.cs (A2j ⟨ab,z,ac.u⟩ aD _) fun aE bG=>bE H fun K ae H=>To (O.mkX A9 K8 z z z z ae z fun g bI bJ=>have af:A7 (VI .i64) aE _ K:=A7.rep z ae; An z<|Sq<|Sm z<|Vv (V.A4x A9 z (j:=0) z af.len)<|Mv z<|Nt ?_))
 obtain ⟨aJ,aK,aM⟩:=K4 H
 have H:=aK
 refine Bl<|T.lk [1,2,15] (FUEL,(0:Int),K,(List.replicate aC.toNat [qi 0])) (fun ⟨s,i,t,c⟩=>([(16,qi i),(5,g)],F5 3 1 g c::L,fun hh=>iter (A3A K) s (i,t)=some aJ∧A7 (VI .i64) hh c t)) ⟨H,af⟩ ?_
 rintro ⟨s,i,t,c⟩ G bK ⟨aN,k⟩
 obtain ⟨aO,bM,rfl,H,ai⟩:=G8 aN
 refine T.norm [16,5,1,2,15] z<|T.fl ?_
 refine Sr<|Wl z z<|Nt<|Sq<|T.cH H z (fun H=>?_) fun H=>?_
 ·refine Ks<|Sq<|Bl<|Sm z<|An z<|Rg<|Mv z<|Mv z<|bE H fun bN M H=>?_
  obtain ⟨bO,bP,rfl⟩:=A7.get k M
  refine Vv (V.ixR A9 z z (j:=0) z (A7.bd k M))<|bE H fun aj aP H=>To (O.stR D7 z z (j:=0) z (A7.bdN k M) z<|have aS:A7 (VI .i64) G (c.set i.toNat [qi (-1)]) aj:=A7.set k (show (VI .i64) G [qi (-1)] (-1:Int) from z) aP; Ni<|Bn<|Th<|Rg<|bE H fun aU aV H=>Vv (V.H8 z z aV)<|Mv z<|Nt<|T.ag (aO,aU,aj,(c.set i.toNat [qi (-1)])) ⟨(D8 H ai),aS⟩)
 refine T.exit<|Te<|Te<|have H:=D6 H ai; Be<|Th<|have H:=I7 H aM; Sm z<|Mv z<|bE H fun bS N H=>?_
 obtain ⟨bU,bV,rfl⟩:=A7.get k N
 refine Vv (V.ixR A9 z z (j:=0) z (A7.bd k N))<|bE H fun ak aW H=>To (O.stR D7 z z (j:=0) z (A7.bdN k N) z<|have aX:A7 (VI .i64) G (c.set r.toNat [qi 0]) ak:=A7.set k (show (VI .i64) G [qi 0] (0:Int) from z) aW; Nt<|Sm z<|To (O.b1 (E:=VI .i64) A9 K8 z z z z z fun aY aZ=>An z<|Sq ?_))
 obtain ⟨a0,a1,a2⟩:=K4 H
 have H:=a1
 refine Bl<|Fr_ 1 z<|T.lk [2] (FUEL,ak,[r],(c.set r.toNat [qi 0]),(.slice (some ⟨aY,0,none⟩) 1 1),[[qi r]]) (fun ⟨w,m,x,q,y,n⟩=>([(5,g),(7,y)],F5 3 1 g q::F5 3 1 y n::L,fun hh=>iter (A7z D) w (m,x)=some a0∧A7 (VI .i64) hh q m∧A7 (VI .i64) hh n x)) ⟨H,aX,aZ⟩ ?_
 rintro ⟨w,m,x,q,y,n⟩ a3 bW ⟨a4,P,B⟩
 obtain ⟨a5,bX,rfl,H,am⟩:=G8 a4
 refine T.norm [5,7,2] z<|T.fl ?_
 refine Sq<|Sm z<|Vv (V.A4x A9 z (j:=1) z B.len)<|Wg z z<|Nt<|T.cH H z (fun H=>?_) fun H=>?_
 ·refine Ks<|Bl<|Sm z<|bE H fun a6 an H=>?_
  obtain ⟨bY,a7,rfl⟩:=A7.get B an
  refine Vv (V.ixR A9 z z (j:=1) z (A7.bd B an))<|Vv (V.ldR D7 z (j:=1) z a7 z)<|An z<|Sm z<|bE H fun ao aq H=>To (O.slR A9 z z (j:=1) z (A7.slb B aq) z fun a8=>have a9:A7 (VI .i64) a3 (List.drop (1:Int).toNat n) ao:=A7.sl B aq; An z<|Sm z<|Vv (V.A4x A9 z (j:=1) z P.len)<|Mv z<|Nt<|T.A0L ?_)
  obtain ⟨ah,al,av⟩:=K4 H
  have H:=al
  refine Bl<|Fr_ 1 z<|T.lk [2,8,37] (FUEL,m,(0:Int),ao,q,a8,(List.drop (1:Int).toNat n)) (fun ⟨A,o,d,p,a,f,b⟩=>([(36,g),(38,qi d),(5,g),(7,f)],F5 3 1 g a::F5 3 1 f b::L,fun hh=>iter (A7W D m a6) A (o,d,p)=some ah∧A7 (VI .i64) hh a o∧A7 (VI .i64) hh b p)) ⟨H,P,a9⟩ ?_
  rintro ⟨A,o,d,p,a,f,b⟩ bZ b0 ⟨az,e,I⟩
  obtain ⟨ar,b2,rfl,H,S⟩:=G8 az
  refine T.norm [36,38,5,7,2,8,37] z<|T.fl ?_
  refine Sr<|Wl z z<|Nt<|Sq<|T.cH H z (fun H=>?_) fun H=>?_
  ·refine Ks<|Sq<|Bl<|Sm z<|bE H fun b3 au H=>?_
   obtain ⟨b4,ba,rfl⟩:=A7.get e au
   refine Vv (V.ixR A9 z z (j:=0) z (A7.bd e au))<|Vv (V.ldR D7 z (j:=0) z ba z)<|Ag z<|An z<|Sq ?_
   obtain ⟨bb,bc,be⟩:=K4 H
   refine T.ck (α:=Bool) [2,5,7,8,9,36,37,38] (fun C=>([(50,.bool C)],F5 3 1 g a::F5 3 1 f b::L,fun hh=>bb=C)) ?_ ?_
   ·have H:=bc
    refine Rg<|Mv z<|Wl z z<|Mv z<|T.bH 45 H z (fun H=>?_) fun H=>?_
    ·refine Vv (V.ldS z ad.u (by exact J5)) ?_
     refine Mv z<|Mv z<|bE H fun bf bg H=>To (O.G9 z (C3z ⟨ab,z,ac.u⟩ bg _) z fun b5 b6 b7 b8 bi=>?_)
     obtain ⟨rfl,bj⟩:=bi
     refine P7 _ bj<|Kt z<|Nt<|T.mt bf (M7 H)
    refine S2<|S2<|Kf z<|Nt<|T.mt false (M7 H)
   rintro C U b9 bk
   have H:=I7 bk be
   refine T.norm [50,2,5,7,8,9,36,37,38] z<|T.fl ?_
   refine T.cH H z (fun H=>?_) fun H=>?_
   ·refine Sm z<|Mv z<|Mv z<|Mv z<|bE H fun bh aw H=>?_
    obtain ⟨bl,bm,rfl⟩:=A7.get e aw
    refine Vv (V.ixR A9 z z (j:=0) z (A7.bd e aw))<|Vv (V.ldR D7 z (j:=0) z bm z)<|bE H fun J bn H=>Vv (V.H8 z z bn)<|bE H fun bv W H=>?_
    obtain ⟨bz,ca,rfl⟩:=A7.get e W
    refine Vv (V.ixR A9 z z (j:=0) z (A7.bd e W))<|bE H fun ax bo H=>To (O.stR D7 z z (j:=0) z (A7.bdN e W) z<|have bp:A7 (VI .i64) U (a.set d.toNat [qi J]) ax:=A7.set e.u (show (VI .i64) U [qi J] J from z) bo; Nt<|Rg<|Mv z<|Mv z<|To (O.b1 (E:=VI .i64) A9 K8 z z z z z fun cb X=>bE H fun ay aA H=>To (O.apX A9 A9 K8 z z z (j:=2) z (Src.row (j:=0) z) (O3.of z) (A7.ones VI.plain X) I.u X aA z fun bq cc cd=>have br:A7 (VI .i64) U (b ++ [[qi d]]) ay:=A7.ap I.u X aA; T.fl ?_)))
    refine T.fs [1] ?_
    refine T.drop<|Ag z<|Ni<|Bn<|Th<|Rg<|bE H fun bs bt H=>Vv (V.H8 z z bt)<|Mv z<|Nt<|Fr_ 1 z<|T.ag (ar,ax,bs,ay,(a.set d.toNat [qi J]),bq,(b ++ [[qi d]])) ⟨(D8 H S),bp,br⟩
   refine T.skip<|Bn<|Th<|Rg<|bE H fun bu bw H=>Vv (V.H8 z z bw)<|Mv z<|Nt<|T.ag (ar,o,bu,p,a,f,b) ⟨(D8 H S),e.u,I.u⟩
  refine T.exit<|Te<|Te<|have H:=D6 H S; Be<|Th<|have H:=I7 H av; Bn<|Th<|T.ag (a5,o,p,a,f,b) ⟨(D8 H am),e,I⟩
 refine T.exit<|Te<|Te<|have H:=D6 H am; Be<|Th<|have H:=I7 H a2; Sm z<|Ag z<|Nr<|Fr_ 1 z<|T.drop ?_
 cases H
 exact T.rl z (Rv z) ⟨_,z,P⟩
theorem B2T {h o p q} (D:I6 h o p) (H:A4h p=some q):∀ L,J6 prog 105 [.agg o.toArray] h (L) (fun v h' L'=>∃ r,L'=F5 3 1 v r::L∧A7 (VI .i64) h' r q):=by
 intro L
 obtain ⟨E,rfl,G⟩:=D
 refine J6.enter func105 z z z<|Sr<|To (O.U5 z z z fun aG aI aJ f=>An z<|Sr<|Vv (V.fa A2W z)<|Vv (V.M5 (k:=1) A5Z z f z)<|bE H fun ⟨I,aK⟩ J H=>To (O.G9 z (A2H J _) z fun aM aN aO aP K=>?_))
 obtain ⟨M,N,P,S,U,rfl,W,X,Y,Z,s,aa⟩:=K
 refine P7 _ W<|Mv z<|Wx z z<|Wx z z<|To (O.alloc A7p z z fun aS=>To (O.stF (vs:=[.string I.A7b,M,N,P,S,U]) A0y z z (j:=0) z z (by (simp only [BT,X.1.1,Y.1.1,Z.1.1,s.1.1,aa.1.1]) <;> rfl) z ?_))
 refine T.freeze fun ab aU ac=>have ad:=Z0.of ac; An z<|Sq<|T.N8 (t:=(.vs [0,1,2,3,4,5,6] (.alt 7 (.alt 8 (.alt 9 .done .no) .no) .no))) 11 0 0 z z I5 (by kernel_rfl) ?_
 refine Tv z (V.ldS z f.u (by exact J5)) ?_
 refine Tv z (V.fa C3a z)<|Tv z (V.M5 (k:=4) C1V z ad z)<|Tv z (V.fa Y2 z)<|Tv z (V.M5 (k:=2) D7 z f.u z)<|Tv z (V.fa A0K z)<|Tv z (V.M5 (k:=3) D7 z f.u z)<|bE H fun aV ae H=>?_
 obtain ⟨aW,aX,aY,af,ai⟩:=B0l.call (s.u (g:=ab)) ae
 refine Tp z z (X2 z z) (O.A1e z af z (ai _) z fun aZ a0 a1 a2 aj=>?_) T.P5
 obtain ⟨rfl,ak⟩:=aj
 refine P7 _ ak<|bE H fun w am H=>Tp z z (SX.two (XA.fr [] Li z) (XA.fr [] Li z)) (O.G9 z (C0Y ⟨E,z,G.u⟩ am _) z fun i a3 a4 a5 an=>?_) T.P5
 obtain ⟨ao,ap,x⟩:=an
 refine P7 _ ap<|Ts z z (SX.two (XA.fr [] Li z) (XA.fr [] Li z)) (V.asg z) z ?_ T.P5
 refine T.O7 (SX.two (XA.fr [] Li z) (XA.fr [] Li z))<|Th<|Sq<|Sm z<|Vv (V.A4x A9 z (j:=0) z x.len)<|Mv z<|Nt ?_
 obtain ⟨aq,ar,au⟩:=K4 H
 have H:=ar
 refine Bl<|T.lk [24] (FUEL,w,(0:Int),ao) (fun ⟨e,a,d,b⟩=>([(23,i),(25,qi d),(5,i)],F5 3 1 i b::L,fun hh=>iter (A6V w) e (a,d)=some aq∧A7 (VI .i64) hh b a)) ⟨H,x⟩ ?_
 rintro ⟨e,a,d,b⟩ y a6 ⟨aw,c⟩
 obtain ⟨A,a7,rfl,H,m⟩:=G8 aw
 refine T.norm [23,25,5,24] z<|T.fl ?_
 refine Sr<|Wl z z<|Nt<|Sq<|T.cH H z (fun H=>?_) fun H=>?_
 ·refine Ks<|Sq<|Bl<|Sm z<|bE H fun a8 B H=>?_
  obtain ⟨a9,ax,rfl⟩:=A7.get c B
  refine Vv (V.ixR A9 z z (j:=0) z (A7.bd c B))<|Vv (V.ldR D7 z (j:=0) z ax z)<|Ag z<|An z<|Sm z<|Wl z z<|Nt<|T.cH H z (fun H=>?_) fun H=>?_
  ·refine Rg<|Mv z<|Mv z<|Mv z<|Vv (V.A4x A9 z (j:=0) z c.len)<|bE H fun ah n H=>?_
   obtain ⟨al,av,rfl⟩:=A7.get c n
   refine Vv (V.ixR A9 z z (j:=0) z (A7.bd c n))<|bE H fun C ay H=>To (O.stR D7 z z (j:=0) z (A7.bdN c n) z<|have aA:A7 (VI .i64) y (b.set d.toNat [qi (a.length:Int)]) C:=A7.set c (show (VI .i64) y [qi (a.length:Int)] (a.length:Int) from z) ay; Ni<|Bn<|Th<|Rg<|bE H fun aB aC H=>Vv (V.H8 z z aC)<|Mv z<|Nt<|T.ag (A,C,aB,(b.set d.toNat [qi (a.length:Int)])) ⟨(D8 H m),aA⟩)
  refine T.skip<|Bn<|Th<|Rg<|bE H fun aD aE H=>Vv (V.H8 z z aE)<|Mv z<|Nt<|T.ag (A,a,aD,b) ⟨(D8 H m),c⟩
 refine T.exit<|Te<|Te<|have H:=D6 H m; Be<|Th<|have H:=I7 H au; Sm z<|Ag z<|Nr ?_
 cases H
 exact T.rl z (Rv z) ⟨_,z,c⟩
theorem B0T {h j g m} (o:I6 h j g) (H:A5I g=some m):∀ L,FnW prog 166 [.agg j.toArray] h L (.int .i64 m):=by
 intro L
 obtain ⟨p,rfl,e⟩:=o
 refine J6.enter func166 z z z<|Sr<|To (O.U5 z z z fun K M N a=>An z<|Sr<|Vv (V.ldS z a (by exact J5)) ?_)
 refine bE H fun q r H=>To (O.cs (A2j ⟨p,z,e.u⟩ r _) fun S W=>An z<|Sr<|An z<|Sq<|Bl<|Sr<|Vv (V.fa A0j z)<|Vv (V.M5 (k:=0) J7 z a.u z)<|bE H fun X w H=>To (O.cs (C2Q w _) fun Z ab=>Vv (V.not z)<|An z<|T.cH H z (fun H=>?_) fun H=>?_))
 ·exact Sg z<|Nr<|Br<|Tr<|E1 H
 refine Sm z<|We z z<|An z<|T.cH H z (fun H=>?_) fun H=>?_
 ·exact Sg z<|Nr<|Br<|Tr<|E1 H
 refine T.skip<|Bn<|Th<|Sq<|Sr<|Vv (V.fa Y1 z)<|Vv (V.M5 (k:=4) E5 z a.u z)<|Vv (V.Q3 A9 z e)<|Mv z<|Nt ?_
 obtain ⟨A,B,i⟩:=K4 H
 have H:=B
 refine Bl<|T.lk [1,3,18,19] (FUEL,(0:Int),(-1:Int)) (fun ⟨b,c,d⟩=>([(20,qi c),(4,qi d)],L,fun hh=>iter (A1q g q) b (c,d)=some A)) H ?_
 rintro ⟨b,c,d⟩ ac ad C
 obtain ⟨D,ae,rfl,H,f⟩:=G8 C
 refine T.norm [20,4,1,3,18,19] z<|T.fl ?_
 refine Sr<|Wl z z<|Nt<|Sq<|T.cH H z (fun H=>?_) fun H=>?_
 ·refine Ks<|Sq<|Bl<|Sr<|bE H fun E n H=>?_
  obtain ⟨af,G,rfl⟩:=F8.at e n
  refine Vv (V.ix A9 z z e (E9 n))<|Vv (V.S9 D7 z G.u z)<|An z<|Sq<|Sm z<|Mv z<|Vv (V.le z z)<|Mv z<|T.bH 27 H z (fun H=>?_) fun H=>?_
  ·exact S2<|Sk<|Kt z<|Nt<|Ct z<|Sg z<|Nr<|Tr<|Br<|Tr<|Tr<|have H:=D6 H f; Br<|Tr<|have H:=I7 H i; E1 H
  refine Mv z<|Mv z<|Vv (V.ge z z)<|Kf z<|Nt<|T.cH H z (fun H=>?_) fun H=>?_
  ·exact Sg z<|Nr<|Tr<|Br<|Tr<|Tr<|have H:=D6 H f; Br<|Tr<|have H:=I7 H i; E1 H
  refine Ks<|Rg<|Mv z<|Ag z<|Ni<|Bn<|Th<|Rg<|bE H fun I J H=>Vv (V.H8 z z J)<|Mv z<|Nt<|T.ag (D,I,E) (D8 H f)
 refine T.exit<|Te<|Te<|have H:=D6 H f; Be<|Th<|have H:=I7 H i; Sq<|Sr<|Vv (V.fa B6E z)<|Vv (V.M5 (k:=5) D7 z a.u z)<|Wl z z<|Mv z<|T.bH 37 H z (fun H=>?_) fun H=>?_
 ·exact S2<|Sk<|Kt z<|Mv z<|S2<|Sk<|Kt z<|Mv z<|S2<|Sk<|Kt z<|Nt<|Ct z<|Sg z<|Nr<|Tr<|E1 H
 refine Vv (V.fa B6E z)<|Vv (V.M5 (k:=5) D7 z a.u z)<|Wg z z<|Kf z<|Mv z<|T.bH 42 H z (fun H=>?_) fun H=>?_
 ·exact S2<|Sk<|Kt z<|Mv z<|S2<|Sk<|Kt z<|Nt<|Ct z<|Sg z<|Nr<|Tr<|E1 H
 refine Vv (V.fa B6m z)<|Vv (V.M5 (k:=6) D7 z a.u z)<|Wl z z<|Kf z<|Mv z<|T.bH 47 H z (fun H=>?_) fun H=>?_
 ·exact S2<|Sk<|Kt z<|Nt<|Ct z<|Sg z<|Nr<|Tr<|E1 H
 refine Vv (V.fa B6m z)<|Vv (V.M5 (k:=6) D7 z a.u z)<|Wg z z<|Kf z<|Nt<|T.cH H z (fun H=>?_) fun H=>?_
 ·exact Sg z<|Nr<|Tr<|E1 H
 exact Ks<|Sg z<|Nr<|E1 H
theorem B6B {h a b c d e f} (g:I6 h a b) (i:Z0 h c d) (j:I6 h d e) (H:A6I b e=some f):∀ L,FnW prog 170 [.agg a.toArray,.pointer (some c)] h L (.bool f):=by
 intro L
 obtain ⟨n,rfl,o⟩:=g
 obtain ⟨p,rfl,q⟩:=j
 refine J6.enter func170 z z z<|Sr<|To (O.U5 z z z fun r s t m=>An z<|Sr<|Vv (V.fa A0j z)<|Vv (V.M5 (k:=0) J7 z m z)<|Vv (V.fa A0j z)<|Vv (V.M5 (k:=0) J7 z i.u z)<|Vv (V.seq z z)<|Ag z<|Nr ?_)
 exact E1 H
theorem B1m {h m f n o} (d:F8 I6 7 h m f) (H:A5u f=some (n,o)):∀ L,FnW prog 125 [m] h L (.tuple #[.int .i64 n,.int .i64 o]):=by
 intro L
 refine J6.enter func125 z z z<|Sg z<|An z<|Sq<|Sm z<|Vv (V.Q3 O6 z d)<|Wg z z<|Nt<|T.cH H z (fun H=>?_) fun H=>?_
 ·exact Sg z<|Ag z<|Nr<|Tr<|E1 H
 refine Ks<|Sq<|Sm z<|Vv (V.Q3 O6 z d)<|Mv z<|Nt ?_
 obtain ⟨w,x,g⟩:=K4 H
 have H:=x
 refine Bl<|T.lk [0,10,11] (FUEL,(0:Int)) (fun ⟨b,c⟩=>([(12,qi c)],L,fun hh=>iter (A4t f) b c=some w)) H ?_
 rintro ⟨b,c⟩ ab ac y
 obtain ⟨A,ad,rfl,H,e⟩:=G8 y
 refine T.norm [12,0,10,11] z<|T.fl ?_
 refine Sr<|Wl z z<|Nt<|Sq<|T.cH H z (fun H=>?_) fun H=>?_
 ·refine Ks<|Sq<|Bl<|Sm z<|bE H fun a p H=>?_
  obtain ⟨ae,B,⟨i,rfl,k⟩⟩:=F8.at d p
  refine Vv (V.ix O6 z z d (E9 p))<|Vv (V.ldS z B.u (by exact J5)) ?_
  refine To (O.alloc A1J z z fun q=>Ag z<|To (O.stF (vs:=[.string a.F7,.int .u8 a.Q4,qi a.fA,qi a.fB,i,qi a.fX,qi a.fY]) J5 z z (j:=0) z z (by (simp only [BT,F8.one k]) <;> rfl) z ?_))
  refine T.freeze fun af ai C=>have r:=Z0.of C; Nt<|Sq<|Sr<|Vv (V.ldS z r (by exact J5)) ?_
  refine bE H fun aj D H=>To (O.cs (B0T ⟨i,z,k.u⟩ D _) fun s an=>An z<|Sm z<|Wn z z<|Nt<|T.cH H z (fun H=>?_) fun H=>?_)
  ·exact Sm z<|Mv z<|Ag z<|Ag z<|Nr<|Tr<|Br<|Tr<|Tr<|have H:=D6 H e; Br<|Tr<|have H:=I7 H g; E1 H
  refine Ks<|Sm z<|Mv z<|bE H fun I t H=>T.slM z O6 z d.u (.inl ⟨z,z⟩) (.inr ⟨_,_,z,z⟩) (A3K t).2 z fun J K ao=>?_
  have M:F8 I6 7 s J I:=by rw [(A3K t).1]; exact K
  refine Vv (V.mkf z z)<|bE H fun ap N H=>To (O.cs (B1J M (show B0O s (.func (.func 170) #[] #[qp q]) (fun P=>A6I P a) from ⟨⟨z,z⟩,.inr ⟨170,[],[qp q],z,fun aq ar au aw S ax U W=>B6B S r.u ⟨i,z,k.u⟩ U W⟩⟩) N _) fun aA aC=>Nt<|T.cH H z (fun H=>?_) fun H=>?_)
  ·exact Sm z<|Ag z<|Ag z<|Nr<|Br<|Tr<|Tr<|have H:=D6 H e; Br<|Tr<|have H:=I7 H g; E1 H
  refine T.skip<|Bn<|Th<|Rg<|bE H fun Z aa H=>Vv (V.H8 z z aa)<|Mv z<|Nt<|T.ag (A,Z) (D8 H e)
 exact T.exit<|Te<|Te<|have H:=D6 H e; Be<|Th<|have H:=I7 H g; Sg z<|Ag z<|Nr<|E1 H
theorem C1c {h a b c d e f} (g:I6 h a b) (i:Z0 h c d) (j:VS h d e) (H:B1R b e=some f):∀ L,FnW prog 207 [.agg a.toArray,.pointer (some c)] h L (.bool f):=by
 intro L
 obtain ⟨n,rfl,o⟩:=g
 obtain rfl:=j
 refine J6.enter func207 z z z<|Sr<|To (O.U5 z z z fun p q r m=>An z<|Sr<|Vv (V.fa A0j z)<|Vv (V.M5 (k:=0) J7 z m z)<|Vv (V.S9 J7 z i.u z)<|Vv (V.seq z z)<|Ag z<|Nr ?_)
 exact E1 H
theorem A5s {h a b c} (d:F8 I6 7 h a b) (H:A3f b=some c):∀ L,FnW prog 63 [a] h L (.bool c):=by
 intro L
 exact J6.enter func63 z z z<|Sr<|An z<|Sm z<|bE H fun ⟨i,j⟩ e H=>To (O.cs (B1m d e _) fun m o=>Mv z<|Wx z z<|Wx z z<|Ag z<|An z<|Sm z<|We z z<|Ag z<|Nr<|E1 H)
theorem A4U {h i k m n} (f:F8 I6 7 h i k) (H:A2o k m=some n):∀ L,FnW prog 43 [i,.int .i64 m] h L (.int .i64 n):=by
 intro L
 refine J6.enter func43 z z z<|Sr<|An z<|Sq<|Sq ?_
 obtain ⟨w,x,y⟩:=K4 H
 refine T.ck (α:=Bool) [0,1] (fun e=>([(20,.bool e)],L,fun hh=>w=e)) ?_ ?_
 ·have H:=x
  refine Rg<|Mv z<|Wl z z<|Mv z<|T.bH 10 H z (fun H=>?_) fun H=>?_
  ·refine S2<|S2<|Kt z<|Mv z<|S2<|Sk<|Kt z<|Nt<|T.mt true (M7 H)
  refine Mv z<|Mv z<|Vv (V.Q3 O6 z f)<|Vv (V.ge z z)<|Kf z<|Mv z<|T.bH 16 H z (fun H=>?_) fun H=>?_
  ·refine S2<|Sk<|Kt z<|Nt<|T.mt true (M7 H)
  refine Mv z<|bE H fun A B H=>To (O.G9 z (A5s f B _) z fun af ai aj ak C=>?_)
  obtain ⟨rfl,D⟩:=C
  refine P7 _ D<|Vv (V.not z)<|Kf z<|Nt<|T.mt (!A) (M7 H)
 rintro e E am G
 have H:=I7 G y
 refine T.norm [20,0,1] z<|T.fl ?_
 refine T.cH H z (fun H=>?_) fun H=>?_
 ·exact Sg z<|Nr<|Tr<|E1 H
 refine Ks<|Sr<|An z<|Sq<|Sm z<|Mv z<|bE H fun o p H=>T.slM z O6 z f.u (.inl ⟨z,z⟩) (.inr ⟨_,_,z,z⟩) (A3K p).2 z fun I J an=>?_
 have g:F8 I6 7 E I o:=by rw [(A3K p).1]; exact J
 refine Vv (V.Q3 O6 z g)<|Mv z<|Nt ?_
 obtain ⟨K,M,N⟩:=K4 H
 have H:=M
 refine Bl<|T.lk [23,24] (FUEL,(0:Int),(0:Int)) (fun ⟨a,b,c⟩=>([(25,qi b),(5,qi c)],L,fun hh=>iter (A3G o) a (b,c)=some K)) H ?_
 rintro ⟨a,b,c⟩ ao ap P
 obtain ⟨S,aq,rfl,H,q⟩:=G8 P
 refine T.norm [25,5,23,24] z<|T.fl ?_
 refine Sr<|Wl z z<|Nt<|Sq<|T.cH H z (fun H=>?_) fun H=>?_
 ·refine Ks<|Sq<|Bl<|Sr<|bE H fun d r H=>?_
  obtain ⟨ar,U,⟨s,rfl,t⟩⟩:=F8.at g r
  refine Vv (V.ix O6 z z g (E9 r))<|Vv (V.ldS z U.u (by exact J5)) ?_
  refine To (O.alloc A1J z z fun au=>To (O.stF (vs:=[.string d.F7,.int .u8 d.Q4,qi d.fA,qi d.fB,s,qi d.fX,qi d.fY]) J5 z z (j:=0) z z (by (simp only [BT,F8.one t]) <;> rfl) z ?_))
  refine T.freeze fun aw ax W=>have X:=Z0.of W; Nt<|Rg<|Mv z<|Vv (V.ldS z X (by exact J5)) ?_
  refine bE H fun ay Y H=>To (O.G9 z (A2j ⟨s,z,t.u⟩ Y _) z fun aA aB aC aD Z=>?_)
  obtain ⟨rfl,aa⟩:=Z
  refine P7 _ aa<|bE H fun ab ac H=>Vv (V.H8 z z ac)<|Ag z<|Ni<|Bn<|Th<|Rg<|bE H fun ad ae H=>Vv (V.H8 z z ae)<|Mv z<|Nt<|T.ag (S,ad,ab) (D8 H q)
 exact T.exit<|Te<|Te<|have H:=D6 H q; Be<|Th<|have H:=I7 H N; Sm z<|Ag z<|Nr<|E1 H
theorem B8i {h b c d} (a:F8 I6 7 h b c) (H:A7T c=some d):∀ L,FnW prog 104 [b] h L (.int .i64 d):=by
 intro L
 refine J6.enter func104 z z z<|Sr<|An z<|Sq<|Sm z<|Vv (V.Q3 O6 z a)<|We z z<|Nt<|T.cH H z (fun H=>?_) fun H=>?_
 ·exact Sg z<|Nr<|Tr<|E1 H
 refine Ks<|Sm z<|Mv z<|Vv (V.Q3 O6 z a)<|bE H fun o f H=>Vv (V.Y9 z z f)<|bE H fun p e H=>?_
 obtain ⟨q,g,⟨i,rfl,j⟩⟩:=F8.at a e
 refine Vv (V.ix O6 z z a (E9 e))<|Vv (V.ldS z g (by exact J5)) ?_
 exact bE H fun r k H=>To (O.cs (A2j ⟨i,z,j⟩ k _) fun t w=>Ag z<|Nr<|E1 H)
theorem A7X {h b c d} (a:F8 I6 7 h b c) (H:A2r c=some d):∀ L,FnW prog 44 [b] h L (.int .i64 d):=by
 intro L
 refine J6.enter func44 z z z<|Sr<|An z<|Sq<|Sm z<|bE H fun r e H=>To (O.cs (A5s a e _) fun t x=>Vv (V.not z)<|Nt<|T.cH H z (fun H=>?_) fun H=>?_)
 ·exact Sg z<|Nr<|Tr<|E1 H
 exact Ks<|Sm z<|Mv z<|Vv (V.Q3 O6 z a)<|bE H fun y i H=>Vv (V.Y9 z z i)<|bE H fun A j H=>To (O.cs (A4U a.u j _) fun C E=>Mv z<|bE H fun G n H=>To (O.cs (B8i a.u n _) fun J M=>bE H fun N q H=>Vv (V.H8 z z q)<|Ag z<|Nr<|E1 H))
theorem A7A {h m g i n o p} (f:F8 I6 7 h m g) (H:A3a g i=some (n,o,p)):∀ L,FnW prog 24 [m,.int .i64 i] h L (.tuple #[.int .i64 n,.int .i64 o,.bool p]):=by
 intro L
 refine J6.enter func24 z z z<|Sg z<|Ag z<|An z<|Sq<|Sq ?_
 obtain ⟨w,x,y⟩:=K4 H
 refine T.ck (α:=Bool) [0,1] (fun e=>([(16,.bool e)],L,fun hh=>w=e)) ?_ ?_
 ·have H:=x
  refine Rg<|Mv z<|Wl z z<|Mv z<|T.bH 12 H z (fun H=>?_) fun H=>?_
  ·refine S2<|Sk<|Kt z<|Nt<|T.mt true (M7 H)
  refine Mv z<|bE H fun A B H=>To (O.G9 z (A5s f B _) z fun ab ac ad ae C=>?_)
  obtain ⟨rfl,D⟩:=C
  refine P7 _ D<|Vv (V.not z)<|Kf z<|Nt<|T.mt (!A) (M7 H)
 rintro e af ai E
 have H:=I7 E y
 refine T.norm [16,0,1] z<|T.fl ?_
 refine T.cH H z (fun H=>?_) fun H=>?_
 ·exact Sg z<|Ag z<|Ag z<|Nr<|Tr<|E1 H
 refine Ks<|Sq<|Sm z<|Vv (V.Q3 O6 z f)<|Mv z<|Nt ?_
 obtain ⟨G,I,q⟩:=K4 H
 have H:=I
 refine Bl<|T.lk [17,18] (FUEL,i,(0:Int)) (fun ⟨a,b,c⟩=>([(1,qi b),(19,qi c)],L,fun hh=>iter (A3J g) a (b,c)=some G)) H ?_
 rintro ⟨a,b,c⟩ aj ak J
 obtain ⟨K,am,rfl,H,k⟩:=G8 J
 refine T.norm [1,19,17,18] z<|T.fl ?_
 refine Sr<|Wl z z<|Nt<|Sq<|T.cH H z (fun H=>?_) fun H=>?_
 ·refine Ks<|Sq<|Bl<|Sm z<|bE H fun d r H=>?_
  obtain ⟨an,M,⟨s,rfl,t⟩⟩:=F8.at f r
  refine Vv (V.ix O6 z z f (E9 r))<|Vv (V.ldS z M.u (by exact J5)) ?_
  refine To (O.alloc A1J z z fun ao=>Ag z<|To (O.stF (vs:=[.string d.F7,.int .u8 d.Q4,qi d.fA,qi d.fB,s,qi d.fX,qi d.fY]) J5 z z (j:=0) z z (by (simp only [BT,F8.one t]) <;> rfl) z ?_))
  refine T.freeze fun ap aq N=>have P:=Z0.of N; Nt<|Sr<|Vv (V.ldS z P (by exact J5)) ?_
  refine bE H fun ar S H=>To (O.cs (A2j ⟨s,z,t.u⟩ S _) fun aw ay=>An z<|Sq<|Sm z<|Mv z<|Wl z z<|Nt<|T.cH H z (fun H=>?_) fun H=>?_)
  ·exact Sm z<|Mv z<|Ag z<|Ag z<|Ag z<|Nr<|Tr<|Br<|Tr<|Tr<|have H:=D6 H k; Br<|Tr<|have H:=I7 H q; E1 H
  refine Ks<|Rg<|Mv z<|Mv z<|bE H fun X Y H=>Vv (V.Y9 z z Y)<|Ag z<|Ni<|Bn<|Th<|Rg<|bE H fun Z aa H=>Vv (V.H8 z z aa)<|Mv z<|Nt<|T.ag (K,X,Z) (D8 H k)
 exact T.exit<|Te<|Te<|have H:=D6 H k; Be<|Th<|have H:=I7 H q; Sg z<|Ag z<|Ag z<|Nr<|E1 H
theorem C3q {h b c a d e} (f:F8 I6 7 h b c) (H:B3W c a=some (d,e)):∀ L,FnW prog 142 [b,.string a] h L (.tuple #[.int .i64 d,.bool e]):=by
 intro L
 refine J6.enter func142 z z z<|Sr<|To (O.U5 z z z fun g i y j=>Ag z<|An z<|Sm z<|Vv (V.mkf z z)<|bE H fun A k H=>To (O.cs (A8w f.u (show B0O i (.func (.func 207) #[] #[qp g]) (fun m=>B1R m a) from ⟨⟨z,z⟩,.inr ⟨207,[],[qp g],z,fun n B C D o E p q=>C1c o j.u (show VS n [.string a] a from z) p q⟩⟩) k _) fun I K=>An z<|Sq<|Sm z<|Wl z z<|Mv z<|T.bH 12 H z (fun H=>?_) fun H=>?_))
 ·exact S2<|Sk<|Kt z<|Nt<|Ct z<|Sg z<|Ag z<|Nr<|Tr<|E1 H
 refine Mv z<|bE H fun M t H=>To (O.cs (A5s f.u t _) fun P U=>Vv (V.not z)<|Kf z<|Nt<|T.cH H z (fun H=>?_) fun H=>?_)
 ·exact Sg z<|Ag z<|Nr<|Tr<|E1 H
 exact Ks<|Sm z<|Ag z<|Ag z<|Nr<|E1 H
theorem B5q {h a b c} (g:I6 h a b) (H:B1N b=some c):∀ L,FnW prog 120 [.agg a.toArray] h L (.int .i64 c):=by
 intro L
 obtain ⟨d,rfl,e⟩:=g
 refine J6.enter func120 z z z<|Sr<|To (O.U5 z z z fun p q r f=>An z<|Sq<|Sr<|Vv (V.ldS z f (by exact J5)) ?_)
 refine bE H fun s i H=>To (O.cs (B0T ⟨d,z,e.u⟩ i _) fun w y=>Wn z z<|Nt<|T.cH H z (fun H=>?_) fun H=>?_)
 ·exact Sg z<|Nr<|Tr<|E1 H
 refine Ks<|Sr<|Vv (V.ldS z f.u (by exact J5)) ?_
 exact bE H fun A m H=>To (O.cs (A2j ⟨d,z,e.u⟩ m _) fun C E=>Ag z<|Nr<|E1 H)
theorem C3s {h b c d e} (a:F8 I6 7 h b c) (H:B4j c d=some e):∀ L,FnW prog 46 [b,.int .i64 d] h L (.bool e):=by
 intro L
 refine J6.enter func46 z z z<|Sr<|An z<|Sm z<|Mv z<|bE H fun ⟨r,s,t⟩ g H=>To (O.cs (A7A a g _) fun x A=>Mv z<|Wx z z<|Wx z z<|Wx z z<|Ag z<|Ag z<|An z<|Sm z<|Mv z<|T.bH 16 H z (fun H=>?_) fun H=>?_)
 ·refine Mv z<|Mv z<|bE H fun B f H=>?_
  obtain ⟨C,m,⟨D,rfl,n⟩⟩:=F8.at a f
  exact Vv (V.ix O6 z z a (E9 f))<|Vv (V.fa Y1 z)<|Vv (V.M5 (k:=4) E5 z m.u z)<|Mv z<|bE H fun E o H=>To (O.cs (A1Z n.u o _) fun I K=>Kt z<|Ag z<|Nr<|E1 H)
 exact S2<|S2<|S2<|Sk<|Kf z<|Ag z<|Nr<|E1 H
theorem C1k {h b c d e} (a:F8 I6 7 h b c) (H:B1Q c d=some e):∀ L,FnW prog 45 [b,.int .i64 d] h L (.int .i64 e):=by
 intro L
 refine J6.enter func45 z z z<|Sr<|An z<|Sm z<|Mv z<|bE H fun ⟨x,y,A⟩ k H=>To (O.cs (A7A a k _) fun C E=>Mv z<|Wx z z<|Wx z z<|Wx z z<|Ag z<|Ag z<|An z<|Sq<|Sm z<|Vv (V.not z)<|Nt<|T.cH H z (fun H=>?_) fun H=>?_)
 ·exact Sg z<|Nr<|Tr<|E1 H
 refine Ks<|Sm z<|Mv z<|bE H fun G f H=>?_
 obtain ⟨I,o,⟨p,rfl,q⟩⟩:=F8.at a f
 refine Vv (V.ix O6 z z a (E9 f))<|Vv (V.ldS z o.u (by exact J5)) ?_
 refine bE H fun J r H=>To (O.G9 z (B2T ⟨p,z,q.u⟩ r _) z fun K M N P s=>?_)
 obtain ⟨S,t,g⟩:=s
 refine P7 _ t<|Mv z<|bE H fun U i H=>?_
 obtain ⟨W,w,rfl⟩:=A7.get g i
 exact Vv (V.ixR A9 z z (j:=0) z (A7.bd g i))<|Vv (V.ldR D7 z (j:=0) z w z)<|Ag z<|Nr<|T.drop<|E1 H
theorem B6L {h e f g i a k m n} (d:F8 I6 7 h e f) (H:A9o f g i=some (a,k,m,n)):∀ L,J6 prog 106 [e,.int .i64 g,.int .i64 i] h (L) (fun v h' L'=>∃ v0_1,v=.tuple #[.agg #[.string a.F7,.int .u8 a.Q4,.int .i64 a.fA,.int .i64 a.fB,v0_1,.int .i64 a.fX,.int .i64 a.fY],.int .i64 k,.int .i64 m,.bool n]∧L'=L∧F8 (VI .i64) 1 h' v0_1 a.A2M):=by
 intro L
 refine J6.enter func106 z z z<|Sr<|To (O.alloc A1J z z fun q=>Ag z<|Ag z<|An z<|Sm z<|Mv z<|bE H fun ⟨r,K,M⟩ s H=>To (O.cs (A7A d s _) fun P U=>Mv z<|Wx z z<|Wx z z<|Wx z z<|Ag z<|Ag z<|An z<|Sm z<|Mv z<|bE H fun ⟨x,W,X⟩ y H=>To (O.cs (A7A d.u y _) fun Z ab=>Mv z<|Wx z z<|Wx z z<|Wx z z<|Ag z<|Ag z<|An z<|Sq<|Sq ?_)))
 obtain ⟨C,D,E⟩:=K4 H
 refine T.ck (α:=Bool) [0,6,7,8,10] (fun c=>([(38,.bool c)],blk q (.cells [.string qe,.int .u8 0,qi 0,qi 0,qs,qi 0,qi 0].toArray 139)::L,fun hh=>C=c)) ?_ ?_
 ·have H:=D
  refine Rg<|Mv z<|Vv (V.not z)<|Mv z<|T.bH 30 H z (fun H=>?_) fun H=>?_
  ·refine S2<|Kt z<|Mv z<|S2<|Sk<|Kt z<|Nt<|T.mt true (M7 H)
  refine Mv z<|Vv (V.not z)<|Kf z<|Mv z<|T.bH 34 H z (fun H=>?_) fun H=>?_
  ·refine S2<|Sk<|Kt z<|Nt<|T.mt true (M7 H)
  refine Mv z<|Mv z<|Wn z z<|Kf z<|Nt<|T.mt (!decide (r=x)) (M7 H)
 rintro c ac ad G
 have H:=I7 G E
 refine T.norm [38,0,6,7,8,10] z<|T.fl ?_
 refine T.cH H z (fun H=>?_) fun H=>?_
 ·refine Sr<|Vv (V.bld (xs:=[]) (cs:=[_,_,_,_,_,_,_]) B7m B8c z F4.nil)<|To (O.stF (vs:=[.string qe,.int .u8 0,qi 0,qi 0,qs,qi 0,qi 0]) J5 z z (j:=0) z z z z<|Ag z<|Ag z<|Ag z<|Nr<|Tr ?_)
  cases H
  exact T.A9b (L':=L) results106 (RVs.cons (RV.cellS z (j:=0) z J5) (RVs.cons (RV.tmp z) (RVs.cons (RV.tmp z) (Rv z)))) Li (fun _ iv=>iv.drop) ⟨_,z,z,F8.nil⟩
 refine Ks<|Sm z<|Mv z<|bE H fun b o H=>?_
 obtain ⟨ae,I,⟨J,rfl,p⟩⟩:=F8.at d o
 refine Vv (V.ix O6 z z d (E9 o))<|Vv (V.ldS z I.u (by exact J5)) ?_
 refine Mv z<|Mv z<|To (O.stF (vs:=[.string b.F7,.int .u8 b.Q4,qi b.fA,qi b.fB,J,qi b.fX,qi b.fY]) J5 z z (j:=0) z z (by (simp only [BT,F8.one p]) <;> rfl) z ?_)
 refine Ag z<|Ag z<|Ag z<|Nr ?_
 cases H
 exact T.A9b (L':=L) results106 (RVs.cons (RV.cellS z (j:=0) z J5) (RVs.cons (RV.tmp z) (RVs.cons (RV.tmp z) (Rv z)))) Li (fun _ iv=>iv.drop) ⟨_,z,z,p.u⟩
theorem B9v {h b c d e f} (k:F8 I6 7 h b c) (H:B0r c d e=some f):∀ L,FnW prog 49 [b,.int .i64 d,.int .i64 e] h L (.bool f):=by
 intro L
 refine J6.enter func49 z z z<|Sr<|An z<|Sm z<|Mv z<|Mv z<|bE H fun ⟨a,w,x,y⟩ m H=>To (O.G9 z (B6L k m _) z fun A B C D n=>?_)
 obtain ⟨g,rfl,o,i⟩:=n
 refine P7 _ o<|Mv z<|Wx z z<|Wx z z<|Wx z z<|Wx z z<|To (O.alloc A1J z z fun E=>To (O.stF (vs:=[.string a.F7,.int .u8 a.Q4,qi a.fA,qi a.fB,g,qi a.fX,qi a.fY]) J5 z z (j:=0) z z (by (simp only [BT,F8.one i]) <;> rfl) z ?_))
 refine T.freeze fun G I p=>have q:=Z0.of p; Ag z<|Ag z<|An z<|Sm z<|Mv z<|T.bH 21 H z (fun H=>?_) fun H=>?_
 ·refine Vv (V.ldS z q (by exact J5)) ?_
  exact Mv z<|Mv z<|bE H fun J r H=>To (O.cs (A6B ⟨g,z,i.u⟩ r _) fun M P=>Kt z<|Ag z<|Nr<|E1 H)
 exact S2<|S2<|Kf z<|Ag z<|Nr<|E1 H
theorem C0e {h b c d e f} (k:F8 I6 7 h b c) (H:B0H c d e=some f):∀ L,FnW prog 51 [b,.int .i64 d,.int .i64 e] h L (.bool f):=by
 intro L
 refine J6.enter func51 z z z<|Sr<|An z<|Sm z<|Mv z<|Mv z<|bE H fun ⟨a,w,x,y⟩ m H=>To (O.G9 z (B6L k m _) z fun A B C D n=>?_)
 obtain ⟨g,rfl,o,i⟩:=n
 refine P7 _ o<|Mv z<|Wx z z<|Wx z z<|Wx z z<|Wx z z<|To (O.alloc A1J z z fun E=>To (O.stF (vs:=[.string a.F7,.int .u8 a.Q4,qi a.fA,qi a.fB,g,qi a.fX,qi a.fY]) J5 z z (j:=0) z z (by (simp only [BT,F8.one i]) <;> rfl) z ?_))
 refine T.freeze fun G I p=>have q:=Z0.of p; Ag z<|Ag z<|An z<|Sm z<|Mv z<|T.bH 21 H z (fun H=>?_) fun H=>?_
 ·refine Vv (V.ldS z q (by exact J5)) ?_
  exact Mv z<|Mv z<|bE H fun J r H=>To (O.cs (A6C ⟨g,z,i.u⟩ r _) fun M P=>Kt z<|Ag z<|Nr<|E1 H)
 exact S2<|S2<|Kf z<|Ag z<|Nr<|E1 H
end Go.Proofs.X
open Go Go.Proofs Go.Proofs.Tryz Go.Sl Go.Dm
namespace Go.Proofs.X
theorem C4T:A5h prog 193=some ([.slice none 0 0,.slice none 0 0,.map none],[(0,2),(2,1)]):=by kernel_rfl
theorem C5m:A0B prog 193=true:=by kernel_rfl
theorem B4Z:O5 prog 121 3=some 3:=by kernel_rfl
theorem A5p:O5 prog 121 4=some 4:=by kernel_rfl
theorem A7D:O5 prog 168 0=some 0:=by kernel_rfl
theorem A8c:O5 prog 168 1=some 1:=by kernel_rfl
theorem B4T:O5 prog 168 2=some 2:=by kernel_rfl
theorem A4W:O5 prog 190 0=some 0:=by kernel_rfl
theorem A5k:O5 prog 190 1=some 1:=by kernel_rfl
theorem A0F:O5 prog 193 0=some 0:=by kernel_rfl
theorem A5l:O5 prog 193 1=some 2:=by kernel_rfl
theorem B0A:U6 prog 124=some (false,1):=by kernel_rfl
theorem A1s:U6 prog 168=some (true,3):=by kernel_rfl
theorem A8t:U6 prog 191=some (false,1):=by kernel_rfl
theorem B1b {h d g} (H:A7o d=some g):∀ L,FnW prog 209 [.string d] h L (.bool g):=by
 intro L
 refine J6.enter func209 z z z<|Sr<|An z<|Sq<|Sq ?_
 obtain ⟨i,j,k⟩:=K4 H
 refine T.ck (α:=Bool) [0] (fun c=>([(11,.bool c)],L,fun hh=>i=c)) ?_ ?_
 ·have H:=j
  refine Rg<|Mv z<|Vv (V.B2i underlying9 z)<|We z z<|Mv z<|T.bH 7 H z (fun H=>?_) fun H=>?_
  ·refine S2<|Sk<|Kt z<|Nt<|T.mt true (M7 H)
  refine Mv z<|Vv (V.B2i underlying9 z)<|Wg z z<|Kf z<|Nt<|T.mt (decide ((12:Int) < (d.size:Int))) (M7 H)
 rintro c w x m
 have H:=I7 m k
 refine T.norm [11,0] z<|T.fl ?_
 refine T.cH H z (fun H=>?_) fun H=>?_
 ·exact Sg z<|Nr<|Tr<|E1 H
 refine Ks<|Sq<|Sm z<|Vv (V.B2i underlying9 z)<|Mv z<|Nt ?_
 obtain ⟨n,o,f⟩:=K4 H
 have H:=o
 refine Bl<|T.lk [0,13] (FUEL,(0:Int)) (fun ⟨a,b⟩=>([(14,qi b)],L,fun hh=>iter (B0X d) a b=some n)) H ?_
 rintro ⟨a,b⟩ y A p
 obtain ⟨q,B,rfl,H,e⟩:=G8 p
 refine T.norm [14,0,13] z<|T.fl ?_
 refine Sr<|Wl z z<|Nt<|Sq<|T.cH H z (fun H=>?_) fun H=>?_
 ·refine Ks<|Sq<|Bl<|Sm z<|An z<|Sm z<|Mv z<|bE H fun C r H=>Vv (V.C4Z underlying9 z z r)<|Wl z z<|Mv z<|T.bH 21 H z (fun H=>?_) fun H=>?_
  ·exact S2<|S2<|Kt z<|Nt<|Ct z<|Sg z<|Nr<|Br<|Tr<|Tr<|have H:=D6 H e; Br<|Tr<|have H:=I7 H f; E1 H
  refine Mv z<|Mv z<|bE H fun D s H=>Vv (V.C4Z underlying9 z z s)<|Wg z z<|Kf z<|Nt<|T.cH H z (fun H=>?_) fun H=>?_
  ·exact Sg z<|Nr<|Br<|Tr<|Tr<|have H:=D6 H e; Br<|Tr<|have H:=I7 H f; E1 H
  refine T.skip<|Bn<|Th<|Rg<|bE H fun t u H=>Vv (V.H8 z z u)<|Mv z<|Nt<|T.ag (q,t) (D8 H e)
 exact T.exit<|Te<|Te<|have H:=D6 H e; Be<|Th<|have H:=I7 H f; Sg z<|Nr<|E1 H
theorem B0R {h a b} (H:A7x a=some b):∀ L,FnW prog 210 [.string a] h L (.bool b):=by
 intro L
 refine J6.enter func210 z z z<|Sr<|An z<|Sm z<|Vv (V.seq z z)<|Mv z<|T.bH 5 H z (fun H=>?_) fun H=>?_
 ·exact S2<|Kt z<|Ag z<|Nr<|E1 H
 exact Mv z<|bE H fun f c H=>To (O.cs (B1b c _) fun i k=>Kf z<|Ag z<|Nr<|E1 H)
theorem B9m {h n e o} (s:I8 h n e) (H:B0G e=some o):∀ L,FnW prog 158 [.agg n.toArray] h L (.int .i64 o):=by
 intro L
 obtain ⟨aw,rfl,b⟩:=s
 refine J6.enter func158 z z z<|Sr<|To (O.U5 z z z fun ax ay aA a=>An z<|Sq<|Bl<|Sq ?_)
 obtain ⟨t,w,x⟩:=K4 H
 refine T.ck (α:=Bool) [1] (fun f=>([(5,.bool f)],L,fun hh=>t=f)) ?_ ?_
 ·have H:=w
  refine Rg<|Vv (V.fa A0k z)<|Vv (V.M5 (k:=0) J7 z a z)<|bE H fun aB y H=>To (O.cs (B1b y _) fun aD aG=>Vv (V.not z)<|Mv z<|T.bH 10 H z (fun H=>?_) fun H=>?_)
  ·refine S2<|S2<|Kt z<|Mv z<|S2<|S2<|Kt z<|Mv z<|S2<|S2<|Kt z<|An z<|T.mt true (M7 H)
  refine Vv (V.fa B8k z)<|Vv (V.M5 (k:=1) J7 z a.u z)<|bE H fun aI C H=>To (O.cs (B0R C _) fun aK aN=>Vv (V.not z)<|Kf z<|Mv z<|T.bH 16 H z (fun H=>?_) fun H=>?_)
  ·refine S2<|S2<|Kt z<|Mv z<|S2<|S2<|Kt z<|An z<|T.mt true (M7 H)
  refine Vv (V.fa A8o z)<|Vv (V.M5 (k:=2) J7 z a.u z)<|bE H fun aO G H=>To (O.cs (B0R G _) fun aS aV=>Vv (V.not z)<|Kf z<|Mv z<|T.bH 22 H z (fun H=>?_) fun H=>?_)
  ·refine S2<|S2<|Kt z<|An z<|T.mt true (M7 H)
  refine Vv (V.fa B0K z)<|Vv (V.M5 (k:=5) J7 z a.u z)<|bE H fun K M H=>To (O.G9 z (B0R M _) z fun aW aX aY aZ N=>?_)
  obtain ⟨rfl,P⟩:=N
  refine P7 _ P<|Vv (V.not z)<|Kf z<|An z<|T.mt (!K) (M7 H)
 rintro f a0 a1 S
 have H:=I7 S x
 refine T.norm [5,1] z<|T.fl ?_
 refine T.cH H z (fun H=>?_) fun H=>?_
 ·exact Sg z<|Nr<|Br<|Tr<|E1 H
 refine Sq ?_
 obtain ⟨U,W,X⟩:=K4 H
 refine T.ck (α:=Bool) [1] (fun g=>([(28,.bool g)],L,fun hh=>U=g)) ?_ ?_
 ·have H:=W
  refine Rg<|Vv (V.fa B4Z z)<|Vv (V.M5 (k:=3) D7 z a.u z)<|Wl z z<|Mv z<|T.bH 32 H z (fun H=>?_) fun H=>?_
  ·refine S2<|Sk<|Kt z<|An z<|T.mt true (M7 H)
  refine Vv (V.fa B4Z z)<|Vv (V.M5 (k:=3) D7 z a.u z)<|Wg z z<|Kf z<|An z<|T.mt (decide ((9999:Int) < e.A0h)) (M7 H)
 rintro g a2 a3 Y
 have H:=I7 Y X
 refine T.norm [28,1] z<|T.fl ?_
 refine T.cH H z (fun H=>?_) fun H=>?_
 ·exact Sg z<|Nr<|Br<|Tr<|E1 H
 refine Sq ?_
 obtain ⟨Z,aa,ab⟩:=K4 H
 refine T.ck (α:=Bool) [1] (fun i=>([(37,.bool i)],L,fun hh=>Z=i)) ?_ ?_
 ·have H:=aa
  refine Rg<|Vv (V.fa A5p z)<|Vv (V.M5 (k:=4) D7 z a.u z)<|Wl z z<|Mv z<|T.bH 41 H z (fun H=>?_) fun H=>?_
  ·refine S2<|Sk<|Kt z<|An z<|T.mt true (M7 H)
  refine Vv (V.fa A5p z)<|Vv (V.M5 (k:=4) D7 z a.u z)<|Wg z z<|Kf z<|An z<|T.mt (decide ((2:Int) < e.A0r)) (M7 H)
 rintro i a4 a5 ac
 have H:=I7 ac ab
 refine T.norm [37,1] z<|T.fl ?_
 refine T.cH H z (fun H=>?_) fun H=>?_
 ·exact Sg z<|Nr<|Br<|Tr<|E1 H
 refine Sr<|Vv (V.fa A0A z)<|Vv (V.M5 (k:=8) A1v z a.u z)<|Vv (V.Q3 X5 z b)<|Wg z z<|An z<|T.cH H z (fun H=>?_) fun H=>?_
 ·exact Sg z<|Nr<|Br<|Tr<|E1 H
 refine T.skip<|Bn<|Th<|Sq<|Sr<|Vv (V.fa A0A z)<|Vv (V.M5 (k:=8) A1v z a.u z)<|Vv (V.Q3 X5 z b)<|Mv z<|Nt ?_
 obtain ⟨ad,ae,m⟩:=K4 H
 have H:=ae
 refine Bl<|T.lk [1,52,53] (FUEL,(0:Int)) (fun ⟨c,d⟩=>([(54,qi d)],L,fun hh=>iter (A3V e) c d=some ad)) H ?_
 rintro ⟨c,d⟩ a6 a7 af
 obtain ⟨p,a8,rfl,H,j⟩:=G8 af
 refine T.norm [54,1,52,53] z<|T.fl ?_
 refine Sr<|Wl z z<|Nt<|Sq<|T.cH H z (fun H=>?_) fun H=>?_
 ·refine Ks<|Sq<|Bl<|Sm z<|bE H fun a9 q H=>?_
  obtain ⟨ah,ai,rfl⟩:=F8.at b q
  refine Vv (V.ix X5 z z b (E9 q))<|Vv (V.S9 J7 z ai.u z)<|Ag z<|An z<|Sm z<|bE H fun al aj H=>To (O.cs (B1b aj _) fun az bb=>Vv (V.not z)<|Mv z<|T.bH 62 H z (fun H=>?_) fun H=>?_)
  ·exact S2<|S2<|S2<|S2<|S2<|S2<|Kt z<|Nt<|Ct z<|Sg z<|Nr<|Br<|Tr<|Tr<|have H:=D6 H j; Br<|Tr<|have H:=I7 H m; E1 H
  refine Mv z<|Wg z z<|Mv z<|T.bH 65 H z (fun H=>?_) fun H=>?_
  ·refine Vv (V.fa A0A z)<|Vv (V.M5 (k:=8) A1v z a.u z)<|Mv z<|bE H fun bc an H=>Vv (V.Y9 z z an)<|bE H fun bd r H=>?_
   obtain ⟨be,ao,rfl⟩:=F8.at b r
   refine Vv (V.ix X5 z z b (E9 r))<|Vv (V.S9 J7 z ao.u z)<|Mv z<|Vv (V.sge z z)<|Kt z<|Kf z<|Nt<|T.cH H z (fun H=>?_) fun H=>?_
   ·exact Sg z<|Nr<|Br<|Tr<|Tr<|have H:=D6 H j; Br<|Tr<|have H:=I7 H m; E1 H
   refine T.skip<|Bn<|Th<|Rg<|bE H fun ap aq H=>Vv (V.H8 z z aq)<|Mv z<|Nt<|T.ag (p,ap) (D8 H j)
  refine S2<|S2<|S2<|S2<|Kf z<|Kf z<|Nt<|Cf z<|T.skip<|Bn<|Th<|Rg<|bE H fun ar au H=>Vv (V.H8 z z au)<|Mv z<|Nt<|T.ag (p,ar) (D8 H j)
 exact T.exit<|Te<|Te<|have H:=D6 H j; Be<|Th<|have H:=I7 H m; Sg z<|Nr<|E1 H
theorem B8P {h c a b} (f:I8 h c a) (H:A8W a=some b):∀ L,J6 prog 159 [.agg c.toArray] h (L) (fun v h' L'=>∃ v0_1,v=.agg #[.string b.F7,.string b.A1S,.string b.W9,.int .i64 b.A0h,.int .i64 b.A0r,.string b.A0t,.bool b.A0s,.bool b.Y6,v0_1]∧L'=L∧F8 VS 1 h' v0_1 b.O4):=by
 intro L
 obtain ⟨w,rfl,g⟩:=f
 refine J6.enter func159 z z z<|Sr<|To (O.box z z z fun x=>To (O.alloc A1K z z fun y=>Nt<|Sr<|Vv (V.fa A0A z)<|Vv (V.ldO (k:=8) A1v z (j:=1) z z)<|bE H fun A i H=>To (O.G9 z (B0c g i _) z fun d B C D m=>?_)))
 obtain ⟨E,n,o⟩:=m
 refine P7 _ n<|Vv (V.fa A0A z)<|T.Q9 0 z fun p q=>To (O.st (vs:=[d]) (k:=8) A1v z z (j:=2) z q (by (simp only [BT,p]) <;> rfl) ?_)
 refine T.fl ?_
 refine Nt<|Sr<|Vv (V.A4O (j:=0) (by exact V8) z z) ?_
 refine T.fs [1] ?_
 refine T.K5 fun G I r=>have e:=A7.slc r o.u; To (O.stF (vs:=[.string a.F7,.string a.A1S,.string a.W9,qi a.A0h,qi a.A0r,.string a.A0t,.bool a.A0s,.bool a.Y6,d]) V8 z z (j:=1) z z (by (simp only [BT,F8.one e]) <;> rfl) z ?_)
 refine T.freeze fun J K s=>have t:=Z0.of s; Nr<|T.drop ?_
 cases H
 exact T.rl z (RVs.cons (RV.B2N z t V8) RVs.nil) ⟨_,z,z,e.u⟩
theorem B0S {h a b c} (H:bytealg_CompareString a b=some c):∀ L,FnW prog 211 [.string a,.string b] h L (.int .i64 c):=by
 intro L
 refine J6.enter func211 z z z<|Sr<|An z<|Sm z<|Mv z<|Vv (V.D3P func232 (by kernel_rfl) z (by kernel_rfl) (by kernel_rfl) z z) ?_
 exact Ag z<|Nr<|E1 H
theorem A9Y {h a b c} (H:strings_Compare a b=some c):∀ L,FnW prog 160 [.string a,.string b] h L (.int .i64 c):=by
 intro L
 exact J6.enter func160 z z z<|Sr<|An z<|Sm z<|Mv z<|bE H fun g d H=>To (O.cs (B0S d _) fun j m=>Ag z<|Nr<|E1 H)
theorem B3F {h a b c d e} (i:L8 h a b) (j:L8 h c d) (H:A1f b d=some e):∀ L,FnW prog 111 [.agg a.toArray,.agg c.toArray] h L (.int .i64 e):=by
 intro L
 obtain rfl:=i
 obtain rfl:=j
 refine J6.enter func111 z z z<|Sr<|To (O.U5 z z z fun s t w f=>To (O.U5 z z z fun x y A g=>An z<|Sq<|Sr<|Vv (V.fa A7D z)<|Vv (V.M5 (k:=0) J7 z f.u z)<|Vv (V.fa A7D z)<|Vv (V.M5 (k:=0) J7 z g z)<|bE H fun B m H=>To (O.cs (A9Y m _) fun D G=>An z<|Sm z<|Wn z z<|Nt<|T.cH H z (fun H=>?_) fun H=>?_)))
 ·exact Sm z<|Ag z<|Nr<|Tr<|E1 H
 exact Ks<|Sr<|Vv (V.fa A8c z)<|Vv (V.M5 (k:=1) J7 z f.u z)<|Vv (V.fa A8c z)<|Vv (V.M5 (k:=1) J7 z g.u z)<|bE H fun I p H=>To (O.cs (A9Y p _) fun K N=>Ag z<|Nr<|E1 H)
theorem B5i {h a b d c} (H:A7q a b d=some c):∀ L,FnW prog 162 [.string a,.string b,.int .u8 d] h L (.agg #[.string c.fA,.string c.fB,.int .u8 c.H6]):=by
 intro L
 refine J6.enter func162 z z z<|Sr<|To (O.alloc A9I z z fun g=>Nt<|Sm z<|Mv z<|Vv (V.minS z z)<|Mv z<|Mv z<|Vv (V.maxS z z)<|Mv z<|Vv (V.bld (xs:=[(0,.tmp 9),(1,.tmp 12),(2,.tmp 13)]) (cs:=[_,_,_]) C2s C2x z (F4.cons z z z (F4.cons z z z (F4.cons z z z F4.nil))))<|To (O.stF (vs:=[.string (minS a b),.string (maxS a b),.int .u8 d]) A1s z z (j:=0) z z z z<|T.freeze fun i k e=>have f:=Z0.of e; Nr ?_))
 cases H
 exact T.rl z (RVs.cons (RV.B2N z f A1s) RVs.nil) ⟨z,z⟩
theorem C2X {h a} (H:B4d  = some a):∀ L,J6 prog 109 [] h (L) (fun v h' L'=>∃ b vo0_1 csso0_2 vo0_4 csso0_5 mbo0_7 eso0_8,v=.pointer (some ⟨b,0,none⟩)∧L'=blk b (.cells [vo0_1,vo0_4,.map (some mbo0_7)].toArray 193)::F5 121 9 vo0_1 csso0_2::F5 168 3 vo0_4 csso0_5::blk mbo0_7 (.map eso0_8.toArray eso0_8.length)::L∧A7 I8 h' csso0_2 a.K6.V6∧A7 L8 h' csso0_5 a.K6.A0E∧X7 Value.string false (VI .i64) h' 0 eso0_8 a.fat):=by
 intro L
 refine J6.enter func109 z z z<|Sr<|An z<|Sr<|To (O.mkM z fun f=>have c:X7 Value.string false (VI .i64) h 0 ([]:List MapEntry) ([]:List (ByteArray×Int)):=trivial; Vv (V.bld (xs:=[(1,.tmp 1)]) (cs:=[_,_,_]) C4T C5m z (F4.cons z z z F4.nil))<|To (O.box z z z fun g=>Ag z<|Nr<|T.R4 121 9<|have d:A7 I8 h [] ([]:List E8):=A7.nil; T.R4 168 3<|have e:A7 L8 h [] ([]:List H7):=A7.nil; T.fs [3] ?_))
 refine T.fs [1,2,3] ?_
 cases H
 exact T.rl z (Rv z) ⟨_,_,_,_,_,_,_,z,z,d,e,c⟩
theorem A9e {h a b c} (d:Pt A1l h a b) (H:A4y b=some c):∀ L,FnW prog 117 [a] h L (.bool c):=by
 intro L
 refine J6.enter func117 z z z<|Sr<|An z<|Sm z<|have e:=d; ?_
 obtain ⟨j,_,rfl,f,⟨m,n,o,rfl,p,q,g⟩⟩:=e
 refine Vv (V.D0G underlying114 z)<|Mv z<|Mv z<|NL z A5l A8t f z<|have i:=g; ?_
 obtain ⟨r,_,rfl,_⟩:=i
 exact Vv (V.D2D underlying191 z)<|Kf z<|Ag z<|Nr<|E1 H
theorem C3y {h o i p a q m r s} (f:F8 L8 3 h o i) (C:L8 h p a) (w:B1w h q m) (H:B1H i a m=some (r,s)):∀ L,FnW prog 165 [o,.agg p.toArray,q] h L (.tuple #[.int .i64 r,.bool s]):=by
 intro L
 obtain rfl:=C
 refine J6.enter func165 z z z<|Sr<|To (O.U5 z z z fun ak am an x=>Ag z<|An z<|Sm z<|Vv (V.Q3 A0U z f)<|An z<|Sm z<|Ag z<|An z<|Sq ?_)
 obtain ⟨D,E,G⟩:=K4 H
 have H:=E
 refine Bl<|T.lk [0,2,4,8] (FUEL,(i.length:Int),(0:Int)) (fun ⟨d,b,c⟩=>([(10,qi b),(9,qi c)],L,fun hh=>iter (A0X i a m) d (b,c)=some D)) H ?_
 rintro ⟨d,b,c⟩ e ao I
 obtain ⟨y,ap,rfl,H,n⟩:=G8 I
 refine T.norm [10,9,0,2,4,8] z<|T.fl ?_
 refine Sq<|Sm z<|Mv z<|Wl z z<|Nt<|T.cH H z (fun H=>?_) fun H=>?_
 ·refine Ks<|Bl<|Sm z<|Mv z<|bE H fun aq J H=>Vv (V.H8 z z J)<|bE H fun ar K H=>Vv (V.A5c underlying3 underlying208 z K)<|bE H fun au M H=>Vv (V.A3P z z M)<|bE H fun N P H=>Vv (V.A5c underlying208 underlying3 z P)<|An z<|Sq<|T.N8 (t:=(.vs [0,1,2,3,4,5] (.alt 6 (.g (.v 7 .done)) .no))) 9 0 0 z z I5 (by kernel_rfl) ?_
  refine Tm z z<|Tm z z<|Tm z z<|bE H fun j A H=>?_
  obtain ⟨aw,S,rfl⟩:=F8.at f A
  refine Tv z (V.ix A0U z z f (E9 A))<|Tv z (V.ldS z S.u (by exact A1s)) ?_
  refine Tv z (V.ldS z x.u (by exact A1s)) ?_
  refine bE H fun ax U H=>?_
  obtain ⟨ay,aA,aB,W,X⟩:=B1w.call (w.u (g:=e)) (show L8 e [.string j.fA,.string j.fB,.int .u8 j.H6] j from rfl) (show L8 e [.string a.fA,.string a.fB,.int .u8 a.H6] a from rfl) U
  refine Tp z z (X2 z z) (O.A1e z W z (X _) z fun aC aD aE aG Y=>?_) T.P5
  obtain ⟨rfl,Z⟩:=Y
  refine P7 _ Z<|T.O1 Li<|Tv z (V.lt z z)<|T.O7 (X2 z z)<|Th<|T.cH H z (fun H=>?_) fun H=>?_
  ·refine Rg<|Mv z<|bE H fun aa ab H=>Vv (V.H8 z z ab)<|Ag z<|Ni<|Bn<|Th<|T.ag (y,b,aa) (D8 H n)
  refine Rg<|Mv z<|Ag z<|Ni<|Bn<|Th<|T.ag (y,N,c) (D8 H n)
 refine T.exit<|Te<|Te<|have H:=D6 H n; Be<|Th<|have H:=I7 H G; Sq<|T.N8 (t:=(.vs [0,1,2,3,4,5,6,7,8,9,10] (.alt 11 (.g (.v 12 (.v 13 (.alt 14 (.alt 15 .done .no) .no)))) .no))) 17 0 0 z z I5 (by kernel_rfl) ?_
 refine Tm z z<|Tm z z<|Tm z z<|Tv z (V.lt z z)<|Tm z z<|T.bH 39 H z (fun H=>?_) fun H=>?_
 ·refine Tm z z<|Tm z z<|Tm z z<|bE H fun k B H=>?_
  obtain ⟨aI,ac,rfl⟩:=F8.at f B
  refine Tv z (V.ix A0U z z f (E9 B))<|Tv z (V.ldS z ac.u (by exact A1s)) ?_
  refine Tv z (V.ldS z x.u (by exact A1s)) ?_
  refine bE H fun aJ ad H=>?_
  obtain ⟨aK,aM,aN,ae,af⟩:=B1w.call (w.u (g:=e)) (show L8 e [.string k.fA,.string k.fB,.int .u8 k.H6] k from rfl) (show L8 e [.string a.fA,.string a.fB,.int .u8 a.H6] a from rfl) ad
  refine Tp z z (X2 z z) (O.A1e z ae z (af _) z fun aO aP aS aU ai=>?_) T.P5
  obtain ⟨rfl,aj⟩:=ai
  refine P7 _ aj<|T.O1 Li<|Tv z (V.eq z z)<|Tv z (V.pkT z z)<|Ts z z (X2 z z) (V.asg z) z ?_ T.P5
  refine Ts z z (X2 z z) (V.asg z) z ?_ T.P5
  exact T.O7 (X2 z z)<|Th<|T.ret<|E1 H
 refine T2 z z<|T2 z z<|T2 z z<|T.A4a z z (X2 z z) z ?_ T.P5
 refine T.O1 Lr<|Tk z<|Tv z (V.pkF z z)<|Ts z z (X2 z z) (V.asg z) z ?_ T.P5
 refine Ts z z (X2 z z) (V.asg z) z ?_ T.P5
 exact T.O7 (X2 z z)<|Th<|T.ret<|E1 H
theorem C3H {h d b e f g i k} (a:A7 L8 h b e) (m:F8 L8 3 h g i) (H:B7l e f i=some k):∀ L,J6 prog 161 [d,.int .i64 f,g] h (F5 168 3 d b::L) (fun v h' L'=>∃ n,L'=F5 168 3 v n::L∧A7 L8 h' n k):=by
 intro L
 refine J6.enter func161 z z z<|Sr<|An z<|Sm z<|Mv z<|bE H fun w q H=>Vv (V.C3R A0U z (j:=0) z a.len (.inr ⟨_,_,z,z⟩) (.inl ⟨z,z⟩) (A4N q))<|Nt<|Sm z<|Vv (V.Q3 A0U z m)<|An z<|Sq<|Sm z<|We z z<|Nt<|T.cH H z (fun H=>?_) fun H=>?_
 ·refine Sm z<|Ag z<|Nr<|Tr ?_
  cases H
  exact T.rl z (Rv z) ⟨_,z,a⟩
 refine Ks<|Sm z<|Vv (V.A4x A0U z (j:=0) z a.len)<|An z<|Sq<|Sm z<|Mv z<|We z z<|Nt<|T.cH H z (fun H=>?_) fun H=>?_
 ·refine Sm z<|Mv z ?_
  obtain ⟨r,o,c⟩:=F8.row m
  refine bE H fun s p H=>To (O.apX A0U A0U A9I z z z (j:=0) z (Src.fix o) o.wide (A7.ones L8.plain c) a c p z fun x y A=>have t:A7 L8 h (b ++ r) s:=A7.ap a c p; Ag z<|Nr<|Tr ?_)
  cases H
  exact T.rl z (Rv z) ⟨_,z,t⟩
 refine Ks<|Sq<|Sm z<|Mv z<|bE H fun B u H=>Vv (V.H8 z z u)<|Mv z<|dead H
theorem B5s {h b c d e f i} (m:Pt A1l h b c) (H:A2t c d e=some (f,i)):∀ L,FnW prog 118 [b,.string d,.string e] h L (.tuple #[.int .i64 f,.bool i]):=by
 intro L
 refine J6.enter func118 z z z<|Sg z<|An z<|Sq<|T.N8 (t:=(.vs [0,1,2,3,4,5,6] (.alt 7 (.g (.alt 8 (.g (.v 9 (.v 10 (.alt 11 (.alt 12 .done .no) .no)))) .no)) .no))) 14 0 0 z z I5 (by kernel_rfl) ?_
 refine Tm z z<|have n:=m; ?_
 obtain ⟨E,_,rfl,o,⟨G,I,J,rfl,K,p,M⟩⟩:=n
 refine TF z z z A0F<|Tv z (V.fa A5k z)<|Tv z (V.M5 (k:=1) A1H z o z)<|Tm z z<|Tm z z<|bE H fun a q H=>Tp z z (X2 z z) (O.G9 z (B5i q _) z fun N j P S r=>?_) T.P5
 obtain ⟨rfl,s⟩:=r
 refine P7 _ s<|T.O1 Li<|bE H fun ⟨U,W⟩ w H=>Tp z z (X2 z z) (O.G9 z (C3y p.u (show L8 j [.string a.fA,.string a.fB,.int .u8 a.H6] a from z) (show B1w j (.func (.func 111) #[] #[]) A1f from ⟨⟨z,z⟩,.inr ⟨111,[],[],z,fun X Y Z aa x ab ac y ad A B=>B3F x y A B⟩⟩) w _) z fun ae af ag ai C=>?_) T.P5
 obtain ⟨rfl,D⟩:=C
 refine P7 _ D<|T.O1 Li<|Tv z (V.ext z z)<|Tv z (V.ext z z)<|Ts z z (X2 z z) (V.asg z) z ?_ T.P5
 refine Ts z z (X2 z z) (V.asg z) z ?_ T.P5
 exact T.O7 (X2 z z)<|Th<|T.ret<|E1 H
theorem C4c {h f b v0_1 css0_2 v0_4 css0_5 mb0_7 es0_8 o p q q_0} (hR0_3:A7 I8 h css0_2 b.K6.V6) (hR0_6:A7 L8 h css0_5 b.K6.A0E) (hM0_9:X7 Value.string false (VI .i64) h 0 es0_8 b.fat) (D:I8 h o p) (H:C0H b p=some (q,q_0)):∀ L,J6 prog 110 [.pointer (some ⟨f,0,none⟩),.agg o.toArray] h (blk f (.cells [v0_1,v0_4,.map (some mb0_7)].toArray 193)::F5 121 9 v0_1 css0_2::F5 168 3 v0_4 css0_5::blk mb0_7 (.map es0_8.toArray es0_8.length)::L) (fun v h' L'=>∃ vl0_1 cssl0_2 vl0_4 cssl0_5 mbl0_7 esl0_8,v=.int .i64 q∧L'=blk f (.cells [vl0_1,vl0_4,.map (some mbl0_7)].toArray 193)::F5 121 9 vl0_1 cssl0_2::F5 168 3 vl0_4 cssl0_5::blk mbl0_7 (.map esl0_8.toArray esl0_8.length)::L∧A7 I8 h' cssl0_2 q_0.K6.V6∧A7 L8 h' cssl0_5 q_0.K6.A0E∧X7 Value.string false (VI .i64) h' 0 esl0_8 q_0.fat):=by
 intro L
 obtain ⟨s,rfl,w⟩:=D
 refine J6.enter func110 z z z<|Sr<|To (O.U5 z z z fun aq ar au c=>An z<|Sq<|Sm z<|bE H fun d G H=>To (O.G9 z (J6.A6P (val:=.bool d) func117 z C6w fun aw ax I=>J6.A6P (val:=.bool d) func117 z A1N fun ay aA J=>J6.A6P (val:=.bool d) func117 z A1N fun aB aC K=>J6.A6P (val:=.bool d) func117 z C8o fun M aD N=>?_) z fun aE aG aI aJ P=>?_))
 ·have S:=A7.slc J hR0_3.u
  have U:=A7.slc K hR0_6.u
  have W:Mp Value.string false (VI .i64) M (.map (some mb0_7)) b.fat:=⟨_,_,z,N,hM0_9.u⟩
  exact A9e (Pt.mk I.u ⟨v0_1,v0_4,(.map (some mb0_7)),z,S.u,U.u,W⟩) G _
 obtain ⟨rfl,X⟩:=P
 refine P7 _ X<|Nt<|T.cH H z (fun H=>?_) fun H=>?_
 ·refine Sg z<|Nr<|Tr ?_
  cases H
  exact T.rl z (Rv z) ⟨_,_,_,_,_,_,z,z,hR0_3.u,hR0_6.u,hM0_9.u⟩
 refine Ks<|Sq<|Sr<|Vv (V.ldS z c.u (by exact V8)) ?_
 refine bE H fun aK Y H=>To (O.cs (B9m ⟨s,z,w.u⟩ Y _) fun y aO=>An z<|Sm z<|Wn z z<|Nt<|T.cH H z (fun H=>?_) fun H=>?_)
 ·refine Sm z<|Ag z<|Nr<|Tr ?_
  cases H
  exact T.rl z (Rv z) ⟨_,_,_,_,_,_,z,z,hR0_3.u,hR0_6.u,hM0_9.u⟩
 refine Ks<|Sq<|Sq<|T.fs [3,1] ?_
 refine T.N8 (t:=(.vs [0,1,2,3,4,5,6,7,8,9] (.alt 10 (.alt 11 .done .no) .no))) 13 2 2 z z I5 (by kernel_rfl) ?_
 refine Tm z z<|TF z z z A5l<|Tv z (Val.XA fun _ _ _=>V.ldO (k:=2) A8t z (j:=0) z z)<|Tv z (V.fa A0k z)<|Tv z (V.M5 (k:=0) J7 z c.u z)<|bE H fun ⟨aP,aS⟩ ab H=>?_
 obtain ⟨_,ac,rfl⟩:=X7.lookO (r:=mb0_7) (zc:=[qi 0]) (agg:=false) underlying191 (A0u.str underlying9) K8 (show (VI .i64) y [qi 0] (0:Int) from rfl) hM0_9.u ab
 refine Tv z (Val.XA fun _ _ _=>V.lkO z z (j:=1) z ac)<|Tm z z<|Tv z (V.ext z z)<|Tv z (V.ext z z)<|Ts z z (X3 [1,1] [1,1] z z) (V.asg z) z ?_ T.P5
 refine Ts z z (X3 [1,1] [1,1] z z) (V.asg z) z ?_ T.P5
 refine T.O7 (X3 [1,1] [1,1] z z)<|Th<|Sm z<|Nt<|T.cH H z (fun H=>?_) fun H=>?_
 ·refine Sg z<|Nr<|Tr<|T.fs [1,3,3,3] ?_
  cases H
  exact T.rl z (Rv z) ⟨_,_,_,_,_,_,z,z,hR0_3.u,hR0_6.u,hM0_9.u⟩
 refine Ks<|Sq<|Sm z<|NF z A0F<|Vv (V.fa A4W z)<|Vv (V.ldO (k:=0) O0 z (j:=0) z z)<|Vv (V.A4x O9 z (j:=2) z hR0_3.len)<|We z z<|Nt<|T.cH H z (fun H=>?_) fun H=>?_
 ·refine Sg z<|Nr<|Tr<|T.fs [1,3,3,3] ?_
  cases H
  exact T.rl z (Rv z) ⟨_,_,_,_,_,_,z,z,hR0_3.u,hR0_6.u,hM0_9.u⟩
 refine Ks<|Sq<|T.fs [1,2,2] ?_
 refine T.N8 (t:=(.vs [0,1,2,3,4,5,6,7,8,9,10,11] (.alt 12 .done .no))) 12 3 2 z z I5 (by kernel_rfl) ?_
 refine Tm z z<|TF z z z A5l<|Tv z (Val.XA fun _ _ _=>V.ldO (k:=2) A8t z (j:=0) z z)<|Tv z (V.fa A0k z)<|Tv z (V.M5 (k:=0) J7 z c.u z)<|Tm z z<|TF z z z A0F<|Tv z (V.fa A4W z)<|Tv z (Val.XA fun _ _ _=>V.ldO (k:=0) O0 z (j:=0) z z)<|Tv z (Val.XA fun _ _ _=>V.A4x O9 z (j:=1) z hR0_3.len)<|bE H fun aU ad H=>Tp z z (X3 [1,1] [2,2,2] z z) (O.A9R (agg:=false) (E:=(VI .i64)) (cs:=[qi (b.K6.V6.length:Int)]) underlying191 (A0u.str underlying9) z z z (j:=2) z hM0_9.u (show (VI .i64) y [qi (b.K6.V6.length:Int)] (b.K6.V6.length:Int) from z) _ (.inl z) fun aV A=>?_) T.P5
 rw [Option.some.inj ad] at A
 refine T.fl ?_
 refine T.O7 (SX.one (XA.fr [2,2] Lr z) z)<|Th<|Sq<|T.norm [0,3] z<|T.fl ?_
 refine T.fs [2,2] ?_
 refine T.N8 (t:=(.vs [0,1,2,3,4] (.x 5 (.v 6 (.alt 7 (.g (.alt 8 (.alt 9 (.g (.vs [10,11,12] (.alt 13 .done .no))) .no) .no)) .no))))) 9 2 0 z z I5 (by kernel_rfl) ?_
 refine Tm z z<|Tm z z<|TF z z z A0F<|Tv z (V.fa A4W z)<|T.tx z z (Val.XA fun _ _ _=>V.ldO (k:=0) O0 z (j:=0) z z) z Calm.i<|Tv z (V.ldS z c.u (by exact V8)) ?_
 refine bE H fun a ae H=>Tp z z (X3 [] [1,1] z z) (O.G9 z (B8P ⟨s,z,w.u⟩ ae _) z fun aW B aX aY af=>?_) T.P5
 obtain ⟨m,rfl,ag,ai⟩:=af
 refine P7 _ ag<|T.O1 Li<|Tp z z (X3 [] [1,1] z z) (O.bs O9 A1K z (e:=z) (hk:=z) (xs:=[.tmp 52]) (hv:=CO.eq (CO.cons z CO.nil)) (hw:=O3.of z) (hd:=z) fun aZ=>?_) T.P5
 have n:A7 I8 B [[.string a.F7,.string a.A1S,.string a.W9,qi a.A0h,qi a.A0r,.string a.A0t,.bool a.A0s,.bool a.Y6,m]] ([a]:List E8):=(A7.cons ⟨m,z,ai⟩ A7.nil)
 refine bE H fun aj C H=>Tp z z (X3 [] [2,2] z z) (O.apX O9 O9 A1K z z z (j:=2) z (Src.row (j:=0) z) (O3.of z) (A7.ones I8.plain n) hR0_3.u n C z fun ak a0 a1=>?_) T.P5
 have am:A7 I8 B (css0_2 ++ [[.string a.F7,.string a.A1S,.string a.W9,qi a.A0h,qi a.A0r,.string a.A0t,.bool a.A0s,.bool a.Y6,m]]) aj:=A7.ap hR0_3.u n C
 refine T.fl ?_
 refine T.fs [1] ?_
 refine T.drop<|T.O1 Lr<|TF z z z A0F<|Tv z (V.fa A4W z)<|T.Q9 0 z fun an ao=>Tp z z (SX.one (XA.fr [] Lr z) z) (O.st (vs:=[ak]) (k:=0) O0 z z (j:=1) z ao (by (simp only [BT,an]) <;> rfl) ?_) T.P5
 refine T.fl ?_
 refine T.O7 (SX.one (XA.fr [] Lr z) z)<|Th<|Sg z<|Nr<|T.fs [2,3,3,3] ?_
 cases H
 exact T.rl z (Rv z) ⟨_,_,_,_,_,_,z,z,am,hR0_6.u,A.u⟩
theorem C4o {h m c v0_1 css0_2 v0_4 css0_5 mb0_7 es0_8 a b A B q_0} (hR0_3:A7 I8 h css0_2 c.K6.V6) (hR0_6:A7 L8 h css0_5 c.K6.A0E) (hM0_9:X7 Value.string false (VI .i64) h 0 es0_8 c.fat) (H:B6j c a b A=some (B,q_0)):∀ L,J6 prog 112 [.pointer (some ⟨m,0,none⟩),.string a,.string b,.int .u8 A] h (blk m (.cells [v0_1,v0_4,.map (some mb0_7)].toArray 193)::F5 121 9 v0_1 css0_2::F5 168 3 v0_4 css0_5::blk mb0_7 (.map es0_8.toArray es0_8.length)::L) (fun v h' L'=>∃ vl0_1 cssl0_2 vl0_4 cssl0_5 mbl0_7 esl0_8,v=.int .i64 B∧L'=blk m (.cells [vl0_1,vl0_4,.map (some mbl0_7)].toArray 193)::F5 121 9 vl0_1 cssl0_2::F5 168 3 vl0_4 cssl0_5::blk mbl0_7 (.map esl0_8.toArray esl0_8.length)::L∧A7 I8 h' cssl0_2 q_0.K6.V6∧A7 L8 h' cssl0_5 q_0.K6.A0E∧X7 Value.string false (VI .i64) h' 0 esl0_8 q_0.fat):=by
 intro L
 refine J6.enter func112 z z z<|Sr<|An z<|Sq<|Sm z<|bE H fun o E H=>To (O.G9 z (J6.A6P (val:=.bool o) func117 z C6w fun aZ a0 G=>J6.A6P (val:=.bool o) func117 z A1N fun a1 a2 I=>J6.A6P (val:=.bool o) func117 z A1N fun a3 a4 J=>J6.A6P (val:=.bool o) func117 z C8o fun K a5 M=>?_) z fun a6 a7 a8 a9 N=>?_)
 ·have P:=A7.slc I hR0_3.u
  have S:=A7.slc J hR0_6.u
  have U:Mp Value.string false (VI .i64) K (.map (some mb0_7)) c.fat:=⟨_,_,z,M,hM0_9.u⟩
  exact A9e (Pt.mk G.u ⟨v0_1,v0_4,(.map (some mb0_7)),z,P.u,S.u,U⟩) E _
 obtain ⟨rfl,W⟩:=N
 refine P7 _ W<|Nt<|T.cH H z (fun H=>?_) fun H=>?_
 ·refine Sg z<|Nr<|Tr ?_
  cases H
  exact T.rl z (Rv z) ⟨_,_,_,_,_,_,z,z,hR0_3.u,hR0_6.u,hM0_9.u⟩
 refine Ks<|Sq<|Sq ?_
 obtain ⟨X,Y,Z⟩:=K4 H
 refine T.ck (α:=Bool) [0,1,2,3] (fun n=>([(27,.bool n)],blk m (.cells [v0_1,v0_4,.map (some mb0_7)].toArray 193)::F5 121 9 v0_1 css0_2::F5 168 3 v0_4 css0_5::blk mb0_7 (.map es0_8.toArray es0_8.length)::L,fun hh=>X=n)) ?_ ?_
 ·have H:=Y
  refine Rg<|Mv z<|Wn z z<|Mv z<|T.bH 19 H z (fun H=>?_) fun H=>?_
  ·refine Mv z<|Wn z z<|Kt z<|Mv z<|T.bH 23 H z (fun H=>?_) fun H=>?_
   ·refine S2<|Sk<|Kt z<|Nt<|T.mt true (M7 H)
   refine Mv z<|Mv z<|Vv (V.seq z z)<|Kf z<|Nt<|T.mt (decide (a=b)) (M7 H)
  refine S2<|Kf z<|Mv z<|Mv z<|Mv z<|Vv (V.seq z z)<|Kf z<|Nt<|T.mt (decide (a=b)) (M7 H)
 rintro n aa ah ab
 have H:=I7 ab Z
 refine T.norm [27,0,1,2,3] z<|T.fl ?_
 refine T.cH H z (fun H=>?_) fun H=>?_
 ·refine Sg z<|Nr<|Tr ?_
  cases H
  exact T.rl z (Rv z) ⟨_,_,_,_,_,_,z,z,hR0_3.u,hR0_6.u,hM0_9.u⟩
 refine Ks<|Sq<|Sm z<|Mv z<|To (O.bs X5 C0q z (e:=z) (hk:=z) (xs:=[.tmp 28,.tmp 29]) (hv:=CO.eq (CO.cons z (CO.cons z CO.nil))) (hw:=O3.of z) (hd:=z) fun ac=>have w:A7 VS aa [[.string a],[.string b]] ([a,b]:List ByteArray):=(A7.cons z (A7.cons z A7.nil)); Vv (V.A4x X5 z (j:=0) z w.len)<|Mv z<|Nt ?_)
 obtain ⟨ad,ae,C⟩:=K4 H
 have H:=ae
 refine Bl<|T.lk [0,1,2,3,30,31] (FUEL,(0:Int)) (fun ⟨d,f⟩=>([(32,qi f)],F5 9 1 (.slice (some ⟨ac,0,none⟩) 2 2) [[.string a],[.string b]]::blk m (.cells [v0_1,v0_4,.map (some mb0_7)].toArray 193)::F5 121 9 v0_1 css0_2::F5 168 3 v0_4 css0_5::blk mb0_7 (.map es0_8.toArray es0_8.length)::L,fun hh=>iter (A8q c a b) d f=some ad)) H ?_
 rintro ⟨d,f⟩ af al ai
 obtain ⟨aj,av,rfl,H,y⟩:=G8 ai
 refine T.norm [32,0,1,2,3,30,31] z<|T.fl ?_
 refine Sr<|Wl z z<|Nt<|Sq<|T.cH H z (fun H=>?_) fun H=>?_
 ·refine Ks<|Sq<|Bl<|Sr<|bE H fun az D H=>?_
  obtain ⟨ba,ak,rfl⟩:=A7.get w D
  refine Vv (V.ixR X5 z z (j:=0) z (A7.bd w D))<|Vv (V.ldR J7 z (j:=0) z ak z)<|An z<|Sm z<|NF z A5l<|Vv (V.ldO (k:=2) A8t z (j:=1) z z)<|Mv z<|bE H fun ⟨bb,bc⟩ am H=>?_
  obtain ⟨_,an,rfl⟩:=X7.lookO (r:=mb0_7) (zc:=[qi 0]) (agg:=false) underlying191 (A0u.str underlying9) K8 (show (VI .i64) af [qi 0] (0:Int) from rfl) hM0_9.u am
  refine Vv (V.lkO z z (j:=4) z an)<|Mv z<|Wx z z<|Wx z z<|Ag z<|An z<|Sm z<|Vv (V.not z)<|Nt<|T.cH H z (fun H=>?_) fun H=>?_
  ·refine Sg z<|Nr<|Br<|Tr<|Tr<|have H:=D6 H y; Br<|Tr<|have H:=I7 H C; T.drop ?_
   cases H
   exact T.rl z (Rv z) ⟨_,_,_,_,_,_,z,z,hR0_3.u,hR0_6.u,hM0_9.u⟩
  refine T.skip<|Bn<|Th<|Rg<|bE H fun ao ap H=>Vv (V.H8 z z ap)<|Mv z<|Nt<|T.ag (aj,ao) (D8 H y)
 refine T.exit<|Te<|Te<|have H:=D6 H y; Be<|Th<|have H:=I7 H C; Sm z<|Mv z<|Mv z<|T.fs [4,4,4,4] ?_
 refine bE H fun ⟨p,q⟩ aq H=>To (O.G9 z (J6.A6P (val:=.tuple #[qi p,.bool q]) func118 z C6w fun be bf ar=>J6.A6P (val:=.tuple #[qi p,.bool q]) func118 z A1N fun bg bi au=>J6.A6P (val:=.tuple #[qi p,.bool q]) func118 z A1N fun bj bk aw=>J6.A6P (val:=.tuple #[qi p,.bool q]) func118 z C8o fun ax bm ay=>?_) z fun bn bo bp bq aA=>?_)
 ·have aB:=A7.slc au hR0_3.u
  have aC:=A7.slc aw hR0_6.u
  have aD:Mp Value.string false (VI .i64) ax (.map (some mb0_7)) c.fat:=⟨_,_,z,ay,hM0_9.u⟩
  exact B5s (Pt.mk ar.u ⟨v0_1,v0_4,(.map (some mb0_7)),z,aB.u,aC.u,aD⟩) aq _
 obtain ⟨rfl,aE⟩:=aA
 refine P7 _ aE<|Mv z<|Wx z z<|Wx z z<|Ag z<|An z<|Sq<|Sm z<|Nt<|T.cH H z (fun H=>?_) fun H=>?_
 ·refine Sg z<|Nr<|Tr<|T.fs [4] ?_
  refine T.drop ?_
  cases H
  exact T.rl z (Rv z) ⟨_,_,_,_,_,_,z,z,hR0_3.u,hR0_6.u,hM0_9.u⟩
 refine Ks<|Sq<|Sm z<|NF z A0F<|Vv (V.fa A5k z)<|Vv (V.ldO (k:=1) A1H z (j:=0) z z)<|Vv (V.A4x A0U z (j:=2) z hR0_6.len)<|We z z<|Nt<|T.cH H z (fun H=>?_) fun H=>?_
 ·refine Sg z<|Nr<|Tr<|T.fs [4] ?_
  refine T.drop ?_
  cases H
  exact T.rl z (Rv z) ⟨_,_,_,_,_,_,z,z,hR0_3.u,hR0_6.u,hM0_9.u⟩
 refine Ks<|Sq<|T.fs [2,1] ?_
 refine T.N8 (t:=(.vs [0,1,2,3,4] (.x 5 (.vs [6,7,8,9] (.alt 10 (.g (.alt 11 (.alt 12 (.g (.vs [13,14,15] (.alt 16 .done .no))) .no) .no)) .no))))) 12 2 0 z z I5 (by kernel_rfl) ?_
 refine Tm z z<|Tm z z<|TF z z z A0F<|Tv z (V.fa A5k z)<|T.tx z z (Val.XA fun _ _ _=>V.ldO (k:=1) A1H z (j:=0) z z) z Calm.i<|Tm z z<|Tm z z<|Tm z z<|Tm z z<|bE H fun s aG H=>Tp z z (X3 [] [1,1] z z) (O.G9 z (B5i aG _) z fun br aI bt bu aJ=>?_) T.P5
 obtain ⟨rfl,aK⟩:=aJ
 refine P7 _ aK<|T.O1 Li<|Tp z z (X3 [] [1,1] z z) (O.bs A0U A9I z (e:=z) (hk:=z) (xs:=[.tmp 73]) (hv:=CO.eq (CO.cons z CO.nil)) (hw:=O3.of z) (hd:=z) fun bw=>?_) T.P5
 have aM:A7 L8 aI [[.string s.fA,.string s.fB,.int .u8 s.H6]] ([s]:List H7):=(A7.cons z A7.nil)
 refine T.K5 fun bx bA aN=>have aO:=A7.slc aN aM.u; T.fs [1] ?_
 refine bE H fun bB aP H=>Tp z z (SX.two (XA.fr [] Li z) (XA.fr [0,1] Li z)) (O.G9 z (C3H hR0_6.u aO aP _) z fun aS bC bD bG aU=>?_) T.P5
 obtain ⟨bI,aV,aW⟩:=aU
 refine P7 _ aV<|T.O1 Li<|TF z z z A0F<|Tv z (V.fa A5k z)<|T.Q9 0 z fun aX aY=>Tp z z (SX.one (XA.fr [] Lr z) z) (O.st (vs:=[aS]) (k:=1) A1H z z (j:=1) z aY (by (simp only [BT,aX]) <;> rfl) ?_) T.P5
 refine T.fl ?_
 refine T.O7 (SX.one (XA.fr [] Lr z) z)<|Th<|Sq<|T.norm [0] z<|T.fl ?_
 refine Rg<|Ag z<|Nr<|T.fs [4] ?_
 refine T.drop<|T.fs [3,2,3,3] ?_
 cases H
 exact T.rl z (Rv z) ⟨_,_,_,_,_,_,z,z,hR0_3.u,aW,hM0_9.u⟩
theorem B5w {h af r1 ai aj ak} (aC:B1s h af r1) (H:A7t r1=some (ai,aj,ak)):∀ L,J6 prog 53 [.agg af.toArray] h (L) (fun v h' L'=>∃ am,v=.tuple #[am,.int .i64 aj,.int .i64 ak]∧L'=L∧OPt A1l h' am ai):=by
 intro L
 obtain ⟨b1,b2,rfl,K,M⟩:=aC
 refine J6.enter func53 z z z<|Sr<|To (O.U5 z z z fun b3 b4 b5 N=>Ag z<|Ag z<|An z<|Sr<|bE H fun W aD H=>To (O.G9 z (C2X aD _) z fun b6 b7 b8 b9 aE=>?_))
 obtain ⟨X,aG,aI,aJ,aK,aM,aN,rfl,aO,aP,aS,aU⟩:=aE
 refine P7 _ aO<|An z<|Sq<|Sr<|Vv (V.fa A2T z)<|Vv (V.M5 (k:=0) O0 z N.u z)<|Vv (V.Q3 O9 z K)<|Mv z<|Nt ?_
 obtain ⟨aV,aW,an⟩:=K4 H
 have H:=aW
 refine Bl<|T.lk [1,5,14,15] (FUEL,W.K6.V6,W.K6.A0E,W.fat,(0:Int),aG,aI,aJ,aK,aM,aN) (fun ⟨D,n,o,p,E,q,r,s,w,x,e⟩=>([(16,qi E)],blk X (.cells [q,s,.map (some x)].toArray 193)::F5 121 9 q r::F5 168 3 s w::blk x (.map e.toArray e.length)::L,fun hh=>iter (A2x r1) D (n,o,p,E)=some aV∧A7 I8 hh r n∧A7 L8 hh w o∧X7 Value.string false (VI .i64) hh 0 e p)) ⟨H,aP,aS,aU⟩ ?_
 rintro ⟨D,n,o,p,E,q,r,s,w,x,e⟩ bh bl ⟨aX,ao,ap,aq⟩
 obtain ⟨aY,bv,rfl,H,Y⟩:=G8 aX
 refine T.norm [16,1,5,14,15] z<|T.fl ?_
 refine Sr<|Wl z z<|Nt<|Sq<|T.cH H z (fun H=>?_) fun H=>?_
 ·refine Ks<|Sq<|Bl<|Sm z<|bE H fun f ar H=>?_
  obtain ⟨bz,aZ,⟨au,rfl,aw⟩⟩:=F8.at K ar
  refine Vv (V.ix O9 z z K (E9 ar))<|Vv (V.ldS z aZ.u (by exact V8)) ?_
  refine To (O.alloc A1K z z fun ca=>Ag z<|To (O.stF (vs:=[.string f.F7,.string f.A1S,.string f.W9,qi f.A0h,qi f.A0r,.string f.A0t,.bool f.A0s,.bool f.Y6,au]) V8 z z (j:=0) z z (by (simp only [BT,F8.one aw]) <;> rfl) z ?_))
  refine T.fl ?_
  refine T.freeze fun cb cc a0=>have a1:=Z0.of a0; Nt<|Sm z<|Vv (V.ldS z a1 (by exact V8)) ?_
  refine bE H fun ⟨cd,Z⟩ a2 H=>To (O.G9 z (C4c ao.u ap.u aq.u ⟨au,z,aw.u⟩ a2 _) z fun ce cf cg ci a3=>?_)
  obtain ⟨a4,a5,a6,a7,a8,a9,rfl,ah,al,av,az⟩:=a3
  refine P7 _ ah<|An z<|Sm z<|Wn z z<|Nt<|T.cH H z (fun H=>?_) fun H=>?_
  ·refine Sm z<|Mv z<|Ag z<|Ag z<|Ag z<|Nr<|Br<|Tr<|Tr<|have H:=D6 H Y; Br<|Tr<|have H:=I7 H an; T.drop<|T.drop<|T.drop<|T.drop ?_
   cases H
   exact T.rl z (RVs.cons (RV.tmp z) (RVs.cons (RV.tmp z) (Rv z))) ⟨_,z,z,OPt.nil⟩
  refine T.skip<|Bn<|Th<|Rg<|bE H fun ba bb H=>Vv (V.H8 z z bb)<|Mv z<|Nt<|T.ag (aY,Z.K6.V6,Z.K6.A0E,Z.fat,ba,a4,a5,a6,a7,a8,a9) ⟨(D8 H Y),al,av,az⟩
 refine T.exit<|Te<|Te<|have H:=D6 H Y; Be<|Th<|have H:=I7 H an; Sq<|Sr<|Vv (V.fa A8n z)<|Vv (V.M5 (k:=1) A1H z N.u z)<|Vv (V.Q3 A0U z M)<|Mv z<|Nt ?_
 obtain ⟨bc,bd,aa⟩:=K4 H
 have H:=bd
 refine Bl<|T.lk [1,5,30,31] (FUEL,n,o,p,(0:Int),q,r,s,w,x,e) (fun ⟨G,y,A,B,I,a,i,b,m,c,d⟩=>([(32,qi I)],blk X (.cells [a,b,.map (some c)].toArray 193)::F5 121 9 a i::F5 168 3 b m::blk c (.map d.toArray d.length)::L,fun hh=>iter (A2y r1) G (y,A,B,I)=some bc∧A7 I8 hh i y∧A7 L8 hh m A∧X7 Value.string false (VI .i64) hh 0 d B)) ⟨H,ao,ap,aq⟩ ?_
 rintro ⟨G,y,A,B,I,a,i,b,m,c,d⟩ cj ck ⟨be,ab,ac,ad⟩
 obtain ⟨ax,cm,rfl,H,P⟩:=G8 be
 refine T.norm [32,1,5,30,31] z<|T.fl ?_
 refine Sr<|Wl z z<|Nt<|Sq<|T.cH H z (fun H=>?_) fun H=>?_
 ·refine Ks<|Sq<|Bl<|Sm z<|bE H fun C ay H=>?_
  obtain ⟨cn,bf,rfl⟩:=F8.at M ay
  refine Vv (V.ix A0U z z M (E9 ay))<|Vv (V.ldS z bf.u (by exact A1s)) ?_
  refine To (O.alloc A9I z z fun co=>Ag z<|To (O.stF (vs:=[.string C.fA,.string C.fB,.int .u8 C.H6]) A1s z z (j:=0) z z z z<|T.fl ?_))
  refine T.freeze fun aA cp bg=>have J:=Z0.of bg; Nt<|Sr<|An z<|Sq<|Sq ?_
  obtain ⟨bi,bj,bk⟩:=K4 H
  refine T.ck (α:=Bool) [1,5,9,10,11,30,31,32] (fun S=>([(56,.bool S)],blk X (.cells [a,b,.map (some c)].toArray 193)::F5 121 9 a i::F5 168 3 b m::blk c (.map d.toArray d.length)::L,fun hh=>bi=S)) ?_ ?_
  ·have H:=bj
   refine T.N8 (t:=(.vs [0,1,2,3,4,5,6,7,8,9,10,11,12,13,14,15] (.alt 16 (.g (.vs [17,18,19] .done)) .no))) 21 0 0 z z I5 (by kernel_rfl) ?_
   refine Tv z (V.fa A7D z)<|Tv z (V.M5 (k:=0) J7 z J z)<|Tv z (V.fa A8c z)<|Tv z (V.M5 (k:=1) J7 z J z)<|Tv z (V.slt z z)<|Tm z z<|T.bH 42 H z (fun H=>?_) fun H=>?_
   ·refine Tm z z<|Tv z (V.eq z z)<|Tm z z<|T.bH 45 H z (fun H=>?_) fun H=>?_
    ·refine T2 z z<|T2 z z<|T2 z z<|Tk z<|T.A4a z z (X2 z z) z ?_ T.P5
     refine T.O1 Lr<|Tk z<|Tv z (V.pkT z z)<|Tv z (V.pkT z z)<|T.O7 (X2 z z)<|Th<|T.mt true (M7 H)
    refine Tv z (V.fa A8n z)<|Tv z (V.M5 (k:=1) A1H z N.u z)<|Tm z z<|bE H fun cq bm H=>Tv z (V.Y9 z z bm)<|bE H fun U aB H=>?_
    obtain ⟨cr,bn,rfl⟩:=F8.at M aB
    refine Tv z (V.ix A0U z z M (E9 aB))<|Tv z (V.ldS z bn.u (by exact A1s)) ?_
    refine Tv z (V.ldS z J (by exact A1s)) ?_
    refine bE H fun bo bp H=>Tp z z (X2 z z) (O.G9 z (B3F (show L8 aA [.string U.fA,.string U.fB,.int .u8 U.H6] U from z) (show L8 aA [.string C.fA,.string C.fB,.int .u8 C.H6] C from z) bp _) z fun cs ct cu cw bq=>?_) T.P5
    obtain ⟨rfl,br⟩:=bq
    refine P7 _ br<|T.O1 Li<|Tv z (V.le z z)<|Tv z (V.pkF z z)<|Tv z (V.pkT z z)<|T.O7 (X2 z z)<|Th<|T.mt (decide (bo≤(0:Int))) (M7 H)
   refine T2 z z<|T2 z z<|T2 z z<|T2 z z<|T2 z z<|T.A4a z z (X2 z z) z ?_ T.P5
   refine T.O1 Lr<|T2 z z<|Tv z (V.pkF z z)<|T.O7 (X2 z z)<|Th<|T.mt false (M7 H)
  rintro S cx cy bs
  have H:=I7 bs bk
  refine T.norm [56,1,5,9,10,11,30,31,32] z<|T.fl ?_
  refine T.cH H z (fun H=>?_) fun H=>?_
  ·refine Rg<|Mv z<|Vv (V.fa A7D z)<|Vv (V.M5 (k:=0) J7 z J.u z)<|Vv (V.fa A8c z)<|Vv (V.M5 (k:=1) J7 z J.u z)<|Vv (V.fa B4T z)<|Vv (V.M5 (k:=2) B0A z J.u z)<|bE H fun ⟨cA,ae⟩ bt H=>To (O.G9 z (C4o ab.u ac.u ad.u bt _) z fun cB cC cD cE bu=>?_)
   obtain ⟨bw,bx,bA,bB,bC,bD,rfl,bG,bI,bJ,bK⟩:=bu
   refine P7 _ bG<|An z<|Sm z<|Wn z z<|Nt<|T.cH H z (fun H=>?_) fun H=>?_
   ·refine Sq<|T.N8 (t:=(.vs [0,1,2,3,4,5] (.alt 6 (.alt 7 (.alt 8 .done .no) .no) .no))) 10 0 0 z z I5 (by kernel_rfl) ?_
    refine Tv z (V.fa A2T z)<|Tv z (V.M5 (k:=0) O0 z N.u z)<|Tv z (V.Q3 O9 z K)<|Tm z z<|bE H fun cG bM H=>Tv z (V.H8 z z bM)<|Tm z z<|Ts z z (X2 z z) (V.asg z) z ?_ T.P5
    refine Ts z z (X2 z z) (V.asg z) z ?_ T.P5
    refine Ts z z (X2 z z) (V.asg z) z ?_ T.P5
    refine T.O7 (X2 z z)<|Th<|T.ret<|Br<|Tr<|Tr<|have H:=D6 H P; Br<|Tr<|have H:=I7 H aa; T.drop<|T.drop<|T.drop<|T.drop ?_
    cases H
    exact T.rl z (RVs.cons (RV.tmp z) (RVs.cons (RV.tmp z) (Rv z))) ⟨_,z,z,OPt.nil⟩
   refine T.skip<|Bn<|Th<|Rg<|bE H fun bN bO H=>Vv (V.H8 z z bO)<|Mv z<|Nt<|T.ag (ax,ae.K6.V6,ae.K6.A0E,ae.fat,bN,bw,bx,bA,bB,bC,bD) ⟨(D8 H P),bI,bJ,bK⟩
  refine Ks<|Sm z<|Wn z z<|Nt<|T.cH H z (fun H=>?_) fun H=>?_
  ·refine Sq<|T.N8 (t:=(.vs [0,1,2,3,4,5] (.alt 6 (.alt 7 (.alt 8 .done .no) .no) .no))) 10 0 0 z z I5 (by kernel_rfl) ?_
   refine Tv z (V.fa A2T z)<|Tv z (V.M5 (k:=0) O0 z N.u z)<|Tv z (V.Q3 O9 z K)<|Tm z z<|bE H fun cI bP H=>Tv z (V.H8 z z bP)<|Tm z z<|Ts z z (X2 z z) (V.asg z) z ?_ T.P5
   refine Ts z z (X2 z z) (V.asg z) z ?_ T.P5
   refine Ts z z (X2 z z) (V.asg z) z ?_ T.P5
   refine T.O7 (X2 z z)<|Th<|T.ret<|Br<|Tr<|Tr<|have H:=D6 H P; Br<|Tr<|have H:=I7 H aa; T.drop<|T.drop<|T.drop<|T.drop ?_
   cases H
   exact T.rl z (RVs.cons (RV.tmp z) (RVs.cons (RV.tmp z) (Rv z))) ⟨_,z,z,OPt.nil⟩
  refine T.skip<|Bn<|Th<|Rg<|bE H fun bS bU H=>Vv (V.H8 z z bU)<|Mv z<|Nt<|T.ag (ax,y,A,B,bS,a,i,b,m,c,d) ⟨(D8 H P),ab.u,ac.u,ad.u⟩
 refine T.exit<|Te<|Te<|have H:=D6 H P; Be<|Th<|have H:=I7 H aa; Sm z<|Ag z<|Ag z<|Ag z<|Nr<|T.fs [1] ?_
 refine T.K5 fun cJ cK bV=>have bW:=A7.slc bV ab.u; T.fs [1] ?_
 refine T.K5 fun cM cN bX=>have bY:=A7.slc bX ac.u; Fr_ 1 z<|T.C5u VI.mono ad.u fun cO cP bZ=>T.C0A fun cS cU b0=>?_
 cases H
 exact T.rl z (RVs.cons (RV.tmp z) (RVs.cons (RV.tmp z) (Rv z))) ⟨_,z,z,(OPt.some (Pt.mk b0 ⟨a,b,(.map (some c)),z,bW.u,bY.u,bZ.u⟩))⟩
theorem B5U {h a r1 b c} (d:B1s h a r1) (H:A5A r1=some (b,c)):∀ L,FnW prog 138 [.agg a.toArray] h L (.tuple #[.int .i64 b,.int .i64 c]):=by
 intro L
 obtain ⟨e,f,rfl,g,i⟩:=d
 refine J6.enter func138 z z z<|Sr<|To (O.U5 z z z fun o p q j=>Ag z<|An z<|Sr<|Vv (V.ldS z j (by exact A5N)) ?_)
 refine bE H fun ⟨r,s,t⟩ k H=>To (O.G9 z (B5w ⟨e,f,z,g.u,i.u⟩ k _) z fun w x y A m=>?_)
 obtain ⟨B,rfl,n,C⟩:=m
 exact P7 _ n<|Mv z<|Wx z z<|Wx z z<|Wx z z<|Ag z<|Ag z<|An z<|Sm z<|Mv z<|Ag z<|Ag z<|Nr<|E1 H
end Go.Proofs.X
open Go Go.Proofs Go.Proofs.Tryz Go.Sl Go.Dm
namespace Go.Proofs.X
theorem B7Q {h d a b} (e:I8 h d a) (H:B0V a=some b):∀ L,J6 prog 159 [.agg d.toArray] h (L) (fun v h' L'=>∃ vo0_1 csso0_2,v=.agg #[.string b.F7,.string b.A1S,.string b.W9,.int .i64 b.A0h,.int .i64 b.A0r,.string b.A0t,.bool b.A0s,.bool b.Y6,vo0_1]∧L'=F5 9 1 vo0_1 csso0_2::L∧A7 VS h' csso0_2 b.O4):=by
 intro L
 obtain ⟨s,rfl,f⟩:=e
 refine J6.enter func159 z z z<|Sr<|To (O.box z z z fun t=>To (O.alloc A1K z z fun u=>Nt<|Sr<|Vv (V.fa A0A z)<|Vv (V.ldO (k:=8) A1v z (j:=1) z z)<|bE H fun w g H=>To (O.G9 z (B0c f g _) z fun c x y A i=>?_)))
 obtain ⟨m,n,o⟩:=i
 refine P7 _ n<|Vv (V.fa A0A z)<|T.Q9 0 z fun p q=>To (O.st (vs:=[c]) (k:=8) A1v z z (j:=2) z q (by (simp only [BT,p]) <;> rfl) ?_)
 refine T.fl ?_
 refine Nt<|Sr<|Vv (V.A4O (j:=0) (by exact V8) z z) ?_
 refine T.Q9 1 z fun r B=>To (O.stF (vs:=[.string a.F7,.string a.A1S,.string a.W9,qi a.A0h,qi a.A0r,.string a.A0t,.bool a.A0s,.bool a.Y6,c]) V8 z z (j:=2) z z (by (simp only [BT,r]) <;> rfl) z ?_)
 refine T.fl ?_
 refine Nr<|T.fs [1] ?_
 refine T.drop ?_
 cases H
 exact T.A9b (L':=F5 9 1 c m::L) results159 (RVs.cons (RV.cellS z (j:=0) z V8) RVs.nil) Li (fun _ iv=>iv.drop) ⟨_,_,z,z,o⟩
theorem B7a {h d e f a g} (i:Pt A1l h d e) (H:B1v e f=some (a,g)):∀ L,J6 prog 113 [d,.string f] h (L) (fun v h' L'=>∃ vo0_1 csso0_2,v=.tuple #[.agg #[.string a.F7,.string a.A1S,.string a.W9,.int .i64 a.A0h,.int .i64 a.A0r,.string a.A0t,.bool a.A0s,.bool a.Y6,vo0_1],.bool g]∧L'=F5 9 1 vo0_1 csso0_2::L∧A7 VS h' csso0_2 a.O4):=by
 intro L
 refine J6.enter func113 z z z<|Sr<|To (O.alloc A1K z z fun P=>An z<|Sq<|Sm z<|bE H fun S q H=>To (O.cs (A9e i q _) fun c X=>Nt<|T.cH H z (fun H=>?_) fun H=>?_))
 ·refine Sr<|Vv (V.bld (xs:=[]) (cs:=[_,_,_,_,_,_,_,_,_]) A9p A9n z F4.nil)<|To (O.stF (vs:=[.string qe,.string qe,.string qe,qi 0,qi 0,.string qe,.bool false,.bool false,qs]) V8 z z (j:=0) z z z z<|Ag z<|Nr<|Tr<|T.R4 9 1<|have t:A7 VS c [] ([]:List ByteArray):=A7.nil; Fr_ 1 z ?_)
  cases H
  exact T.A9b (L':=F5 9 1 (qs) []::L) results113 (RVs.cons (RV.cellS z (j:=0) z V8) (Rv z)) Li (fun _ iv=>iv.drop) ⟨_,_,z,z,t⟩
 refine Ks<|Sm z<|have w:=i; ?_
 obtain ⟨Y,_,rfl,m,⟨Z,aa,ab,rfl,n,ac,x⟩⟩:=w
 refine NL z A5l A8t m.u z<|Mv z<|bE H fun ⟨ad,ae⟩ y H=>?_
 obtain ⟨_,A,rfl⟩:=Mp.look (zc:=[qi 0]) (agg:=false) underlying191 (A0u.str underlying9) K8 (show (VI .i64) c [qi 0] (0:Int) from rfl) x.u y
 refine Vv (V.lkF z z A)<|Mv z<|Wx z z<|Wx z z<|Ag z<|An z<|Sq<|Sm z<|Vv (V.not z)<|Nt<|T.cH H z (fun H=>?_) fun H=>?_
 ·refine Sr<|Vv (V.bld (xs:=[]) (cs:=[_,_,_,_,_,_,_,_,_]) A9p A9n z F4.nil)<|To (O.stF (vs:=[.string qe,.string qe,.string qe,qi 0,qi 0,.string qe,.bool false,.bool false,qs]) V8 z z (j:=0) z z z z<|Ag z<|Nr<|Tr<|T.R4 9 1<|have B:A7 VS c [] ([]:List ByteArray):=A7.nil; Fr_ 1 z ?_)
  cases H
  exact T.A9b (L':=F5 9 1 (qs) []::L) results113 (RVs.cons (RV.cellS z (j:=0) z V8) (Rv z)) Li (fun _ iv=>iv.drop) ⟨_,_,z,z,B⟩
 refine Ks<|Sm z<|NF z A0F<|Vv (V.fa A4W z)<|Vv (V.M5 (k:=0) O0 z m.u z)<|Mv z<|bE H fun af o H=>?_
 obtain ⟨ag,C,⟨D,rfl,E⟩⟩:=F8.at n o
 refine Vv (V.ix O9 z z n (E9 o))<|Vv (V.ldS z C.u (by exact V8)) ?_
 refine bE H fun b G H=>To (O.G9 z (B7Q ⟨D,z,E.u⟩ G _) z fun ai aj ak am I=>?_)
 obtain ⟨p,J,rfl,K,M⟩:=I
 refine P7 _ K<|T.Q9 0 z fun N an=>To (O.stF (vs:=[.string b.F7,.string b.A1S,.string b.W9,qi b.A0h,qi b.A0r,.string b.A0t,.bool b.A0s,.bool b.Y6,p]) V8 z z (j:=1) z z (by (simp only [BT,N]) <;> rfl) z ?_)
 refine Ag z<|Nr ?_
 cases H
 exact T.A9b (L':=F5 9 1 p J::L) results113 (RVs.cons (RV.cellS z (j:=0) z V8) (Rv z)) Li (fun _ iv=>iv.drop) ⟨_,_,z,z,M⟩
theorem B8O {h a b c d e} (f:Z0 h b c) (g:I8 h c d) (H:A4z a d=some e):∀ L,FnW prog 115 [.string a,.pointer (some b)] h L (.bool e):=by
 intro L
 obtain ⟨o,rfl,i⟩:=g
 exact J6.enter func115 z z z<|Sr<|An z<|Sr<|Vv (V.fa A0A z)<|Vv (V.M5 (k:=8) A1v z f z)<|Mv z<|bE H fun p j H=>To (O.cs (B7e i j _) fun r t=>Vv (V.not z)<|Ag z<|Nr<|E1 H)
theorem C0R {h d e f g i} (m:Pt A1l h d e) (H:B0m e f g=some i):∀ L,J6 prog 54 [d,.string f,.string g] h (L) (fun v h' L'=>∃ n,L'=F5 9 1 v n::L∧A7 VS h' n i):=by
 intro L
 refine J6.enter func54 z z z<|Sr<|An z<|Sm z<|Mv z<|bE H fun ⟨b,Y⟩ r H=>To (O.G9 z (B7a m r _) z fun Z aa ab ac s=>?_)
 obtain ⟨t,ad,rfl,w,x⟩:=s
 refine P7 _ w<|Mv z<|Wx z z<|Wx z z<|To (O.alloc A1K z z fun ae=>T.Q9 1 z fun y af=>To (O.stF (vs:=[.string b.F7,.string b.A1S,.string b.W9,qi b.A0h,qi b.A0r,.string b.A0t,.bool b.A0s,.bool b.Y6,t]) V8 z z (j:=0) z z (by (simp only [BT,y]) <;> rfl) z ?_))
 refine An z<|Sm z<|Mv z<|bE H fun ⟨a,ag⟩ A H=>To (O.G9 z (B7a m.u A _) z fun ai aj ak am B=>?_)
 obtain ⟨o,an,rfl,C,D⟩:=B
 refine P7 _ C<|Mv z<|Wx z z<|Wx z z<|To (O.alloc A1K z z fun p=>T.fs [1] ?_)
 refine T.K5 fun ao ap E=>have q:=A7.slc E D.u; To (O.stF (vs:=[.string a.F7,.string a.A1S,.string a.W9,qi a.A0h,qi a.A0r,.string a.A0t,.bool a.A0s,.bool a.Y6,o]) V8 z z (j:=0) z z (by (simp only [BT,F8.one q]) <;> rfl) z ?_)
 refine T.fl ?_
 refine T.freeze fun c aq G=>have I:=Z0.of G; An z<|Sq<|Sm z<|Vv (V.not z)<|Mv z<|T.bH 25 H z (fun H=>?_) fun H=>?_
 ·refine S2<|Kt z<|Nt<|Ct z<|Sg z<|Nr<|Tr<|T.R4 9 1<|have J:A7 VS c [] ([]:List ByteArray):=A7.nil; T.fs [1] ?_
  refine T.drop<|Fr_ 1 z<|T.drop ?_
  cases H
  exact T.rl z (Rv z) ⟨_,z,J⟩
 refine Mv z<|Vv (V.not z)<|Kf z<|Nt<|T.cH H z (fun H=>?_) fun H=>?_
 ·refine Sg z<|Nr<|Tr<|T.R4 9 1<|have K:A7 VS c [] ([]:List ByteArray):=A7.nil; T.fs [1] ?_
  refine T.drop<|Fr_ 1 z<|T.drop ?_
  cases H
  exact T.rl z (Rv z) ⟨_,z,K⟩
 refine Ks<|Sr<|Vv (V.fa A0A z)<|Vv (V.ldO (k:=8) A1v z (j:=0) z z)<|Vv (V.mkf z z)<|Fr_ 1 z<|bE H fun ar M H=>To (O.G9 z (B4C x.u (show B0p c (.func (.func 115) #[] #[qp p]) (fun N=>A4z N (E8.mk a.F7 a.A1S a.W9 a.A0h a.A0r a.A0t a.A0s a.Y6 a.O4)) from ⟨⟨z,z⟩,.inr ⟨115,[],[qp p],z,fun au aw ax ay P S=>B8O I.u ⟨o,z,q.u⟩ P S⟩⟩) M _) z fun aA aB aC aD U=>?_)
 obtain ⟨aE,W,X⟩:=U
 refine P7 _ W<|Ag z<|Nr<|Fr_ 1 z<|T.drop ?_
 cases H
 exact T.rl z (Rv z) ⟨_,z,X⟩
theorem C3L {h b c d e f g} (a:Pt A1l h b c) (H:B4n c d e=some (f,g)):∀ L,FnW prog 55 [b,.string d,.string e] h L (.tuple #[.int .u8 f,.bool g]):=by
 intro L
 refine J6.enter func55 z z z<|Sg z<|An z<|Sq<|Sm z<|bE H fun x m H=>To (O.cs (A9e a m _) fun A C=>Nt<|T.cH H z (fun H=>?_) fun H=>?_)
 ·exact Sg z<|Ag z<|Nr<|Tr<|E1 H
 refine Ks<|Sm z<|Mv z<|Mv z<|bE H fun ⟨D,E⟩ p H=>To (O.cs (B5s a.u p _) fun I K=>Mv z<|Wx z z<|Wx z z<|Ag z<|An z<|Sq<|Sm z<|Vv (V.not z)<|Nt<|T.cH H z (fun H=>?_) fun H=>?_)
 ·exact Sg z<|Ag z<|Nr<|Tr<|E1 H
 refine Ks<|Sm z<|have s:=a; ?_
 obtain ⟨M,_,rfl,t,⟨N,P,S,rfl,U,i,W⟩⟩:=s
 refine NF z A0F<|Vv (V.fa A5k z)<|Vv (V.M5 (k:=1) A1H z t.u z)<|Mv z<|bE H fun X j H=>?_
 obtain ⟨Y,w,rfl⟩:=F8.at i j
 exact Vv (V.ix A0U z z i (E9 j))<|Vv (V.fa B4T z)<|Vv (V.M5 (k:=2) B0A z w.u z)<|Ag z<|Ag z<|Nr<|E1 H
end Go.Proofs.X
