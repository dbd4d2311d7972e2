import Derived.Test.YtnjnnebigkgnlaaGreatDoorChecked
import Derived.KernelRfl
import Derived.Test.YtnjnnebigkgnlaaGreatDoorV
import Derived.Test.YtnjnnebigkgnlaaGreatDoorL12
import Derived.Test.YtnjnnebigkgnlaaGreatDoorDa
/- The walks: each function computes what its Lean function says. -/
set_option maxRecDepth 1000000
set_option maxHeartbeats 40000000
set_option linter.unusedVariables false
set_option linter.unusedSimpArgs false
set_option linter.unnecessarySimpa false
open Go Go.Proofs Go.Proofs.Tryz Go.Sl Go.Dm
namespace Go.Proofs.X
theorem I4 : prog.follows .mixedOrders = true:=by kernel_rfl
theorem C9 : A0X prog 27 = some (3,1,8):=by kernel_rfl
theorem N9 : A0X prog 28 = some (54,7,80):=by kernel_rfl
theorem K8 : A0X prog 29 = some (39,9,112):=by kernel_rfl
theorem X3 : A0X prog 30 = some (106,3,40):=by kernel_rfl
theorem Q5 : A0X prog 31 = some (42,6,72):=by kernel_rfl
theorem A0a : A0X prog 37 = some (9,1,16):=by kernel_rfl
theorem E8 : X9 prog 3 = some (false,1):=by kernel_rfl
theorem Z7 : X9 prog 39 = some (true,9):=by kernel_rfl
theorem L9 : X9 prog 54 = some (true,7):=by kernel_rfl
theorem H9 : X9 prog 9 = some (false,1):=by kernel_rfl
theorem A6c : zer prog 106 = some (.agg #[.string ⟨#[]⟩,.string ⟨#[]⟩,.int .u8 (0)]):=by kernel_rfl
theorem M9 : zer prog 3 = some (.int .i64 (0)):=by kernel_rfl
theorem A1B : zer prog 39 = some (.agg #[.string ⟨#[]⟩,.string ⟨#[]⟩,.string ⟨#[]⟩,.int .i64 (0),.int .i64 (0),.string ⟨#[]⟩,.bool false,.bool false,.slice none 0 0]):=by kernel_rfl
theorem A1x : zer prog 42 = some (.agg #[.int .u8 (0),.int .i64 (0),.string ⟨#[]⟩,.string ⟨#[]⟩,.string ⟨#[]⟩,.int .i64 (0)]):=by kernel_rfl
theorem A3n : zer prog 54 = some (.agg #[.string ⟨#[]⟩,.int .u8 (0),.int .i64 (0),.int .i64 (0),.slice none 0 0,.int .i64 (0),.int .i64 (0)]):=by kernel_rfl
theorem B7X : zer prog 9 = some (.string ⟨#[]⟩):=by kernel_rfl
theorem B2A {h g c d i} (e:G6 (VI .i64) 1 h g c) (H:A7o c d = some i):∀ L,G8 prog 140 [g,.int .i64 d] h (L) (fun v h' L'=>v = .int .i64 i∧L' = L):=by
 intro L
 refine G8.enter func140 z z z<|Sr<|Ag z<|Nt<|Sq<|Sr<|Mv z<|Vv (V.P9 C9 z e)<|Mv z<|Nt ?_
 obtain ⟨j,n,k⟩:=M5 H
 refine T.M7 (α:=Unit) [] z (fun _u=>[]) (fun _u=>L) (fun _u hh=>j = (Sum.inl ())) ?_ ?_
 ·have H:=n
  refine Bl<|T.M8 (α:=Nat×Int) [0,1,7] z (fun ⟨a,b⟩=>[(8,qi b)]) (fun ⟨a,b⟩=>L) (fun ⟨a,b⟩ hh=>iter (A5Y c d) a b = some j) (fun ⟨a,b⟩=>a) (FUEL,(0:Int)) ⟨z,trivial⟩ z H ?_
  rintro ⟨a,b⟩ w x o
  obtain ⟨p,y,rfl,H,f⟩:=I1 o
  refine T.norm [8,0,1,7] z<|T.fl ?_
  refine Sr<|Vv (V.lt z z)<|Nt<|Sq<|T.cH H z (fun H=>?_) fun H=>?_
  ·refine Ks<|Sq<|Bl<|Sr<|Mv z<|Ag z<|Nt<|Sr<|Mv z<|Mv z<|Mv z<|bE H fun A m H=>?_
   obtain ⟨B,q,rfl⟩:=G6.at e m
   refine Vv (V.ix C9 z z e (G7 m))<|Vv (V.ld0 E8 z q.u z)<|Vv (V.eq z z)<|Nt<|T.cH H z (fun H=>?_) fun H=>?_
   ·exact Sr<|Mv z<|Ag z<|Nt<|T.ret<|Br<|Tr<|Tr<|have H:=D9 H f; Br<|Tr<|have H:=J8 H k; E1 H
   refine T.skip<|Bn<|Th<|Rg<|bE H fun r s H=>Vv (V.J2 z z s)<|Mv z<|Nt<|T.ag (p,r) (F4 H f)
  refine T.exit<|Te<|Te<|have H:=D9 H f; Be<|Th<|T.mt () H
 rintro _ C D t
 have H:=J8 t k
 refine T.norm [] z<|T.fl ?_
 exact Sr<|Ag z<|Nt<|T.ret<|E1 H
theorem A1t {h a b c d} (e:G6 (VI .i64) 1 h a b) (H:A0Q b c = some d):∀ L,G8 prog 76 [a,.int .i64 c] h (L) (fun v h' L'=>v = .bool d∧L' = L):=by
 intro L
 refine G8.enter func76 z z z<|Sr<|Ag z<|Nt<|Sr<|Mv z<|Mv z<|bE H fun j f H=>To (O.D8 z (B2A e f _) z fun k m n o g=>?_)
 obtain ⟨rfl,i⟩:=g
 exact J9 _ i<|Vv (V.ge z z)<|Ag z<|Nt<|T.ret<|E1 H
theorem B5W {h i c j d k} (e:G6 (VI .i64) 1 h i c) (p:A2q h j d) (H:B2c c d = some k):∀ L,G8 prog 139 [i,j] h (L) (fun v h' L'=>v = .int .i64 k∧L' = L):=by
 intro L
 refine G8.enter func139 z z z<|Sr<|Ag z<|Nt<|Sq<|Sr<|Mv z<|Vv (V.P9 C9 z e)<|Mv z<|Nt ?_
 obtain ⟨m,q,n⟩:=M5 H
 refine T.M7 (α:=Unit) [] z (fun _u=>[]) (fun _u=>L) (fun _u hh=>m = (Sum.inl ())) ?_ ?_
 ·have H:=q
  refine Bl<|T.M8 (α:=Nat×Int) [0,1,7] z (fun ⟨a,b⟩=>[(8,qi b)]) (fun ⟨a,b⟩=>L) (fun ⟨a,b⟩ hh=>iter (A8R c d) a b = some m) (fun ⟨a,b⟩=>a) (FUEL,(0:Int)) ⟨z,trivial⟩ z H ?_
  rintro ⟨a,b⟩ r I s
  obtain ⟨t,J,rfl,H,f⟩:=I1 s
  refine T.norm [8,0,1,7] z<|T.fl ?_
  refine Sr<|Vv (V.lt z z)<|Nt<|Sq<|T.cH H z (fun H=>?_) fun H=>?_
  ·refine Ks<|Sq<|Bl<|Sr<|Mv z<|Ag z<|Nt<|Sr<|Mv z<|Mv z<|Mv z<|bE H fun K o H=>?_
   obtain ⟨M,w,rfl⟩:=G6.at e o
   refine Vv (V.ix C9 z z e (G7 o))<|Vv (V.ld0 E8 z w.u z)<|bE H fun N x H=>?_
   obtain ⟨P,S,U,y,A⟩:=A2q.call (p.u (g:=r)) x
   refine To (O.A1d z y z (A _) z fun W X Y Z B=>?_)
   obtain ⟨rfl,C⟩:=B
   refine J9 _ C<|Nt<|T.cH H z (fun H=>?_) fun H=>?_
   ·exact Sr<|Mv z<|Ag z<|Nt<|T.ret<|Br<|Tr<|Tr<|have H:=D9 H f; Br<|Tr<|have H:=J8 H n; E1 H
   refine T.skip<|Bn<|Th<|Rg<|bE H fun D E H=>Vv (V.J2 z z E)<|Mv z<|Nt<|T.ag (t,D) (F4 H f)
  refine T.exit<|Te<|Te<|have H:=D9 H f; Be<|Th<|T.mt () H
 rintro _ aa ab G
 have H:=J8 G n
 refine T.norm [] z<|T.fl ?_
 exact Sr<|Ag z<|Nt<|T.ret<|E1 H
theorem A3I {h a b c d e} (f:G6 (VI .i64) 1 h a b) (g:A2q h c d) (H:A3p b d = some e):∀ L,G8 prog 74 [a,c] h (L) (fun v h' L'=>v = .bool e∧L' = L):=by
 intro L
 refine G8.enter func74 z z z<|Sr<|Ag z<|Nt<|Sr<|Mv z<|Mv z<|bE H fun m i H=>To (O.D8 z (B5W f g i _) z fun n o p q j=>?_)
 obtain ⟨rfl,k⟩:=j
 exact J9 _ k<|Vv (V.ge z z)<|Ag z<|Nt<|T.ret<|E1 H
theorem A7u {h i c j d k} (e:G6 F7 7 h i c) (p:A9x h j d) (H:A2A c d = some k):∀ L,G8 prog 205 [i,j] h (L) (fun v h' L'=>v = .int .i64 k∧L' = L):=by
 intro L
 refine G8.enter func205 z z z<|Sr<|Ag z<|Nt<|Sq<|Sr<|Mv z<|Vv (V.P9 N9 z e)<|Mv z<|Nt ?_
 obtain ⟨m,q,n⟩:=M5 H
 refine T.M7 (α:=Unit) [] z (fun _u=>[]) (fun _u=>L) (fun _u hh=>m = (Sum.inl ())) ?_ ?_
 ·have H:=q
  refine Bl<|T.M8 (α:=Nat×Int) [0,1,7] z (fun ⟨a,b⟩=>[(8,qi b)]) (fun ⟨a,b⟩=>L) (fun ⟨a,b⟩ hh=>iter (A2y c d) a b = some m) (fun ⟨a,b⟩=>a) (FUEL,(0:Int)) ⟨z,trivial⟩ z H ?_
  rintro ⟨a,b⟩ r K s
  obtain ⟨t,M,rfl,H,f⟩:=I1 s
  refine T.norm [8,0,1,7] z<|T.fl ?_
  refine Sr<|Vv (V.lt z z)<|Nt<|Sq<|T.cH H z (fun H=>?_) fun H=>?_
  ·refine Ks<|Sq<|Bl<|Sr<|Mv z<|Ag z<|Nt<|Sr<|Mv z<|Mv z<|Mv z<|bE H fun N o H=>?_
   obtain ⟨P,w,⟨x,rfl,y⟩⟩:=G6.at e o
   refine Vv (V.ix N9 z z e (G7 o))<|Vv (V.ldS z w.u (by exact L9)) ?_
   refine bE H fun S A H=>?_
   obtain ⟨U,W,X,B,C⟩:=A9x.call (p.u (g:=r)) ⟨x,rfl,y.u⟩ A
   refine To (O.A1d z B z (C _) z fun Y Z aa ab D=>?_)
   obtain ⟨rfl,E⟩:=D
   refine J9 _ E<|Nt<|T.cH H z (fun H=>?_) fun H=>?_
   ·exact Sr<|Mv z<|Ag z<|Nt<|T.ret<|Br<|Tr<|Tr<|have H:=D9 H f; Br<|Tr<|have H:=J8 H n; E1 H
   refine T.skip<|Bn<|Th<|Rg<|bE H fun G I H=>Vv (V.J2 z z I)<|Mv z<|Nt<|T.ag (t,G) (F4 H f)
  refine T.exit<|Te<|Te<|have H:=D9 H f; Be<|Th<|T.mt () H
 rintro _ ac ad J
 have H:=J8 J n
 refine T.norm [] z<|T.fl ?_
 exact Sr<|Ag z<|Nt<|T.ret<|E1 H
theorem B0S {h a b c d e} (f:G6 F7 7 h a b) (g:A9x h c d) (H:A3W b d = some e):∀ L,G8 prog 247 [a,c] h (L) (fun v h' L'=>v = .bool e∧L' = L):=by
 intro L
 refine G8.enter func247 z z z<|Sr<|Ag z<|Nt<|Sr<|Mv z<|Mv z<|bE H fun m i H=>To (O.D8 z (A7u f g i _) z fun n o p q j=>?_)
 obtain ⟨rfl,k⟩:=j
 exact J9 _ k<|Vv (V.ge z z)<|Ag z<|Nt<|T.ret<|E1 H
theorem A7w {h i c j d k} (e:G6 F9 9 h i c) (p:B0u h j d) (H:A2u c d = some k):∀ L,G8 prog 187 [i,j] h (L) (fun v h' L'=>v = .int .i64 k∧L' = L):=by
 intro L
 refine G8.enter func187 z z z<|Sr<|Ag z<|Nt<|Sq<|Sr<|Mv z<|Vv (V.P9 K8 z e)<|Mv z<|Nt ?_
 obtain ⟨m,q,n⟩:=M5 H
 refine T.M7 (α:=Unit) [] z (fun _u=>[]) (fun _u=>L) (fun _u hh=>m = (Sum.inl ())) ?_ ?_
 ·have H:=q
  refine Bl<|T.M8 (α:=Nat×Int) [0,1,7] z (fun ⟨a,b⟩=>[(8,qi b)]) (fun ⟨a,b⟩=>L) (fun ⟨a,b⟩ hh=>iter (A2t c d) a b = some m) (fun ⟨a,b⟩=>a) (FUEL,(0:Int)) ⟨z,trivial⟩ z H ?_
  rintro ⟨a,b⟩ r K s
  obtain ⟨t,M,rfl,H,f⟩:=I1 s
  refine T.norm [8,0,1,7] z<|T.fl ?_
  refine Sr<|Vv (V.lt z z)<|Nt<|Sq<|T.cH H z (fun H=>?_) fun H=>?_
  ·refine Ks<|Sq<|Bl<|Sr<|Mv z<|Ag z<|Nt<|Sr<|Mv z<|Mv z<|Mv z<|bE H fun N o H=>?_
   obtain ⟨P,w,⟨x,rfl,y⟩⟩:=G6.at e o
   refine Vv (V.ix K8 z z e (G7 o))<|Vv (V.ldS z w.u (by exact Z7)) ?_
   refine bE H fun S A H=>?_
   obtain ⟨U,W,X,B,C⟩:=B0u.call (p.u (g:=r)) ⟨x,rfl,y.u⟩ A
   refine To (O.A1d z B z (C _) z fun Y Z aa ab D=>?_)
   obtain ⟨rfl,E⟩:=D
   refine J9 _ E<|Nt<|T.cH H z (fun H=>?_) fun H=>?_
   ·exact Sr<|Mv z<|Ag z<|Nt<|T.ret<|Br<|Tr<|Tr<|have H:=D9 H f; Br<|Tr<|have H:=J8 H n; E1 H
   refine T.skip<|Bn<|Th<|Rg<|bE H fun G I H=>Vv (V.J2 z z I)<|Mv z<|Nt<|T.ag (t,G) (F4 H f)
  refine T.exit<|Te<|Te<|have H:=D9 H f; Be<|Th<|T.mt () H
 rintro _ ac ad J
 have H:=J8 J n
 refine T.norm [] z<|T.fl ?_
 exact Sr<|Ag z<|Nt<|T.ret<|E1 H
theorem C0p {h g c d i} (e:G6 VS 1 h g c) (H:A9B c d = some i):∀ L,G8 prog 245 [g,.string d] h (L) (fun v h' L'=>v = .int .i64 i∧L' = L):=by
 intro L
 refine G8.enter func245 z z z<|Sr<|Ag z<|Nt<|Sq<|Sr<|Mv z<|Vv (V.P9 A0a z e)<|Mv z<|Nt ?_
 obtain ⟨j,n,k⟩:=M5 H
 refine T.M7 (α:=Unit) [] z (fun _u=>[]) (fun _u=>L) (fun _u hh=>j = (Sum.inl ())) ?_ ?_
 ·have H:=n
  refine Bl<|T.M8 (α:=Nat×Int) [0,1,7] z (fun ⟨a,b⟩=>[(8,qi b)]) (fun ⟨a,b⟩=>L) (fun ⟨a,b⟩ hh=>iter (A5Z c d) a b = some j) (fun ⟨a,b⟩=>a) (FUEL,(0:Int)) ⟨z,trivial⟩ z H ?_
  rintro ⟨a,b⟩ w x o
  obtain ⟨p,y,rfl,H,f⟩:=I1 o
  refine T.norm [8,0,1,7] z<|T.fl ?_
  refine Sr<|Vv (V.lt z z)<|Nt<|Sq<|T.cH H z (fun H=>?_) fun H=>?_
  ·refine Ks<|Sq<|Bl<|Sr<|Mv z<|Ag z<|Nt<|Sr<|Mv z<|Mv z<|Mv z<|bE H fun A m H=>?_
   obtain ⟨B,q,rfl⟩:=G6.at e m
   refine Vv (V.ix A0a z z e (G7 m))<|Vv (V.ld0 H9 z q.u z)<|Vv (V.seq z z)<|Nt<|T.cH H z (fun H=>?_) fun H=>?_
   ·exact Sr<|Mv z<|Ag z<|Nt<|T.ret<|Br<|Tr<|Tr<|have H:=D9 H f; Br<|Tr<|have H:=J8 H k; E1 H
   refine T.skip<|Bn<|Th<|Rg<|bE H fun r s H=>Vv (V.J2 z z s)<|Mv z<|Nt<|T.ag (p,r) (F4 H f)
  refine T.exit<|Te<|Te<|have H:=D9 H f; Be<|Th<|T.mt () H
 rintro _ C D t
 have H:=J8 t k
 refine T.norm [] z<|T.fl ?_
 exact Sr<|Ag z<|Nt<|T.ret<|E1 H
theorem B7q {h a b c d} (e:G6 VS 1 h a b) (H:A6a b c = some d):∀ L,G8 prog 180 [a,.string c] h (L) (fun v h' L'=>v = .bool d∧L' = L):=by
 intro L
 refine G8.enter func180 z z z<|Sr<|Ag z<|Nt<|Sr<|Mv z<|Mv z<|bE H fun j f H=>To (O.D8 z (C0p e f _) z fun k m n o g=>?_)
 obtain ⟨rfl,i⟩:=g
 exact J9 _ i<|Vv (V.ge z z)<|Ag z<|Nt<|T.ret<|E1 H
theorem A7J {h a b} (H:A8j a = some b):∀ L,G8 prog 364 [.int .i64 a] h (L) (fun v h' L'=>v = .bool b∧L' = L):=by
 intro L
 exact G8.enter func364 z z z<|Sr<|Ag z<|Nt<|Sr<|Mv z<|Mv z<|Vv (V.ne z z)<|Ag z<|Nt<|T.ret<|E1 H
theorem B6y {h a b c} (H:B3V a b = some c):∀ L,G8 prog 380 [.int .i64 a,.int .i64 b] h (L) (fun v h' L'=>v = .int .i64 c∧L' = L):=by
 intro L
 refine G8.enter func380 z z z<|Sr<|Ag z<|Nt<|Sr<|Mv z<|bE H fun k d H=>To (O.D8 z (A7J d _) z fun m n o p e=>?_)
 obtain ⟨rfl,f⟩:=e
 refine J9 _ f<|Ag z<|Nt<|Sr<|Mv z<|bE H fun q g H=>To (O.D8 z (A7J g _) z fun r s t u i=>?_)
 obtain ⟨rfl,j⟩:=i
 exact J9 _ j<|Ag z<|Nt<|Sq<|Sr<|Mv z<|Nt<|T.cH H z dead fun H=>Ks<|Sq<|Sr<|Mv z<|Nt<|T.cH H z dead fun H=>Ks<|Sq<|Sr<|Mv z<|Mv z<|Vv (V.lt z z)<|Nt<|T.cH H z dead fun H=>Ks<|Sq<|Sr<|Mv z<|Mv z<|Vv (V.gt z z)<|Nt<|T.cH H z dead fun H=>Ks<|Sr<|Ag z<|Nt<|T.ret<|E1 H
theorem C0E {h a b c} (H:B8D a b = some c):∀ L,G8 prog 310 [.int .i64 a,.int .i64 b] h (L) (fun v h' L'=>v = .bool c∧L' = L):=by
 intro L
 refine G8.enter func310 z z z<|Sr<|Ag z<|Nt<|Sr<|Mv z<|bE H fun g d H=>To (O.D8 z (A7J d _) z fun i j k m e=>?_)
 obtain ⟨rfl,f⟩:=e
 exact J9 _ f<|Mv z<|T.bH 7 H z dead fun H=>Sk<|Sk<|Sk<|Vv (V.R9 z z)<|Mv z<|Mv z<|Mv z<|Vv (V.lt z z)<|Vv (V.R9 z z)<|Ag z<|Nt<|T.ret<|E1 H
theorem B7B {h g e i f j} (c:G6 (VI .i64) 1 h g e) (d:G6 (VI .i64) 1 h i f) (H:A9U e f = some j):∀ L,G8 prog 358 [g,i] h (L) (fun v h' L'=>v = .int .i64 j∧L' = L):=by
 intro L
 refine G8.enter func358 z z z<|Sr<|Ag z<|Nt<|Sq<|Sr<|Mv z<|Vv (V.P9 C9 z c)<|Mv z<|Nt ?_
 obtain ⟨k,p,q⟩:=M5 H
 refine T.M7 (α:=Unit) [0,1] z (fun _u=>[]) (fun _u=>L) (fun _u hh=>k = ()) ?_ ?_
 ·have H:=p
  refine Bl<|T.M8 (α:=Nat×Int) [0,1,9,10] z (fun ⟨a,b⟩=>[(11,qi b)]) (fun ⟨a,b⟩=>L) (fun ⟨a,b⟩ hh=>iter (B0T e f) a b = some k) (fun ⟨a,b⟩=>a) (FUEL,(0:Int)) ⟨z,trivial⟩ z H ?_
  rintro ⟨a,b⟩ E G r
  obtain ⟨s,I,rfl,H,m⟩:=I1 r
  refine T.norm [11,0,1,9,10] z<|T.fl ?_
  refine Sr<|Vv (V.lt z z)<|Nt<|Sq<|T.cH H z (fun H=>?_) fun H=>?_
  ·refine Ks<|Sq<|Bl<|Sr<|Mv z<|bE H fun J n H=>?_
   obtain ⟨K,t,rfl⟩:=G6.at c n
   refine Vv (V.ix C9 z z c (G7 n))<|Vv (V.ld0 E8 z t.u z)<|Ag z<|Ag z<|Nt<|Sq<|Sr<|Mv z<|Mv z<|Vv (V.P9 C9 z d)<|Vv (V.ge z z)<|Nt<|T.cH H z dead fun H=>Ks<|Sr<|Mv z<|Mv z<|bE H fun M o H=>?_
   obtain ⟨N,w,rfl⟩:=G6.at d o
   refine Vv (V.ix C9 z z d (G7 o))<|Vv (V.ld0 E8 z w.u z)<|Ag z<|Nt<|Sr<|Mv z<|Mv z<|bE H fun P x H=>To (O.D8 z (B6y x _) z fun S U W X y=>?_)
   obtain ⟨rfl,A⟩:=y
   refine J9 _ A<|Ag z<|Nt<|Sr<|Mv z<|Vv (V.ne z z)<|Nt<|T.cH H z dead fun H=>T.skip<|Bn<|Th<|Rg<|bE H fun B C H=>Vv (V.J2 z z C)<|Mv z<|Nt<|T.ag (s,B) (F4 H m)
  refine T.exit<|Te<|Te<|have H:=D9 H m; Be<|Th<|T.mt () H
 rintro _ Y Z D
 have H:=J8 D q
 refine T.norm [0,1] z<|T.fl ?_
 exact Sq<|Sr<|Mv z<|Vv (V.P9 C9 z c)<|Mv z<|Vv (V.P9 C9 z d)<|Vv (V.lt z z)<|Nt<|T.cH H z dead fun H=>Ks<|Sr<|Ag z<|Nt<|T.ret<|E1 H
theorem C0n {h g d i e j} (c:G6 (VI .i64) 1 h g d) (f:G6 (VI .i64) 1 h i e) (H:B2Q d e = some j):∀ L,G8 prog 360 [g,i] h (L) (fun v h' L'=>v = .bool j∧L' = L):=by
 intro L
 refine G8.enter func360 z z z<|Sr<|Ag z<|Nt<|Sq<|Sr<|Mv z<|Vv (V.P9 C9 z c)<|Mv z<|Vv (V.P9 C9 z f)<|Vv (V.ne z z)<|Nt<|T.cH H z dead fun H=>Ks<|Sq<|Sr<|Mv z<|Vv (V.P9 C9 z c)<|Mv z<|Nt ?_
 obtain ⟨k,p,q⟩:=M5 H
 refine T.M7 (α:=Unit) [] z (fun _u=>[]) (fun _u=>L) (fun _u hh=>k = ()) ?_ ?_
 ·have H:=p
  refine Bl<|T.M8 (α:=Nat×Int) [0,1,12] z (fun ⟨a,b⟩=>[(13,qi b)]) (fun ⟨a,b⟩=>L) (fun ⟨a,b⟩ hh=>iter (B3H d e) a b = some k) (fun ⟨a,b⟩=>a) (FUEL,(0:Int)) ⟨z,trivial⟩ z H ?_
  rintro ⟨a,b⟩ C D r
  obtain ⟨s,E,rfl,H,m⟩:=I1 r
  refine T.norm [13,0,1,12] z<|T.fl ?_
  refine Sr<|Vv (V.lt z z)<|Nt<|Sq<|T.cH H z (fun H=>?_) fun H=>?_
  ·refine Ks<|Sq<|Bl<|Sr<|Mv z<|Ag z<|Nt<|Sq<|T.O1 (t:=(.vs [0,1,2,3,4,5,6,7,8] .done)) 10 0 0 z z I4 (by kernel_rfl) ?_
   refine Tm z z<|Tm z z<|bE H fun G n H=>?_
   obtain ⟨I,w,rfl⟩:=G6.at c n
   refine Tv z (V.ix C9 z z c (G7 n))<|Tv z (V.ld0 E8 z w.u z)<|Tm z z<|Tm z z<|bE H fun J o H=>?_
   obtain ⟨K,x,rfl⟩:=G6.at f o
   refine Tv z (V.ix C9 z z f (G7 o))<|Tv z (V.ld0 E8 z x.u z)<|Tv z (V.ne z z)<|T.R7 (SX.two (XA.fr [] Lr z) (XA.fr [] Lr z))<|Th<|T.cH H z dead fun H=>T.skip<|Bn<|Th<|Rg<|bE H fun y A H=>Vv (V.J2 z z A)<|Mv z<|Nt<|T.ag (s,y) (F4 H m)
  refine T.exit<|Te<|Te<|have H:=D9 H m; Be<|Th<|T.mt () H
 rintro _ M N B
 have H:=J8 B q
 refine T.norm [] z<|T.fl ?_
 exact Sr<|Ag z<|Nt<|T.ret<|E1 H
theorem A2N {h a e f} (c:G6 (VI .i64) 1 h a e) (H:A2w e = some f):∀ L,G8 prog 39 [a] h (L) (fun v h' L'=>∃ g,L' = D5 3 1 v g::L∧A7 (VI .i64) h' g f):=by
 intro L
 refine G8.enter func39 z z z<|Sr<|Ag z<|Nt<|Sq<|Sr<|Mv z<|Vv (V.C2z C9 z c)<|Nt<|T.cond (b:=B4B a) z (fun i=>?_) (fun i=>?_)
 ·have H:=B0K (G6.B4B c i) H
  refine Sr<|Ag z<|Nt<|T.ret<|Tr<|T.U9 3 1<|have o:A7 (VI .i64) h [] ([]:List Int):=A7.nil; ?_
  cases H
  exact T.rl z (Rv z) ⟨_,z,o⟩
 refine Ks<|Sr<|To (O.bs0 C9 z fun s=>have k:A7 (VI .i64) h [] ([]:List Int):=A7.nil; Mv z ?_)
 obtain ⟨p,m,d⟩:=G6.row c
 refine bE H fun q n H=>To (O.apX C9 C9 M9 z z z (j:=0) z (Src.fix m) m.wide (A7.ones VI.plain d) k d n z fun t u w=>have r:A7 (VI .i64) h ([] ++ p) q:=A7.ap k d n; Ag z<|Nt<|T.ret ?_)
 cases H
 exact T.rl z (Rv z) ⟨_,z,r⟩
theorem B0L {h a e f} (c:G6 F7 7 h a e) (H:A4M e = some f):∀ L,G8 prog 147 [a] h (L) (fun v h' L'=>∃ g,L' = D5 54 7 v g::L∧A7 F7 h' g f):=by
 intro L
 refine G8.enter func147 z z z<|Sr<|Ag z<|Nt<|Sq<|Sr<|Mv z<|Vv (V.C2z N9 z c)<|Nt<|T.cond (b:=B4B a) z (fun i=>?_) (fun i=>?_)
 ·have H:=B0K (G6.B4B c i) H
  refine Sr<|Ag z<|Nt<|T.ret<|Tr<|T.U9 54 7<|have o:A7 F7 h [] ([]:List C8):=A7.nil; ?_
  cases H
  exact T.rl z (Rv z) ⟨_,z,o⟩
 refine Ks<|Sr<|To (O.bs0 N9 z fun s=>have k:A7 F7 h [] ([]:List C8):=A7.nil; Mv z ?_)
 obtain ⟨p,m,d⟩:=G6.row c
 refine bE H fun q n H=>To (O.apX N9 N9 A3n z z z (j:=0) z (Src.fix m) m.wide (A7.ones F7.plain d) k d n z fun t u w=>have r:A7 F7 h ([] ++ p) q:=A7.ap k d n; Ag z<|Nt<|T.ret ?_)
 cases H
 exact T.rl z (Rv z) ⟨_,z,r⟩
theorem B0X {h a e f} (c:G6 F9 9 h a e) (H:A4K e = some f):∀ L,G8 prog 148 [a] h (L) (fun v h' L'=>∃ g,L' = D5 39 9 v g::L∧A7 F9 h' g f):=by
 intro L
 refine G8.enter func148 z z z<|Sr<|Ag z<|Nt<|Sq<|Sr<|Mv z<|Vv (V.C2z K8 z c)<|Nt<|T.cond (b:=B4B a) z (fun i=>?_) (fun i=>?_)
 ·have H:=B0K (G6.B4B c i) H
  refine Sr<|Ag z<|Nt<|T.ret<|Tr<|T.U9 39 9<|have o:A7 F9 h [] ([]:List D6):=A7.nil; ?_
  cases H
  exact T.rl z (Rv z) ⟨_,z,o⟩
 refine Ks<|Sr<|To (O.bs0 K8 z fun s=>have k:A7 F9 h [] ([]:List D6):=A7.nil; Mv z ?_)
 obtain ⟨p,m,d⟩:=G6.row c
 refine bE H fun q n H=>To (O.apX K8 K8 A1B z z z (j:=0) z (Src.fix m) m.wide (A7.ones F9.plain d) k d n z fun t u w=>have r:A7 F9 h ([] ++ p) q:=A7.ap k d n; Ag z<|Nt<|T.ret ?_)
 cases H
 exact T.rl z (Rv z) ⟨_,z,r⟩
theorem A3Z {h a e f} (c:G6 VS 1 h a e) (H:A1Y e = some f):∀ L,G8 prog 101 [a] h (L) (fun v h' L'=>∃ g,L' = D5 9 1 v g::L∧A7 VS h' g f):=by
 intro L
 refine G8.enter func101 z z z<|Sr<|Ag z<|Nt<|Sq<|Sr<|Mv z<|Vv (V.C2z A0a z c)<|Nt<|T.cond (b:=B4B a) z (fun i=>?_) (fun i=>?_)
 ·have H:=B0K (G6.B4B c i) H
  refine Sr<|Ag z<|Nt<|T.ret<|Tr<|T.U9 9 1<|have o:A7 VS h [] ([]:List ByteArray):=A7.nil; ?_
  cases H
  exact T.rl z (Rv z) ⟨_,z,o⟩
 refine Ks<|Sr<|To (O.bs0 A0a z fun s=>have k:A7 VS h [] ([]:List ByteArray):=A7.nil; Mv z ?_)
 obtain ⟨p,m,d⟩:=G6.row c
 refine bE H fun q n H=>To (O.apX A0a A0a B7X z z z (j:=0) z (Src.fix m) m.wide (A7.ones VS.plain d) k d n z fun t u w=>have r:A7 VS h ([] ++ p) q:=A7.ap k d n; Ag z<|Nt<|T.ret ?_)
 cases H
 exact T.rl z (Rv z) ⟨_,z,r⟩
theorem B3Y {h a e f} (c:G6 H7 3 h a e) (H:A7C e = some f):∀ L,G8 prog 149 [a] h (L) (fun v h' L'=>∃ g,L' = D5 106 3 v g::L∧A7 H7 h' g f):=by
 intro L
 refine G8.enter func149 z z z<|Sr<|Ag z<|Nt<|Sq<|Sr<|Mv z<|Vv (V.C2z X3 z c)<|Nt<|T.cond (b:=B4B a) z (fun i=>?_) (fun i=>?_)
 ·have H:=B0K (G6.B4B c i) H
  refine Sr<|Ag z<|Nt<|T.ret<|Tr<|T.U9 106 3<|have o:A7 H7 h [] ([]:List F5):=A7.nil; ?_
  cases H
  exact T.rl z (Rv z) ⟨_,z,o⟩
 refine Ks<|Sr<|To (O.bs0 X3 z fun s=>have k:A7 H7 h [] ([]:List F5):=A7.nil; Mv z ?_)
 obtain ⟨p,m,d⟩:=G6.row c
 refine bE H fun q n H=>To (O.apX X3 X3 A6c z z z (j:=0) z (Src.fix m) m.wide (A7.ones H7.plain d) k d n z fun t u w=>have r:A7 H7 h ([] ++ p) q:=A7.ap k d n; Ag z<|Nt<|T.ret ?_)
 cases H
 exact T.rl z (Rv z) ⟨_,z,r⟩
theorem B1H {h a e f} (c:G6 H5 6 h a e) (H:A5O e = some f):∀ L,G8 prog 150 [a] h (L) (fun v h' L'=>∃ g,L' = D5 42 6 v g::L∧A7 H5 h' g f):=by
 intro L
 refine G8.enter func150 z z z<|Sr<|Ag z<|Nt<|Sq<|Sr<|Mv z<|Vv (V.C2z Q5 z c)<|Nt<|T.cond (b:=B4B a) z (fun i=>?_) (fun i=>?_)
 ·have H:=B0K (G6.B4B c i) H
  refine Sr<|Ag z<|Nt<|T.ret<|Tr<|T.U9 42 6<|have o:A7 H5 h [] ([]:List F6):=A7.nil; ?_
  cases H
  exact T.rl z (Rv z) ⟨_,z,o⟩
 refine Ks<|Sr<|To (O.bs0 Q5 z fun s=>have k:A7 H5 h [] ([]:List F6):=A7.nil; Mv z ?_)
 obtain ⟨p,m,d⟩:=G6.row c
 refine bE H fun q n H=>To (O.apX Q5 Q5 A1x z z z (j:=0) z (Src.fix m) m.wide (A7.ones H5.plain d) k d n z fun t u w=>have r:A7 H5 h ([] ++ p) q:=A7.ap k d n; Ag z<|Nt<|T.ret ?_)
 cases H
 exact T.rl z (Rv z) ⟨_,z,r⟩
end Go.Proofs.X
open Go Go.Proofs Go.Proofs.Tryz Go.Sl Go.Dm
namespace Go.Proofs.X
theorem Q7 : A0X prog 144 = some (27,1,24):=by kernel_rfl
theorem E5 : X9 prog 27 = some (false,1):=by kernel_rfl
theorem C2n {h a b} (H:bits_Len64 a = some b):∀ L,G8 prog 267 [.int .u64 a] h (L) (fun v h' L'=>v = .int .i64 b∧L' = L):=by
 intro L
 exact G8.enter func267 z z z<|Sr<|Ag z<|Nt<|Sq<|Sr<|Mv z<|Vv (V.ge z z)<|Nt<|T.cH H z dead fun H=>Ks<|Sq<|Sr<|Mv z<|Vv (V.ge z z)<|Nt<|T.cH H z dead fun H=>Ks<|Sq<|Sr<|Mv z<|Vv (V.ge z z)<|Nt<|T.cH H z dead fun H=>Ks<|Sr<|Mv z<|Mv z<|bE H fun g c H=>Vv (V.A4v underlying324 underlying5 z c)<|bE H fun i d H=>Vv (V.C6l underlying9 z z d)<|bE H fun j e H=>Vv (V.A4v underlying5 underlying3 z e)<|bE H fun k f H=>Vv (V.J2 z z f)<|Ag z<|Nt<|T.ret<|E1 H
theorem B3S {h a b} (H:bits_Len a = some b):∀ L,G8 prog 203 [.int .u64 a] h (L) (fun v h' L'=>v = .int .i64 b∧L' = L):=by
 intro L
 refine G8.enter func203 z z z<|Sr<|Ag z<|Nt<|Sq<|Cf z<|Ks<|Sr<|Mv z<|bE H fun f c H=>To (O.D8 z (C2n c _) z fun g i j k d=>?_)
 obtain ⟨rfl,e⟩:=d
 exact J9 _ e<|Ag z<|Nt<|T.ret<|E1 H
theorem C3p {h a c i k m q_0} (f:A7 (VI .i64) h c i) (H:C2Q i k m = some q_0):∀ L,G8 prog 304 [a,.int .i64 k,.int .i64 m] h (D5 3 1 a c::L) (fun v h' L'=>∃ n,v = .tuple #[]∧L' = D5 3 1 a n::L∧A7 (VI .i64) h' n q_0):=by
 intro L
 refine G8.enter func304 z z z<|Sr<|Mv z<|bE H fun w x H=>Vv (V.J2 z z x)<|Ag z<|Nt<|T.A5G ?_
 obtain ⟨o,y,A⟩:=M5 H
 refine T.M7 (α:=Unit) [0] z (fun _u=>[]) (fun _u=>D5 3 1 a c::L) (fun _u hh=>o = ()) ?_ ?_
 ·have H:=y
  refine Bl<|T.M8 (α:=Nat×Int) [0,1,2] z (fun ⟨d,b⟩=>[(6,qi b)]) (fun ⟨d,b⟩=>D5 3 1 a c::L) (fun ⟨d,b⟩ hh=>iter (B6s i k m) d b = some o) (fun ⟨d,b⟩=>d) (FUEL,w) ⟨z,trivial⟩ z H ?_
  rintro ⟨d,b⟩ Z aa B
  obtain ⟨C,ab,rfl,H,p⟩:=I1 B
  refine T.norm [6,0,1,2] z<|T.fl ?_
  refine Sq<|Sr<|Mv z<|Mv z<|Vv (V.lt z z)<|Nt<|T.cH H z (fun H=>?_) fun H=>?_
  ·refine Ks<|Sq<|Bl<|Sr<|Mv z<|Ag z<|Nt<|T.A5G ?_
   obtain ⟨q,D,E⟩:=M5 H
   refine T.M7 (α:=Unit) [0,1,2,6] z (fun _u=>[]) (fun _u=>D5 3 1 a c::L) (fun _u hh=>q = ()) ?_ ?_
   ·have H:=D
    refine Bl<|T.M8 (α:=Nat) [0,1,2,6,7] z (fun e=>[]) (fun e=>D5 3 1 a c::L) (fun e hh=>iter (B7a i k b) e () = some q) (fun e=>e) FUEL trivial z H ?_
    rintro e ac ad G
    obtain ⟨ae,af,rfl,H,I⟩:=I1 G
    refine T.norm [0,1,2,6,7] z<|T.fl ?_
    refine Sq<|Sq<|T.O1 (t:=(.vs [0,1,2,3,4,5,6,7,8,9,10,11,12] (.alt 13 (.g (.v 14 .done)) .no))) 16 1 1 z z I4 (by kernel_rfl) ?_
    refine Tm z z<|Tm z z<|Tv z (V.gt z z)<|Tm z z<|T.bH 19 H z (fun H=>?_) fun H=>?_
    ·refine Tm z z<|Tm z z<|bE H fun ai r H=>?_
     obtain ⟨aj,J,rfl⟩:=A7.get f r
     refine Tv z (Val.XA fun _ _ _=>V.ixR C9 z z (j:=0) z (A7.bd f r))<|Tv z (Val.XA fun _ _ _=>V.ldR E8 z (j:=0) z J z)<|Tm z z<|Tm z z<|bE H fun ak K H=>Tv z (V.A1s z z K)<|bE H fun am s H=>?_
     obtain ⟨an,M,rfl⟩:=A7.get f s
     refine Tv z (Val.XA fun _ _ _=>V.ixR C9 z z (j:=0) z (A7.bd f s))<|Tv z (Val.XA fun _ _ _=>V.ldR E8 z (j:=0) z M z)<|bE H fun ao N H=>Tp z z (SX.two (XA.fr [0] Lr z) (XA.fr [0] Lr z)) (O.D8 z (C0E N _) z fun ap aq ar au P=>?_) T.O9
     obtain ⟨rfl,S⟩:=P
     refine J9 _ S<|T.O3 Li<|Tv z (V.R8 z z)<|T.R7 (SX.two (XA.fr [0] Lr z) (XA.fr [0] Lr z))<|Th<|T.cH H z dead fun H=>T.exit<|Te<|Te<|have H:=D9 H I; Be<|Th<|T.mt () H
    exact dead H
   rintro _ aw ax U
   have H:=J8 U E
   refine T.norm [0,1,2,6] z<|T.fl ?_
   refine Bn<|Th<|Rg<|Mv z<|bE H fun W X H=>Vv (V.J2 z z X)<|Ag z<|Nt<|T.ag (C,W) (F4 H p)
  refine T.exit<|Te<|Te<|have H:=D9 H p; Be<|Th<|T.mt () H
 rintro _ ay aA Y
 have H:=J8 Y A
 refine T.norm [0] z<|T.fl ?_
 cases H
 exact T.B2y results304 Li ⟨_,z,z,f.u⟩
theorem C3Q (n:Nat):∀ {h:PH} {pv0:Value} {pcs0:List (List Value)} {data1:List Int} (pr0:A7 (VI .i64) h pcs0 data1) {a3:Int} {b4:Int} {limit5:Int} {q_0:List Int} (H:C2K n data1 a3 b4 limit5 = some q_0) (L:List E9),G8 prog 222 [pv0,.int .i64 a3,.int .i64 b4,.int .i64 limit5] h (D5 3 1 pv0 pcs0::L) (fun v h' L'=>∃ ls0,v = .tuple #[]∧L' = D5 3 1 pv0 ls0::L∧A7 (VI .i64) h' ls0 q_0):=by
  induction n with
  | zero=>intros; rename_i H _; cases H
  | succ n self=>
    intro h pv0 pcs0 data1 pr0 a3 b4 limit5 q_0 H L
    refine G8.enter func222 z z z<|Sr<|Ag z<|Nt<|Sr<|Ag z<|Nt ?_
    obtain ⟨b,c,d⟩:=M5 H
    have H:=c
    refine Bl<|T.M8 (α:=Nat) [0,1,2] z (fun a=>[]) (fun a=>D5 3 1 pv0 pcs0::L) (fun a hh=>iter (B6x data1 a3 b4) a () = some b) (fun a=>a) FUEL trivial z H ?_
    rintro a o p e
    obtain ⟨q,r,rfl,H,f⟩:=I1 e
    refine T.norm [0,1,2] z<|T.fl ?_
    refine Bl<|Sr<|Mv z<|Mv z<|bE H fun s g H=>Vv (V.A1s z z g)<|Ag z<|Nt<|Sq<|Sr<|Mv z<|Vv (V.le z z)<|Nt<|T.cH H z (fun H=>?_) fun H=>?_
    ·refine Sr<|Mv z<|Mv z<|Mv z<|bE H fun t i H=>To (O.D8 z (C3p pr0.u i _) z fun w x y A j=>?_)
     obtain ⟨B,rfl,k,m⟩:=j
     refine J9 _ k<|Nt<|T.ret<|Tr<|Br<|Tr<|have H:=D9 H f; Br<|have H:=J8 H d; ?_
     cases H
     exact T.C5S results222 Li ⟨_,z,z,m⟩
    exact dead H
theorem B4T {h a b c q_0} (d:A7 (VI .i64) h b c) (H:B5Z c = some q_0):∀ L,G8 prog 137 [a] h (D5 3 1 a b::L) (fun v h' L'=>∃ e,v = .tuple #[]∧L' = D5 3 1 a e::L∧A7 (VI .i64) h' e q_0):=by
 intro L
 refine G8.enter func137 z z z<|Sr<|Mv z<|Vv (V.A2a C9 z (j:=0) z d.len)<|Ag z<|Nt<|Rg<|Mv z<|Mv z<|Mv z<|bE H fun q f H=>Vv (V.A4v underlying3 underlying264 z f)<|bE H fun r g H=>To (O.D8 z (B3S g _) z fun s t w x i=>?_)
 obtain ⟨rfl,k⟩:=i
 refine J9 _ k<|bE H fun y m H=>To (O.D8 z (C3Q _ d.u m _) z fun A B C D n=>?_)
 obtain ⟨E,rfl,o,p⟩:=n
 refine J9 _ o<|Ni ?_
 cases H
 exact T.B2y results137 Li ⟨_,z,z,p⟩
theorem B7H {h a c i k n o m q_0} (f:A7 (VSl (VI .i64) 1) h c i) (y:A9A h o m) (H:B4P i k n m = some q_0):∀ L,G8 prog 392 [a,.int .i64 k,.int .i64 n,o] h (D5 27 1 a c::L) (fun v h' L'=>∃ p,v = .tuple #[]∧L' = D5 27 1 a p::L∧A7 (VSl (VI .i64) 1) h' p q_0):=by
 intro L
 refine G8.enter func392 z z z<|Sr<|Mv z<|bE H fun A B H=>Vv (V.J2 z z B)<|Ag z<|Nt<|T.A5G ?_
 obtain ⟨q,C,D⟩:=M5 H
 refine T.M7 (α:=Unit) [0] z (fun _u=>[]) (fun _u=>D5 27 1 a c::L) (fun _u hh=>q = ()) ?_ ?_
 ·have H:=C
  refine Bl<|T.M8 (α:=Nat×Int) [0,1,2,3] z (fun ⟨d,b⟩=>[(8,qi b)]) (fun ⟨d,b⟩=>D5 27 1 a c::L) (fun ⟨d,b⟩ hh=>iter (B0Z i k n m) d b = some q) (fun ⟨d,b⟩=>d) (FUEL,A) ⟨z,trivial⟩ z H ?_
  rintro ⟨d,b⟩ aj ak E
  obtain ⟨G,am,rfl,H,r⟩:=I1 E
  refine T.norm [8,0,1,2,3] z<|T.fl ?_
  refine Sq<|Sr<|Mv z<|Mv z<|Vv (V.lt z z)<|Nt<|T.cH H z (fun H=>?_) fun H=>?_
  ·refine Ks<|Sq<|Bl<|Sr<|Mv z<|Ag z<|Nt<|T.A5G ?_
   obtain ⟨s,I,J⟩:=M5 H
   refine T.M7 (α:=Unit) [0,1,2,3,8] z (fun _u=>[]) (fun _u=>D5 27 1 a c::L) (fun _u hh=>s = ()) ?_ ?_
   ·have H:=I
    refine Bl<|T.M8 (α:=Nat) [0,1,2,3,8,9] z (fun e=>[]) (fun e=>D5 27 1 a c::L) (fun e hh=>iter (B0Q i k m b) e () = some s) (fun e=>e) FUEL trivial z H ?_
    rintro e K an M
    obtain ⟨ao,ap,rfl,H,N⟩:=I1 M
    refine T.norm [0,1,2,3,8,9] z<|T.fl ?_
    refine Sq<|Sq<|T.O1 (t:=(.vs [0,1,2,3,4,5,6,7,8,9,10,11,12,13] (.alt 14 (.g (.v 15 (.v 16 .done))) .no))) 18 1 1 z z I4 (by kernel_rfl) ?_
    refine Tm z z<|Tm z z<|Tv z (V.gt z z)<|Tm z z<|T.bH 21 H z (fun H=>?_) fun H=>?_
    ·refine Tm z z<|Tm z z<|Tm z z<|bE H fun aq w H=>?_
     obtain ⟨ar,P,⟨au,rfl,S⟩⟩:=A7.get f w
     refine Tv z (Val.XA fun _ _ _=>V.ixR Q7 z z (j:=0) z (A7.bd f w))<|Tv z (Val.XA fun _ _ _=>V.ldR E5 z (j:=0) z P z)<|Tm z z<|Tm z z<|bE H fun aw U H=>Tv z (V.A1s z z U)<|bE H fun ax x H=>?_
     obtain ⟨ay,W,⟨aA,rfl,X⟩⟩:=A7.get f x
     refine Tv z (Val.XA fun _ _ _=>V.ixR Q7 z z (j:=0) z (A7.bd f x))<|Tv z (Val.XA fun _ _ _=>V.ldR E5 z (j:=0) z W z)<|bE H fun aB Y H=>?_
     obtain ⟨aC,aD,aE,Z,aa⟩:=A9A.call (y.u (g:=K)) S.u X.u Y
     refine Tp z z (SX.two (XA.fr [0] Lr z) (XA.fr [0] Lr z)) (O.A1d z Z z (aa _) z fun aG aI aJ aK ab=>?_) T.O9
     obtain ⟨rfl,ac⟩:=ab
     refine J9 _ ac<|T.O3 Li<|Tv z (V.lt z z)<|Tv z (V.R8 z z)<|T.R7 (SX.two (XA.fr [0] Lr z) (XA.fr [0] Lr z))<|Th<|T.cH H z dead fun H=>T.exit<|Te<|Te<|have H:=D9 H N; Be<|Th<|T.mt () H
    exact dead H
   rintro _ aM aN ad
   have H:=J8 ad J
   refine T.norm [0,1,2,3,8] z<|T.fl ?_
   refine Bn<|Th<|Rg<|Mv z<|bE H fun ae af H=>Vv (V.J2 z z af)<|Ag z<|Nt<|T.ag (G,ae) (F4 H r)
  refine T.exit<|Te<|Te<|have H:=D9 H r; Be<|Th<|T.mt () H
 rintro _ aO aP ai
 have H:=J8 ai D
 refine T.norm [0] z<|T.fl ?_
 cases H
 exact T.B2y results392 Li ⟨_,z,z,f.u⟩
theorem B7Q (n:Nat):∀ {h:PH} {pv0:Value} {pcs0:List (List Value)} {data1:List (List Int)} (pr0:A7 (VSl (VI .i64) 1) h pcs0 data1) {a3:Int} {b4:Int} {limit5:Int} {pv4:Value} {cmp6:(List Int)→(List Int)→Option Int} (pr4:A9A h pv4 cmp6) {q_0:List (List Int)} (H:B4V n data1 a3 b4 limit5 cmp6 = some q_0) (L:List E9),G8 prog 379 [pv0,.int .i64 a3,.int .i64 b4,.int .i64 limit5,pv4] h (D5 27 1 pv0 pcs0::L) (fun v h' L'=>∃ ls0,v = .tuple #[]∧L' = D5 27 1 pv0 ls0::L∧A7 (VSl (VI .i64) 1) h' ls0 q_0):=by
  induction n with
  | zero=>intros; rename_i H _; cases H
  | succ n self=>
    intro h pv0 pcs0 data1 pr0 a3 b4 limit5 pv4 cmp6 pr4 q_0 H L
    refine G8.enter func379 z z z<|Sr<|Ag z<|Nt<|Sr<|Ag z<|Nt ?_
    obtain ⟨b,c,d⟩:=M5 H
    have H:=c
    refine Bl<|T.M8 (α:=Nat) [0,1,2,4] z (fun a=>[]) (fun a=>D5 27 1 pv0 pcs0::L) (fun a hh=>iter (B0N data1 a3 b4 cmp6) a () = some b) (fun a=>a) FUEL trivial z H ?_
    rintro a o p e
    obtain ⟨q,r,rfl,H,f⟩:=I1 e
    refine T.norm [0,1,2,4] z<|T.fl ?_
    refine Bl<|Sr<|Mv z<|Mv z<|bE H fun s g H=>Vv (V.A1s z z g)<|Ag z<|Nt<|Sq<|Sr<|Mv z<|Vv (V.le z z)<|Nt<|T.cH H z (fun H=>?_) fun H=>?_
    ·refine Sr<|Mv z<|Mv z<|Mv z<|Mv z<|bE H fun t i H=>To (O.D8 z (B7H pr0.u pr4.u i _) z fun w x y A j=>?_)
     obtain ⟨B,rfl,k,m⟩:=j
     refine J9 _ k<|Nt<|T.ret<|Tr<|Br<|Tr<|have H:=D9 H f; Br<|have H:=J8 H d; ?_
     cases H
     exact T.C5S results379 Li ⟨_,z,z,m⟩
    exact dead H
theorem B5B {h a b c d e q_0} (f:A7 (VSl (VI .i64) 1) h b c) (i:A9A h d e) (H:B1N c e = some q_0):∀ L,G8 prog 357 [a,d] h (D5 27 1 a b::L) (fun v h' L'=>∃ g,v = .tuple #[]∧L' = D5 27 1 a g::L∧A7 (VSl (VI .i64) 1) h' g q_0):=by
 intro L
 refine G8.enter func357 z z z<|Sr<|Mv z<|Vv (V.A2a Q7 z (j:=0) z f.len)<|Ag z<|Nt<|Rg<|Mv z<|Mv z<|Mv z<|bE H fun t k H=>Vv (V.A4v underlying3 underlying264 z k)<|bE H fun w m H=>To (O.D8 z (B3S m _) z fun x y A B n=>?_)
 obtain ⟨rfl,o⟩:=n
 refine J9 _ o<|Mv z<|bE H fun C p H=>To (O.D8 z (B7Q _ f.u i.u p _) z fun D E G I q=>?_)
 obtain ⟨J,rfl,r,s⟩:=q
 refine J9 _ r<|Ni ?_
 cases H
 exact T.B2y results357 Li ⟨_,z,z,s⟩
end Go.Proofs.X
open Go Go.Proofs Go.Proofs.Tryz Go.Sl Go.Dm
namespace Go.Proofs.X
theorem A3z : zer prog 27 = some (.slice none 0 0):=by kernel_rfl
theorem C1X {h a b c d} (H:bits_Mul64 a b = some (c,d)):∀ L,G8 prog 300 [.int .u64 a,.int .u64 b] h (L) (fun v h' L'=>v = .tuple #[.int .u64 c,.int .u64 d]∧L' = L):=by
 intro L
 exact G8.enter func300 z z z<|Sr<|Ag z<|Ag z<|Nt<|Sr<|Mv z<|bE H fun y e H=>Vv (V.C3u z z e)<|Ag z<|Nt<|Sr<|Mv z<|bE H fun A f H=>Vv (V.A5x z z f)<|Ag z<|Nt<|Sr<|Mv z<|bE H fun B g H=>Vv (V.C3u z z g)<|Ag z<|Nt<|Sr<|Mv z<|bE H fun C i H=>Vv (V.A5x z z i)<|Ag z<|Nt<|Sr<|Mv z<|Mv z<|bE H fun D j H=>Vv (V.C8Z z z j)<|Ag z<|Nt<|Sr<|Mv z<|Mv z<|bE H fun E k H=>Vv (V.C8Z z z k)<|Mv z<|bE H fun G m H=>Vv (V.A5x z z m)<|bE H fun I n H=>Vv (V.C9d z z n)<|Ag z<|Nt<|Sr<|Mv z<|bE H fun J o H=>Vv (V.C3u z z o)<|Ag z<|Nt<|Sr<|Mv z<|bE H fun K p H=>Vv (V.A5x z z p)<|Ag z<|Nt<|Sq<|T.norm [0,1,6,7,9,12,13] z<|Rg<|Mv z<|Mv z<|Mv z<|bE H fun M q H=>Vv (V.C8Z z z q)<|bE H fun N r H=>Vv (V.C9d z z r)<|Ag z<|Nt<|Sr<|Mv z<|Mv z<|bE H fun O s H=>Vv (V.C8Z z z s)<|Mv z<|bE H fun P t H=>Vv (V.C9d z z t)<|Mv z<|bE H fun S u H=>Vv (V.A5x z z u)<|bE H fun U w H=>Vv (V.C9d z z w)<|Ag z<|Nt<|Sr<|Mv z<|Mv z<|bE H fun W x H=>Vv (V.C8Z z z x)<|Ag z<|Nt<|T.ret<|E1 H
theorem C4Q {h a b c d} (H:bits_Mul a b = some (c,d)):∀ L,G8 prog 217 [.int .u64 a,.int .u64 b] h (L) (fun v h' L'=>v = .tuple #[.int .u64 c,.int .u64 d]∧L' = L):=by
 intro L
 refine G8.enter func217 z z z<|Sr<|Ag z<|Ag z<|Nt<|Sq<|Cf z<|Ks<|Sr<|Mv z<|Mv z<|bE H fun ⟨i,j⟩ e H=>To (O.D8 z (C1X e _) z fun k m n o f=>?_)
 obtain ⟨rfl,g⟩:=f
 exact J9 _ g<|Mv z<|Vv (V.ext z z)<|Vv (V.ext z z)<|Ag z<|Ag z<|Nt<|Sr<|Mv z<|Mv z<|Ag z<|Ag z<|Nt<|T.ret<|E1 H
theorem A6e {h w y A B} (C:G6 (VI .i64) 1 h w y) (H:B0C y A = some B):∀ L,G8 prog 129 [w,.int .i64 A] h (L) (fun v h' L'=>∃ D,L' = D5 3 1 v D::L∧A7 (VI .i64) h' D B):=by
 intro L
 refine G8.enter func129 z z z<|Sr<|Ag z<|Nt<|Sq<|Sr<|Mv z<|Vv (V.lt z z)<|Nt<|T.cH H z dead fun H=>Ks<|Sr<|Mv z<|Vv (V.P9 C9 z C)<|bE H fun aA X H=>Vv (V.A4v underlying3 underlying264 z X)<|Mv z<|bE H fun aB Y H=>Vv (V.A4v underlying3 underlying264 z Y)<|bE H fun ⟨aC,aD⟩ Z H=>To (O.D8 z (C4Q Z _) z fun aE p aG aI aa=>?_)
 obtain ⟨rfl,ab⟩:=aa
 refine J9 _ ab<|Mv z<|Vv (V.ext z z)<|Vv (V.ext z z)<|Ag z<|Ag z<|Nt<|Sq<|Sr<|Mv z<|Vv (V.gt z z)<|Mv z<|T.bH 23 H z dead fun H=>Mv z<|Vv (V.gt z z)<|Vv (V.R9 z z)<|Nt<|T.cH H z dead fun H=>Ks<|Sr<|Mv z<|bE H fun q ac H=>Vv (V.A4v underlying264 underlying3 z ac)<|bE H fun m E H=>To (O.mkX C9 M9 z z z z E z fun n aJ aK=>have r:A7 (VI .i64) p _ m:=A7.rep z E; Ag z<|Nt<|Sr<|Mv z<|Mv z ?_)
 obtain ⟨o,G,s⟩:=G6.row (C.u (g:=p))
 refine bE H fun ⟨I,ad⟩ J H=>?_
 have K:0 + m.length≤List.length (α:=List Value) (List.replicate q.toNat [qi 0]):=by rw [r.len]; omega
 refine To (O.copy C9 z z (j:=0) z (fun _ iv=>D1.D2R iv (j:=0) z r.len) K (C2q.fix G) G.wide (A7.ones VI.plain s) z<|T.int (D1Q s J).symm<|have ae:A7 (VI .i64) p (A2E (List.replicate q.toNat [qi 0]) 0 (List.take (min (List.length o) m.length) o)) I:=A7.cp r s K J; Ag z<|Nt<|Sq ?_)
 obtain ⟨M,af,ai⟩:=M5 H
 refine T.M7 (α:=(List Int)×(List (List Value))) [] z (fun ⟨f,k⟩=>[(7,n)]) (fun ⟨f,k⟩=>D5 3 1 n k::L) (fun ⟨f,k⟩ hh=>M = f∧A7 (VI .i64) hh k f) ?_ ?_
 ·have H:=af
  refine Bl<|T.M8 (α:=Nat×(List Int)×Int×(List (List Value))) [] z (fun ⟨e,d,a,b⟩=>[(7,n),(8,qi a)]) (fun ⟨e,d,a,b⟩=>D5 3 1 n b::L) (fun ⟨e,d,a,b⟩ hh=>iter B6V e (d,a) = some M∧A7 (VI .i64) hh b d) (fun ⟨e,d,a,b⟩=>e) (FUEL,I,ad,(A2E (List.replicate q.toNat [qi 0]) 0 (List.take (min (List.length o) m.length) o))) ⟨z,z,trivial⟩ z ⟨H,ae⟩ ?_
  rintro ⟨e,d,a,b⟩ aj aM ⟨ak,c⟩
  obtain ⟨am,aN,rfl,H,N⟩:=I1 ak
  refine T.norm [7,8] z<|T.fl ?_
  refine Sq<|Sr<|Mv z<|Mv z<|Vv (V.A2a C9 z (j:=0) z c.len)<|Vv (V.lt z z)<|Nt<|T.cH H z (fun H=>?_) fun H=>?_
  ·refine Ks<|Bl<|T.O1 (t:=(.vs [0,1,2] (.x 3 (.v 4 (.v 5 (.x 6 (.alt 7 (.g (.v 8 (.alt 9 .done .no))) .no))))))) 7 1 0 z z I4 (by kernel_rfl) ?_
   refine Tm z z<|Tm z z<|Tm z z<|bE H fun aO an H=>T.tx z z (Val.XA fun _ _ _=>V.C1S C9 z (j:=0) z c.len (.inr ⟨_,_,z,z⟩) (.inl ⟨z,z⟩) (A1I an)) z Calm.i<|Tm z z<|Tm z z<|bE H fun aP ao H=>T.tx z z (Val.XA fun _ _ _=>V.C1S C9 z (j:=0) z c.len (.inl ⟨z,z⟩) (.inr ⟨_,_,z,z⟩) (A1I ao)) z Calm.i<|bE H fun aS P H=>bE H fun aU ap H=>T.wide 0 z fun aq=>bE H fun ⟨S,aV⟩ U H=>have W:a.toNat + ((d.length:Int).toNat - a.toNat)≤List.length (α:=List Value) b:=C5x c.len P; Tp z z (SX.two (XA.fr [] Lr z) (XA.fr [0] Lr z)) (O.copy C9 z z (j:=0) z (fun _ iv=>D1.B8I iv (j:=0) z c.len (A1I P)) W (C2q.B8I (j:=0) z c.len (A1I ap)) (O4.take (O4.drop aq)) (A7.ones VI.plain (A7.part c (0:Int).toNat (a.toNat - (0:Int).toNat))) z ?_) T.O9
   refine T.int (D1Q (A7.part c (0:Int).toNat (a.toNat - (0:Int).toNat)) U).symm<|have ar:A7 (VI .i64) aj (A2E b a.toNat (List.take (min (List.length (List.take (a.toNat - (0:Int).toNat) (List.drop (0:Int).toNat b))) ((d.length:Int).toNat - a.toNat)) (List.take (a.toNat - (0:Int).toNat) (List.drop (0:Int).toNat b)))) S:=A7.cp c (A7.part c (0:Int).toNat (a.toNat - (0:Int).toNat)) W U; T.O3 Lr<|bE H fun au aw H=>Tv z (V.J2 z z aw)<|Ts z z (SX.one (XA.fr [] Lr z) z) (V.asg z) z ?_ T.O9
   refine T.R7 (SX.one (XA.fr [] Lr z) z)<|Bn<|Th<|T.ag (am,S,au,(A2E b a.toNat (List.take (min (List.length (List.take (a.toNat - (0:Int).toNat) (List.drop (0:Int).toNat b))) ((d.length:Int).toNat - a.toNat)) (List.take (a.toNat - (0:Int).toNat) (List.drop (0:Int).toNat b))))) ⟨(F4 H N),ar⟩
  refine T.exit<|Te<|Te<|have H:=D9 H N; Be<|Th<|T.mt (d,b) ⟨H,c⟩
 rintro ⟨f,k⟩ aW aX ⟨ax,ay⟩
 have H:=J8 ax ai
 refine T.norm [7] z<|T.fl ?_
 refine Sr<|Mv z<|Ag z<|Nt<|T.ret ?_
 cases H
 exact T.rl z (Rv z) ⟨_,z,ay⟩
theorem B0Y {h d e f g} (a:A7 (VI .i64) h e f) (H:B0c f = some g):∀ L,G8 prog 138 [d] h (D5 3 1 d e::L) (fun v h' L'=>∃ i,L' = D5 3 1 v i::L∧A7 (VI .i64) h' i g):=by
 intro L
 refine G8.enter func138 z z z<|Sr<|Ag z<|Nt<|Sq<|Sr<|Mv z<|Vv (V.A2a C9 z (j:=0) z a.len)<|Vv (V.lt z z)<|Nt<|T.cH H z (fun H=>?_) fun H=>?_
 ·refine Sr<|Mv z<|Ag z<|Nt<|T.ret<|Tr ?_
  cases H
  exact T.rl z (Rv z) ⟨_,z,a⟩
 refine Ks<|Sq<|Sr<|Ag z<|Nt ?_
 obtain ⟨k,p,q⟩:=M5 H
 refine T.M7 (α:=Unit) [0] z (fun _u=>[]) (fun _u=>D5 3 1 d e::L) (fun _u hh=>k = ()) ?_ ?_
 ·have H:=p
  refine Bl<|T.M8 (α:=Nat×Int) [0] z (fun ⟨b,c⟩=>[(3,qi c)]) (fun ⟨b,c⟩=>D5 3 1 d e::L) (fun ⟨b,c⟩ hh=>iter (B0U f) b c = some k) (fun ⟨b,c⟩=>b) (FUEL,(1:Int)) ⟨z,trivial⟩ z H ?_
  rintro ⟨b,c⟩ D E r
  obtain ⟨s,G,rfl,H,m⟩:=I1 r
  refine T.norm [3,0] z<|T.fl ?_
  refine Sq<|Sr<|Mv z<|Mv z<|Vv (V.A2a C9 z (j:=0) z a.len)<|Vv (V.lt z z)<|Nt<|T.cH H z (fun H=>?_) fun H=>?_
  ·refine Ks<|Sq<|Bl<|Sq<|T.O1 (t:=(.vs [0,1,2,3,4,5,6,7,8,9] .done)) 11 1 1 z z I4 (by kernel_rfl) ?_
   refine Tm z z<|Tm z z<|bE H fun I n H=>?_
   obtain ⟨J,w,rfl⟩:=A7.get a n
   refine Tv z (Val.XA fun _ _ _=>V.ixR C9 z z (j:=0) z (A7.bd a n))<|Tv z (Val.XA fun _ _ _=>V.ldR E8 z (j:=0) z w z)<|Tm z z<|Tm z z<|bE H fun K x H=>Tv z (V.A1s z z x)<|bE H fun M o H=>?_
   obtain ⟨N,y,rfl⟩:=A7.get a o
   refine Tv z (Val.XA fun _ _ _=>V.ixR C9 z z (j:=0) z (A7.bd a o))<|Tv z (Val.XA fun _ _ _=>V.ldR E8 z (j:=0) z y z)<|Tv z (V.eq z z)<|T.R7 (SX.two (XA.fr [0] Lr z) (XA.fr [0] Lr z))<|Th<|T.cH H z dead fun H=>T.skip<|Bn<|Th<|Rg<|Mv z<|bE H fun A B H=>Vv (V.J2 z z B)<|Ag z<|Nt<|T.ag (s,A) (F4 H m)
  refine T.exit<|Te<|Te<|have H:=D9 H m; Be<|Th<|T.mt () H
 rintro _ O P C
 have H:=J8 C q
 refine T.norm [0] z<|T.fl ?_
 refine Sr<|Mv z<|Ag z<|Nt<|T.ret ?_
 cases H
 exact T.rl z (Rv z) ⟨_,z,a.u⟩
theorem B2j {h f b c m i n} (a:A7 (VSl (VI .i64) 1) h b c) (A:B8O h m i) (H:A8T c i = some n):∀ L,G8 prog 359 [f,m] h (D5 27 1 f b::L) (fun v h' L'=>∃ o,L' = D5 27 1 v o::L∧A7 (VSl (VI .i64) 1) h' o n):=by
 intro L
 refine G8.enter func359 z z z<|Sr<|Ag z<|Nt<|Sq<|Sr<|Mv z<|Vv (V.A2a Q7 z (j:=0) z a.len)<|Vv (V.lt z z)<|Nt<|T.cH H z (fun H=>?_) fun H=>?_
 ·refine Sr<|Mv z<|Ag z<|Nt<|T.ret<|Tr ?_
  cases H
  exact T.rl z (Rv z) ⟨_,z,a⟩
 refine Ks<|Sq<|Sr<|Ag z<|Nt ?_
 obtain ⟨B,C,D⟩:=M5 H
 have H:=C
 refine Bl<|T.M8 (α:=Nat) [0,1,5] z (fun d=>[]) (fun d=>D5 27 1 f b::L) (fun d hh=>iter (A6k c i) d () = some B) (fun d=>d) FUEL trivial z H ?_
 rintro d E am G
 obtain ⟨an,ao,rfl,H,I⟩:=I1 G
 refine T.norm [0,1,5] z<|T.fl ?_
 refine Sq<|Sr<|Mv z<|Mv z<|Vv (V.A2a Q7 z (j:=0) z a.len)<|Vv (V.lt z z)<|Nt<|T.cH H z (fun H=>?_) fun H=>?_
 ·refine Ks<|Sq<|Bl<|Sq<|T.O1 (t:=(.vs [0,1,2,3,4,5,6,7,8,9] (.alt 10 .done .no))) 12 1 1 z z I4 (by kernel_rfl) ?_
  refine Tm z z<|Tm z z<|Tm z z<|bE H fun ap p H=>?_
  obtain ⟨aq,J,⟨ar,rfl,K⟩⟩:=A7.get a p
  refine Tv z (Val.XA fun _ _ _=>V.ixR Q7 z z (j:=0) z (A7.bd a p))<|Tv z (Val.XA fun _ _ _=>V.ldR E5 z (j:=0) z J z)<|Tm z z<|Tm z z<|bE H fun au M H=>Tv z (V.A1s z z M)<|bE H fun aw q H=>?_
  obtain ⟨ax,N,⟨ay,rfl,P⟩⟩:=A7.get a q
  refine Tv z (Val.XA fun _ _ _=>V.ixR Q7 z z (j:=0) z (A7.bd a q))<|Tv z (Val.XA fun _ _ _=>V.ldR E5 z (j:=0) z N z)<|bE H fun aA S H=>?_
  obtain ⟨aB,aC,aD,U,W⟩:=B8O.call (A.u (g:=E)) K.u P.u S
  refine Tp z z (SX.two (XA.fr [0] Lr z) (XA.fr [0] Lr z)) (O.A1d z U z (W _) z fun aE aG aI aJ X=>?_) T.O9
  obtain ⟨rfl,Y⟩:=X
  refine J9 _ Y<|T.R7 (SX.two (XA.fr [0] Li z) (XA.fr [0] Li z))<|Th<|T.cH H z (fun H=>?_) fun H=>?_
  ·refine Sr<|Mv z<|Mv z<|bE H fun aK Z H=>Vv (V.C1S Q7 z (j:=0) z a.len (.inr ⟨_,_,z,z⟩) (.inl ⟨z,z⟩) (A1I Z))<|Ag z<|Nt<|Sq<|Sr<|Ag z<|Nt ?_
   obtain ⟨r,aa,ab⟩:=M5 H
   refine T.M7 (α:=Unit) [0,5] z (fun _u=>[]) (fun _u=>D5 27 1 f b::L) (fun _u hh=>r = ()) ?_ ?_
   ·have H:=aa
    refine Bl<|T.M8 (α:=Nat) [0,5,6,7] z (fun e=>[]) (fun e=>D5 27 1 f b::L) (fun e hh=>iter (A6j c) e () = some r) (fun e=>e) FUEL trivial z H ?_
    rintro e aM aN ac
    obtain ⟨aO,aP,rfl,H,ad⟩:=I1 ac
    refine T.norm [0,5,6,7] z<|T.fl ?_
    refine Sq<|Sr<|Mv z<|Mv z<|Vv (V.D0B Q7 z (j:=0) z)<|Vv (V.lt z z)<|Nt<|T.cH H z dead fun H=>T.exit<|Te<|Te<|have H:=D9 H ad; Be<|Th<|T.mt () H
   rintro _ k aS ae
   have H:=J8 ae ab
   refine T.norm [0,5] z<|T.fl ?_
   refine Sr<|Mv z<|Mv z<|bE H fun aU af H=>Vv (V.C1S Q7 z (j:=0) z a.len (.inr ⟨_,_,z,z⟩) (.inl ⟨z,z⟩) (A1I af))<|bE H fun aV s H=>have w:=C5x a.len s; bE H fun ag ai H=>To (O.clear Q7 A3z z z z (j:=0) z (fun _ iv=>D1.B8I iv (j:=0) z a.len (A1I s)) w<|have x:A7 (VSl (VI .i64) 1) k (A2E b (1:Int).toNat (List.replicate ((c.length:Int).toNat - (1:Int).toNat) ([qs]:List Value))) ag:=A7.clr a.u (show (VSl (VI .i64) 1) k [qs] ([]:List Int) from ⟨(qs),z,G6.nil⟩) w ai; Nt<|Sr<|Mv z<|Mv z<|bE H fun aj y H=>To (O.slP Q7 z z (j:=0) z (A7.D1z x y) z fun aW=>have ak:A7 (VSl (VI .i64) 1) k (List.take (1:Int).toNat (A2E b (1:Int).toNat (List.replicate ((c.length:Int).toNat - (1:Int).toNat) ([qs]:List Value)))) aj:=A7.slp x y; Ag z<|Nt<|T.ret<|Br<|Tr<|Tr<|have H:=D9 H I; Br<|have H:=J8 H D; Tr ?_))
   cases H
   exact T.rl z (Rv z) ⟨_,z,ak⟩
  exact dead H
 exact dead H
theorem B4w {h c e f m i n q_0} (d:A7 VS h e f) (s:A9e h m i) (H:A4q f i = some (n,q_0)):∀ L,G8 prog 244 [c,m] h (D5 9 1 c e::L) (fun v h' L'=>∃ o,v = .int .i64 n∧L' = D5 9 1 c o::L∧A7 VS h' o q_0):=by
 intro L
 refine G8.enter func244 z z z<|Sr<|Ag z<|Nt<|Sq<|Sr<|Mv z<|Vv (V.A2a A0a z (j:=0) z d.len)<|Mv z<|Nt ?_
 obtain ⟨p,t,q⟩:=M5 H
 refine T.M7 (α:=Unit) [0] z (fun _u=>[]) (fun _u=>D5 9 1 c e::L) (fun _u hh=>p = (Sum.inl ())) ?_ ?_
 ·have H:=t
  refine Bl<|T.M8 (α:=Nat×Int) [0,1,7] z (fun ⟨a,b⟩=>[(8,qi b)]) (fun ⟨a,b⟩=>D5 9 1 c e::L) (fun ⟨a,b⟩ hh=>iter (A2L f i) a b = some p) (fun ⟨a,b⟩=>a) (FUEL,(0:Int)) ⟨z,trivial⟩ z H ?_
  rintro ⟨a,b⟩ w M x
  obtain ⟨y,N,rfl,H,k⟩:=I1 x
  refine T.norm [8,0,1,7] z<|T.fl ?_
  refine Sr<|Vv (V.lt z z)<|Nt<|Sq<|T.cH H z (fun H=>?_) fun H=>?_
  ·refine Ks<|Sq<|Bl<|Sr<|Mv z<|Ag z<|Nt<|Sr<|Mv z<|Mv z<|Mv z<|bE H fun P r H=>?_
   obtain ⟨S,A,rfl⟩:=A7.get d r
   refine Vv (V.ixR A0a z z (j:=0) z (A7.bd d r))<|Vv (V.ldR H9 z (j:=0) z A z)<|bE H fun U B H=>?_
   obtain ⟨W,X,Y,C,D⟩:=A9e.call (s.u (g:=w)) B
   refine To (O.A1d z C z (D _) z fun Z aa ab ac E=>?_)
   obtain ⟨rfl,G⟩:=E
   refine J9 _ G<|Nt<|T.cH H z (fun H=>?_) fun H=>?_
   ·refine Sr<|Mv z<|Ag z<|Nt<|T.ret<|Br<|Tr<|Tr<|have H:=D9 H k; Br<|Tr<|have H:=J8 H q; ?_
    cases H
    exact T.rl z (Rv z) ⟨_,z,z,d.u⟩
   refine T.skip<|Bn<|Th<|Rg<|bE H fun I J H=>Vv (V.J2 z z J)<|Mv z<|Nt<|T.ag (y,I) (F4 H k)
  refine T.exit<|Te<|Te<|have H:=D9 H k; Be<|Th<|T.mt () H
 rintro _ ad ae K
 have H:=J8 K q
 refine T.norm [0] z<|T.fl ?_
 refine Sr<|Ag z<|Nt<|T.ret ?_
 cases H
 exact T.rl z (Rv z) ⟨_,z,z,d.u⟩
theorem B4v {h k w x y q A} (U:A7 VS h w x) (B:A9e h y q) (H:A2T x q = some A):∀ L,G8 prog 178 [k,y] h (D5 9 1 k w::L) (fun v h' L'=>∃ C,L' = D5 9 1 v C::L∧A7 VS h' C A):=by
 intro L
 refine G8.enter func178 z z z<|Sr<|Ag z<|Nt<|Sr<|Mv z<|Mv z<|bE H fun ⟨W,X⟩ Y H=>To (O.D8 z (B4w U B Y _) z fun aM aN aO aP Z=>?_)
 obtain ⟨aa,rfl,ab,D⟩:=Z
 refine J9 _ ab<|Ag z<|Nt<|Sq<|Sr<|Mv z<|Vv (V.eq z z)<|Nt<|T.cH H z (fun H=>?_) fun H=>?_
 ·refine Sr<|Mv z<|Ag z<|Nt<|T.ret<|Tr ?_
  cases H
  exact T.rl z (Rv z) ⟨_,z,D⟩
 refine Ks<|Sq<|Sr<|Mv z<|bE H fun ac ad H=>Vv (V.J2 z z ad)<|Ag z<|Nt ?_
 obtain ⟨E,ae,af⟩:=M5 H
 refine T.M7 (α:=(List ByteArray)×Int×(List (List Value))) [] z (fun ⟨f,a,i⟩=>[(0,k),(5,qi a)]) (fun ⟨f,a,i⟩=>D5 9 1 k i::L) (fun ⟨f,a,i⟩ hh=>E = (f,a)∧A7 VS hh i f) ?_ ?_
 ·have H:=ae
  refine Bl<|T.M8 (α:=Nat×(List ByteArray)×Int×Int×(List (List Value))) [1] z (fun ⟨m,e,b,n,c⟩=>[(0,k),(5,qi b),(6,qi n)]) (fun ⟨m,e,b,n,c⟩=>D5 9 1 k c::L) (fun ⟨m,e,b,n,c⟩ hh=>iter (A2I q) m (e,b,n) = some E∧A7 VS hh c e) (fun ⟨m,e,b,n,c⟩=>m) (FUEL,X,W,ac,aa) ⟨z,z,z,trivial⟩ z ⟨H,D⟩ ?_
  rintro ⟨m,e,b,n,c⟩ ai aS ⟨aj,d⟩
  obtain ⟨G,aU,rfl,H,r⟩:=I1 aj
  refine T.norm [0,5,6,1] z<|T.fl ?_
  refine Sq<|Sr<|Mv z<|Mv z<|Vv (V.A2a A0a z (j:=0) z d.len)<|Vv (V.lt z z)<|Nt<|T.cH H z (fun H=>?_) fun H=>?_
  ·refine Ks<|Sq<|Bl<|Sr<|Mv z<|Mv z<|bE H fun o I H=>?_
   obtain ⟨aV,ak,rfl⟩:=A7.get d I
   refine Vv (V.ixR A0a z z (j:=0) z (A7.bd d I))<|Vv (V.ldR H9 z (j:=0) z ak z)<|Ag z<|Nt<|Sr<|Mv z<|Mv z<|bE H fun aW am H=>?_
   obtain ⟨aX,aY,aZ,an,ao⟩:=A9e.call (B.u (g:=ai)) am
   refine To (O.A1d z an z (ao _) z fun a0 J a1 a2 ap=>?_)
   obtain ⟨rfl,aq⟩:=ap
   refine J9 _ aq<|Vv (V.not z)<|Nt<|T.cH H z (fun H=>?_) fun H=>?_
   ·refine Sr<|Mv z<|Mv z<|Mv z<|bE H fun a3 s H=>?_
    obtain ⟨a4,a5,rfl⟩:=A7.get d s
    refine Vv (V.ixR A0a z z (j:=0) z (A7.bd d s))<|bE H fun K ar H=>To (O.stR H9 z z (j:=0) z (A7.bdN d s) z<|have au:A7 VS J (c.set b.toNat [.string o]) K:=A7.set d.u (show VS J [.string o] o from z) ar; Nt<|Rg<|Mv z<|bE H fun aw ax H=>Vv (V.J2 z z ax)<|Ag z<|Ni<|Bn<|Th<|Rg<|Mv z<|bE H fun ay aA H=>Vv (V.J2 z z aA)<|Ag z<|Nt<|T.ag (G,K,aw,ay,(c.set b.toNat [.string o])) ⟨(F4 H r),au⟩)
   refine T.skip<|Bn<|Th<|Rg<|Mv z<|bE H fun aB aC H=>Vv (V.J2 z z aC)<|Ag z<|Nt<|T.ag (G,e,b,aB,c) ⟨(F4 H r),d.u⟩
  refine T.exit<|Te<|Te<|have H:=D9 H r; Be<|Th<|T.mt (e,b,c) ⟨H,d⟩
 rintro ⟨f,a,i⟩ t a6 ⟨aD,p⟩
 have H:=J8 aD af
 refine T.norm [0,5] z<|T.fl ?_
 refine Sr<|Mv z<|Mv z<|bE H fun a7 aE H=>Vv (V.C1S A0a z (j:=0) z p.len (.inr ⟨_,_,z,z⟩) (.inl ⟨z,z⟩) (A1I aE))<|bE H fun a8 M H=>have N:=C5x p.len M; bE H fun aG aI H=>To (O.clear A0a B7X z z z (j:=0) z (fun _ iv=>D1.B8I iv (j:=0) z p.len (A1I M)) N<|have P:A7 VS t (A2E i a.toNat (List.replicate ((f.length:Int).toNat - a.toNat) ([.string qe]:List Value))) aG:=A7.clr p (show VS t [.string qe] qe from z) N aI; Nt<|Sr<|Mv z<|Mv z<|bE H fun aJ S H=>To (O.slP A0a z z (j:=0) z (A7.D1z P S) z fun a9=>have aK:A7 VS t (List.take a.toNat (A2E i a.toNat (List.replicate ((f.length:Int).toNat - a.toNat) ([.string qe]:List Value)))) aJ:=A7.slp P S; Ag z<|Nt<|T.ret ?_))
 cases H
 exact T.rl z (Rv z) ⟨_,z,aK⟩
end Go.Proofs.X
open Go Go.Proofs Go.Proofs.Tryz Go.Sl Go.Dm
namespace Go.Proofs.X
theorem A8Z : A4f prog 281 = some ([.string ⟨#[]⟩,.nilFunc,.nilFunc,.nilFunc,.nilFunc,.nilFunc],[(0,1),(1,1),(2,1),(3,1),(4,1),(5,1)]):=by kernel_rfl
theorem B4c : A4f prog 54 = some ([.string ⟨#[]⟩,.int .u8 (0),.int .i64 (0),.int .i64 (0),.slice none 0 0,.int .i64 (0),.int .i64 (0)],[(0,1),(1,1),(2,1),(3,1),(4,1),(5,1),(6,1)]):=by kernel_rfl
theorem A8U : A0q prog 281 = true:=by kernel_rfl
theorem B4f : A0q prog 54 = true:=by kernel_rfl
theorem A2c : A0X prog 364 = some (136,1,8):=by kernel_rfl
theorem C4e : N8 prog 281 1 = some 1:=by kernel_rfl
theorem C3q : N8 prog 281 2 = some 2:=by kernel_rfl
theorem C3V : N8 prog 281 3 = some 3:=by kernel_rfl
theorem C3J : N8 prog 281 4 = some 4:=by kernel_rfl
theorem A0K : N8 prog 54 0 = some 0:=by kernel_rfl
theorem A2r : N8 prog 54 1 = some 1:=by kernel_rfl
theorem A0l : N8 prog 54 2 = some 2:=by kernel_rfl
theorem A0V : N8 prog 54 3 = some 3:=by kernel_rfl
theorem X6 : N8 prog 54 4 = some 4:=by kernel_rfl
theorem A9I : N8 prog 54 5 = some 5:=by kernel_rfl
theorem A9f : N8 prog 54 6 = some 6:=by kernel_rfl
theorem B5z : X9 prog 135 = some (false,1):=by kernel_rfl
theorem A5m : X9 prog 136 = some (false,1):=by kernel_rfl
theorem B9W : X9 prog 278 = some (false,1):=by kernel_rfl
theorem A0E : X9 prog 281 = some (true,6):=by kernel_rfl
theorem A4u : X9 prog 52 = some (false,1):=by kernel_rfl
theorem C2C : X9 prog 66 = some (false,1):=by kernel_rfl
theorem C5Z : zer prog 135 = some (.nilFunc):=by kernel_rfl
theorem A3q : zer prog 136 = some (.nilFunc):=by kernel_rfl
theorem A6m : zer prog 281 = some (.agg #[.string ⟨#[]⟩,.nilFunc,.nilFunc,.nilFunc,.nilFunc,.nilFunc]):=by kernel_rfl
theorem C3l {h d f} (H:B4k d = some f):∀ L,G8 prog 301 [.string d] h (L) (fun v h' L'=>v = .bool f∧L' = L):=by
 intro L
 refine G8.enter func301 z z z<|Sr<|Ag z<|Nt<|Sq<|Sr<|Ag z<|Nt ?_
 obtain ⟨g,i,e⟩:=M5 H
 refine T.M7 (α:=Unit) [0] z (fun _u=>[]) (fun _u=>L) (fun _u hh=>g = (Sum.inl ())) ?_ ?_
 ·have H:=i
  refine Bl<|T.M8 (α:=Nat×Int) [0] z (fun ⟨a,b⟩=>[(3,qi b)]) (fun ⟨a,b⟩=>L) (fun ⟨a,b⟩ hh=>iter (A4l d) a b = some g) (fun ⟨a,b⟩=>a) (FUEL,(0:Int)) ⟨z,trivial⟩ z H ?_
  rintro ⟨a,b⟩ r s j
  obtain ⟨k,t,rfl,H,c⟩:=I1 j
  refine T.norm [3,0] z<|T.fl ?_
  refine Sq<|Sr<|Mv z<|Mv z<|Vv (V.B1f underlying9 z)<|Vv (V.lt z z)<|Nt<|T.cH H z (fun H=>?_) fun H=>?_
  ·refine Ks<|Sq<|Bl<|Sr<|Mv z<|Mv z<|bE H fun u m H=>Vv (V.C6l underlying9 z z m)<|Vv (V.lt z z)<|Mv z<|T.bH 14 H z (fun H=>?_) fun H=>?_
   ·exact Sk<|Sk<|Sk<|Sk<|Vv (V.R8 z z)<|Nt<|Ct z<|Sr<|Ag z<|Nt<|T.ret<|Br<|Tr<|Tr<|have H:=D9 H c; Br<|Tr<|have H:=J8 H e; E1 H
   refine Mv z<|Mv z<|bE H fun w n H=>Vv (V.C6l underlying9 z z n)<|Vv (V.gt z z)<|Vv (V.R9 z z)<|Nt<|T.cH H z (fun H=>?_) fun H=>?_
   ·exact Sr<|Ag z<|Nt<|T.ret<|Br<|Tr<|Tr<|have H:=D9 H c; Br<|Tr<|have H:=J8 H e; E1 H
   refine T.skip<|Bn<|Th<|Rg<|Mv z<|bE H fun o p H=>Vv (V.J2 z z p)<|Ag z<|Nt<|T.ag (k,o) (F4 H c)
  refine T.exit<|Te<|Te<|have H:=D9 H c; Be<|Th<|T.mt () H
 rintro _ x y q
 have H:=J8 q e
 refine T.norm [0] z<|T.fl ?_
 refine Sr<|Mv z<|Vv (V.B1f underlying9 z)<|Vv (V.ge z z)<|Mv z<|T.bH 23 H z (fun H=>?_) fun H=>?_
 ·exact Mv z<|Vv (V.B1f underlying9 z)<|Vv (V.le z z)<|Vv (V.R8 z z)<|Ag z<|Nt<|T.ret<|E1 H
 exact Sk<|Sk<|Sk<|Vv (V.R9 z z)<|Ag z<|Nt<|T.ret<|E1 H
theorem B3m {h a b c} (H:B0H a b = some c):∀ L,G8 prog 344 [.int .i64 a,.int .i64 b] h (L) (fun v h' L'=>v = .int .i64 c∧L' = L):=by
 intro L
 exact G8.enter func344 z z z<|Sr<|Ag z<|Nt<|Sr<|Mv z<|Mv z<|Vv (V.min2 z z)<|bE H fun e d H=>Vv (V.J2 z z d)<|Ag z<|Nt<|T.ret<|E1 H
theorem B5N {h a b c} (H:A3r a b = some c):∀ L,G8 prog 279 [.int .i64 a,.int .i64 b] h (L) (fun v h' L'=>v = .int .i64 c∧L' = L):=by
 intro L
 refine G8.enter func279 z z z<|Sr<|Ag z<|Nt<|Sq<|Sr<|Mv z<|Vv (V.lt z z)<|Mv z<|T.bH 7 H z (fun H=>?_) fun H=>?_
 ·exact Sk<|Sk<|Vv (V.R8 z z)<|Mv z<|Sk<|Sk<|Vv (V.R8 z z)<|Nt<|Ct z<|Sr<|Ag z<|Nt<|T.ret<|Tr<|E1 H
 refine Mv z<|Vv (V.gt z z)<|Vv (V.R9 z z)<|Mv z<|T.bH 11 H z (fun H=>?_) fun H=>?_
 ·exact Sk<|Sk<|Vv (V.R8 z z)<|Nt<|Ct z<|Sr<|Ag z<|Nt<|T.ret<|Tr<|E1 H
 refine Mv z<|Vv (V.ne z z)<|Vv (V.R9 z z)<|Nt<|T.cH H z (fun H=>?_) fun H=>?_
 ·exact Sr<|Ag z<|Nt<|T.ret<|Tr<|E1 H
 exact Ks<|Sr<|Mv z<|Ag z<|Nt<|T.ret<|E1 H
theorem B6A {h a b c} (H:A3Y a b = some c):∀ L,G8 prog 284 [.int .i64 a,.int .i64 b] h (L) (fun v h' L'=>v = .int .i64 c∧L' = L):=by
 intro L
 refine G8.enter func284 z z z<|Sr<|Ag z<|Nt<|Sq<|Sr<|Mv z<|Vv (V.lt z z)<|Mv z<|T.bH 7 H z (fun H=>?_) fun H=>?_
 ·exact Sk<|Sk<|Vv (V.R8 z z)<|Mv z<|Sk<|Sk<|Vv (V.R8 z z)<|Mv z<|Sk<|Sk<|Vv (V.R8 z z)<|Nt<|Ct z<|Sr<|Ag z<|Nt<|T.ret<|Tr<|E1 H
 refine Mv z<|Vv (V.gt z z)<|Vv (V.R9 z z)<|Mv z<|T.bH 11 H z (fun H=>?_) fun H=>?_
 ·exact Sk<|Sk<|Vv (V.R8 z z)<|Mv z<|Sk<|Sk<|Vv (V.R8 z z)<|Nt<|Ct z<|Sr<|Ag z<|Nt<|T.ret<|Tr<|E1 H
 refine Mv z<|Vv (V.lt z z)<|Vv (V.R9 z z)<|Mv z<|T.bH 15 H z (fun H=>?_) fun H=>?_
 ·exact Sk<|Sk<|Vv (V.R8 z z)<|Nt<|Ct z<|Sr<|Ag z<|Nt<|T.ret<|Tr<|E1 H
 refine Mv z<|Vv (V.gt z z)<|Vv (V.R9 z z)<|Nt<|T.cH H z (fun H=>?_) fun H=>?_
 ·exact Sr<|Ag z<|Nt<|T.ret<|Tr<|E1 H
 exact Ks<|Sr<|Mv z<|bE H fun f d H=>Vv (V.B1u z z d)<|Mv z<|bE H fun g e H=>Vv (V.J2 z z e)<|Ag z<|Nt<|T.ret<|E1 H
theorem B6w {h a b c} (H:A4b a b = some c):∀ L,G8 prog 289 [.int .i64 a,.int .i64 b] h (L) (fun v h' L'=>v = .int .i64 c∧L' = L):=by
 intro L
 refine G8.enter func289 z z z<|Sr<|Ag z<|Nt<|Sq<|Sr<|Mv z<|Vv (V.lt z z)<|Mv z<|T.bH 7 H z (fun H=>?_) fun H=>?_
 ·exact Sk<|Sk<|Vv (V.R8 z z)<|Mv z<|Sk<|Sk<|Vv (V.R8 z z)<|Mv z<|Sk<|Sk<|Vv (V.R8 z z)<|Nt<|Ct z<|Sr<|Ag z<|Nt<|T.ret<|Tr<|E1 H
 refine Mv z<|Vv (V.gt z z)<|Vv (V.R9 z z)<|Mv z<|T.bH 11 H z (fun H=>?_) fun H=>?_
 ·exact Sk<|Sk<|Vv (V.R8 z z)<|Mv z<|Sk<|Sk<|Vv (V.R8 z z)<|Nt<|Ct z<|Sr<|Ag z<|Nt<|T.ret<|Tr<|E1 H
 refine Mv z<|Vv (V.lt z z)<|Vv (V.R9 z z)<|Mv z<|T.bH 15 H z (fun H=>?_) fun H=>?_
 ·exact Sk<|Sk<|Vv (V.R8 z z)<|Nt<|Ct z<|Sr<|Ag z<|Nt<|T.ret<|Tr<|E1 H
 refine Mv z<|Vv (V.gt z z)<|Vv (V.R9 z z)<|Nt<|T.cH H z (fun H=>?_) fun H=>?_
 ·exact Sr<|Ag z<|Nt<|T.ret<|Tr<|E1 H
 exact Ks<|Sr<|Mv z<|Mv z<|bE H fun f d H=>Vv (V.B1u z z d)<|bE H fun g e H=>Vv (V.J2 z z e)<|Ag z<|Nt<|T.ret<|E1 H
theorem B7G {h a b c} (H:A4S a b = some c):∀ L,G8 prog 294 [.int .i64 a,.int .i64 b] h (L) (fun v h' L'=>v = .int .i64 c∧L' = L):=by
 intro L
 refine G8.enter func294 z z z<|Sr<|Ag z<|Nt<|Sq<|Sr<|Mv z<|Vv (V.lt z z)<|Mv z<|T.bH 7 H z (fun H=>?_) fun H=>?_
 ·exact Sk<|Sk<|Vv (V.R8 z z)<|Mv z<|Sk<|Sk<|Vv (V.R8 z z)<|Mv z<|Sk<|Sk<|Sk<|Vv (V.R8 z z)<|Nt<|Ct z<|Sr<|Ag z<|Nt<|T.ret<|Tr<|E1 H
 refine Mv z<|Vv (V.gt z z)<|Vv (V.R9 z z)<|Mv z<|T.bH 11 H z (fun H=>?_) fun H=>?_
 ·exact Sk<|Sk<|Vv (V.R8 z z)<|Mv z<|Sk<|Sk<|Sk<|Vv (V.R8 z z)<|Nt<|Ct z<|Sr<|Ag z<|Nt<|T.ret<|Tr<|E1 H
 refine Mv z<|Vv (V.lt z z)<|Vv (V.R9 z z)<|Mv z<|T.bH 15 H z (fun H=>?_) fun H=>?_
 ·exact Sk<|Sk<|Sk<|Vv (V.R8 z z)<|Nt<|Ct z<|Sr<|Ag z<|Nt<|T.ret<|Tr<|E1 H
 refine Mv z<|Mv z<|Vv (V.gt z z)<|Vv (V.R9 z z)<|Nt<|T.cH H z (fun H=>?_) fun H=>?_
 ·exact Sr<|Ag z<|Nt<|T.ret<|Tr<|E1 H
 exact Ks<|Sr<|Mv z<|Ag z<|Nt<|T.ret<|E1 H
theorem B4D {h a b c d e} (H:A2U a b c d = some e):∀ L,G8 prog 280 [.int .i64 a,.int .i64 b,.int .i64 c,.int .i64 d] h (L) (fun v h' L'=>v = .bool e∧L' = L):=by
 intro L
 refine G8.enter func280 z z z<|Sr<|Ag z<|Nt<|Sr<|Mv z<|Mv z<|bE H fun j f H=>Vv (V.A1s z z f)<|Vv (V.eq z z)<|Mv z<|T.bH 13 H z (fun H=>?_) fun H=>?_
 ·exact Sk<|Sk<|Sk<|Sk<|Sk<|Sk<|Vv (V.R8 z z)<|Ag z<|Nt<|T.ret<|E1 H
 exact Mv z<|Mv z<|bE H fun k g H=>Vv (V.A1s z z g)<|Mv z<|bE H fun m i H=>Vv (V.A1s z z i)<|Vv (V.eq z z)<|Vv (V.R9 z z)<|Ag z<|Nt<|T.ret<|E1 H
theorem B4y {h a b c d e} (H:A2R a b c d = some e):∀ L,G8 prog 281 [.int .i64 a,.int .i64 b,.int .i64 c,.int .i64 d] h (L) (fun v h' L'=>v = .bool e∧L' = L):=by
 intro L
 refine G8.enter func281 z z z<|Sr<|Ag z<|Nt<|Sr<|Mv z<|bE H fun j f H=>Vv (V.A1a z z f)<|Vv (V.eq z z)<|Mv z<|T.bH 12 H z (fun H=>?_) fun H=>?_
 ·exact Mv z<|Mv z<|bE H fun k g H=>Vv (V.A1s z z g)<|Mv z<|bE H fun m i H=>Vv (V.B2e z z i)<|Vv (V.eq z z)<|Vv (V.R8 z z)<|Ag z<|Nt<|T.ret<|E1 H
 exact Sk<|Sk<|Sk<|Sk<|Sk<|Sk<|Vv (V.R9 z z)<|Ag z<|Nt<|T.ret<|E1 H
theorem B5C {h e g f d i} (H:A3C e g f d = some i):∀ L,G8 prog 285 [.int .i64 e,.int .i64 g,.int .i64 f,.int .i64 d] h (L) (fun v h' L'=>v = .bool i∧L' = L):=by
 intro L
 refine G8.enter func285 z z z<|Sr<|Ag z<|Nt<|Sr<|Mv z<|Mv z<|bE H fun K j H=>To (O.D8 z (B3m j _) z fun M N P S k=>?_)
 obtain ⟨rfl,m⟩:=k
 refine J9 _ m<|Ag z<|Nt<|Sq<|Bl<|Sq ?_
 obtain ⟨n,o,p⟩:=M5 H
 refine T.M7 (α:=Bool) [0,1,2,3,9] z (fun a=>[(13,.bool a)]) (fun a=>L) (fun a hh=>n = a) ?_ ?_
 ·have H:=o
  refine Rg<|Mv z<|Vv (V.eq z z)<|Mv z<|T.bH 16 H z (fun H=>?_) fun H=>?_
  ·refine Mv z<|Mv z<|bE H fun U q H=>Vv (V.B1u z z q)<|bE H fun r s H=>Vv (V.J2 z z s)<|Vv (V.eq z z)<|Vv (V.R8 z z)<|Ag z<|Nt<|T.mt (decide (d = r)) (O5 H)
  refine Sk<|Sk<|Sk<|Sk<|Sk<|Vv (V.R9 z z)<|Ag z<|Nt<|T.mt false (O5 H)
 rintro a W X t
 have H:=J8 t p
 refine T.norm [13,0,1,2,3,9] z<|T.fl ?_
 refine T.cH H z (fun H=>?_) fun H=>?_
 ·refine Sq ?_
  obtain ⟨u,w,x⟩:=M5 H
  refine T.M7 (α:=Bool) [] z (fun b=>[(8,.bool b)]) (fun b=>L) (fun b hh=>u = b) ?_ ?_
  ·have H:=w
   refine Rg<|Mv z<|Vv (V.eq z z)<|Mv z<|T.bH 25 H z (fun H=>?_) fun H=>?_
   ·refine Sk<|Sk<|Sk<|Sk<|Vv (V.R8 z z)<|Ag z<|Nt<|T.mt true (O5 H)
   refine Mv z<|Mv z<|bE H fun y A H=>Vv (V.A1s z z A)<|Vv (V.eq z z)<|Vv (V.R9 z z)<|Ag z<|Nt<|T.mt (decide (f = y)) (O5 H)
  rintro b Y Z B
  have H:=J8 B x
  refine T.norm [8] z<|T.fl ?_
  exact T.ret<|Br<|Tr<|E1 H
 refine Sq ?_
 obtain ⟨C,D,E⟩:=M5 H
 refine T.M7 (α:=Bool) [0,2,3,9] z (fun c=>[(31,.bool c)]) (fun c=>L) (fun c hh=>C = c) ?_ ?_
 ·have H:=D
  refine Rg<|Mv z<|Vv (V.gt z z)<|Mv z<|T.bH 34 H z (fun H=>?_) fun H=>?_
  ·refine Mv z<|Mv z<|Vv (V.eq z z)<|Mv z<|T.bH 38 H z (fun H=>?_) fun H=>?_
   ·refine Sk<|Sk<|Sk<|Vv (V.R8 z z)<|Vv (V.R8 z z)<|Ag z<|Nt<|T.mt true (O5 H)
   refine Mv z<|Mv z<|Vv (V.eq z z)<|Vv (V.R9 z z)<|Vv (V.R8 z z)<|Ag z<|Nt<|T.mt (decide (d = e)) (O5 H)
  refine Sk<|Sk<|Sk<|Sk<|Sk<|Sk<|Sk<|Sk<|Vv (V.R9 z z)<|Ag z<|Nt<|T.mt false (O5 H)
 rintro c aa ab G
 have H:=J8 G E
 refine T.norm [31,0,2,3,9] z<|T.fl ?_
 refine T.cH H z (fun H=>?_) fun H=>?_
 ·exact Sr<|Mv z<|Mv z<|bE H fun ac I H=>Vv (V.A1s z z I)<|Vv (V.eq z z)<|Ag z<|Nt<|T.ret<|Br<|Tr<|E1 H
 refine T.skip<|Bn<|Th<|Sr<|Mv z<|Mv z<|bE H fun ad J H=>Vv (V.A1s z z J)<|Vv (V.eq z z)<|Mv z<|T.bH 52 H z (fun H=>?_) fun H=>?_
 ·refine Mv z<|Mv z<|Vv (V.lt z z)<|Mv z<|T.bH 56 H z (fun H=>?_) fun H=>?_
  ·exact Sk<|Sk<|Sk<|Vv (V.R8 z z)<|Vv (V.R8 z z)<|Ag z<|Nt<|T.ret<|E1 H
  exact Mv z<|Mv z<|Vv (V.ge z z)<|Vv (V.R9 z z)<|Vv (V.R8 z z)<|Ag z<|Nt<|T.ret<|E1 H
 exact Sk<|Sk<|Sk<|Sk<|Sk<|Sk<|Sk<|Sk<|Vv (V.R9 z z)<|Ag z<|Nt<|T.ret<|E1 H
theorem B6c {h c d e b f} (H:A3s c d e b = some f):∀ L,G8 prog 286 [.int .i64 c,.int .i64 d,.int .i64 e,.int .i64 b] h (L) (fun v h' L'=>v = .bool f∧L' = L):=by
 intro L
 refine G8.enter func286 z z z<|Sr<|Ag z<|Nt<|Sq<|Sq ?_
 obtain ⟨g,i,j⟩:=M5 H
 refine T.M7 (α:=Bool) [0,1,2,3] z (fun a=>[(17,.bool a)]) (fun a=>L) (fun a hh=>g = a) ?_ ?_
 ·have H:=i
  refine Rg<|Mv z<|Vv (V.eq z z)<|Mv z<|T.bH 11 H z (fun H=>?_) fun H=>?_
  ·refine Mv z<|Mv z<|bE H fun w k H=>Vv (V.B1u z z k)<|bE H fun m n H=>Vv (V.J2 z z n)<|Vv (V.eq z z)<|Vv (V.R8 z z)<|Nt<|T.mt (decide (b = m)) (O5 H)
  refine Sk<|Sk<|Sk<|Sk<|Sk<|Vv (V.R9 z z)<|Nt<|T.mt false (O5 H)
 rintro a x y o
 have H:=J8 o j
 refine T.norm [17,0,1,2,3] z<|T.fl ?_
 refine T.cH H z (fun H=>?_) fun H=>?_
 ·exact Sr<|Mv z<|Mv z<|Vv (V.eq z z)<|Ag z<|Nt<|T.ret<|Tr<|E1 H
 refine Ks<|Sr<|Mv z<|Mv z<|Vv (V.lt z z)<|Mv z<|T.bH 24 H z (fun H=>?_) fun H=>?_
 ·refine Mv z<|Mv z<|bE H fun A p H=>Vv (V.J2 z z p)<|Mv z<|Mv z<|bE H fun B q H=>To (O.D8 z (B3m q _) z fun C D E G r=>?_)
  obtain ⟨rfl,s⟩:=r
  exact J9 _ s<|Mv z<|bE H fun I t H=>Vv (V.J2 z z t)<|bE H fun J u H=>Vv (V.A1s z z u)<|Vv (V.eq z z)<|Vv (V.R8 z z)<|Ag z<|Nt<|T.ret<|E1 H
 exact Sk<|Sk<|Sk<|Sk<|Sk<|Sk<|Sk<|Sk<|Sk<|Sk<|Vv (V.R9 z z)<|Ag z<|Nt<|T.ret<|E1 H
theorem B5V {h a b c} (H:A3t a b = some c):∀ L,G8 prog 287 [.int .i64 a,.int .i64 b] h (L) (fun v h' L'=>v = .int .i64 c∧L' = L):=by
 intro L
 refine G8.enter func287 z z z<|Sr<|Ag z<|Nt<|Sq<|Sr<|Mv z<|Vv (V.gt z z)<|Nt<|T.cH H z (fun H=>?_) fun H=>?_
 ·exact Sr<|Mv z<|Ag z<|Nt<|T.ret<|Tr<|E1 H
 exact Ks<|Sr<|Mv z<|bE H fun e d H=>Vv (V.B2e z z d)<|Ag z<|Nt<|T.ret<|E1 H
theorem B5S {h a b c d e} (H:A3x a b c d = some e):∀ L,G8 prog 290 [.int .i64 a,.int .i64 b,.int .i64 c,.int .i64 d] h (L) (fun v h' L'=>v = .bool e∧L' = L):=by
 intro L
 exact G8.enter func290 z z z<|Sr<|Ag z<|Nt<|Sr<|Mv z<|Mv z<|bE H fun g f H=>Vv (V.A1s z z f)<|Vv (V.eq z z)<|Ag z<|Nt<|T.ret<|E1 H
theorem B5R {h a b c d e} (H:A3A a b c d = some e):∀ L,G8 prog 291 [.int .i64 a,.int .i64 b,.int .i64 c,.int .i64 d] h (L) (fun v h' L'=>v = .bool e∧L' = L):=by
 intro L
 refine G8.enter func291 z z z<|Sr<|Ag z<|Nt<|Sr<|Mv z<|Mv z<|Vv (V.lt z z)<|Mv z<|T.bH 12 H z (fun H=>?_) fun H=>?_
 ·exact Mv z<|Mv z<|bE H fun k f H=>Vv (V.J2 z z f)<|Mv z<|Mv z<|bE H fun m g H=>Vv (V.B1u z z g)<|bE H fun n i H=>Vv (V.J2 z z i)<|bE H fun o j H=>Vv (V.A1s z z j)<|Vv (V.eq z z)<|Vv (V.R8 z z)<|Ag z<|Nt<|T.ret<|E1 H
 exact Sk<|Sk<|Sk<|Sk<|Sk<|Sk<|Sk<|Sk<|Sk<|Vv (V.R9 z z)<|Ag z<|Nt<|T.ret<|E1 H
theorem B6P {h a b c d e} (H:A4c a b c d = some e):∀ L,G8 prog 295 [.int .i64 a,.int .i64 b,.int .i64 c,.int .i64 d] h (L) (fun v h' L'=>v = .bool e∧L' = L):=by
 intro L
 refine G8.enter func295 z z z<|Sr<|Ag z<|Nt<|Sr<|Mv z<|Mv z<|bE H fun i f H=>Vv (V.A1s z z f)<|Vv (V.eq z z)<|Mv z<|T.bH 13 H z (fun H=>?_) fun H=>?_
 ·refine Mv z<|Vv (V.eq z z)<|Mv z<|T.bH 16 H z (fun H=>?_) fun H=>?_
  ·exact Sk<|Sk<|Sk<|Sk<|Vv (V.R8 z z)<|Vv (V.R8 z z)<|Ag z<|Nt<|T.ret<|E1 H
  exact Mv z<|Mv z<|bE H fun j g H=>Vv (V.A1a z z g)<|Vv (V.ne z z)<|Vv (V.R9 z z)<|Vv (V.R8 z z)<|Ag z<|Nt<|T.ret<|E1 H
 exact Sk<|Sk<|Sk<|Sk<|Sk<|Sk<|Sk<|Sk<|Vv (V.R9 z z)<|Ag z<|Nt<|T.ret<|E1 H
theorem B1d {h a b} (H:A5p a = some b):∀ L,G8 prog 348 [.int .i64 a] h (L) (fun v h' L'=>v = .int .i64 b∧L' = L):=by
 intro L
 exact G8.enter func348 z z z<|Sr<|Ag z<|Nt<|Sr<|Mv z<|Ag z<|Nt<|T.ret<|E1 H
theorem C3S {h a b c} (H:B8d a b = some c):∀ L,G8 prog 282 [.int .i64 a,.int .i64 b] h (L) (fun v h' L'=>v = .int .i64 c∧L' = L):=by
 intro L
 exact G8.enter func282 z z z<|Sr<|Ag z<|Nt<|Sr<|Ag z<|Nt<|T.ret<|E1 H
theorem C4k {h a b c} (H:B4h a b = some c):∀ L,G8 prog 292 [.int .i64 a,.int .i64 b] h (L) (fun v h' L'=>v = .int .i64 c∧L' = L):=by
 intro L
 exact G8.enter func292 z z z<|Sr<|Ag z<|Nt<|Sr<|Mv z<|Mv z<|bE H fun f d H=>Vv (V.B2e z z d)<|bE H fun g e H=>Vv (V.J2 z z e)<|Ag z<|Nt<|T.ret<|E1 H
theorem C3O {h a b c d e} (H:B7w a b c d = some e):∀ L,G8 prog 296 [.int .i64 a,.int .i64 b,.int .i64 c,.int .i64 d] h (L) (fun v h' L'=>v = .bool e∧L' = L):=by
 intro L
 exact G8.enter func296 z z z<|Sr<|Ag z<|Nt<|Sr<|Ag z<|Nt<|T.ret<|E1 H
theorem C3b {h a b c} (H:B4q a b = some c):∀ L,G8 prog 297 [.int .i64 a,.int .i64 b] h (L) (fun v h' L'=>v = .int .i64 c∧L' = L):=by
 intro L
 exact G8.enter func297 z z z<|Sr<|Ag z<|Nt<|Sr<|Mv z<|bE H fun e d H=>Vv (V.B2e z z d)<|Ag z<|Nt<|T.ret<|E1 H
theorem B4G {h a b c d e f g i} (j:AtC h b c) (k:(VI .i64) h c d) (m:AtC h e f) (n:(VI .i64) h f g) (H:A6s a d g = some i):∀ L,G8 prog 342 [.int .i64 a,.pointer (some b),.pointer (some e)] h (L) (fun v h' L'=>v = .int .i64 i∧L' = L):=by
 intro L
 obtain rfl:=k
 obtain rfl:=n
 exact G8.enter func342 z z z<|Sr<|Ag z<|Nt<|Sr<|Mv z<|Vv (V.ld0 E8 z j z)<|bE H fun q o H=>Vv (V.J2 z z o)<|Vv (V.ld0 E8 z m z)<|bE H fun r p H=>Vv (V.A1a z z p)<|Ag z<|Nt<|T.ret<|E1 H
theorem B4C {h a b c d e f g i} (k:AtC h b c) (m:(VI .i64) h c d) (j:AtC h e f) (n:(VI .i64) h f g) (H:A6w a d g = some i):∀ L,G8 prog 343 [.int .i64 a,.pointer (some b),.pointer (some e)] h (L) (fun v h' L'=>v = .int .i64 i∧L' = L):=by
 intro L
 obtain rfl:=m
 obtain rfl:=n
 exact G8.enter func343 z z z<|Sr<|Ag z<|Nt<|Sr<|Vv (V.ld0 E8 z k z)<|Mv z<|bE H fun r o H=>Vv (V.A1s z z o)<|Vv (V.ld0 E8 z j z)<|bE H fun s p H=>Vv (V.J2 z z p)<|Vv (V.ld0 E8 z j z)<|bE H fun t q H=>Vv (V.A1a z z q)<|Ag z<|Nt<|T.ret<|E1 H
theorem B5G {h d t w} (H:A7L d t = some w):∀ L,G8 prog 283 [.int .i64 d,.int .i64 t] h (L) (fun v h' L'=>L' = L∧G6 A3h 1 h' v w):=by
 intro L
 refine G8.enter func283 z z z<|Sr<|To (O.Y0 z z z fun b I aj p=>Ag z<|Nt<|Sr<|Ag z<|Nt<|Sq<|Sr<|Vv (V.ld0 E8 z p z)<|Mv z<|Nt ?_)
 obtain ⟨x,J,K⟩:=M5 H
 refine T.M7 (α:=(List (Int→Option Int))×Value×(List (List Value))) [] z (fun ⟨m,n,o⟩=>[(5,n)]) (fun ⟨m,n,o⟩=>D5 136 1 n o::L) (fun ⟨m,n,o⟩ hh=>x = m∧A7 A3h hh o m) ?_ ?_
 ·have H:=J
  refine Bl<|T.U9 136 1<|have M:A7 A3h I [] ([]:List (Int→Option Int)):=A7.nil; T.M8 (α:=Nat×(List (Int→Option Int))×Int×Value×(List (List Value))) [2,7] z (fun ⟨k,g,a,i,f⟩=>[(5,i),(8,qi a)]) (fun ⟨k,g,a,i,f⟩=>D5 136 1 i f::L) (fun ⟨k,g,a,i,f⟩ hh=>iter (A8S d) k (g,a) = some x∧A7 A3h hh f g) (fun ⟨k,g,a,i,f⟩=>k) (FUEL,([]:List (Int→Option Int)),(0:Int),(qs),[]) ⟨z,z,trivial⟩ z ⟨H,M⟩ ?_
  rintro ⟨k,g,a,i,f⟩ ak am ⟨N,q⟩
  obtain ⟨P,an,rfl,H,y⟩:=I1 N
  refine T.norm [5,8,2,7] z<|T.fl ?_
  refine Sr<|Vv (V.lt z z)<|Nt<|Sq<|T.cH H z (fun H=>?_) fun H=>?_
  ·refine Ks<|Sq<|Bl<|Sr<|Mv z<|To (O.alloc M9 z z fun c=>To (O.stF (vs:=[qi a]) E8 z z (j:=0) z z z z<|T.freeze fun A ao S=>have B:=AtC.of S; Nt<|Rg<|Mv z<|Vv (V.mkf z z)<|Vv (V.mkf z z)<|To (O.bs A2c A3q z (e:=z) (hk:=z) (xs:=[.tmp 12,.tmp 13]) (hv:=CO.eq (CO.cons z (CO.cons z CO.nil))) (hw:=O4.of z) (hd:=z) fun aq=>have r:A7 A3h A [[.func (.func 342) #[] #[qp c,qp b]],[.func (.func 343) #[] #[qp c,qp b]]] ([(fun s=>A6s s a d),(fun s=>A6w s a d)]:List (Int→Option Int)):=(A7.cons ⟨(.func (.func 342) #[] #[qp c,qp b]),z,⟨⟨z,z⟩,.inr ⟨342,[],[qp c,qp b],z,fun C ar au aw U W=>B4G B.u (show (VI .i64) C [qi a] a from z) p.u (show (VI .i64) C [qi d] d from z) U W⟩⟩⟩ (A7.cons ⟨(.func (.func 343) #[] #[qp c,qp b]),z,⟨⟨z,z⟩,.inr ⟨343,[],[qp c,qp b],z,fun D ax ay aA X Y=>B4C B.u (show (VI .i64) D [qi a] a from z) p.u (show (VI .i64) D [qi d] d from z) X Y⟩⟩⟩ A7.nil)); bE H fun E G H=>To (O.apX A2c A2c A3q z z z (j:=1) z (Src.row (j:=0) z) (O4.of z) (A7.ones A3h.plain r) q.u r G z fun Z aB aC=>have aa:A7 A3h A (f ++ [[.func (.func 342) #[] #[qp c,qp b]],[.func (.func 343) #[] #[qp c,qp b]]]) E:=A7.ap q.u r G; G5 1 z<|T.drop<|Ag z<|Ni<|Bn<|Th<|Rg<|bE H fun ab ac H=>Vv (V.J2 z z ac)<|Mv z<|Nt<|T.ag (P,E,ab,Z,(f ++ [[.func (.func 342) #[] #[qp c,qp b]],[.func (.func 343) #[] #[qp c,qp b]]])) ⟨(F4 H y),aa⟩))))
  refine T.exit<|Te<|Te<|have H:=D9 H y; Be<|Th<|T.mt (g,i,f) ⟨H,q⟩
 rintro ⟨m,n,o⟩ aD aE ⟨ad,ae⟩
 have H:=J8 ad K
 refine T.norm [5] z<|T.fl ?_
 refine Sr<|Mv z<|Ag z<|Nt<|T.ret<|T.J5 fun aG aI af=>have ai:=A7.Z4 af ae.u; ?_
 cases H
 exact T.rl z (Rv z) ⟨z,ai⟩
theorem A3k {h c d e f g i j k} (a:AtC h d e) (m:(VI .i64) h e f) (b:AtC h g i) (n:(VI .i64) h i j) (H:T9 c f j = some k):∀ L,G8 prog 345 [.int .i64 c,.pointer (some d),.pointer (some g)] h (L) (fun v h' L'=>v = .bool k∧L' = L):=by
 intro L
 obtain rfl:=m
 obtain rfl:=n
 refine G8.enter func345 z z z<|Sr<|Ag z<|Nt<|Sr<|Vv (V.ld0 E8 z a z)<|Vv (V.gt z z)<|Mv z<|T.bH 7 H z (fun H=>?_) fun H=>?_
 ·refine Mv z<|Vv (V.ld0 E8 z b z)<|Vv (V.eq z z)<|Vv (V.R8 z z)<|Mv z<|T.bH 12 H z (fun H=>?_) fun H=>?_
  ·exact Sk<|Sk<|Sk<|Sk<|Sk<|Sk<|Sk<|Sk<|Sk<|Vv (V.R8 z z)<|Ag z<|Nt<|T.ret<|E1 H
  refine Vv (V.ld0 E8 z a z)<|Vv (V.eq z z)<|Mv z<|T.bH 15 H z (fun H=>?_) fun H=>?_
  ·exact Mv z<|Vv (V.ld0 E8 z b z)<|bE H fun s o H=>Vv (V.B1u z z o)<|bE H fun t p H=>Vv (V.J2 z z p)<|Vv (V.eq z z)<|Vv (V.R8 z z)<|Vv (V.R9 z z)<|Ag z<|Nt<|T.ret<|E1 H
  exact Sk<|Sk<|Sk<|Sk<|Sk<|Vv (V.R9 z z)<|Vv (V.R9 z z)<|Ag z<|Nt<|T.ret<|E1 H
 refine Sk<|Sk<|Sk<|Vv (V.R9 z z)<|Mv z<|Vv (V.ld0 E8 z a z)<|Vv (V.eq z z)<|Mv z<|T.bH 15 H z (fun H=>?_) fun H=>?_
 ·exact Mv z<|Vv (V.ld0 E8 z b z)<|bE H fun u q H=>Vv (V.B1u z z q)<|bE H fun w r H=>Vv (V.J2 z z r)<|Vv (V.eq z z)<|Vv (V.R8 z z)<|Vv (V.R9 z z)<|Ag z<|Nt<|T.ret<|E1 H
 exact Sk<|Sk<|Sk<|Sk<|Sk<|Vv (V.R9 z z)<|Vv (V.R9 z z)<|Ag z<|Nt<|T.ret<|E1 H
theorem A8I {h a b c d e f g i j k m} (n:AtC h b c) (o:C2H h c d) (p:AtC h e f) (q:(VI .i64) h f g) (r:AtC h i j) (s:(VI .i64) h j k) (H:A1F a d g k = some m):∀ L,G8 prog 346 [.int .i64 a,.pointer (some b),.pointer (some e),.pointer (some i)] h (L) (fun v h' L'=>v = .int .i64 m∧L' = L):=by
 intro L
 obtain ⟨G,rfl,t⟩:=o
 obtain rfl:=q
 obtain rfl:=s
 refine G8.enter func346 z z z<|Sr<|Ag z<|Nt<|Sq<|Sr<|Vv (V.ld0 B5z z n z)<|Mv z<|bE H fun I w H=>?_
 obtain ⟨J,K,M,x,y⟩:=A2q.call t w
 refine To (O.A1d z x z (y _) z fun N P S U A=>?_)
 obtain ⟨rfl,B⟩:=A
 refine J9 _ B<|Nt<|T.cH H z (fun H=>?_) fun H=>?_
 ·exact Sr<|Mv z<|Ag z<|Nt<|T.ret<|Tr<|E1 H
 exact Ks<|Sr<|Vv (V.ld0 E8 z p.u z)<|Vv (V.ld0 E8 z r.u z)<|bE H fun W C H=>Vv (V.J2 z z C)<|bE H fun X D H=>Vv (V.A1s z z D)<|Mv z<|bE H fun Y E H=>Vv (V.A1s z z E)<|Ag z<|Nt<|T.ret<|E1 H
theorem A8r {h b c d e f g i j k m n} (o:AtC h c d) (p:C2H h d e) (a:AtC h f g) (q:(VI .i64) h g i) (r:AtC h j k) (s:(VI .i64) h k m) (H:A2k b e i m = some n):∀ L,G8 prog 347 [.int .i64 b,.pointer (some c),.pointer (some f),.pointer (some j)] h (L) (fun v h' L'=>v = .int .i64 n∧L' = L):=by
 intro L
 obtain ⟨P,rfl,t⟩:=p
 obtain rfl:=q
 obtain rfl:=s
 refine G8.enter func347 z z z<|Sr<|Ag z<|Nt<|Sq<|Bl<|Sr<|Vv (V.ld0 B5z z o z)<|Mv z<|bE H fun S w H=>?_
 obtain ⟨U,W,X,x,y⟩:=A2q.call t w
 refine To (O.A1d z x z (y _) z fun Y Z aa ab A=>?_)
 obtain ⟨rfl,B⟩:=A
 refine J9 _ B<|Ag z<|Nt<|T.cH H z (fun H=>?_) fun H=>?_
 ·exact Sr<|Vv (V.ld0 E8 z a.u z)<|bE H fun ac C H=>Vv (V.B1u z z C)<|bE H fun ad D H=>Vv (V.J2 z z D)<|Mv z<|bE H fun ae E H=>Vv (V.A1s z z E)<|Ag z<|Nt<|T.ret<|Br<|Tr<|E1 H
 refine Sr<|Mv z<|Vv (V.ld0 E8 z a.u z)<|Vv (V.lt z z)<|Ag z<|Nt<|T.cH H z (fun H=>?_) fun H=>?_
 ·exact Sr<|Vv (V.ld0 E8 z a.u z)<|bE H fun af G H=>Vv (V.A1s z z G)<|Mv z<|bE H fun ag I H=>Vv (V.A1s z z I)<|Ag z<|Nt<|T.ret<|Br<|Tr<|E1 H
 exact T.skip<|Bn<|Th<|Sr<|Vv (V.ld0 E8 z r.u z)<|bE H fun ai J H=>Vv (V.B1u z z J)<|Vv (V.ld0 E8 z a.u z)<|bE H fun aj K H=>Vv (V.J2 z z K)<|bE H fun ak M H=>Vv (V.A1s z z M)<|Mv z<|bE H fun am N H=>Vv (V.A1s z z N)<|Ag z<|Nt<|T.ret<|E1 H
theorem B5H {h a b c d e f i j} (k:AtC h b c) (m:A3h h c d) (n:AtC h e f) (o:A3h h f i) (H:A7H a d i = some j):∀ L,G8 prog 349 [.int .i64 a,.pointer (some b),.pointer (some e)] h (L) (fun v h' L'=>v = .int .i64 j∧L' = L):=by
 intro L
 obtain ⟨I,rfl,p⟩:=m
 obtain ⟨J,rfl,q⟩:=o
 refine G8.enter func349 z z z<|Sr<|Ag z<|Nt<|Sq<|T.O1 (t:=(.vs [0,1,2] (.alt 3 (.alt 4 (.alt 5 .done .no) .no) .no))) 7 0 0 z z I4 (by kernel_rfl) ?_
 refine Tv z (V.ld0 A5m z k z)<|Tv z (V.ld0 A5m z n z)<|Tm z z<|bE H fun K r H=>?_
 obtain ⟨M,N,P,s,w⟩:=A7Q.call q r
 refine Tp z z (SX.two (XA.fr [] Lr z) (XA.fr [] Lr z)) (O.A1d z s z (w _) z fun S x U W y=>?_) T.O9
 obtain ⟨rfl,A⟩:=y
 refine J9 _ A<|bE H fun X B H=>?_
 obtain ⟨Y,Z,aa,C,D⟩:=A7Q.call (p.u (g:=x)) B
 refine Tp z z (SX.two (XA.fr [] Li z) (XA.fr [] Li z)) (O.A1d z C z (D _) z fun ab ac ad ae E=>?_) T.O9
 obtain ⟨rfl,G⟩:=E
 refine J9 _ G<|Ts z z (SX.two (XA.fr [] Li z) (XA.fr [] Li z)) (V.asg z) z ?_ T.O9
 exact T.R7 (SX.two (XA.fr [] Li z) (XA.fr [] Li z))<|Th<|T.ret<|E1 H
theorem B6U {h a d x} (H:A8s a d = some x):∀ L,G8 prog 288 [.int .i64 a,.int .i64 d] h (L) (fun v h' L'=>L' = L∧G6 A3h 1 h' v x):=by
 intro L
 refine G8.enter func288 z z z<|Sr<|To (O.Y0 z z z fun c aO aP m=>To (O.Y0 z z z fun k aS aU o=>Ag z<|Nt<|Sr<|Vv (V.ld0 E8 z m.u z)<|Vv (V.ld0 E8 z o z)<|bE H fun i P H=>To (O.D8 z (B3m P _) z fun aV aW aX aY S=>?_)))
 obtain ⟨rfl,U⟩:=S
 refine J9 _ U<|To (O.alloc M9 z z fun f=>To (O.stF (vs:=[qi i]) E8 z z (j:=0) z z z z<|T.freeze fun aZ a0 W=>have p:=AtC.of W; Nt<|Sr<|Vv (V.mkf z z)<|To (O.alloc C5Z z z fun g=>To (O.stF (vs:=[.func (.func 345) #[] #[qp k,qp c]]) B5z z z (j:=0) z z z z<|T.freeze fun a1 a2 X=>have q:=AtC.of X; Nt<|Sr<|Vv (V.mkf z z)<|To (O.alloc A3q z z fun r=>To (O.stF (vs:=[.func (.func 346) #[] #[qp g,qp f,qp c]]) A5m z z (j:=0) z z z z<|T.freeze fun a3 a4 Y=>have y:=AtC.of Y; Nt<|Sr<|Vv (V.mkf z z)<|To (O.alloc A3q z z fun s=>To (O.stF (vs:=[.func (.func 347) #[] #[qp g,qp c,qp f]]) A5m z z (j:=0) z z z z<|T.freeze fun n a5 Z=>have A:=AtC.of Z; Nt<|Sr<|Vv (V.ld0 A5m z y.u z)<|To (O.bs A2c A3q z (e:=z) (hk:=z) (xs:=[.func 348,.tmp 16]) (hv:=CO.eq (CO.cons z (CO.cons z CO.nil))) (hw:=O4.of z) (hd:=z) fun a6=>have t:A7 A3h n [[.func (.func 348) #[] #[]],[.func (.func 346) #[] #[qp g,qp f,qp c]]] ([A5p,(fun b=>A1F b (fun b=>T9 b d a) i a)]:List (Int→Option Int)):=(A7.cons ⟨(.func (.func 348) #[] #[]),z,⟨⟨z,z⟩,.inr ⟨348,[],[],z,fun a7 a8 a9 ah aa ab=>B1d aa ab⟩⟩⟩ (A7.cons ⟨(.func (.func 346) #[] #[qp g,qp f,qp c]),z,⟨⟨z,z⟩,.inr ⟨346,[],[qp g,qp f,qp c],z,fun B ac al av ad ae=>A8I q.u ⟨(.func (.func 345) #[] #[qp k,qp c]),z,(A2q.mono (show A2q n (.func (.func 345) #[] #[qp k,qp c]) (fun b=>T9 b d a) from ⟨⟨z,z⟩,.inr ⟨345,[],[qp k,qp c],z,fun C az ba bb af ag=>A3k o.u (show (VI .i64) C [qi d] d from z) m.u (show (VI .i64) C [qi a] a from z) af ag⟩⟩) ac)⟩ p.u (show (VI .i64) B [qi i] i from z) m.u (show (VI .i64) B [qi a] a from z) ad ae⟩⟩⟩ A7.nil)); Ag z<|Nt<|Sq<|Sr<|Vv (V.ld0 E8 z o.u z)<|Vv (V.ne z z)<|Nt<|T.cH H z (fun H=>?_) fun H=>?_)))))))))
 ·refine Rg<|Mv z<|Vv (V.ld0 A5m z A z)<|Vv (V.mkf z z)<|To (O.bs A2c A3q z (e:=z) (hk:=z) (xs:=[.tmp 21,.tmp 22]) (hv:=CO.eq (CO.cons z (CO.cons z CO.nil))) (hw:=O4.of z) (hd:=z) fun bc=>have w:A7 A3h n [[.func (.func 347) #[] #[qp g,qp c,qp f]],[.func (.func 349) #[] #[qp r,qp s]]] ([(fun b=>A2k b (fun b=>T9 b d a) a i),(fun b=>A7H b (fun b=>A1F b (fun b=>T9 b d a) i a) (fun b=>A2k b (fun b=>T9 b d a) a i))]:List (Int→Option Int)):=(A7.cons ⟨(.func (.func 347) #[] #[qp g,qp c,qp f]),z,⟨⟨z,z⟩,.inr ⟨347,[],[qp g,qp c,qp f],z,fun D ai bd be aj ak=>A8r q.u ⟨(.func (.func 345) #[] #[qp k,qp c]),z,(A2q.mono (show A2q n (.func (.func 345) #[] #[qp k,qp c]) (fun b=>T9 b d a) from ⟨⟨z,z⟩,.inr ⟨345,[],[qp k,qp c],z,fun E bf bg bi am an=>A3k o.u (show (VI .i64) E [qi d] d from z) m.u (show (VI .i64) E [qi a] a from z) am an⟩⟩) ai)⟩ m.u (show (VI .i64) D [qi a] a from z) p.u (show (VI .i64) D [qi i] i from z) aj ak⟩⟩⟩ (A7.cons ⟨(.func (.func 349) #[] #[qp r,qp s]),z,⟨⟨z,z⟩,.inr ⟨349,[],[qp r,qp s],z,fun bj G bk bm ao aq=>B5H y.u ⟨(.func (.func 346) #[] #[qp g,qp f,qp c]),z,(A7Q.mono (show A7Q n (.func (.func 346) #[] #[qp g,qp f,qp c]) (fun b=>A1F b (fun b=>T9 b d a) i a) from ⟨⟨z,z⟩,.inr ⟨346,[],[qp g,qp f,qp c],z,fun I ar bn bo au aw=>A8I q.u ⟨(.func (.func 345) #[] #[qp k,qp c]),z,(A2q.mono (show A2q n (.func (.func 345) #[] #[qp k,qp c]) (fun b=>T9 b d a) from ⟨⟨z,z⟩,.inr ⟨345,[],[qp k,qp c],z,fun J bp bq br ax ay=>A3k o.u (show (VI .i64) J [qi d] d from z) m.u (show (VI .i64) J [qi a] a from z) ax ay⟩⟩) ar)⟩ p.u (show (VI .i64) I [qi i] i from z) m.u (show (VI .i64) I [qi a] a from z) au aw⟩⟩) G)⟩ A.u ⟨(.func (.func 347) #[] #[qp g,qp c,qp f]),z,(A7Q.mono (show A7Q n (.func (.func 347) #[] #[qp g,qp c,qp f]) (fun b=>A2k b (fun b=>T9 b d a) a i) from ⟨⟨z,z⟩,.inr ⟨347,[],[qp g,qp c,qp f],z,fun K aA bt bu aB aC=>A8r q.u ⟨(.func (.func 345) #[] #[qp k,qp c]),z,(A2q.mono (show A2q n (.func (.func 345) #[] #[qp k,qp c]) (fun b=>T9 b d a) from ⟨⟨z,z⟩,.inr ⟨345,[],[qp k,qp c],z,fun M bw bx bA aD aE=>A3k o.u (show (VI .i64) M [qi d] d from z) m.u (show (VI .i64) M [qi a] a from z) aD aE⟩⟩) aA)⟩ m.u (show (VI .i64) K [qi a] a from z) p.u (show (VI .i64) K [qi i] i from z) aB aC⟩⟩) G)⟩ ao aq⟩⟩⟩ A7.nil)); bE H fun aG N H=>To (O.apX A2c A2c A3q z z z (j:=1) z (Src.row (j:=0) z) (O4.of z) (A7.ones A3h.plain w) t w N z fun bB bC bD=>have aI:A7 A3h n ([[.func (.func 348) #[] #[]],[.func (.func 346) #[] #[qp g,qp f,qp c]]] ++ [[.func (.func 347) #[] #[qp g,qp c,qp f]],[.func (.func 349) #[] #[qp r,qp s]]]) aG:=A7.ap t w N; G5 1 z<|T.drop<|Ag z<|Nt<|Sr<|Mv z<|Ag z<|Nt<|T.ret<|T.J5 fun bG bI aJ=>have aK:=A7.Z4 aJ aI.u; ?_))
  cases H
  exact T.rl z (Rv z) ⟨z,aK⟩
 refine Ks<|Sr<|Mv z<|Ag z<|Nt<|T.ret<|T.J5 fun bJ bK aM=>have aN:=A7.Z4 aM t.u; ?_
 cases H
 exact T.rl z (Rv z) ⟨z,aN⟩
theorem B5A {h a b c d e f g i} (j:AtC h b c) (k:(VI .i64) h c d) (m:AtC h e f) (n:(VI .i64) h f g) (H:A7G a d g = some i):∀ L,G8 prog 350 [.int .i64 a,.pointer (some b),.pointer (some e)] h (L) (fun v h' L'=>v = .int .i64 i∧L' = L):=by
 intro L
 obtain rfl:=k
 obtain rfl:=n
 exact G8.enter func350 z z z<|Sr<|Ag z<|Nt<|Sr<|Vv (V.ld0 E8 z j z)<|Vv (V.ld0 E8 z m z)<|bE H fun s o H=>Vv (V.B1u z z o)<|bE H fun t p H=>Vv (V.J2 z z p)<|bE H fun u q H=>Vv (V.A1s z z q)<|Mv z<|bE H fun w r H=>Vv (V.A1s z z r)<|Ag z<|Nt<|T.ret<|E1 H
theorem B7t {h a b f} (H:A8v a b = some f):∀ L,G8 prog 293 [.int .i64 a,.int .i64 b] h (L) (fun v h' L'=>L' = L∧G6 A3h 1 h' v f):=by
 intro L
 refine G8.enter func293 z z z<|Sr<|To (O.Y0 z z z fun c w x i=>To (O.Y0 z z z fun d j y k=>Ag z<|Nt<|Sr<|Vv (V.mkf z z)<|To (O.bs A2c A3q z (e:=z) (hk:=z) (xs:=[.func 348,.tmp 5]) (hv:=CO.eq (CO.cons z (CO.cons z CO.nil))) (hw:=O4.of z) (hd:=z) fun A=>have m:A7 A3h j [[.func (.func 348) #[] #[]],[.func (.func 350) #[] #[qp c,qp d]]] ([A5p,(fun n=>A7G n a b)]:List (Int→Option Int)):=(A7.cons ⟨(.func (.func 348) #[] #[]),z,⟨⟨z,z⟩,.inr ⟨348,[],[],z,fun B C D E o p=>B1d o p⟩⟩⟩ (A7.cons ⟨(.func (.func 350) #[] #[qp c,qp d]),z,⟨⟨z,z⟩,.inr ⟨350,[],[qp c,qp d],z,fun g G I J q r=>B5A i.u (show (VI .i64) g [qi a] a from z) k.u (show (VI .i64) g [qi b] b from z) q r⟩⟩⟩ A7.nil)); Ag z<|Nt<|T.ret<|T.J5 fun K M s=>have t:=A7.Z4 s m.u; ?_)))
 cases H
 exact T.rl z (Rv z) ⟨z,t⟩
theorem B6l {h a b c d e} (f:AtC h b c) (g:(VI .i64) h c d) (H:A8F a d = some e):∀ L,G8 prog 351 [.int .i64 a,.pointer (some b)] h (L) (fun v h' L'=>v = .int .i64 e∧L' = L):=by
 intro L
 obtain rfl:=g
 exact G8.enter func351 z z z<|Sr<|Ag z<|Nt<|Sr<|Vv (V.ld0 E8 z f z)<|bE H fun k i H=>Vv (V.A1s z z i)<|Mv z<|bE H fun m j H=>Vv (V.A1s z z j)<|Ag z<|Nt<|T.ret<|E1 H
theorem B7D {h a c d} (H:B0r a c = some d):∀ L,G8 prog 298 [.int .i64 a,.int .i64 c] h (L) (fun v h' L'=>L' = L∧G6 A3h 1 h' v d):=by
 intro L
 refine G8.enter func298 z z z<|Sr<|To (O.Y0 z z z fun b f s g=>Ag z<|Nt<|Sr<|Vv (V.mkf z z)<|To (O.bs A2c A3q z (e:=z) (hk:=z) (xs:=[.func 348,.tmp 5]) (hv:=CO.eq (CO.cons z (CO.cons z CO.nil))) (hw:=O4.of z) (hd:=z) fun t=>have i:A7 A3h f [[.func (.func 348) #[] #[]],[.func (.func 351) #[] #[qp b]]] ([A5p,(fun j=>A8F j a)]:List (Int→Option Int)):=(A7.cons ⟨(.func (.func 348) #[] #[]),z,⟨⟨z,z⟩,.inr ⟨348,[],[],z,fun w x y A k m=>B1d k m⟩⟩⟩ (A7.cons ⟨(.func (.func 351) #[] #[qp b]),z,⟨⟨z,z⟩,.inr ⟨351,[],[qp b],z,fun n B C D o p=>B6l g.u (show (VI .i64) n [qi a] a from z) o p⟩⟩⟩ A7.nil)); Ag z<|Nt<|T.ret<|T.J5 fun E G q=>have r:=A7.Z4 q i.u; ?_))
 cases H
 exact T.rl z (Rv z) ⟨z,r⟩
theorem A3b {h b a c} (H:A0n b = some (a,c)):∀ L,G8 prog 216 [.int .u8 b] h (L) (fun v h' L'=>∃ v0_1 v0_3 v0_5 v0_7 v0_9,v = .tuple #[.agg #[.string a.A7v,v0_1,v0_3,v0_5,v0_7,v0_9],.bool c]∧L' = L∧B3F h' v0_1 a.A0j∧A7x h' v0_3 a.A5i∧A7x h' v0_5 a.A5e∧B3F h' v0_7 a.B9n∧B0W h' v0_9 a.C5N):=by
 intro L
 refine G8.enter func216 z z z<|Sr<|To (O.alloc A6m z z fun ae=>Ag z<|Nt<|Sq<|Sr<|Mv z<|Nt<|Bl<|Sr<|Vv (V.eq z z)<|Ag z<|Nt<|T.cH H z (fun H=>?_) fun H=>?_)
 ·refine Sr<|Vv (V.bld (xs:=[(0,.const (.string ⟨#[114,111,117,110,100]⟩)),(1,.func 279),(2,.func 280),(3,.func 281),(4,.func 282),(5,.func 283)]) (cs:=[_,_,_,_,_,_]) A8Z A8U z (F3.cons z z z (F3.cons z z z (F3.cons z z z (F3.cons z z z (F3.cons z z z (F3.cons z z z F3.nil)))))))<|To (O.stF (vs:=[.string (⟨#[114,111,117,110,100]⟩:ByteArray),.func (.func 279) #[] #[],.func (.func 280) #[] #[],.func (.func 281) #[] #[],.func (.func 282) #[] #[],.func (.func 283) #[] #[]]) A0E z z (j:=0) z z z z<|Ag z<|Nt<|T.ret<|Br<|Tr ?_)
  cases H
  exact T.A4z (L':=L) results216 (RVs.cons (RV.cellS z (j:=0) z A0E) (Rv z)) Lr (fun _ iv=>iv.drop) ⟨_,_,_,_,_,z,z,⟨⟨z,z⟩,.inr ⟨279,[],[],z,fun af ag ai aj ak d e=>B5N d e⟩⟩,⟨⟨z,z⟩,.inr ⟨280,[],[],z,fun am an ao ap aq ar au f g=>B4D f g⟩⟩,⟨⟨z,z⟩,.inr ⟨281,[],[],z,fun aw ax ay aA aB aC aD i k=>B4y i k⟩⟩,⟨⟨z,z⟩,.inr ⟨282,[],[],z,fun aE aG aI aJ aK m n=>C3S m n⟩⟩,⟨⟨z,z⟩,.inr ⟨283,[],[],z,fun aM aN aO aP aS o p=>B5G o p⟩⟩⟩
 refine Sr<|Vv (V.eq z z)<|Ag z<|Nt<|T.cH H z (fun H=>?_) fun H=>?_
 ·refine Sr<|Vv (V.bld (xs:=[(0,.const (.string ⟨#[108,111,110,103]⟩)),(1,.func 284),(2,.func 285),(3,.func 286),(4,.func 287),(5,.func 288)]) (cs:=[_,_,_,_,_,_]) A8Z A8U z (F3.cons z z z (F3.cons z z z (F3.cons z z z (F3.cons z z z (F3.cons z z z (F3.cons z z z F3.nil)))))))<|To (O.stF (vs:=[.string (⟨#[108,111,110,103]⟩:ByteArray),.func (.func 284) #[] #[],.func (.func 285) #[] #[],.func (.func 286) #[] #[],.func (.func 287) #[] #[],.func (.func 288) #[] #[]]) A0E z z (j:=0) z z z z<|Ag z<|Nt<|T.ret<|Br<|Tr ?_)
  cases H
  exact T.A4z (L':=L) results216 (RVs.cons (RV.cellS z (j:=0) z A0E) (Rv z)) Lr (fun _ iv=>iv.drop) ⟨_,_,_,_,_,z,z,⟨⟨z,z⟩,.inr ⟨284,[],[],z,fun aU aV aW aX aY q r=>B6A q r⟩⟩,⟨⟨z,z⟩,.inr ⟨285,[],[],z,fun aZ a0 a1 a2 a3 a4 a5 s t=>B5C s t⟩⟩,⟨⟨z,z⟩,.inr ⟨286,[],[],z,fun a6 a7 a8 a9 ah al av u w=>B6c u w⟩⟩,⟨⟨z,z⟩,.inr ⟨287,[],[],z,fun az ba bb bc bd x y=>B5V x y⟩⟩,⟨⟨z,z⟩,.inr ⟨288,[],[],z,fun be bf bg bi bj A B=>B6U A B⟩⟩⟩
 refine Sr<|Vv (V.eq z z)<|Ag z<|Nt<|T.cH H z (fun H=>?_) fun H=>?_
 ·refine Sr<|Vv (V.bld (xs:=[(0,.const (.string ⟨#[104,111,114,115,101,115,104,111,101]⟩)),(1,.func 289),(2,.func 290),(3,.func 291),(4,.func 292),(5,.func 293)]) (cs:=[_,_,_,_,_,_]) A8Z A8U z (F3.cons z z z (F3.cons z z z (F3.cons z z z (F3.cons z z z (F3.cons z z z (F3.cons z z z F3.nil)))))))<|To (O.stF (vs:=[.string (⟨#[104,111,114,115,101,115,104,111,101]⟩:ByteArray),.func (.func 289) #[] #[],.func (.func 290) #[] #[],.func (.func 291) #[] #[],.func (.func 292) #[] #[],.func (.func 293) #[] #[]]) A0E z z (j:=0) z z z z<|Ag z<|Nt<|T.ret<|Br<|Tr ?_)
  cases H
  exact T.A4z (L':=L) results216 (RVs.cons (RV.cellS z (j:=0) z A0E) (Rv z)) Lr (fun _ iv=>iv.drop) ⟨_,_,_,_,_,z,z,⟨⟨z,z⟩,.inr ⟨289,[],[],z,fun bk bm bn bo bp C D=>B6w C D⟩⟩,⟨⟨z,z⟩,.inr ⟨290,[],[],z,fun bq br bs bt bu bw bx E G=>B5S E G⟩⟩,⟨⟨z,z⟩,.inr ⟨291,[],[],z,fun bA bB bC bD bE bG bI I J=>B5R I J⟩⟩,⟨⟨z,z⟩,.inr ⟨292,[],[],z,fun bJ bK bM bN bO K M=>C4k K M⟩⟩,⟨⟨z,z⟩,.inr ⟨293,[],[],z,fun bP bS bU bV bW N P=>B7t N P⟩⟩⟩
 refine Sr<|Vv (V.eq z z)<|Ag z<|Nt<|T.cH H z (fun H=>?_) fun H=>?_
 ·refine Sr<|Vv (V.bld (xs:=[(0,.const (.string ⟨#[114,111,119]⟩)),(1,.func 294),(2,.func 295),(3,.func 296),(4,.func 297),(5,.func 298)]) (cs:=[_,_,_,_,_,_]) A8Z A8U z (F3.cons z z z (F3.cons z z z (F3.cons z z z (F3.cons z z z (F3.cons z z z (F3.cons z z z F3.nil)))))))<|To (O.stF (vs:=[.string (⟨#[114,111,119]⟩:ByteArray),.func (.func 294) #[] #[],.func (.func 295) #[] #[],.func (.func 296) #[] #[],.func (.func 297) #[] #[],.func (.func 298) #[] #[]]) A0E z z (j:=0) z z z z<|Ag z<|Nt<|T.ret<|Br<|Tr ?_)
  cases H
  exact T.A4z (L':=L) results216 (RVs.cons (RV.cellS z (j:=0) z A0E) (Rv z)) Lr (fun _ iv=>iv.drop) ⟨_,_,_,_,_,z,z,⟨⟨z,z⟩,.inr ⟨294,[],[],z,fun bX bY bZ b0 b1 S U=>B7G S U⟩⟩,⟨⟨z,z⟩,.inr ⟨295,[],[],z,fun b2 b3 b4 b5 b6 b7 b8 W X=>B6P W X⟩⟩,⟨⟨z,z⟩,.inr ⟨296,[],[],z,fun b9 bh bl bv bz ca cb Y Z=>C3O Y Z⟩⟩,⟨⟨z,z⟩,.inr ⟨297,[],[],z,fun cc cd ce cf cg aa ab=>C3b aa ab⟩⟩,⟨⟨z,z⟩,.inr ⟨298,[],[],z,fun ci cj ck cm cn ac ad=>B7D ac ad⟩⟩⟩
 refine T.skip<|Bn<|Th<|Sr<|Vv (V.bld (xs:=[]) (cs:=[_,_,_,_,_,_]) A8Z A8U z F3.nil)<|To (O.stF (vs:=[.string qe,.nilFunc,.nilFunc,.nilFunc,.nilFunc,.nilFunc]) A0E z z (j:=0) z z z z<|Ag z<|Nt<|T.ret ?_)
 cases H
 exact T.A4z (L':=L) results216 (RVs.cons (RV.cellS z (j:=0) z A0E) (Rv z)) Lr (fun _ iv=>iv.drop) ⟨_,_,_,_,_,z,z,⟨⟨z,z⟩,.inl fun _ _=>z⟩,⟨⟨z,z⟩,.inl fun _ _ _ _=>z⟩,⟨⟨z,z⟩,.inl fun _ _ _ _=>z⟩,⟨⟨z,z⟩,.inl fun _ _=>z⟩,⟨⟨z,z⟩,.inl fun _ _=>z⟩⟩
theorem A2m {h b c d} (f:F7 h b c) (H:A3a c = some d):∀ L,G8 prog 128 [.agg b.toArray] h (L) (fun v h' L'=>v = .int .i64 d∧L' = L):=by
 intro L
 obtain ⟨M,rfl,N⟩:=f
 refine G8.enter func128 z z z<|Sr<|To (O.Y0 z z z fun P S U a=>Ag z<|Nt<|Sr<|Vv (V.fa A2r z)<|Vv (V.I9 (k:=1) A4u z a z)<|bE H fun ⟨i,W⟩ m H=>To (O.D8 z (A3b m _) z fun X Y Z aa n=>?_))
 obtain ⟨o,p,q,r,s,rfl,t,e,w,x,y,A⟩:=n
 refine J9 _ t<|Mv z<|Vv (V.ext z z)<|Vv (V.ext z z)<|To (O.alloc A6m z z fun ab=>To (O.stF (vs:=[.string i.A7v,o,p,q,r,s]) A0E z z (j:=0) z z (by (simp only [Sl.ones,e.1.1,w.1.1,x.1.1,y.1.1,A.1.1,Bool.and_true,Bool.true_and]) <;> rfl) z ?_))
 refine T.freeze fun B ac C=>have D:=AtC.of C; Ag z<|Nt<|Sq<|Sr<|Mv z<|Vv (V.not z)<|Nt<|T.cH H z (fun H=>?_) fun H=>?_
 ·exact Sr<|Ag z<|Nt<|T.ret<|Tr<|E1 H
 refine Ks<|Sr<|Vv (V.fa C4e z)<|Vv (V.I9 (k:=1) C2C z D z)<|Vv (V.fa A0l z)<|Vv (V.I9 (k:=2) E8 z a.u z)<|Vv (V.fa A0V z)<|Vv (V.I9 (k:=3) E8 z a.u z)<|bE H fun ad E H=>?_
 obtain ⟨ae,af,ag,G,I⟩:=B3F.call (e.u (g:=B)) E
 refine To (O.A1d z G z (I _) z fun ai aj ak am J=>?_)
 obtain ⟨rfl,K⟩:=J
 exact J9 _ K<|Ag z<|Nt<|T.ret<|E1 H
theorem A5M {h b c d e f} (m:F7 h b c) (H:A3O c d e = some f):∀ L,G8 prog 171 [.agg b.toArray,.int .i64 d,.int .i64 e] h (L) (fun v h' L'=>v = .bool f∧L' = L):=by
 intro L
 obtain ⟨P,rfl,S⟩:=m
 refine G8.enter func171 z z z<|Sr<|To (O.Y0 z z z fun U W X a=>Ag z<|Nt<|Sr<|Vv (V.fa A2r z)<|Vv (V.I9 (k:=1) A4u z a z)<|bE H fun ⟨n,Y⟩ o H=>To (O.D8 z (A3b o _) z fun Z aa ab ac p=>?_))
 obtain ⟨q,r,s,t,w,rfl,x,y,i,A,B,C⟩:=p
 refine J9 _ x<|Mv z<|Vv (V.ext z z)<|Vv (V.ext z z)<|To (O.alloc A6m z z fun ad=>To (O.stF (vs:=[.string n.A7v,q,r,s,t,w]) A0E z z (j:=0) z z (by (simp only [Sl.ones,y.1.1,i.1.1,A.1.1,B.1.1,C.1.1,Bool.and_true,Bool.true_and]) <;> rfl) z ?_))
 refine T.freeze fun D ae E=>have G:=AtC.of E; Ag z<|Nt<|Sr<|Mv z<|Mv z<|Vv (V.ne z z)<|Mv z<|T.bH 18 H z (fun H=>?_) fun H=>?_
 ·refine Vv (V.fa C3q z)<|Vv (V.I9 (k:=2) B9W z G z)<|Vv (V.fa A0l z)<|Vv (V.I9 (k:=2) E8 z a.u z)<|Vv (V.fa A0V z)<|Vv (V.I9 (k:=3) E8 z a.u z)<|Mv z<|Mv z<|Vv (V.min2 z z)<|Mv z<|Mv z<|Vv (V.max2 z z)<|bE H fun af I H=>?_
  obtain ⟨ag,ai,aj,J,K⟩:=A7x.call (i.u (g:=D)) I
  refine To (O.A1d z J z (K _) z fun ak am an ao M=>?_)
  obtain ⟨rfl,N⟩:=M
  exact J9 _ N<|Vv (V.R8 z z)<|Ag z<|Nt<|T.ret<|E1 H
 exact Sk<|Sk<|Sk<|Sk<|Sk<|Sk<|Sk<|Sk<|Sk<|Sk<|Sk<|Sk<|Sk<|Vv (V.R9 z z)<|Ag z<|Nt<|T.ret<|E1 H
theorem A5N {h b c d e f} (m:F7 h b c) (H:A4i c d e = some f):∀ L,G8 prog 172 [.agg b.toArray,.int .i64 d,.int .i64 e] h (L) (fun v h' L'=>v = .bool f∧L' = L):=by
 intro L
 obtain ⟨P,rfl,S⟩:=m
 refine G8.enter func172 z z z<|Sr<|To (O.Y0 z z z fun U W X a=>Ag z<|Nt<|Sr<|Vv (V.fa A2r z)<|Vv (V.I9 (k:=1) A4u z a z)<|bE H fun ⟨n,Y⟩ o H=>To (O.D8 z (A3b o _) z fun Z aa ab ac p=>?_))
 obtain ⟨q,r,s,t,w,rfl,x,y,A,i,B,C⟩:=p
 refine J9 _ x<|Mv z<|Vv (V.ext z z)<|Vv (V.ext z z)<|To (O.alloc A6m z z fun ad=>To (O.stF (vs:=[.string n.A7v,q,r,s,t,w]) A0E z z (j:=0) z z (by (simp only [Sl.ones,y.1.1,A.1.1,i.1.1,B.1.1,C.1.1,Bool.and_true,Bool.true_and]) <;> rfl) z ?_))
 refine T.freeze fun D ae E=>have G:=AtC.of E; Ag z<|Nt<|Sr<|Mv z<|Mv z<|Vv (V.ne z z)<|Mv z<|T.bH 18 H z (fun H=>?_) fun H=>?_
 ·refine Vv (V.fa C3V z)<|Vv (V.I9 (k:=3) B9W z G z)<|Vv (V.fa A0l z)<|Vv (V.I9 (k:=2) E8 z a.u z)<|Vv (V.fa A0V z)<|Vv (V.I9 (k:=3) E8 z a.u z)<|Mv z<|Mv z<|Vv (V.min2 z z)<|Mv z<|Mv z<|Vv (V.max2 z z)<|bE H fun af I H=>?_
  obtain ⟨ag,ai,aj,J,K⟩:=A7x.call (i.u (g:=D)) I
  refine To (O.A1d z J z (K _) z fun ak am an ao M=>?_)
  obtain ⟨rfl,N⟩:=M
  exact J9 _ N<|Vv (V.R8 z z)<|Ag z<|Nt<|T.ret<|E1 H
 exact Sk<|Sk<|Sk<|Sk<|Sk<|Sk<|Sk<|Sk<|Sk<|Sk<|Sk<|Sk<|Sk<|Vv (V.R9 z z)<|Ag z<|Nt<|T.ret<|E1 H
theorem C4j {h a b c d e} (j:F7 h a b) (H:B4n b c d = some e):∀ L,G8 prog 314 [.agg a.toArray,.int .i64 c,.int .i64 d] h (L) (fun v h' L'=>v = .bool e∧L' = L):=by
 intro L
 obtain ⟨f,rfl,g⟩:=j
 refine G8.enter func314 z z z<|Sr<|To (O.Y0 z z z fun r s t i=>Ag z<|Nt<|Sr<|Vv (V.ldS z i (by exact L9)) ?_)
 refine Mv z<|Mv z<|bE H fun w k H=>To (O.D8 z (A5M ⟨f,z,g.u⟩ k _) z fun x y A B m=>?_)
 obtain ⟨rfl,n⟩:=m
 refine J9 _ n<|Mv z<|T.bH 11 H z (fun H=>?_) fun H=>?_
 ·exact Sk<|Sk<|Sk<|Sk<|Vv (V.R8 z z)<|Ag z<|Nt<|T.ret<|E1 H
 refine Vv (V.ldS z i.u (by exact L9)) ?_
 refine Mv z<|Mv z<|bE H fun C o H=>To (O.D8 z (A5N ⟨f,z,g.u⟩ o _) z fun D E G I p=>?_)
 obtain ⟨rfl,q⟩:=p
 exact J9 _ q<|Vv (V.R9 z z)<|Ag z<|Nt<|T.ret<|E1 H
theorem C1m {h aj U s ak} (aV:F7 h aj U) (H:B1h U s = some ak):∀ L,G8 prog 240 [.agg aj.toArray,.int .i64 s] h (L) (fun v h' L'=>∃ am,L' = D5 3 1 v am::L∧A7 (VI .i64) h' am ak):=by
 intro L
 obtain ⟨an,rfl,ao⟩:=aV
 refine G8.enter func240 z z z<|Sr<|To (O.Y0 z z z fun bX bY bZ aq=>Ag z<|Nt<|Sr<|Vv (V.ldS z aq (by exact L9)) ?_)
 refine bE H fun aW aX H=>To (O.D8 z (A2m ⟨an,z,ao.u⟩ aX _) z fun b0 aY b2 b3 aZ=>?_)
 obtain ⟨rfl,a0⟩:=aZ
 refine J9 _ a0<|bE H fun Z ar H=>To (O.mkX C9 M9 z z z z ar z fun a b4 b5=>have au:A7 (VI .i64) aY _ Z:=A7.rep z ar; Ag z<|Nt<|Sq<|Sr<|Mv z<|Vv (V.A2a C9 z (j:=0) z au.len)<|Mv z<|Nt ?_)
 obtain ⟨aw,a1,a2⟩:=M5 H
 refine T.M7 (α:=(List Int)×(List (List Value))) [1,2] z (fun ⟨J,q⟩=>[(5,a)]) (fun ⟨J,q⟩=>D5 3 1 a q::L) (fun ⟨J,q⟩ hh=>aw = J∧A7 (VI .i64) hh q J) ?_ ?_
 ·have H:=a1
  refine Bl<|T.M8 (α:=Nat×Int×(List Int)×(List (List Value))) [1,2,15] z (fun ⟨t,k,r,f⟩=>[(16,qi k),(5,a)]) (fun ⟨t,k,r,f⟩=>D5 3 1 a f::L) (fun ⟨t,k,r,f⟩ hh=>iter (A3D Z) t (k,r) = some aw∧A7 (VI .i64) hh f r) (fun ⟨t,k,r,f⟩=>t) (FUEL,(0:Int),Z,(List.replicate aW.toNat [qi 0])) ⟨z,z,trivial⟩ z ⟨H,au⟩ ?_
  rintro ⟨t,k,r,f⟩ ax b6 ⟨a3,K⟩
  obtain ⟨a4,b7,rfl,H,ay⟩:=I1 a3
  refine T.norm [16,5,1,2,15] z<|T.fl ?_
  refine Sr<|Vv (V.lt z z)<|Nt<|Sq<|T.cH H z (fun H=>?_) fun H=>?_
  ·refine Ks<|Sq<|Bl<|Sr<|Mv z<|Ag z<|Nt<|Rg<|Mv z<|Mv z<|bE H fun b8 aa H=>?_
   obtain ⟨b9,bh,rfl⟩:=A7.get K aa
   refine Vv (V.ixR C9 z z (j:=0) z (A7.bd K aa))<|bE H fun aA a5 H=>To (O.stR E8 z z (j:=0) z (A7.bdN K aa) z<|have a6:A7 (VI .i64) ax (f.set k.toNat [qi (-1)]) aA:=A7.set K (show (VI .i64) ax [qi (-1)] (-1:Int) from z) a5; Ni<|Bn<|Th<|Rg<|bE H fun a7 a8 H=>Vv (V.J2 z z a8)<|Mv z<|Nt<|T.ag (a4,a7,aA,(f.set k.toNat [qi (-1)])) ⟨(F4 H ay),a6⟩)
  refine T.exit<|Te<|Te<|have H:=D9 H ay; Be<|Th<|T.mt (r,f) ⟨H,K⟩
 rintro ⟨J,q⟩ aB bl ⟨a9,W⟩
 have H:=J8 a9 a2
 refine T.norm [5,1,2] z<|T.fl ?_
 refine Sr<|Mv z<|Mv z<|bE H fun bv ab H=>?_
 obtain ⟨bz,ca,rfl⟩:=A7.get W ab
 refine Vv (V.ixR C9 z z (j:=0) z (A7.bd W ab))<|bE H fun aC ah H=>To (O.stR E8 z z (j:=0) z (A7.bdN W ab) z<|have al:A7 (VI .i64) aB (q.set s.toNat [qi 0]) aC:=A7.set W (show (VI .i64) aB [qi 0] (0:Int) from z) ah; Nt<|Sr<|Mv z<|To (O.b1 (E:=VI .i64) C9 M9 z z z z z fun av az=>Ag z<|Nt<|Sq ?_))
 obtain ⟨aD,ba,bb⟩:=M5 H
 refine T.M7 (α:=(List Int)×(List (List Value))) [] z (fun ⟨M,N⟩=>[(5,a)]) (fun ⟨M,N⟩=>D5 3 1 a N::L) (fun ⟨M,N⟩ hh=>aD = M∧A7 (VI .i64) hh N M) ?_ ?_
 ·have H:=ba
  refine Bl<|G5 1 z<|T.M8 (α:=Nat×(List Int)×(List Int)×(List (List Value))×Value×(List (List Value))) [2] z (fun ⟨w,g,x,m,y,n⟩=>[(5,a),(7,y)]) (fun ⟨w,g,x,m,y,n⟩=>D5 3 1 a m::D5 3 1 y n::L) (fun ⟨w,g,x,m,y,n⟩ hh=>iter (A6U U) w (g,x) = some aD∧A7 (VI .i64) hh m g∧A7 (VI .i64) hh n x) (fun ⟨w,g,x,m,y,n⟩=>w) (FUEL,aC,[s],(q.set s.toNat [qi 0]),(.slice (some ⟨av,0,none⟩) 1 1),[[qi s]]) ⟨z,z,trivial⟩ z ⟨H,al,az⟩ ?_
  rintro ⟨w,g,x,m,y,n⟩ bc cb ⟨be,ac,P⟩
  obtain ⟨bf,cc,rfl,H,aE⟩:=I1 be
  refine T.norm [5,7,2] z<|T.fl ?_
  refine Sq<|Sr<|Mv z<|Vv (V.A2a C9 z (j:=1) z P.len)<|Vv (V.gt z z)<|Nt<|T.cH H z (fun H=>?_) fun H=>?_
  ·refine Ks<|Bl<|Sr<|Mv z<|bE H fun bg aG H=>?_
   obtain ⟨cd,bi,rfl⟩:=A7.get P aG
   refine Vv (V.ixR C9 z z (j:=1) z (A7.bd P aG))<|Vv (V.ldR E8 z (j:=1) z bi z)<|Ag z<|Nt<|Sr<|Mv z<|bE H fun aI aJ H=>To (O.slR C9 z z (j:=1) z (A7.slb P aJ) z fun bj=>have bk:A7 (VI .i64) bc (List.drop (1:Int).toNat n) aI:=A7.sl P aJ; Ag z<|Nt<|Sr<|Mv z<|Vv (V.A2a C9 z (j:=1) z ac.len)<|Mv z<|Nt<|T.A5G ?_)
   obtain ⟨aK,bm,bn⟩:=M5 H
   refine T.M7 (α:=(List Int)×(List Int)×(List (List Value))×Value×(List (List Value))) [2] z (fun ⟨A,B,C,D,G⟩=>[(5,a),(7,D)]) (fun ⟨A,B,C,D,G⟩=>D5 3 1 a C::D5 3 1 D G::L) (fun ⟨A,B,C,D,G⟩ hh=>aK = (A,B)∧A7 (VI .i64) hh C A∧A7 (VI .i64) hh G B) ?_ ?_
   ·have H:=bm
    refine Bl<|G5 1 z<|T.M8 (α:=Nat×(List Int)×Int×(List Int)×(List (List Value))×Value×(List (List Value))) [2,8,37] z (fun ⟨I,o,d,p,b,i,c⟩=>[(36,a),(38,qi d),(5,a),(7,i)]) (fun ⟨I,o,d,p,b,i,c⟩=>D5 3 1 a b::D5 3 1 i c::L) (fun ⟨I,o,d,p,b,i,c⟩ hh=>iter (A6X U g bg) I (o,d,p) = some aK∧A7 (VI .i64) hh b o∧A7 (VI .i64) hh c p) (fun ⟨I,o,d,p,b,i,c⟩=>I) (FUEL,g,(0:Int),aI,m,bj,(List.drop (1:Int).toNat n)) ⟨z,z,z,z,trivial⟩ z ⟨H,ac,bk⟩ ?_
    rintro ⟨I,o,d,p,b,i,c⟩ ce cf ⟨bo,e,X⟩
    obtain ⟨aM,cg,rfl,H,ad⟩:=I1 bo
    refine T.norm [36,38,5,7,2,8,37] z<|T.fl ?_
    refine Sr<|Vv (V.lt z z)<|Nt<|Sq<|T.cH H z (fun H=>?_) fun H=>?_
    ·refine Ks<|Sq<|Bl<|Sr<|Mv z<|bE H fun ci aN H=>?_
     obtain ⟨cj,bp,rfl⟩:=A7.get e aN
     refine Vv (V.ixR C9 z z (j:=0) z (A7.bd e aN))<|Vv (V.ldR E8 z (j:=0) z bp z)<|Ag z<|Ag z<|Nt<|Sq ?_
     obtain ⟨bq,br,bs⟩:=M5 H
     refine T.M7 (α:=Bool) [2,5,7,8,9,36,37,38] z (fun S=>[(50,.bool S)]) (fun S=>D5 3 1 a b::D5 3 1 i c::L) (fun S hh=>bq = S) ?_ ?_
     ·have H:=br
      refine Rg<|Mv z<|Vv (V.lt z z)<|Mv z<|T.bH 45 H z (fun H=>?_) fun H=>?_
      ·refine Vv (V.ldS z aq.u (by exact L9)) ?_
       refine Mv z<|Mv z<|bE H fun bt bu H=>To (O.D8 z (C4j ⟨an,z,ao.u⟩ bu _) z fun ck cm cn co bw=>?_)
       obtain ⟨rfl,bx⟩:=bw
       refine J9 _ bx<|Vv (V.R8 z z)<|Nt<|T.mt bt (O5 H)
      refine Sk<|Sk<|Sk<|Sk<|Vv (V.R9 z z)<|Nt<|T.mt false (O5 H)
     rintro S ae cp bA
     have H:=J8 bA bs
     refine T.norm [50,2,5,7,8,9,36,37,38] z<|T.fl ?_
     refine T.cH H z (fun H=>?_) fun H=>?_
     ·refine Sr<|Mv z<|Mv z<|Mv z<|Mv z<|bE H fun cq aO H=>?_
      obtain ⟨cr,bB,rfl⟩:=A7.get e aO
      refine Vv (V.ixR C9 z z (j:=0) z (A7.bd e aO))<|Vv (V.ldR E8 z (j:=0) z bB z)<|bE H fun Y bC H=>Vv (V.J2 z z bC)<|bE H fun cs af H=>?_
      obtain ⟨ct,cu,rfl⟩:=A7.get e af
      refine Vv (V.ixR C9 z z (j:=0) z (A7.bd e af))<|bE H fun aP bD H=>To (O.stR E8 z z (j:=0) z (A7.bdN e af) z<|have bG:A7 (VI .i64) ae (b.set d.toNat [qi Y]) aP:=A7.set e.u (show (VI .i64) ae [qi Y] Y from z) bD; Nt<|Rg<|Mv z<|Mv z<|To (O.b1 (E:=VI .i64) C9 M9 z z z z z fun cw ai=>bE H fun aS aU H=>To (O.apX C9 C9 M9 z z z (j:=2) z (Src.row (j:=0) z) (O4.of z) (A7.ones VI.plain ai) X.u ai aU z fun bI cx cy=>have bJ:A7 (VI .i64) ae (c ++ [[qi d]]) aS:=A7.ap X.u ai aU; T.fl ?_)))
      refine G5 1 z<|T.fl ?_
      refine T.drop<|Ag z<|Ni<|Bn<|Th<|Rg<|bE H fun bK bM H=>Vv (V.J2 z z bM)<|Mv z<|Nt<|G5 1 z<|T.ag (aM,aP,bK,aS,(b.set d.toNat [qi Y]),bI,(c ++ [[qi d]])) ⟨(F4 H ad),bG,bJ⟩
     refine T.skip<|Bn<|Th<|Rg<|bE H fun bN bO H=>Vv (V.J2 z z bO)<|Mv z<|Nt<|T.ag (aM,o,bN,p,b,i,c) ⟨(F4 H ad),e.u,X.u⟩
    refine T.exit<|Te<|Te<|have H:=D9 H ad; Be<|Th<|T.mt (o,p,b,i,c) ⟨H,e,X⟩
   rintro ⟨A,B,C,D,G⟩ cA cB ⟨bP,bS,bU⟩
   have H:=J8 bP bn
   refine T.norm [5,7,2] z<|T.fl ?_
   refine Bn<|Th<|T.ag (bf,A,B,C,D,G) ⟨(F4 H aE),bS,bU⟩
  refine T.exit<|Te<|Te<|have H:=D9 H aE; Be<|Th<|G5 1 z<|T.drop<|T.mt (g,m) ⟨H,ac⟩
 rintro ⟨M,N⟩ cC cD ⟨bV,bW⟩
 have H:=J8 bV bb
 refine T.norm [5] z<|T.fl ?_
 refine Sr<|Mv z<|Ag z<|Nt<|T.ret ?_
 cases H
 exact T.rl z (Rv z) ⟨_,z,bW⟩
theorem C0h {h q r s} (I:F7 h q r) (H:A9t r = some s):∀ L,G8 prog 169 [.agg q.toArray] h (L) (fun v h' L'=>∃ w,L' = D5 3 1 v w::L∧A7 (VI .i64) h' w s):=by
 intro L
 obtain ⟨J,rfl,K⟩:=I
 refine G8.enter func169 z z z<|Sr<|To (O.Y0 z z z fun aM aN aO n=>Ag z<|Nt<|Sr<|Vv (V.fa A2r z)<|Vv (V.I9 (k:=1) A4u z n z)<|bE H fun ⟨M,aP⟩ N H=>To (O.D8 z (A3b N _) z fun aS aU aV aW P=>?_))
 obtain ⟨S,U,W,X,Y,rfl,Z,aa,ab,ac,x,ad⟩:=P
 refine J9 _ Z<|Mv z<|Vv (V.ext z z)<|Vv (V.ext z z)<|To (O.alloc A6m z z fun aX=>To (O.stF (vs:=[.string M.A7v,S,U,W,X,Y]) A0E z z (j:=0) z z (by (simp only [Sl.ones,aa.1.1,ab.1.1,ac.1.1,x.1.1,ad.1.1,Bool.and_true,Bool.true_and]) <;> rfl) z ?_))
 refine T.freeze fun ae aY af=>have ai:=AtC.of af; Ag z<|Nt<|Sq<|T.O1 (t:=(.vs [0,1,2,3,4,5,6] (.alt 7 (.alt 8 (.alt 9 .done .no) .no) .no))) 11 0 0 z z I4 (by kernel_rfl) ?_
 refine Tv z (V.ldS z n.u (by exact L9)) ?_
 refine Tv z (V.fa C3J z)<|Tv z (V.I9 (k:=4) C2C z ai z)<|Tv z (V.fa A0l z)<|Tv z (V.I9 (k:=2) E8 z n.u z)<|Tv z (V.fa A0V z)<|Tv z (V.I9 (k:=3) E8 z n.u z)<|bE H fun aZ aj H=>?_
 obtain ⟨a0,a1,a2,ak,am⟩:=B3F.call (x.u (g:=ae)) aj
 refine Tp z z (SX.two (XA.fr [] Lr z) (XA.fr [] Lr z)) (O.A1d z ak z (am _) z fun a3 a4 a5 a6 an=>?_) T.O9
 obtain ⟨rfl,ao⟩:=an
 refine J9 _ ao<|bE H fun y ap H=>Tp z z (SX.two (XA.fr [] Li z) (XA.fr [] Li z)) (O.D8 z (C1m ⟨J,z,K.u⟩ ap _) z fun f a7 a8 a9 aq=>?_) T.O9
 obtain ⟨ar,au,A⟩:=aq
 refine J9 _ au<|Ts z z (SX.two (XA.fr [] Li z) (XA.fr [] Li z)) (V.asg z) z ?_ T.O9
 refine T.R7 (SX.two (XA.fr [] Li z) (XA.fr [] Li z))<|Th<|Sq<|Sr<|Mv z<|Vv (V.A2a C9 z (j:=0) z A.len)<|Mv z<|Nt ?_
 obtain ⟨B,aw,ax⟩:=M5 H
 refine T.M7 (α:=(List Int)×(List (List Value))) [] z (fun ⟨i,m⟩=>[(5,f)]) (fun ⟨i,m⟩=>D5 3 1 f m::L) (fun ⟨i,m⟩ hh=>B = i∧A7 (VI .i64) hh m i) ?_ ?_
 ·have H:=aw
  refine Bl<|T.M8 (α:=Nat×(List Int)×Int×(List (List Value))) [24] z (fun ⟨e,a,d,b⟩=>[(23,f),(25,qi d),(5,f)]) (fun ⟨e,a,d,b⟩=>D5 3 1 f b::L) (fun ⟨e,a,d,b⟩ hh=>iter (A5L y) e (a,d) = some B∧A7 (VI .i64) hh b a) (fun ⟨e,a,d,b⟩=>e) (FUEL,y,(0:Int),ar) ⟨z,z,z,trivial⟩ z ⟨H,A⟩ ?_
  rintro ⟨e,a,d,b⟩ C ah ⟨ay,c⟩
  obtain ⟨D,al,rfl,H,o⟩:=I1 ay
  refine T.norm [23,25,5,24] z<|T.fl ?_
  refine Sr<|Vv (V.lt z z)<|Nt<|Sq<|T.cH H z (fun H=>?_) fun H=>?_
  ·refine Ks<|Sq<|Bl<|Sr<|Mv z<|bE H fun av E H=>?_
   obtain ⟨az,aA,rfl⟩:=A7.get c E
   refine Vv (V.ixR C9 z z (j:=0) z (A7.bd c E))<|Vv (V.ldR E8 z (j:=0) z aA z)<|Ag z<|Ag z<|Nt<|Sr<|Mv z<|Vv (V.lt z z)<|Nt<|T.cH H z (fun H=>?_) fun H=>?_
   ·refine Rg<|Mv z<|Mv z<|Mv z<|Vv (V.A2a C9 z (j:=0) z c.len)<|bE H fun ba p H=>?_
    obtain ⟨bb,bc,rfl⟩:=A7.get c p
    refine Vv (V.ixR C9 z z (j:=0) z (A7.bd c p))<|bE H fun G aB H=>To (O.stR E8 z z (j:=0) z (A7.bdN c p) z<|have aC:A7 (VI .i64) C (b.set d.toNat [qi (a.length:Int)]) G:=A7.set c (show (VI .i64) C [qi (a.length:Int)] (a.length:Int) from z) aB; Ni<|Bn<|Th<|Rg<|bE H fun aD aE H=>Vv (V.J2 z z aE)<|Mv z<|Nt<|T.ag (D,G,aD,(b.set d.toNat [qi (a.length:Int)])) ⟨(F4 H o),aC⟩)
   refine T.skip<|Bn<|Th<|Rg<|bE H fun aG aI H=>Vv (V.J2 z z aI)<|Mv z<|Nt<|T.ag (D,a,aG,b) ⟨(F4 H o),c⟩
  refine T.exit<|Te<|Te<|have H:=D9 H o; Be<|Th<|T.mt (a,b) ⟨H,c⟩
 rintro ⟨i,m⟩ be bf ⟨aJ,aK⟩
 have H:=J8 aJ ax
 refine T.norm [5] z<|T.fl ?_
 refine Sr<|Mv z<|Ag z<|Nt<|T.ret ?_
 cases H
 exact T.rl z (Rv z) ⟨_,z,aK⟩
theorem B0f {h j g m} (p:F7 h j g) (H:A6t g = some m):∀ L,G8 prog 218 [.agg j.toArray] h (L) (fun v h' L'=>v = .int .i64 m∧L' = L):=by
 intro L
 obtain ⟨q,rfl,e⟩:=p
 refine G8.enter func218 z z z<|Sr<|To (O.Y0 z z z fun M N P a=>Ag z<|Nt<|Sr<|Vv (V.ldS z a (by exact L9)) ?_)
 refine bE H fun r s H=>To (O.D8 z (A2m ⟨q,z,e.u⟩ s _) z fun S U W X t=>?_)
 obtain ⟨rfl,w⟩:=t
 refine J9 _ w<|Ag z<|Nt<|Sr<|Ag z<|Nt<|Sq<|Bl<|Sr<|Vv (V.fa A0K z)<|Vv (V.I9 (k:=0) H9 z a.u z)<|bE H fun Y x H=>To (O.D8 z (C3l x _) z fun Z aa ab ac y=>?_)
 obtain ⟨rfl,A⟩:=y
 refine J9 _ A<|Vv (V.not z)<|Ag z<|Nt<|T.cH H z (fun H=>?_) fun H=>?_
 ·exact Sr<|Ag z<|Nt<|T.ret<|Br<|Tr<|E1 H
 refine Sr<|Mv z<|Vv (V.eq z z)<|Ag z<|Nt<|T.cH H z (fun H=>?_) fun H=>?_
 ·exact Sr<|Ag z<|Nt<|T.ret<|Br<|Tr<|E1 H
 refine T.skip<|Bn<|Th<|Sq<|Sr<|Vv (V.fa X6 z)<|Vv (V.I9 (k:=4) E5 z a.u z)<|Vv (V.P9 C9 z e)<|Mv z<|Nt ?_
 obtain ⟨n,B,i⟩:=M5 H
 refine T.M7 (α:=Unit) [1] z (fun _u=>[]) (fun _u=>L) (fun _u hh=>n = (Sum.inl ())) ?_ ?_
 ·have H:=B
  refine Bl<|T.M8 (α:=Nat×Int×Int) [1,3,18,19] z (fun ⟨b,c,d⟩=>[(20,qi c),(4,qi d)]) (fun ⟨b,c,d⟩=>L) (fun ⟨b,c,d⟩ hh=>iter (A1S g r) b (c,d) = some n) (fun ⟨b,c,d⟩=>b) (FUEL,(0:Int),(-1:Int)) ⟨z,z,trivial⟩ z H ?_
  rintro ⟨b,c,d⟩ ad ae C
  obtain ⟨D,af,rfl,H,f⟩:=I1 C
  refine T.norm [20,4,1,3,18,19] z<|T.fl ?_
  refine Sr<|Vv (V.lt z z)<|Nt<|Sq<|T.cH H z (fun H=>?_) fun H=>?_
  ·refine Ks<|Sq<|Bl<|Sr<|bE H fun E o H=>?_
   obtain ⟨ai,G,rfl⟩:=G6.at e o
   refine Vv (V.ix C9 z z e (G7 o))<|Vv (V.ld0 E8 z G.u z)<|Ag z<|Nt<|Sq<|Sr<|Mv z<|Mv z<|Vv (V.le z z)<|Mv z<|T.bH 27 H z (fun H=>?_) fun H=>?_
   ·exact Sk<|Sk<|Sk<|Vv (V.R8 z z)<|Nt<|Ct z<|Sr<|Ag z<|Nt<|T.ret<|Tr<|Br<|Tr<|Tr<|have H:=D9 H f; Br<|Tr<|have H:=J8 H i; E1 H
   refine Mv z<|Mv z<|Vv (V.ge z z)<|Vv (V.R9 z z)<|Nt<|T.cH H z (fun H=>?_) fun H=>?_
   ·exact Sr<|Ag z<|Nt<|T.ret<|Tr<|Br<|Tr<|Tr<|have H:=D9 H f; Br<|Tr<|have H:=J8 H i; E1 H
   refine Ks<|Rg<|Mv z<|Ag z<|Ni<|Bn<|Th<|Rg<|bE H fun I J H=>Vv (V.J2 z z J)<|Mv z<|Nt<|T.ag (D,I,E) (F4 H f)
  refine T.exit<|Te<|Te<|have H:=D9 H f; Be<|Th<|T.mt () H
 rintro _ aj ak K
 have H:=J8 K i
 refine T.norm [1] z<|T.fl ?_
 refine Sq<|Sr<|Vv (V.fa A9I z)<|Vv (V.I9 (k:=5) E8 z a.u z)<|Vv (V.lt z z)<|Mv z<|T.bH 37 H z (fun H=>?_) fun H=>?_
 ·exact Sk<|Sk<|Sk<|Vv (V.R8 z z)<|Mv z<|Sk<|Sk<|Sk<|Vv (V.R8 z z)<|Mv z<|Sk<|Sk<|Sk<|Vv (V.R8 z z)<|Nt<|Ct z<|Sr<|Ag z<|Nt<|T.ret<|Tr<|E1 H
 refine Vv (V.fa A9I z)<|Vv (V.I9 (k:=5) E8 z a.u z)<|Vv (V.gt z z)<|Vv (V.R9 z z)<|Mv z<|T.bH 42 H z (fun H=>?_) fun H=>?_
 ·exact Sk<|Sk<|Sk<|Vv (V.R8 z z)<|Mv z<|Sk<|Sk<|Sk<|Vv (V.R8 z z)<|Nt<|Ct z<|Sr<|Ag z<|Nt<|T.ret<|Tr<|E1 H
 refine Vv (V.fa A9f z)<|Vv (V.I9 (k:=6) E8 z a.u z)<|Vv (V.lt z z)<|Vv (V.R9 z z)<|Mv z<|T.bH 47 H z (fun H=>?_) fun H=>?_
 ·exact Sk<|Sk<|Sk<|Vv (V.R8 z z)<|Nt<|Ct z<|Sr<|Ag z<|Nt<|T.ret<|Tr<|E1 H
 refine Vv (V.fa A9f z)<|Vv (V.I9 (k:=6) E8 z a.u z)<|Vv (V.gt z z)<|Vv (V.R9 z z)<|Nt<|T.cH H z (fun H=>?_) fun H=>?_
 ·exact Sr<|Ag z<|Nt<|T.ret<|Tr<|E1 H
 exact Ks<|Sr<|Ag z<|Nt<|T.ret<|E1 H
theorem B6E {h a b c d e f} (g:F7 h a b) (i:AtC h c d) (j:F7 h d e) (H:A5H b e = some f):∀ L,G8 prog 248 [.agg a.toArray,.pointer (some c)] h (L) (fun v h' L'=>v = .bool f∧L' = L):=by
 intro L
 obtain ⟨n,rfl,o⟩:=g
 obtain ⟨p,rfl,q⟩:=j
 refine G8.enter func248 z z z<|Sr<|To (O.Y0 z z z fun r s t m=>Ag z<|Nt<|Sr<|Vv (V.fa A0K z)<|Vv (V.I9 (k:=0) H9 z m z)<|Vv (V.fa A0K z)<|Vv (V.I9 (k:=0) H9 z i.u z)<|Vv (V.seq z z)<|Ag z<|Nt<|T.ret ?_)
 exact E1 H
theorem B0R {h m f n o} (d:G6 F7 7 h m f) (H:A4O f = some (n,o)):∀ L,G8 prog 184 [m] h (L) (fun v h' L'=>v = .tuple #[.int .i64 n,.int .i64 o]∧L' = L):=by
 intro L
 refine G8.enter func184 z z z<|Sr<|Ag z<|Ag z<|Nt<|Sq<|Sr<|Mv z<|Vv (V.P9 N9 z d)<|Vv (V.gt z z)<|Nt<|T.cH H z (fun H=>?_) fun H=>?_
 ·exact Sr<|Ag z<|Ag z<|Nt<|T.ret<|Tr<|E1 H
 refine Ks<|Sq<|Sr<|Mv z<|Vv (V.P9 N9 z d)<|Mv z<|Nt ?_
 obtain ⟨p,x,g⟩:=M5 H
 refine T.M7 (α:=Unit) [] z (fun _u=>[]) (fun _u=>L) (fun _u hh=>p = (Sum.inl ())) ?_ ?_
 ·have H:=x
  refine Bl<|T.M8 (α:=Nat×Int) [0,10,11] z (fun ⟨b,c⟩=>[(12,qi c)]) (fun ⟨b,c⟩=>L) (fun ⟨b,c⟩ hh=>iter (A4r f) b c = some p) (fun ⟨b,c⟩=>b) (FUEL,(0:Int)) ⟨z,trivial⟩ z H ?_
  rintro ⟨b,c⟩ ac ad y
  obtain ⟨A,ae,rfl,H,e⟩:=I1 y
  refine T.norm [12,0,10,11] z<|T.fl ?_
  refine Sr<|Vv (V.lt z z)<|Nt<|Sq<|T.cH H z (fun H=>?_) fun H=>?_
  ·refine Ks<|Sq<|Bl<|Sr<|Mv z<|bE H fun a q H=>?_
   obtain ⟨af,B,⟨i,rfl,k⟩⟩:=G6.at d q
   refine Vv (V.ix N9 z z d (G7 q))<|Vv (V.ldS z B.u (by exact L9)) ?_
   refine To (O.alloc A3n z z fun r=>Ag z<|To (O.stF (vs:=[.string a.F8,.int .u8 a.O6,qi a.fA,qi a.fB,i,qi a.fX,qi a.fY]) L9 z z (j:=0) z z (by (simp only [Sl.ones,G6.one k,Bool.and_true,Bool.true_and]) <;> rfl) z ?_))
   refine T.freeze fun ai aj C=>have s:=AtC.of C; Nt<|Sq<|Sr<|Vv (V.ldS z s (by exact L9)) ?_
   refine bE H fun ak D H=>To (O.D8 z (B0f ⟨i,z,k.u⟩ D _) z fun am t an ao E=>?_)
   obtain ⟨rfl,G⟩:=E
   refine J9 _ G<|Ag z<|Nt<|Sr<|Mv z<|Vv (V.ne z z)<|Nt<|T.cH H z (fun H=>?_) fun H=>?_
   ·exact Sr<|Mv z<|Mv z<|Ag z<|Ag z<|Nt<|T.ret<|Tr<|Br<|Tr<|Tr<|have H:=D9 H e; Br<|Tr<|have H:=J8 H g; E1 H
   refine Ks<|Sr<|Mv z<|Mv z<|bE H fun I w H=>T.slM z N9 z d.u (.inl ⟨z,z⟩) (.inr ⟨_,_,z,z⟩) (A5F w).2 z fun J K ap=>?_
   have M:G6 F7 7 t J I:=by rw [(A5F w).1]; exact K
   refine Vv (V.mkf z z)<|bE H fun aq N H=>To (O.D8 z (B0S M (show A9x t (.func (.func 248) #[] #[qp r]) (fun P=>A5H P a) from ⟨⟨z,z⟩,.inr ⟨248,[],[qp r],z,fun ar au aw ax S ay U W=>B6E S s.u ⟨i,z,k.u⟩ U W⟩⟩) N _) z fun aA aB aC aD X=>?_)
   obtain ⟨rfl,Y⟩:=X
   refine J9 _ Y<|Nt<|T.cH H z (fun H=>?_) fun H=>?_
   ·exact Sr<|Mv z<|Ag z<|Ag z<|Nt<|T.ret<|Br<|Tr<|Tr<|have H:=D9 H e; Br<|Tr<|have H:=J8 H g; E1 H
   refine T.skip<|Bn<|Th<|Rg<|bE H fun Z aa H=>Vv (V.J2 z z aa)<|Mv z<|Nt<|T.ag (A,Z) (F4 H e)
  refine T.exit<|Te<|Te<|have H:=D9 H e; Be<|Th<|T.mt () H
 rintro _ aE aG ab
 have H:=J8 ab g
 refine T.norm [] z<|T.fl ?_
 exact Sr<|Ag z<|Ag z<|Nt<|T.ret<|E1 H
theorem C2d {h a b c d e f} (g:F7 h a b) (i:AtC h c d) (j:VS h d e) (H:B1r b e = some f):∀ L,G8 prog 206 [.agg a.toArray,.pointer (some c)] h (L) (fun v h' L'=>v = .bool f∧L' = L):=by
 intro L
 obtain ⟨n,rfl,o⟩:=g
 obtain rfl:=j
 refine G8.enter func206 z z z<|Sr<|To (O.Y0 z z z fun p q r m=>Ag z<|Nt<|Sr<|Vv (V.fa A0K z)<|Vv (V.I9 (k:=0) H9 z m z)<|Vv (V.ld0 H9 z i.u z)<|Vv (V.seq z z)<|Ag z<|Nt<|T.ret ?_)
 exact E1 H
theorem A7f {h a b c} (d:G6 F7 7 h a b) (H:A4g b = some c):∀ L,G8 prog 97 [a] h (L) (fun v h' L'=>v = .bool c∧L' = L):=by
 intro L
 refine G8.enter func97 z z z<|Sr<|Ag z<|Nt<|Sr<|Mv z<|bE H fun ⟨i,j⟩ e H=>To (O.D8 z (B0R d e _) z fun k m n o f=>?_)
 obtain ⟨rfl,g⟩:=f
 exact J9 _ g<|Mv z<|Vv (V.ext z z)<|Vv (V.ext z z)<|Ag z<|Ag z<|Nt<|Sr<|Mv z<|Vv (V.eq z z)<|Ag z<|Nt<|T.ret<|E1 H
theorem A6K {h k m n o} (g:G6 F7 7 h k m) (H:A3i m n = some o):∀ L,G8 prog 83 [k,.int .i64 n] h (L) (fun v h' L'=>v = .int .i64 o∧L' = L):=by
 intro L
 refine G8.enter func83 z z z<|Sr<|Ag z<|Nt<|Sq<|Sq ?_
 obtain ⟨y,A,B⟩:=M5 H
 refine T.M7 (α:=Bool) [0,1] z (fun e=>[(20,.bool e)]) (fun e=>L) (fun e hh=>y = e) ?_ ?_
 ·have H:=A
  refine Rg<|Mv z<|Vv (V.lt z z)<|Mv z<|T.bH 10 H z (fun H=>?_) fun H=>?_
  ·refine Sk<|Sk<|Sk<|Sk<|Vv (V.R8 z z)<|Mv z<|Sk<|Sk<|Sk<|Vv (V.R8 z z)<|Nt<|T.mt true (O5 H)
  refine Mv z<|Mv z<|Vv (V.P9 N9 z g)<|Vv (V.ge z z)<|Vv (V.R9 z z)<|Mv z<|T.bH 16 H z (fun H=>?_) fun H=>?_
  ·refine Sk<|Sk<|Sk<|Vv (V.R8 z z)<|Nt<|T.mt true (O5 H)
  refine Mv z<|bE H fun C D H=>To (O.D8 z (A7f g D _) z fun aj ak am an E=>?_)
  obtain ⟨rfl,G⟩:=E
  refine J9 _ G<|Vv (V.not z)<|Vv (V.R9 z z)<|Nt<|T.mt (!C) (O5 H)
 rintro e I ao J
 have H:=J8 J B
 refine T.norm [20,0,1] z<|T.fl ?_
 refine T.cH H z (fun H=>?_) fun H=>?_
 ·exact Sr<|Ag z<|Nt<|T.ret<|Tr<|E1 H
 refine Ks<|Sr<|Ag z<|Nt<|Sq<|Sr<|Mv z<|Mv z<|bE H fun p q H=>T.slM z N9 z g.u (.inl ⟨z,z⟩) (.inr ⟨_,_,z,z⟩) (A5F q).2 z fun K M ap=>?_
 have i:G6 F7 7 I K p:=by rw [(A5F q).1]; exact M
 refine Vv (V.P9 N9 z i)<|Mv z<|Nt ?_
 obtain ⟨r,N,P⟩:=M5 H
 refine T.M7 (α:=Int) [] z (fun f=>[(5,qi f)]) (fun f=>L) (fun f hh=>r = f) ?_ ?_
 ·have H:=N
  refine Bl<|T.M8 (α:=Nat×Int×Int) [23,24] z (fun ⟨b,c,a⟩=>[(25,qi c),(5,qi a)]) (fun ⟨b,c,a⟩=>L) (fun ⟨b,c,a⟩ hh=>iter (A3E p) b (c,a) = some r) (fun ⟨b,c,a⟩=>b) (FUEL,(0:Int),(0:Int)) ⟨z,z,trivial⟩ z H ?_
  rintro ⟨b,c,a⟩ aq ar S
  obtain ⟨U,au,rfl,H,s⟩:=I1 S
  refine T.norm [25,5,23,24] z<|T.fl ?_
  refine Sr<|Vv (V.lt z z)<|Nt<|Sq<|T.cH H z (fun H=>?_) fun H=>?_
  ·refine Ks<|Sq<|Bl<|Sr<|bE H fun d t H=>?_
   obtain ⟨aw,W,⟨w,rfl,x⟩⟩:=G6.at i t
   refine Vv (V.ix N9 z z i (G7 t))<|Vv (V.ldS z W.u (by exact L9)) ?_
   refine To (O.alloc A3n z z fun ax=>To (O.stF (vs:=[.string d.F8,.int .u8 d.O6,qi d.fA,qi d.fB,w,qi d.fX,qi d.fY]) L9 z z (j:=0) z z (by (simp only [Sl.ones,G6.one x,Bool.and_true,Bool.true_and]) <;> rfl) z ?_))
   refine T.freeze fun ay aA X=>have Y:=AtC.of X; Nt<|Rg<|Mv z<|Vv (V.ldS z Y (by exact L9)) ?_
   refine bE H fun aB Z H=>To (O.D8 z (A2m ⟨w,z,x.u⟩ Z _) z fun aC aD aE aG aa=>?_)
   obtain ⟨rfl,ab⟩:=aa
   refine J9 _ ab<|bE H fun ac ad H=>Vv (V.J2 z z ad)<|Ag z<|Ni<|Bn<|Th<|Rg<|bE H fun ae af H=>Vv (V.J2 z z af)<|Mv z<|Nt<|T.ag (U,ae,ac) (F4 H s)
  refine T.exit<|Te<|Te<|have H:=D9 H s; Be<|Th<|T.mt a H
 rintro f aI aJ ai
 have H:=J8 ai P
 refine T.norm [5] z<|T.fl ?_
 exact Sr<|Mv z<|Ag z<|Nt<|T.ret<|E1 H
theorem B7U {h b c d} (a:G6 F7 7 h b c) (H:A6E c = some d):∀ L,G8 prog 98 [b] h (L) (fun v h' L'=>v = .int .i64 d∧L' = L):=by
 intro L
 refine G8.enter func98 z z z<|Sr<|Ag z<|Nt<|Sq<|Sr<|Mv z<|Vv (V.P9 N9 z a)<|Vv (V.eq z z)<|Nt<|T.cH H z (fun H=>?_) fun H=>?_
 ·exact Sr<|Ag z<|Nt<|T.ret<|Tr<|E1 H
 refine Ks<|Sr<|Mv z<|Mv z<|Vv (V.P9 N9 z a)<|bE H fun o f H=>Vv (V.A1s z z f)<|bE H fun p e H=>?_
 obtain ⟨q,g,⟨i,rfl,j⟩⟩:=G6.at a e
 refine Vv (V.ix N9 z z a (G7 e))<|Vv (V.ldS z g (by exact L9)) ?_
 refine bE H fun r k H=>To (O.D8 z (A2m ⟨i,z,j⟩ k _) z fun s t u w m=>?_)
 obtain ⟨rfl,n⟩:=m
 exact J9 _ n<|Ag z<|Nt<|T.ret<|E1 H
theorem A4Y {h b c d} (a:G6 F7 7 h b c) (H:A2d c = some d):∀ L,G8 prog 40 [b] h (L) (fun v h' L'=>v = .int .i64 d∧L' = L):=by
 intro L
 refine G8.enter func40 z z z<|Sr<|Ag z<|Nt<|Sq<|Sr<|Mv z<|bE H fun r e H=>To (O.D8 z (A7f a e _) z fun s t w x f=>?_)
 obtain ⟨rfl,g⟩:=f
 refine J9 _ g<|Vv (V.not z)<|Nt<|T.cH H z (fun H=>?_) fun H=>?_
 ·exact Sr<|Ag z<|Nt<|T.ret<|Tr<|E1 H
 refine Ks<|Sr<|Mv z<|Mv z<|Vv (V.P9 N9 z a)<|bE H fun y i H=>Vv (V.A1s z z i)<|bE H fun A j H=>To (O.D8 z (A6K a.u j _) z fun B C D E k=>?_)
 obtain ⟨rfl,m⟩:=k
 refine J9 _ m<|Mv z<|bE H fun G n H=>To (O.D8 z (B7U a.u n _) z fun I J K M o=>?_)
 obtain ⟨rfl,p⟩:=o
 exact J9 _ p<|bE H fun N q H=>Vv (V.J2 z z q)<|Ag z<|Nt<|T.ret<|E1 H
theorem A4N {h m g i n o p} (f:G6 F7 7 h m g) (H:A2C g i = some (n,o,p)):∀ L,G8 prog 66 [m,.int .i64 i] h (L) (fun v h' L'=>v = .tuple #[.int .i64 n,.int .i64 o,.bool p]∧L' = L):=by
 intro L
 refine G8.enter func66 z z z<|Sr<|Ag z<|Ag z<|Ag z<|Nt<|Sq<|Sq ?_
 obtain ⟨x,y,A⟩:=M5 H
 refine T.M7 (α:=Bool) [0,1] z (fun e=>[(16,.bool e)]) (fun e=>L) (fun e hh=>x = e) ?_ ?_
 ·have H:=y
  refine Rg<|Mv z<|Vv (V.lt z z)<|Mv z<|T.bH 12 H z (fun H=>?_) fun H=>?_
  ·refine Sk<|Sk<|Sk<|Vv (V.R8 z z)<|Nt<|T.mt true (O5 H)
  refine Mv z<|bE H fun B C H=>To (O.D8 z (A7f f C _) z fun ac ad ae af D=>?_)
  obtain ⟨rfl,E⟩:=D
  refine J9 _ E<|Vv (V.not z)<|Vv (V.R9 z z)<|Nt<|T.mt (!B) (O5 H)
 rintro e ai aj G
 have H:=J8 G A
 refine T.norm [16,0,1] z<|T.fl ?_
 refine T.cH H z (fun H=>?_) fun H=>?_
 ·exact Sr<|Ag z<|Ag z<|Ag z<|Nt<|T.ret<|Tr<|E1 H
 refine Ks<|Sq<|Sr<|Mv z<|Vv (V.P9 N9 z f)<|Mv z<|Nt ?_
 obtain ⟨q,I,r⟩:=M5 H
 refine T.M7 (α:=Unit) [] z (fun _u=>[]) (fun _u=>L) (fun _u hh=>q = (Sum.inl ())) ?_ ?_
 ·have H:=I
  refine Bl<|T.M8 (α:=Nat×Int×Int) [17,18] z (fun ⟨a,b,c⟩=>[(1,qi b),(19,qi c)]) (fun ⟨a,b,c⟩=>L) (fun ⟨a,b,c⟩ hh=>iter (A3F g) a (b,c) = some q) (fun ⟨a,b,c⟩=>a) (FUEL,i,(0:Int)) ⟨z,z,trivial⟩ z H ?_
  rintro ⟨a,b,c⟩ ak am J
  obtain ⟨K,an,rfl,H,k⟩:=I1 J
  refine T.norm [1,19,17,18] z<|T.fl ?_
  refine Sr<|Vv (V.lt z z)<|Nt<|Sq<|T.cH H z (fun H=>?_) fun H=>?_
  ·refine Ks<|Sq<|Bl<|Sr<|Mv z<|bE H fun d s H=>?_
   obtain ⟨ao,M,⟨t,rfl,w⟩⟩:=G6.at f s
   refine Vv (V.ix N9 z z f (G7 s))<|Vv (V.ldS z M.u (by exact L9)) ?_
   refine To (O.alloc A3n z z fun ap=>Ag z<|To (O.stF (vs:=[.string d.F8,.int .u8 d.O6,qi d.fA,qi d.fB,t,qi d.fX,qi d.fY]) L9 z z (j:=0) z z (by (simp only [Sl.ones,G6.one w,Bool.and_true,Bool.true_and]) <;> rfl) z ?_))
   refine T.freeze fun aq ar N=>have P:=AtC.of N; Nt<|Sr<|Vv (V.ldS z P (by exact L9)) ?_
   refine bE H fun au S H=>To (O.D8 z (A2m ⟨t,z,w.u⟩ S _) z fun aw ax ay aA U=>?_)
   obtain ⟨rfl,W⟩:=U
   refine J9 _ W<|Ag z<|Nt<|Sq<|Sr<|Mv z<|Mv z<|Vv (V.lt z z)<|Nt<|T.cH H z (fun H=>?_) fun H=>?_
   ·exact Sr<|Mv z<|Mv z<|Ag z<|Ag z<|Ag z<|Nt<|T.ret<|Tr<|Br<|Tr<|Tr<|have H:=D9 H k; Br<|Tr<|have H:=J8 H r; E1 H
   refine Ks<|Rg<|Mv z<|Mv z<|bE H fun X Y H=>Vv (V.A1s z z Y)<|Ag z<|Ni<|Bn<|Th<|Rg<|bE H fun Z aa H=>Vv (V.J2 z z aa)<|Mv z<|Nt<|T.ag (K,X,Z) (F4 H k)
  refine T.exit<|Te<|Te<|have H:=D9 H k; Be<|Th<|T.mt () H
 rintro _ aB aC ab
 have H:=J8 ab r
 refine T.norm [] z<|T.fl ?_
 exact Sr<|Ag z<|Ag z<|Ag z<|Nt<|T.ret<|E1 H
theorem C3Z {h b c a d e} (f:G6 F7 7 h b c) (H:B4s c a = some (d,e)):∀ L,G8 prog 119 [b,.string a] h (L) (fun v h' L'=>v = .tuple #[.int .i64 d,.bool e]∧L' = L):=by
 intro L
 refine G8.enter func119 z z z<|Sr<|To (O.Y0 z z z fun g i y j=>Ag z<|Ag z<|Nt<|Sr<|Mv z<|Vv (V.mkf z z)<|bE H fun A k H=>To (O.D8 z (A7u f.u (show A9x i (.func (.func 206) #[] #[qp g]) (fun m=>B1r m a) from ⟨⟨z,z⟩,.inr ⟨206,[],[qp g],z,fun n B C D o E p q=>C2d o j.u (show VS n [.string a] a from z) p q⟩⟩) k _) z fun G I J K r=>?_))
 obtain ⟨rfl,s⟩:=r
 refine J9 _ s<|Ag z<|Nt<|Sq<|Sr<|Mv z<|Vv (V.lt z z)<|Mv z<|T.bH 12 H z (fun H=>?_) fun H=>?_
 ·exact Sk<|Sk<|Sk<|Vv (V.R8 z z)<|Nt<|Ct z<|Sr<|Ag z<|Ag z<|Nt<|T.ret<|Tr<|E1 H
 refine Mv z<|bE H fun M t H=>To (O.D8 z (A7f f.u t _) z fun N P S U w=>?_)
 obtain ⟨rfl,x⟩:=w
 refine J9 _ x<|Vv (V.not z)<|Vv (V.R9 z z)<|Nt<|T.cH H z (fun H=>?_) fun H=>?_
 ·exact Sr<|Ag z<|Ag z<|Nt<|T.ret<|Tr<|E1 H
 exact Ks<|Sr<|Mv z<|Ag z<|Ag z<|Nt<|T.ret<|E1 H
theorem B5i {h a b c} (g:F7 h a b) (H:B9E b = some c):∀ L,G8 prog 130 [.agg a.toArray] h (L) (fun v h' L'=>v = .int .i64 c∧L' = L):=by
 intro L
 obtain ⟨d,rfl,e⟩:=g
 refine G8.enter func130 z z z<|Sr<|To (O.Y0 z z z fun p q r f=>Ag z<|Nt<|Sq<|Sr<|Vv (V.ldS z f (by exact L9)) ?_)
 refine bE H fun s i H=>To (O.D8 z (B0f ⟨d,z,e.u⟩ i _) z fun t w x y j=>?_)
 obtain ⟨rfl,k⟩:=j
 refine J9 _ k<|Vv (V.ne z z)<|Nt<|T.cH H z dead fun H=>Ks<|Sr<|Vv (V.ldS z f.u (by exact L9)) ?_
 refine bE H fun A m H=>To (O.D8 z (A2m ⟨d,z,e.u⟩ m _) z fun B C D E n=>?_)
 obtain ⟨rfl,o⟩:=n
 exact J9 _ o<|Ag z<|Nt<|T.ret<|E1 H
theorem C3x {h b c d e} (a:G6 F7 7 h b c) (H:B4d c d = some e):∀ L,G8 prog 85 [b,.int .i64 d] h (L) (fun v h' L'=>v = .bool e∧L' = L):=by
 intro L
 refine G8.enter func85 z z z<|Sr<|Ag z<|Nt<|Sr<|Mv z<|Mv z<|bE H fun ⟨r,s,t⟩ g H=>To (O.D8 z (A4N a g _) z fun w x y A i=>?_)
 obtain ⟨rfl,j⟩:=i
 refine J9 _ j<|Mv z<|Vv (V.ext z z)<|Vv (V.ext z z)<|Vv (V.ext z z)<|Ag z<|Ag z<|Ag z<|Nt<|Sr<|Mv z<|Mv z<|T.bH 16 H z (fun H=>?_) fun H=>?_
 ·refine Mv z<|Mv z<|bE H fun B f H=>?_
  obtain ⟨C,m,⟨D,rfl,n⟩⟩:=G6.at a f
  refine Vv (V.ix N9 z z a (G7 f))<|Vv (V.fa X6 z)<|Vv (V.I9 (k:=4) E5 z m.u z)<|Mv z<|bE H fun E o H=>To (O.D8 z (A1t n.u o _) z fun G I J K p=>?_)
  obtain ⟨rfl,q⟩:=p
  exact J9 _ q<|Vv (V.R8 z z)<|Ag z<|Nt<|T.ret<|E1 H
 exact Sk<|Sk<|Sk<|Sk<|Sk<|Sk<|Sk<|Vv (V.R9 z z)<|Ag z<|Nt<|T.ret<|E1 H
theorem C2p {h b c d e} (a:G6 F7 7 h b c) (H:B1s c d = some e):∀ L,G8 prog 84 [b,.int .i64 d] h (L) (fun v h' L'=>v = .int .i64 e∧L' = L):=by
 intro L
 refine G8.enter func84 z z z<|Sr<|Ag z<|Nt<|Sr<|Mv z<|Mv z<|bE H fun ⟨x,y,A⟩ k H=>To (O.D8 z (A4N a k _) z fun B C D E m=>?_)
 obtain ⟨rfl,n⟩:=m
 refine J9 _ n<|Mv z<|Vv (V.ext z z)<|Vv (V.ext z z)<|Vv (V.ext z z)<|Ag z<|Ag z<|Ag z<|Nt<|Sq<|Sr<|Mv z<|Vv (V.not z)<|Nt<|T.cH H z (fun H=>?_) fun H=>?_
 ·exact Sr<|Ag z<|Nt<|T.ret<|Tr<|E1 H
 refine Ks<|Sr<|Mv z<|Mv z<|bE H fun G f H=>?_
 obtain ⟨I,o,⟨p,rfl,q⟩⟩:=G6.at a f
 refine Vv (V.ix N9 z z a (G7 f))<|Vv (V.ldS z o.u (by exact L9)) ?_
 refine bE H fun J r H=>To (O.D8 z (C0h ⟨p,z,q.u⟩ r _) z fun K M N P s=>?_)
 obtain ⟨S,t,g⟩:=s
 refine J9 _ t<|Mv z<|bE H fun U i H=>?_
 obtain ⟨W,w,rfl⟩:=A7.get g i
 exact Vv (V.ixR C9 z z (j:=0) z (A7.bd g i))<|Vv (V.ldR E8 z (j:=0) z w z)<|Ag z<|Nt<|T.ret<|T.drop<|E1 H
theorem B6B {h e f g i a k m n} (d:G6 F7 7 h e f) (H:A8l f g i = some (a,k,m,n)):∀ L,G8 prog 170 [e,.int .i64 g,.int .i64 i] h (L) (fun v h' L'=>∃ v0_1,v = .tuple #[.agg #[.string a.F8,.int .u8 a.O6,.int .i64 a.fA,.int .i64 a.fB,v0_1,.int .i64 a.fX,.int .i64 a.fY],.int .i64 k,.int .i64 m,.bool n]∧L' = L∧G6 (VI .i64) 1 h' v0_1 a.A2H):=by
 intro L
 refine G8.enter func170 z z z<|Sr<|To (O.alloc A3n z z fun q=>Ag z<|Ag z<|Ag z<|Nt<|Sr<|Mv z<|Mv z<|bE H fun ⟨r,K,M⟩ s H=>To (O.D8 z (A4N d s _) z fun N P S U t=>?_))
 obtain ⟨rfl,w⟩:=t
 refine J9 _ w<|Mv z<|Vv (V.ext z z)<|Vv (V.ext z z)<|Vv (V.ext z z)<|Ag z<|Ag z<|Ag z<|Nt<|Sr<|Mv z<|Mv z<|bE H fun ⟨x,W,X⟩ y H=>To (O.D8 z (A4N d.u y _) z fun Y Z aa ab A=>?_)
 obtain ⟨rfl,B⟩:=A
 refine J9 _ B<|Mv z<|Vv (V.ext z z)<|Vv (V.ext z z)<|Vv (V.ext z z)<|Ag z<|Ag z<|Ag z<|Nt<|Sq<|Sq ?_
 obtain ⟨C,D,E⟩:=M5 H
 refine T.M7 (α:=Bool) [0,6,7,8,10] z (fun c=>[(38,.bool c)]) (fun c=>blk q (.cells [.string qe,.int .u8 0,qi 0,qi 0,qs,qi 0,qi 0].toArray 54)::L) (fun c hh=>C = c) ?_ ?_
 ·have H:=D
  refine Rg<|Mv z<|Vv (V.not z)<|Mv z<|T.bH 30 H z (fun H=>?_) fun H=>?_
  ·refine Sk<|Sk<|Vv (V.R8 z z)<|Mv z<|Sk<|Sk<|Sk<|Vv (V.R8 z z)<|Nt<|T.mt true (O5 H)
  refine Mv z<|Vv (V.not z)<|Vv (V.R9 z z)<|Mv z<|T.bH 34 H z (fun H=>?_) fun H=>?_
  ·refine Sk<|Sk<|Sk<|Vv (V.R8 z z)<|Nt<|T.mt true (O5 H)
  refine Mv z<|Mv z<|Vv (V.ne z z)<|Vv (V.R9 z z)<|Nt<|T.mt (!decide (r = x)) (O5 H)
 rintro c ac ad G
 have H:=J8 G E
 refine T.norm [38,0,6,7,8,10] z<|T.fl ?_
 refine T.cH H z (fun H=>?_) fun H=>?_
 ·refine Sr<|Vv (V.bld (xs:=[]) (cs:=[_,_,_,_,_,_,_]) B4c B4f z F3.nil)<|To (O.stF (vs:=[.string qe,.int .u8 0,qi 0,qi 0,qs,qi 0,qi 0]) L9 z z (j:=0) z z z z<|Ag z<|Ag z<|Ag z<|Nt<|T.ret<|Tr ?_)
  cases H
  exact T.A4z (L':=L) results170 (RVs.cons (RV.cellS z (j:=0) z L9) (RVs.cons (RV.tmp z) (RVs.cons (RV.tmp z) (Rv z)))) Li (fun _ iv=>iv.drop) ⟨_,z,z,G6.nil⟩
 refine Ks<|Sr<|Mv z<|Mv z<|bE H fun b o H=>?_
 obtain ⟨ae,I,⟨J,rfl,p⟩⟩:=G6.at d o
 refine Vv (V.ix N9 z z d (G7 o))<|Vv (V.ldS z I.u (by exact L9)) ?_
 refine Mv z<|Mv z<|To (O.stF (vs:=[.string b.F8,.int .u8 b.O6,qi b.fA,qi b.fB,J,qi b.fX,qi b.fY]) L9 z z (j:=0) z z (by (simp only [Sl.ones,G6.one p,Bool.and_true,Bool.true_and]) <;> rfl) z ?_)
 refine Ag z<|Ag z<|Ag z<|Nt<|T.ret ?_
 cases H
 exact T.A4z (L':=L) results170 (RVs.cons (RV.cellS z (j:=0) z L9) (RVs.cons (RV.tmp z) (RVs.cons (RV.tmp z) (Rv z)))) Li (fun _ iv=>iv.drop) ⟨_,z,z,p.u⟩
theorem C1e {h b c d e f} (k:G6 F7 7 h b c) (H:A9D c d e = some f):∀ L,G8 prog 88 [b,.int .i64 d,.int .i64 e] h (L) (fun v h' L'=>v = .bool f∧L' = L):=by
 intro L
 refine G8.enter func88 z z z<|Sr<|Ag z<|Nt<|Sr<|Mv z<|Mv z<|Mv z<|bE H fun ⟨a,w,x,y⟩ m H=>To (O.D8 z (B6B k m _) z fun A B C D n=>?_)
 obtain ⟨g,rfl,o,i⟩:=n
 refine J9 _ o<|Mv z<|Vv (V.ext z z)<|Vv (V.ext z z)<|Vv (V.ext z z)<|Vv (V.ext z z)<|To (O.alloc A3n z z fun E=>To (O.stF (vs:=[.string a.F8,.int .u8 a.O6,qi a.fA,qi a.fB,g,qi a.fX,qi a.fY]) L9 z z (j:=0) z z (by (simp only [Sl.ones,G6.one i,Bool.and_true,Bool.true_and]) <;> rfl) z ?_))
 refine T.freeze fun G I p=>have q:=AtC.of p; Ag z<|Ag z<|Ag z<|Nt<|Sr<|Mv z<|Mv z<|T.bH 21 H z (fun H=>?_) fun H=>?_
 ·refine Vv (V.ldS z q (by exact L9)) ?_
  refine Mv z<|Mv z<|bE H fun J r H=>To (O.D8 z (A5M ⟨g,z,i.u⟩ r _) z fun K M N P s=>?_)
  obtain ⟨rfl,t⟩:=s
  exact J9 _ t<|Vv (V.R8 z z)<|Ag z<|Nt<|T.ret<|E1 H
 exact Sk<|Sk<|Sk<|Sk<|Vv (V.R9 z z)<|Ag z<|Nt<|T.ret<|E1 H
theorem C0s {h b c d e f} (k:G6 F7 7 h b c) (H:A9k c d e = some f):∀ L,G8 prog 90 [b,.int .i64 d,.int .i64 e] h (L) (fun v h' L'=>v = .bool f∧L' = L):=by
 intro L
 refine G8.enter func90 z z z<|Sr<|Ag z<|Nt<|Sr<|Mv z<|Mv z<|Mv z<|bE H fun ⟨a,w,x,y⟩ m H=>To (O.D8 z (B6B k m _) z fun A B C D n=>?_)
 obtain ⟨g,rfl,o,i⟩:=n
 refine J9 _ o<|Mv z<|Vv (V.ext z z)<|Vv (V.ext z z)<|Vv (V.ext z z)<|Vv (V.ext z z)<|To (O.alloc A3n z z fun E=>To (O.stF (vs:=[.string a.F8,.int .u8 a.O6,qi a.fA,qi a.fB,g,qi a.fX,qi a.fY]) L9 z z (j:=0) z z (by (simp only [Sl.ones,G6.one i,Bool.and_true,Bool.true_and]) <;> rfl) z ?_))
 refine T.freeze fun G I p=>have q:=AtC.of p; Ag z<|Ag z<|Ag z<|Nt<|Sr<|Mv z<|Mv z<|T.bH 21 H z (fun H=>?_) fun H=>?_
 ·refine Vv (V.ldS z q (by exact L9)) ?_
  refine Mv z<|Mv z<|bE H fun J r H=>To (O.D8 z (A5N ⟨g,z,i.u⟩ r _) z fun K M N P s=>?_)
  obtain ⟨rfl,t⟩:=s
  exact J9 _ t<|Vv (V.R8 z z)<|Ag z<|Nt<|T.ret<|E1 H
 exact Sk<|Sk<|Sk<|Sk<|Vv (V.R9 z z)<|Ag z<|Nt<|T.ret<|E1 H
end Go.Proofs.X
open Go Go.Proofs Go.Proofs.Tryz Go.Sl Go.Dm
namespace Go.Proofs.X
theorem B2V : A4f prog 106 = some ([.string ⟨#[]⟩,.string ⟨#[]⟩,.int .u8 (0)],[(0,1),(1,1),(2,1)]):=by kernel_rfl
theorem C4K : A4f prog 242 = some ([.slice none 0 0,.slice none 0 0,.map none],[(0,2),(2,1)]):=by kernel_rfl
theorem B2Y : A0q prog 106 = true:=by kernel_rfl
theorem C4s : A0q prog 242 = true:=by kernel_rfl
theorem A4U : N8 prog 106 0 = some 0:=by kernel_rfl
theorem A4E : N8 prog 106 1 = some 1:=by kernel_rfl
theorem A9V : N8 prog 106 2 = some 2:=by kernel_rfl
theorem A4J : N8 prog 239 0 = some 0:=by kernel_rfl
theorem A4P : N8 prog 239 1 = some 1:=by kernel_rfl
theorem A0O : N8 prog 242 0 = some 0:=by kernel_rfl
theorem A4I : N8 prog 242 1 = some 2:=by kernel_rfl
theorem X4 : N8 prog 39 0 = some 0:=by kernel_rfl
theorem A8h : N8 prog 39 1 = some 1:=by kernel_rfl
theorem A7T : N8 prog 39 2 = some 2:=by kernel_rfl
theorem A8a : N8 prog 39 3 = some 3:=by kernel_rfl
theorem A8f : N8 prog 39 4 = some 4:=by kernel_rfl
theorem A5K : N8 prog 39 5 = some 5:=by kernel_rfl
theorem V5 : N8 prog 39 8 = some 8:=by kernel_rfl
theorem A2x : N8 prog 58 0 = some 0:=by kernel_rfl
theorem A5A : N8 prog 58 1 = some 1:=by kernel_rfl
theorem B2X : X9 prog 104 = some (false,1):=by kernel_rfl
theorem A0G : X9 prog 106 = some (true,3):=by kernel_rfl
theorem A7t : X9 prog 240 = some (false,1):=by kernel_rfl
theorem I7 : X9 prog 29 = some (false,1):=by kernel_rfl
theorem Q4 : X9 prog 30 = some (false,1):=by kernel_rfl
theorem A0b : X9 prog 37 = some (false,1):=by kernel_rfl
theorem A3V : X9 prog 58 = some (true,2):=by kernel_rfl
theorem B0g {h d g} (H:A3P d = some g):∀ L,G8 prog 185 [.string d] h (L) (fun v h' L'=>v = .bool g∧L' = L):=by
 intro L
 refine G8.enter func185 z z z<|Sr<|Ag z<|Nt<|Sq<|Sq ?_
 obtain ⟨j,k,m⟩:=M5 H
 refine T.M7 (α:=Bool) [0] z (fun c=>[(11,.bool c)]) (fun c=>L) (fun c hh=>j = c) ?_ ?_
 ·have H:=k
  refine Rg<|Mv z<|Vv (V.B1f underlying9 z)<|Vv (V.eq z z)<|Mv z<|T.bH 7 H z (fun H=>?_) fun H=>?_
  ·refine Sk<|Sk<|Sk<|Vv (V.R8 z z)<|Nt<|T.mt true (O5 H)
  refine Mv z<|Vv (V.B1f underlying9 z)<|Vv (V.gt z z)<|Vv (V.R9 z z)<|Nt<|T.mt (decide ((12:Int) < (d.size:Int))) (O5 H)
 rintro c x y n
 have H:=J8 n m
 refine T.norm [11,0] z<|T.fl ?_
 refine T.cH H z (fun H=>?_) fun H=>?_
 ·exact Sr<|Ag z<|Nt<|T.ret<|Tr<|E1 H
 refine Ks<|Sq<|Sr<|Mv z<|Vv (V.B1f underlying9 z)<|Mv z<|Nt ?_
 obtain ⟨i,o,f⟩:=M5 H
 refine T.M7 (α:=Unit) [] z (fun _u=>[]) (fun _u=>L) (fun _u hh=>i = (Sum.inl ())) ?_ ?_
 ·have H:=o
  refine Bl<|T.M8 (α:=Nat×Int) [0,13] z (fun ⟨a,b⟩=>[(14,qi b)]) (fun ⟨a,b⟩=>L) (fun ⟨a,b⟩ hh=>iter (A6F d) a b = some i) (fun ⟨a,b⟩=>a) (FUEL,(0:Int)) ⟨z,trivial⟩ z H ?_
  rintro ⟨a,b⟩ A B p
  obtain ⟨q,C,rfl,H,e⟩:=I1 p
  refine T.norm [14,0,13] z<|T.fl ?_
  refine Sr<|Vv (V.lt z z)<|Nt<|Sq<|T.cH H z (fun H=>?_) fun H=>?_
  ·refine Ks<|Sq<|Bl<|Sr<|Mv z<|Ag z<|Nt<|Sr<|Mv z<|Mv z<|bE H fun D r H=>Vv (V.C6l underlying9 z z r)<|Vv (V.lt z z)<|Mv z<|T.bH 21 H z (fun H=>?_) fun H=>?_
   ·exact Sk<|Sk<|Sk<|Sk<|Vv (V.R8 z z)<|Nt<|Ct z<|Sr<|Ag z<|Nt<|T.ret<|Br<|Tr<|Tr<|have H:=D9 H e; Br<|Tr<|have H:=J8 H f; E1 H
   refine Mv z<|Mv z<|bE H fun E s H=>Vv (V.C6l underlying9 z z s)<|Vv (V.gt z z)<|Vv (V.R9 z z)<|Nt<|T.cH H z (fun H=>?_) fun H=>?_
   ·exact Sr<|Ag z<|Nt<|T.ret<|Br<|Tr<|Tr<|have H:=D9 H e; Br<|Tr<|have H:=J8 H f; E1 H
   refine T.skip<|Bn<|Th<|Rg<|bE H fun t u H=>Vv (V.J2 z z u)<|Mv z<|Nt<|T.ag (q,t) (F4 H e)
  refine T.exit<|Te<|Te<|have H:=D9 H e; Be<|Th<|T.mt () H
 rintro _ G I w
 have H:=J8 w f
 refine T.norm [] z<|T.fl ?_
 exact Sr<|Ag z<|Nt<|T.ret<|E1 H
theorem A9J {h a b} (H:A6o a = some b):∀ L,G8 prog 186 [.string a] h (L) (fun v h' L'=>v = .bool b∧L' = L):=by
 intro L
 refine G8.enter func186 z z z<|Sr<|Ag z<|Nt<|Sr<|Mv z<|Vv (V.seq z z)<|Mv z<|T.bH 5 H z (fun H=>?_) fun H=>?_
 ·exact Sk<|Sk<|Vv (V.R8 z z)<|Ag z<|Nt<|T.ret<|E1 H
 refine Mv z<|bE H fun f c H=>To (O.D8 z (B0g c _) z fun g i j k d=>?_)
 obtain ⟨rfl,e⟩:=d
 exact J9 _ e<|Vv (V.R9 z z)<|Ag z<|Nt<|T.ret<|E1 H
theorem B2t {h n e o} (t:F9 h n e) (H:A5q e = some o):∀ L,G8 prog 99 [.agg n.toArray] h (L) (fun v h' L'=>v = .int .i64 o∧L' = L):=by
 intro L
 obtain ⟨ax,rfl,b⟩:=t
 refine G8.enter func99 z z z<|Sr<|To (O.Y0 z z z fun ay aA aB a=>Ag z<|Nt<|Sq<|Bl<|Sq ?_)
 obtain ⟨w,x,y⟩:=M5 H
 refine T.M7 (α:=Bool) [1] z (fun f=>[(5,.bool f)]) (fun f=>L) (fun f hh=>w = f) ?_ ?_
 ·have H:=x
  refine Rg<|Vv (V.fa X4 z)<|Vv (V.I9 (k:=0) H9 z a z)<|bE H fun aC A H=>To (O.D8 z (B0g A _) z fun aD aE aG aI B=>?_)
  obtain ⟨rfl,C⟩:=B
  refine J9 _ C<|Vv (V.not z)<|Mv z<|T.bH 10 H z (fun H=>?_) fun H=>?_
  ·refine Sk<|Sk<|Sk<|Sk<|Vv (V.R8 z z)<|Mv z<|Sk<|Sk<|Sk<|Sk<|Vv (V.R8 z z)<|Mv z<|Sk<|Sk<|Sk<|Sk<|Vv (V.R8 z z)<|Ag z<|Nt<|T.mt true (O5 H)
  refine Vv (V.fa A8h z)<|Vv (V.I9 (k:=1) H9 z a.u z)<|bE H fun aJ D H=>To (O.D8 z (A9J D _) z fun aK aM aN aO E=>?_)
  obtain ⟨rfl,G⟩:=E
  refine J9 _ G<|Vv (V.not z)<|Vv (V.R9 z z)<|Mv z<|T.bH 16 H z (fun H=>?_) fun H=>?_
  ·refine Sk<|Sk<|Sk<|Sk<|Vv (V.R8 z z)<|Mv z<|Sk<|Sk<|Sk<|Sk<|Vv (V.R8 z z)<|Ag z<|Nt<|T.mt true (O5 H)
  refine Vv (V.fa A7T z)<|Vv (V.I9 (k:=2) H9 z a.u z)<|bE H fun aP I H=>To (O.D8 z (A9J I _) z fun aS aU aV aW J=>?_)
  obtain ⟨rfl,K⟩:=J
  refine J9 _ K<|Vv (V.not z)<|Vv (V.R9 z z)<|Mv z<|T.bH 22 H z (fun H=>?_) fun H=>?_
  ·refine Sk<|Sk<|Sk<|Sk<|Vv (V.R8 z z)<|Ag z<|Nt<|T.mt true (O5 H)
  refine Vv (V.fa A5K z)<|Vv (V.I9 (k:=5) H9 z a.u z)<|bE H fun M N H=>To (O.D8 z (A9J N _) z fun aX aY aZ a0 P=>?_)
  obtain ⟨rfl,S⟩:=P
  refine J9 _ S<|Vv (V.not z)<|Vv (V.R9 z z)<|Ag z<|Nt<|T.mt (!M) (O5 H)
 rintro f a1 a2 U
 have H:=J8 U y
 refine T.norm [5,1] z<|T.fl ?_
 refine T.cH H z (fun H=>?_) fun H=>?_
 ·exact Sr<|Ag z<|Nt<|T.ret<|Br<|Tr<|E1 H
 refine Sq ?_
 obtain ⟨W,X,Y⟩:=M5 H
 refine T.M7 (α:=Bool) [1] z (fun g=>[(28,.bool g)]) (fun g=>L) (fun g hh=>W = g) ?_ ?_
 ·have H:=X
  refine Rg<|Vv (V.fa A8a z)<|Vv (V.I9 (k:=3) E8 z a.u z)<|Vv (V.lt z z)<|Mv z<|T.bH 32 H z (fun H=>?_) fun H=>?_
  ·refine Sk<|Sk<|Sk<|Vv (V.R8 z z)<|Ag z<|Nt<|T.mt true (O5 H)
  refine Vv (V.fa A8a z)<|Vv (V.I9 (k:=3) E8 z a.u z)<|Vv (V.gt z z)<|Vv (V.R9 z z)<|Ag z<|Nt<|T.mt (decide ((9999:Int) < e.V3)) (O5 H)
 rintro g a3 a4 Z
 have H:=J8 Z Y
 refine T.norm [28,1] z<|T.fl ?_
 refine T.cH H z (fun H=>?_) fun H=>?_
 ·exact Sr<|Ag z<|Nt<|T.ret<|Br<|Tr<|E1 H
 refine Sq ?_
 obtain ⟨aa,ab,ac⟩:=M5 H
 refine T.M7 (α:=Bool) [1] z (fun i=>[(37,.bool i)]) (fun i=>L) (fun i hh=>aa = i) ?_ ?_
 ·have H:=ab
  refine Rg<|Vv (V.fa A8f z)<|Vv (V.I9 (k:=4) E8 z a.u z)<|Vv (V.lt z z)<|Mv z<|T.bH 41 H z (fun H=>?_) fun H=>?_
  ·refine Sk<|Sk<|Sk<|Vv (V.R8 z z)<|Ag z<|Nt<|T.mt true (O5 H)
  refine Vv (V.fa A8f z)<|Vv (V.I9 (k:=4) E8 z a.u z)<|Vv (V.gt z z)<|Vv (V.R9 z z)<|Ag z<|Nt<|T.mt (decide ((2:Int) < e.A0f)) (O5 H)
 rintro i a5 a6 ad
 have H:=J8 ad ac
 refine T.norm [37,1] z<|T.fl ?_
 refine T.cH H z (fun H=>?_) fun H=>?_
 ·exact Sr<|Ag z<|Nt<|T.ret<|Br<|Tr<|E1 H
 refine Sr<|Vv (V.fa V5 z)<|Vv (V.I9 (k:=8) A0b z a.u z)<|Vv (V.P9 A0a z b)<|Vv (V.gt z z)<|Ag z<|Nt<|T.cH H z (fun H=>?_) fun H=>?_
 ·exact Sr<|Ag z<|Nt<|T.ret<|Br<|Tr<|E1 H
 refine T.skip<|Bn<|Th<|Sq<|Sr<|Vv (V.fa V5 z)<|Vv (V.I9 (k:=8) A0b z a.u z)<|Vv (V.P9 A0a z b)<|Mv z<|Nt ?_
 obtain ⟨p,ae,m⟩:=M5 H
 refine T.M7 (α:=Unit) [] z (fun _u=>[]) (fun _u=>L) (fun _u hh=>p = (Sum.inl ())) ?_ ?_
 ·have H:=ae
  refine Bl<|T.M8 (α:=Nat×Int) [1,52,53] z (fun ⟨c,d⟩=>[(54,qi d)]) (fun ⟨c,d⟩=>L) (fun ⟨c,d⟩ hh=>iter (A3X e) c d = some p) (fun ⟨c,d⟩=>c) (FUEL,(0:Int)) ⟨z,trivial⟩ z H ?_
  rintro ⟨c,d⟩ a7 a8 af
  obtain ⟨q,a9,rfl,H,j⟩:=I1 af
  refine T.norm [54,1,52,53] z<|T.fl ?_
  refine Sr<|Vv (V.lt z z)<|Nt<|Sq<|T.cH H z (fun H=>?_) fun H=>?_
  ·refine Ks<|Sq<|Bl<|Sr<|Mv z<|bE H fun ah r H=>?_
   obtain ⟨al,ai,rfl⟩:=G6.at b r
   refine Vv (V.ix A0a z z b (G7 r))<|Vv (V.ld0 H9 z ai.u z)<|Ag z<|Ag z<|Nt<|Sr<|Mv z<|bE H fun av aj H=>To (O.D8 z (B0g aj _) z fun az ba bb bc ak=>?_)
   obtain ⟨rfl,am⟩:=ak
   refine J9 _ am<|Vv (V.not z)<|Mv z<|T.bH 62 H z (fun H=>?_) fun H=>?_
   ·exact Sk<|Sk<|Sk<|Sk<|Sk<|Sk<|Sk<|Sk<|Sk<|Sk<|Sk<|Sk<|Vv (V.R8 z z)<|Nt<|Ct z<|Sr<|Ag z<|Nt<|T.ret<|Br<|Tr<|Tr<|have H:=D9 H j; Br<|Tr<|have H:=J8 H m; E1 H
   refine Mv z<|Vv (V.gt z z)<|Mv z<|T.bH 65 H z (fun H=>?_) fun H=>?_
   ·refine Vv (V.fa V5 z)<|Vv (V.I9 (k:=8) A0b z a.u z)<|Mv z<|bE H fun bd an H=>Vv (V.A1s z z an)<|bE H fun be s H=>?_
    obtain ⟨bf,ao,rfl⟩:=G6.at b s
    refine Vv (V.ix A0a z z b (G7 s))<|Vv (V.ld0 H9 z ao.u z)<|Mv z<|Vv (V.sge z z)<|Vv (V.R8 z z)<|Vv (V.R9 z z)<|Nt<|T.cH H z (fun H=>?_) fun H=>?_
    ·exact Sr<|Ag z<|Nt<|T.ret<|Br<|Tr<|Tr<|have H:=D9 H j; Br<|Tr<|have H:=J8 H m; E1 H
    refine T.skip<|Bn<|Th<|Rg<|bE H fun ap aq H=>Vv (V.J2 z z aq)<|Mv z<|Nt<|T.ag (q,ap) (F4 H j)
   refine Sk<|Sk<|Sk<|Sk<|Sk<|Sk<|Sk<|Sk<|Vv (V.R9 z z)<|Vv (V.R9 z z)<|Nt<|Cf z<|T.skip<|Bn<|Th<|Rg<|bE H fun ar au H=>Vv (V.J2 z z au)<|Mv z<|Nt<|T.ag (q,ar) (F4 H j)
  refine T.exit<|Te<|Te<|have H:=D9 H j; Be<|Th<|T.mt () H
 rintro _ bg bi aw
 have H:=J8 aw m
 refine T.norm [] z<|T.fl ?_
 exact Sr<|Ag z<|Nt<|T.ret<|E1 H
theorem B9a {h c a b} (f:F9 h c a) (H:A7X a = some b):∀ L,G8 prog 241 [.agg c.toArray] h (L) (fun v h' L'=>∃ v0_1,v = .agg #[.string b.F8,.string b.A0k,.string b.V9,.int .i64 b.V3,.int .i64 b.A0f,.string b.Z0,.bool b.A0u,.bool b.U2,v0_1]∧L' = L∧G6 VS 1 h' v0_1 b.M6):=by
 intro L
 obtain ⟨w,rfl,g⟩:=f
 refine G8.enter func241 z z z<|Sr<|To (O.box z z z fun x=>To (O.alloc A1B z z fun y=>Nt<|Sr<|Vv (V.fa V5 z)<|Vv (V.ldO (k:=8) A0b z (j:=1) z z)<|bE H fun A i H=>To (O.D8 z (A3Z g i _) z fun d B C D m=>?_)))
 obtain ⟨E,n,o⟩:=m
 refine J9 _ n<|Vv (V.fa V5 z)<|T.J7 0 z fun p q=>To (O.st (vs:=[d]) (k:=8) A0b z z (j:=2) z q (by (simp only [Sl.ones,p,Bool.and_true,Bool.true_and]) <;> rfl) ?_)
 refine T.fl ?_
 refine Nt<|Sr<|Vv (V.A3T (j:=0) (by exact Z7) z z) ?_
 refine G5 1 z<|T.fl ?_
 refine T.J5 fun G I r=>have e:=A7.Z4 r o.u; To (O.stF (vs:=[.string a.F8,.string a.A0k,.string a.V9,qi a.V3,qi a.A0f,.string a.Z0,.bool a.A0u,.bool a.U2,d]) Z7 z z (j:=1) z z (by (simp only [Sl.ones,G6.one e,Bool.and_true,Bool.true_and]) <;> rfl) z ?_)
 refine T.freeze fun J K s=>have t:=AtC.of s; Nt<|T.ret<|T.drop ?_
 cases H
 exact T.rl z (RVs.cons (RV.B0y z t Z7) RVs.nil) ⟨_,z,z,e.u⟩
theorem A9L {h a b c} (H:bytealg_CompareString a b = some c):∀ L,G8 prog 204 [.string a,.string b] h (L) (fun v h' L'=>v = .int .i64 c∧L' = L):=by
 intro L
 refine G8.enter func204 z z z<|Sr<|Ag z<|Nt<|Sr<|Mv z<|Mv z<|Vv (V.D2J func268 (by kernel_rfl) z (by kernel_rfl) (by kernel_rfl) z z) ?_
 exact Ag z<|Nt<|T.ret<|E1 H
theorem A8M {h a b c} (H:strings_Compare a b = some c):∀ L,G8 prog 118 [.string a,.string b] h (L) (fun v h' L'=>v = .int .i64 c∧L' = L):=by
 intro L
 refine G8.enter func118 z z z<|Sr<|Ag z<|Nt<|Sr<|Mv z<|Mv z<|bE H fun g d H=>To (O.D8 z (A9L d _) z fun i j k m e=>?_)
 obtain ⟨rfl,f⟩:=e
 exact J9 _ f<|Ag z<|Nt<|T.ret<|E1 H
theorem B2k {h a b c d e} (i:H7 h a b) (j:H7 h c d) (H:A1o b d = some e):∀ L,G8 prog 175 [.agg a.toArray,.agg c.toArray] h (L) (fun v h' L'=>v = .int .i64 e∧L' = L):=by
 intro L
 obtain rfl:=i
 obtain rfl:=j
 refine G8.enter func175 z z z<|Sr<|To (O.Y0 z z z fun s t w f=>To (O.Y0 z z z fun x y A g=>Ag z<|Nt<|Sq<|Sr<|Vv (V.fa A4U z)<|Vv (V.I9 (k:=0) H9 z f.u z)<|Vv (V.fa A4U z)<|Vv (V.I9 (k:=0) H9 z g z)<|bE H fun B m H=>To (O.D8 z (A8M m _) z fun C D E G n=>?_)))
 obtain ⟨rfl,o⟩:=n
 refine J9 _ o<|Ag z<|Nt<|Sr<|Mv z<|Vv (V.ne z z)<|Nt<|T.cH H z (fun H=>?_) fun H=>?_
 ·exact Sr<|Mv z<|Ag z<|Nt<|T.ret<|Tr<|E1 H
 refine Ks<|Sr<|Vv (V.fa A4E z)<|Vv (V.I9 (k:=1) H9 z f.u z)<|Vv (V.fa A4E z)<|Vv (V.I9 (k:=1) H9 z g.u z)<|bE H fun I p H=>To (O.D8 z (A8M p _) z fun J K M N q=>?_)
 obtain ⟨rfl,r⟩:=q
 exact J9 _ r<|Ag z<|Nt<|T.ret<|E1 H
theorem B4K {h a b d c} (H:A6r a b d = some c):∀ L,G8 prog 243 [.string a,.string b,.int .u8 d] h (L) (fun v h' L'=>v = .agg #[.string c.fA,.string c.fB,.int .u8 c.H8]∧L' = L):=by
 intro L
 refine G8.enter func243 z z z<|Sr<|To (O.alloc A6c z z fun g=>Nt<|Sr<|Mv z<|Mv z<|Vv (V.minS z z)<|Mv z<|Mv z<|Vv (V.maxS z z)<|Mv z<|Vv (V.bld (xs:=[(0,.tmp 9),(1,.tmp 12),(2,.tmp 13)]) (cs:=[_,_,_]) B2V B2Y z (F3.cons z z z (F3.cons z z z (F3.cons z z z F3.nil))))<|To (O.stF (vs:=[.string (minS a b),.string (maxS a b),.int .u8 d]) A0G z z (j:=0) z z z z<|T.freeze fun i k e=>have f:=AtC.of e; Nt<|T.ret ?_))
 cases H
 exact T.rl z (RVs.cons (RV.B0y z f A0G) RVs.nil) ⟨z,z⟩
theorem C3G {h a} (H:B4l  = some a):∀ L,G8 prog 173 [] h (L) (fun v h' L'=>∃ b vo0_1 csso0_2 vo0_4 csso0_5 mbo0_7 eso0_8,v = .pointer (some ⟨b,0,none⟩)∧L' = blk b (.cells [vo0_1,vo0_4,.map (some mbo0_7)].toArray 242)::D5 39 9 vo0_1 csso0_2::D5 106 3 vo0_4 csso0_5::blk mbo0_7 (.map eso0_8.toArray eso0_8.length)::L∧A7 F9 h' csso0_2 a.K5.Z8∧A7 H7 h' csso0_5 a.K5.A1z∧A0v Value.string false (VI .i64) h' 0 eso0_8 a.fat):=by
 intro L
 refine G8.enter func173 z z z<|Sr<|Ag z<|Nt<|Sr<|To (O.mkM z fun f=>have c:A0v Value.string false (VI .i64) h 0 ([]:List MapEntry) ([]:List (ByteArray×Int)):=trivial; Vv (V.bld (xs:=[(1,.tmp 1)]) (cs:=[_,_,_]) C4K C4s z (F3.cons z z z F3.nil))<|To (O.box z z z fun g=>Ag z<|Nt<|T.ret<|T.U9 39 9<|have d:A7 F9 h [] ([]:List D6):=A7.nil; T.U9 106 3<|have e:A7 H7 h [] ([]:List F5):=A7.nil; G5 3 z<|T.fl ?_))
 refine G5 1 z<|T.fl ?_
 refine G5 2 z<|T.fl ?_
 refine G5 3 z<|T.fl ?_
 cases H
 exact T.rl z (Rv z) ⟨_,_,_,_,_,_,_,z,z,d,e,c⟩
theorem A8e {h a b c} (d:Pt A1c h a b) (H:A4s b = some c):∀ L,G8 prog 181 [a] h (L) (fun v h' L'=>v = .bool c∧L' = L):=by
 intro L
 refine G8.enter func181 z z z<|Sr<|Ag z<|Nt<|Sr<|Mv z<|have e:=d; ?_
 obtain ⟨j,_,rfl,f,⟨m,n,o,rfl,p,q,g⟩⟩:=e
 refine Vv (V.C7H underlying156 z)<|Mv z<|Mv z<|Vv (V.S9 z)<|Vv (V.fa A4I z)<|Vv (V.I9 (k:=2) A7t z f z)<|have i:=g; ?_
 obtain ⟨r,_,rfl,_⟩:=i
 exact Vv (V.D1T underlying240 z)<|Vv (V.R9 z z)<|Ag z<|Nt<|T.ret<|E1 H
theorem C3D {h q i r a s m w x} (e:G6 H7 3 h q i) (G:H7 h r a) (y:A7y h s m) (H:B0G i a m = some (w,x)):∀ L,G8 prog 246 [q,.agg r.toArray,s] h (L) (fun v h' L'=>v = .tuple #[.int .i64 w,.bool x]∧L' = L):=by
 intro L
 obtain rfl:=G
 refine G8.enter func246 z z z<|Sr<|To (O.Y0 z z z fun ao ap aq A=>Ag z<|Ag z<|Nt<|Sr<|Mv z<|Vv (V.P9 X3 z e)<|Ag z<|Nt<|Sr<|Mv z<|Ag z<|Ag z<|Nt<|Sq ?_)
 obtain ⟨B,I,J⟩:=M5 H
 refine T.M7 (α:=Int) [0,2,4,8] z (fun f=>[(9,qi f)]) (fun f=>L) (fun f hh=>B = f) ?_ ?_
 ·have H:=I
  refine Bl<|T.M8 (α:=Nat×Int×Int) [0,2,4,8] z (fun ⟨d,c,b⟩=>[(10,qi c),(9,qi b)]) (fun ⟨d,c,b⟩=>L) (fun ⟨d,c,b⟩ hh=>iter (A1l i a m) d (c,b) = some B) (fun ⟨d,c,b⟩=>d) (FUEL,(i.length:Int),(0:Int)) ⟨z,z,trivial⟩ z H ?_
  rintro ⟨d,c,b⟩ n ar K
  obtain ⟨C,au,rfl,H,o⟩:=I1 K
  refine T.norm [10,9,0,2,4,8] z<|T.fl ?_
  refine Sq<|Sr<|Mv z<|Mv z<|Vv (V.lt z z)<|Nt<|T.cH H z (fun H=>?_) fun H=>?_
  ·refine Ks<|Bl<|Sr<|Mv z<|Mv z<|bE H fun aw M H=>Vv (V.J2 z z M)<|bE H fun ax N H=>Vv (V.A4v underlying3 underlying264 z N)<|bE H fun ay P H=>Vv (V.A5x z z P)<|bE H fun S U H=>Vv (V.A4v underlying264 underlying3 z U)<|Ag z<|Nt<|Sq<|T.O1 (t:=(.vs [0,1,2,3,4,5] (.alt 6 (.g (.v 7 .done)) .no))) 9 0 0 z z I4 (by kernel_rfl) ?_
   refine Tm z z<|Tm z z<|Tm z z<|bE H fun j D H=>?_
   obtain ⟨aA,W,rfl⟩:=G6.at e D
   refine Tv z (V.ix X3 z z e (G7 D))<|Tv z (V.ldS z W.u (by exact A0G)) ?_
   refine Tv z (V.ldS z A.u (by exact A0G)) ?_
   refine bE H fun aB X H=>?_
   obtain ⟨aC,aD,aE,Y,Z⟩:=A7y.call (y.u (g:=n)) (show H7 n [.string j.fA,.string j.fB,.int .u8 j.H8] j from rfl) (show H7 n [.string a.fA,.string a.fB,.int .u8 a.H8] a from rfl) X
   refine Tp z z (SX.two (XA.fr [] Lr z) (XA.fr [] Lr z)) (O.A1d z Y z (Z _) z fun aG aI aJ aK aa=>?_) T.O9
   obtain ⟨rfl,ab⟩:=aa
   refine J9 _ ab<|T.O3 Li<|Tv z (V.lt z z)<|T.R7 (SX.two (XA.fr [] Lr z) (XA.fr [] Lr z))<|Th<|T.cH H z (fun H=>?_) fun H=>?_
   ·refine Rg<|Mv z<|bE H fun ac ad H=>Vv (V.J2 z z ad)<|Ag z<|Ni<|Bn<|Th<|T.ag (C,c,ac) (F4 H o)
   refine Rg<|Mv z<|Ag z<|Ni<|Bn<|Th<|T.ag (C,S,b) (F4 H o)
  refine T.exit<|Te<|Te<|have H:=D9 H o; Be<|Th<|T.mt b H
 rintro f p aM ae
 have H:=J8 ae J
 refine T.norm [9,0,2,4,8] z<|T.fl ?_
 refine Sq<|T.O1 (t:=(.vs [0,1,2,3,4,5,6,7,8,9,10] (.alt 11 (.g (.v 12 (.v 13 (.alt 14 (.alt 15 .done .no) .no)))) .no))) 17 0 0 z z I4 (by kernel_rfl) ?_
 refine Tm z z<|Tm z z<|Tm z z<|Tv z (V.lt z z)<|Tm z z<|T.bH 39 H z (fun H=>?_) fun H=>?_
 ·refine Tm z z<|Tm z z<|Tm z z<|bE H fun k E H=>?_
  obtain ⟨aN,af,rfl⟩:=G6.at e E
  refine Tv z (V.ix X3 z z e (G7 E))<|Tv z (V.ldS z af.u (by exact A0G)) ?_
  refine Tv z (V.ldS z A.u (by exact A0G)) ?_
  refine bE H fun aO ai H=>?_
  obtain ⟨aP,aS,aU,aj,ak⟩:=A7y.call (y.u (g:=p)) (show H7 p [.string k.fA,.string k.fB,.int .u8 k.H8] k from rfl) (show H7 p [.string a.fA,.string a.fB,.int .u8 a.H8] a from rfl) ai
  refine Tp z z (SX.two (XA.fr [] Lr z) (XA.fr [] Lr z)) (O.A1d z aj z (ak _) z fun aV aW aX aY am=>?_) T.O9
  obtain ⟨rfl,an⟩:=am
  refine J9 _ an<|T.O3 Li<|Tv z (V.eq z z)<|Tv z (V.R8 z z)<|Ts z z (SX.two (XA.fr [] Lr z) (XA.fr [] Lr z)) (V.asg z) z ?_ T.O9
  refine Ts z z (SX.two (XA.fr [] Lr z) (XA.fr [] Lr z)) (V.asg z) z ?_ T.O9
  exact T.R7 (SX.two (XA.fr [] Lr z) (XA.fr [] Lr z))<|Th<|T.ret<|E1 H
 refine Tk z<|Tk z<|Tk z<|Tk z<|Tk z<|Tk z<|T.C5F z z (SX.two (XA.fr [] Lr z) (XA.fr [] Lr z)) z ?_ T.O9
 refine T.O3 Lr<|Tk z<|Tv z (V.R9 z z)<|Ts z z (SX.two (XA.fr [] Lr z) (XA.fr [] Lr z)) (V.asg z) z ?_ T.O9
 refine Ts z z (SX.two (XA.fr [] Lr z) (XA.fr [] Lr z)) (V.asg z) z ?_ T.O9
 exact T.R7 (SX.two (XA.fr [] Lr z) (XA.fr [] Lr z))<|Th<|T.ret<|E1 H
theorem C4g {h d b e f g i k} (a:A7 H7 h b e) (m:G6 H7 3 h g i) (H:B7S e f i = some k):∀ L,G8 prog 242 [d,.int .i64 f,g] h (D5 106 3 d b::L) (fun v h' L'=>∃ n,L' = D5 106 3 v n::L∧A7 H7 h' n k):=by
 intro L
 refine G8.enter func242 z z z<|Sr<|Ag z<|Nt<|Sr<|Mv z<|Mv z<|bE H fun w q H=>Vv (V.C1S X3 z (j:=0) z a.len (.inr ⟨_,_,z,z⟩) (.inl ⟨z,z⟩) (A1I q))<|Nt<|Sr<|Mv z<|Vv (V.P9 X3 z m)<|Ag z<|Nt<|Sq<|Sr<|Mv z<|Vv (V.eq z z)<|Nt<|T.cH H z (fun H=>?_) fun H=>?_
 ·refine Sr<|Mv z<|Ag z<|Nt<|T.ret<|Tr ?_
  cases H
  exact T.rl z (Rv z) ⟨_,z,a⟩
 refine Ks<|Sr<|Mv z<|Vv (V.A2a X3 z (j:=0) z a.len)<|Ag z<|Nt<|Sq<|Sr<|Mv z<|Mv z<|Vv (V.eq z z)<|Nt<|T.cH H z (fun H=>?_) fun H=>?_
 ·refine Sr<|Mv z<|Mv z ?_
  obtain ⟨r,o,c⟩:=G6.row m
  refine bE H fun s p H=>To (O.apX X3 X3 A6c z z z (j:=0) z (Src.fix o) o.wide (A7.ones H7.plain c) a c p z fun x y A=>have t:A7 H7 h (b ++ r) s:=A7.ap a c p; Ag z<|Nt<|T.ret<|Tr ?_)
  cases H
  exact T.rl z (Rv z) ⟨_,z,t⟩
 refine Ks<|Sq<|Sr<|Mv z<|Mv z<|bE H fun B u H=>Vv (V.J2 z z u)<|Mv z<|dead H
theorem B5v {h b c d e f i} (m:Pt A1c h b c) (H:A2G c d e = some (f,i)):∀ L,G8 prog 182 [b,.string d,.string e] h (L) (fun v h' L'=>v = .tuple #[.int .i64 f,.bool i]∧L' = L):=by
 intro L
 refine G8.enter func182 z z z<|Sr<|Ag z<|Ag z<|Nt<|Sq<|T.O1 (t:=(.vs [0,1,2,3,4,5,6] (.alt 7 (.g (.alt 8 (.g (.v 9 (.v 10 (.alt 11 (.alt 12 .done .no) .no)))) .no)) .no))) 14 0 0 z z I4 (by kernel_rfl) ?_
 refine Tm z z<|have n:=m; ?_
 obtain ⟨E,_,rfl,o,⟨G,I,J,rfl,K,p,M⟩⟩:=n
 refine Tv z (V.S9 z)<|Tv z (V.fa A0O z)<|Tv z (V.fa A4P z)<|Tv z (V.I9 (k:=1) Q4 z o z)<|Tm z z<|Tm z z<|bE H fun a q H=>Tp z z (SX.two (XA.fr [] Lr z) (XA.fr [] Lr z)) (O.D8 z (B4K q _) z fun N j P S r=>?_) T.O9
 obtain ⟨rfl,s⟩:=r
 refine J9 _ s<|T.O3 Li<|bE H fun ⟨U,W⟩ w H=>Tp z z (SX.two (XA.fr [] Lr z) (XA.fr [] Lr z)) (O.D8 z (C3D p.u (show H7 j [.string a.fA,.string a.fB,.int .u8 a.H8] a from z) (show A7y j (.func (.func 175) #[] #[]) A1o from ⟨⟨z,z⟩,.inr ⟨175,[],[],z,fun X Y Z aa x ab ac y ad A B=>B2k x y A B⟩⟩) w _) z fun ae af ag ai C=>?_) T.O9
 obtain ⟨rfl,D⟩:=C
 refine J9 _ D<|T.O3 Li<|Tv z (V.ext z z)<|Tv z (V.ext z z)<|Ts z z (SX.two (XA.fr [] Lr z) (XA.fr [] Lr z)) (V.asg z) z ?_ T.O9
 refine Ts z z (SX.two (XA.fr [] Lr z) (XA.fr [] Lr z)) (V.asg z) z ?_ T.O9
 exact T.R7 (SX.two (XA.fr [] Lr z) (XA.fr [] Lr z))<|Th<|T.ret<|E1 H
theorem C4G {h f b v0_1 css0_2 v0_4 css0_5 mb0_7 es0_8 o p q q_0} (hR0_3:A7 F9 h css0_2 b.K5.Z8) (hR0_6:A7 H7 h css0_5 b.K5.A1z) (hM0_9:A0v Value.string false (VI .i64) h 0 es0_8 b.fat) (D:F9 h o p) (H:B9V b p = some (q,q_0)):∀ L,G8 prog 174 [.pointer (some ⟨f,0,none⟩),.agg o.toArray] h (blk f (.cells [v0_1,v0_4,.map (some mb0_7)].toArray 242)::D5 39 9 v0_1 css0_2::D5 106 3 v0_4 css0_5::blk mb0_7 (.map es0_8.toArray es0_8.length)::L) (fun v h' L'=>∃ vl0_1 cssl0_2 vl0_4 cssl0_5 mbl0_7 esl0_8,v = .int .i64 q∧L' = blk f (.cells [vl0_1,vl0_4,.map (some mbl0_7)].toArray 242)::D5 39 9 vl0_1 cssl0_2::D5 106 3 vl0_4 cssl0_5::blk mbl0_7 (.map esl0_8.toArray esl0_8.length)::L∧A7 F9 h' cssl0_2 q_0.K5.Z8∧A7 H7 h' cssl0_5 q_0.K5.A1z∧A0v Value.string false (VI .i64) h' 0 esl0_8 q_0.fat):=by
 intro L
 obtain ⟨s,rfl,w⟩:=D
 refine G8.enter func174 z z z<|Sr<|To (O.Y0 z z z fun aq ar au c=>Ag z<|Nt<|Sq<|Sr<|Mv z<|bE H fun d G H=>To (O.D8 z (G8.A0W (val:=.bool d) func181 z B2G fun aw ax I=>G8.A0W (val:=.bool d) func181 z V8 fun ay aA J=>G8.A0W (val:=.bool d) func181 z V8 fun aB aC K=>G8.A0W (val:=.bool d) func181 z C8y fun M aD N=>?_) z fun aE aG aI aJ P=>?_))
 ·have S:=A7.Z4 J hR0_3.u
  have U:=A7.Z4 K hR0_6.u
  have W:Mp Value.string false (VI .i64) M (.map (some mb0_7)) b.fat:=⟨_,_,z,N,hM0_9.u⟩
  exact A8e (Pt.mk I.u ⟨v0_1,v0_4,(.map (some mb0_7)),z,S.u,U.u,W⟩) G _
 obtain ⟨rfl,X⟩:=P
 refine J9 _ X<|Nt<|T.cH H z (fun H=>?_) fun H=>?_
 ·refine Sr<|Ag z<|Nt<|T.ret<|Tr ?_
  cases H
  exact T.rl z (Rv z) ⟨_,_,_,_,_,_,z,z,hR0_3.u,hR0_6.u,hM0_9.u⟩
 refine Ks<|Sq<|Sr<|Vv (V.ldS z c.u (by exact Z7)) ?_
 refine bE H fun aK Y H=>To (O.D8 z (B2t ⟨s,z,w.u⟩ Y _) z fun aM y aN aO Z=>?_)
 obtain ⟨rfl,aa⟩:=Z
 refine J9 _ aa<|Ag z<|Nt<|Sr<|Mv z<|Vv (V.ne z z)<|Nt<|T.cH H z (fun H=>?_) fun H=>?_
 ·refine Sr<|Mv z<|Ag z<|Nt<|T.ret<|Tr ?_
  cases H
  exact T.rl z (Rv z) ⟨_,_,_,_,_,_,z,z,hR0_3.u,hR0_6.u,hM0_9.u⟩
 refine Ks<|Sq<|Sq<|G5 3 z<|T.fl ?_
 refine G5 1 z<|T.fl ?_
 refine T.O1 (t:=(.vs [0,1,2,3,4,5,6,7,8,9] (.alt 10 (.alt 11 .done .no) .no))) 13 2 2 z z I4 (by kernel_rfl) ?_
 refine Tm z z<|Tv z (V.S9 z)<|Tv z (V.fa A4I z)<|Tv z (Val.XA fun _ _ _=>V.ldO (k:=2) A7t z (j:=0) z z)<|Tv z (V.fa X4 z)<|Tv z (V.I9 (k:=0) H9 z c.u z)<|bE H fun ⟨aP,aS⟩ ab H=>?_
 obtain ⟨_,ac,rfl⟩:=A0v.lookO (r:=mb0_7) (zc:=[qi 0]) (agg:=false) underlying240 (A0M.str underlying9) M9 (show (VI .i64) y [qi 0] (0:Int) from rfl) hM0_9.u ab
 refine Tv z (Val.XA fun _ _ _=>V.lkO z z (j:=1) z ac)<|Tm z z<|Tv z (V.ext z z)<|Tv z (V.ext z z)<|Ts z z (SX.two (XA.fr [1,1] Lr z) (XA.fr [1,1] Lr z)) (V.asg z) z ?_ T.O9
 refine Ts z z (SX.two (XA.fr [1,1] Lr z) (XA.fr [1,1] Lr z)) (V.asg z) z ?_ T.O9
 refine T.R7 (SX.two (XA.fr [1,1] Lr z) (XA.fr [1,1] Lr z))<|Th<|Sr<|Mv z<|Nt<|T.cH H z (fun H=>?_) fun H=>?_
 ·refine Sr<|Ag z<|Nt<|T.ret<|Tr<|G5 1 z<|T.fl ?_
  refine G5 3 z<|T.fl ?_
  refine G5 3 z<|T.fl ?_
  refine G5 3 z<|T.fl ?_
  cases H
  exact T.rl z (Rv z) ⟨_,_,_,_,_,_,z,z,hR0_3.u,hR0_6.u,hM0_9.u⟩
 refine Ks<|Sq<|Sr<|Mv z<|Vv (V.S9 z)<|Vv (V.fa A0O z)<|Vv (V.fa A4J z)<|Vv (V.ldO (k:=0) I7 z (j:=0) z z)<|Vv (V.A2a K8 z (j:=2) z hR0_3.len)<|Vv (V.eq z z)<|Nt<|T.cH H z (fun H=>?_) fun H=>?_
 ·refine Sr<|Ag z<|Nt<|T.ret<|Tr<|G5 1 z<|T.fl ?_
  refine G5 3 z<|T.fl ?_
  refine G5 3 z<|T.fl ?_
  refine G5 3 z<|T.fl ?_
  cases H
  exact T.rl z (Rv z) ⟨_,_,_,_,_,_,z,z,hR0_3.u,hR0_6.u,hM0_9.u⟩
 refine Ks<|Sq<|G5 1 z<|T.fl ?_
 refine G5 2 z<|T.fl ?_
 refine G5 2 z<|T.fl ?_
 refine T.O1 (t:=(.vs [0,1,2,3,4,5,6,7,8,9,10,11] (.alt 12 .done .no))) 12 3 2 z z I4 (by kernel_rfl) ?_
 refine Tm z z<|Tv z (V.S9 z)<|Tv z (V.fa A4I z)<|Tv z (Val.XA fun _ _ _=>V.ldO (k:=2) A7t z (j:=0) z z)<|Tv z (V.fa X4 z)<|Tv z (V.I9 (k:=0) H9 z c.u z)<|Tm z z<|Tv z (V.S9 z)<|Tv z (V.fa A0O z)<|Tv z (V.fa A4J z)<|Tv z (Val.XA fun _ _ _=>V.ldO (k:=0) I7 z (j:=0) z z)<|Tv z (Val.XA fun _ _ _=>V.A2a K8 z (j:=1) z hR0_3.len)<|bE H fun aU ad H=>Tp z z (SX.two (XA.fr [1,1] Lr z) (XA.fr [2,2,2] Lr z)) (O.A9Z (agg:=false) (E:=(VI .i64)) (cs:=[qi (b.K5.Z8.length:Int)]) underlying240 (A0M.str underlying9) z z z (j:=2) z hM0_9.u (show (VI .i64) y [qi (b.K5.Z8.length:Int)] (b.K5.Z8.length:Int) from z) _ (.inl z) fun aV A=>?_) T.O9
 rw [Option.some.inj ad] at A
 refine T.fl ?_
 refine T.R7 (SX.one (XA.fr [2,2] Lr z) z)<|Th<|Sq<|T.norm [0,3] z<|T.fl ?_
 refine G5 2 z<|T.fl ?_
 refine G5 2 z<|T.fl ?_
 refine T.O1 (t:=(.vs [0,1,2,3,4] (.x 5 (.v 6 (.alt 7 (.g (.alt 8 (.alt 9 (.g (.vs [10,11,12] (.alt 13 .done .no))) .no) .no)) .no))))) 9 2 0 z z I4 (by kernel_rfl) ?_
 refine Tm z z<|Tm z z<|Tv z (V.S9 z)<|Tv z (V.fa A0O z)<|Tv z (V.fa A4J z)<|T.tx z z (Val.XA fun _ _ _=>V.ldO (k:=0) I7 z (j:=0) z z) z Calm.i<|Tv z (V.ldS z c.u (by exact Z7)) ?_
 refine bE H fun a ae H=>Tp z z (SX.two (XA.fr [] Lr z) (XA.fr [1,1] Lr z)) (O.D8 z (B9a ⟨s,z,w.u⟩ ae _) z fun aW B aX aY af=>?_) T.O9
 obtain ⟨m,rfl,ag,ai⟩:=af
 refine J9 _ ag<|T.O3 Li<|Tp z z (SX.two (XA.fr [] Lr z) (XA.fr [1,1] Lr z)) (O.bs K8 A1B z (e:=z) (hk:=z) (xs:=[.tmp 52]) (hv:=CO.eq (CO.cons z CO.nil)) (hw:=O4.of z) (hd:=z) fun aZ=>?_) T.O9
 have n:A7 F9 B [[.string a.F8,.string a.A0k,.string a.V9,qi a.V3,qi a.A0f,.string a.Z0,.bool a.A0u,.bool a.U2,m]] ([a]:List D6):=(A7.cons ⟨m,z,ai⟩ A7.nil)
 refine bE H fun aj C H=>Tp z z (SX.two (XA.fr [] Lr z) (XA.fr [2,2] Lr z)) (O.apX K8 K8 A1B z z z (j:=2) z (Src.row (j:=0) z) (O4.of z) (A7.ones F9.plain n) hR0_3.u n C z fun ak a0 a1=>?_) T.O9
 have am:A7 F9 B (css0_2 ++ [[.string a.F8,.string a.A0k,.string a.V9,qi a.V3,qi a.A0f,.string a.Z0,.bool a.A0u,.bool a.U2,m]]) aj:=A7.ap hR0_3.u n C
 refine T.fl ?_
 refine G5 1 z<|T.fl ?_
 refine T.drop<|T.O3 Lr<|Tv z (V.S9 z)<|Tv z (V.fa A0O z)<|Tv z (V.fa A4J z)<|T.J7 0 z fun an ao=>Tp z z (SX.one (XA.fr [] Lr z) z) (O.st (vs:=[ak]) (k:=0) I7 z z (j:=1) z ao (by (simp only [Sl.ones,an,Bool.and_true,Bool.true_and]) <;> rfl) ?_) T.O9
 refine T.fl ?_
 refine T.R7 (SX.one (XA.fr [] Lr z) z)<|Th<|Sr<|Ag z<|Nt<|T.ret<|G5 2 z<|T.fl ?_
 refine G5 3 z<|T.fl ?_
 refine G5 3 z<|T.fl ?_
 refine G5 3 z<|T.fl ?_
 cases H
 exact T.rl z (Rv z) ⟨_,_,_,_,_,_,z,z,am,hR0_6.u,A.u⟩
theorem C4O {h d c v0_1 css0_2 v0_4 css0_5 mb0_7 es0_8 a b A B q_0} (hR0_3:A7 F9 h css0_2 c.K5.Z8) (hR0_6:A7 H7 h css0_5 c.K5.A1z) (hM0_9:A0v Value.string false (VI .i64) h 0 es0_8 c.fat) (H:B6D c a b A = some (B,q_0)):∀ L,G8 prog 176 [.pointer (some ⟨d,0,none⟩),.string a,.string b,.int .u8 A] h (blk d (.cells [v0_1,v0_4,.map (some mb0_7)].toArray 242)::D5 39 9 v0_1 css0_2::D5 106 3 v0_4 css0_5::blk mb0_7 (.map es0_8.toArray es0_8.length)::L) (fun v h' L'=>∃ vl0_1 cssl0_2 vl0_4 cssl0_5 mbl0_7 esl0_8,v = .int .i64 B∧L' = blk d (.cells [vl0_1,vl0_4,.map (some mbl0_7)].toArray 242)::D5 39 9 vl0_1 cssl0_2::D5 106 3 vl0_4 cssl0_5::blk mbl0_7 (.map esl0_8.toArray esl0_8.length)::L∧A7 F9 h' cssl0_2 q_0.K5.Z8∧A7 H7 h' cssl0_5 q_0.K5.A1z∧A0v Value.string false (VI .i64) h' 0 esl0_8 q_0.fat):=by
 intro L
 refine G8.enter func176 z z z<|Sr<|Ag z<|Nt<|Sq<|Sr<|Mv z<|bE H fun o G H=>To (O.D8 z (G8.A0W (val:=.bool o) func181 z B2G fun a0 a1 I=>G8.A0W (val:=.bool o) func181 z V8 fun a2 a3 J=>G8.A0W (val:=.bool o) func181 z V8 fun a4 a5 K=>G8.A0W (val:=.bool o) func181 z C8y fun M a6 N=>?_) z fun a7 a8 a9 ah P=>?_)
 ·have S:=A7.Z4 J hR0_3.u
  have U:=A7.Z4 K hR0_6.u
  have W:Mp Value.string false (VI .i64) M (.map (some mb0_7)) c.fat:=⟨_,_,z,N,hM0_9.u⟩
  exact A8e (Pt.mk I.u ⟨v0_1,v0_4,(.map (some mb0_7)),z,S.u,U.u,W⟩) G _
 obtain ⟨rfl,X⟩:=P
 refine J9 _ X<|Nt<|T.cH H z (fun H=>?_) fun H=>?_
 ·refine Sr<|Ag z<|Nt<|T.ret<|Tr ?_
  cases H
  exact T.rl z (Rv z) ⟨_,_,_,_,_,_,z,z,hR0_3.u,hR0_6.u,hM0_9.u⟩
 refine Ks<|Sq<|Sq ?_
 obtain ⟨Y,Z,aa⟩:=M5 H
 refine T.M7 (α:=Bool) [0,1,2,3] z (fun n=>[(27,.bool n)]) (fun n=>blk d (.cells [v0_1,v0_4,.map (some mb0_7)].toArray 242)::D5 39 9 v0_1 css0_2::D5 106 3 v0_4 css0_5::blk mb0_7 (.map es0_8.toArray es0_8.length)::L) (fun n hh=>Y = n) ?_ ?_
 ·have H:=Z
  refine Rg<|Mv z<|Vv (V.ne z z)<|Mv z<|T.bH 19 H z (fun H=>?_) fun H=>?_
  ·refine Mv z<|Vv (V.ne z z)<|Vv (V.R8 z z)<|Mv z<|T.bH 23 H z (fun H=>?_) fun H=>?_
   ·refine Sk<|Sk<|Sk<|Vv (V.R8 z z)<|Nt<|T.mt true (O5 H)
   refine Mv z<|Mv z<|Vv (V.seq z z)<|Vv (V.R9 z z)<|Nt<|T.mt (decide (a = b)) (O5 H)
  refine Sk<|Sk<|Vv (V.R9 z z)<|Mv z<|Mv z<|Mv z<|Vv (V.seq z z)<|Vv (V.R9 z z)<|Nt<|T.mt (decide (a = b)) (O5 H)
 rintro n ab al ac
 have H:=J8 ac aa
 refine T.norm [27,0,1,2,3] z<|T.fl ?_
 refine T.cH H z (fun H=>?_) fun H=>?_
 ·refine Sr<|Ag z<|Nt<|T.ret<|Tr ?_
  cases H
  exact T.rl z (Rv z) ⟨_,_,_,_,_,_,z,z,hR0_3.u,hR0_6.u,hM0_9.u⟩
 refine Ks<|Sq<|Sr<|Mv z<|Mv z<|To (O.bs A0a B7X z (e:=z) (hk:=z) (xs:=[.tmp 28,.tmp 29]) (hv:=CO.eq (CO.cons z (CO.cons z CO.nil))) (hw:=O4.of z) (hd:=z) fun ad=>have w:A7 VS ab [[.string a],[.string b]] ([a,b]:List ByteArray):=(A7.cons z (A7.cons z A7.nil)); Vv (V.A2a A0a z (j:=0) z w.len)<|Mv z<|Nt ?_)
 obtain ⟨C,ae,D⟩:=M5 H
 refine T.M7 (α:=Unit) [0,1,2,3] z (fun _u=>[]) (fun _u=>blk d (.cells [v0_1,v0_4,.map (some mb0_7)].toArray 242)::D5 39 9 v0_1 css0_2::D5 106 3 v0_4 css0_5::blk mb0_7 (.map es0_8.toArray es0_8.length)::L) (fun _u hh=>C = (Sum.inl ())) ?_ ?_
 ·have H:=ae
  refine Bl<|T.M8 (α:=Nat×Int) [0,1,2,3,30,31] z (fun ⟨f,m⟩=>[(32,qi m)]) (fun ⟨f,m⟩=>D5 9 1 (.slice (some ⟨ad,0,none⟩) 2 2) [[.string a],[.string b]]::blk d (.cells [v0_1,v0_4,.map (some mb0_7)].toArray 242)::D5 39 9 v0_1 css0_2::D5 106 3 v0_4 css0_5::blk mb0_7 (.map es0_8.toArray es0_8.length)::L) (fun ⟨f,m⟩ hh=>iter (A7E c a b) f m = some C) (fun ⟨f,m⟩=>f) (FUEL,(0:Int)) ⟨z,trivial⟩ z H ?_
  rintro ⟨f,m⟩ af av ai
  obtain ⟨aj,az,rfl,H,y⟩:=I1 ai
  refine T.norm [32,0,1,2,3,30,31] z<|T.fl ?_
  refine Sr<|Vv (V.lt z z)<|Nt<|Sq<|T.cH H z (fun H=>?_) fun H=>?_
  ·refine Ks<|Sq<|Bl<|Sr<|bE H fun ba E H=>?_
   obtain ⟨bb,ak,rfl⟩:=A7.get w E
   refine Vv (V.ixR A0a z z (j:=0) z (A7.bd w E))<|Vv (V.ldR H9 z (j:=0) z ak z)<|Ag z<|Nt<|Sr<|Mv z<|Vv (V.S9 z)<|Vv (V.fa A4I z)<|Vv (V.ldO (k:=2) A7t z (j:=1) z z)<|Mv z<|bE H fun ⟨bc,be⟩ am H=>?_
   obtain ⟨_,an,rfl⟩:=A0v.lookO (r:=mb0_7) (zc:=[qi 0]) (agg:=false) underlying240 (A0M.str underlying9) M9 (show (VI .i64) af [qi 0] (0:Int) from rfl) hM0_9.u am
   refine Vv (V.lkO z z (j:=4) z an)<|Mv z<|Vv (V.ext z z)<|Vv (V.ext z z)<|Ag z<|Ag z<|Nt<|Sr<|Mv z<|Vv (V.not z)<|Nt<|T.cH H z (fun H=>?_) fun H=>?_
   ·refine Sr<|Ag z<|Nt<|T.ret<|Br<|Tr<|Tr<|have H:=D9 H y; Br<|Tr<|have H:=J8 H D; T.drop ?_
    cases H
    exact T.rl z (Rv z) ⟨_,_,_,_,_,_,z,z,hR0_3.u,hR0_6.u,hM0_9.u⟩
   refine T.skip<|Bn<|Th<|Rg<|bE H fun ao ap H=>Vv (V.J2 z z ap)<|Mv z<|Nt<|T.ag (aj,ao) (F4 H y)
  refine T.exit<|Te<|Te<|have H:=D9 H y; Be<|Th<|T.drop<|T.mt () H
 rintro _ bf bg aq
 have H:=J8 aq D
 refine T.norm [0,1,2,3] z<|T.fl ?_
 refine Sr<|Mv z<|Mv z<|Mv z<|bE H fun ⟨p,q⟩ ar H=>To (O.D8 z (G8.A0W (val:=.tuple #[qi p,.bool q]) func182 z B2G fun bi bj au=>G8.A0W (val:=.tuple #[qi p,.bool q]) func182 z V8 fun bk bm aw=>G8.A0W (val:=.tuple #[qi p,.bool q]) func182 z V8 fun bn bo ax=>G8.A0W (val:=.tuple #[qi p,.bool q]) func182 z C8y fun ay bp aA=>?_) z fun bq br bt bu aB=>?_)
 ·have aC:=A7.Z4 aw hR0_3.u
  have aD:=A7.Z4 ax hR0_6.u
  have aE:Mp Value.string false (VI .i64) ay (.map (some mb0_7)) c.fat:=⟨_,_,z,aA,hM0_9.u⟩
  exact B5v (Pt.mk au.u ⟨v0_1,v0_4,(.map (some mb0_7)),z,aC.u,aD.u,aE⟩) ar _
 obtain ⟨rfl,aG⟩:=aB
 refine J9 _ aG<|Mv z<|Vv (V.ext z z)<|Vv (V.ext z z)<|Ag z<|Ag z<|Nt<|Sq<|Sr<|Mv z<|Nt<|T.cH H z (fun H=>?_) fun H=>?_
 ·refine Sr<|Ag z<|Nt<|T.ret<|Tr ?_
  cases H
  exact T.rl z (Rv z) ⟨_,_,_,_,_,_,z,z,hR0_3.u,hR0_6.u,hM0_9.u⟩
 refine Ks<|Sq<|Sr<|Mv z<|Vv (V.S9 z)<|Vv (V.fa A0O z)<|Vv (V.fa A4P z)<|Vv (V.ldO (k:=1) Q4 z (j:=0) z z)<|Vv (V.A2a X3 z (j:=2) z hR0_6.len)<|Vv (V.eq z z)<|Nt<|T.cH H z (fun H=>?_) fun H=>?_
 ·refine Sr<|Ag z<|Nt<|T.ret<|Tr ?_
  cases H
  exact T.rl z (Rv z) ⟨_,_,_,_,_,_,z,z,hR0_3.u,hR0_6.u,hM0_9.u⟩
 refine Ks<|Sq<|G5 2 z<|T.fl ?_
 refine G5 1 z<|T.fl ?_
 refine T.O1 (t:=(.vs [0,1,2,3,4] (.x 5 (.vs [6,7,8,9] (.alt 10 (.g (.alt 11 (.alt 12 (.g (.vs [13,14,15] (.alt 16 .done .no))) .no) .no)) .no))))) 12 2 0 z z I4 (by kernel_rfl) ?_
 refine Tm z z<|Tm z z<|Tv z (V.S9 z)<|Tv z (V.fa A0O z)<|Tv z (V.fa A4P z)<|T.tx z z (Val.XA fun _ _ _=>V.ldO (k:=1) Q4 z (j:=0) z z) z Calm.i<|Tm z z<|Tm z z<|Tm z z<|Tm z z<|bE H fun s aI H=>Tp z z (SX.two (XA.fr [] Lr z) (XA.fr [1,1] Lr z)) (O.D8 z (B4K aI _) z fun bw aJ bx bA aK=>?_) T.O9
 obtain ⟨rfl,aM⟩:=aK
 refine J9 _ aM<|T.O3 Li<|Tp z z (SX.two (XA.fr [] Lr z) (XA.fr [1,1] Lr z)) (O.bs X3 A6c z (e:=z) (hk:=z) (xs:=[.tmp 73]) (hv:=CO.eq (CO.cons z CO.nil)) (hw:=O4.of z) (hd:=z) fun bB=>?_) T.O9
 have aN:A7 H7 aJ [[.string s.fA,.string s.fB,.int .u8 s.H8]] ([s]:List F5):=(A7.cons z A7.nil)
 refine T.J5 fun bC bD aO=>have aP:=A7.Z4 aO aN.u; G5 1 z<|T.fl ?_
 refine bE H fun bG aS H=>Tp z z (SX.two (XA.fr [] Li z) (XA.fr [0,1] Li z)) (O.D8 z (C4g hR0_6.u aP aS _) z fun aU bI bJ bK aV=>?_) T.O9
 obtain ⟨bM,aW,aX⟩:=aV
 refine J9 _ aW<|T.O3 Li<|Tv z (V.S9 z)<|Tv z (V.fa A0O z)<|Tv z (V.fa A4P z)<|T.J7 0 z fun aY aZ=>Tp z z (SX.one (XA.fr [] Lr z) z) (O.st (vs:=[aU]) (k:=1) Q4 z z (j:=1) z aZ (by (simp only [Sl.ones,aY,Bool.and_true,Bool.true_and]) <;> rfl) ?_) T.O9
 refine T.fl ?_
 refine T.R7 (SX.one (XA.fr [] Lr z) z)<|Th<|Sq<|T.norm [0] z<|T.fl ?_
 refine Rg<|Ag z<|Nt<|T.ret<|G5 3 z<|T.fl ?_
 refine G5 2 z<|T.fl ?_
 refine G5 3 z<|T.fl ?_
 refine G5 3 z<|T.fl ?_
 cases H
 exact T.rl z (Rv z) ⟨_,_,_,_,_,_,z,z,hR0_3.u,aX,hM0_9.u⟩
theorem B5a {h aE r1 aG aI aJ} (a2:B1a h aE r1) (H:A6u r1 = some (aG,aI,aJ)):∀ L,G8 prog 92 [.agg aE.toArray] h (L) (fun v h' L'=>∃ aK,v = .tuple #[aK,.int .i64 aI,.int .i64 aJ]∧L' = L∧OPt A1c h' aK aG):=by
 intro L
 obtain ⟨cp,cq,rfl,ad,ae⟩:=a2
 refine G8.enter func92 z z z<|Sr<|To (O.Y0 z z z fun cr cs ct af=>Ag z<|Ag z<|Ag z<|Nt<|Sr<|bE H fun au a3 H=>To (O.D8 z (C3G a3 _) z fun cu cw cx cy a4=>?_))
 obtain ⟨ai,a5,a6,a7,a8,a9,ah,rfl,al,av,az,ba⟩:=a4
 refine J9 _ al<|Ag z<|Nt<|Sq<|Sr<|Vv (V.fa A2x z)<|Vv (V.I9 (k:=0) I7 z af.u z)<|Vv (V.P9 K8 z ad)<|Mv z<|Nt ?_
 obtain ⟨aM,bb,aN⟩:=M5 H
 refine T.M7 (α:=(List D6)×(List F5)×(List (ByteArray×Int))×Value×(List (List Value))×Value×(List (List Value))×Nat×(List MapEntry)) [1,5] z (fun ⟨E,G,I,J,K,M,N,P,q⟩=>[]) (fun ⟨E,G,I,J,K,M,N,P,q⟩=>blk ai (.cells [J,M,.map (some P)].toArray 242)::D5 39 9 J K::D5 106 3 M N::blk P (.map q.toArray q.length)::L) (fun ⟨E,G,I,J,K,M,N,P,q⟩ hh=>aM = (Sum.inl (E,G,I))∧A7 F9 hh K E∧A7 H7 hh N G∧A0v Value.string false (VI .i64) hh 0 q I) ?_ ?_
 ·have H:=bb
  refine Bl<|T.M8 (α:=Nat×(List D6)×(List F5)×(List (ByteArray×Int))×Int×Value×(List (List Value))×Value×(List (List Value))×Nat×(List MapEntry)) [1,5,14,15] z (fun ⟨S,r,s,w,U,x,y,A,B,C,i⟩=>[(16,qi U)]) (fun ⟨S,r,s,w,U,x,y,A,B,C,i⟩=>blk ai (.cells [x,A,.map (some C)].toArray 242)::D5 39 9 x y::D5 106 3 A B::blk C (.map i.toArray i.length)::L) (fun ⟨S,r,s,w,U,x,y,A,B,C,i⟩ hh=>iter (A2F r1) S (r,s,w,U) = some aM∧A7 F9 hh y r∧A7 H7 hh B s∧A0v Value.string false (VI .i64) hh 0 i w) (fun ⟨S,r,s,w,U,x,y,A,B,C,i⟩=>S) (FUEL,au.K5.Z8,au.K5.A1z,au.fat,(0:Int),a5,a6,a7,a8,a9,ah) ⟨z,trivial⟩ z ⟨H,av,az,ba⟩ ?_
  rintro ⟨S,r,s,w,U,x,y,A,B,C,i⟩ cA cB ⟨bc,aO,aP,aS⟩
  obtain ⟨bd,cC,rfl,H,aw⟩:=I1 bc
  refine T.norm [16,1,5,14,15] z<|T.fl ?_
  refine Sr<|Vv (V.lt z z)<|Nt<|Sq<|T.cH H z (fun H=>?_) fun H=>?_
  ·refine Ks<|Sq<|Bl<|Sr<|Mv z<|bE H fun m aU H=>?_
   obtain ⟨cD,be,⟨aV,rfl,aW⟩⟩:=G6.at ad aU
   refine Vv (V.ix K8 z z ad (G7 aU))<|Vv (V.ldS z be.u (by exact Z7)) ?_
   refine To (O.alloc A1B z z fun cE=>Ag z<|To (O.stF (vs:=[.string m.F8,.string m.A0k,.string m.V9,qi m.V3,qi m.A0f,.string m.Z0,.bool m.A0u,.bool m.U2,aV]) Z7 z z (j:=0) z z (by (simp only [Sl.ones,G6.one aW,Bool.and_true,Bool.true_and]) <;> rfl) z ?_))
   refine T.fl ?_
   refine T.freeze fun cG cI bf=>have bg:=AtC.of bf; Nt<|Sr<|Mv z<|Vv (V.ldS z bg (by exact Z7)) ?_
   refine bE H fun ⟨cJ,ax⟩ bi H=>To (O.D8 z (C4G aO.u aP.u aS.u ⟨aV,z,aW.u⟩ bi _) z fun cK cM cN cO bj=>?_)
   obtain ⟨bk,bm,bn,bo,bp,bq,rfl,br,bs,bt,bu⟩:=bj
   refine J9 _ br<|Ag z<|Nt<|Sr<|Mv z<|Vv (V.ne z z)<|Nt<|T.cH H z (fun H=>?_) fun H=>?_
   ·refine Sr<|Mv z<|Mv z<|Ag z<|Ag z<|Ag z<|Nt<|T.ret<|Br<|Tr<|Tr<|have H:=D9 H aw; Br<|Tr<|have H:=J8 H aN; T.drop<|T.drop<|T.drop<|T.drop ?_
    cases H
    exact T.rl z (RVs.cons (RV.tmp z) (RVs.cons (RV.tmp z) (Rv z))) ⟨_,z,z,OPt.nil⟩
   refine T.skip<|Bn<|Th<|Rg<|bE H fun bw bx H=>Vv (V.J2 z z bx)<|Mv z<|Nt<|T.ag (bd,ax.K5.Z8,ax.K5.A1z,ax.fat,bw,bk,bm,bn,bo,bp,bq) ⟨(F4 H aw),bs,bt,bu⟩
  refine T.exit<|Te<|Te<|have H:=D9 H aw; Be<|Th<|T.mt (r,s,w,x,y,A,B,C,i) ⟨H,aO,aP,aS⟩
 rintro ⟨E,G,I,J,K,M,N,P,q⟩ cP cS ⟨bA,bB,bC,bD⟩
 have H:=J8 bA aN
 refine T.norm [1,5] z<|T.fl ?_
 refine Sq<|Sr<|Vv (V.fa A5A z)<|Vv (V.I9 (k:=1) Q4 z af.u z)<|Vv (V.P9 X3 z ae)<|Mv z<|Nt ?_
 obtain ⟨aX,bG,ay⟩:=M5 H
 refine T.M7 (α:=(List D6)×(List F5)×(List (ByteArray×Int))×Value×(List (List Value))×Value×(List (List Value))×Nat×(List MapEntry)) [5] z (fun ⟨aj,ak,am,W,an,X,ao,Y,Z⟩=>[]) (fun ⟨aj,ak,am,W,an,X,ao,Y,Z⟩=>blk ai (.cells [W,X,.map (some Y)].toArray 242)::D5 39 9 W an::D5 106 3 X ao::blk Y (.map Z.toArray Z.length)::L) (fun ⟨aj,ak,am,W,an,X,ao,Y,Z⟩ hh=>aX = (Sum.inl (aj,ak,am))∧A7 F9 hh an aj∧A7 H7 hh ao ak∧A0v Value.string false (VI .i64) hh 0 Z am) ?_ ?_
 ·have H:=bG
  refine Bl<|T.M8 (α:=Nat×(List D6)×(List F5)×(List (ByteArray×Int))×Int×Value×(List (List Value))×Value×(List (List Value))×Nat×(List MapEntry)) [1,5,30,31] z (fun ⟨aa,n,o,p,ab,b,e,c,f,d,a⟩=>[(32,qi ab)]) (fun ⟨aa,n,o,p,ab,b,e,c,f,d,a⟩=>blk ai (.cells [b,c,.map (some d)].toArray 242)::D5 39 9 b e::D5 106 3 c f::blk d (.map a.toArray a.length)::L) (fun ⟨aa,n,o,p,ab,b,e,c,f,d,a⟩ hh=>iter (A2B r1) aa (n,o,p,ab) = some aX∧A7 F9 hh e n∧A7 H7 hh f o∧A0v Value.string false (VI .i64) hh 0 a p) (fun ⟨aa,n,o,p,ab,b,e,c,f,d,a⟩=>aa) (FUEL,E,G,I,(0:Int),J,K,M,N,P,q) ⟨z,trivial⟩ z ⟨H,bB,bC,bD⟩ ?_
  rintro ⟨aa,n,o,p,ab,b,e,c,f,d,a⟩ cU cV ⟨bI,aA,aB,aC⟩
  obtain ⟨aY,cW,rfl,H,ap⟩:=I1 bI
  refine T.norm [32,1,5,30,31] z<|T.fl ?_
  refine Sr<|Vv (V.lt z z)<|Nt<|Sq<|T.cH H z (fun H=>?_) fun H=>?_
  ·refine Ks<|Sq<|Bl<|Sr<|Mv z<|bE H fun D aZ H=>?_
   obtain ⟨cX,bJ,rfl⟩:=G6.at ae aZ
   refine Vv (V.ix X3 z z ae (G7 aZ))<|Vv (V.ldS z bJ.u (by exact A0G)) ?_
   refine To (O.alloc A6c z z fun cY=>Ag z<|To (O.stF (vs:=[.string D.fA,.string D.fB,.int .u8 D.H8]) A0G z z (j:=0) z z z z<|T.fl ?_))
   refine T.freeze fun a0 cZ bK=>have ac:=AtC.of bK; Nt<|Sr<|Ag z<|Nt<|Sq<|Sq ?_
   obtain ⟨bM,bN,bO⟩:=M5 H
   refine T.M7 (α:=Bool) [1,5,9,10,11,30,31,32] z (fun aq=>[(56,.bool aq)]) (fun aq=>blk ai (.cells [b,c,.map (some d)].toArray 242)::D5 39 9 b e::D5 106 3 c f::blk d (.map a.toArray a.length)::L) (fun aq hh=>bM = aq) ?_ ?_
   ·have H:=bN
    refine T.O1 (t:=(.vs [0,1,2,3,4,5,6,7,8,9,10,11,12,13,14,15] (.alt 16 (.g (.vs [17,18,19] .done)) .no))) 21 0 0 z z I4 (by kernel_rfl) ?_
    refine Tv z (V.fa A4U z)<|Tv z (V.I9 (k:=0) H9 z ac z)<|Tv z (V.fa A4E z)<|Tv z (V.I9 (k:=1) H9 z ac z)<|Tv z (V.slt z z)<|Tm z z<|T.bH 42 H z (fun H=>?_) fun H=>?_
    ·refine Tm z z<|Tv z (V.eq z z)<|Tm z z<|T.bH 45 H z (fun H=>?_) fun H=>?_
     ·refine Tk z<|Tk z<|Tk z<|Tk z<|Tk z<|Tk z<|Tk z<|T.C5F z z (SX.two (XA.fr [] Lr z) (XA.fr [] Lr z)) z ?_ T.O9
      refine T.O3 Lr<|Tk z<|Tv z (V.R8 z z)<|Tv z (V.R8 z z)<|T.R7 (SX.two (XA.fr [] Lr z) (XA.fr [] Lr z))<|Th<|T.mt true (O5 H)
     refine Tv z (V.fa A5A z)<|Tv z (V.I9 (k:=1) Q4 z af.u z)<|Tm z z<|bE H fun c0 bP H=>Tv z (V.A1s z z bP)<|bE H fun ar a1 H=>?_
     obtain ⟨c1,bS,rfl⟩:=G6.at ae a1
     refine Tv z (V.ix X3 z z ae (G7 a1))<|Tv z (V.ldS z bS.u (by exact A0G)) ?_
     refine Tv z (V.ldS z ac (by exact A0G)) ?_
     refine bE H fun bU bV H=>Tp z z (SX.two (XA.fr [] Lr z) (XA.fr [] Lr z)) (O.D8 z (B2k (show H7 a0 [.string ar.fA,.string ar.fB,.int .u8 ar.H8] ar from z) (show H7 a0 [.string D.fA,.string D.fB,.int .u8 D.H8] D from z) bV _) z fun c2 c3 c4 c5 bW=>?_) T.O9
     obtain ⟨rfl,bX⟩:=bW
     refine J9 _ bX<|T.O3 Li<|Tv z (V.le z z)<|Tv z (V.R9 z z)<|Tv z (V.R8 z z)<|T.R7 (SX.two (XA.fr [] Lr z) (XA.fr [] Lr z))<|Th<|T.mt (decide (bU≤(0:Int))) (O5 H)
    refine Tk z<|Tk z<|Tk z<|Tk z<|Tk z<|Tk z<|Tk z<|Tk z<|Tk z<|Tk z<|T.C5F z z (SX.two (XA.fr [] Lr z) (XA.fr [] Lr z)) z ?_ T.O9
    refine T.O3 Lr<|Tk z<|Tk z<|Tv z (V.R9 z z)<|T.R7 (SX.two (XA.fr [] Lr z) (XA.fr [] Lr z))<|Th<|T.mt false (O5 H)
   rintro aq c6 c7 bY
   have H:=J8 bY bO
   refine T.norm [56,1,5,9,10,11,30,31,32] z<|T.fl ?_
   refine T.cH H z (fun H=>?_) fun H=>?_
   ·refine Rg<|Mv z<|Vv (V.fa A4U z)<|Vv (V.I9 (k:=0) H9 z ac.u z)<|Vv (V.fa A4E z)<|Vv (V.I9 (k:=1) H9 z ac.u z)<|Vv (V.fa A9V z)<|Vv (V.I9 (k:=2) B2X z ac.u z)<|bE H fun ⟨c8,aD⟩ bZ H=>To (O.D8 z (C4O aA.u aB.u aC.u bZ _) z fun c9 ch cl cv b0=>?_)
    obtain ⟨b1,b2,b3,b4,b5,b6,rfl,b7,b8,b9,bh⟩:=b0
    refine J9 _ b7<|Ag z<|Nt<|Sr<|Mv z<|Vv (V.ne z z)<|Nt<|T.cH H z (fun H=>?_) fun H=>?_
    ·refine Sq<|T.O1 (t:=(.vs [0,1,2,3,4,5] (.alt 6 (.alt 7 (.alt 8 .done .no) .no) .no))) 10 0 0 z z I4 (by kernel_rfl) ?_
     refine Tv z (V.fa A2x z)<|Tv z (V.I9 (k:=0) I7 z af.u z)<|Tv z (V.P9 K8 z ad)<|Tm z z<|bE H fun cz bl H=>Tv z (V.J2 z z bl)<|Tm z z<|Ts z z (SX.two (XA.fr [] Lr z) (XA.fr [] Lr z)) (V.asg z) z ?_ T.O9
     refine Ts z z (SX.two (XA.fr [] Lr z) (XA.fr [] Lr z)) (V.asg z) z ?_ T.O9
     refine Ts z z (SX.two (XA.fr [] Lr z) (XA.fr [] Lr z)) (V.asg z) z ?_ T.O9
     refine T.R7 (SX.two (XA.fr [] Lr z) (XA.fr [] Lr z))<|Th<|T.ret<|Br<|Tr<|Tr<|have H:=D9 H ap; Br<|Tr<|have H:=J8 H ay; T.drop<|T.drop<|T.drop<|T.drop ?_
     cases H
     exact T.rl z (RVs.cons (RV.tmp z) (RVs.cons (RV.tmp z) (Rv z))) ⟨_,z,z,OPt.nil⟩
    refine T.skip<|Bn<|Th<|Rg<|bE H fun bv bz H=>Vv (V.J2 z z bz)<|Mv z<|Nt<|T.ag (aY,aD.K5.Z8,aD.K5.A1z,aD.fat,bv,b1,b2,b3,b4,b5,b6) ⟨(F4 H ap),b8,b9,bh⟩
   refine Ks<|Sr<|Mv z<|Vv (V.ne z z)<|Nt<|T.cH H z (fun H=>?_) fun H=>?_
   ·refine Sq<|T.O1 (t:=(.vs [0,1,2,3,4,5] (.alt 6 (.alt 7 (.alt 8 .done .no) .no) .no))) 10 0 0 z z I4 (by kernel_rfl) ?_
    refine Tv z (V.fa A2x z)<|Tv z (V.I9 (k:=0) I7 z af.u z)<|Tv z (V.P9 K8 z ad)<|Tm z z<|bE H fun da ca H=>Tv z (V.J2 z z ca)<|Tm z z<|Ts z z (SX.two (XA.fr [] Lr z) (XA.fr [] Lr z)) (V.asg z) z ?_ T.O9
    refine Ts z z (SX.two (XA.fr [] Lr z) (XA.fr [] Lr z)) (V.asg z) z ?_ T.O9
    refine Ts z z (SX.two (XA.fr [] Lr z) (XA.fr [] Lr z)) (V.asg z) z ?_ T.O9
    refine T.R7 (SX.two (XA.fr [] Lr z) (XA.fr [] Lr z))<|Th<|T.ret<|Br<|Tr<|Tr<|have H:=D9 H ap; Br<|Tr<|have H:=J8 H ay; T.drop<|T.drop<|T.drop<|T.drop ?_
    cases H
    exact T.rl z (RVs.cons (RV.tmp z) (RVs.cons (RV.tmp z) (Rv z))) ⟨_,z,z,OPt.nil⟩
   refine T.skip<|Bn<|Th<|Rg<|bE H fun cb cc H=>Vv (V.J2 z z cc)<|Mv z<|Nt<|T.ag (aY,n,o,p,cb,b,e,c,f,d,a) ⟨(F4 H ap),aA.u,aB.u,aC.u⟩
  refine T.exit<|Te<|Te<|have H:=D9 H ap; Be<|Th<|T.mt (n,o,p,b,e,c,f,d,a) ⟨H,aA,aB,aC⟩
 rintro ⟨aj,ak,am,W,an,X,ao,Y,Z⟩ db dc ⟨cd,ce,cf,cg⟩
 have H:=J8 cd ay
 refine T.norm [5] z<|T.fl ?_
 refine Sr<|Mv z<|Ag z<|Ag z<|Ag z<|Nt<|T.ret<|G5 1 z<|T.fl ?_
 refine T.J5 fun dd de ci=>have cj:=A7.Z4 ci ce.u; G5 1 z<|T.fl ?_
 refine T.J5 fun df dg ck=>have cm:=A7.Z4 ck cf.u; G5 1 z<|T.C5K VI.mono cg.u fun di dj cn=>T.B5P fun dk dm co=>?_
 cases H
 exact T.rl z (RVs.cons (RV.tmp z) (RVs.cons (RV.tmp z) (Rv z))) ⟨_,z,z,(OPt.some (Pt.mk co ⟨W,X,(.map (some Y)),z,cj.u,cm.u,cn.u⟩))⟩
theorem B5D {h a r1 b c} (d:B1a h a r1) (H:A5j r1 = some (b,c)):∀ L,G8 prog 197 [.agg a.toArray] h (L) (fun v h' L'=>v = .tuple #[.int .i64 b,.int .i64 c]∧L' = L):=by
 intro L
 obtain ⟨e,f,rfl,g,i⟩:=d
 refine G8.enter func197 z z z<|Sr<|To (O.Y0 z z z fun o p q j=>Ag z<|Ag z<|Nt<|Sr<|Vv (V.ldS z j (by exact A3V)) ?_)
 refine bE H fun ⟨r,s,t⟩ k H=>To (O.D8 z (B5a ⟨e,f,z,g.u,i.u⟩ k _) z fun w x y A m=>?_)
 obtain ⟨B,rfl,n,C⟩:=m
 exact J9 _ n<|Mv z<|Vv (V.ext z z)<|Vv (V.ext z z)<|Vv (V.ext z z)<|Ag z<|Ag z<|Ag z<|Nt<|Sr<|Mv z<|Mv z<|Ag z<|Ag z<|Nt<|T.ret<|E1 H
end Go.Proofs.X
open Go Go.Proofs Go.Proofs.Tryz Go.Sl Go.Dm
namespace Go.Proofs.X
theorem A3d : A4f prog 39 = some ([.string ⟨#[]⟩,.string ⟨#[]⟩,.string ⟨#[]⟩,.int .i64 (0),.int .i64 (0),.string ⟨#[]⟩,.bool false,.bool false,.slice none 0 0],[(0,1),(1,1),(2,1),(3,1),(4,1),(5,1),(6,1),(7,1),(8,1)]):=by kernel_rfl
theorem A3f : A0q prog 39 = true:=by kernel_rfl
theorem B7Z {h d a b} (e:F9 h d a) (H:A9T a = some b):∀ L,G8 prog 241 [.agg d.toArray] h (L) (fun v h' L'=>∃ vo0_1 csso0_2,v = .agg #[.string b.F8,.string b.A0k,.string b.V9,.int .i64 b.V3,.int .i64 b.A0f,.string b.Z0,.bool b.A0u,.bool b.U2,vo0_1]∧L' = D5 9 1 vo0_1 csso0_2::L∧A7 VS h' csso0_2 b.M6):=by
 intro L
 obtain ⟨s,rfl,f⟩:=e
 refine G8.enter func241 z z z<|Sr<|To (O.box z z z fun t=>To (O.alloc A1B z z fun u=>Nt<|Sr<|Vv (V.fa V5 z)<|Vv (V.ldO (k:=8) A0b z (j:=1) z z)<|bE H fun w g H=>To (O.D8 z (A3Z f g _) z fun c x y A i=>?_)))
 obtain ⟨m,n,o⟩:=i
 refine J9 _ n<|Vv (V.fa V5 z)<|T.J7 0 z fun p q=>To (O.st (vs:=[c]) (k:=8) A0b z z (j:=2) z q (by (simp only [Sl.ones,p,Bool.and_true,Bool.true_and]) <;> rfl) ?_)
 refine T.fl ?_
 refine Nt<|Sr<|Vv (V.A3T (j:=0) (by exact Z7) z z) ?_
 refine T.J7 1 z fun r B=>To (O.stF (vs:=[.string a.F8,.string a.A0k,.string a.V9,qi a.V3,qi a.A0f,.string a.Z0,.bool a.A0u,.bool a.U2,c]) Z7 z z (j:=2) z z (by (simp only [Sl.ones,r,Bool.and_true,Bool.true_and]) <;> rfl) z ?_)
 refine T.fl ?_
 refine Nt<|T.ret<|G5 1 z<|T.fl ?_
 refine T.drop ?_
 cases H
 exact T.A4z (L':=D5 9 1 c m::L) results241 (RVs.cons (RV.cellS z (j:=0) z Z7) RVs.nil) Li (fun _ iv=>iv.drop) ⟨_,_,z,z,o⟩
theorem B6S {h d e f a g} (i:Pt A1c h d e) (H:B0B e f = some (a,g)):∀ L,G8 prog 177 [d,.string f] h (L) (fun v h' L'=>∃ vo0_1 csso0_2,v = .tuple #[.agg #[.string a.F8,.string a.A0k,.string a.V9,.int .i64 a.V3,.int .i64 a.A0f,.string a.Z0,.bool a.A0u,.bool a.U2,vo0_1],.bool g]∧L' = D5 9 1 vo0_1 csso0_2::L∧A7 VS h' csso0_2 a.M6):=by
 intro L
 refine G8.enter func177 z z z<|Sr<|To (O.alloc A1B z z fun P=>Ag z<|Nt<|Sq<|Sr<|Mv z<|bE H fun S q H=>To (O.D8 z (A8e i q _) z fun U c W X r=>?_))
 obtain ⟨rfl,s⟩:=r
 refine J9 _ s<|Nt<|T.cH H z (fun H=>?_) fun H=>?_
 ·refine Sr<|Vv (V.bld (xs:=[]) (cs:=[_,_,_,_,_,_,_,_,_]) A3d A3f z F3.nil)<|To (O.stF (vs:=[.string qe,.string qe,.string qe,qi 0,qi 0,.string qe,.bool false,.bool false,qs]) Z7 z z (j:=0) z z z z<|Ag z<|Nt<|T.ret<|Tr<|T.U9 9 1<|have t:A7 VS c [] ([]:List ByteArray):=A7.nil; G5 1 z ?_)
  cases H
  exact T.A4z (L':=D5 9 1 (qs) []::L) results177 (RVs.cons (RV.cellS z (j:=0) z Z7) (Rv z)) Li (fun _ iv=>iv.drop) ⟨_,_,z,z,t⟩
 refine Ks<|Sr<|Mv z<|have w:=i; ?_
 obtain ⟨Y,_,rfl,m,⟨Z,aa,ab,rfl,n,ac,x⟩⟩:=w
 refine Vv (V.S9 z)<|Vv (V.fa A4I z)<|Vv (V.I9 (k:=2) A7t z m.u z)<|Mv z<|bE H fun ⟨ad,ae⟩ y H=>?_
 obtain ⟨_,A,rfl⟩:=Mp.look (zc:=[qi 0]) (agg:=false) underlying240 (A0M.str underlying9) M9 (show (VI .i64) c [qi 0] (0:Int) from rfl) x.u y
 refine Vv (V.lkF z z A)<|Mv z<|Vv (V.ext z z)<|Vv (V.ext z z)<|Ag z<|Ag z<|Nt<|Sq<|Sr<|Mv z<|Vv (V.not z)<|Nt<|T.cH H z (fun H=>?_) fun H=>?_
 ·refine Sr<|Vv (V.bld (xs:=[]) (cs:=[_,_,_,_,_,_,_,_,_]) A3d A3f z F3.nil)<|To (O.stF (vs:=[.string qe,.string qe,.string qe,qi 0,qi 0,.string qe,.bool false,.bool false,qs]) Z7 z z (j:=0) z z z z<|Ag z<|Nt<|T.ret<|Tr<|T.U9 9 1<|have B:A7 VS c [] ([]:List ByteArray):=A7.nil; G5 1 z ?_)
  cases H
  exact T.A4z (L':=D5 9 1 (qs) []::L) results177 (RVs.cons (RV.cellS z (j:=0) z Z7) (Rv z)) Li (fun _ iv=>iv.drop) ⟨_,_,z,z,B⟩
 refine Ks<|Sr<|Mv z<|Vv (V.S9 z)<|Vv (V.fa A0O z)<|Vv (V.fa A4J z)<|Vv (V.I9 (k:=0) I7 z m.u z)<|Mv z<|bE H fun af o H=>?_
 obtain ⟨ag,C,⟨D,rfl,E⟩⟩:=G6.at n o
 refine Vv (V.ix K8 z z n (G7 o))<|Vv (V.ldS z C.u (by exact Z7)) ?_
 refine bE H fun b G H=>To (O.D8 z (B7Z ⟨D,z,E.u⟩ G _) z fun ai aj ak am I=>?_)
 obtain ⟨p,J,rfl,K,M⟩:=I
 refine J9 _ K<|T.J7 0 z fun N an=>To (O.stF (vs:=[.string b.F8,.string b.A0k,.string b.V9,qi b.V3,qi b.A0f,.string b.Z0,.bool b.A0u,.bool b.U2,p]) Z7 z z (j:=1) z z (by (simp only [Sl.ones,N,Bool.and_true,Bool.true_and]) <;> rfl) z ?_)
 refine Ag z<|Nt<|T.ret ?_
 cases H
 exact T.A4z (L':=D5 9 1 p J::L) results177 (RVs.cons (RV.cellS z (j:=0) z Z7) (Rv z)) Li (fun _ iv=>iv.drop) ⟨_,_,z,z,M⟩
theorem B9b {h a b c d e} (f:AtC h b c) (g:F9 h c d) (H:A4t a d = some e):∀ L,G8 prog 179 [.string a,.pointer (some b)] h (L) (fun v h' L'=>v = .bool e∧L' = L):=by
 intro L
 obtain ⟨o,rfl,i⟩:=g
 refine G8.enter func179 z z z<|Sr<|Ag z<|Nt<|Sr<|Vv (V.fa V5 z)<|Vv (V.I9 (k:=8) A0b z f z)<|Mv z<|bE H fun p j H=>To (O.D8 z (B7q i j _) z fun q r s t m=>?_)
 obtain ⟨rfl,n⟩:=m
 exact J9 _ n<|Vv (V.not z)<|Ag z<|Nt<|T.ret<|E1 H
theorem C0O {h d e f g i} (m:Pt A1c h d e) (H:A9w e f g = some i):∀ L,G8 prog 93 [d,.string f,.string g] h (L) (fun v h' L'=>∃ n,L' = D5 9 1 v n::L∧A7 VS h' n i):=by
 intro L
 refine G8.enter func93 z z z<|Sr<|Ag z<|Nt<|Sr<|Mv z<|Mv z<|bE H fun ⟨b,Y⟩ r H=>To (O.D8 z (B6S m r _) z fun Z aa ab ac s=>?_)
 obtain ⟨t,ad,rfl,w,x⟩:=s
 refine J9 _ w<|Mv z<|Vv (V.ext z z)<|Vv (V.ext z z)<|To (O.alloc A1B z z fun ae=>T.J7 1 z fun y af=>To (O.stF (vs:=[.string b.F8,.string b.A0k,.string b.V9,qi b.V3,qi b.A0f,.string b.Z0,.bool b.A0u,.bool b.U2,t]) Z7 z z (j:=0) z z (by (simp only [Sl.ones,y,Bool.and_true,Bool.true_and]) <;> rfl) z ?_))
 refine Ag z<|Nt<|Sr<|Mv z<|Mv z<|bE H fun ⟨a,ag⟩ A H=>To (O.D8 z (B6S m.u A _) z fun ai aj ak am B=>?_)
 obtain ⟨o,an,rfl,C,D⟩:=B
 refine J9 _ C<|Mv z<|Vv (V.ext z z)<|Vv (V.ext z z)<|To (O.alloc A1B z z fun p=>G5 1 z<|T.fl ?_)
 refine T.J5 fun ao ap E=>have q:=A7.Z4 E D.u; To (O.stF (vs:=[.string a.F8,.string a.A0k,.string a.V9,qi a.V3,qi a.A0f,.string a.Z0,.bool a.A0u,.bool a.U2,o]) Z7 z z (j:=0) z z (by (simp only [Sl.ones,G6.one q,Bool.and_true,Bool.true_and]) <;> rfl) z ?_)
 refine T.fl ?_
 refine T.freeze fun c aq G=>have I:=AtC.of G; Ag z<|Nt<|Sq<|Sr<|Mv z<|Vv (V.not z)<|Mv z<|T.bH 25 H z (fun H=>?_) fun H=>?_
 ·refine Sk<|Sk<|Vv (V.R8 z z)<|Nt<|Ct z<|Sr<|Ag z<|Nt<|T.ret<|Tr<|T.U9 9 1<|have J:A7 VS c [] ([]:List ByteArray):=A7.nil; G5 1 z<|T.fl ?_
  refine T.drop<|G5 1 z<|T.drop ?_
  cases H
  exact T.rl z (Rv z) ⟨_,z,J⟩
 refine Mv z<|Vv (V.not z)<|Vv (V.R9 z z)<|Nt<|T.cH H z (fun H=>?_) fun H=>?_
 ·refine Sr<|Ag z<|Nt<|T.ret<|Tr<|T.U9 9 1<|have K:A7 VS c [] ([]:List ByteArray):=A7.nil; G5 1 z<|T.fl ?_
  refine T.drop<|G5 1 z<|T.drop ?_
  cases H
  exact T.rl z (Rv z) ⟨_,z,K⟩
 refine Ks<|Sr<|Vv (V.fa V5 z)<|Vv (V.ldO (k:=8) A0b z (j:=0) z z)<|Vv (V.mkf z z)<|G5 1 z<|bE H fun ar M H=>To (O.D8 z (B4v x.u (show A9e c (.func (.func 179) #[] #[qp p]) (fun N=>A4t N (D6.mk a.F8 a.A0k a.V9 a.V3 a.A0f a.Z0 a.A0u a.U2 a.M6)) from ⟨⟨z,z⟩,.inr ⟨179,[],[qp p],z,fun au aw ax ay P S=>B9b I.u ⟨o,z,q.u⟩ P S⟩⟩) M _) z fun aA aB aC aD U=>?_)
 obtain ⟨aE,W,X⟩:=U
 refine J9 _ W<|Ag z<|Nt<|T.ret<|G5 1 z<|T.drop ?_
 cases H
 exact T.rl z (Rv z) ⟨_,z,X⟩
theorem C3n {h b c d e f g} (a:Pt A1c h b c) (H:B4e c d e = some (f,g)):∀ L,G8 prog 94 [b,.string d,.string e] h (L) (fun v h' L'=>v = .tuple #[.int .u8 f,.bool g]∧L' = L):=by
 intro L
 refine G8.enter func94 z z z<|Sr<|Ag z<|Ag z<|Nt<|Sq<|Sr<|Mv z<|bE H fun x m H=>To (O.D8 z (A8e a m _) z fun y A B C n=>?_)
 obtain ⟨rfl,o⟩:=n
 refine J9 _ o<|Nt<|T.cH H z (fun H=>?_) fun H=>?_
 ·exact Sr<|Ag z<|Ag z<|Nt<|T.ret<|Tr<|E1 H
 refine Ks<|Sr<|Mv z<|Mv z<|Mv z<|bE H fun ⟨D,E⟩ p H=>To (O.D8 z (B5v a.u p _) z fun G I J K q=>?_)
 obtain ⟨rfl,r⟩:=q
 refine J9 _ r<|Mv z<|Vv (V.ext z z)<|Vv (V.ext z z)<|Ag z<|Ag z<|Nt<|Sq<|Sr<|Mv z<|Vv (V.not z)<|Nt<|T.cH H z (fun H=>?_) fun H=>?_
 ·exact Sr<|Ag z<|Ag z<|Nt<|T.ret<|Tr<|E1 H
 refine Ks<|Sr<|Mv z<|have s:=a; ?_
 obtain ⟨M,_,rfl,t,⟨N,P,S,rfl,U,i,W⟩⟩:=s
 refine Vv (V.S9 z)<|Vv (V.fa A0O z)<|Vv (V.fa A4P z)<|Vv (V.I9 (k:=1) Q4 z t.u z)<|Mv z<|bE H fun X j H=>?_
 obtain ⟨Y,w,rfl⟩:=G6.at i j
 exact Vv (V.ix X3 z z i (G7 j))<|Vv (V.fa A9V z)<|Vv (V.I9 (k:=2) B2X z w.u z)<|Ag z<|Ag z<|Nt<|T.ret<|E1 H
end Go.Proofs.X
open Go Go.Proofs Go.Proofs.Tryz Go.Sl Go.Dm
namespace Go.Proofs.X
theorem B1A : A0X prog 145 = some (154,1,8):=by kernel_rfl
theorem C3K : N8 prog 140 0 = some 0:=by kernel_rfl
theorem Y1 : N8 prog 149 0 = some 0:=by kernel_rfl
theorem A1j : N8 prog 149 2 = some 6:=by kernel_rfl
theorem B1e : N8 prog 149 7 = some 11:=by kernel_rfl
theorem R5 : N8 prog 212 0 = some 0:=by kernel_rfl
theorem A2n : N8 prog 212 1 = some 1:=by kernel_rfl
theorem J4 : N8 prog 33 0 = some 0:=by kernel_rfl
theorem K3 : N8 prog 33 1 = some 1:=by kernel_rfl
theorem Y5 : N8 prog 33 2 = some 2:=by kernel_rfl
theorem Y3 : N8 prog 33 3 = some 3:=by kernel_rfl
theorem P6 : N8 prog 33 4 = some 4:=by kernel_rfl
theorem V6 : N8 prog 42 2 = some 2:=by kernel_rfl
theorem A0e : N8 prog 42 3 = some 3:=by kernel_rfl
theorem A0I : N8 prog 42 4 = some 4:=by kernel_rfl
theorem Y6 : N8 prog 42 5 = some 5:=by kernel_rfl
theorem A8N : X9 prog 140 = some (true,5):=by kernel_rfl
theorem B5y : X9 prog 145 = some (false,1):=by kernel_rfl
theorem C5J : X9 prog 154 = some (false,1):=by kernel_rfl
theorem M0 : X9 prog 28 = some (false,1):=by kernel_rfl
theorem O7 : X9 prog 31 = some (false,1):=by kernel_rfl
theorem G9 : X9 prog 33 = some (true,5):=by kernel_rfl
theorem K7 : X9 prog 42 = some (true,6):=by kernel_rfl
theorem R3 : X9 prog 80 = some (false,1):=by kernel_rfl
theorem A0p : zer prog 33 = some (.agg #[.slice none 0 0,.slice none 0 0,.slice none 0 0,.slice none 0 0,.slice none 0 0]):=by kernel_rfl
theorem C3r {h d g} (H:B7Y d = some g):∀ L,G8 prog 225 [.string d] h (L) (fun v h' L'=>v = .bool g∧L' = L):=by
 intro L
 refine G8.enter func225 z z z<|Sr<|Ag z<|Nt<|Sq<|Sq ?_
 obtain ⟨j,k,m⟩:=M5 H
 refine T.M7 (α:=Bool) [0] z (fun c=>[(11,.bool c)]) (fun c=>L) (fun c hh=>j = c) ?_ ?_
 ·have H:=k
  refine Rg<|Mv z<|Vv (V.B1f underlying9 z)<|Vv (V.eq z z)<|Mv z<|T.bH 7 H z (fun H=>?_) fun H=>?_
  ·refine Sk<|Sk<|Sk<|Vv (V.R8 z z)<|Nt<|T.mt true (O5 H)
  refine Mv z<|Vv (V.B1f underlying9 z)<|Vv (V.gt z z)<|Vv (V.R9 z z)<|Nt<|T.mt (decide ((12:Int) < (d.size:Int))) (O5 H)
 rintro c x y n
 have H:=J8 n m
 refine T.norm [11,0] z<|T.fl ?_
 refine T.cH H z (fun H=>?_) fun H=>?_
 ·exact Sr<|Ag z<|Nt<|T.ret<|Tr<|E1 H
 refine Ks<|Sq<|Sr<|Mv z<|Vv (V.B1f underlying9 z)<|Mv z<|Nt ?_
 obtain ⟨i,o,f⟩:=M5 H
 refine T.M7 (α:=Unit) [] z (fun _u=>[]) (fun _u=>L) (fun _u hh=>i = (Sum.inl ())) ?_ ?_
 ·have H:=o
  refine Bl<|T.M8 (α:=Nat×Int) [0,13] z (fun ⟨a,b⟩=>[(14,qi b)]) (fun ⟨a,b⟩=>L) (fun ⟨a,b⟩ hh=>iter (B6H d) a b = some i) (fun ⟨a,b⟩=>a) (FUEL,(0:Int)) ⟨z,trivial⟩ z H ?_
  rintro ⟨a,b⟩ A B p
  obtain ⟨q,C,rfl,H,e⟩:=I1 p
  refine T.norm [14,0,13] z<|T.fl ?_
  refine Sr<|Vv (V.lt z z)<|Nt<|Sq<|T.cH H z (fun H=>?_) fun H=>?_
  ·refine Ks<|Sq<|Bl<|Sr<|Mv z<|Ag z<|Nt<|Sr<|Mv z<|Mv z<|bE H fun D r H=>Vv (V.C6l underlying9 z z r)<|Vv (V.lt z z)<|Mv z<|T.bH 21 H z (fun H=>?_) fun H=>?_
   ·exact Sk<|Sk<|Sk<|Sk<|Vv (V.R8 z z)<|Nt<|Ct z<|Sr<|Ag z<|Nt<|T.ret<|Br<|Tr<|Tr<|have H:=D9 H e; Br<|Tr<|have H:=J8 H f; E1 H
   refine Mv z<|Mv z<|bE H fun E s H=>Vv (V.C6l underlying9 z z s)<|Vv (V.gt z z)<|Vv (V.R9 z z)<|Nt<|T.cH H z (fun H=>?_) fun H=>?_
   ·exact Sr<|Ag z<|Nt<|T.ret<|Br<|Tr<|Tr<|have H:=D9 H e; Br<|Tr<|have H:=J8 H f; E1 H
   refine T.skip<|Bn<|Th<|Rg<|bE H fun t u H=>Vv (V.J2 z z u)<|Mv z<|Nt<|T.ag (q,t) (F4 H e)
  refine T.exit<|Te<|Te<|have H:=D9 H e; Be<|Th<|T.mt () H
 rintro _ G I w
 have H:=J8 w f
 refine T.norm [] z<|T.fl ?_
 exact Sr<|Ag z<|Nt<|T.ret<|E1 H
theorem C2k {h a b c d e f} (g:F9 h a b) (i:AtC h c d) (j:VS h d e) (H:B1B b e = some f):∀ L,G8 prog 313 [.agg a.toArray,.pointer (some c)] h (L) (fun v h' L'=>v = .bool f∧L' = L):=by
 intro L
 obtain ⟨n,rfl,o⟩:=g
 obtain rfl:=j
 refine G8.enter func313 z z z<|Sr<|To (O.Y0 z z z fun p q r m=>Ag z<|Nt<|Sr<|Vv (V.fa X4 z)<|Vv (V.I9 (k:=0) H9 z m z)<|Vv (V.ld0 H9 z i.u z)<|Vv (V.seq z z)<|Ag z<|Nt<|T.ret ?_)
 exact E1 H
theorem A3c {h b p1 a c} (e:M3 h b p1) (H:A3B p1 a = some c):∀ L,G8 prog 224 [.agg b.toArray,.string a] h (L) (fun v h' L'=>v = .int .i64 c∧L' = L):=by
 intro L
 obtain ⟨w,x,y,A,B,rfl,C,f,D,E,G⟩:=e
 refine G8.enter func224 z z z<|Sr<|To (O.Y0 z z z fun I J K g=>To (O.Y0 z z z fun d i M j=>Ag z<|Nt<|Sr<|Vv (V.fa K3 z)<|Vv (V.I9 (k:=1) I7 z g.u z)<|Vv (V.mkf z z)<|bE H fun N m H=>To (O.D8 z (A7w f.u (show B0u i (.func (.func 313) #[] #[qp d]) (fun n=>B1B n a) from ⟨⟨z,z⟩,.inr ⟨313,[],[qp d],z,fun o P S U p W q r=>C2k p j.u (show VS o [.string a] a from z) q r⟩⟩) m _) z fun X Y Z aa s=>?_)))
 obtain ⟨rfl,t⟩:=s
 exact J9 _ t<|Ag z<|Nt<|T.ret<|E1 H
theorem B5m {h m o s p t} (C:A2q h s p) (H:A8t m o p = some t):∀ L,G8 prog 86 [.int .i64 m,.int .i64 o,s] h (L) (fun v h' L'=>∃ w,L' = D5 3 1 v w::L∧A7 (VI .i64) h' w t):=by
 intro L
 refine G8.enter func86 z z z<|Sr<|Ag z<|Nt<|Sr<|Ag z<|Nt<|Sq<|Sr<|Mv z<|Ag z<|Nt ?_
 obtain ⟨x,D,G⟩:=M5 H
 refine T.M7 (α:=(List Int)×Value×(List (List Value))) [] z (fun ⟨f,i,k⟩=>[(7,i)]) (fun ⟨f,i,k⟩=>D5 3 1 i k::L) (fun ⟨f,i,k⟩ hh=>x = f∧A7 (VI .i64) hh k f) ?_ ?_
 ·have H:=D
  refine Bl<|T.U9 3 1<|have I:A7 (VI .i64) h [] ([]:List Int):=A7.nil; T.M8 (α:=Nat×(List Int)×Int×Value×(List (List Value))) [0,1,2] z (fun ⟨e,b,c,d,a⟩=>[(7,d),(8,qi c)]) (fun ⟨e,b,c,d,a⟩=>D5 3 1 d a::L) (fun ⟨e,b,c,d,a⟩ hh=>iter (A6R m o p) e (b,c) = some x∧A7 (VI .i64) hh a b) (fun ⟨e,b,c,d,a⟩=>e) (FUEL,([]:List Int),m,(qs),[]) ⟨z,z,trivial⟩ z ⟨H,I⟩ ?_
  rintro ⟨e,b,c,d,a⟩ J ai ⟨K,n⟩
  obtain ⟨y,aj,rfl,H,q⟩:=I1 K
  refine T.norm [7,8,0,1,2] z<|T.fl ?_
  refine Sq<|Sr<|Mv z<|Mv z<|Mv z<|bE H fun ak M H=>Vv (V.J2 z z M)<|Vv (V.lt z z)<|Nt<|T.cH H z (fun H=>?_) fun H=>?_
  ·refine Ks<|Sq<|Bl<|Sr<|Mv z<|Mv z<|bE H fun am N H=>?_
   obtain ⟨an,ao,aq,P,S⟩:=A2q.call (C.u (g:=J)) N
   refine To (O.A1d z P z (S _) z fun ar U au aw W=>?_)
   obtain ⟨rfl,X⟩:=W
   refine J9 _ X<|Nt<|T.cH H z (fun H=>?_) fun H=>?_
   ·refine Rg<|Mv z<|Mv z<|To (O.b1 (E:=VI .i64) C9 M9 z z z z z fun ax r=>bE H fun A B H=>To (O.apX C9 C9 M9 z z z (j:=1) z (Src.row (j:=0) z) (O4.of z) (A7.ones VI.plain r) n.u r B z fun Y ay aA=>have Z:A7 (VI .i64) U (a ++ [[qi c]]) A:=A7.ap n.u r B; G5 1 z<|T.drop<|Ag z<|Ni<|Bn<|Th<|Rg<|Mv z<|bE H fun aa ab H=>Vv (V.J2 z z ab)<|Ag z<|Nt<|T.ag (y,A,aa,Y,(a ++ [[qi c]])) ⟨(F4 H q),Z⟩))
   refine T.skip<|Bn<|Th<|Rg<|Mv z<|bE H fun ac ad H=>Vv (V.J2 z z ad)<|Ag z<|Nt<|T.ag (y,b,ac,d,a) ⟨(F4 H q),n.u⟩
  refine T.exit<|Te<|Te<|have H:=D9 H q; Be<|Th<|T.mt (b,d,a) ⟨H,n⟩
 rintro ⟨f,i,k⟩ aB aC ⟨ae,af⟩
 have H:=J8 ae G
 refine T.norm [7] z<|T.fl ?_
 refine Sr<|Mv z<|Ag z<|Nt<|T.ret ?_
 cases H
 exact T.rl z (Rv z) ⟨_,z,af⟩
theorem B3p {h X p1 q} (aE:M3 h X p1) (H:A7n p1 = some q):∀ L,G8 prog 81 [.agg X.toArray] h (L) (fun v h' L'=>∃ v0_1 v0_3 v0_5 v0_7 v0_9,v = .agg #[v0_1,v0_3,v0_5,v0_7,v0_9]∧L' = L∧G6 F7 7 h' v0_1 q.D7∧G6 F9 9 h' v0_3 q.A8∧G6 H7 3 h' v0_5 q.I8∧G6 (VI .i64) 1 h' v0_7 q.I6∧G6 H5 6 h' v0_9 q.J3):=by
 intro L
 obtain ⟨bv,Y,E,G,I,rfl,aG,aI,aJ,aK,aM⟩:=aE
 refine G8.enter func81 z z z<|Sr<|To (O.box z z z fun J=>To (O.alloc A0p z z fun K=>Nt<|Sr<|Vv (V.fa J4 z)<|Vv (V.ldO (k:=0) M0 z (j:=1) z z)<|bE H fun Z aN H=>To (O.D8 z (B0L aG aN _) z fun c bz ca cb aO=>?_)))
 obtain ⟨aP,aS,aa⟩:=aO
 refine J9 _ aS<|Vv (V.fa J4 z)<|T.J7 0 z fun aU aV=>To (O.st (vs:=[c]) (k:=0) M0 z z (j:=2) z aV (by (simp only [Sl.ones,aU,Bool.and_true,Bool.true_and]) <;> rfl) ?_)
 refine T.fl ?_
 refine Nt<|Sq<|Sr<|Vv (V.fa J4 z)<|Vv (V.ldO (k:=0) M0 z (j:=0) z z)<|Vv (V.A2a N9 z (j:=1) z aa.len)<|Mv z<|Nt ?_
 obtain ⟨ab,aW,aX⟩:=M5 H
 refine T.M7 (α:=(List C8)×(List (List Value))) [1,2] z (fun ⟨B,n⟩=>[]) (fun ⟨B,n⟩=>blk J (.cells [c,Y,E,G,I].toArray 33)::blk K (.cells [qs,qs,qs,qs,qs].toArray 33)::D5 54 7 c n::L) (fun ⟨B,n⟩ hh=>ab = B∧A7 F7 hh n B) ?_ ?_
 ·have H:=aW
  refine Bl<|G5 1 z<|T.fl ?_
  refine G5 2 z<|T.fl ?_
  refine G5 2 z<|T.fl ?_
  refine T.M8 (α:=Nat×(List C8)×Int×(List (List Value))) [1,2,11] z (fun ⟨r,o,f,d⟩=>[(12,qi f)]) (fun ⟨r,o,f,d⟩=>blk J (.cells [c,Y,E,G,I].toArray 33)::blk K (.cells [qs,qs,qs,qs,qs].toArray 33)::D5 54 7 c d::L) (fun ⟨r,o,f,d⟩ hh=>iter (A2S Z) r (o,f) = some ab∧A7 F7 hh d o) (fun ⟨r,o,f,d⟩=>r) (FUEL,Z,(0:Int),aP) ⟨z,trivial⟩ z ⟨H,aa⟩ ?_
  rintro ⟨r,o,f,d⟩ cc cd ⟨aY,s⟩
  obtain ⟨aZ,ce,rfl,H,ac⟩:=I1 aY
  refine T.norm [12,1,2,11] z<|T.fl ?_
  refine Sr<|Vv (V.lt z z)<|Nt<|Sq<|T.cH H z (fun H=>?_) fun H=>?_
  ·refine Ks<|Sq<|Bl<|Sr<|Mv z<|Ag z<|Nt<|G5 2 z<|T.fl ?_
   refine G5 1 z<|T.fl ?_
   refine T.O1 (t:=(.vs [0,1,2,3,4,5] (.x 6 (.v 7 (.x 8 (.alt 9 (.g (.alt 10 (.v 11 (.alt 12 .done .no)) .no)) .no)))))) 12 2 1 z z I4 (by kernel_rfl) ?_
   refine Tv z (V.fa J4 z)<|Tv z (Val.XA fun _ _ _=>V.ldO (k:=0) M0 z (j:=0) z z)<|Tm z z<|Tv z (V.fa J4 z)<|Tv z (Val.XA fun _ _ _=>V.ldO (k:=0) M0 z (j:=0) z z)<|Tm z z<|bE H fun cf ad H=>?_
   obtain ⟨cg,a0,⟨ci,rfl,a1⟩⟩:=A7.get s ad
   refine T.tx z z (Val.XA fun _ _ _=>V.ixR N9 z z (j:=1) z (A7.bd s ad)) z Calm.i<|Tv z (V.fa X6 z)<|T.tx z z (Val.XA fun _ _ _=>V.C8X (k:=4) E5 z (j:=1) z a0 z) z Calm.i<|bE H fun a2 a3 H=>Tp z z (SX.two (XA.fr [0] Lr z) (XA.fr [1,1] Lr z)) (O.D8 z (A2N a1 a3 _) z fun M cj ck cm a4=>?_) T.O9
   obtain ⟨cn,a5,a6⟩:=a4
   refine J9 _ a5<|T.O3 Li<|bE H fun b ae H=>?_
   obtain ⟨co,a7,⟨P,rfl,cp⟩⟩:=A7.get s ae
   refine Ts z z (SX.two (XA.fr [1] Lr z) (XA.fr [2,2] Lr z)) (V.ixR N9 z z (j:=2) z (A7.bd s ae)) z ?_ T.O9
   refine Tv z (V.fa X6 z)<|T.J5 fun af cq a8=>have S:=A7.Z4 a8 a6.u; bE H fun ai a9 H=>Tp z z (SX.two (XA.fr [0] Li z) (XA.fr [1,1] Li z)) (O.C9n (k:=4) E5 z z (j:=1) z (G6.cells S) (by (simp only [Sl.ones,G6.one S,Bool.and_true,Bool.true_and]) <;> rfl) z a7 ?_) T.O9
   have ah:A7 F7 af (d.set f.toNat (over [.string b.F8,.int .u8 b.O6,qi b.fA,qi b.fB,P,qi b.fX,qi b.fY] [M] 4)) ai:=A7.set s.u (show F7 af (over [.string b.F8,.int .u8 b.O6,qi b.fA,qi b.fB,P,qi b.fX,qi b.fY] [M] 4) (C8.mk b.F8 b.O6 b.fA b.fB a2 b.fX b.fY) from ⟨M,z,S⟩) a9
   refine T.R7 (SX.one (XA.fr [1] Li z) z)<|Bn<|Th<|Rg<|bE H fun al av H=>Vv (V.J2 z z av)<|Mv z<|Nt<|G5 2 z<|T.fl ?_
   refine G5 2 z<|T.fl ?_
   exact T.ag (aZ,ai,al,(d.set f.toNat (over [.string b.F8,.int .u8 b.O6,qi b.fA,qi b.fB,P,qi b.fX,qi b.fY] [M] 4))) ⟨(F4 H ac),ah⟩
  refine T.exit<|Te<|Te<|have H:=D9 H ac; Be<|Th<|T.mt (o,d) ⟨H,s⟩
 rintro ⟨B,n⟩ cr cs ⟨az,ba⟩
 have H:=J8 az aX
 refine T.norm [1,2] z<|T.fl ?_
 refine Sr<|Vv (V.fa K3 z)<|Vv (V.ldO (k:=1) I7 z (j:=0) z z)<|bE H fun aj bb H=>To (O.D8 z (B0X aI.u bb _) z fun w ct cu cw bc=>?_)
 obtain ⟨be,bf,ak⟩:=bc
 refine J9 _ bf<|Vv (V.fa K3 z)<|T.J7 0 z fun bg bi=>To (O.st (vs:=[w]) (k:=1) I7 z z (j:=1) z bi (by (simp only [Sl.ones,bg,Bool.and_true,Bool.true_and]) <;> rfl) ?_)
 refine T.fl ?_
 refine Nt<|Sq<|Sr<|Vv (V.fa K3 z)<|Vv (V.ldO (k:=1) I7 z (j:=0) z z)<|Vv (V.A2a K8 z (j:=1) z ak.len)<|Mv z<|Nt ?_
 obtain ⟨am,bj,bk⟩:=M5 H
 refine T.M7 (α:=(List D6)×(List (List Value))) [1,2] z (fun ⟨C,D⟩=>[]) (fun ⟨C,D⟩=>blk J (.cells [c,w,E,G,I].toArray 33)::blk K (.cells [qs,qs,qs,qs,qs].toArray 33)::D5 54 7 c n::D5 39 9 w D::L) (fun ⟨C,D⟩ hh=>am = C∧A7 F9 hh D C) ?_ ?_
 ·have H:=bj
  refine Bl<|G5 1 z<|T.fl ?_
  refine G5 3 z<|T.fl ?_
  refine G5 3 z<|T.fl ?_
  refine G5 3 z<|T.fl ?_
  refine T.M8 (α:=Nat×(List D6)×Int×(List (List Value))) [1,2,34] z (fun ⟨y,p,m,e⟩=>[(35,qi m)]) (fun ⟨y,p,m,e⟩=>blk J (.cells [c,w,E,G,I].toArray 33)::blk K (.cells [qs,qs,qs,qs,qs].toArray 33)::D5 54 7 c n::D5 39 9 w e::L) (fun ⟨y,p,m,e⟩ hh=>iter (A2V aj) y (p,m) = some am∧A7 F9 hh e p) (fun ⟨y,p,m,e⟩=>y) (FUEL,aj,(0:Int),be) ⟨z,trivial⟩ z ⟨H,ak⟩ ?_
  rintro ⟨y,p,m,e⟩ cx cy ⟨bm,A⟩
  obtain ⟨bn,cA,rfl,H,an⟩:=I1 bm
  refine T.norm [35,1,2,34] z<|T.fl ?_
  refine Sr<|Vv (V.lt z z)<|Nt<|Sq<|T.cH H z (fun H=>?_) fun H=>?_
  ·refine Ks<|Sq<|Bl<|Sr<|Mv z<|Ag z<|Nt<|G5 3 z<|T.fl ?_
   refine G5 1 z<|T.fl ?_
   refine T.O1 (t:=(.vs [0,1,2,3,4,5] (.x 6 (.v 7 (.x 8 (.alt 9 (.g (.alt 10 (.v 11 (.alt 12 .done .no)) .no)) .no)))))) 12 2 1 z z I4 (by kernel_rfl) ?_
   refine Tv z (V.fa K3 z)<|Tv z (Val.XA fun _ _ _=>V.ldO (k:=1) I7 z (j:=0) z z)<|Tm z z<|Tv z (V.fa K3 z)<|Tv z (Val.XA fun _ _ _=>V.ldO (k:=1) I7 z (j:=0) z z)<|Tm z z<|bE H fun cB ao H=>?_
   obtain ⟨cC,bo,⟨cD,rfl,bp⟩⟩:=A7.get A ao
   refine T.tx z z (Val.XA fun _ _ _=>V.ixR K8 z z (j:=1) z (A7.bd A ao)) z Calm.i<|Tv z (V.fa V5 z)<|T.tx z z (Val.XA fun _ _ _=>V.C8X (k:=8) A0b z (j:=1) z bo z) z Calm.i<|bE H fun bq br H=>Tp z z (SX.two (XA.fr [0] Lr z) (XA.fr [1,1] Lr z)) (O.D8 z (A3Z bp br _) z fun N cE cG cI bs=>?_) T.O9
   obtain ⟨cJ,bt,bu⟩:=bs
   refine J9 _ bt<|T.O3 Li<|bE H fun a ap H=>?_
   obtain ⟨cK,bw,⟨U,rfl,cM⟩⟩:=A7.get A ap
   refine Ts z z (SX.two (XA.fr [1] Lr z) (XA.fr [2,2] Lr z)) (V.ixR K8 z z (j:=2) z (A7.bd A ap)) z ?_ T.O9
   refine Tv z (V.fa V5 z)<|T.J5 fun aq cN bx=>have W:=A7.Z4 bx bu.u; bE H fun ar bA H=>Tp z z (SX.two (XA.fr [0] Li z) (XA.fr [1,1] Li z)) (O.C9n (k:=8) A0b z z (j:=1) z (G6.cells W) (by (simp only [Sl.ones,G6.one W,Bool.and_true,Bool.true_and]) <;> rfl) z bw ?_) T.O9
   have bB:A7 F9 aq (e.set m.toNat (over [.string a.F8,.string a.A0k,.string a.V9,qi a.V3,qi a.A0f,.string a.Z0,.bool a.A0u,.bool a.U2,U] [N] 8)) ar:=A7.set A.u (show F9 aq (over [.string a.F8,.string a.A0k,.string a.V9,qi a.V3,qi a.A0f,.string a.Z0,.bool a.A0u,.bool a.U2,U] [N] 8) (D6.mk a.F8 a.A0k a.V9 a.V3 a.A0f a.Z0 a.A0u a.U2 bq) from ⟨N,z,W⟩) bA
   refine T.R7 (SX.one (XA.fr [1] Li z) z)<|Bn<|Th<|Rg<|bE H fun bC bD H=>Vv (V.J2 z z bD)<|Mv z<|Nt<|G5 3 z<|T.fl ?_
   refine G5 3 z<|T.fl ?_
   refine G5 3 z<|T.fl ?_
   exact T.ag (bn,ar,bC,(e.set m.toNat (over [.string a.F8,.string a.A0k,.string a.V9,qi a.V3,qi a.A0f,.string a.Z0,.bool a.A0u,.bool a.U2,U] [N] 8))) ⟨(F4 H an),bB⟩
  refine T.exit<|Te<|Te<|have H:=D9 H an; Be<|Th<|T.mt (p,e) ⟨H,A⟩
 rintro ⟨C,D⟩ cO cP ⟨bG,bI⟩
 have H:=J8 bG bk
 refine T.norm [1,2] z<|T.fl ?_
 refine Sq<|T.O1 (t:=(.v 0 (.x 1 (.v 3 (.x 4 (.v 6 (.x 7 (.alt 2 (.g (.v 9 (.alt 5 (.g (.alt 8 (.g (.alt 10 (.g (.v 11 (.alt 12 (.g (.v 13 (.alt 14 .done .no))) .no))) .no)) .no)) .no))) .no)))))))) 10 1 0 z z I4 (by kernel_rfl) ?_
 refine Tv z (V.fa Y5 z)<|T.tx z z (Val.XA fun _ _ _=>V.ldO (k:=2) Q4 z (j:=0) z z) z Calm.i<|Tv z (V.fa Y3 z)<|T.tx z z (Val.XA fun _ _ _=>V.ldO (k:=3) E5 z (j:=0) z z) z Calm.i<|Tv z (V.fa P6 z)<|T.tx z z (Val.XA fun _ _ _=>V.ldO (k:=4) O7 z (j:=0) z z) z Calm.i<|bE H fun cS bJ H=>Tp z z (SX.two (XA.fr [] Lr z) (XA.fr [0] Lr z)) (O.D8 z (B3Y aJ.u bJ _) z fun au cU cV cW bK=>?_) T.O9
 obtain ⟨cX,bM,bN⟩:=bK
 refine J9 _ bM<|T.O3 Li<|Tv z (V.fa Y5 z)<|bE H fun cY bO H=>Tp z z (SX.two (XA.fr [] Lr z) (XA.fr [1] Lr z)) (O.D8 z (A2N aK.u bO _) z fun aw cZ c0 c1 bP=>?_) T.O9
 obtain ⟨c2,bS,bU⟩:=bP
 refine J9 _ bS<|T.O3 Li<|bE H fun c3 bV H=>Tp z z (SX.two (XA.fr [] Lr z) (XA.fr [2] Lr z)) (O.D8 z (B1H aM.u bV _) z fun ax c4 c5 c6 bW=>?_) T.O9
 obtain ⟨c7,bX,bY⟩:=bW
 refine J9 _ bX<|T.O3 Li<|T.J7 2 z fun bZ b0=>Tp z z (SX.two (XA.fr [] Lr z) (XA.fr [3] Lr z)) (O.st (vs:=[au]) (k:=2) Q4 z z (j:=3) z b0 (by (simp only [Sl.ones,bZ,Bool.and_true,Bool.true_and]) <;> rfl) ?_) T.O9
 refine T.fl ?_
 refine T.O3 Lr<|Tv z (V.fa Y3 z)<|T.J7 2 z fun b1 b2=>Tp z z (SX.one (XA.fr [] Lr z) z) (O.st (vs:=[aw]) (k:=3) E5 z z (j:=0) z b2 (by (simp only [Sl.ones,b1,Bool.and_true,Bool.true_and]) <;> rfl) ?_) T.O9
 refine T.fl ?_
 refine T.O3 Lr<|Tv z (V.fa P6 z)<|T.J7 1 z fun b3 b4=>Tp z z (SX.one (XA.fr [] Lr z) z) (O.st (vs:=[ax]) (k:=4) O7 z z (j:=0) z b4 (by (simp only [Sl.ones,b3,Bool.and_true,Bool.true_and]) <;> rfl) ?_) T.O9
 refine T.fl ?_
 refine T.R7 (SX.one (XA.fr [] Lr z) z)<|Th<|Sr<|Vv (V.A3T (j:=0) (by exact G9) z z) ?_
 refine G5 5 z<|T.fl ?_
 refine T.J5 fun c8 c9 b5=>have ay:=A7.Z4 b5 ba.u; G5 5 z<|T.fl ?_
 refine T.J5 fun ch cl b6=>have aA:=A7.Z4 b6 bI.u; G5 3 z<|T.fl ?_
 refine T.J5 fun cv cz b7=>have aB:=A7.Z4 b7 bN.u; G5 2 z<|T.fl ?_
 refine T.J5 fun da db b8=>have aC:=A7.Z4 b8 bU.u; G5 1 z<|T.fl ?_
 refine T.J5 fun dc dd b9=>have aD:=A7.Z4 b9 bY.u; To (O.stF (vs:=[c,w,au,aw,ax]) G9 z z (j:=1) z z (by (simp only [Sl.ones,G6.one ay,G6.one aA,G6.one aB,G6.one aC,G6.one aD,Bool.and_true,Bool.true_and]) <;> rfl) z ?_)
 refine T.freeze fun de df bh=>have bl:=AtC.of bh; Nt<|T.ret<|T.drop ?_
 cases H
 exact T.rl z (RVs.cons (RV.B0y z bl G9) RVs.nil) ⟨_,_,_,_,_,z,z,ay.u,aA.u,aB.u,aC.u,aD.u⟩
theorem C4l {h c d e f g i j} (E:Pt U4 h c d) (G:H5 h e f) (H:C2w d f = some (g,i,j)):∀ L,G8 prog 226 [c,.agg e.toArray] h (L) (fun v h' L'=>v = .tuple #[.int .i64 g,.int .i64 i,.bool j]∧L' = L):=by
 intro L
 obtain rfl:=G
 refine G8.enter func226 z z z<|Sr<|To (O.Y0 z z z fun Z aa ab m=>Ag z<|Ag z<|Ag z<|Nt<|Sq<|T.O1 (t:=(.vs [0,1,2,3,4,5,6,7,8,10,11,12,13,14,15,16,17,18] (.alt 9 (.alt 19 (.alt 20 (.alt 21 .done .no) .no) .no) .no))) 23 0 0 z z I4 (by kernel_rfl) ?_)
 refine Tm z z<|have I:=E; ?_
 obtain ⟨ac,_,rfl,a,⟨ad,ae,af,rfl,J,b,ag⟩⟩:=I
 refine Tv z (V.S9 z)<|Tv z (V.fa R5 z)<|Tv z (V.I9 (k:=0) R3 z a.u z)<|have K:=J; ?_
 obtain ⟨ai,_,rfl,n,⟨o,p,q,r,s,aj,ak,am,an,ao,ap,aq,ar,au,rfl,w,x,y,A,B,aw,ax,ay,aA,aB,aC,aD,aE,aG⟩⟩:=K
 refine Tv z (V.S9 z)<|Tv z (V.fa Y1 z)<|Tv z (V.C2j (k:=0) A8N z n.u (Nat.le_of_ble_eq_true z))<|Tv z (V.fa V6 z)<|Tv z (V.I9 (k:=2) H9 z m z)<|Tm z z<|Tv z (V.S9 z)<|Tv z (V.fa R5 z)<|Tv z (V.I9 (k:=0) R3 z a.u z)<|Tv z (V.S9 z)<|Tv z (V.fa Y1 z)<|Tv z (V.C2j (k:=0) A8N z n.u (Nat.le_of_ble_eq_true z))<|Tv z (V.fa A0e z)<|Tv z (V.I9 (k:=3) H9 z m z)<|bE H fun aI M H=>Tp z z (SX.two (XA.fr [] Lr z) (XA.fr [] Lr z)) (O.D8 z (A3c ⟨o,p,q,r,s,z,w.u,x.u,y.u,A.u,B.u⟩ M _) z fun aJ aK aM aN N=>?_) T.O9
 obtain ⟨rfl,P⟩:=N
 refine J9 _ P<|bE H fun aO S H=>Tp z z (SX.two (XA.fr [] Li z) (XA.fr [] Li z)) (O.D8 z (A3c ⟨o,p,q,r,s,z,w.u,x.u,y.u,A.u,B.u⟩ S _) z fun aP aS aU aV U=>?_) T.O9
 obtain ⟨rfl,W⟩:=U
 refine J9 _ W<|Ts z z (SX.two (XA.fr [] Li z) (XA.fr [] Li z)) (V.asg z) z ?_ T.O9
 refine Ts z z (SX.two (XA.fr [] Li z) (XA.fr [] Li z)) (V.asg z) z ?_ T.O9
 refine T.R7 (SX.two (XA.fr [] Li z) (XA.fr [] Li z))<|Th<|Sq<|T.O1 (t:=(.vs [0,1,2,3,4,5,6,7,8,9,10,11,12,13,14,15,16,17,18,19] (.alt 20 (.alt 21 (.alt 22 .done .no) .no) .no))) 24 0 0 z z I4 (by kernel_rfl) ?_
 refine Tm z z<|Tm z z<|Tm z z<|Tv z (V.S9 z)<|Tv z (V.fa A2n z)<|Tv z (V.I9 (k:=1) E5 z a.u z)<|Tm z z<|bE H fun aW C H=>?_
 obtain ⟨aX,X,rfl⟩:=G6.at b C
 refine Tv z (V.ix C9 z z b (G7 C))<|Tv z (V.ld0 E8 z X.u z)<|Tv z (V.ge z z)<|Tm z z<|T.bH 39 H z (fun H=>?_) fun H=>?_
 ·refine Tm z z<|Tv z (V.S9 z)<|Tv z (V.fa A2n z)<|Tv z (V.I9 (k:=1) E5 z a.u z)<|Tm z z<|bE H fun aY D H=>?_
  obtain ⟨aZ,Y,rfl⟩:=G6.at b D
  refine Tv z (V.ix C9 z z b (G7 D))<|Tv z (V.ld0 E8 z Y.u z)<|Tv z (V.ge z z)<|Tv z (V.R8 z z)<|Ts z z (SX.two (XA.fr [] Lr z) (XA.fr [] Lr z)) (V.asg z) z ?_ T.O9
  refine Ts z z (SX.two (XA.fr [] Lr z) (XA.fr [] Lr z)) (V.asg z) z ?_ T.O9
  refine Ts z z (SX.two (XA.fr [] Lr z) (XA.fr [] Lr z)) (V.asg z) z ?_ T.O9
  exact T.R7 (SX.two (XA.fr [] Lr z) (XA.fr [] Lr z))<|Th<|T.ret<|E1 H
 refine Tk z<|Tk z<|Tk z<|Tk z<|Tk z<|Tk z<|Tk z<|Tk z<|Tv z (V.R9 z z)<|Ts z z (SX.two (XA.fr [] Lr z) (XA.fr [] Lr z)) (V.asg z) z ?_ T.O9
 refine Ts z z (SX.two (XA.fr [] Lr z) (XA.fr [] Lr z)) (V.asg z) z ?_ T.O9
 refine Ts z z (SX.two (XA.fr [] Lr z) (XA.fr [] Lr z)) (V.asg z) z ?_ T.O9
 exact T.R7 (SX.two (XA.fr [] Lr z) (XA.fr [] Lr z))<|Th<|T.ret<|E1 H
theorem C4v {h c d e f g i} (p:Pt U4 h c d) (H:C5y d e f = some (g,i)):∀ L,G8 prog 227 [c,.int .i64 e,.int .i64 f] h (L) (fun v h' L'=>v = .tuple #[.int .i64 g,.bool i]∧L' = L):=by
 intro L
 refine G8.enter func227 z z z<|Sr<|Ag z<|Ag z<|Nt<|Sq<|T.O1 (t:=(.vs [0,1,2,3,4,5,6,7,8,9,10,11,12,13,14,15,16,17,18,19,20,21,22,23,24,25,26] (.alt 27 (.alt 28 .done .no) .no))) 30 0 0 z z I4 (by kernel_rfl) ?_
 refine Tm z z<|have q:=p; ?_
 obtain ⟨D,_,rfl,b,⟨E,G,I,rfl,r,a,J⟩⟩:=q
 refine Tv z (V.S9 z)<|Tv z (V.fa R5 z)<|Tv z (V.I9 (k:=0) R3 z b z)<|have s:=r; ?_
 obtain ⟨K,_,rfl,u,⟨M,N,O,P,S,U,W,X,Y,Z,aa,ab,ac,ad,rfl,ae,af,ag,ai,aj,ak,am,an,ao,ap,aq,j,ar,au⟩⟩:=s
 refine Tv z (V.S9 z)<|Tv z (V.fa B1e z)<|Tv z (V.I9 (k:=11) B5y z u z)<|Tm z z<|Tv z (V.S9 z)<|Tv z (V.fa A2n z)<|Tv z (V.I9 (k:=1) E5 z b z)<|Tm z z<|bE H fun aw m H=>?_
 obtain ⟨ax,w,rfl⟩:=G6.at a m
 refine Tv z (V.ix C9 z z a (G7 m))<|Tv z (V.ld0 E8 z w z)<|bE H fun ay n H=>?_
 obtain ⟨aA,x,⟨aB,rfl,y⟩⟩:=G6.at j n
 refine Tv z (V.ix B1A z z j (G7 n))<|Tv z (V.ld0 C5J z x z)<|Tm z z<|Tv z (V.S9 z)<|Tv z (V.fa A2n z)<|Tv z (V.I9 (k:=1) E5 z b z)<|Tm z z<|bE H fun aC o H=>?_
 obtain ⟨aD,A,rfl⟩:=G6.at a o
 refine Tv z (V.ix C9 z z a (G7 o))<|Tv z (V.ld0 E8 z A z)<|bE H fun ⟨aE,aG⟩ B H=>?_
 obtain ⟨_,C,rfl⟩:=Mp.look (zc:=[qi 0]) (agg:=false) underlying154 (A0M.int underlying3) M9 (show (VI .i64) h [qi 0] (0:Int) from rfl) y B
 refine Tv z (V.lkF z z C)<|Tm z z<|Tv z (V.ext z z)<|Tv z (V.ext z z)<|Ts z z (SX.two (XA.fr [] Lr z) (XA.fr [] Lr z)) (V.asg z) z ?_ T.O9
 refine Ts z z (SX.two (XA.fr [] Lr z) (XA.fr [] Lr z)) (V.asg z) z ?_ T.O9
 exact T.R7 (SX.two (XA.fr [] Lr z) (XA.fr [] Lr z))<|Th<|Sq<|T.norm [8,9] z<|Rg<|Mv z<|Mv z<|Ag z<|Ag z<|Nt<|T.ret<|E1 H
theorem C2u {σ:Type} {R:σ→PH→List E9→Prop} {m:σ→Int→(List Int)→Option σ} {n:σ} {q_s:σ} {h o p q a r La} (g:Pt U4 h o p) (J:H5 h q a) (i:A1R R h r m) (hRa:R n h La) (H:C0v p a m n = some q_s):∀ As L,G8 prog 151 [o,.agg q.toArray,r] h ((As ++ (La ++ L))) (fun v h' L'=>∃ La',v = .tuple #[]∧L' = (As ++ (La' ++ L))∧R q_s h' La'):=by
 intro As L
 obtain rfl:=J
 refine G8.enter func151 z z z<|Sr<|To (O.Y0 z z z fun aE K s j=>Nt<|Sr<|Mv z<|Vv (V.ldS z j (by exact K7)) ?_)
 refine bE H fun ⟨w,x,aG⟩ M H=>To (O.D8 z (C4l g.u (show H5 K [.int .u8 a.H8,qi a.Q3,.string a.fA,.string a.fB,.string a.R6,qi a.fN] a from z) M _) z fun aI aJ aK y N=>?_)
 obtain ⟨rfl,P⟩:=N
 refine J9 _ P<|Mv z<|Vv (V.ext z z)<|Vv (V.ext z z)<|Vv (V.ext z z)<|Ag z<|Ag z<|Ag z<|Nt<|Sq<|Sq ?_
 obtain ⟨S,U,W⟩:=M5 H
 refine T.M7 (α:=Bool) [0,2,4,6,7] z (fun b=>[(54,.bool b)]) (fun b=>(As ++ (La ++ L))) (fun b hh=>S = b) ?_ ?_
 ·have H:=U
  refine T.O1 (t:=(.vs [0,1,2,3,4,5,6,7,8,9,10,11,12,13,14,15,16,17,18,19,20,21,22,23,24,25,26,27,28,29,30,31,32,33,34,35,36] .done)) 38 0 0 z z I4 (by kernel_rfl) ?_
  refine Tm z z<|Tv z (V.not z)<|Tm z z<|T.bH 20 H z (fun H=>?_) fun H=>?_
  ·refine Tk z<|Tk z<|Tk z<|Tk z<|Tk z<|Tk z<|Tk z<|Tk z<|Tk z<|Tk z<|Tk z<|Tk z<|Tk z<|Tk z<|Tk z<|Tk z<|Tk z<|Tk z<|Tk z<|Tk z<|Tk z<|Tk z<|Tk z<|Tk z<|Tk z<|Tk z<|Tk z<|Tk z<|Tk z<|Tk z<|Tk z<|Tk z<|Tk z<|Tv z (V.R8 z z)<|T.R7 (SX.two (XA.fr [] Lr z) (XA.fr [] Lr z))<|Th<|T.mt true (O5 H)
  refine Tm z z<|have X:=g; ?_
  obtain ⟨aM,_,rfl,c,⟨aN,aO,aP,rfl,Y,d,aS⟩⟩:=X
  refine Tv z (V.S9 z)<|Tv z (V.fa R5 z)<|Tv z (V.I9 (k:=0) R3 z c.u z)<|have Z:=Y; ?_
  obtain ⟨aU,_,rfl,A,⟨aV,aW,aX,aY,aZ,a0,a1,a2,a3,a4,a5,a6,a7,a8,rfl,a9,ah,al,av,az,ba,f,bb,bc,bd,be,bf,bg,bi⟩⟩:=Z
  refine Tv z (V.S9 z)<|Tv z (V.fa A1j z)<|Tv z (V.I9 (k:=6) E5 z A.u z)<|Tm z z<|Tv z (V.S9 z)<|Tv z (V.fa A2n z)<|Tv z (V.I9 (k:=1) E5 z c.u z)<|Tm z z<|bE H fun bj B H=>?_
  obtain ⟨bk,aa,rfl⟩:=G6.at d B
  refine Tv z (V.ix C9 z z d (G7 B))<|Tv z (V.ld0 E8 z aa.u z)<|bE H fun ab C H=>?_
  obtain ⟨bm,ac,rfl⟩:=G6.at f C
  refine Tv z (V.ix C9 z z f (G7 C))<|Tv z (V.ld0 E8 z ac.u z)<|Tm z z<|Tv z (V.S9 z)<|Tv z (V.fa R5 z)<|Tv z (V.I9 (k:=0) R3 z c.u z)<|Tv z (V.S9 z)<|Tv z (V.fa A1j z)<|Tv z (V.I9 (k:=6) E5 z A.u z)<|Tm z z<|Tv z (V.S9 z)<|Tv z (V.fa A2n z)<|Tv z (V.I9 (k:=1) E5 z c.u z)<|Tm z z<|bE H fun bn D H=>?_
  obtain ⟨bo,ad,rfl⟩:=G6.at d D
  refine Tv z (V.ix C9 z z d (G7 D))<|Tv z (V.ld0 E8 z ad.u z)<|bE H fun ae E H=>?_
  obtain ⟨bp,af,rfl⟩:=G6.at f E
  refine Tv z (V.ix C9 z z f (G7 E))<|Tv z (V.ld0 E8 z af.u z)<|Tv z (V.ne z z)<|Tv z (V.R9 z z)<|T.R7 (SX.two (XA.fr [] Lr z) (XA.fr [] Lr z))<|Th<|T.mt (!decide (ab = ae)) (O5 H)
 rintro b bq G ag
 have H:=J8 ag W
 refine T.norm [54,0,2,4,6,7] z<|J9 ((As ++ (La ++ L))) z<|T.cH H z (fun H=>?_) fun H=>?_
 ·refine T.ret<|Tr<|have ai:=((s.trans y).trans G); have aj:=i.2.1 _ _ _ _ ai hRa; ?_
  cases H
  exact T.C5S results151 Li ⟨La,z,z,aj⟩
 refine Ks<|Sr<|Mv z<|Mv z<|Mv z<|bE H fun ⟨br,bt⟩ ak H=>To (O.D8 z (C4v g.u ak _) z fun bu am bw an ao=>?_)
 obtain ⟨rfl,ap⟩:=ao
 refine J9 _ ap<|Mv z<|Vv (V.ext z z)<|Vv (V.ext z z)<|Ag z<|Ag z<|Nt<|Sr<|Vv (V.fa Y6 z)<|Vv (V.I9 (k:=5) E8 z j.u z)<|Vv (V.eq z z)<|Mv z<|T.bH 65 H z dead fun H=>Mv z<|Mv z<|T.bH 67 H z (fun H=>?_) fun H=>?_
 ·refine Mv z<|Vv (V.fa Y6 z)<|Vv (V.I9 (k:=5) E8 z j.u z)<|Vv (V.lt z z)<|Vv (V.R8 z z)<|Vv (V.R9 z z)<|Nt<|T.cH H z (fun H=>?_) fun H=>?_
  ·refine Rg<|Mv z<|Mv z<|Mv z<|To (O.bs C9 M9 z (e:=z) (hk:=z) (xs:=[.tmp 75,.tmp 76]) (hv:=CO.eq (CO.cons z (CO.cons z CO.nil))) (hw:=O4.of z) (hd:=z) fun bx=>have aq:A7 (VI .i64) am [[qi w],[qi x]] ([w,x]:List Int):=(A7.cons z (A7.cons z A7.nil)); T.J5 fun bA ar au=>have aw:=A7.Z4 au aq.u; bE H fun bB ax H=>have ay:=((((s.trans y).trans G).trans an).trans ar); have aA:=i.2.1 _ _ _ _ ay hRa; To (O.C6T z z (A1R.call i.u aw aA ax As _) z fun bC bD bG bI aB=>?_))
   obtain ⟨I,rfl,aC,aD⟩:=aB
   refine J9 ((As ++ (I ++ L))) aC<|Ni ?_
   cases H
   exact T.B2y results151 Li ⟨I,z,z,aD⟩
  exact dead H
 exact dead H
theorem B5Q {σ:Type} {R:σ→PH→List E9→Prop} {a:σ→Int→(List Int)→Option σ} {b:σ} {q_s:σ} {h c d e f g La} (i:Pt U4 h c d) (j:H5 h e f) (k:A1R R h g a) (hRa:R b h La) (H:B1L d f a b = some q_s):∀ As L,G8 prog 152 [c,.agg e.toArray,g] h ((As ++ (La ++ L))) (fun v h' L'=>∃ La',v = .tuple #[]∧L' = (As ++ (La' ++ L))∧R q_s h' La'):=by
 intro As L
 exact dead H
theorem B6a {σ:Type} {R:σ→PH→List E9→Prop} {a:σ→Int→(List Int)→Option σ} {b:σ} {q_s:σ} {h c d e f g La} (i:Pt U4 h c d) (j:H5 h e f) (k:A1R R h g a) (hRa:R b h La) (H:B1X d f a b = some q_s):∀ As L,G8 prog 153 [c,.agg e.toArray,g] h ((As ++ (La ++ L))) (fun v h' L'=>∃ La',v = .tuple #[]∧L' = (As ++ (La' ++ L))∧R q_s h' La'):=by
 intro As L
 exact dead H
theorem B9v {σ:Type} {R:σ→PH→List E9→Prop} {a:σ→Int→(List Int)→Option σ} {b:σ} {q_s:σ} {h c d e f g La} (i:Pt U4 h c d) (j:H5 h e f) (k:A1R R h g a) (hRa:R b h La) (H:B8J d f a b = some q_s):∀ As L,G8 prog 154 [c,.agg e.toArray,g] h ((As ++ (La ++ L))) (fun v h' L'=>∃ La',v = .tuple #[]∧L' = (As ++ (La' ++ L))∧R q_s h' La'):=by
 intro As L
 exact dead H
theorem B7J {σ:Type} {R:σ→PH→List E9→Prop} {a:σ→Int→(List Int)→Option σ} {b:σ} {q_s:σ} {h c d e f g La} (i:Pt U4 h c d) (j:H5 h e f) (k:A1R R h g a) (hRa:R b h La) (H:B4R d f a b = some q_s):∀ As L,G8 prog 155 [c,.agg e.toArray,g] h ((As ++ (La ++ L))) (fun v h' L'=>∃ La',v = .tuple #[]∧L' = (As ++ (La' ++ L))∧R q_s h' La'):=by
 intro As L
 exact dead H
theorem C5H {σ:Type} {R:σ→PH→List E9→Prop} {a:σ→Int→(List Int)→Option σ} {b:σ} {q_s:σ} {h c d e f g La} (i:Pt U4 h c d) (j:H5 h e f) (k:A1R R h g a) (hRa:R b h La) (H:C6G d f a b = some q_s):∀ As L,G8 prog 156 [c,.agg e.toArray,g] h ((As ++ (La ++ L))) (fun v h' L'=>∃ La',v = .tuple #[]∧L' = (As ++ (La' ++ L))∧R q_s h' La'):=by
 intro As L
 exact dead H
theorem C3R {σ:Type} {R:σ→PH→List E9→Prop} {r:σ→Int→(List Int)→Option σ} {s:σ} {q_s:σ} {h w m x y A La} (S:Pt U4 h w m) (U:H5 h x y) (b:A1R R h A r) (hRa:R s h La) (H:C3a m y r s = some q_s):∀ As L,G8 prog 157 [w,.agg x.toArray,A] h ((As ++ (La ++ L))) (fun v h' L'=>∃ La',v = .tuple #[]∧L' = (As ++ (La' ++ L))∧R q_s h' La'):=by
 intro As L
 obtain rfl:=U
 refine G8.enter func157 z z z<|Sr<|To (O.Y0 z z z fun ah al i n=>Nt<|Sq<|T.O1 (t:=(.vs [0,1,2,3,4,5,6,7,8] (.alt 9 (.alt 10 .done .no) .no))) 12 0 0 z z I4 (by kernel_rfl) ?_)
 refine Tm z z<|have W:=S; ?_
 obtain ⟨av,_,rfl,c,⟨az,ba,bb,rfl,X,B,bc⟩⟩:=W
 refine Tv z (V.S9 z)<|Tv z (V.fa R5 z)<|Tv z (V.I9 (k:=0) R3 z c.u z)<|have Y:=X; ?_
 obtain ⟨bd,_,rfl,f,⟨Z,aa,ab,ac,ad,be,bf,bg,bi,bj,bk,bm,bn,bo,rfl,o,ae,af,ai,aj,bp,d,bq,br,bs,bt,bu,bw,bx⟩⟩:=Y
 refine Tv z (V.S9 z)<|Tv z (V.fa Y1 z)<|Tv z (V.C2j (k:=0) A8N z f.u (Nat.le_of_ble_eq_true z))<|Tv z (V.fa V6 z)<|Tv z (V.I9 (k:=2) H9 z n z)<|bE H fun bA ak H=>Tp z z (SX.two (XA.fr [] Lr z) (XA.fr [] Lr z)) (O.D8 z (A3c ⟨Z,aa,ab,ac,ad,z,o.u,ae.u,af.u,ai.u,aj.u⟩ ak _) z fun bB bC bD j am=>?_) T.O9
 obtain ⟨rfl,an⟩:=am
 refine J9 _ an<|Ts z z (SX.two (XA.fr [] Li z) (XA.fr [] Li z)) (V.asg z) z ?_ T.O9
 refine T.R7 (SX.two (XA.fr [] Li z) (XA.fr [] Li z))<|Th<|Sr<|Mv z<|Vv (V.S9 z)<|Vv (V.fa A2n z)<|Vv (V.I9 (k:=1) E5 z c.u z)<|Mv z<|bE H fun C D H=>?_
 obtain ⟨bG,ao,rfl⟩:=G6.at B D
 refine Vv (V.ix C9 z z B (G7 D))<|Vv (V.ld0 E8 z ao.u z)<|Ag z<|Nt<|Sq<|Sr<|Mv z<|Vv (V.lt z z)<|Nt<|T.cH H z (fun H=>?_) fun H=>?_
 ·refine T.ret<|Tr<|have ap:=(i.trans j); have aq:=b.2.1 _ _ _ _ ap hRa; ?_
  cases H
  exact T.C5S results157 Li ⟨La,z,z,aq⟩
 refine Ks<|Sr<|Mv z<|Ag z<|Nt<|Sq ?_
 obtain ⟨G,ar,au⟩:=M5 H
 refine T.M7 (α:=Int) [0,2,4,6,7] z (fun g=>[(8,qi g)]) (fun g=>(As ++ (La ++ L))) (fun g hh=>G = g) ?_ ?_
 ·have H:=ar
  refine Bl<|T.M8 (α:=Nat×Int) [0,2,4,6,7] z (fun ⟨e,a⟩=>[(8,qi a)]) (fun ⟨e,a⟩=>(As ++ (La ++ L))) (fun ⟨e,a⟩ hh=>iter (B6Q m C) e a = some G) (fun ⟨e,a⟩=>e) (FUEL,C) ⟨z,trivial⟩ z H ?_
  rintro ⟨e,a⟩ bI bJ aw
  obtain ⟨ax,bK,rfl,H,p⟩:=I1 aw
  refine T.norm [8,0,2,4,6,7] z<|J9 ((As ++ (La ++ L))) z<|Sq<|Sq<|T.O1 (t:=(.vs [0,1,2,3,4,5,6,7,8,9,10,11,12,13,14,15,16,17,18,19,20,21,22,23,24,25] .done)) 27 0 0 z z I4 (by kernel_rfl) ?_
  refine Tm z z<|Tv z (V.gt z z)<|Tm z z<|T.bH 31 H z (fun H=>?_) fun H=>?_
  ·refine Tm z z<|Tv z (V.S9 z)<|Tv z (V.fa R5 z)<|Tv z (V.I9 (k:=0) R3 z c.u z)<|Tv z (V.S9 z)<|Tv z (V.fa A1j z)<|Tv z (V.I9 (k:=6) E5 z f.u z)<|Tm z z<|bE H fun bM ay H=>Tv z (V.A1s z z ay)<|bE H fun bN I H=>?_
   obtain ⟨bO,aA,rfl⟩:=G6.at d I
   refine Tv z (V.ix C9 z z d (G7 I))<|Tv z (V.ld0 E8 z aA.u z)<|Tm z z<|Tv z (V.S9 z)<|Tv z (V.fa R5 z)<|Tv z (V.I9 (k:=0) R3 z c.u z)<|Tv z (V.S9 z)<|Tv z (V.fa A1j z)<|Tv z (V.I9 (k:=6) E5 z f.u z)<|Tm z z<|bE H fun bP J H=>?_
   obtain ⟨bS,aB,rfl⟩:=G6.at d J
   refine Tv z (V.ix C9 z z d (G7 J))<|Tv z (V.ld0 E8 z aB.u z)<|Tv z (V.eq z z)<|Tv z (V.R8 z z)<|T.R7 (SX.two (XA.fr [] Lr z) (XA.fr [] Lr z))<|Th<|T.cH H z (fun H=>?_) fun H=>?_
   ·refine Ks<|Bl<|Rg<|Mv z<|bE H fun aC aD H=>Vv (V.A1s z z aD)<|Ag z<|Ni<|Bn<|Th<|T.ag (ax,aC) (F4 H p)
   refine T.exit<|Te<|Te<|have H:=D9 H p; Be<|Th<|T.mt a H
  refine Tk z<|Tk z<|Tk z<|Tk z<|Tk z<|Tk z<|Tk z<|Tk z<|Tk z<|Tk z<|Tk z<|Tk z<|Tk z<|Tk z<|Tk z<|Tk z<|Tk z<|Tk z<|Tk z<|Tk z<|Tk z<|Tk z<|Tv z (V.R9 z z)<|T.R7 (SX.two (XA.fr [] Lr z) (XA.fr [] Lr z))<|Th<|Cf z<|T.exit<|Te<|Te<|have H:=D9 H p; Be<|Th<|T.mt a H
 rintro g bU q aE
 have H:=J8 aE au
 refine T.norm [8,0,2,4,6,7] z<|J9 ((As ++ (La ++ L))) z<|Sq<|T.O1 (t:=(.vs [0,1,2,3,4,5,6,7,8,9,10,11,12,13,14,15,16,17,18,19,20,21,22,23,24,25,26,27,28,29,30,31] .done)) 33 0 0 z z I4 (by kernel_rfl) ?_
 refine Tm z z<|Tv z (V.S9 z)<|Tv z (V.fa R5 z)<|Tv z (V.I9 (k:=0) R3 z c.u z)<|Tv z (V.S9 z)<|Tv z (V.fa Y1 z)<|Tv z (V.fa C3K z)<|Tv z (V.I9 (k:=0) M0 z f.u z)<|Tm z z<|Tv z (V.S9 z)<|Tv z (V.fa R5 z)<|Tv z (V.I9 (k:=0) R3 z c.u z)<|Tv z (V.S9 z)<|Tv z (V.fa A1j z)<|Tv z (V.I9 (k:=6) E5 z f.u z)<|Tm z z<|bE H fun bV K H=>?_
 obtain ⟨bW,aG,rfl⟩:=G6.at d K
 refine Tv z (V.ix C9 z z d (G7 K))<|Tv z (V.ld0 E8 z aG.u z)<|bE H fun bX M H=>?_
 obtain ⟨bY,aI,⟨bZ,rfl,b0⟩⟩:=G6.at o M
 refine Tv z (V.ix N9 z z o (G7 M))<|Tv z (V.fa A0K z)<|Tv z (V.I9 (k:=0) H9 z aI.u z)<|Tv z (V.fa A0I z)<|Tv z (V.I9 (k:=4) H9 z n.u z)<|Tv z (V.sne z z)<|Tm z z<|T.bH 81 H z (fun H=>?_) fun H=>?_
 ·refine Tk z<|Tk z<|Tk z<|Tk z<|Tk z<|Tk z<|Tv z (V.R8 z z)<|T.R7 (SX.two (XA.fr [] Lr z) (XA.fr [] Lr z))<|Th<|Ct z<|Rg<|Mv z<|Mv z<|To (O.b1 (E:=VI .i64) C9 M9 z z z z z fun b2 aJ=>T.J5 fun b3 aK aM=>have aN:=A7.Z4 aM aJ.u; bE H fun b4 aO H=>have aP:=(((i.trans j).trans q).trans aK); have aS:=b.2.1 _ _ _ _ aP hRa; To (O.C6T z z (A1R.call b.u aN aS aO As _) z fun b5 b6 b7 b8 aU=>?_))
  obtain ⟨N,rfl,aV,aW⟩:=aU
  refine J9 ((As ++ (N ++ L))) aV<|Ni ?_
  cases H
  exact T.B2y results157 Li ⟨N,z,z,aW⟩
 refine Tm z z<|Tm z z<|bE H fun b9 aX H=>Tv z (V.A1s z z aX)<|Tv z (V.fa Y6 z)<|Tv z (V.I9 (k:=5) E8 z n.u z)<|Tv z (V.ne z z)<|Tv z (V.R9 z z)<|T.R7 (SX.two (XA.fr [] Lr z) (XA.fr [] Lr z))<|Th<|T.cH H z (fun H=>?_) fun H=>?_
 ·refine T.norm [2,6] z<|Rg<|Mv z<|Mv z<|To (O.b1 (E:=VI .i64) C9 M9 z z z z z fun bh aY=>T.J5 fun bl aZ a0=>have a1:=A7.Z4 a0 aY.u; bE H fun bv a2 H=>have a3:=(((i.trans j).trans q).trans aZ); have a4:=b.2.1 _ _ _ _ a3 hRa; To (O.C6T z z (A1R.call b.u a1 a4 a2 As _) z fun bz ca cb cc a5=>?_))
  obtain ⟨P,rfl,a6,a7⟩:=a5
  refine J9 ((As ++ (P ++ L))) a6<|Ni ?_
  cases H
  exact T.B2y results157 Li ⟨P,z,z,a7⟩
 refine T.skip<|have a8:=((i.trans j).trans q); have a9:=b.2.1 _ _ _ _ a8 hRa; ?_
 cases H
 exact T.B2y results157 Li ⟨La,z,z,a9⟩
theorem C1s {σ:Type} {R:σ→PH→List E9→Prop} {a:σ→Int→(List Int)→Option σ} {b:σ} {q_s:σ} {h c d e f g La} (i:Pt U4 h c d) (j:H5 h e f) (k:A1R R h g a) (hRa:R b h La) (H:C0M d f a b = some q_s):∀ As L,G8 prog 160 [c,.agg e.toArray,g] h ((As ++ (La ++ L))) (fun v h' L'=>∃ La',v = .tuple #[]∧L' = (As ++ (La' ++ L))∧R q_s h' La'):=by
 intro As L
 exact dead H
theorem C1E {σ:Type} {R:σ→PH→List E9→Prop} {a:σ→Int→(List Int)→Option σ} {b:σ} {q_s:σ} {h c d e f g La} (i:Pt U4 h c d) (j:H5 h e f) (k:A1R R h g a) (hRa:R b h La) (H:C0g d f a b = some q_s):∀ As L,G8 prog 161 [c,.agg e.toArray,g] h ((As ++ (La ++ L))) (fun v h' L'=>∃ La',v = .tuple #[]∧L' = (As ++ (La' ++ L))∧R q_s h' La'):=by
 intro As L
 exact dead H
theorem B9l {σ:Type} {R:σ→PH→List E9→Prop} {a:σ→Int→(List Int)→Option σ} {b:σ} {q_s:σ} {h c d e f g La} (i:Pt U4 h c d) (j:H5 h e f) (k:A1R R h g a) (hRa:R b h La) (H:B6p d f a b = some q_s):∀ As L,G8 prog 163 [c,.agg e.toArray,g] h ((As ++ (La ++ L))) (fun v h' L'=>∃ La',v = .tuple #[]∧L' = (As ++ (La' ++ L))∧R q_s h' La'):=by
 intro As L
 exact dead H
theorem B9k {σ:Type} {R:σ→PH→List E9→Prop} {a:σ→Int→(List Int)→Option σ} {b:σ} {q_s:σ} {h c d e f g La} (i:Pt U4 h c d) (j:H5 h e f) (k:A1R R h g a) (hRa:R b h La) (H:B6G d f a b = some q_s):∀ As L,G8 prog 167 [c,.agg e.toArray,g] h ((As ++ (La ++ L))) (fun v h' L'=>∃ La',v = .tuple #[]∧L' = (As ++ (La' ++ L))∧R q_s h' La'):=by
 intro As L
 exact dead H
theorem B6C {σ:Type} {R:σ→PH→List E9→Prop} {a:σ→Int→(List Int)→Option σ} {b:σ} {q_s:σ} {h c d e f g La} (i:Pt U4 h c d) (j:H5 h e f) (k:A1R R h g a) (hRa:R b h La) (H:B3r d f a b = some q_s):∀ As L,G8 prog 158 [c,.agg e.toArray,g] h ((As ++ (La ++ L))) (fun v h' L'=>∃ La',v = .tuple #[]∧L' = (As ++ (La' ++ L))∧R q_s h' La'):=by
 intro As L
 exact dead H
theorem C5A {σ:Type} {R:σ→PH→List E9→Prop} {a:σ→Int→(List Int)→Option σ} {b:σ} {q_s:σ} {h c d e f g La} (i:Pt U4 h c d) (j:H5 h e f) (k:A1R R h g a) (hRa:R b h La) (H:C4u d f a b = some q_s):∀ As L,G8 prog 168 [c,.agg e.toArray,g] h ((As ++ (La ++ L))) (fun v h' L'=>∃ La',v = .tuple #[]∧L' = (As ++ (La' ++ L))∧R q_s h' La'):=by
 intro As L
 exact dead H
theorem C1v {σ:Type} {R:σ→PH→List E9→Prop} {a:σ→Int→(List Int)→Option σ} {b:σ} {q_s:σ} {h c d e f g La} (i:Pt U4 h c d) (j:H5 h e f) (k:A1R R h g a) (hRa:R b h La) (H:C0Q d f a b = some q_s):∀ As L,G8 prog 162 [c,.agg e.toArray,g] h ((As ++ (La ++ L))) (fun v h' L'=>∃ La',v = .tuple #[]∧L' = (As ++ (La' ++ L))∧R q_s h' La'):=by
 intro As L
 exact dead H
theorem C0z {σ:Type} {R:σ→PH→List E9→Prop} {a:σ→Int→(List Int)→Option σ} {b:σ} {q_s:σ} {h c d e f g La} (i:Pt U4 h c d) (j:H5 h e f) (k:A1R R h g a) (hRa:R b h La) (H:B8H d f a b = some q_s):∀ As L,G8 prog 164 [c,.agg e.toArray,g] h ((As ++ (La ++ L))) (fun v h' L'=>∃ La',v = .tuple #[]∧L' = (As ++ (La' ++ L))∧R q_s h' La'):=by
 intro As L
 exact dead H
theorem C3s {σ:Type} {R:σ→PH→List E9→Prop} {a:σ→Int→(List Int)→Option σ} {b:σ} {q_s:σ} {h c d e f g La} (i:Pt U4 h c d) (j:H5 h e f) (k:A1R R h g a) (hRa:R b h La) (H:C2y d f a b = some q_s):∀ As L,G8 prog 159 [c,.agg e.toArray,g] h ((As ++ (La ++ L))) (fun v h' L'=>∃ La',v = .tuple #[]∧L' = (As ++ (La' ++ L))∧R q_s h' La'):=by
 intro As L
 exact dead H
theorem C4d {σ:Type} {R:σ→PH→List E9→Prop} {a:σ→Int→(List Int)→Option σ} {b:σ} {q_s:σ} {h c d e f g La} (i:Pt U4 h c d) (j:H5 h e f) (k:A1R R h g a) (hRa:R b h La) (H:C2P d f a b = some q_s):∀ As L,G8 prog 165 [c,.agg e.toArray,g] h ((As ++ (La ++ L))) (fun v h' L'=>∃ La',v = .tuple #[]∧L' = (As ++ (La' ++ L))∧R q_s h' La'):=by
 intro As L
 exact dead H
theorem C1H {σ:Type} {R:σ→PH→List E9→Prop} {a:σ→Int→(List Int)→Option σ} {b:σ} {q_s:σ} {h c d e f g La} (i:Pt U4 h c d) (j:H5 h e f) (k:A1R R h g a) (hRa:R b h La) (H:C0I d f a b = some q_s):∀ As L,G8 prog 166 [c,.agg e.toArray,g] h ((As ++ (La ++ L))) (fun v h' L'=>∃ La',v = .tuple #[]∧L' = (As ++ (La' ++ L))∧R q_s h' La'):=by
 intro As L
 exact dead H
end Go.Proofs.X
