import Derived.Test.YtphnomnanplclaaGreatDoorChecked
import Derived.KernelRfl
import Derived.Test.YtphnomnanplclaaGreatDoorV
import Derived.Test.YtphnomnanplclaaGreatDoorL10
import Derived.Test.YtphnomnanplclaaGreatDoorDa
import Derived.Test.YtphnomnanplclaaGreatDoorL9
import Derived.Test.YtphnomnanplclaaGreatDoorWa
/- The walks: each function computes what its Lean function says. -/
set_option maxRecDepth 1000000
set_option maxHeartbeats 40000000
set_option linter.unusedVariables false
set_option linter.unusedSimpArgs false
set_option linter.unnecessarySimpa false
open Go Go.Proofs Go.Sl Go.Dm
namespace Go.Proofs.X
theorem B1B : A2Y Tryz.prog 120 = some ([.slice none 0 0,.slice none 0 0],[(0,1),(1,1)]):=by kernel_rfl
theorem C2J : A2Y Tryz.prog 149 = some ([.slice none 0 0,.slice none 0 0,.slice none 0 0,.slice none 0 0,.slice none 0 0,.map none,.slice none 0 0,.slice none 0 0,.slice none 0 0,.slice none 0 0,.slice none 0 0,.slice none 0 0,.slice none 0 0,.slice none 0 0],[(0,5),(5,1),(6,1),(7,1),(8,1),(9,1),(10,1),(11,1),(12,1),(13,1)]):=by kernel_rfl
theorem C3s : A2Y Tryz.prog 161 = some ([.pointer none,.slice none 0 0,.slice none 0 0],[(0,1),(1,1),(2,1)]):=by kernel_rfl
theorem Y2 : A2Y Tryz.prog 164 = some ([.string ⟨#[]⟩,.int .u8 (0),.bool false,.int .u8 (0),.bool false,.int .i64 (0),.bool false,.nilFunc],[(0,1),(1,1),(2,1),(3,1),(4,1),(5,1),(6,1),(7,1)]):=by kernel_rfl
theorem B0E : A0m Tryz.prog 120 = true:=by kernel_rfl
theorem C3b : A0m Tryz.prog 149 = true:=by kernel_rfl
theorem C3A : A0m Tryz.prog 161 = true:=by kernel_rfl
theorem Y5 : A0m Tryz.prog 164 = true:=by kernel_rfl
theorem A1q : A1j Tryz.prog 143 = some (4,1,1):=by kernel_rfl
theorem A2m : A1j Tryz.prog 146 = some (143,1,24):=by kernel_rfl
theorem A1V : A1j Tryz.prog 147 = some (197,1,24):=by kernel_rfl
theorem B2k : A1j Tryz.prog 197 = some (172,1,1):=by kernel_rfl
theorem B3c : O3 Tryz.prog 141 1 = some 1:=by kernel_rfl
theorem A0V : O3 Tryz.prog 141 4 = some 4:=by kernel_rfl
theorem A8l : O3 Tryz.prog 149 1 = some 5:=by kernel_rfl
theorem B3k : O3 Tryz.prog 149 3 = some 7:=by kernel_rfl
theorem B3o : O3 Tryz.prog 149 4 = some 8:=by kernel_rfl
theorem A7M : O3 Tryz.prog 149 5 = some 9:=by kernel_rfl
theorem A8g : O3 Tryz.prog 149 6 = some 10:=by kernel_rfl
theorem A5m : O3 Tryz.prog 149 8 = some 12:=by kernel_rfl
theorem A5o : O3 Tryz.prog 149 9 = some 13:=by kernel_rfl
theorem A8q : O3 Tryz.prog 161 2 = some 2:=by kernel_rfl
theorem B9P : O3 Tryz.prog 164 0 = some 0:=by kernel_rfl
theorem A4W : O3 Tryz.prog 164 1 = some 1:=by kernel_rfl
theorem A2H : O3 Tryz.prog 164 2 = some 2:=by kernel_rfl
theorem A2a : O3 Tryz.prog 164 3 = some 3:=by kernel_rfl
theorem A0X : O3 Tryz.prog 164 4 = some 4:=by kernel_rfl
theorem C0H : O3 Tryz.prog 164 5 = some 5:=by kernel_rfl
theorem C0n : O3 Tryz.prog 164 6 = some 6:=by kernel_rfl
theorem C2B : O3 Tryz.prog 39 6 = some 6:=by kernel_rfl
theorem A1T : O3 Tryz.prog 42 0 = some 0:=by kernel_rfl
theorem A1a : O3 Tryz.prog 42 1 = some 1:=by kernel_rfl
theorem B1o : X9 Tryz.prog 142 = some (false,1):=by kernel_rfl
theorem B6V : X9 Tryz.prog 143 = some (false,1):=by kernel_rfl
theorem A0D : X9 Tryz.prog 144 = some (false,1):=by kernel_rfl
theorem A7H : X9 Tryz.prog 146 = some (false,1):=by kernel_rfl
theorem A7r : X9 Tryz.prog 147 = some (false,1):=by kernel_rfl
theorem B7f : X9 Tryz.prog 162 = some (false,1):=by kernel_rfl
theorem C3F : X9 Tryz.prog 164 = some (true,8):=by kernel_rfl
theorem X8 : X9 Tryz.prog 4 = some (false,1):=by kernel_rfl
theorem A2P : X9 Tryz.prog 40 = some (false,1):=by kernel_rfl
theorem A2g : X9 Tryz.prog 5 = some (false,1):=by kernel_rfl
theorem A5C : zer Tryz.prog 143 = some (.slice none 0 0):=by kernel_rfl
theorem B1E : zer Tryz.prog 164 = some (.agg #[.string ⟨#[]⟩,.int .u8 (0),.bool false,.int .u8 (0),.bool false,.int .i64 (0),.bool false,.nilFunc]):=by kernel_rfl
theorem B7a : zer Tryz.prog 172 = some (.int .u8 (0)):=by kernel_rfl
theorem B6z : zer Tryz.prog 192 = some (.map none):=by kernel_rfl
theorem A3U : zer Tryz.prog 197 = some (.slice none 0 0):=by kernel_rfl
theorem A6i : zer Tryz.prog 4 = some (.bool false):=by kernel_rfl
theorem B2V : C7s Tryz.prog 164 7 = some (7,162):=by kernel_rfl
theorem rfE {c : Prop} [Decidable c] {α : Type} {a b r : α} {P : Prop} (H : (if c then a else b) = r) (x : c→a = r→P) (y : ¬c→b = r→P) : P:=by
  by_cases h : c
  · rw [if_pos h] at H; exact x h H
  · rw [if_neg h] at H; exact y h H
theorem B0Q {σ : Type} {R : σ→PH→List E9→Prop} {h : PH} {n : Nat} {pv1 : Value} {v : J6} (pr1 : Pt P7 h pv1 v) {pc2 : List Value} {r : G5} (pr2 : H9 h pc2 r) {pv3 : Value} {f : σ→Int→(List Int)→Option σ} (pr3 : A1p R h pv3 f) {s0 : σ} {La : List E9} (hRa : R s0 h La) {q_s : σ} (H : B2t n v r f s0 = some q_s) :
    ∃ fid us vs,fnV n = .func (.func fid) us.toArray vs.toArray∧∀ As L,H5 Tryz.prog fid (us ++ [pv1,.agg pc2.toArray,pv3] ++ vs) h (As ++ (La ++ L)) (fun v h' L'=>∃ La',v = .tuple #[]∧L' = (As ++ (La' ++ L))∧R q_s h' La'):=by
  unfold B2t at H
  refine rfE H (fun e H=>?_) (fun _ H=>?_)
  · subst e; exact ⟨179,[],[],rfl,C0E pr1 pr2 pr3 hRa H⟩
  refine rfE H (fun e H=>?_) (fun _ H=>?_)
  · subst e; exact ⟨180,[],[],rfl,B4d pr1 pr2 pr3 hRa H⟩
  refine rfE H (fun e H=>?_) (fun _ H=>?_)
  · subst e; exact ⟨181,[],[],rfl,B4y pr1 pr2 pr3 hRa H⟩
  refine rfE H (fun e H=>?_) (fun _ H=>?_)
  · subst e; exact ⟨182,[],[],rfl,B7S pr1 pr2 pr3 hRa H⟩
  refine rfE H (fun e H=>?_) (fun _ H=>?_)
  · subst e; exact ⟨183,[],[],rfl,B5N pr1 pr2 pr3 hRa H⟩
  refine rfE H (fun e H=>?_) (fun _ H=>?_)
  · subst e; exact ⟨184,[],[],rfl,C3P pr1 pr2 pr3 hRa H⟩
  refine rfE H (fun e H=>?_) (fun _ H=>?_)
  · subst e; exact ⟨185,[],[],rfl,C1B pr1 pr2 pr3 hRa H⟩
  refine rfE H (fun e H=>?_) (fun _ H=>?_)
  · subst e; exact ⟨186,[],[],rfl,B4E pr1 pr2 pr3 hRa H⟩
  refine rfE H (fun e H=>?_) (fun _ H=>?_)
  · subst e; exact ⟨187,[],[],rfl,C2s pr1 pr2 pr3 hRa H⟩
  refine rfE H (fun e H=>?_) (fun _ H=>?_)
  · subst e; exact ⟨188,[],[],rfl,B9U pr1 pr2 pr3 hRa H⟩
  refine rfE H (fun e H=>?_) (fun _ H=>?_)
  · subst e; exact ⟨189,[],[],rfl,C0u pr1 pr2 pr3 hRa H⟩
  refine rfE H (fun e H=>?_) (fun _ H=>?_)
  · subst e; exact ⟨190,[],[],rfl,C0C pr1 pr2 pr3 hRa H⟩
  refine rfE H (fun e H=>?_) (fun _ H=>?_)
  · subst e; exact ⟨191,[],[],rfl,B7C pr1 pr2 pr3 hRa H⟩
  refine rfE H (fun e H=>?_) (fun _ H=>?_)
  · subst e; exact ⟨192,[],[],rfl,B9k pr1 pr2 pr3 hRa H⟩
  refine rfE H (fun e H=>?_) (fun _ H=>?_)
  · subst e; exact ⟨193,[],[],rfl,C2y pr1 pr2 pr3 hRa H⟩
  refine rfE H (fun e H=>?_) (fun _ H=>?_)
  · subst e; exact ⟨194,[],[],rfl,C0o pr1 pr2 pr3 hRa H⟩
  refine rfE H (fun e H=>?_) (fun _ H=>?_)
  · subst e; exact ⟨195,[],[],rfl,B7r pr1 pr2 pr3 hRa H⟩
  refine rfE H (fun e H=>?_) (fun _ H=>?_)
  · subst e; exact ⟨196,[],[],rfl,C2S pr1 pr2 pr3 hRa H⟩
  cases H
theorem B6q {h:PH} {k1:Int} {pv1:Value} {u2:List Int} (pr1:G9 (VI .i64) 1 h pv1 u2) {pb2:Nat} {t3:Int}  {q_2:Int} (H:A8t k1 u2 t3 = some q_2):∀ L,H5 Tryz.prog 326 [.int .i64 k1,pv1,.pointer (some ⟨pb2,0,none⟩)] h (blk pb2 (.cells [.int .i64 t3].toArray 3)::L) (fun v h' L'=>v = .tuple #[]∧L' = blk pb2 (.cells [.int .i64 q_2].toArray 3)::L):=by
 intro L
 refine H5.enter Tryz.func326 z Tryz.ntmps326 z<|Rg<|Vv (V.A6h D9 z (j:=0) z z)<|Mv z ?_
 obtain ⟨a,b,H⟩:=bnd H
 refine Vv (V.L8 z z b)<|To (O.stF (vs:=[.int .i64 a]) D9 z z (j:=0) z z z z<|Ni ?_)
 obtain rfl:=Option.some.inj H
 exact T.B2D Tryz.results326 Lr ⟨z,z⟩
theorem B2j {h:PH} {pv0:Value} {v1:J6} (pr0:Pt P7 h pv0 v1) {i2:Int} {r_0:Int} (H:A7h v1 i2 = some r_0):∀ L,H5 Tryz.prog 236 [pv0,.int .i64 i2] h (L) (fun v h' L'=>v = .int .i64 r_0∧L' = L):=by
 intro L
 refine H5.enter Tryz.func236 rfl Tryz.ntmps236 rfl<|Sr<|Ag z<|Nt<|Sr<|To (O.alloc Q4 rfl rfl fun f=>To (O.stF (vs:=[.int .i64 (0:Int)]) D9 rfl rfl (j:=0) rfl rfl rfl rfl<|Nt<|Sq<|T.O8 (t:=(.v 0 (.v 1 (.v 2 (.v 3 (.v 4 (.v 5 (.v 6 (.v 7 (.v 8 (.v 9 (.v 10 (.v 11 (.v 12 (.v 13 (.v 14 (.v 15 (.v 16 (.v 17 (.v 18 (.v 19 (.v 20 (.v 21 (.v 22 (.v 23 (.v 24 (.v 25 (.v 26 (.v 27 (.v 28 (.v 29 (.v 30 (.v 31 (.v 32 (.v 33 (.alt 34 .done .no)))))))))))))))))))))))))))))))))))) 34 1 0 rfl rfl I8 (by kernel_rfl) ?_))
 refine Tm z z<|have J:=pr0; ?_
 obtain ⟨aC,_,rfl,c,⟨aD,g,i,rfl,K,M,N⟩⟩:=J
 refine Tv z (V.U9 z)<|Tv z (V.fa R9 z)<|Tv z (V.I6 (k:=0) R7 z c z)<|have P:=K; ?_
 obtain ⟨m,_,rfl,d,⟨n,o,p,q,r,s,u,w,x,y,A,B,C,D,rfl,S,U,W,X,b,E,Y,Z,aa,ab,ac,ad,ae,af⟩⟩:=P
 refine Tv z (V.U9 z)<|Tv z (V.fa A8l z)<|Tv z (V.I6 (k:=5) B1o z d z)<|Tm z z<|Tv z (V.U9 z)<|Tv z (V.fa R9 z)<|Tv z (V.I6 (k:=0) R7 z c z)<|Tv z (V.U9 z)<|Tv z (V.fa X6 z)<|Tv z (V.fa A0V z)<|Tv z (V.I6 (k:=4) Q8 z d z)<|Tm z z ?_
 obtain ⟨aE,G,H⟩:=bnd H
 obtain ⟨aG,ag,rfl⟩:=G9.at b G
 refine Tv z (V.ix S9 z z b (H6 G))<|Tv z (V.fa A1T z)<|Tv z (V.I6 (k:=0) A2P z ag z) ?_
 obtain ⟨⟨aI,aJ⟩,ai,H⟩:=bnd H
 obtain ⟨_,aj,rfl⟩:=Mp.look (zc:=[.string (⟨#[]⟩:ByteArray),.int .u8 (0:Int),.bool false,.int .u8 (0:Int),.bool false,.int .i64 (0:Int),.bool false,(fnV (0:Nat))]) (agg:=true) Tryz.underlying142 (A0G.int Tryz.underlying40) B1E (show K7 h [.string (⟨#[]⟩:ByteArray),.int .u8 (0:Int),.bool false,.int .u8 (0:Int),.bool false,.int .i64 (0:Int),.bool false,(fnV (0:Nat))] (I5.mk (⟨#[]⟩:ByteArray) (0:Int) false (0:Int) false (0:Int) false (0:Nat)) from rfl) E ai
 refine Tv z (V.C7C z z aj)<|Tv z (V.fld B2V B7f z z)<|Tm z z<|Tm z z<|Tv z (V.U9 z)<|Tv z (V.fa R9 z)<|Tv z (V.I6 (k:=0) R7 z c z)<|Tv z (V.U9 z)<|Tv z (V.fa X6 z)<|Tv z (V.fa A0V z)<|Tv z (V.I6 (k:=4) Q8 z d z)<|Tm z z ?_
 obtain ⟨a,I,H⟩:=bnd H
 obtain ⟨aK,ak,rfl⟩:=G9.at b I
 refine Tv z (V.ix S9 rfl rfl b (H6 I))<|Tv z (V.Z9 rfl ak (by exact A0k)) ?_
 refine Tv z (V.mkf z z) ?_
 obtain ⟨aM,am,H⟩:=bnd H
 obtain ⟨aN,aO,aP,an,ao⟩:=B0Q (Pt.mk c (show P7 h [.pointer (some m),g,i] v1 from ⟨(.pointer (some m)),g,i,rfl,(Pt.mk d (show M8 h [n,o,p,q,r,s,u,w,x,y,A,B,C,D] v1.O6 from ⟨n,o,p,q,r,s,u,w,x,y,A,B,C,D,rfl,S,U,W,X,b,E,Y,Z,aa,ab,ac,ad,ae,af⟩)),M,N⟩)) (show H9 h [.int .u8 a.J4,.int .i64 a.Y6,.string a.fA,.string a.fB,.string a.V7,.int .i64 a.fN] a from rfl) (show A1p (fun x_ _ La_=>La_ = [blk f (.cells [.int .i64 x_].toArray 3)]) h (.func (.func 326) #[] #[.pointer (some ⟨f,0,none⟩)]) (fun s_ ap aq=>A8t ap aq s_) from ⟨⟨rfl,rfl⟩,fun _ _ _ _ _ e=>e,fun aS aU=>fun ar=>fun au aw ax ay=>by subst au; exact Yld.one (us:=[]) (cs:=[.pointer (some ⟨f,0,none⟩)]) (B6q ar aw) ax ay⟩) rfl am
 refine Tp z z (SX.two (XA.fr [] Lr z) (XA.fr [0] Lr z)) (O.A1m z an z (ao ([]:List E9) _) z fun aV aW aX aY aA=>?_) T.Q9
 obtain ⟨aZ,rfl,aB,rfl⟩:=aA
 refine I9 _ aB<|T.R5 (SX.one (XA.fr [] Li z) z)<|Th<|Sq<|T.norm [5] z<|T.fl ?_
 refine Rg<|Vv (V.A6h D9 z (j:=0) z z)<|Ag z<|Nt<|T.ret<|T.drop ?_
 obtain rfl:=Option.some.inj H
 exact T.F5 Tryz.results236 (Rv z) Li ⟨z,z⟩
theorem A8r {h:PH} {pv0:Value} {v1:J6} (pr0:Pt P7 h pv0 v1) {i2:Int} {r_0:Int} (H:A7b v1 i2 = some r_0):∀ L,H5 Tryz.prog 168 [pv0,.int .i64 i2] h (L) (fun v h' L'=>v = .int .i64 r_0∧L' = L):=by
 intro L
 refine H5.enter Tryz.func168 z Tryz.ntmps168 z<|Sr<|Ag z<|Nt<|Sr<|Mv z<|Mv z ?_
 obtain ⟨X,r,H⟩:=bnd H
 refine To (O.C8 z (B2j pr0 r _) z fun Y Z aa ab s=>?_)
 obtain ⟨rfl,t⟩:=s
 refine I9 _ t<|Ag z<|Nt<|Sr<|Ag z<|Ag z<|Nt<|Sq<|Sr<|Mv z<|have w:=pr0; ?_
 obtain ⟨ac,_,rfl,d,⟨ad,ae,af,rfl,g,e,ag⟩⟩:=w
 refine Vv (V.U9 z)<|Vv (V.fa A1I z)<|Vv (V.I6 (k:=1) F4 z d.u z)<|Vv (V.P6 D6 z e)<|Mv z<|Nt ?_
 obtain ⟨i,x,y⟩:=N7 H
 refine T.O5 (α:=Unit) [0,1,5] z (fun _u=>[]) (fun _u=>L) (fun _u hh=>i = ()) ?_ ?_
 ·have H:=x
  refine Bl<|T.N8 (α:=Nat×Int×Int) [0,1,5,16,17] z (fun ⟨b,c,a⟩=>[(18,.int .i64 c),(6,.int .i64 a)]) (fun ⟨b,c,a⟩=>L) (fun ⟨b,c,a⟩ hh=>iter (B3E v1) b (c,a) = some i) (fun ⟨b,c,a⟩=>b) (FUEL,(0:Int),(0:Int)) ⟨z,z,trivial⟩ z H ?_
  rintro ⟨b,c,a⟩ ai aj A
  obtain ⟨j,ak,rfl,H,f⟩:=I4 A
  refine T.norm [18,6,0,1,5,16,17] z<|T.fl ?_
  refine Sr<|Vv (V.lt z z)<|Nt<|Sq<|T.cH H z (fun H=>?_) (fun H=>?_)
  ·refine T.skip<|Th<|Sq<|Bl<|Sr<|Mv z ?_
   obtain ⟨am,m,H⟩:=bnd H
   obtain ⟨an,B,rfl⟩:=G9.at e m
   refine Vv (V.ix D6 z z e (H6 m))<|Vv (V.ld0 D9 z B.u z)<|Ag z<|Ag z<|Nt<|Sr<|Mv z<|Vv (V.lt z z)<|Nt<|T.cH H z (fun H=>?_) (fun H=>?_)
   ·refine Sr<|Mv z ?_
    obtain ⟨C,D,H⟩:=bnd H
    refine Vv (V.L8 z z D)<|Ag z<|Nt<|Sr<|Mv z<|Vv (V.U9 z)<|Vv (V.fa R9 z)<|Vv (V.I6 (k:=0) R7 z d.u z)<|have E:=g; ?_
    obtain ⟨ao,_,rfl,G,⟨ap,aq,ar,au,aw,ax,ay,aA,aB,aC,aD,aE,aG,aI,rfl,aJ,n,aK,aM,aN,aO,aP,aS,aU,aV,aW,aX,aY,aZ⟩⟩:=E
    refine Vv (V.U9 z)<|Vv (V.fa X6 z)<|Vv (V.fa B3c z)<|Vv (V.I6 (k:=1) J3 z G.u z)<|Mv z ?_
    obtain ⟨a0,o,H⟩:=bnd H
    obtain ⟨a1,I,⟨a2,rfl,a3⟩⟩:=G9.at n o
    refine Vv (V.ix O9 z z n (H6 o))<|Vv (V.fa C2B z)<|Vv (V.I6 (k:=6) X8 z I.u z)<|Nt<|T.cH H z (fun H=>?_) (fun H=>?_)
    ·exact dead H
    refine T.skip<|Bn<|Th<|Rg ?_
    obtain ⟨J,K,H⟩:=bnd H
    refine Vv (V.L8 z z K)<|Mv z<|Nt<|T.again (j,J,C) Li (Nat.lt_succ_self _) (G8 H f) (A9.app ⟨z,z,trivial⟩ ⟨z,z,z,z,z,trivial⟩) z
   refine T.skip<|Bn<|Th<|Rg ?_
   obtain ⟨M,N,H⟩:=bnd H
   refine Vv (V.L8 z z N)<|Mv z<|Nt<|T.again (j,M,a) Li (Nat.lt_succ_self _) (G8 H f) (A9.app ⟨z,z,trivial⟩ ⟨z,z,z,z,z,trivial⟩) z
  refine T.exit<|Te<|Te<|have H:=D7 H f; Be<|Th<|T.met () Li H (A9.app trivial ⟨z,z,z,trivial⟩) z
 rintro _ a4 a5 P
 have H:=J5 P y
 refine T.norm [0,1,5] z<|T.fl ?_
 refine Sq<|Sr<|Mv z<|Vv (V.U9 z)<|Vv (V.fa R9 z)<|Vv (V.I6 (k:=0) R7 z d.u z)<|have S:=g; ?_
 obtain ⟨a6,_,rfl,U,⟨a7,a8,a9,ah,al,av,az,ba,bb,bc,bd,be,bf,bg,rfl,bi,bj,bk,bm,p,bn,bo,bp,bq,br,bs,bt,bu,bw⟩⟩:=S
 refine Vv (V.U9 z)<|Vv (V.fa X6 z)<|Vv (V.fa A0V z)<|Vv (V.I6 (k:=4) Q8 z U.u z)<|Mv z ?_
 obtain ⟨bx,q,H⟩:=bnd H
 obtain ⟨bA,W,rfl⟩:=G9.at p q
 refine Vv (V.ix S9 z z p (H6 q))<|Vv (V.fa A1T z)<|Vv (V.I6 (k:=0) A2P z W.u z)<|Nt<|Bl<|Sr<|Vv (V.eq z z)<|Ag z<|Nt<|T.cH H z (fun H=>?_) (fun H=>?_)
 ·exact dead H
 refine Sr<|Vv (V.eq z z)<|Ag z<|Nt<|T.cH H z (fun H=>?_) (fun H=>?_)
 ·exact dead H
 refine Sr<|Vv (V.eq z z)<|Ag z<|Nt<|T.cH H z (fun H=>?_) (fun H=>?_)
 ·exact dead H
 refine T.skip<|Bn<|Th<|Sr<|Mv z<|Vv (V.max2 z z)<|Ag z<|Nt<|T.ret ?_
 obtain rfl:=Option.some.inj H
 exact T.F5 Tryz.results168 (Rv z) Li ⟨z,z⟩
theorem B3v {h:PH}  {r_0:List (Int×I5)} (H:A6N  = some r_0):∀ L,H5 Tryz.prog 116 [] h (L) (fun v h' L'=>L' = L∧Mp (Value.int .u8) true K7 h' v r_0):=by
 intro L
 refine H5.enter Tryz.func116 z Tryz.ntmps116 z<|Sr<|Ag z<|Nt<|Sr<|To (O.mkM z fun aa=>have w:Z6 (Value.int .u8) true K7 h 0 ([]:List MapEntry) ([]:List (Int×I5)):=trivial; Vv (V.bld (xs:=[(0,.const (.string ⟨#[97,112,97,114,116]⟩)),(1,.const (.int .u8 (103))),(2,.const (.bool true)),(4,.const (.bool true)),(7,.func 179)]) (cs:=[_,_,_,_,_,_,_,_]) Y2 Y5 z (F8.cons z z z (F8.cons z z z (F8.cons z z z (F8.cons z z z (F8.cons z z z F8.nil)))))) ?_)
 obtain ⟨ab,x,H⟩:=bnd H
 refine To (O.A8h (agg:=true) (E:=K7) (cs:=[.string (⟨#[97,112,97,114,116]⟩:ByteArray),.int .u8 (103:Int),.bool true,.int .u8 (0:Int),.bool true,.int .i64 (0:Int),.bool false,(fnV (180:Nat))]) Tryz.underlying142 (A0G.int Tryz.underlying40) z z z (j:=0) z w (show K7 h [.string (⟨#[97,112,97,114,116]⟩:ByteArray),.int .u8 (103:Int),.bool true,.int .u8 (0:Int),.bool true,.int .i64 (0:Int),.bool false,(fnV (180:Nat))] (I5.mk (⟨#[97,112,97,114,116]⟩:ByteArray) (103:Int) true (0:Int) true (0:Int) false (180:Nat)) from z) _ (.inr z) fun ac a=>?_)
 rw [Option.some.inj x] at a
 refine Vv (V.bld (xs:=[(0,.const (.string ⟨#[98,101,115,105,100,101]⟩)),(1,.const (.int .u8 (103))),(2,.const (.bool true)),(7,.func 180)]) (cs:=[_,_,_,_,_,_,_,_]) Y2 Y5 z (F8.cons z z z (F8.cons z z z (F8.cons z z z (F8.cons z z z F8.nil))))) ?_
 obtain ⟨ad,y,H⟩:=bnd H
 refine To (O.A8h (agg:=true) (E:=K7) (cs:=[.string (⟨#[98,101,115,105,100,101]⟩:ByteArray),.int .u8 (103:Int),.bool true,.int .u8 (0:Int),.bool false,.int .i64 (0:Int),.bool false,(fnV (181:Nat))]) Tryz.underlying142 (A0G.int Tryz.underlying40) z z z (j:=0) z a (show K7 h [.string (⟨#[98,101,115,105,100,101]⟩:ByteArray),.int .u8 (103:Int),.bool true,.int .u8 (0:Int),.bool false,.int .i64 (0:Int),.bool false,(fnV (181:Nat))] (I5.mk (⟨#[98,101,115,105,100,101]⟩:ByteArray) (103:Int) true (0:Int) false (0:Int) false (181:Nat)) from z) _ (.inr z) fun ae b=>?_)
 rw [Option.some.inj y] at b
 refine Vv (V.bld (xs:=[(0,.const (.string ⟨#[97,99,114,111,115,115]⟩)),(1,.const (.int .u8 (103))),(2,.const (.bool true)),(7,.func 181)]) (cs:=[_,_,_,_,_,_,_,_]) Y2 Y5 z (F8.cons z z z (F8.cons z z z (F8.cons z z z (F8.cons z z z F8.nil))))) ?_
 obtain ⟨af,A,H⟩:=bnd H
 refine To (O.A8h (agg:=true) (E:=K7) (cs:=[.string (⟨#[97,99,114,111,115,115]⟩:ByteArray),.int .u8 (103:Int),.bool true,.int .u8 (0:Int),.bool false,.int .i64 (0:Int),.bool false,(fnV (182:Nat))]) Tryz.underlying142 (A0G.int Tryz.underlying40) z z z (j:=0) z b (show K7 h [.string (⟨#[97,99,114,111,115,115]⟩:ByteArray),.int .u8 (103:Int),.bool true,.int .u8 (0:Int),.bool false,.int .i64 (0:Int),.bool false,(fnV (182:Nat))] (I5.mk (⟨#[97,99,114,111,115,115]⟩:ByteArray) (103:Int) true (0:Int) false (0:Int) false (182:Nat)) from z) _ (.inr z) fun ag c=>?_)
 rw [Option.some.inj A] at c
 refine Vv (V.bld (xs:=[(0,.const (.string ⟨#[110,101,97,114]⟩)),(1,.const (.int .u8 (103))),(2,.const (.bool true)),(4,.const (.bool true)),(5,.const (.int .i64 (1))),(7,.func 182)]) (cs:=[_,_,_,_,_,_,_,_]) Y2 Y5 z (F8.cons z z z (F8.cons z z z (F8.cons z z z (F8.cons z z z (F8.cons z z z (F8.cons z z z F8.nil))))))) ?_
 obtain ⟨ai,B,H⟩:=bnd H
 refine To (O.A8h (agg:=true) (E:=K7) (cs:=[.string (⟨#[110,101,97,114]⟩:ByteArray),.int .u8 (103:Int),.bool true,.int .u8 (0:Int),.bool true,.int .i64 (1:Int),.bool false,(fnV (183:Nat))]) Tryz.underlying142 (A0G.int Tryz.underlying40) z z z (j:=0) z c (show K7 h [.string (⟨#[110,101,97,114]⟩:ByteArray),.int .u8 (103:Int),.bool true,.int .u8 (0:Int),.bool true,.int .i64 (1:Int),.bool false,(fnV (183:Nat))] (I5.mk (⟨#[110,101,97,114]⟩:ByteArray) (103:Int) true (0:Int) true (1:Int) false (183:Nat)) from z) _ (.inr z) fun aj d=>?_)
 rw [Option.some.inj B] at d
 refine Vv (V.bld (xs:=[(0,.const (.string ⟨#[116,111,103,101,116,104,101,114]⟩)),(1,.const (.int .u8 (103))),(2,.const (.bool true)),(7,.func 183)]) (cs:=[_,_,_,_,_,_,_,_]) Y2 Y5 z (F8.cons z z z (F8.cons z z z (F8.cons z z z (F8.cons z z z F8.nil))))) ?_
 obtain ⟨ak,C,H⟩:=bnd H
 refine To (O.A8h (agg:=true) (E:=K7) (cs:=[.string (⟨#[116,111,103,101,116,104,101,114]⟩:ByteArray),.int .u8 (103:Int),.bool true,.int .u8 (0:Int),.bool false,.int .i64 (0:Int),.bool false,(fnV (184:Nat))]) Tryz.underlying142 (A0G.int Tryz.underlying40) z z z (j:=0) z d (show K7 h [.string (⟨#[116,111,103,101,116,104,101,114]⟩:ByteArray),.int .u8 (103:Int),.bool true,.int .u8 (0:Int),.bool false,.int .i64 (0:Int),.bool false,(fnV (184:Nat))] (I5.mk (⟨#[116,111,103,101,116,104,101,114]⟩:ByteArray) (103:Int) true (0:Int) false (0:Int) false (184:Nat)) from z) _ (.inr z) fun am e=>?_)
 rw [Option.some.inj C] at e
 refine Vv (V.bld (xs:=[(0,.const (.string ⟨#[97,116]⟩)),(1,.const (.int .u8 (103))),(3,.const (.int .u8 (116))),(7,.func 184)]) (cs:=[_,_,_,_,_,_,_,_]) Y2 Y5 z (F8.cons z z z (F8.cons z z z (F8.cons z z z (F8.cons z z z F8.nil))))) ?_
 obtain ⟨an,D,H⟩:=bnd H
 refine To (O.A8h (agg:=true) (E:=K7) (cs:=[.string (⟨#[97,116]⟩:ByteArray),.int .u8 (103:Int),.bool false,.int .u8 (116:Int),.bool false,.int .i64 (0:Int),.bool false,(fnV (185:Nat))]) Tryz.underlying142 (A0G.int Tryz.underlying40) z z z (j:=0) z e (show K7 h [.string (⟨#[97,116]⟩:ByteArray),.int .u8 (103:Int),.bool false,.int .u8 (116:Int),.bool false,.int .i64 (0:Int),.bool false,(fnV (185:Nat))] (I5.mk (⟨#[97,116]⟩:ByteArray) (103:Int) false (116:Int) false (0:Int) false (185:Nat)) from z) _ (.inr z) fun ao f=>?_)
 rw [Option.some.inj D] at f
 refine Vv (V.bld (xs:=[(0,.const (.string ⟨#[115,101,97,116]⟩)),(1,.const (.int .u8 (103))),(3,.const (.int .u8 (116))),(4,.const (.bool true)),(6,.const (.bool true)),(7,.func 185)]) (cs:=[_,_,_,_,_,_,_,_]) Y2 Y5 z (F8.cons z z z (F8.cons z z z (F8.cons z z z (F8.cons z z z (F8.cons z z z (F8.cons z z z F8.nil))))))) ?_
 obtain ⟨ap,G,H⟩:=bnd H
 refine To (O.A8h (agg:=true) (E:=K7) (cs:=[.string (⟨#[115,101,97,116]⟩:ByteArray),.int .u8 (103:Int),.bool false,.int .u8 (116:Int),.bool true,.int .i64 (0:Int),.bool true,(fnV (186:Nat))]) Tryz.underlying142 (A0G.int Tryz.underlying40) z z z (j:=0) z f (show K7 h [.string (⟨#[115,101,97,116]⟩:ByteArray),.int .u8 (103:Int),.bool false,.int .u8 (116:Int),.bool true,.int .i64 (0:Int),.bool true,(fnV (186:Nat))] (I5.mk (⟨#[115,101,97,116]⟩:ByteArray) (103:Int) false (116:Int) true (0:Int) true (186:Nat)) from z) _ (.inr z) fun aq g=>?_)
 rw [Option.some.inj G] at g
 refine Vv (V.bld (xs:=[(0,.const (.string ⟨#[97,108,116,101,114,110,97,116,101]⟩)),(3,.const (.int .u8 (101))),(7,.func 186)]) (cs:=[_,_,_,_,_,_,_,_]) Y2 Y5 z (F8.cons z z z (F8.cons z z z (F8.cons z z z F8.nil)))) ?_
 obtain ⟨ar,I,H⟩:=bnd H
 refine To (O.A8h (agg:=true) (E:=K7) (cs:=[.string (⟨#[97,108,116,101,114,110,97,116,101]⟩:ByteArray),.int .u8 (0:Int),.bool false,.int .u8 (101:Int),.bool false,.int .i64 (0:Int),.bool false,(fnV (187:Nat))]) Tryz.underlying142 (A0G.int Tryz.underlying40) z z z (j:=0) z g (show K7 h [.string (⟨#[97,108,116,101,114,110,97,116,101]⟩:ByteArray),.int .u8 (0:Int),.bool false,.int .u8 (101:Int),.bool false,.int .i64 (0:Int),.bool false,(fnV (187:Nat))] (I5.mk (⟨#[97,108,116,101,114,110,97,116,101]⟩:ByteArray) (0:Int) false (101:Int) false (0:Int) false (187:Nat)) from z) _ (.inr z) fun au i=>?_)
 rw [Option.some.inj I] at i
 refine Vv (V.bld (xs:=[(0,.const (.string ⟨#[104,111,115,116]⟩)),(3,.const (.int .u8 (101))),(7,.func 187)]) (cs:=[_,_,_,_,_,_,_,_]) Y2 Y5 z (F8.cons z z z (F8.cons z z z (F8.cons z z z F8.nil)))) ?_
 obtain ⟨aw,J,H⟩:=bnd H
 refine To (O.A8h (agg:=true) (E:=K7) (cs:=[.string (⟨#[104,111,115,116]⟩:ByteArray),.int .u8 (0:Int),.bool false,.int .u8 (101:Int),.bool false,.int .i64 (0:Int),.bool false,(fnV (188:Nat))]) Tryz.underlying142 (A0G.int Tryz.underlying40) z z z (j:=0) z i (show K7 h [.string (⟨#[104,111,115,116]⟩:ByteArray),.int .u8 (0:Int),.bool false,.int .u8 (101:Int),.bool false,.int .i64 (0:Int),.bool false,(fnV (188:Nat))] (I5.mk (⟨#[104,111,115,116]⟩:ByteArray) (0:Int) false (101:Int) false (0:Int) false (188:Nat)) from z) _ (.inr z) fun ax k=>?_)
 rw [Option.some.inj J] at k
 refine Vv (V.bld (xs:=[(0,.const (.string ⟨#[114,101,97,99,104]⟩)),(1,.const (.int .u8 (101))),(7,.func 188)]) (cs:=[_,_,_,_,_,_,_,_]) Y2 Y5 z (F8.cons z z z (F8.cons z z z (F8.cons z z z F8.nil)))) ?_
 obtain ⟨ay,K,H⟩:=bnd H
 refine To (O.A8h (agg:=true) (E:=K7) (cs:=[.string (⟨#[114,101,97,99,104]⟩:ByteArray),.int .u8 (101:Int),.bool false,.int .u8 (0:Int),.bool false,.int .i64 (0:Int),.bool false,(fnV (189:Nat))]) Tryz.underlying142 (A0G.int Tryz.underlying40) z z z (j:=0) z k (show K7 h [.string (⟨#[114,101,97,99,104]⟩:ByteArray),.int .u8 (101:Int),.bool false,.int .u8 (0:Int),.bool false,.int .i64 (0:Int),.bool false,(fnV (189:Nat))] (I5.mk (⟨#[114,101,97,99,104]⟩:ByteArray) (101:Int) false (0:Int) false (0:Int) false (189:Nat)) from z) _ (.inr z) fun aA m=>?_)
 rw [Option.some.inj K] at m
 refine Vv (V.bld (xs:=[(0,.const (.string ⟨#[115,112,101,97,107]⟩)),(3,.const (.int .u8 (101))),(7,.func 189)]) (cs:=[_,_,_,_,_,_,_,_]) Y2 Y5 z (F8.cons z z z (F8.cons z z z (F8.cons z z z F8.nil)))) ?_
 obtain ⟨aB,M,H⟩:=bnd H
 refine To (O.A8h (agg:=true) (E:=K7) (cs:=[.string (⟨#[115,112,101,97,107]⟩:ByteArray),.int .u8 (0:Int),.bool false,.int .u8 (101:Int),.bool false,.int .i64 (0:Int),.bool false,(fnV (190:Nat))]) Tryz.underlying142 (A0G.int Tryz.underlying40) z z z (j:=0) z m (show K7 h [.string (⟨#[115,112,101,97,107]⟩:ByteArray),.int .u8 (0:Int),.bool false,.int .u8 (101:Int),.bool false,.int .i64 (0:Int),.bool false,(fnV (190:Nat))] (I5.mk (⟨#[115,112,101,97,107]⟩:ByteArray) (0:Int) false (101:Int) false (0:Int) false (190:Nat)) from z) _ (.inr z) fun aC n=>?_)
 rw [Option.some.inj M] at n
 refine Vv (V.bld (xs:=[(0,.const (.string ⟨#[112,101,97,99,101]⟩)),(3,.const (.int .u8 (101))),(7,.func 190)]) (cs:=[_,_,_,_,_,_,_,_]) Y2 Y5 z (F8.cons z z z (F8.cons z z z (F8.cons z z z F8.nil)))) ?_
 obtain ⟨aD,N,H⟩:=bnd H
 refine To (O.A8h (agg:=true) (E:=K7) (cs:=[.string (⟨#[112,101,97,99,101]⟩:ByteArray),.int .u8 (0:Int),.bool false,.int .u8 (101:Int),.bool false,.int .i64 (0:Int),.bool false,(fnV (191:Nat))]) Tryz.underlying142 (A0G.int Tryz.underlying40) z z z (j:=0) z n (show K7 h [.string (⟨#[112,101,97,99,101]⟩:ByteArray),.int .u8 (0:Int),.bool false,.int .u8 (101:Int),.bool false,.int .i64 (0:Int),.bool false,(fnV (191:Nat))] (I5.mk (⟨#[112,101,97,99,101]⟩:ByteArray) (0:Int) false (101:Int) false (0:Int) false (191:Nat)) from z) _ (.inr z) fun aE o=>?_)
 rw [Option.some.inj N] at o
 refine Vv (V.bld (xs:=[(0,.const (.string ⟨#[99,111,109,112,97,110,121]⟩)),(3,.const (.int .u8 (101))),(7,.func 191)]) (cs:=[_,_,_,_,_,_,_,_]) Y2 Y5 z (F8.cons z z z (F8.cons z z z (F8.cons z z z F8.nil)))) ?_
 obtain ⟨aG,P,H⟩:=bnd H
 refine To (O.A8h (agg:=true) (E:=K7) (cs:=[.string (⟨#[99,111,109,112,97,110,121]⟩:ByteArray),.int .u8 (0:Int),.bool false,.int .u8 (101:Int),.bool false,.int .i64 (0:Int),.bool false,(fnV (192:Nat))]) Tryz.underlying142 (A0G.int Tryz.underlying40) z z z (j:=0) z o (show K7 h [.string (⟨#[99,111,109,112,97,110,121]⟩:ByteArray),.int .u8 (0:Int),.bool false,.int .u8 (101:Int),.bool false,.int .i64 (0:Int),.bool false,(fnV (192:Nat))] (I5.mk (⟨#[99,111,109,112,97,110,121]⟩:ByteArray) (0:Int) false (101:Int) false (0:Int) false (192:Nat)) from z) _ (.inr z) fun aI p=>?_)
 rw [Option.some.inj P] at p
 refine Vv (V.bld (xs:=[(0,.const (.string ⟨#[104,111,110,111,117,114]⟩)),(3,.const (.int .u8 (101))),(7,.func 192)]) (cs:=[_,_,_,_,_,_,_,_]) Y2 Y5 z (F8.cons z z z (F8.cons z z z (F8.cons z z z F8.nil)))) ?_
 obtain ⟨aJ,S,H⟩:=bnd H
 refine To (O.A8h (agg:=true) (E:=K7) (cs:=[.string (⟨#[104,111,110,111,117,114]⟩:ByteArray),.int .u8 (0:Int),.bool false,.int .u8 (101:Int),.bool false,.int .i64 (0:Int),.bool false,(fnV (193:Nat))]) Tryz.underlying142 (A0G.int Tryz.underlying40) z z z (j:=0) z p (show K7 h [.string (⟨#[104,111,110,111,117,114]⟩:ByteArray),.int .u8 (0:Int),.bool false,.int .u8 (101:Int),.bool false,.int .i64 (0:Int),.bool false,(fnV (193:Nat))] (I5.mk (⟨#[104,111,110,111,117,114]⟩:ByteArray) (0:Int) false (101:Int) false (0:Int) false (193:Nat)) from z) _ (.inr z) fun aK q=>?_)
 rw [Option.some.inj S] at q
 refine Vv (V.bld (xs:=[(0,.const (.string ⟨#[102,105,108,108]⟩)),(3,.const (.int .u8 (101))),(4,.const (.bool true)),(7,.func 193)]) (cs:=[_,_,_,_,_,_,_,_]) Y2 Y5 z (F8.cons z z z (F8.cons z z z (F8.cons z z z (F8.cons z z z F8.nil))))) ?_
 obtain ⟨aM,U,H⟩:=bnd H
 refine To (O.A8h (agg:=true) (E:=K7) (cs:=[.string (⟨#[102,105,108,108]⟩:ByteArray),.int .u8 (0:Int),.bool false,.int .u8 (101:Int),.bool true,.int .i64 (0:Int),.bool false,(fnV (194:Nat))]) Tryz.underlying142 (A0G.int Tryz.underlying40) z z z (j:=0) z q (show K7 h [.string (⟨#[102,105,108,108]⟩:ByteArray),.int .u8 (0:Int),.bool false,.int .u8 (101:Int),.bool true,.int .i64 (0:Int),.bool false,(fnV (194:Nat))] (I5.mk (⟨#[102,105,108,108]⟩:ByteArray) (0:Int) false (101:Int) true (0:Int) false (194:Nat)) from z) _ (.inr z) fun aN r=>?_)
 rw [Option.some.inj U] at r
 refine Vv (V.bld (xs:=[(0,.const (.string ⟨#[108,105,109,105,116]⟩)),(3,.const (.int .u8 (101))),(4,.const (.bool true)),(7,.func 194)]) (cs:=[_,_,_,_,_,_,_,_]) Y2 Y5 z (F8.cons z z z (F8.cons z z z (F8.cons z z z (F8.cons z z z F8.nil))))) ?_
 obtain ⟨aO,W,H⟩:=bnd H
 refine To (O.A8h (agg:=true) (E:=K7) (cs:=[.string (⟨#[108,105,109,105,116]⟩:ByteArray),.int .u8 (0:Int),.bool false,.int .u8 (101:Int),.bool true,.int .i64 (0:Int),.bool false,(fnV (195:Nat))]) Tryz.underlying142 (A0G.int Tryz.underlying40) z z z (j:=0) z r (show K7 h [.string (⟨#[108,105,109,105,116]⟩:ByteArray),.int .u8 (0:Int),.bool false,.int .u8 (101:Int),.bool true,.int .i64 (0:Int),.bool false,(fnV (195:Nat))] (I5.mk (⟨#[108,105,109,105,116]⟩:ByteArray) (0:Int) false (101:Int) true (0:Int) false (195:Nat)) from z) _ (.inr z) fun aP s=>?_)
 rw [Option.some.inj W] at s
 refine Vv (V.bld (xs:=[(0,.const (.string ⟨#[107,105,116,99,104,101,110]⟩)),(1,.const (.int .u8 (100))),(3,.const (.int .u8 (116))),(7,.func 195)]) (cs:=[_,_,_,_,_,_,_,_]) Y2 Y5 z (F8.cons z z z (F8.cons z z z (F8.cons z z z (F8.cons z z z F8.nil))))) ?_
 obtain ⟨aS,X,H⟩:=bnd H
 refine To (O.A8h (agg:=true) (E:=K7) (cs:=[.string (⟨#[107,105,116,99,104,101,110]⟩:ByteArray),.int .u8 (100:Int),.bool false,.int .u8 (116:Int),.bool false,.int .i64 (0:Int),.bool false,(fnV (196:Nat))]) Tryz.underlying142 (A0G.int Tryz.underlying40) z z z (j:=0) z s (show K7 h [.string (⟨#[107,105,116,99,104,101,110]⟩:ByteArray),.int .u8 (100:Int),.bool false,.int .u8 (116:Int),.bool false,.int .i64 (0:Int),.bool false,(fnV (196:Nat))] (I5.mk (⟨#[107,105,116,99,104,101,110]⟩:ByteArray) (100:Int) false (116:Int) false (0:Int) false (196:Nat)) from z) _ (.inr z) fun aU t=>?_)
 rw [Option.some.inj X] at t
 refine Vv (V.bld (xs:=[(0,.const (.string ⟨#[109,105,120]⟩)),(3,.const (.int .u8 (101))),(7,.func 196)]) (cs:=[_,_,_,_,_,_,_,_]) Y2 Y5 z (F8.cons z z z (F8.cons z z z (F8.cons z z z F8.nil)))) ?_
 obtain ⟨aV,Y,H⟩:=bnd H
 refine To (O.A8h (agg:=true) (E:=K7) (cs:=[.string (⟨#[109,105,120]⟩:ByteArray),.int .u8 (0:Int),.bool false,.int .u8 (101:Int),.bool false,.int .i64 (0:Int),.bool false,(fnV (197:Nat))]) Tryz.underlying142 (A0G.int Tryz.underlying40) z z z (j:=0) z t (show K7 h [.string (⟨#[109,105,120]⟩:ByteArray),.int .u8 (0:Int),.bool false,.int .u8 (101:Int),.bool false,.int .i64 (0:Int),.bool false,(fnV (197:Nat))] (I5.mk (⟨#[109,105,120]⟩:ByteArray) (0:Int) false (101:Int) false (0:Int) false (197:Nat)) from z) _ (.inr z) fun aW u=>?_)
 rw [Option.some.inj Y] at u
 refine Mv z<|Ag z<|Nt<|T.ret<|T.C3Y K7.mono u fun aX aY Z=>?_
 obtain rfl:=Option.some.inj H
 exact T.F5 Tryz.results116 (Rv z) Li ⟨z,Z⟩
theorem B9D {h:PH} {pc0:List Value} {k1:I5} (pr0:K7 h pc0 k1) {pc1:List Value} {r2:G5} (pr1:H9 h pc1 r2) {r_0:Bool} (H:A9A k1 r2 = some r_0):∀ L,H5 Tryz.prog 275 [.agg pc0.toArray,.agg pc1.toArray] h (L) (fun v h' L'=>v = .bool r_0∧L' = L):=by
 intro L
 obtain rfl:=pr0
 obtain rfl:=pr1
 refine H5.enter Tryz.func275 z Tryz.ntmps275 z<|Sr<|To (O.V3 z z z fun c d e a=>To (O.V3 z z z fun f g i b=>Ag z<|Nt<|Sr<|Vv (V.fa A4W z)<|Vv (V.I6 (k:=1) A2g z a.u z)<|Vv (V.ne z z)<|Mv z<|T.bH 8 H z (fun H=>?_) (fun H=>?_)))
 ·refine Sk<|Sk<|Sk<|Vv (V.M0 z z)<|Mv z<|Vv (V.fa A2H z)<|Vv (V.I6 (k:=2) X8 z a.u z)<|Mv z<|T.bH 16 H z (fun H=>?_) (fun H=>?_)
  ·refine Sk<|Sk<|Sk<|Vv (V.M0 z z)<|Vv (V.M0 z z)<|Mv z<|Vv (V.fa A2a z)<|Vv (V.I6 (k:=3) A2g z a.u z)<|Vv (V.ne z z)<|Mv z<|T.bH 26 H z (fun H=>?_) (fun H=>?_)
   ·refine Sk<|Sk<|Sk<|Vv (V.M0 z z)<|Vv (V.M0 z z)<|Mv z<|Vv (V.fa A0X z)<|Vv (V.I6 (k:=4) X8 z a.u z)<|Mv z<|T.bH 35 H z (fun H=>?_) (fun H=>?_)
    ·refine Sk<|Sk<|Sk<|Vv (V.M0 z z)<|Vv (V.M0 z z)<|Ag z<|Nt<|T.ret ?_
     obtain rfl:=Option.some.inj H
     exact T.F5 Tryz.results275 (Rv z) Li ⟨z,z⟩
    refine Vv (V.fa O4 z)<|Vv (V.I6 (k:=5) D9 z b z)<|Vv (V.eq z z)<|Vv (V.J9 z z)<|Vv (V.M0 z z)<|Ag z<|Nt<|T.ret ?_
    obtain rfl:=Option.some.inj H
    exact T.F5 Tryz.results275 (Rv z) Li ⟨z,z⟩
   refine Vv (V.fa X3 z)<|Vv (V.I6 (k:=4) F6 z b z)<|Vv (V.seq z z)<|Vv (V.J9 z z)<|Vv (V.M0 z z)<|Mv z<|T.bH 32 H z (fun H=>?_) (fun H=>?_)
   ·refine Vv (V.fa A0X z)<|Vv (V.I6 (k:=4) X8 z a.u z)<|Mv z<|T.bH 35 H z (fun H=>?_) (fun H=>?_)
    ·refine Sk<|Sk<|Sk<|Vv (V.M0 z z)<|Vv (V.M0 z z)<|Ag z<|Nt<|T.ret ?_
     obtain rfl:=Option.some.inj H
     exact T.F5 Tryz.results275 (Rv z) Li ⟨z,z⟩
    refine Vv (V.fa O4 z)<|Vv (V.I6 (k:=5) D9 z b z)<|Vv (V.eq z z)<|Vv (V.J9 z z)<|Vv (V.M0 z z)<|Ag z<|Nt<|T.ret ?_
    obtain rfl:=Option.some.inj H
    exact T.F5 Tryz.results275 (Rv z) Li ⟨z,z⟩
   refine Sk<|Sk<|Sk<|Sk<|Sk<|Sk<|Sk<|Vv (V.J9 z z)<|Ag z<|Nt<|T.ret ?_
   obtain rfl:=Option.some.inj H
   exact T.F5 Tryz.results275 (Rv z) Li ⟨z,z⟩
  refine Vv (V.fa A0C z)<|Vv (V.I6 (k:=3) F6 z b z)<|Vv (V.seq z z)<|Vv (V.J9 z z)<|Vv (V.M0 z z)<|Mv z<|T.bH 22 H z (fun H=>?_) (fun H=>?_)
  ·refine Vv (V.fa A2a z)<|Vv (V.I6 (k:=3) A2g z a.u z)<|Vv (V.ne z z)<|Mv z<|T.bH 26 H z (fun H=>?_) (fun H=>?_)
   ·refine Sk<|Sk<|Sk<|Vv (V.M0 z z)<|Vv (V.M0 z z)<|Mv z<|Vv (V.fa A0X z)<|Vv (V.I6 (k:=4) X8 z a.u z)<|Mv z<|T.bH 35 H z (fun H=>?_) (fun H=>?_)
    ·refine Sk<|Sk<|Sk<|Vv (V.M0 z z)<|Vv (V.M0 z z)<|Ag z<|Nt<|T.ret ?_
     obtain rfl:=Option.some.inj H
     exact T.F5 Tryz.results275 (Rv z) Li ⟨z,z⟩
    refine Vv (V.fa O4 z)<|Vv (V.I6 (k:=5) D9 z b z)<|Vv (V.eq z z)<|Vv (V.J9 z z)<|Vv (V.M0 z z)<|Ag z<|Nt<|T.ret ?_
    obtain rfl:=Option.some.inj H
    exact T.F5 Tryz.results275 (Rv z) Li ⟨z,z⟩
   refine Vv (V.fa X3 z)<|Vv (V.I6 (k:=4) F6 z b z)<|Vv (V.seq z z)<|Vv (V.J9 z z)<|Vv (V.M0 z z)<|Mv z<|T.bH 32 H z (fun H=>?_) (fun H=>?_)
   ·refine Vv (V.fa A0X z)<|Vv (V.I6 (k:=4) X8 z a.u z)<|Mv z<|T.bH 35 H z (fun H=>?_) (fun H=>?_)
    ·refine Sk<|Sk<|Sk<|Vv (V.M0 z z)<|Vv (V.M0 z z)<|Ag z<|Nt<|T.ret ?_
     obtain rfl:=Option.some.inj H
     exact T.F5 Tryz.results275 (Rv z) Li ⟨z,z⟩
    refine Vv (V.fa O4 z)<|Vv (V.I6 (k:=5) D9 z b z)<|Vv (V.eq z z)<|Vv (V.J9 z z)<|Vv (V.M0 z z)<|Ag z<|Nt<|T.ret ?_
    obtain rfl:=Option.some.inj H
    exact T.F5 Tryz.results275 (Rv z) Li ⟨z,z⟩
   refine Sk<|Sk<|Sk<|Sk<|Sk<|Sk<|Sk<|Vv (V.J9 z z)<|Ag z<|Nt<|T.ret ?_
   obtain rfl:=Option.some.inj H
   exact T.F5 Tryz.results275 (Rv z) Li ⟨z,z⟩
  refine Sk<|Sk<|Sk<|Sk<|Sk<|Sk<|Sk<|Sk<|Vv (V.J9 z z)<|Mv z<|Sk<|Sk<|Sk<|Sk<|Sk<|Sk<|Sk<|Vv (V.J9 z z)<|Ag z<|Nt<|T.ret ?_
  obtain rfl:=Option.some.inj H
  exact T.F5 Tryz.results275 (Rv z) Li ⟨z,z⟩
 refine Vv (V.fa Y8 z)<|Vv (V.I6 (k:=2) F6 z b z)<|Vv (V.seq z z)<|Vv (V.J9 z z)<|Mv z<|T.bH 13 H z (fun H=>?_) (fun H=>?_)
 ·refine Vv (V.fa A2H z)<|Vv (V.I6 (k:=2) X8 z a.u z)<|Mv z<|T.bH 16 H z (fun H=>?_) (fun H=>?_)
  ·refine Sk<|Sk<|Sk<|Vv (V.M0 z z)<|Vv (V.M0 z z)<|Mv z<|Vv (V.fa A2a z)<|Vv (V.I6 (k:=3) A2g z a.u z)<|Vv (V.ne z z)<|Mv z<|T.bH 26 H z (fun H=>?_) (fun H=>?_)
   ·refine Sk<|Sk<|Sk<|Vv (V.M0 z z)<|Vv (V.M0 z z)<|Mv z<|Vv (V.fa A0X z)<|Vv (V.I6 (k:=4) X8 z a.u z)<|Mv z<|T.bH 35 H z (fun H=>?_) (fun H=>?_)
    ·refine Sk<|Sk<|Sk<|Vv (V.M0 z z)<|Vv (V.M0 z z)<|Ag z<|Nt<|T.ret ?_
     obtain rfl:=Option.some.inj H
     exact T.F5 Tryz.results275 (Rv z) Li ⟨z,z⟩
    refine Vv (V.fa O4 z)<|Vv (V.I6 (k:=5) D9 z b z)<|Vv (V.eq z z)<|Vv (V.J9 z z)<|Vv (V.M0 z z)<|Ag z<|Nt<|T.ret ?_
    obtain rfl:=Option.some.inj H
    exact T.F5 Tryz.results275 (Rv z) Li ⟨z,z⟩
   refine Vv (V.fa X3 z)<|Vv (V.I6 (k:=4) F6 z b z)<|Vv (V.seq z z)<|Vv (V.J9 z z)<|Vv (V.M0 z z)<|Mv z<|T.bH 32 H z (fun H=>?_) (fun H=>?_)
   ·refine Vv (V.fa A0X z)<|Vv (V.I6 (k:=4) X8 z a.u z)<|Mv z<|T.bH 35 H z (fun H=>?_) (fun H=>?_)
    ·refine Sk<|Sk<|Sk<|Vv (V.M0 z z)<|Vv (V.M0 z z)<|Ag z<|Nt<|T.ret ?_
     obtain rfl:=Option.some.inj H
     exact T.F5 Tryz.results275 (Rv z) Li ⟨z,z⟩
    refine Vv (V.fa O4 z)<|Vv (V.I6 (k:=5) D9 z b z)<|Vv (V.eq z z)<|Vv (V.J9 z z)<|Vv (V.M0 z z)<|Ag z<|Nt<|T.ret ?_
    obtain rfl:=Option.some.inj H
    exact T.F5 Tryz.results275 (Rv z) Li ⟨z,z⟩
   refine Sk<|Sk<|Sk<|Sk<|Sk<|Sk<|Sk<|Vv (V.J9 z z)<|Ag z<|Nt<|T.ret ?_
   obtain rfl:=Option.some.inj H
   exact T.F5 Tryz.results275 (Rv z) Li ⟨z,z⟩
  refine Vv (V.fa A0C z)<|Vv (V.I6 (k:=3) F6 z b z)<|Vv (V.seq z z)<|Vv (V.J9 z z)<|Vv (V.M0 z z)<|Mv z<|T.bH 22 H z (fun H=>?_) (fun H=>?_)
  ·refine Vv (V.fa A2a z)<|Vv (V.I6 (k:=3) A2g z a.u z)<|Vv (V.ne z z)<|Mv z<|T.bH 26 H z (fun H=>?_) (fun H=>?_)
   ·refine Sk<|Sk<|Sk<|Vv (V.M0 z z)<|Vv (V.M0 z z)<|Mv z<|Vv (V.fa A0X z)<|Vv (V.I6 (k:=4) X8 z a.u z)<|Mv z<|T.bH 35 H z (fun H=>?_) (fun H=>?_)
    ·refine Sk<|Sk<|Sk<|Vv (V.M0 z z)<|Vv (V.M0 z z)<|Ag z<|Nt<|T.ret ?_
     obtain rfl:=Option.some.inj H
     exact T.F5 Tryz.results275 (Rv z) Li ⟨z,z⟩
    refine Vv (V.fa O4 z)<|Vv (V.I6 (k:=5) D9 z b z)<|Vv (V.eq z z)<|Vv (V.J9 z z)<|Vv (V.M0 z z)<|Ag z<|Nt<|T.ret ?_
    obtain rfl:=Option.some.inj H
    exact T.F5 Tryz.results275 (Rv z) Li ⟨z,z⟩
   refine Vv (V.fa X3 z)<|Vv (V.I6 (k:=4) F6 z b z)<|Vv (V.seq z z)<|Vv (V.J9 z z)<|Vv (V.M0 z z)<|Mv z<|T.bH 32 H z (fun H=>?_) (fun H=>?_)
   ·refine Vv (V.fa A0X z)<|Vv (V.I6 (k:=4) X8 z a.u z)<|Mv z<|T.bH 35 H z (fun H=>?_) (fun H=>?_)
    ·refine Sk<|Sk<|Sk<|Vv (V.M0 z z)<|Vv (V.M0 z z)<|Ag z<|Nt<|T.ret ?_
     obtain rfl:=Option.some.inj H
     exact T.F5 Tryz.results275 (Rv z) Li ⟨z,z⟩
    refine Vv (V.fa O4 z)<|Vv (V.I6 (k:=5) D9 z b z)<|Vv (V.eq z z)<|Vv (V.J9 z z)<|Vv (V.M0 z z)<|Ag z<|Nt<|T.ret ?_
    obtain rfl:=Option.some.inj H
    exact T.F5 Tryz.results275 (Rv z) Li ⟨z,z⟩
   refine Sk<|Sk<|Sk<|Sk<|Sk<|Sk<|Sk<|Vv (V.J9 z z)<|Ag z<|Nt<|T.ret ?_
   obtain rfl:=Option.some.inj H
   exact T.F5 Tryz.results275 (Rv z) Li ⟨z,z⟩
  refine Sk<|Sk<|Sk<|Sk<|Sk<|Sk<|Sk<|Sk<|Vv (V.J9 z z)<|Mv z<|Sk<|Sk<|Sk<|Sk<|Sk<|Sk<|Sk<|Vv (V.J9 z z)<|Ag z<|Nt<|T.ret ?_
  obtain rfl:=Option.some.inj H
  exact T.F5 Tryz.results275 (Rv z) Li ⟨z,z⟩
 refine Sk<|Sk<|Sk<|Sk<|Sk<|Sk<|Sk<|Vv (V.J9 z z)<|Mv z<|Sk<|Sk<|Sk<|Sk<|Sk<|Sk<|Sk<|Sk<|Vv (V.J9 z z)<|Mv z<|Sk<|Sk<|Sk<|Sk<|Sk<|Sk<|Sk<|Vv (V.J9 z z)<|Ag z<|Nt<|T.ret ?_
 obtain rfl:=Option.some.inj H
 exact T.F5 Tryz.results275 (Rv z) Li ⟨z,z⟩
theorem C0h {h:PH} {pc0:List Value} {k1:I5} (pr0:K7 h pc0 k1) {pc1:List Value} {p2:A8} (pr1:C9 h pc1 p2) {pc2:List Value} {r13:G5} (pr2:H9 h pc2 r13) {r_0:Int} (H:A9n k1 p2 r13 = some r_0):∀ L,H5 Tryz.prog 178 [.agg pc0.toArray,.agg pc1.toArray,.agg pc2.toArray] h (L) (fun v h' L'=>v = .int .i64 r_0∧L' = L):=by
 intro L
 obtain rfl:=pr0
 obtain ⟨c,d,e,f,g,rfl,i,n,o,p,q⟩:=pr1
 obtain rfl:=pr2
 refine H5.enter Tryz.func178 z Tryz.ntmps178 z<|Sr<|To (O.V3 z z z fun bd be bf b=>To (O.V3 z z z fun bg bi bj j=>To (O.V3 z z z fun bk bm bn a=>Ag z<|Nt<|Sq<|Bl<|Sr<|Vv (V.fa B9P z)<|Vv (V.I6 (k:=0) F6 z b.u z)<|Vv (V.seq z z)<|Ag z<|Nt<|T.cH H z (fun H=>?_) (fun H=>?_))))
 ·refine Sr<|Ag z<|Nt<|T.ret<|Br<|Tr ?_
  obtain rfl:=Option.some.inj H
  exact T.F5 Tryz.results178 (Rv z) Li ⟨z,z⟩
 refine Sq ?_
 obtain ⟨E,G,I⟩:=N7 H
 refine T.O5 (α:=Bool) [3,4,5] z (fun r=>[(14,.bool r)]) (fun r=>L) (fun r hh=>E = r) ?_ ?_
 ·have H:=G
  refine Rg<|Vv (V.fa A1a z)<|Vv (V.I6 (k:=1) D9 z a z)<|Vv (V.lt z z)<|Mv z<|T.bH 18 H z (fun H=>?_) (fun H=>?_)
  ·refine Sk<|Sk<|Sk<|Vv (V.M0 z z)<|Ag z<|Nt<|T.met true Lr (K4 H) (A9.app ⟨z,trivial⟩ ⟨z,z,z,trivial⟩) z
  refine Vv (V.fa A1a z)<|Vv (V.I6 (k:=1) D9 z a z)<|Vv (V.gt z z)<|Vv (V.J9 z z)<|Ag z<|Nt<|T.met (decide ((1000:Int) < r13.Y6)) Lr (K4 H) (A9.app ⟨z,trivial⟩ ⟨z,z,z,trivial⟩) z
 rintro r B bo J
 have H:=J5 J I
 refine T.norm [14,3,4,5] z<|T.fl ?_
 refine T.cH H z (fun H=>?_) (fun H=>?_)
 ·refine Sr<|Ag z<|Nt<|T.ret<|Br<|Tr ?_
  obtain rfl:=Option.some.inj H
  exact T.F5 Tryz.results178 (Rv z) Li ⟨z,z⟩
 refine Sr<|Vv (V.Z9 rfl b.u (by exact C3F)) ?_
 refine Vv (V.Z9 rfl a.u (by exact A0k)) ?_
 obtain ⟨bp,K,H⟩:=bnd H
 refine To (O.C8 z (B9D (show K7 B [.string k1.A5E,.int .u8 k1.fa,.bool k1.fb,.int .u8 k1.ft,.bool k1.fn,.int .i64 k1.flo,.bool k1.C4y,(fnV k1.C3D)] k1 from z) (show H9 B [.int .u8 r13.J4,.int .i64 r13.Y6,.string r13.fA,.string r13.fB,.string r13.V7,.int .i64 r13.fN] r13 from z) K _) z fun bq M br bs N=>?_)
 obtain ⟨rfl,P⟩:=N
 refine I9 _ P<|Vv (V.not z)<|Ag z<|Nt<|T.cH H z (fun H=>?_) (fun H=>?_)
 ·refine Sr<|Ag z<|Nt<|T.ret<|Br<|Tr ?_
  obtain rfl:=Option.some.inj H
  exact T.F5 Tryz.results178 (Rv z) Li ⟨z,z⟩
 refine Sq<|Sq ?_
 obtain ⟨S,U,W⟩:=N7 H
 refine T.O5 (α:=Bool) [3,4,5] z (fun m=>[(28,.bool m)]) (fun m=>L) (fun m hh=>S = m) ?_ ?_
 ·have H:=U
  refine Rg<|Vv (V.fa A4W z)<|Vv (V.I6 (k:=1) A2g z b.u z)<|Vv (V.eq z z)<|Mv z<|T.bH 32 H z (fun H=>?_) (fun H=>?_)
  ·refine Vv (V.Z9 rfl j.u (by exact F9)) ?_
   refine Vv (V.fa Y8 z)<|Vv (V.I6 (k:=2) F6 z a.u z) ?_
   obtain ⟨X,Y,H⟩:=bnd H
   refine To (O.C8 z (A2p (show C9 M [c,d,e,f,g] p2 from ⟨c,d,e,f,g,z,i.u,n.u,o.u,p.u,q.u⟩) Y _) z fun bt bu bw bx Z=>?_)
   obtain ⟨rfl,aa⟩:=Z
   refine I9 _ aa<|Vv (V.lt z z)<|Vv (V.M0 z z)<|Ag z<|Nt<|T.met (decide (X < (0:Int))) Li (K4 H) (A9.app ⟨z,trivial⟩ ⟨z,z,z,trivial⟩) z
  refine Sk<|Sk<|Sk<|Sk<|Sk<|Vv (V.J9 z z)<|Ag z<|Nt<|T.met false Lr (K4 H) (A9.app ⟨z,trivial⟩ ⟨z,z,z,trivial⟩) z
 rintro m A bA ab
 have H:=J5 ab W
 refine T.norm [28,3,4,5] z<|T.fl ?_
 obtain ⟨ac,ad,ae⟩:=N7 H
 refine T.O5 (α:=Bool) [3,4,5] z (fun s=>[(28,.bool s)]) (fun s=>L) (fun s hh=>ac = s) ?_ ?_
 ·have H:=ad
  refine T.cH H z (fun H=>?_) (fun H=>?_)
  ·refine T.skip<|Th<|T.met m Lr (K4 H) (A9.app ⟨z,trivial⟩ ⟨z,z,z,trivial⟩) z
  refine Sr<|Vv (V.fa A4W z)<|Vv (V.I6 (k:=1) A2g z b.u z)<|Vv (V.eq z z)<|Mv z<|T.bH 42 H z (fun H=>?_) (fun H=>?_)
  ·refine Vv (V.fa Y8 z)<|Vv (V.I6 (k:=2) F6 z a.u z)<|Vv (V.sne z z)<|Vv (V.M0 z z)<|Mv z<|T.bH 47 H z (fun H=>?_) (fun H=>?_)
   ·refine Vv (V.Z9 rfl j.u (by exact F9)) ?_
    refine Vv (V.fa Y8 z)<|Vv (V.I6 (k:=2) F6 z a.u z) ?_
    obtain ⟨af,ag,H⟩:=bnd H
    refine To (O.C8 z (A2p (show C9 A [c,d,e,f,g] p2 from ⟨c,d,e,f,g,z,i.u,n.u,o.u,p.u,q.u⟩) ag _) z fun bB ai bC bD aj=>?_)
    obtain ⟨rfl,ak⟩:=aj
    refine I9 _ ak<|Vv (V.lt z z)<|Vv (V.M0 z z)<|Ag z<|Nt<|T.cH H z (fun H=>?_) (fun H=>?_)
    ·refine T.skip<|Th<|T.met (decide (af < (0:Int))) Li (K4 H) (A9.app ⟨z,trivial⟩ ⟨z,z,z,trivial⟩) z
    refine Rg<|Vv (V.fa A2H z)<|Vv (V.I6 (k:=2) X8 z b.u z)<|Mv z<|T.bH 56 H z (fun H=>?_) (fun H=>?_)
    ·refine Vv (V.Z9 rfl j.u (by exact F9)) ?_
     refine Vv (V.fa A0C z)<|Vv (V.I6 (k:=3) F6 z a.u z) ?_
     obtain ⟨am,an,H⟩:=bnd H
     refine To (O.C8 z (A2p (show C9 ai [c,d,e,f,g] p2 from ⟨c,d,e,f,g,z,i.u,n.u,o.u,p.u,q.u⟩) an _) z fun bE bG bI bJ ao=>?_)
     obtain ⟨rfl,ap⟩:=ao
     refine I9 _ ap<|Vv (V.lt z z)<|Vv (V.M0 z z)<|Ag z<|Nt<|T.met (decide (am < (0:Int))) Li (K4 H) (A9.app ⟨z,trivial⟩ ⟨z,z,z,trivial⟩) z
    refine Sk<|Sk<|Sk<|Sk<|Sk<|Vv (V.J9 z z)<|Ag z<|Nt<|T.met false Li (K4 H) (A9.app ⟨z,trivial⟩ ⟨z,z,z,trivial⟩) z
   refine Sk<|Sk<|Sk<|Sk<|Sk<|Vv (V.J9 z z)<|Ag z<|Nt<|Cf z<|Rg<|Vv (V.fa A2H z)<|Vv (V.I6 (k:=2) X8 z b.u z)<|Mv z<|T.bH 56 H z (fun H=>?_) (fun H=>?_)
   ·refine Vv (V.Z9 rfl j.u (by exact F9)) ?_
    refine Vv (V.fa A0C z)<|Vv (V.I6 (k:=3) F6 z a.u z) ?_
    obtain ⟨aq,ar,H⟩:=bnd H
    refine To (O.C8 z (A2p (show C9 A [c,d,e,f,g] p2 from ⟨c,d,e,f,g,z,i.u,n.u,o.u,p.u,q.u⟩) ar _) z fun bK bM bN bO au=>?_)
    obtain ⟨rfl,aw⟩:=au
    refine I9 _ aw<|Vv (V.lt z z)<|Vv (V.M0 z z)<|Ag z<|Nt<|T.met (decide (aq < (0:Int))) Li (K4 H) (A9.app ⟨z,trivial⟩ ⟨z,z,z,trivial⟩) z
   refine Sk<|Sk<|Sk<|Sk<|Sk<|Vv (V.J9 z z)<|Ag z<|Nt<|T.met false Lr (K4 H) (A9.app ⟨z,trivial⟩ ⟨z,z,z,trivial⟩) z
  refine Sk<|Sk<|Sk<|Vv (V.J9 z z)<|Mv z<|Sk<|Sk<|Sk<|Sk<|Sk<|Vv (V.J9 z z)<|Ag z<|Nt<|Cf z<|Rg<|Vv (V.fa A2H z)<|Vv (V.I6 (k:=2) X8 z b.u z)<|Mv z<|T.bH 56 H z (fun H=>?_) (fun H=>?_)
  ·refine Vv (V.Z9 rfl j.u (by exact F9)) ?_
   refine Vv (V.fa A0C z)<|Vv (V.I6 (k:=3) F6 z a.u z) ?_
   obtain ⟨ax,ay,H⟩:=bnd H
   refine To (O.C8 z (A2p (show C9 A [c,d,e,f,g] p2 from ⟨c,d,e,f,g,z,i.u,n.u,o.u,p.u,q.u⟩) ay _) z fun bP bS bU bV aA=>?_)
   obtain ⟨rfl,aB⟩:=aA
   refine I9 _ aB<|Vv (V.lt z z)<|Vv (V.M0 z z)<|Ag z<|Nt<|T.met (decide (ax < (0:Int))) Li (K4 H) (A9.app ⟨z,trivial⟩ ⟨z,z,z,trivial⟩) z
  refine Sk<|Sk<|Sk<|Sk<|Sk<|Vv (V.J9 z z)<|Ag z<|Nt<|T.met false Lr (K4 H) (A9.app ⟨z,trivial⟩ ⟨z,z,z,trivial⟩) z
 rintro s bW bX aC
 have H:=J5 aC ae
 refine T.norm [28,3,4,5] z<|T.fl ?_
 refine T.cH H z (fun H=>?_) (fun H=>?_)
 ·refine Sr<|Ag z<|Nt<|T.ret<|Br<|Tr ?_
  obtain rfl:=Option.some.inj H
  exact T.F5 Tryz.results178 (Rv z) Li ⟨z,z⟩
 refine Sq ?_
 obtain ⟨aD,aE,aG⟩:=N7 H
 refine T.O5 (α:=Bool) [3,4,5] z (fun t=>[(63,.bool t)]) (fun t=>L) (fun t hh=>aD = t) ?_ ?_
 ·have H:=aE
  refine Rg<|Vv (V.fa A4W z)<|Vv (V.I6 (k:=1) A2g z b.u z)<|Vv (V.eq z z)<|Mv z<|T.bH 67 H z (fun H=>?_) (fun H=>?_)
  ·refine Vv (V.fa Y8 z)<|Vv (V.I6 (k:=2) F6 z a.u z) ?_
   obtain ⟨aI,aJ,H⟩:=bnd H
   refine To (O.C8 z (C2z aJ _) z fun bY bZ b0 b1 aK=>?_)
   obtain ⟨rfl,aM⟩:=aK
   refine I9 _ aM<|Vv (V.not z)<|Vv (V.M0 z z)<|Ag z<|Nt<|T.met (!aI) Li (K4 H) (A9.app ⟨z,trivial⟩ ⟨z,z,z,trivial⟩) z
  refine Sk<|Sk<|Sk<|Sk<|Vv (V.J9 z z)<|Ag z<|Nt<|T.met false Lr (K4 H) (A9.app ⟨z,trivial⟩ ⟨z,z,z,trivial⟩) z
 rintro t b2 b3 aN
 have H:=J5 aN aG
 refine T.norm [63,3,4,5] z<|T.fl ?_
 refine T.cH H z (fun H=>?_) (fun H=>?_)
 ·refine Sr<|Ag z<|Nt<|T.ret<|Br<|Tr ?_
  obtain rfl:=Option.some.inj H
  exact T.F5 Tryz.results178 (Rv z) Li ⟨z,z⟩
 refine Sq ?_
 obtain ⟨aO,aP,aS⟩:=N7 H
 refine T.O5 (α:=Bool) [3,4,5] z (fun w=>[(73,.bool w)]) (fun w=>L) (fun w hh=>aO = w) ?_ ?_
 ·have H:=aP
  refine Rg<|Vv (V.fa A2H z)<|Vv (V.I6 (k:=2) X8 z b.u z)<|Mv z<|T.bH 76 H z (fun H=>?_) (fun H=>?_)
  ·refine Vv (V.fa Y8 z)<|Vv (V.I6 (k:=2) F6 z a.u z)<|Vv (V.fa A0C z)<|Vv (V.I6 (k:=3) F6 z a.u z)<|Vv (V.seq z z)<|Vv (V.M0 z z)<|Ag z<|Nt<|T.met (decide (r13.fA = r13.fB)) Lr (K4 H) (A9.app ⟨z,trivial⟩ ⟨z,z,z,trivial⟩) z
  refine Sk<|Sk<|Sk<|Sk<|Sk<|Vv (V.J9 z z)<|Ag z<|Nt<|T.met false Lr (K4 H) (A9.app ⟨z,trivial⟩ ⟨z,z,z,trivial⟩) z
 rintro w b4 b5 aU
 have H:=J5 aU aS
 refine T.norm [73,3,4,5] z<|T.fl ?_
 refine T.cH H z (fun H=>?_) (fun H=>?_)
 ·refine Sr<|Ag z<|Nt<|T.ret<|Br<|Tr ?_
  obtain rfl:=Option.some.inj H
  exact T.F5 Tryz.results178 (Rv z) Li ⟨z,z⟩
 refine T.skip<|Bn<|Th<|Sr<|Vv (V.fa K3 z)<|Vv (V.I6 (k:=0) M9 z j.u z)<|Vv (V.fa X3 z)<|Vv (V.I6 (k:=4) F6 z a.u z) ?_
 obtain ⟨⟨b6,C⟩,aV,H⟩:=bnd H
 refine To (O.C8 z (C1V i.u aV _) z fun b7 b8 b9 bh aW=>?_)
 obtain ⟨rfl,aX⟩:=aW
 refine I9 _ aX<|Mv z<|Vv (V.ext z z)<|Vv (V.ext z z)<|Ag z<|Ag z<|Nt<|Sq<|Sq ?_
 obtain ⟨aY,aZ,a0⟩:=N7 H
 refine T.O5 (α:=Bool) [3,4,5,7] z (fun x=>[(111,.bool x)]) (fun x=>L) (fun x hh=>aY = x) ?_ ?_
 ·have H:=aZ
  refine Rg<|Vv (V.fa A2a z)<|Vv (V.I6 (k:=3) A2g z b.u z)<|Vv (V.eq z z)<|Mv z<|T.bH 94 H z (fun H=>?_) (fun H=>?_)
  ·refine Mv z<|Vv (V.not z)<|Vv (V.M0 z z)<|Mv z<|T.bH 98 H z (fun H=>?_) (fun H=>?_)
   ·refine Sk<|Sk<|Sk<|Sk<|Sk<|Sk<|Sk<|Sk<|Sk<|Sk<|Sk<|Sk<|Vv (V.M0 z z)<|Nt<|T.met true Lr (K4 H) (A9.app ⟨z,trivial⟩ ⟨z,z,z,z,trivial⟩) z
   refine Vv (V.fa A2a z)<|Vv (V.I6 (k:=3) A2g z b.u z)<|Vv (V.eq z z)<|Mv z<|T.bH 102 H z (fun H=>?_) (fun H=>?_)
   ·refine Vv (V.fa X3 z)<|Vv (V.I6 (k:=4) F6 z a.u z)<|Vv (V.sne z z)<|Vv (V.M0 z z)<|Mv z<|T.bH 107 H z (fun H=>?_) (fun H=>?_)
    ·refine Mv z<|Vv (V.not z)<|Vv (V.M0 z z)<|Vv (V.J9 z z)<|Nt<|T.met (!C) Lr (K4 H) (A9.app ⟨z,trivial⟩ ⟨z,z,z,z,trivial⟩) z
    refine Sk<|Sk<|Vv (V.J9 z z)<|Vv (V.J9 z z)<|Nt<|T.met false Lr (K4 H) (A9.app ⟨z,trivial⟩ ⟨z,z,z,z,trivial⟩) z
   refine Sk<|Sk<|Sk<|Vv (V.J9 z z)<|Mv z<|Sk<|Sk<|Vv (V.J9 z z)<|Vv (V.J9 z z)<|Nt<|T.met false Lr (K4 H) (A9.app ⟨z,trivial⟩ ⟨z,z,z,z,trivial⟩) z
  refine Sk<|Sk<|Vv (V.J9 z z)<|Mv z<|Vv (V.fa A2a z)<|Vv (V.I6 (k:=3) A2g z b.u z)<|Vv (V.eq z z)<|Mv z<|T.bH 102 H z (fun H=>?_) (fun H=>?_)
  ·refine Vv (V.fa X3 z)<|Vv (V.I6 (k:=4) F6 z a.u z)<|Vv (V.sne z z)<|Vv (V.M0 z z)<|Mv z<|T.bH 107 H z (fun H=>?_) (fun H=>?_)
   ·refine Mv z<|Vv (V.not z)<|Vv (V.M0 z z)<|Vv (V.J9 z z)<|Nt<|T.met (!C) Lr (K4 H) (A9.app ⟨z,trivial⟩ ⟨z,z,z,z,trivial⟩) z
   refine Sk<|Sk<|Vv (V.J9 z z)<|Vv (V.J9 z z)<|Nt<|T.met false Lr (K4 H) (A9.app ⟨z,trivial⟩ ⟨z,z,z,z,trivial⟩) z
  refine Sk<|Sk<|Sk<|Vv (V.J9 z z)<|Mv z<|Sk<|Sk<|Vv (V.J9 z z)<|Vv (V.J9 z z)<|Nt<|T.met false Lr (K4 H) (A9.app ⟨z,trivial⟩ ⟨z,z,z,z,trivial⟩) z
 rintro x a1 bl a2
 have H:=J5 a2 a0
 refine T.norm [111,3,4,5,7] z<|T.fl ?_
 refine T.cH H z (fun H=>?_) (fun H=>?_)
 ·refine Sr<|Ag z<|Nt<|T.ret<|Tr ?_
  obtain rfl:=Option.some.inj H
  exact T.F5 Tryz.results178 (Rv z) Li ⟨z,z⟩
 refine T.skip<|Th<|Sr<|Ag z<|Nt<|Sq<|Sr<|Vv (V.fa C0n z)<|Vv (V.I6 (k:=6) X8 z b.u z)<|Nt ?_
 obtain ⟨a3,a4,a5⟩:=N7 H
 refine T.O5 (α:=Int) [3,5] z (fun y=>[(9,.int .i64 y)]) (fun y=>L) (fun y hh=>a3 = y) ?_ ?_
 ·have H:=a4
  refine T.cH H z (fun H=>?_) (fun H=>?_)
  ·refine Rg<|Vv (V.fa K3 z)<|Vv (V.I6 (k:=0) M9 z j.u z)<|Mv z<|Mv z ?_
   obtain ⟨bv,a6,H⟩:=bnd H
   refine Vv (V.L8 z z a6) ?_
   obtain ⟨a7,D,H⟩:=bnd H
   refine T.slM z O0 z i.u (.inr ⟨_,_,z,z⟩) (.inr ⟨_,_,z,z⟩) (A4m D).2 z fun a8 a9 bz=>?_
   have ah:G9 E8 7 a1 a8 a7:=by rw [(A4m D).1]; exact a9
   obtain ⟨ca,al,H⟩:=bnd H
   refine To (O.C8 z (A3x ah al _) z fun cb cc cd ce av=>?_)
   obtain ⟨rfl,az⟩:=av
   refine I9 _ az ?_
   obtain ⟨ba,bb,H⟩:=bnd H
   refine Vv (V.A0M z z bb)<|Ag z<|Nt<|T.met ba Li (K4 H) (A9.app ⟨z,trivial⟩ ⟨z,z,trivial⟩) z
  refine T.skip<|Th<|T.met (24:Int) Lr (K4 H) (A9.app ⟨z,trivial⟩ ⟨z,z,trivial⟩) z
 rintro y cf cg bc
 have H:=J5 bc a5
 refine T.norm [9,3,5] z<|T.fl ?_
 refine Sq<|Sr<|Vv (V.fa A0X z)<|Vv (V.I6 (k:=4) X8 z b.u z)<|Mv z<|T.bH 124 H z (fun H=>?_) (fun H=>?_)
 ·refine Vv (V.fa O4 z)<|Vv (V.I6 (k:=5) D9 z a.u z)<|Vv (V.fa C0H z)<|Vv (V.I6 (k:=5) D9 z b.u z)<|Vv (V.lt z z)<|Mv z<|T.bH 130 H z (fun H=>?_) (fun H=>?_)
  ·refine Sk<|Sk<|Sk<|Sk<|Vv (V.M0 z z)<|Vv (V.M0 z z)<|Nt<|Ct z<|Sr<|Ag z<|Nt<|T.ret<|Tr ?_
   obtain rfl:=Option.some.inj H
   exact T.F5 Tryz.results178 (Rv z) Li ⟨z,z⟩
  refine Vv (V.fa O4 z)<|Vv (V.I6 (k:=5) D9 z a.u z)<|Mv z<|Vv (V.gt z z)<|Vv (V.J9 z z)<|Vv (V.M0 z z)<|Nt<|T.cH H z (fun H=>?_) (fun H=>?_)
  ·refine Sr<|Ag z<|Nt<|T.ret<|Tr ?_
   obtain rfl:=Option.some.inj H
   exact T.F5 Tryz.results178 (Rv z) Li ⟨z,z⟩
  refine T.skip<|Th<|Sr<|Ag z<|Nt<|T.ret ?_
  obtain rfl:=Option.some.inj H
  exact T.F5 Tryz.results178 (Rv z) Li ⟨z,z⟩
 refine Sk<|Sk<|Sk<|Sk<|Sk<|Sk<|Sk<|Sk<|Sk<|Sk<|Sk<|Vv (V.J9 z z)<|Nt<|Cf z<|T.skip<|Th<|Sr<|Ag z<|Nt<|T.ret ?_
 obtain rfl:=Option.some.inj H
 exact T.F5 Tryz.results178 (Rv z) Li ⟨z,z⟩
theorem B9W {h:PH} {pc0:List Value} {p1:A8} (pr0:C9 h pc0 p1) {r_0:Int} {r_1:Int} (H:A9d p1 = some (r_0,r_1)):∀ L,H5 Tryz.prog 177 [.agg pc0.toArray] h (L) (fun v h' L'=>v = .tuple #[.int .i64 r_0,.int .i64 r_1]∧L' = L):=by
 intro L
 obtain ⟨Z,m,n,aa,ab,rfl,o,f,p,d,ac⟩:=pr0
 refine H5.enter Tryz.func177 z Tryz.ntmps177 z<|Sr<|To (O.V3 z z z fun ad ae af a=>Ag z<|Ag z<|Nt<|Sq<|Sr<|Vv (V.fa K3 z)<|Vv (V.I6 (k:=0) M9 z a z) ?_)
 obtain ⟨⟨ag,ai⟩,s,H⟩:=bnd H
 refine To (O.C8 z (A8z o.u s _) z fun aj w ak am x=>?_)
 obtain ⟨rfl,y⟩:=x
 refine I9 _ y<|Mv z<|Vv (V.ext z z)<|Vv (V.ext z z)<|Ag z<|Ag z<|Nt<|Sr<|Mv z<|Vv (V.ne z z)<|Nt<|T.cH H z (fun H=>?_) (fun H=>?_)
 ·refine Sr<|Mv z<|Mv z<|Ag z<|Ag z<|Nt<|T.ret<|Tr ?_
  obtain ⟨rfl,rfl⟩:=inj2 H
  exact T.F5 Tryz.results177 (RVs.cons (RV.tmp z) (Rv z)) Li ⟨z,z⟩
 refine T.skip<|Th<|Sq<|Sr<|Vv (V.fa M3 z)<|Vv (V.I6 (k:=1) J3 z a.u z)<|Vv (V.fa Y3 z)<|Vv (V.I6 (k:=2) Q0 z a.u z)<|Vv (V.bld (xs:=[(0,.tmp 22),(1,.tmp 24)]) (cs:=[_,_]) B1B B0E z (F8.cons z (G9.cells f) z (F8.cons z (G9.cells p) z F8.nil))) ?_
 obtain ⟨⟨an,ao⟩,A,H⟩:=bnd H
 refine To (O.C8 z (B4h (show A2X w [m,n] (V6.mk p1.F3 p1.J8) from ⟨m,n,z,f.u,p.u⟩) A _) z fun ap aq ar au B=>?_)
 obtain ⟨rfl,C⟩:=B
 refine I9 _ C<|Mv z<|Vv (V.ext z z)<|Vv (V.ext z z)<|Ag z<|Ag z<|Nt<|Sr<|Mv z<|Vv (V.ne z z)<|Nt<|T.cH H z (fun H=>?_) (fun H=>?_)
 ·refine Sr<|Mv z<|Mv z<|Ag z<|Ag z<|Nt<|T.ret<|Tr ?_
  obtain ⟨rfl,rfl⟩:=inj2 H
  exact T.F5 Tryz.results177 (RVs.cons (RV.tmp z) (Rv z)) Li ⟨z,z⟩
 refine T.skip<|Th<|Sq<|Sq ?_
 obtain ⟨D,E,G⟩:=N7 H
 refine T.O5 (α:=Bool) [1] z (fun e=>[(45,.bool e)]) (fun e=>L) (fun e hh=>D = e) ?_ ?_
 ·have H:=E
  refine Rg<|Vv (V.fa Y7 z)<|Vv (V.I6 (k:=3) F4 z a.u z)<|Vv (V.P6 D6 z d)<|Vv (V.gt z z)<|Mv z<|T.bH 37 H z (fun H=>?_) (fun H=>?_)
  ·refine Vv (V.fa Y7 z)<|Vv (V.I6 (k:=3) F4 z a.u z)<|Vv (V.P6 D6 z d)<|Vv (V.fa M3 z)<|Vv (V.I6 (k:=1) J3 z a.u z)<|Vv (V.P6 O9 z f)<|Vv (V.ne z z)<|Vv (V.M0 z z)<|Nt<|T.met (!decide ((p1.K5.length:Int) = (p1.F3.length:Int))) Lr (K4 H) (A9.app ⟨z,trivial⟩ ⟨z,trivial⟩) z
  refine Sk<|Sk<|Sk<|Sk<|Sk<|Sk<|Sk<|Vv (V.J9 z z)<|Nt<|T.met false Lr (K4 H) (A9.app ⟨z,trivial⟩ ⟨z,trivial⟩) z
 rintro e aw ax I
 have H:=J5 I G
 refine T.norm [45,1] z<|T.fl ?_
 refine T.cH H z (fun H=>?_) (fun H=>?_)
 ·refine Sr<|Ag z<|Ag z<|Nt<|T.ret<|Tr ?_
  obtain ⟨rfl,rfl⟩:=inj2 H
  exact T.F5 Tryz.results177 (RVs.cons (RV.tmp z) (Rv z)) Li ⟨z,z⟩
 refine T.skip<|Th<|Sq<|Sr<|Vv (V.fa Y7 z)<|Vv (V.I6 (k:=3) F4 z a.u z)<|Vv (V.P6 D6 z d)<|Mv z<|Nt ?_
 obtain ⟨q,J,j⟩:=N7 H
 refine T.O5 (α:=Unit) [1] z (fun _u=>[]) (fun _u=>L) (fun _u hh=>q = (Sum.inl ())) ?_ ?_
 ·have H:=J
  refine Bl<|T.N8 (α:=Nat×Int) [1,47,48] z (fun ⟨b,c⟩=>[(49,.int .i64 c)]) (fun ⟨b,c⟩=>L) (fun ⟨b,c⟩ hh=>iter (A3o p1) b c = some q) (fun ⟨b,c⟩=>b) (FUEL,(0:Int)) ⟨z,trivial⟩ z H ?_
  rintro ⟨b,c⟩ ay aA K
  obtain ⟨M,aB,rfl,H,i⟩:=I4 K
  refine T.norm [49,1,47,48] z<|T.fl ?_
  refine Sr<|Vv (V.lt z z)<|Nt<|Sq<|T.cH H z (fun H=>?_) (fun H=>?_)
  ·refine T.skip<|Th<|Sq<|Bl<|Sr ?_
   obtain ⟨aC,r,H⟩:=bnd H
   obtain ⟨aD,N,rfl⟩:=G9.at d r
   refine Vv (V.ix D6 z z d (H6 r))<|Vv (V.ld0 D9 z N.u z)<|Ag z<|Nt<|Sr<|Mv z<|Vv (V.lt z z)<|Mv z<|T.bH 55 H z (fun H=>?_) (fun H=>?_)
   ·refine Sk<|Sk<|Vv (V.M0 z z)<|Nt<|Ct z<|Sr<|Ag z<|Ag z<|Nt<|T.ret<|Br<|Tr<|Tr<|have H:=D7 H i; Br<|Tr<|have H:=J5 H j; ?_
    obtain ⟨rfl,rfl⟩:=inj2 H
    exact T.F5 Tryz.results177 (RVs.cons (RV.tmp z) (Rv z)) Li ⟨z,z⟩
   refine Mv z<|Vv (V.ge z z)<|Vv (V.J9 z z)<|Nt<|T.cH H z (fun H=>?_) (fun H=>?_)
   ·refine Sr<|Ag z<|Ag z<|Nt<|T.ret<|Br<|Tr<|Tr<|have H:=D7 H i; Br<|Tr<|have H:=J5 H j; ?_
    obtain ⟨rfl,rfl⟩:=inj2 H
    exact T.F5 Tryz.results177 (RVs.cons (RV.tmp z) (Rv z)) Li ⟨z,z⟩
   refine T.skip<|Bn<|Th<|Rg ?_
   obtain ⟨P,S,H⟩:=bnd H
   refine Vv (V.L8 z z S)<|Mv z<|Nt<|T.again (M,P) Li (Nat.lt_succ_self _) (G8 H i) (A9.app ⟨z,trivial⟩ ⟨z,z,z,trivial⟩) z
  refine T.exit<|Te<|Te<|have H:=D7 H i; Be<|Th<|T.met () Li H (A9.app trivial ⟨z,trivial⟩) z
 rintro _ aE aG U
 have H:=J5 U j
 refine T.norm [1] z<|T.fl ?_
 refine Sq<|Sq<|T.O8 (t:=(.v 0 (.v 1 (.v 2 (.v 3 (.v 4 (.alt 5 (.g (.v 6 .done)) .no))))))) 8 0 0 rfl rfl I8 (by kernel_rfl) ?_
 refine Tv z (V.fa M3 z)<|Tv z (V.I6 (k:=1) J3 z a.u z)<|Tv z (V.P6 O9 z f)<|Tv z (V.fa K3 z)<|Tv z (V.I6 (k:=0) M9 z a.u z) ?_
 obtain ⟨aI,W,H⟩:=bnd H
 refine Tp z z (SX.two (XA.fr [] Lr z) (XA.fr [] Lr z)) (O.C8 z (A3x o.u W _) z fun aJ aK aM aN X=>?_) T.Q9
 obtain ⟨rfl,Y⟩:=X
 refine I9 _ Y<|T.M6 Li<|Tv z (V.gt z z)<|T.R5 (SX.two (XA.fr [] Lr z) (XA.fr [] Lr z))<|Th<|T.cH H z (fun H=>?_) (fun H=>?_)
 ·refine Sr<|Ag z<|Ag z<|Nt<|T.ret<|Tr ?_
  obtain ⟨rfl,rfl⟩:=inj2 H
  exact T.F5 Tryz.results177 (RVs.cons (RV.tmp z) (Rv z)) Li ⟨z,z⟩
 refine T.skip<|Th<|Sr<|Ag z<|Ag z<|Nt<|T.ret ?_
 obtain ⟨rfl,rfl⟩:=inj2 H
 exact T.F5 Tryz.results177 (RVs.cons (RV.tmp z) (Rv z)) Li ⟨z,z⟩
theorem A5d {h:PH} {pc0:List Value} {p1:A8} (pr0:C9 h pc0 p1) {r_0:Int} {r_1:Int} (H:A3L p1 = some (r_0,r_1)):∀ L,H5 Tryz.prog 115 [.agg pc0.toArray] h (L) (fun v h' L'=>v = .tuple #[.int .i64 r_0,.int .i64 r_1]∧L' = L):=by
 intro L
 obtain ⟨f,g,i,m,n,rfl,s,t,w,x,e⟩:=pr0
 refine H5.enter Tryz.func115 rfl Tryz.ntmps115 rfl<|Sr<|To (O.V3 rfl rfl rfl fun ag C ai q=>Ag z<|Ag z<|Nt<|Sq<|Sr<|Vv (V.Z9 rfl q (by exact F9)) ?_)
 obtain ⟨⟨aj,ak⟩,D,H⟩:=bnd H
 refine To (O.C8 z (B9W (show C9 C [f,g,i,m,n] p1 from ⟨f,g,i,m,n,z,s.u,t.u,w.u,x.u,e.u⟩) D _) z fun am an ao ap E=>?_)
 obtain ⟨rfl,G⟩:=E
 refine I9 _ G<|Mv z<|Vv (V.ext z z)<|Vv (V.ext z z)<|Ag z<|Ag z<|Nt<|Sr<|Mv z<|Vv (V.ne z z)<|Nt<|T.cH H z (fun H=>?_) (fun H=>?_)
 ·refine Sr<|Mv z<|Mv z<|Ag z<|Ag z<|Nt<|T.ret<|Tr ?_
  obtain ⟨rfl,rfl⟩:=inj2 H
  exact T.F5 Tryz.results115 (RVs.cons (RV.tmp z) (Rv z)) Li ⟨z,z⟩
 refine T.skip<|Th<|Sr ?_
 obtain ⟨I,J,H⟩:=bnd H
 refine To (O.C8 z (B3v J _) z fun aq ar au aw K=>?_)
 obtain ⟨M,N⟩:=K
 refine I9 _ M<|Ag z<|Nt<|Sq<|Sr<|Vv (V.fa T9 z)<|Vv (V.I6 (k:=4) Q8 z q.u z)<|Vv (V.P6 S9 z e)<|Mv z<|Nt ?_
 obtain ⟨y,P,r⟩:=N7 H
 refine T.O5 (α:=Unit) [] z (fun _u=>[]) (fun _u=>L) (fun _u hh=>y = (Sum.inl ())) ?_ ?_
 ·have H:=P
  refine Bl<|T.N8 (α:=Nat×Int) [1,6,21,22] z (fun ⟨c,d⟩=>[(23,.int .i64 d)]) (fun ⟨c,d⟩=>L) (fun ⟨c,d⟩ hh=>iter (A3B p1 I) c d = some y) (fun ⟨c,d⟩=>c) (FUEL,(0:Int)) ⟨z,trivial⟩ z H ?_
  rintro ⟨c,d⟩ ax ay S
  obtain ⟨U,aA,rfl,H,o⟩:=I4 S
  refine T.norm [23,1,6,21,22] z<|T.fl ?_
  refine Sr<|Vv (V.lt z z)<|Nt<|Sq<|T.cH H z (fun H=>?_) (fun H=>?_)
  ·refine T.skip<|Th<|Sq<|Bl<|Sr<|Mv z ?_
   obtain ⟨a,A,H⟩:=bnd H
   obtain ⟨aB,W,rfl⟩:=G9.at e A
   refine Vv (V.ix S9 rfl rfl e (H6 A))<|Vv (V.Z9 rfl W.u (by exact A0k)) ?_
   refine To (O.alloc A3H z z fun aC=>Ag z<|To (O.stF (vs:=[.int .u8 a.J4,.int .i64 a.Y6,.string a.fA,.string a.fB,.string a.V7,.int .i64 a.fN]) A0k z z (j:=0) z z z z<|T.freeze fun p aD X=>have B:=AtC.of X; Nt<|Sq<|Sr<|Mv z<|Vv (V.fa A1T z)<|Vv (V.I6 (k:=0) A2P z B z) ?_))
   obtain ⟨⟨b,aE⟩,Y,H⟩:=bnd H
   obtain ⟨_,Z,rfl⟩:=Mp.look (zc:=[.string (⟨#[]⟩:ByteArray),.int .u8 (0:Int),.bool false,.int .u8 (0:Int),.bool false,.int .i64 (0:Int),.bool false,(fnV (0:Nat))]) (agg:=true) Tryz.underlying142 (A0G.int Tryz.underlying40) B1E (show K7 p [.string (⟨#[]⟩:ByteArray),.int .u8 (0:Int),.bool false,.int .u8 (0:Int),.bool false,.int .i64 (0:Int),.bool false,(fnV (0:Nat))] (I5.mk (⟨#[]⟩:ByteArray) (0:Int) false (0:Int) false (0:Int) false (0:Nat)) from rfl) N.u Y
   refine Vv (V.C7C rfl rfl Z)<|Vv (V.Z9 rfl q.u (by exact F9)) ?_
   refine Vv (V.Z9 rfl B (by exact A0k)) ?_
   obtain ⟨aG,aa,H⟩:=bnd H
   refine To (O.C8 z (C0h (show K7 p [.string b.A5E,.int .u8 b.fa,.bool b.fb,.int .u8 b.ft,.bool b.fn,.int .i64 b.flo,.bool b.C4y,(fnV b.C3D)] b from z) (show C9 p [f,g,i,m,n] p1 from ⟨f,g,i,m,n,z,s.u,t.u,w.u,x.u,e.u⟩) (show H9 p [.int .u8 a.J4,.int .i64 a.Y6,.string a.fA,.string a.fB,.string a.V7,.int .i64 a.fN] a from z) aa _) z fun aI aJ aK aM ab=>?_)
   obtain ⟨rfl,ac⟩:=ab
   refine I9 _ ac<|Ag z<|Nt<|Sr<|Mv z<|Vv (V.ne z z)<|Nt<|T.cH H z (fun H=>?_) (fun H=>?_)
   ·refine Sr<|Mv z<|Mv z<|Ag z<|Ag z<|Nt<|T.ret<|Tr<|Br<|Tr<|Tr<|have H:=D7 H o; Br<|Tr<|have H:=J5 H r; ?_
    obtain ⟨rfl,rfl⟩:=inj2 H
    exact T.F5 Tryz.results115 (RVs.cons (RV.tmp z) (Rv z)) Li ⟨z,z⟩
   refine T.skip<|Th<|Sr<|Mv z<|Vv (V.eq z z)<|Nt<|T.cH H z (fun H=>?_) (fun H=>?_)
   ·refine Sr<|Mv z<|Ag z<|Ag z<|Nt<|T.ret<|Br<|Tr<|Tr<|have H:=D7 H o; Br<|Tr<|have H:=J5 H r; ?_
    obtain ⟨rfl,rfl⟩:=inj2 H
    exact T.F5 Tryz.results115 (RVs.cons (RV.tmp z) (Rv z)) Li ⟨z,z⟩
   refine T.skip<|Bn<|Th<|Rg ?_
   obtain ⟨ad,ae,H⟩:=bnd H
   refine Vv (V.L8 z z ae)<|Mv z<|Nt<|T.again (U,ad) Li (Nat.lt_succ_self _) (G8 H o) (A9.app ⟨z,trivial⟩ ⟨z,z,z,z,trivial⟩) z
  refine T.exit<|Te<|Te<|have H:=D7 H o; Be<|Th<|T.met () Li H (A9.app trivial trivial) z
 rintro _ aN aO af
 have H:=J5 af r
 refine T.norm [] z<|T.fl ?_
 refine Sr<|Ag z<|Ag z<|Nt<|T.ret ?_
 obtain ⟨rfl,rfl⟩:=inj2 H
 exact T.F5 Tryz.results115 (RVs.cons (RV.tmp z) (Rv z)) Li ⟨z,z⟩
theorem C0I {h:PH} {k1:Int} {pp1:Addr} {pc1:List Value} {t2:A8} (pa1:AtC h pp1 pc1) (pr1:C9 h pc1 t2) {pp2:Addr} {pc2:List Value} {t13:Int} (pa2:AtC h pp2 pc2) (pr2:(VI .i64) h pc2 t13) {r_0:Bool} (H:B3X k1 t2 t13 = some r_0):∀ L,H5 Tryz.prog 121 [.int .i64 k1,.pointer (some pp1),.pointer (some pp2)] h (L) (fun v h' L'=>v = .bool r_0∧L' = L):=by
 intro L
 obtain ⟨e,f,g,i,j,rfl,a,m,n,o,p⟩:=pr1
 obtain rfl:=pr2
 refine H5.enter Tryz.func121 z Tryz.ntmps121 z<|Sr<|Ag z<|Nt<|Sr<|Vv (V.fa K3 z)<|Vv (V.I6 (k:=0) M9 z pa1 z)<|Vv (V.ld0 D9 z pa2 z)<|Mv z ?_
 obtain ⟨q,b,H⟩:=bnd H
 refine To (O.C8 z (B8c a b _) z fun r s t u c=>?_)
 obtain ⟨rfl,d⟩:=c
 refine I9 _ d<|Ag z<|Nt<|T.ret ?_
 obtain rfl:=Option.some.inj H
 exact T.F5 Tryz.results121 (Rv z) Li ⟨z,z⟩
theorem B9M {h:PH} {k1:Int} {pp1:Addr} {pc1:List Value} {t2:A8} (pa1:AtC h pp1 pc1) (pr1:C9 h pc1 t2) {pp2:Addr} {pc2:List Value} {t13:Int} (pa2:AtC h pp2 pc2) (pr2:(VI .i64) h pc2 t13) {r_0:Bool} (H:B4w k1 t2 t13 = some r_0):∀ L,H5 Tryz.prog 123 [.int .i64 k1,.pointer (some pp1),.pointer (some pp2)] h (L) (fun v h' L'=>v = .bool r_0∧L' = L):=by
 intro L
 obtain ⟨e,f,g,i,j,rfl,a,m,n,o,p⟩:=pr1
 obtain rfl:=pr2
 refine H5.enter Tryz.func123 z Tryz.ntmps123 z<|Sr<|Ag z<|Nt<|Sr<|Vv (V.fa K3 z)<|Vv (V.I6 (k:=0) M9 z pa1 z)<|Vv (V.ld0 D9 z pa2 z)<|Mv z ?_
 obtain ⟨q,b,H⟩:=bnd H
 refine To (O.C8 z (B8A a b _) z fun r s t u c=>?_)
 obtain ⟨rfl,d⟩:=c
 refine I9 _ d<|Ag z<|Nt<|T.ret ?_
 obtain rfl:=Option.some.inj H
 exact T.F5 Tryz.results123 (Rv z) Li ⟨z,z⟩
theorem C0F {h:PH} {pv0:Value} {j1:P8} (pr0:Pt M8 h pv0 j1) {from2:Int} {r_0:List (Int×Int)} (H:B7P j1 from2 = some r_0):∀ L,H5 Tryz.prog 125 [pv0,.int .i64 from2] h (L) (fun v h' L'=>∃ mb0 es0,v = .map (some mb0)∧L' = blk mb0 (.map es0.toArray es0.length)::L∧Z6 (Value.int .i64) false (VI .i64) h' 0 es0 r_0):=by
 intro L
 refine H5.enter Tryz.func125 z Tryz.ntmps125 z<|Sr<|Ag z<|Nt<|Sr<|To (O.mkM z fun a9=>have ah:Z6 (Value.int .i64) false (VI .i64) h 0 ([]:List MapEntry) ([]:List (Int×Int)):=trivial; Mv z ?_)
 obtain ⟨al,av,H⟩:=bnd H
 refine To (O.A8h (agg:=false) (E:=(VI .i64)) (cs:=[.int .i64 (0:Int)]) Tryz.underlying192 (A0G.int Tryz.underlying3) z z z (j:=0) z ah (show (VI .i64) h [.int .i64 (0:Int)] (0:Int) from z) _ (.inr z) fun az aw=>?_)
 rw [Option.some.inj av] at aw
 refine Mv z<|Ag z<|Nt<|Sq<|Sr<|Mv z<|To (O.bs D6 Q4 z (e:=z) (hk:=z) (xs:=[.tmp 16]) (hv:=CO.eq (CO.cons z CO.nil)) (hw:=O7.of z) (hd:=z) fun ba=>have bb:A7 (VI .i64) h [[.int .i64 from2]] ([from2]:List Int):=(A7.cons z A7.nil); Ag z<|Nt ?_)
 obtain ⟨ax,bc,be⟩:=N7 H
 refine T.O5 (α:=(List (Int×Int))×Nat×(List MapEntry)) [] z (fun ⟨ae,af,J⟩=>[(5,.map (some af))]) (fun ⟨ae,af,J⟩=>blk af (.map J.toArray J.length)::L) (fun ⟨ae,af,J⟩ hh=>ax = ae∧Z6 (Value.int .i64) false (VI .i64) hh 0 J ae) ?_ ?_
 ·have H:=bc
  refine Bl<|I7 1 z<|T.N8 (α:=Nat×(List (Int×Int))×(List Int)×Nat×(List MapEntry)×Value×(List (List Value))) [0] z (fun ⟨K,i,A,m,c,B,C⟩=>[(5,.map (some m)),(6,B)]) (fun ⟨K,i,A,m,c,B,C⟩=>blk m (.map c.toArray c.length)::D8 3 1 B C::L) (fun ⟨K,i,A,m,c,B,C⟩ hh=>iter (B3F j1) K (i,A) = some ax∧Z6 (Value.int .i64) false (VI .i64) hh 0 c i∧A7 (VI .i64) hh C A) (fun ⟨K,i,A,m,c,B,C⟩=>K) (FUEL,al,[from2],a9,az,(.slice (some ⟨ba,0,none⟩) 1 1),[[.int .i64 from2]]) ⟨z,z,trivial⟩ z ⟨H,aw,bb⟩ ?_
  rintro ⟨K,i,A,m,c,B,C⟩ bf bv ⟨bg,ay,M⟩
  obtain ⟨bi,bz,rfl,H,aA⟩:=I4 bg
  refine T.norm [5,6,0] z<|T.fl ?_
  refine Sq<|Sr<|Mv z<|Vv (V.A2E D6 z (j:=1) z M.len)<|Vv (V.gt z z)<|Nt<|T.cH H z (fun H=>?_) (fun H=>?_)
  ·refine T.skip<|Th<|Sq<|Bl<|Sq<|I7 1 z<|T.O8 (t:=(.v 0 (.v 1 (.v 2 (.v 3 (.v 4 (.v 5 (.v 6 (.v 7 (.v 8 (.v 9 (.v 10 (.v 11 (.v 12 (.v 13 (.v 14 (.v 15 (.v 16 (.v 17 (.v 20 (.alt 18 (.g (.v 19 .done)) .no))))))))))))))))))))) 22 1 1 rfl rfl I8 (by kernel_rfl) ?_
   refine Tm z z<|have bj:=pr0; ?_
   obtain ⟨ca,_,rfl,aB,⟨cb,cc,cd,ce,cf,cg,ci,cj,ck,cm,cn,co,cp,cq,rfl,cr,ct,cu,cw,cx,cy,cA,cB,cC,aC,aD,cD,cE,cG⟩⟩:=bj
   refine Tv z (V.U9 z)<|Tv z (V.fa A7M z)<|Tv z (V.I6 (k:=9) A0D z aB.u z)<|Tm z z ?_
   obtain ⟨cI,aE,H⟩:=bnd H
   obtain ⟨cJ,bk,rfl⟩:=A7.get M aE
   refine Tv z (Val.XA fun _ _ _=>V.ixR D6 z z (j:=0) z (A7.bd M aE))<|Tv z (Val.XA fun _ _ _=>V.ldR D9 z (j:=0) z bk z) ?_
   obtain ⟨aG,aI,H⟩:=bnd H
   obtain ⟨cK,bm,⟨aJ,rfl,aK⟩⟩:=G9.at aC aI
   refine Tv z (V.ix Q7 z z aC (H6 aI))<|Tv z (V.ld0 F4 z bm.u z)<|Tm z z<|Tv z (V.U9 z)<|Tv z (V.fa A8g z)<|Tv z (V.I6 (k:=10) A0D z aB.u z)<|Tm z z ?_
   obtain ⟨cM,aM,H⟩:=bnd H
   obtain ⟨cN,bn,rfl⟩:=A7.get M aM
   refine Tv z (Val.XA fun _ _ _=>V.ixR D6 z z (j:=0) z (A7.bd M aM))<|Tv z (Val.XA fun _ _ _=>V.ldR D9 z (j:=0) z bn z) ?_
   obtain ⟨aN,aO,H⟩:=bnd H
   obtain ⟨cO,bo,⟨aP,rfl,aS⟩⟩:=G9.at aD aO
   refine Tv z (V.ix Q7 z z aD (H6 aO))<|Tv z (V.ld0 F4 z bo.u z)<|Tm z z<|Tp z z (SX.two (XA.fr [0] Lr z) (XA.fr [0] Lr z)) (O.bs Q7 A2z z (e:=z) (hk:=z) (xs:=[.tmp 31,.tmp 40]) (hv:=CO.eq (CO.cons (G9.cells aK) (CO.cons (G9.cells aS) CO.nil))) (hw:=O7.of z) (hd:=z) fun cP=>?_) T.Q9
   have bp:A7 (VSl (VI .i64) 1) bf [[aJ],[aP]] ([aG,aN]:List (List Int)):=(A7.cons ⟨aJ,z,aK.u⟩ (A7.cons ⟨aP,z,aS.u⟩ A7.nil))
   refine T.K8 fun cS cU bq=>have an:=A7.slc bq bp.u; T.M6 Li<|Tv z (V.P6 Q7 z an)<|T.R5 (SX.two (XA.fr [0] Lr z) (XA.fr [0] Lr z))<|Th<|T.A4J ?_
   obtain ⟨aU,br,bt⟩:=N7 H
   refine T.O5 (α:=(List (Int×Int))×(List Int)×Nat×(List MapEntry)×Value×(List (List Value))) [0] z (fun ⟨N,ag,P,D,ai,G⟩=>[(5,.map (some P)),(6,ai)]) (fun ⟨N,ag,P,D,ai,G⟩=>blk P (.map D.toArray D.length)::D8 3 1 ai G::L) (fun ⟨N,ag,P,D,ai,G⟩ hh=>aU = (N,ag)∧Z6 (Value.int .i64) false (VI .i64) hh 0 D N∧A7 (VI .i64) hh G ag) ?_ ?_
   ·have H:=br
    refine Bl<|I7 1 z<|T.N8 (α:=Nat×Int×(List (Int×Int))×(List Int)×Nat×(List MapEntry)×Value×(List (List Value))) [0,41,42] z (fun ⟨S,U,n,o,p,d,q,s⟩=>[(43,.int .i64 U),(5,.map (some p)),(6,q)]) (fun ⟨S,U,n,o,p,d,q,s⟩=>blk p (.map d.toArray d.length)::D8 3 1 q s::L) (fun ⟨S,U,n,o,p,d,q,s⟩ hh=>iter (B3t aG aN) S (U,n,o) = some aU∧Z6 (Value.int .i64) false (VI .i64) hh 0 d n∧A7 (VI .i64) hh s o) (fun ⟨S,U,n,o,p,d,q,s⟩=>S) (FUEL,(0:Int),i,A,m,c,B,C) ⟨z,z,z,trivial⟩ z ⟨H,ay.u,M.u⟩ ?_
    rintro ⟨S,U,n,o,p,d,q,s⟩ cV cW ⟨bu,aV,aW⟩
    obtain ⟨bw,cX,rfl,H,aX⟩:=I4 bu
    refine T.norm [43,5,6,0,41,42] z<|T.fl ?_
    refine Sr<|Vv (V.lt z z)<|Nt<|Sq<|T.cH H z (fun H=>?_) (fun H=>?_)
    ·refine T.skip<|Th<|Sq<|Bl<|Sr ?_
     obtain ⟨bx,aY,H⟩:=bnd H
     obtain ⟨cY,bA,⟨cZ,rfl,ao⟩⟩:=G9.at an aY
     refine Vv (V.ix Q7 z z an (H6 aY))<|Vv (V.ld0 F4 z bA.u z)<|Ag z<|Nt<|Sr<|Mv z<|Vv (V.P6 D6 z ao)<|Mv z<|Nt<|T.A4J ?_
     obtain ⟨aZ,bB,bC⟩:=N7 H
     refine T.O5 (α:=(List (Int×Int))×(List Int)×Nat×(List MapEntry)×Value×(List (List Value))) [0,41,42,43] z (fun ⟨W,X,Y,I,Z,aa⟩=>[(5,.map (some Y)),(6,Z)]) (fun ⟨W,X,Y,I,Z,aa⟩=>blk Y (.map I.toArray I.length)::D8 3 1 Z aa::L) (fun ⟨W,X,Y,I,Z,aa⟩ hh=>aZ = (W,X)∧Z6 (Value.int .i64) false (VI .i64) hh 0 I W∧A7 (VI .i64) hh aa X) ?_ ?_
     ·have H:=bB
      refine Bl<|T.N8 (α:=Nat×Int×(List (Int×Int))×(List Int)×Nat×(List MapEntry)×Value×(List (List Value))) [0,41,42,43,47,48] z (fun ⟨ab,ac,w,x,a,f,y,b⟩=>[(49,.int .i64 ac),(5,.map (some a)),(6,y)]) (fun ⟨ab,ac,w,x,a,f,y,b⟩=>blk a (.map f.toArray f.length)::D8 3 1 y b::L) (fun ⟨ab,ac,w,x,a,f,y,b⟩ hh=>iter (B3g bx) ab (ac,w,x) = some aZ∧Z6 (Value.int .i64) false (VI .i64) hh 0 f w∧A7 (VI .i64) hh b x) (fun ⟨ab,ac,w,x,a,f,y,b⟩=>ab) (FUEL,(0:Int),n,o,p,d,q,s) ⟨z,z,z,trivial⟩ z ⟨H,aV,aW⟩ ?_
      rintro ⟨ab,ac,w,x,a,f,y,b⟩ aj c0 ⟨bD,ak,ad⟩
      obtain ⟨a0,c1,rfl,H,aq⟩:=I4 bD
      refine T.norm [49,5,6,0,41,42,43,47,48] z<|T.fl ?_
      refine Sr<|Vv (V.lt z z)<|Nt<|Sq<|T.cH H z (fun H=>?_) (fun H=>?_)
      ·refine T.skip<|Th<|Sq<|Bl<|Sr ?_
       obtain ⟨am,a1,H⟩:=bnd H
       obtain ⟨c2,bE,rfl⟩:=G9.at ao a1
       refine Vv (V.ix D6 z z ao (H6 a1))<|Vv (V.ld0 D9 z bE.u z)<|Ag z<|Nt<|Sr<|Mv z<|Mv z ?_
       obtain ⟨⟨c3,c4⟩,bG,H⟩:=bnd H
       obtain ⟨_,bI,rfl⟩:=Z6.lookO (r:=a) (zc:=[.int .i64 (0:Int)]) (agg:=false) Tryz.underlying192 (A0G.int Tryz.underlying3) Q4 (show (VI .i64) aj [.int .i64 (0:Int)] (0:Int) from rfl) ak bG
       refine Vv (V.lkO z z (j:=0) z bI)<|Mv z<|Vv (V.ext z z)<|Vv (V.ext z z)<|Ag z<|Ag z<|Nt<|Sr<|Mv z<|Vv (V.not z)<|Nt<|T.cH H z (fun H=>?_) (fun H=>?_)
       ·refine Sr<|Mv z<|Mv z<|Mv z<|Mv z ?_
        obtain ⟨c5,a2,H⟩:=bnd H
        obtain ⟨c6,bJ,rfl⟩:=A7.get ad a2
        refine Vv (V.ixR D6 z z (j:=1) z (A7.bd ad a2))<|Vv (V.ldR D9 z (j:=1) z bJ z) ?_
        obtain ⟨⟨c7,c8⟩,bK,H⟩:=bnd H
        obtain ⟨_,bM,rfl⟩:=Z6.lookO (r:=a) (zc:=[.int .i64 (0:Int)]) (agg:=false) Tryz.underlying192 (A0G.int Tryz.underlying3) Q4 (show (VI .i64) aj [.int .i64 (0:Int)] (0:Int) from rfl) ak bK
        refine Vv (V.C8x z z (j:=0) z bM) ?_
        obtain ⟨ar,bN,H⟩:=bnd H
        refine Vv (V.L8 z z bN) ?_
        obtain ⟨bO,bP,H⟩:=bnd H
        refine To (O.A8h (agg:=false) (E:=(VI .i64)) (cs:=[.int .i64 ar]) Tryz.underlying192 (A0G.int Tryz.underlying3) z z z (j:=0) z ak (show (VI .i64) aj [.int .i64 ar] ar from z) _ (.inl z) fun bS a3=>?_)
        rw [Option.some.inj bP] at a3
        refine Nt<|Rg<|Mv z<|Mv z<|To (O.bs D6 Q4 z (e:=z) (hk:=z) (xs:=[.tmp 70]) (hv:=CO.eq (CO.cons z CO.nil)) (hw:=O7.of z) (hd:=z) fun c9=>have au:A7 (VI .i64) aj [[.int .i64 am]] ([am]:List Int):=(A7.cons z A7.nil); ?_)
        obtain ⟨a4,a5,H⟩:=bnd H
        refine To (O.apX D6 D6 Q4 z z z (j:=2) z (Src.row (j:=0) z) (O7.of z) (A7.ones VI.plain au) ad au a5 z fun bU ch cl=>have bV:A7 (VI .i64) aj (b ++ [[.int .i64 am]]) a4:=A7.ap ad au a5; T.fl ?_)
        refine I7 1 z<|T.fl ?_
        refine T.drop<|Ag z<|Ni<|Bn<|Th<|Rg ?_
        obtain ⟨bW,bX,H⟩:=bnd H
        refine Vv (V.L8 z z bX)<|Mv z<|Nt<|I7 1 z<|T.again (a0,bW,bO,a4,a,bS,bU,(b ++ [[.int .i64 am]])) Li (Nat.lt_succ_self _) ⟨(G8 H aq),a3,bV⟩ (A9.app ⟨z,z,z,trivial⟩ ⟨z,z,z,z,z,z,trivial⟩) z
       refine T.skip<|Bn<|Th<|Rg ?_
       obtain ⟨bY,bZ,H⟩:=bnd H
       refine Vv (V.L8 z z bZ)<|Mv z<|Nt<|T.again (a0,bY,w,x,a,f,y,b) Li (Nat.lt_succ_self _) ⟨(G8 H aq),ak,ad⟩ (A9.app ⟨z,z,z,trivial⟩ ⟨z,z,z,z,z,z,trivial⟩) z
      refine T.exit<|Te<|Te<|have H:=D7 H aq; Be<|Th<|T.met (w,x,a,f,y,b) Li ⟨H,ak,ad⟩ (A9.app ⟨z,z,trivial⟩ ⟨z,z,z,z,trivial⟩) z
     rintro ⟨W,X,Y,I,Z,aa⟩ cv cz ⟨b0,b1,b2⟩
     have H:=J5 b0 bC
     refine T.norm [5,6,0,41,42,43] z<|T.fl ?_
     refine Bn<|Th<|Rg ?_
     obtain ⟨b3,b4,H⟩:=bnd H
     refine Vv (V.L8 z z b4)<|Mv z<|Nt<|T.again (bw,b3,W,X,Y,I,Z,aa) Li (Nat.lt_succ_self _) ⟨(G8 H aX),b1,b2⟩ (A9.app ⟨z,z,z,trivial⟩ ⟨z,z,z,trivial⟩) z
    refine T.exit<|Te<|Te<|have H:=D7 H aX; Be<|Th<|T.met (n,o,p,d,q,s) Li ⟨H,aV,aW⟩ (A9.app ⟨z,z,trivial⟩ ⟨z,trivial⟩) z
   rintro ⟨N,ag,P,D,ai,G⟩ b5 da ⟨b6,b7,a6⟩
   have H:=J5 b6 bt
   refine T.norm [5,6,0] z<|T.fl ?_
   refine Bn<|Th<|Rg<|Mv z ?_
   obtain ⟨a7,a8,H⟩:=bnd H
   refine To (O.slR D6 z z (j:=1) z (A7.slb a6 a8) z fun b8=>have b9:A7 (VI .i64) b5 (List.drop (1:Int).toNat G) a7:=A7.sl a6 a8; Ag z<|Nt<|I7 1 z<|T.again (bi,N,a7,P,D,b8,(List.drop (1:Int).toNat G)) Li (Nat.lt_succ_self _) ⟨(G8 H aA),b7,b9⟩ (A9.app ⟨z,z,trivial⟩ ⟨z,trivial⟩) z)
  refine T.exit<|Te<|Te<|have H:=D7 H aA; Be<|Th<|I7 1 z<|T.drop<|T.met (i,m,c) Li ⟨H,ay⟩ (A9.app ⟨z,trivial⟩ trivial) z
 rintro ⟨ae,af,J⟩ db dc ⟨bh,bl⟩
 have H:=J5 bh be
 refine T.norm [5] z<|T.fl ?_
 refine Sr<|Mv z<|Ag z<|Nt<|T.ret ?_
 obtain rfl:=Option.some.inj H
 exact T.F5 Tryz.results125 (Rv z) Li ⟨_,_,z,z,bl⟩
theorem A8d {h:PH} {pv0:Value} {j1:P8} (pr0:Pt M8 h pv0 j1) {r_0:Bool} (H:A9o j1 = some r_0):∀ L,H5 Tryz.prog 86 [pv0] h (L) (fun v h' L'=>v = .bool r_0∧L' = L):=by
 intro L
 refine H5.enter Tryz.func86 z Tryz.ntmps86 z<|Sr<|Ag z<|Nt<|Sr<|Mv z<|have a:=pr0; ?_
 obtain ⟨e,_,rfl,b,⟨f,g,i,j,m,n,o,p,q,r,s,t,u,w,rfl,x,y,A,B,C,c,D,E,G,I,J,K,M,N⟩⟩:=a
 refine Vv (V.C4S Tryz.underlying84 z)<|Mv z<|Mv z<|Vv (V.U9 z)<|Vv (V.fa A8l z)<|Vv (V.I6 (k:=5) B1o z b z)<|have d:=c; ?_
 obtain ⟨O,_,rfl,_⟩:=d
 refine Vv (V.C7Q Tryz.underlying142 z)<|Vv (V.J9 z z)<|Ag z<|Nt<|T.ret ?_
 obtain rfl:=Option.some.inj H
 exact T.F5 Tryz.results86 (Rv z) Lr ⟨z,z⟩
theorem B0O {h:PH} {pc0:List Value} {p1:A8} (pr0:C9 h pc0 p1) {r_0:Option P8} {r_1:Int} {r_2:Int} (H:B1P p1 = some (r_0,r_1,r_2)):∀ L,H5 Tryz.prog 60 [.agg pc0.toArray] h (L) (fun v h' L'=>∃ w0,v = .tuple #[w0,.int .i64 r_1,.int .i64 r_2]∧L' = L∧OPt M8 h' w0 r_0):=by
 intro L
 obtain ⟨ar,aa,ab,au,aw,rfl,ae,S,br,b9,bh⟩:=pr0
 refine H5.enter Tryz.func60 rfl Tryz.ntmps60 rfl<|Sr<|To (O.V3 rfl rfl rfl fun bl eo ji M=>Ag z<|Ag z<|Ag z<|Nt<|Sq<|Sr<|Vv (V.Z9 rfl M (by exact F9)) ?_)
 obtain ⟨⟨jj,jk⟩,ep,H⟩:=bnd H
 refine To (O.C8 z (A5d (show C9 eo [ar,aa,ab,au,aw] p1 from ⟨ar,aa,ab,au,aw,z,ae.u,S.u,br.u,b9.u,bh.u⟩) ep _) z fun jm er jn jo es=>?_)
 obtain ⟨rfl,et⟩:=es
 refine I9 _ et<|Mv z<|Vv (V.ext z z)<|Vv (V.ext z z)<|Ag z<|Ag z<|Nt<|Sr<|Mv z<|Vv (V.ne z z)<|Nt<|T.cH H z (fun H=>?_) (fun H=>?_)
 ·refine Sr<|Mv z<|Mv z<|Ag z<|Ag z<|Ag z<|Nt<|T.ret<|Tr ?_
  obtain ⟨rfl,rfl,rfl⟩:=B2G H
  exact T.F5 Tryz.results60 (RVs.cons (RV.tmp z) (RVs.cons (RV.tmp z) (Rv z))) Li ⟨_,z,z,OPt.nil⟩
 refine T.skip<|Th<|Sr<|Vv (V.Z9 rfl M.u (by exact F9)) ?_
 obtain ⟨cj,eu,H⟩:=bnd H
 refine To (O.C8 z (B1M (show C9 er [ar,aa,ab,au,aw] p1 from ⟨ar,aa,ab,au,aw,z,ae.u,S.u,br.u,b9.u,bh.u⟩) eu _) z fun jp jq jr js ew=>?_)
 obtain ⟨C,D,E,G,I,rfl,ex,cX,cY,cZ,c0,c1⟩:=ew
 refine I9 _ ex ?_
 obtain ⟨ck,ey,H⟩:=bnd H
 refine To (O.C8 z (B3v ey _) z fun J b4 jt ju eA=>?_)
 obtain ⟨eB,cm⟩:=eA
 refine I9 _ eB<|Vv (V.bld (xs:=[(0,.tmp 34),(1,.tmp 35)]) (cs:=[_,_,_,_,_,_,_,_,_,_,_,_,_,_]) C2J C3b z (F8.cons z z z (F8.cons z (Mp.cells cm) z F8.nil)))<|To (O.box z z z fun ac=>Ag z<|Nt<|Sq<|Sr<|Vv (V.fa K3 z)<|Vv (V.I6 (k:=0) M9 z M.u z)<|Vv (V.P6 O0 z ae)<|Mv z<|Nt ?_)
 obtain ⟨c2,eC,eD⟩:=N7 H
 refine T.O5 (α:=(List Int)×(List Int)×(List Bool)×(List (List Int))×(List (List Int))×Value×(List (List Value))×Value×(List (List Value))×Value×(List (List Value))×Value×(List (List Value))×Value×(List (List Value))) [1,7] z (fun ⟨ax,ay,aA,aB,aC,m,U,f,N,d,K,c,q,b,p⟩=>[]) (fun ⟨ax,ay,aA,aB,aC,m,U,f,N,d,K,c,q,b,p⟩=>blk ac (.cells [C,D,E,G,I,J,m,f,d,c,b,.slice none 0 0,.slice none 0 0,.slice none 0 0].toArray 149)::D8 3 1 m U::D8 3 1 f N::D8 4 1 d K::D8 25 1 c q::D8 25 1 b p::L) (fun ⟨ax,ay,aA,aB,aC,m,U,f,N,d,K,c,q,b,p⟩ hh=>c2 = (ax,ay,aA,aB,aC)∧A7 (VI .i64) hh U ax∧A7 (VI .i64) hh N ay∧A7 VB hh K aA∧A7 (VSl (VI .i64) 1) hh q aB∧A7 (VSl (VI .i64) 1) hh p aC) ?_ ?_
 ·have H:=eC
  refine Bl<|T.A0n 3 1<|have eE:A7 (VI .i64) b4 [] ([]:List Int):=A7.nil; T.A0n 3 1<|have eG:A7 (VI .i64) b4 [] ([]:List Int):=A7.nil; T.A0n 4 1<|have eI:A7 VB b4 [] ([]:List Bool):=A7.nil; T.A0n 25 1<|have eJ:A7 (VSl (VI .i64) 1) b4 [] ([]:List (List Int)):=A7.nil; T.A0n 25 1<|have eK:A7 (VSl (VI .i64) 1) b4 [] ([]:List (List Int)):=A7.nil; I7 1 z<|T.fl ?_
  refine I7 2 z<|T.fl ?_
  refine I7 3 z<|T.fl ?_
  refine I7 4 z<|T.fl ?_
  refine I7 5 z<|T.fl ?_
  refine T.N8 (α:=Nat×(List Int)×(List Int)×(List Bool)×(List (List Int))×(List (List Int))×Int×Value×(List (List Value))×Value×(List (List Value))×Value×(List (List Value))×Value×(List (List Value))×Value×(List (List Value))) [1,7,40] z (fun ⟨bt,aD,aE,aG,aI,aJ,W,aK,aM,aN,aO,aP,aS,aU,aV,aW,aX⟩=>[(41,.int .i64 W)]) (fun ⟨bt,aD,aE,aG,aI,aJ,W,aK,aM,aN,aO,aP,aS,aU,aV,aW,aX⟩=>blk ac (.cells [C,D,E,G,I,J,aK,aN,aP,aU,aW,.slice none 0 0,.slice none 0 0,.slice none 0 0].toArray 149)::D8 3 1 aK aM::D8 3 1 aN aO::D8 4 1 aP aS::D8 25 1 aU aV::D8 25 1 aW aX::L) (fun ⟨bt,aD,aE,aG,aI,aJ,W,aK,aM,aN,aO,aP,aS,aU,aV,aW,aX⟩ hh=>iter (B6G p1) bt (aD,aE,aG,aI,aJ,W) = some c2∧A7 (VI .i64) hh aM aD∧A7 (VI .i64) hh aO aE∧A7 VB hh aS aG∧A7 (VSl (VI .i64) 1) hh aV aI∧A7 (VSl (VI .i64) 1) hh aX aJ) (fun ⟨bt,aD,aE,aG,aI,aJ,W,aK,aM,aN,aO,aP,aS,aU,aV,aW,aX⟩=>bt) (FUEL,([]:List Int),([]:List Int),([]:List Bool),([]:List (List Int)),([]:List (List Int)),(0:Int),(.slice none 0 0),[],(.slice none 0 0),[],(.slice none 0 0),[],(.slice none 0 0),[],(.slice none 0 0),[]) ⟨z,trivial⟩ z ⟨H,eE,eG,eI,eJ,eK⟩ ?_
  rintro ⟨bt,aD,aE,aG,aI,aJ,W,aK,aM,aN,aO,aP,aS,aU,aV,aW,aX⟩ jw jx ⟨eM,c3,c4,c5,c6,c7⟩
  obtain ⟨eN,jy,rfl,H,c8⟩:=I4 eM
  refine T.norm [41,1,7,40] z<|T.fl ?_
  refine Sr<|Vv (V.lt z z)<|Nt<|Sq<|T.cH H z (fun H=>?_) (fun H=>?_)
  ·refine T.skip<|Th<|Sq<|Bl<|Sr<|Mv z<|Ag z<|Nt<|Sr<|Vv (V.fa K3 z)<|Vv (V.I6 (k:=0) M9 z M.u z)<|Mv z ?_
   obtain ⟨cn,eO,H⟩:=bnd H
   refine To (O.C8 z (A5n ae.u eO _) z fun jA eP jB jC eS=>?_)
   obtain ⟨rfl,eU⟩:=eS
   refine I9 _ eU<|Ag z<|Nt<|Sr<|Vv (V.fa K3 z)<|Vv (V.I6 (k:=0) M9 z M.u z)<|Mv z<|Mv z ?_
   obtain ⟨jD,eV,H⟩:=bnd H
   refine Vv (V.L8 z z eV) ?_
   obtain ⟨eW,c9,H⟩:=bnd H
   refine T.slM z O0 z ae.u (.inr ⟨_,_,z,z⟩) (.inr ⟨_,_,z,z⟩) (A4m c9).2 z fun eX eY jE=>?_
   have eZ:G9 E8 7 eP eX eW:=by rw [(A4m c9).1]; exact eY
   obtain ⟨e0,e1,H⟩:=bnd H
   refine To (O.C8 z (A3x eZ e1 _) z fun jG jI jJ jK e2=>?_)
   obtain ⟨rfl,e3⟩:=e2
   refine I9 _ e3<|Ag z<|Nt<|Sr<|Mv z<|To (O.alloc Q4 z z fun e4=>To (O.stF (vs:=[.int .i64 cn]) D9 z z (j:=0) z z z z<|T.fl ?_))
   refine Nt<|T.A4J ?_
   obtain ⟨ch,e5,e6⟩:=N7 H
   refine T.O5 (α:=(List Int)×(List Int)×(List Bool)×(List (List Int))×(List (List Int))×Value×(List (List Value))×Value×(List (List Value))×Value×(List (List Value))×Value×(List (List Value))×Value×(List (List Value))) [1,7,40,41] z (fun ⟨bu,bw,bx,bA,bB,bC,bD,bE,bG,bI,bJ,bK,bM,bN,bO⟩=>[]) (fun ⟨bu,bw,bx,bA,bB,bC,bD,bE,bG,bI,bJ,bK,bM,bN,bO⟩=>blk ac (.cells [C,D,E,G,I,J,bC,bE,bI,bK,bN,.slice none 0 0,.slice none 0 0,.slice none 0 0].toArray 149)::D8 3 1 bC bD::D8 3 1 bE bG::D8 4 1 bI bJ::D8 25 1 bK bM::D8 25 1 bN bO::L) (fun ⟨bu,bw,bx,bA,bB,bC,bD,bE,bG,bI,bJ,bK,bM,bN,bO⟩ hh=>ch = (bu,bw,bx,bA,bB)∧A7 (VI .i64) hh bD bu∧A7 (VI .i64) hh bG bw∧A7 VB hh bJ bx∧A7 (VSl (VI .i64) 1) hh bM bA∧A7 (VSl (VI .i64) 1) hh bO bB) ?_ ?_
   ·have H:=e5
    refine Bl<|I7 6 z<|T.fl ?_
    refine I7 6 z<|T.fl ?_
    refine I7 6 z<|T.fl ?_
    refine I7 6 z<|T.fl ?_
    refine I7 6 z<|T.fl ?_
    refine I7 6 z<|T.fl ?_
    refine T.N8 (α:=Nat×(List Int)×(List Int)×(List Bool)×(List (List Int))×(List (List Int))×Int×Value×(List (List Value))×Value×(List (List Value))×Value×(List (List Value))×Value×(List (List Value))×Value×(List (List Value))×Nat) [1,7,8,9,10,40,41] z (fun ⟨bP,a5,a6,a7,a8,a9,P,ah,af,al,ag,av,ai,az,aj,ba,ak,ad⟩=>[(11,.pointer (some ⟨ad,0,none⟩))]) (fun ⟨bP,a5,a6,a7,a8,a9,P,ah,af,al,ag,av,ai,az,aj,ba,ak,ad⟩=>blk ac (.cells [C,D,E,G,I,J,ah,al,av,az,ba,.slice none 0 0,.slice none 0 0,.slice none 0 0].toArray 149)::D8 3 1 ah af::D8 3 1 al ag::D8 4 1 av ai::D8 25 1 az aj::D8 25 1 ba ak::blk ad (.cells [.int .i64 P].toArray 3)::L) (fun ⟨bP,a5,a6,a7,a8,a9,P,ah,af,al,ag,av,ai,az,aj,ba,ak,ad⟩ hh=>iter (B6D p1 W cn e0) bP (a5,a6,a7,a8,a9,P) = some ch∧A7 (VI .i64) hh af a5∧A7 (VI .i64) hh ag a6∧A7 VB hh ai a7∧A7 (VSl (VI .i64) 1) hh aj a8∧A7 (VSl (VI .i64) 1) hh ak a9) (fun ⟨bP,a5,a6,a7,a8,a9,P,ah,af,al,ag,av,ai,az,aj,ba,ak,ad⟩=>bP) (FUEL,aD,aE,aG,aI,aJ,cn,aK,aM,aN,aO,aP,aS,aU,aV,aW,aX,e4) ⟨z,trivial⟩ z ⟨H,c3.u,c4.u,c5.u,c6.u,c7.u⟩ ?_
    rintro ⟨bP,a5,a6,a7,a8,a9,P,ah,af,al,ag,av,ai,az,aj,ba,ak,ad⟩ cl jM ⟨e7,co,cp,cq,cr,ct⟩
    obtain ⟨e8,jN,rfl,H,cv⟩:=I4 e7
    refine T.norm [11,1,7,8,9,10,40,41] z<|T.fl ?_
    refine Sq<|Sr<|Vv (V.A6h D9 z (j:=6) z z)<|Mv z<|Mv z ?_
    obtain ⟨jO,e9,H⟩:=bnd H
    refine Vv (V.L8 z z e9)<|Vv (V.lt z z)<|Nt<|T.cH H z (fun H=>?_) (fun H=>?_)
    ·refine T.skip<|Th<|Sq<|Bl<|Sr<|Mv z<|Mv z<|Vv (V.U9 z)<|Vv (V.fa A0Z z)<|Vv (V.ldO (k:=6) F4 z (j:=0) z z)<|Mv z<|To (O.bs D6 Q4 z (e:=z) (hk:=z) (xs:=[.tmp 68]) (hv:=CO.eq (CO.cons z CO.nil)) (hw:=O7.of z) (hd:=z) fun jP=>have cu:A7 (VI .i64) cl [[.int .i64 W]] ([W]:List Int):=(A7.cons z A7.nil); ?_)
     obtain ⟨cz,da,H⟩:=bnd H
     refine To (O.apX D6 D6 Q4 z z z (j:=2) z (Src.row (j:=0) z) (O7.of z) (A7.ones VI.plain cu) co cu da z fun db jS jU=>have eh:A7 (VI .i64) cl (af ++ [[.int .i64 W]]) cz:=A7.ap co cu da; T.fl ?_)
     refine I7 1 z<|T.fl ?_
     refine T.drop<|Vv (V.U9 rfl)<|Vv (V.fa A0Z rfl)<|T.M5 0 rfl fun el ev=>To (O.st (vs:=[db]) (k:=6) F4 rfl rfl (j:=1) rfl ev (by (simp only [Sl.ones,el,Bool.and_true,Bool.true_and]) <;> rfl) ?_)
     refine T.fl ?_
     refine Nt<|Sq<|I7 2 z<|T.fl ?_
     refine I7 1 z<|T.fl ?_
     refine I7 6 z<|T.fl ?_
     refine T.O8 (t:=(.v 0 (.v 1 (.v 2 (.v 3 (.x 4 (.v 5 (.v 6 (.v 7 (.alt 8 (.g (.alt 9 (.alt 10 (.g (.v 11 (.v 12 (.alt 13 .done .no)))) .no) .no)) .no)))))))))) 10 3 1 rfl rfl I8 (by kernel_rfl) ?_
     refine Tm z z<|Tm z z<|Tv z (V.U9 z)<|Tv z (V.fa B3k z)<|T.tx z z (Val.XA fun _ _ _=>V.ldO (k:=7) F4 z (j:=1) z z) z Calm.i<|Tv z (V.fa K3 z)<|Tv z (V.I6 (k:=0) M9 z M.u z)<|Tv z (Val.XA fun _ _ _=>V.A6h D9 z (j:=0) z z) ?_
     obtain ⟨bv,ez,H⟩:=bnd H
     refine Tp z z (SX.two (XA.fr [0] Lr z) (XA.fr [2,2,2] Lr z)) (O.C8 z (B9K ae.u ez _) z fun jV dc jW jX fb=>?_) T.Q9
     obtain ⟨rfl,fc⟩:=fb
     refine I9 _ fc<|T.M6 Li<|Tp z z (SX.two (XA.fr [0] Lr z) (XA.fr [2,2,2] Lr z)) (O.bs D6 Q4 z (e:=z) (hk:=z) (xs:=[.tmp 81]) (hv:=CO.eq (CO.cons z CO.nil)) (hw:=O7.of z) (hd:=z) fun jY=>?_) T.Q9
     have cw:A7 (VI .i64) dc [[.int .i64 bv]] ([bv]:List Int):=(A7.cons z A7.nil)
     obtain ⟨dd,de,H⟩:=bnd H
     refine Tp z z (SX.two (XA.fr [1] Lr z) (XA.fr [3,3,3] Lr z)) (O.apX D6 D6 Q4 z z z (j:=3) z (Src.row (j:=0) z) (O7.of z) (A7.ones VI.plain cw) cp.u cw de z fun df jZ j0=>?_) T.Q9
     have fd:A7 (VI .i64) dc (ag ++ [[.int .i64 bv]]) dd:=A7.ap cp.u cw de
     refine T.fl ?_
     refine I7 1 z<|T.fl ?_
     refine T.drop<|T.M6 Lr<|Tv z (V.U9 rfl)<|Tv z (V.fa B3k rfl)<|T.M5 0 rfl fun fe ff=>Tp z z (SX.one (XA.fr [1] Lr rfl) rfl) (O.st (vs:=[df]) (k:=7) F4 rfl rfl (j:=2) rfl ff (by (simp only [Sl.ones,fe,Bool.and_true,Bool.true_and]) <;> rfl) ?_) T.Q9
     refine T.fl ?_
     refine T.R5 (SX.one (XA.fr [2] Lr z) z)<|Th<|Sq<|I7 4 z<|T.fl ?_
     refine I7 1 z<|T.fl ?_
     refine I7 3 z<|T.fl ?_
     refine T.O8 (t:=(.v 0 (.v 1 (.v 2 (.v 3 (.x 4 (.v 5 (.v 6 (.v 7 (.alt 8 (.g (.alt 9 (.alt 10 (.g (.v 11 (.v 12 (.alt 13 .done .no)))) .no) .no)) .no)))))))))) 10 3 1 rfl rfl I8 (by kernel_rfl) ?_
     refine Tm z z<|Tm z z<|Tv z (V.U9 z)<|Tv z (V.fa B3o z)<|T.tx z z (Val.XA fun _ _ _=>V.ldO (k:=8) B6V z (j:=1) z z) z Calm.i<|Tv z (V.fa K3 z)<|Tv z (V.I6 (k:=0) M9 z M.u z)<|Tv z (Val.XA fun _ _ _=>V.A6h D9 z (j:=0) z z) ?_
     obtain ⟨bz,fg,H⟩:=bnd H
     refine Tp z z (SX.two (XA.fr [0] Lr z) (XA.fr [2,2,2] Lr z)) (O.C8 z (C1I ae.u fg _) z fun j1 dg j2 j3 fi=>?_) T.Q9
     obtain ⟨rfl,fj⟩:=fi
     refine I9 _ fj<|T.M6 Li<|Tp z z (SX.two (XA.fr [0] Lr z) (XA.fr [2,2,2] Lr z)) (O.bs A1q A6i z (e:=z) (hk:=z) (xs:=[.tmp 94]) (hv:=CO.eq (CO.cons z CO.nil)) (hw:=O7.of z) (hd:=z) fun j4=>?_) T.Q9
     have cx:A7 VB dg [[.bool bz]] ([bz]:List Bool):=(A7.cons z A7.nil)
     obtain ⟨di,dj,H⟩:=bnd H
     refine Tp z z (SX.two (XA.fr [1] Lr z) (XA.fr [3,3,3] Lr z)) (O.apX A1q A1q A6i z z z (j:=3) z (Src.row (j:=0) z) (O7.of z) (A7.ones VB.plain cx) cq.u cx dj z fun dk j5 j6=>?_) T.Q9
     have fk:A7 VB dg (ai ++ [[.bool bz]]) di:=A7.ap cq.u cx dj
     refine T.fl ?_
     refine I7 1 z<|T.fl ?_
     refine T.drop<|T.M6 Lr<|Tv z (V.U9 rfl)<|Tv z (V.fa B3o rfl)<|T.M5 0 rfl fun fm fn=>Tp z z (SX.one (XA.fr [1] Lr rfl) rfl) (O.st (vs:=[dk]) (k:=8) B6V rfl rfl (j:=2) rfl fn (by (simp only [Sl.ones,fm,Bool.and_true,Bool.true_and]) <;> rfl) ?_) T.Q9
     refine T.fl ?_
     refine T.R5 (SX.one (XA.fr [2] Lr z) z)<|Th<|Sq<|T.norm [1,7,8,9,10,11,40,41] z<|T.fl ?_
     refine I7 2 z<|T.fl ?_
     refine T.B4x fun fo j7 cy=>I7 4 z<|T.fl ?_
     refine I7 1 z<|T.fl ?_
     refine T.O8 (t:=(.v 0 (.v 1 (.v 2 (.v 3 (.x 4 (.v 5 (.v 6 (.v 7 (.alt 8 (.g (.alt 9 (.alt 10 (.g (.v 11 (.v 12 (.alt 13 .done .no)))) .no) .no)) .no)))))))))) 10 2 0 rfl rfl I8 (by kernel_rfl) ?_
     refine Tm z z<|Tm z z<|Tv z (V.U9 z)<|Tv z (V.fa A7M z)<|T.tx z z (Val.XA fun _ _ _=>V.ldO (k:=9) A0D z (j:=0) z z) z Calm.i<|Tm z z<|Tm z z<|Tv z (V.mkf z z) ?_
     obtain ⟨fp,fq,H⟩:=bnd H
     refine Tp z z (SX.two (XA.fr [] Lr z) (XA.fr [1,1] Lr z)) (O.C8 z (B3J (show A1S fo (.func (.func 121) #[] #[.pointer (some ⟨bl,0,none⟩),.pointer (some ⟨ad,0,none⟩)]) (fun cA=>B3X cA p1 P) from ⟨⟨z,z⟩,.inr ⟨121,[],[.pointer (some ⟨bl,0,none⟩),.pointer (some ⟨ad,0,none⟩)],z,fun dm j8 j9 jh fs ft=>C0I M.u (show C9 dm [ar,aa,ab,au,aw] p1 from ⟨ar,aa,ab,au,aw,z,ae.u,S.u,br.u,b9.u,bh.u⟩) cy.u (show (VI .i64) dm [.int .i64 P] P from z) fs ft⟩⟩) fq _) z fun ca jl jv jz fu=>?_) T.Q9
     obtain ⟨ka,fw,fx⟩:=fu
     refine I9 _ fw<|T.M6 Li<|T.K8 fun cB kb fy=>have dn:=A7.slc fy fx.u; Tp z z (SX.two (XA.fr [] Li z) (XA.fr [1,1] Li z)) (O.bs Q7 A2z z (e:=z) (hk:=z) (xs:=[.tmp 107]) (hv:=CO.eq (CO.cons (G9.cells dn) CO.nil)) (hw:=O7.of z) (hd:=z) fun kc=>?_) T.Q9
     have cC:A7 (VSl (VI .i64) 1) cB [[ca]] ([fp]:List (List Int)):=(A7.cons ⟨ca,z,dn⟩ A7.nil)
     obtain ⟨dp,dq,H⟩:=bnd H
     refine Tp z z (SX.two (XA.fr [] Li z) (XA.fr [2,2] Li z)) (O.apX Q7 Q7 A2z z z z (j:=2) z (Src.row (j:=0) z) (O7.of z) (A7.ones VSl.plain cC) cr.u cC dq z fun dr kd ke=>?_) T.Q9
     have fA:A7 (VSl (VI .i64) 1) cB (aj ++ [[ca]]) dp:=A7.ap cr.u cC dq
     refine T.fl ?_
     refine I7 1 z<|T.fl ?_
     refine T.drop<|T.M6 Li<|Tv z (V.U9 rfl)<|Tv z (V.fa A7M rfl)<|T.M5 0 rfl fun fB fC=>Tp z z (SX.one (XA.fr [] Lr rfl) rfl) (O.st (vs:=[dr]) (k:=9) A0D rfl rfl (j:=1) rfl fC (by (simp only [Sl.ones,fB,Bool.and_true,Bool.true_and]) <;> rfl) ?_) T.Q9
     refine T.fl ?_
     refine T.R5 (SX.one (XA.fr [] Lr z) z)<|Th<|I7 5 z<|T.fl ?_
     refine I7 1 z<|T.fl ?_
     refine T.O8 (t:=(.v 0 (.v 1 (.v 2 (.v 3 (.x 4 (.v 5 (.v 6 (.v 7 (.alt 8 (.g (.alt 9 (.alt 10 (.g (.v 11 (.v 12 (.alt 13 .done .no)))) .no) .no)) .no)))))))))) 10 2 0 rfl rfl I8 (by kernel_rfl) ?_
     refine Tm z z<|Tm z z<|Tv z (V.U9 z)<|Tv z (V.fa A8g z)<|T.tx z z (Val.XA fun _ _ _=>V.ldO (k:=10) A0D z (j:=0) z z) z Calm.i<|Tm z z<|Tm z z<|Tv z (V.mkf z z) ?_
     obtain ⟨fD,fE,H⟩:=bnd H
     refine Tp z z (SX.two (XA.fr [] Lr z) (XA.fr [1,1] Lr z)) (O.C8 z (B3J (show A1S cB (.func (.func 123) #[] #[.pointer (some ⟨bl,0,none⟩),.pointer (some ⟨ad,0,none⟩)]) (fun cA=>B4w cA p1 P) from ⟨⟨z,z⟩,.inr ⟨123,[],[.pointer (some ⟨bl,0,none⟩),.pointer (some ⟨ad,0,none⟩)],z,fun ds kf kg ki fG fI=>B9M M.u (show C9 ds [ar,aa,ab,au,aw] p1 from ⟨ar,aa,ab,au,aw,z,ae.u,S.u,br.u,b9.u,bh.u⟩) cy.u (show (VI .i64) ds [.int .i64 P] P from z) fG fI⟩⟩) fE _) z fun cb kj kk km fJ=>?_) T.Q9
     obtain ⟨kn,fK,fM⟩:=fJ
     refine I9 _ fK<|T.M6 Li<|T.K8 fun dt ko fN=>have du:=A7.slc fN fM.u; Tp z z (SX.two (XA.fr [] Li z) (XA.fr [1,1] Li z)) (O.bs Q7 A2z z (e:=z) (hk:=z) (xs:=[.tmp 120]) (hv:=CO.eq (CO.cons (G9.cells du) CO.nil)) (hw:=O7.of z) (hd:=z) fun kp=>?_) T.Q9
     have cD:A7 (VSl (VI .i64) 1) dt [[cb]] ([fD]:List (List Int)):=(A7.cons ⟨cb,z,du⟩ A7.nil)
     obtain ⟨dw,dx,H⟩:=bnd H
     refine Tp z z (SX.two (XA.fr [] Li z) (XA.fr [2,2] Li z)) (O.apX Q7 Q7 A2z z z z (j:=2) z (Src.row (j:=0) z) (O7.of z) (A7.ones VSl.plain cD) ct.u cD dx z fun dy kq kr=>?_) T.Q9
     have fO:A7 (VSl (VI .i64) 1) dt (ak ++ [[cb]]) dw:=A7.ap ct.u cD dx
     refine T.fl ?_
     refine I7 1 z<|T.fl ?_
     refine T.drop<|T.M6 Li<|Tv z (V.U9 rfl)<|Tv z (V.fa A8g rfl)<|T.M5 0 rfl fun fP fS=>Tp z z (SX.one (XA.fr [] Lr rfl) rfl) (O.st (vs:=[dy]) (k:=10) A0D rfl rfl (j:=1) rfl fS (by (simp only [Sl.ones,fP,Bool.and_true,Bool.true_and]) <;> rfl) ?_) T.Q9
     refine T.fl ?_
     refine T.R5 (SX.one (XA.fr [] Lr z) z)<|Bn<|Th<|Sq<|Sr<|Vv (V.ld0 D9 z cy.u z)<|Nt<|Rg<|To (O.alloc Q4 z z fun fU=>To (O.stF (vs:=[.int .i64 P]) D9 z z (j:=0) z z z z<|T.fl ?_))
     refine Nt<|T.norm [1,7,8,9,10,11,40,41] z<|T.fl ?_
     refine Rg<|Vv (V.A6h D9 z (j:=0) z z) ?_
     obtain ⟨dA,fV,H⟩:=bnd H
     refine Vv (V.L8 z z fV)<|To (O.stF (vs:=[.int .i64 dA]) D9 z z (j:=0) z z z z<|T.fl ?_)
     refine Nt<|I7 2 z<|T.fl ?_
     refine I7 3 z<|T.fl ?_
     refine I7 4 z<|T.fl ?_
     refine I7 5 z<|T.fl ?_
     refine I7 6 z<|T.fl ?_
     refine I7 6 z<|T.fl ?_
     exact T.again (e8,cz,dd,di,dp,dw,dA,db,(af ++ [[.int .i64 W]]),df,(ag ++ [[.int .i64 bv]]),dk,(ai ++ [[.bool bz]]),dr,(aj ++ [[ca]]),dy,(ak ++ [[cb]]),fU) Li (Nat.lt_succ_self _) ⟨(G8 H cv),eh.u,fd.u,fk.u,fA.u,fO⟩ (A9.app ⟨z,trivial⟩ ⟨z,z,z,z,z,z,z,trivial⟩) z
    refine T.exit<|Te<|Te<|have H:=D7 H cv; Be<|Th<|I7 6 z<|T.fl ?_
    refine T.drop<|T.met (a5,a6,a7,a8,a9,ah,af,al,ag,av,ai,az,aj,ba,ak) Li ⟨H,co,cp,cq,cr,ct⟩ (A9.app trivial ⟨z,z,z,z,trivial⟩) z
   rintro ⟨bu,bw,bx,bA,bB,bC,bD,bE,bG,bI,bJ,bK,bM,bN,bO⟩ ks kt ⟨fW,fX,fY,fZ,f0,f1⟩
   have H:=J5 fW e6
   refine T.norm [1,7,40,41] z<|T.fl ?_
   refine Bn<|Th<|Rg ?_
   obtain ⟨f2,f3,H⟩:=bnd H
   refine Vv (V.L8 z z f3)<|Mv z<|Nt<|T.again (eN,bu,bw,bx,bA,bB,f2,bC,bD,bE,bG,bI,bJ,bK,bM,bN,bO) Li (Nat.lt_succ_self _) ⟨(G8 H c8),fX,fY,fZ,f0,f1⟩ (A9.app ⟨z,trivial⟩ ⟨z,z,z,trivial⟩) z
  refine T.exit<|Te<|Te<|have H:=D7 H c8; Be<|Th<|T.met (aD,aE,aG,aI,aJ,aK,aM,aN,aO,aP,aS,aU,aV,aW,aX) Li ⟨H,c3,c4,c5,c6,c7⟩ (A9.app trivial ⟨z,z,trivial⟩) z
 rintro ⟨ax,ay,aA,aB,aC,m,U,f,N,d,K,c,q,b,p⟩ f4 ku ⟨f5,cE,dB,dC,dD,dE⟩
 have H:=J5 f5 eD
 refine T.norm [1,7] z<|T.fl ?_
 refine Sq<|Sr<|Mv z<|Vv (V.U9 z)<|Vv (V.fa A0Z z)<|Vv (V.ldO (k:=6) F4 z (j:=0) z z)<|Vv (V.A2E D6 z (j:=1) z cE.len)<|Mv z<|Nt ?_
 obtain ⟨dG,f6,f7⟩:=N7 H
 refine T.O5 (α:=(List (List (Int×Int)))×Value×(List (List Value))) [1,7] z (fun ⟨bS,r,am⟩=>[]) (fun ⟨bS,r,am⟩=>blk ac (.cells [C,D,E,G,I,J,m,f,d,c,b,r,.slice none 0 0,.slice none 0 0].toArray 149)::D8 3 1 m U::D8 3 1 f N::D8 4 1 d K::D8 25 1 c q::D8 25 1 b p::D8 192 1 r am::L) (fun ⟨bS,r,am⟩ hh=>dG = bS∧A7 (VMp (Value.int .i64) false (VI .i64)) hh am bS) ?_ ?_
 ·have H:=f6
  refine Bl<|T.A0n 192 1<|have f8:A7 (VMp (Value.int .i64) false (VI .i64)) f4 [] ([]:List (List (Int×Int))):=A7.nil; I7 6 z<|T.fl ?_
  refine I7 6 z<|T.fl ?_
  refine I7 6 z<|T.fl ?_
  refine I7 6 z<|T.fl ?_
  refine I7 6 z<|T.fl ?_
  refine I7 6 z<|T.fl ?_
  refine T.N8 (α:=Nat×(List (List (Int×Int)))×Int×Value×(List (List Value))) [1,7,131] z (fun ⟨bU,aY,bV,s,w⟩=>[(132,.int .i64 bV)]) (fun ⟨bU,aY,bV,s,w⟩=>blk ac (.cells [C,D,E,G,I,J,m,f,d,c,b,s,.slice none 0 0,.slice none 0 0].toArray 149)::D8 3 1 m U::D8 3 1 f N::D8 4 1 d K::D8 25 1 c q::D8 25 1 b p::D8 192 1 s w::L) (fun ⟨bU,aY,bV,s,w⟩ hh=>iter (B6Q cj ck ax ay aA aB aC) bU (aY,bV) = some dG∧A7 (VMp (Value.int .i64) false (VI .i64)) hh w aY) (fun ⟨bU,aY,bV,s,w⟩=>bU) (FUEL,([]:List (List (Int×Int))),(0:Int),(.slice none 0 0),[]) ⟨z,trivial⟩ z ⟨H,f8⟩ ?_
  rintro ⟨bU,aY,bV,s,w⟩ kw kx ⟨f9,cc⟩
  obtain ⟨fh,ky,rfl,H,dI⟩:=I4 f9
  refine T.norm [132,1,7,131] z<|T.fl ?_
  refine Sr<|Vv (V.lt z z)<|Nt<|Sq<|T.cH H z (fun H=>?_) (fun H=>?_)
  ·refine T.skip<|Th<|Sq<|Bl<|Sr<|Mv z<|Ag z<|Nt<|I7 6 z<|T.fl ?_
   refine I7 1 z<|T.fl ?_
   refine I7 6 z<|T.fl ?_
   refine I7 6 z<|T.fl ?_
   refine I7 6 z<|T.fl ?_
   refine I7 6 z<|T.fl ?_
   refine I7 6 z<|T.fl ?_
   refine T.O8 (t:=(.v 0 (.v 1 (.v 2 (.v 3 (.x 4 (.v 5 (.v 6 (.alt 7 (.g (.alt 8 (.alt 9 (.g (.v 10 (.v 11 (.alt 12 .done .no)))) .no) .no)) .no))))))))) 9 7 5 rfl rfl I8 (by kernel_rfl) ?_
   refine Tm z z<|Tm z z<|Tv z (V.U9 z)<|Tv z (V.fa A9p z)<|T.tx z z (Val.XA fun _ _ _=>V.ldO (k:=11) B4s z (j:=5) z z) z Calm.i<|Tm z z<|Tm z z<|I7 6 z<|T.fl ?_
   refine I7 5 z<|T.fl ?_
   refine I7 5 z<|T.fl ?_
   refine I7 5 z<|T.fl ?_
   refine I7 5 z<|T.fl ?_
   refine I7 5 z<|T.fl ?_
   refine I7 6 z<|T.fl ?_
   obtain ⟨aZ,fv,H⟩:=bnd H
   refine Tp z z (SX.two (XA.fr [5,5,5,5,5] Lr z) (XA.fr [6,1,6,6,6,6,6] Lr z)) (O.C8 z (H5.A2F (R:=fun v h' L'=>∃ L1_,L' = D8 3 1 m U::L1_∧(∃ L2_,L1_ = D8 3 1 f N::L2_∧(∃ L3_,L2_ = D8 4 1 d K::L3_∧(∃ L4_,L3_ = D8 25 1 c q::L4_∧(∃ L5_,L4_ = D8 25 1 b p::L5_∧(∃ L6_,L5_ = D8 192 1 s w::L6_∧(∃ (n:Nat) (a:List MapEntry),v = .map (some n)∧L6_ = blk n (.map a.toArray a.length)::L∧Z6 (Value.int .i64) false (VI .i64) h' 0 a aZ))))))) Tryz.func125 z (fun _ _ _ _ ⟨a5_,b5_,⟨a4_,b4_,⟨a3_,b3_,⟨a2_,b2_,⟨a1_,b1_,⟨a0_,b0_,⟨e_0,e_1,v_,l_,f_0⟩⟩⟩⟩⟩⟩⟩=>⟨a5_,b5_,⟨a4_,b4_,⟨a3_,b3_,⟨a2_,b2_,⟨a1_,b1_,⟨a0_,b0_,⟨e_0,e_1,v_,l_,(Z6.free VI.free f_0)⟩⟩⟩⟩⟩⟩⟩) B2W fun kA kB fz=>H5.A2F (R:=fun v h' L'=>∃ L1_,L' = D8 3 1 f N::L1_∧(∃ L2_,L1_ = D8 4 1 d K::L2_∧(∃ L3_,L2_ = D8 25 1 c q::L3_∧(∃ L4_,L3_ = D8 25 1 b p::L4_∧(∃ L5_,L4_ = D8 192 1 s w::L5_∧(∃ (n:Nat) (a:List MapEntry),v = .map (some n)∧L5_ = blk n (.map a.toArray a.length)::L∧Z6 (Value.int .i64) false (VI .i64) h' 0 a aZ)))))) Tryz.func125 z (fun _ _ _ _ ⟨a4_,b4_,⟨a3_,b3_,⟨a2_,b2_,⟨a1_,b1_,⟨a0_,b0_,⟨e_0,e_1,v_,l_,f_0⟩⟩⟩⟩⟩⟩=>⟨a4_,b4_,⟨a3_,b3_,⟨a2_,b2_,⟨a1_,b1_,⟨a0_,b0_,⟨e_0,e_1,v_,l_,(Z6.free VI.free f_0)⟩⟩⟩⟩⟩⟩) Y4 fun kC kD ga=>H5.A2F (R:=fun v h' L'=>∃ L1_,L' = D8 4 1 d K::L1_∧(∃ L2_,L1_ = D8 25 1 c q::L2_∧(∃ L3_,L2_ = D8 25 1 b p::L3_∧(∃ L4_,L3_ = D8 192 1 s w::L4_∧(∃ (n:Nat) (a:List MapEntry),v = .map (some n)∧L4_ = blk n (.map a.toArray a.length)::L∧Z6 (Value.int .i64) false (VI .i64) h' 0 a aZ))))) Tryz.func125 z (fun _ _ _ _ ⟨a3_,b3_,⟨a2_,b2_,⟨a1_,b1_,⟨a0_,b0_,⟨e_0,e_1,v_,l_,f_0⟩⟩⟩⟩⟩=>⟨a3_,b3_,⟨a2_,b2_,⟨a1_,b1_,⟨a0_,b0_,⟨e_0,e_1,v_,l_,(Z6.free VI.free f_0)⟩⟩⟩⟩⟩) Y4 fun kE kG gb=>H5.A2F (R:=fun v h' L'=>∃ L1_,L' = D8 25 1 c q::L1_∧(∃ L2_,L1_ = D8 25 1 b p::L2_∧(∃ L3_,L2_ = D8 192 1 s w::L3_∧(∃ (n:Nat) (a:List MapEntry),v = .map (some n)∧L3_ = blk n (.map a.toArray a.length)::L∧Z6 (Value.int .i64) false (VI .i64) h' 0 a aZ)))) Tryz.func125 z (fun _ _ _ _ ⟨a2_,b2_,⟨a1_,b1_,⟨a0_,b0_,⟨e_0,e_1,v_,l_,f_0⟩⟩⟩⟩=>⟨a2_,b2_,⟨a1_,b1_,⟨a0_,b0_,⟨e_0,e_1,v_,l_,(Z6.free VI.free f_0)⟩⟩⟩⟩) Y4 fun kI kJ gc=>H5.A2F (R:=fun v h' L'=>∃ L1_,L' = D8 25 1 b p::L1_∧(∃ L2_,L1_ = D8 192 1 s w::L2_∧(∃ (n:Nat) (a:List MapEntry),v = .map (some n)∧L2_ = blk n (.map a.toArray a.length)::L∧Z6 (Value.int .i64) false (VI .i64) h' 0 a aZ))) Tryz.func125 z (fun _ _ _ _ ⟨a1_,b1_,⟨a0_,b0_,⟨e_0,e_1,v_,l_,f_0⟩⟩⟩=>⟨a1_,b1_,⟨a0_,b0_,⟨e_0,e_1,v_,l_,(Z6.free VI.free f_0)⟩⟩⟩) Y4 fun kK kM gd=>H5.A2F (R:=fun v h' L'=>∃ L1_,L' = D8 192 1 s w::L1_∧(∃ (n:Nat) (a:List MapEntry),v = .map (some n)∧L1_ = blk n (.map a.toArray a.length)::L∧Z6 (Value.int .i64) false (VI .i64) h' 0 a aZ)) Tryz.func125 z (fun _ _ _ _ ⟨a0_,b0_,⟨e_0,e_1,v_,l_,f_0⟩⟩=>⟨a0_,b0_,⟨e_0,e_1,v_,l_,(Z6.free VI.free f_0)⟩⟩) Y4 fun kN kO ge=>H5.A2F (R:=fun v h' L'=>∃ (n:Nat) (a:List MapEntry),v = .map (some n)∧L' = blk n (.map a.toArray a.length)::L∧Z6 (Value.int .i64) false (VI .i64) h' 0 a aZ) Tryz.func125 z (fun _ _ _ _ ⟨e_0,e_1,v_,l_,f_0⟩=>⟨e_0,e_1,v_,l_,(Z6.free VI.free f_0)⟩) Y4 fun gf kP gg=>?_) z fun kS kU kV kW gi=>?_) T.Q9
   ·have gj:=A7.slc ga cE.u
    have gk:=A7.slc gb dB.u
    have gm:=A7.slc gc dC.u
    have gn:=A7.slc gd dD.u
    have go:=A7.slc ge dE.u
    have gp:=A7.slc gg cc.u
    exact C0F (Pt.mk fz.u (show M8 gf [C,D,E,G,I,J,m,f,d,c,b,s,.slice none 0 0,.slice none 0 0] (P8.mk cj ck ax ay aA aB aC aY ([]:List (List Bool)) ([]:List (List Int))) from ⟨C,D,E,G,I,J,m,f,d,c,b,s,(.slice none 0 0),(.slice none 0 0),z,cX.u,cY.u,cZ.u,c0.u,c1.u,cm.u,gj.u,gk.u,gm.u,gn.u,go.u,gp,G9.nil,G9.nil⟩)) fv _
   obtain ⟨_,rfl,⟨_,rfl,⟨_,rfl,⟨_,rfl,⟨_,rfl,⟨_,rfl,⟨_,rfl,⟨cd,kX,rfl,rfl,gq⟩⟩⟩⟩⟩⟩⟩⟩:=gi
   refine T.fl ?_
   refine T.M6 Li<|I7 7 z<|T.fl ?_
   refine T.C3Y VI.mono gq fun dJ kY dK=>Tp z z (SX.two (XA.fr [5,5,5,5,5] Li z) (XA.fr [6,1,6,6,6,6,6] Li z)) (O.bs A9y B6z z (e:=z) (hk:=z) (xs:=[.tmp 142]) (hv:=CO.eq (CO.cons (Mp.cells dK) CO.nil)) (hw:=O7.of z) (hd:=z) fun kZ=>?_) T.Q9
   have cG:A7 (VMp (Value.int .i64) false (VI .i64)) dJ [[(.map (some cd))]] ([aZ]:List (List (Int×Int))):=(A7.cons ⟨(.map (some cd)),z,dK⟩ A7.nil)
   obtain ⟨dM,dN,H⟩:=bnd H
   refine Tp z z (SX.two (XA.fr [6,6,6,6,6] Li z) (XA.fr [7,2,7,7,7,7,7] Li z)) (O.apX A9y A9y B6z z z z (j:=7) z (Src.row (j:=0) z) (O7.of z) (A7.ones VMp.plain cG) cc.u cG dN z fun dO k0 k1=>?_) T.Q9
   have gr:A7 (VMp (Value.int .i64) false (VI .i64)) dJ (w ++ [[(.map (some cd))]]) dM:=A7.ap cc.u cG dN
   refine T.fl ?_
   refine I7 1 z<|T.fl ?_
   refine T.drop<|T.M6 Li<|Tv z (V.U9 rfl)<|Tv z (V.fa A9p rfl)<|T.M5 0 rfl fun gs gu=>Tp z z (SX.one (XA.fr [6,6,6,6,6] Lr rfl) rfl) (O.st (vs:=[dO]) (k:=11) B4s rfl rfl (j:=1) rfl gu (by (simp only [Sl.ones,gs,Bool.and_true,Bool.true_and]) <;> rfl) ?_) T.Q9
   refine T.fl ?_
   refine T.R5 (SX.one (XA.fr [6,6,6,6,6] Lr z) z)<|Bn<|Th<|Rg ?_
   obtain ⟨gw,gx,H⟩:=bnd H
   refine Vv (V.L8 z z gx)<|Mv z<|Nt<|I7 1 z<|T.fl ?_
   refine I7 6 z<|T.fl ?_
   refine I7 6 z<|T.fl ?_
   refine I7 6 z<|T.fl ?_
   refine I7 6 z<|T.fl ?_
   refine I7 6 z<|T.fl ?_
   refine I7 6 z<|T.fl ?_
   exact T.again (fh,dM,gw,dO,(w ++ [[(.map (some cd))]])) Li (Nat.lt_succ_self _) ⟨(G8 H dI),gr⟩ (A9.app ⟨z,trivial⟩ ⟨z,z,z,trivial⟩) z
  refine T.exit<|Te<|Te<|have H:=D7 H dI; Be<|Th<|T.met (aY,s,w) Li ⟨H,cc⟩ (A9.app trivial ⟨z,z,trivial⟩) z
 rintro ⟨bS,r,am⟩ gy k2 ⟨gA,gB⟩
 have H:=J5 gA f7
 refine T.norm [1,7] z<|T.fl ?_
 refine Sr<|Vv (V.fa M3 z)<|Vv (V.I6 (k:=1) J3 z M.u z)<|Vv (V.fa Y3 z)<|Vv (V.I6 (k:=2) Q0 z M.u z)<|Vv (V.bld (xs:=[(0,.tmp 150),(1,.tmp 152)]) (cs:=[_,_]) B1B B0E z (F8.cons z (G9.cells S) z (F8.cons z (G9.cells br) z F8.nil))) ?_
 obtain ⟨⟨gC,k3,k4⟩,gD,H⟩:=bnd H
 refine To (O.C8 z (B3H (show A2X gy [aa,ab] (V6.mk p1.F3 p1.J8) from ⟨aa,ab,z,S.u,br.u⟩) gD _) z fun k5 dP k6 k7 gE=>?_)
 obtain ⟨gG,rfl,gI,gJ⟩:=gE
 refine I9 _ gI<|Mv z<|Vv (V.ext z z)<|Vv (V.ext z z)<|Vv (V.ext z z)<|Ag z<|Ag z<|Ag z<|Nt<|Sq<|Sr<|Vv (V.fa M3 z)<|Vv (V.I6 (k:=1) J3 z M.u z)<|Vv (V.P6 O9 z S)<|Mv z<|Nt ?_
 obtain ⟨dS,gK,gM⟩:=N7 H
 refine T.O5 (α:=(List (List Bool))×(List (List Int))×Value×(List (List Value))×Value×(List (List Value))) [7] z (fun ⟨bW,bX,bb,b5,bc,b6⟩=>[]) (fun ⟨bW,bX,bb,b5,bc,b6⟩=>blk ac (.cells [C,D,E,G,I,J,m,f,d,c,b,r,bb,bc].toArray 149)::D8 3 1 m U::D8 3 1 f N::D8 4 1 d K::D8 25 1 c q::D8 25 1 b p::D8 192 1 r am::D8 143 1 bb b5::D8 197 1 bc b6::L) (fun ⟨bW,bX,bb,b5,bc,b6⟩ hh=>dS = (bW,bX)∧A7 (VSl VB 1) hh b5 bW∧A7 (VSl (VI .u8) 1) hh b6 bX) ?_ ?_
 ·have H:=gK
  refine Bl<|T.A0n 143 1<|have gN:A7 (VSl VB 1) dP [] ([]:List (List Bool)):=A7.nil; T.A0n 197 1<|have gO:A7 (VSl (VI .u8) 1) dP [] ([]:List (List Int)):=A7.nil; I7 1 z<|T.fl ?_
  refine I7 8 z<|T.fl ?_
  refine I7 8 z<|T.fl ?_
  refine I7 8 z<|T.fl ?_
  refine I7 8 z<|T.fl ?_
  refine I7 8 z<|T.fl ?_
  refine I7 8 z<|T.fl ?_
  refine I7 8 z<|T.fl ?_
  refine T.N8 (α:=Nat×(List (List Bool))×(List (List Int))×(Option J2)×Int×Value×(List (List Value))×Value×(List (List Value))×Value) [1,7,159,160] z (fun ⟨bY,bd,be,bf,bZ,X,y,Y,A,bg⟩=>[(13,bg),(161,.int .i64 bZ)]) (fun ⟨bY,bd,be,bf,bZ,X,y,Y,A,bg⟩=>blk ac (.cells [C,D,E,G,I,J,m,f,d,c,b,r,X,Y].toArray 149)::D8 3 1 m U::D8 3 1 f N::D8 4 1 d K::D8 25 1 c q::D8 25 1 b p::D8 192 1 r am::D8 143 1 X y::D8 197 1 Y A::L) (fun ⟨bY,bd,be,bf,bZ,X,y,Y,A,bg⟩ hh=>iter (B6S p1) bY (bd,be,bf,bZ) = some dS∧A7 (VSl VB 1) hh y bd∧A7 (VSl (VI .u8) 1) hh A be∧OPt A0g hh bg bf) (fun ⟨bY,bd,be,bf,bZ,X,y,Y,A,bg⟩=>bY) (FUEL,([]:List (List Bool)),([]:List (List Int)),gC,(0:Int),(.slice none 0 0),[],(.slice none 0 0),[],gG) ⟨z,z,trivial⟩ z ⟨H,gN,gO,gJ⟩ ?_
  rintro ⟨bY,bd,be,bf,bZ,X,y,Y,A,bg⟩ k8 k9 ⟨gP,bi,bj,gS⟩
  obtain ⟨cI,kh,rfl,H,ce⟩:=I4 gP
  refine T.norm [13,161,1,7,159,160] z<|T.fl ?_
  refine Sr<|Vv (V.lt z z)<|Nt<|Sq<|T.cH H z (fun H=>?_) (fun H=>?_)
  ·refine T.skip<|Th<|Sq<|Bl<|Sr ?_
   obtain ⟨an,dU,H⟩:=bnd H
   obtain ⟨kl,gU,⟨gV,rfl,gW⟩⟩:=G9.at S dU
   refine Vv (V.ix O9 rfl rfl S (H6 dU))<|Vv (V.Z9 rfl gU.u (by exact A0p)) ?_
   refine To (O.alloc A2s rfl rfl fun kv=>To (O.stF (vs:=[.string an.H7,.string an.Y0,.string an.Q5,.int .i64 an.Q6,.int .i64 an.U5,.string an.V8,.bool an.A0e,.bool an.Q3,gV]) A0p rfl rfl (j:=0) rfl rfl (by (simp only [Sl.ones,G9.one gW,Bool.and_true,Bool.true_and]) <;> rfl) rfl ?_))
   refine T.fl ?_
   refine T.freeze fun dV kz gX=>have dW:=AtC.of gX; Nt<|Sr<|Ag z<|Nt<|Sr<|Ag z<|Nt<|Sq<|Sr<|Vv (V.fa M3 z)<|Vv (V.I6 (k:=1) J3 z M.u z)<|Vv (V.P6 O9 z S)<|Mv z<|Nt ?_
   obtain ⟨dX,gY,gZ⟩:=N7 H
   refine T.O5 (α:=(Option J2)×(List Bool)×(List Int)×Value×Value×(List (List Value))×Value×(List (List Value))) [1,7,159,160,161] z (fun ⟨a0,bk,a1,a2,B,b7,o,b8⟩=>[(13,a2),(18,B),(19,o)]) (fun ⟨a0,bk,a1,a2,B,b7,o,b8⟩=>blk ac (.cells [C,D,E,G,I,J,m,f,d,c,b,r,X,Y].toArray 149)::D8 3 1 m U::D8 3 1 f N::D8 4 1 d K::D8 25 1 c q::D8 25 1 b p::D8 192 1 r am::D8 143 1 X y::D8 197 1 Y A::D8 4 1 B b7::D8 172 1 o b8::L) (fun ⟨a0,bk,a1,a2,B,b7,o,b8⟩ hh=>dX = (a0,bk,a1)∧OPt A0g hh a2 a0∧A7 VB hh b7 bk∧A7 (VI .u8) hh b8 a1) ?_ ?_
   ·have H:=gY
    refine Bl<|T.A0n 4 1<|have g0:A7 VB dV [] ([]:List Bool):=A7.nil; T.A0n 172 1<|have g1:A7 (VI .u8) dV [] ([]:List Int):=A7.nil; I7 1 z<|T.fl ?_
    refine I7 10 z<|T.fl ?_
    refine I7 10 z<|T.fl ?_
    refine I7 10 z<|T.fl ?_
    refine I7 10 z<|T.fl ?_
    refine I7 10 z<|T.fl ?_
    refine I7 10 z<|T.fl ?_
    refine I7 10 z<|T.fl ?_
    refine I7 10 z<|T.fl ?_
    refine I7 10 z<|T.fl ?_
    refine T.N8 (α:=Nat×(Option J2)×Int×(List Bool)×(List Int)×Value×Value×(List (List Value))×Value×(List (List Value))) [1,7,17,159,160,161,166,167] z (fun ⟨b0,bm,b1,bn,bo,a3,bp,ao,bq,aq⟩=>[(13,a3),(168,.int .i64 b1),(18,bp),(19,bq)]) (fun ⟨b0,bm,b1,bn,bo,a3,bp,ao,bq,aq⟩=>blk ac (.cells [C,D,E,G,I,J,m,f,d,c,b,r,X,Y].toArray 149)::D8 3 1 m U::D8 3 1 f N::D8 4 1 d K::D8 25 1 c q::D8 25 1 b p::D8 192 1 r am::D8 143 1 X y::D8 197 1 Y A::D8 4 1 bp ao::D8 172 1 bq aq::L) (fun ⟨b0,bm,b1,bn,bo,a3,bp,ao,bq,aq⟩ hh=>iter (B7g p1 an) b0 (bm,b1,bn,bo) = some dX∧OPt A0g hh a3 bm∧A7 VB hh ao bn∧A7 (VI .u8) hh aq bo) (fun ⟨b0,bm,b1,bn,bo,a3,bp,ao,bq,aq⟩=>b0) (FUEL,bf,(0:Int),([]:List Bool),([]:List Int),bg,(.slice none 0 0),[],(.slice none 0 0),[]) ⟨z,z,z,z,trivial⟩ z ⟨H,gS.u,g0,g1⟩ ?_
    rintro ⟨b0,bm,b1,bn,bo,a3,bp,ao,bq,aq⟩ ma mb ⟨g2,dY,cJ,cK⟩
    obtain ⟨g3,mc,rfl,H,dZ⟩:=I4 g2
    refine T.norm [13,168,18,19,1,7,17,159,160,161,166,167] z<|T.fl ?_
    refine Sr<|Vv (V.lt z z)<|Nt<|Sq<|T.cH H z (fun H=>?_) (fun H=>?_)
    ·refine T.skip<|Th<|Sq<|Bl<|Sr ?_
     obtain ⟨a4,d0,H⟩:=bnd H
     obtain ⟨md,g4,⟨g5,rfl,g6⟩⟩:=G9.at S d0
     refine Vv (V.ix O9 rfl rfl S (H6 d0))<|Vv (V.Z9 rfl g4.u (by exact A0p)) ?_
     refine To (O.alloc A2s rfl rfl fun me=>To (O.stF (vs:=[.string a4.H7,.string a4.Y0,.string a4.Q5,.int .i64 a4.Q6,.int .i64 a4.U5,.string a4.V8,.bool a4.A0e,.bool a4.Q3,g5]) A0p rfl rfl (j:=0) rfl rfl (by (simp only [Sl.ones,G9.one g6,Bool.and_true,Bool.true_and]) <;> rfl) rfl ?_))
     refine T.fl ?_
     refine T.freeze fun mf mg g7=>have d1:=AtC.of g7; Nt<|Sr<|Mv z<|Mv z<|Vv (V.fa A0a z)<|Vv (V.I6 (k:=0) F6 z dW.u z)<|Vv (V.fa A0a z)<|Vv (V.I6 (k:=0) F6 z d1 z) ?_
     obtain ⟨g8,g9,H⟩:=bnd H
     have cM:=OPt.get dY g9
     obtain ⟨cf,gh,H⟩:=bnd H
     refine To (O.C8 z (B8p cM.u gh _) z fun mi d2 mj mm gl=>?_)
     obtain ⟨mn,gv,gz⟩:=gl
     refine I9 _ gv<|Vv (V.A2E A0U z (j:=0) z gz.len)<|Vv (V.gt z z)<|To (O.bs A1q A6i z (e:=z) (hk:=z) (xs:=[.tmp 180]) (hv:=CO.eq (CO.cons z CO.nil)) (hw:=O7.of z) (hd:=z) fun mo=>have cN:A7 VB d2 [[.bool (decide ((0:Int) < (cf.length:Int)))]] ([decide ((0:Int) < (cf.length:Int))]:List Bool):=(A7.cons z A7.nil); ?_)
     obtain ⟨d3,d4,H⟩:=bnd H
     refine To (O.apX A1q A1q A6i z z z (j:=11) z (Src.row (j:=0) z) (O7.of z) (A7.ones VB.plain cN) cJ.u cN d4 z fun ia mp mq=>have ib:A7 VB d2 (ao ++ [[.bool (decide ((0:Int) < (cf.length:Int)))]]) d3:=A7.ap cJ.u cN d4; T.fl ?_)
     refine I7 1 z<|T.fl ?_
     refine T.drop<|Ag z<|Nt<|Sr<|Mv z<|Vv (V.fa A0a z)<|Vv (V.I6 (k:=0) F6 z dW.u z)<|Vv (V.fa A0a z)<|Vv (V.I6 (k:=0) F6 z d1.u z) ?_
     obtain ⟨⟨cg,mr⟩,ic,H⟩:=bnd H
     refine To (O.C8 z (C2o cM.u ic _) z fun ms d5 mt mu id=>?_)
     obtain ⟨rfl,ie⟩:=id
     refine I9 _ ie<|Mv z<|Vv (V.ext z z)<|Vv (V.ext z z)<|Ag z<|Ag z<|Nt<|Rg<|Mv z<|Mv z<|To (O.bs B2k B7a z (e:=z) (hk:=z) (xs:=[.tmp 193]) (hv:=CO.eq (CO.cons z CO.nil)) (hw:=O7.of z) (hd:=z) fun mw=>have cO:A7 (VI .u8) d5 [[.int .u8 cg]] ([cg]:List Int):=(A7.cons z A7.nil); ?_)
     obtain ⟨d6,d7,H⟩:=bnd H
     refine To (O.apX B2k B2k B7a z z z (j:=12) z (Src.row (j:=0) z) (O7.of z) (A7.ones VI.plain cO) cK.u cO d7 z fun ig mx my=>have ii:A7 (VI .u8) d5 (aq ++ [[.int .u8 cg]]) d6:=A7.ap cK.u cO d7; T.fl ?_)
     refine I7 1 z<|T.fl ?_
     refine T.drop<|Ag z<|Ni<|Bn<|Th<|T.norm [1,7,13,17,18,19,159,160,161,166,167,168] z<|T.fl ?_
     refine Rg ?_
     obtain ⟨ij,ik,H⟩:=bnd H
     refine Vv (V.L8 z z ik)<|Mv z<|Nt<|I7 2 z<|T.fl ?_
     refine T.drop<|I7 1 z<|T.fl ?_
     refine I7 10 z<|T.fl ?_
     refine I7 10 z<|T.fl ?_
     refine I7 10 z<|T.fl ?_
     refine I7 10 z<|T.fl ?_
     refine I7 10 z<|T.fl ?_
     refine I7 10 z<|T.fl ?_
     refine I7 10 z<|T.fl ?_
     refine I7 10 z<|T.fl ?_
     refine I7 10 z<|T.fl ?_
     exact T.again (g3,(some g8),ij,d3,d6,a3,ia,(ao ++ [[.bool (decide ((0:Int) < (cf.length:Int)))]]),ig,(aq ++ [[.int .u8 cg]])) Li (Nat.lt_succ_self _) ⟨(G8 H dZ),(OPt.some cM.u),ib.u,ii⟩ (A9.app ⟨z,z,z,z,trivial⟩ ⟨z,z,z,z,z,z,z,z,trivial⟩) z
    refine T.exit<|Te<|Te<|have H:=D7 H dZ; Be<|Th<|T.met (bm,bn,bo,a3,bp,ao,bq,aq) Li ⟨H,dY,cJ,cK⟩ (A9.app ⟨z,z,z,trivial⟩ ⟨z,z,z,z,z,trivial⟩) z
   rintro ⟨a0,bk,a1,a2,B,b7,o,b8⟩ mA mB ⟨im,cP,io,ip⟩
   have H:=J5 im gZ
   refine T.norm [13,18,19,1,7,159,160,161] z<|T.fl ?_
   refine I7 9 z<|T.fl ?_
   refine T.K8 fun mC mD iq=>have ci:=A7.slc iq io.u; I7 9 z<|T.fl ?_
   refine T.K8 fun Z mE ir=>have b2:=A7.slc ir ip.u; T.O8 (t:=(.v 0 (.v 1 (.v 2 (.v 3 (.v 4 (.x 5 (.v 6 (.v 9 (.v 10 (.v 11 (.x 12 (.v 13 (.alt 7 (.alt 8 (.g (.alt 14 (.alt 15 (.g (.v 16 (.v 17 (.alt 18 (.g (.v 19 (.v 20 (.alt 21 .done .no)))) .no)))) .no) .no)) (.alt 14 (.alt 8 (.g (.alt 15 (.g (.v 16 (.v 17 (.alt 18 (.g (.v 19 (.v 20 (.alt 21 .done .no)))) .no)))) .no)) .no) .no)) (.alt 14 (.alt 7 (.alt 8 (.g (.alt 15 (.g (.v 16 (.v 17 (.alt 18 (.g (.v 19 (.v 20 (.alt 21 .done .no)))) .no)))) .no)) .no) .no) .no))))))))))))))) 18 1 0 rfl rfl I8 (by kernel_rfl) ?_
   refine Tm z z<|Tm z z<|Tm z z<|Tv z (V.U9 z)<|Tv z (V.fa A5m z)<|T.tx z z (Val.XA fun _ _ _=>V.ldO (k:=12) A7H z (j:=0) z z) z Calm.i<|Tm z z<|Tm z z<|Tv z (V.U9 z)<|Tv z (V.fa A5o z)<|T.tx z z (Val.XA fun _ _ _=>V.ldO (k:=13) A7r z (j:=0) z z) z Calm.i<|Tm z z<|T.C6a ?_ ?_
   ·refine Tp z z (SX.two (XA.fr [] Lr z) (XA.fr [0] Lr z)) (O.bs A2m A5C z (e:=z) (hk:=z) (xs:=[.tmp 203]) (hv:=CO.eq (CO.cons (G9.cells ci) CO.nil)) (hw:=O7.of z) (hd:=z) fun mG=>?_) T.Q9
    have b3:A7 (VSl VB 1) Z [[B]] ([bk]:List (List Bool)):=(A7.cons ⟨B,z,ci.u⟩ A7.nil)
    refine T.C6a ?_ ?_
    ·obtain ⟨d8,d9,H⟩:=bnd H
     refine Tp z z (SX.two (XA.fr [] Lr z) (XA.fr [1] Lr z)) (O.apX A2m A2m A5C z z z (j:=8) z (Src.row (j:=0) z) (O7.of z) (A7.ones VSl.plain b3) bi.u b3 d9 z fun dh mI mJ=>?_) T.Q9
     have it:A7 (VSl VB 1) Z (y ++ [[B]]) d8:=A7.ap bi.u b3 d9
     refine T.fl ?_
     refine I7 1 z<|T.fl ?_
     refine T.drop<|T.M6 Lr<|Tp z z (SX.two (XA.fr [] Lr z) (XA.fr [1] Lr z)) (O.bs A1V A3U z (e:=z) (hk:=z) (xs:=[.tmp 210]) (hv:=CO.eq (CO.cons (G9.cells b2) CO.nil)) (hw:=O7.of z) (hd:=z) fun mK=>?_) T.Q9
     have cS:A7 (VSl (VI .u8) 1) Z [[o]] ([a1]:List (List Int)):=(A7.cons ⟨o,z,b2⟩ A7.nil)
     obtain ⟨dl,dv,H⟩:=bnd H
     refine Tp z z (SX.two (XA.fr [] Lr z) (XA.fr [2] Lr z)) (O.apX A1V A1V A3U z z z (j:=9) z (Src.row (j:=0) z) (O7.of z) (A7.ones VSl.plain cS) bj.u cS dv z fun dz mM mN=>?_) T.Q9
     have iu:A7 (VSl (VI .u8) 1) Z (A ++ [[o]]) dl:=A7.ap bj.u cS dv
     refine T.fl ?_
     refine I7 1 z<|T.fl ?_
     refine T.drop<|T.M6 Lr<|Tv z (V.U9 rfl)<|Tv z (V.fa A5m rfl)<|T.M5 1 rfl fun iw iy=>Tp z z (SX.two (XA.fr [] Lr rfl) (XA.fr [2] Lr rfl)) (O.st (vs:=[dh]) (k:=12) A7H rfl rfl (j:=2) rfl iy (by (simp only [Sl.ones,iw,Bool.and_true,Bool.true_and]) <;> rfl) ?_) T.Q9
     refine T.fl ?_
     refine T.M6 Lr<|Tv z (V.U9 rfl)<|Tv z (V.fa A5o rfl)<|T.M5 1 rfl fun iA iB=>Tp z z (SX.one (XA.fr [] Lr rfl) rfl) (O.st (vs:=[dz]) (k:=13) A7r rfl rfl (j:=0) rfl iB (by (simp only [Sl.ones,iA,Bool.and_true,Bool.true_and]) <;> rfl) ?_) T.Q9
     refine T.fl ?_
     refine T.R5 (SX.one (XA.fr [] Lr z) z)<|Bn<|Th<|Rg ?_
     obtain ⟨iC,iD,H⟩:=bnd H
     refine Vv (V.L8 z z iD)<|Mv z<|Nt<|I7 1 z<|T.fl ?_
     refine I7 2 z<|T.fl ?_
     refine I7 8 z<|T.fl ?_
     refine I7 8 z<|T.fl ?_
     refine I7 8 z<|T.fl ?_
     refine I7 8 z<|T.fl ?_
     refine I7 8 z<|T.fl ?_
     refine I7 8 z<|T.fl ?_
     refine I7 8 z<|T.fl ?_
     exact T.again (cI,d8,dl,a0,iC,dh,(y ++ [[B]]),dz,(A ++ [[o]]),a2) Li (Nat.lt_succ_self _) ⟨(G8 H ce),it,iu,cP.u⟩ (A9.app ⟨z,z,trivial⟩ ⟨z,z,z,z,trivial⟩) z
    refine Tp z z (SX.two (XA.fr [] Lr z) (XA.fr [1] Lr z)) (O.bs A1V A3U z (e:=z) (hk:=z) (xs:=[.tmp 210]) (hv:=CO.eq (CO.cons (G9.cells b2) CO.nil)) (hw:=O7.of z) (hd:=z) fun mO=>?_) T.Q9
    have cU:A7 (VSl (VI .u8) 1) Z [[o]] ([a1]:List (List Int)):=(A7.cons ⟨o,z,b2⟩ A7.nil)
    obtain ⟨ea,eb,H⟩:=bnd H
    refine Tp z z (SX.two (XA.fr [] Lr z) (XA.fr [2] Lr z)) (O.apX A2m A2m A5C z z z (j:=9) z (Src.row (j:=1) z) (O7.of z) (A7.ones VSl.plain b3) bi.u b3 eb z fun ec mP mS=>?_) T.Q9
    have iE:A7 (VSl VB 1) Z (y ++ [[B]]) ea:=A7.ap bi.u b3 eb
    refine T.fl ?_
    refine I7 2 z<|T.fl ?_
    refine T.drop<|T.M6 Lr ?_
    obtain ⟨ed,ee,H⟩:=bnd H
    refine Tp z z (SX.two (XA.fr [] Lr z) (XA.fr [2] Lr z)) (O.apX A1V A1V A3U z z z (j:=9) z (Src.row (j:=1) z) (O7.of z) (A7.ones VSl.plain cU) bj.u cU ee z fun ef mU mV=>?_) T.Q9
    have iG:A7 (VSl (VI .u8) 1) Z (A ++ [[o]]) ed:=A7.ap bj.u cU ee
    refine T.fl ?_
    refine I7 2 z<|T.fl ?_
    refine T.drop<|T.M6 Lr<|Tv z (V.U9 rfl)<|Tv z (V.fa A5m rfl)<|T.M5 1 rfl fun iI iJ=>Tp z z (SX.two (XA.fr [] Lr rfl) (XA.fr [2] Lr rfl)) (O.st (vs:=[ec]) (k:=12) A7H rfl rfl (j:=2) rfl iJ (by (simp only [Sl.ones,iI,Bool.and_true,Bool.true_and]) <;> rfl) ?_) T.Q9
    refine T.fl ?_
    refine T.M6 Lr<|Tv z (V.U9 rfl)<|Tv z (V.fa A5o rfl)<|T.M5 1 rfl fun iK iM=>Tp z z (SX.one (XA.fr [] Lr rfl) rfl) (O.st (vs:=[ef]) (k:=13) A7r rfl rfl (j:=0) rfl iM (by (simp only [Sl.ones,iK,Bool.and_true,Bool.true_and]) <;> rfl) ?_) T.Q9
    refine T.fl ?_
    refine T.R5 (SX.one (XA.fr [] Lr z) z)<|Bn<|Th<|Rg ?_
    obtain ⟨iN,iO,H⟩:=bnd H
    refine Vv (V.L8 z z iO)<|Mv z<|Nt<|I7 1 z<|T.fl ?_
    refine I7 2 z<|T.fl ?_
    refine I7 8 z<|T.fl ?_
    refine I7 8 z<|T.fl ?_
    refine I7 8 z<|T.fl ?_
    refine I7 8 z<|T.fl ?_
    refine I7 8 z<|T.fl ?_
    refine I7 8 z<|T.fl ?_
    refine I7 8 z<|T.fl ?_
    exact T.again (cI,ea,ed,a0,iN,ec,(y ++ [[B]]),ef,(A ++ [[o]]),a2) Li (Nat.lt_succ_self _) ⟨(G8 H ce),iE,iG,cP.u⟩ (A9.app ⟨z,z,trivial⟩ ⟨z,z,z,z,trivial⟩) z
   refine Tp z z (SX.two (XA.fr [] Lr z) (XA.fr [0] Lr z)) (O.bs A1V A3U z (e:=z) (hk:=z) (xs:=[.tmp 210]) (hv:=CO.eq (CO.cons (G9.cells b2) CO.nil)) (hw:=O7.of z) (hd:=z) fun mW=>?_) T.Q9
   have cV:A7 (VSl (VI .u8) 1) Z [[o]] ([a1]:List (List Int)):=(A7.cons ⟨o,z,b2⟩ A7.nil)
   refine Tp z z (SX.two (XA.fr [] Lr z) (XA.fr [1] Lr z)) (O.bs A2m A5C z (e:=z) (hk:=z) (xs:=[.tmp 203]) (hv:=CO.eq (CO.cons (G9.cells ci) CO.nil)) (hw:=O7.of z) (hd:=z) fun mX=>?_) T.Q9
   have cW:A7 (VSl VB 1) Z [[B]] ([bk]:List (List Bool)):=(A7.cons ⟨B,z,ci.u⟩ A7.nil)
   obtain ⟨eg,ei,H⟩:=bnd H
   refine Tp z z (SX.two (XA.fr [] Lr z) (XA.fr [2] Lr z)) (O.apX A2m A2m A5C z z z (j:=9) z (Src.row (j:=0) z) (O7.of z) (A7.ones VSl.plain cW) bi.u cW ei z fun ej mY mZ=>?_) T.Q9
   have iP:A7 (VSl VB 1) Z (y ++ [[B]]) eg:=A7.ap bi.u cW ei
   refine T.fl ?_
   refine I7 1 z<|T.fl ?_
   refine T.drop<|T.M6 Lr ?_
   obtain ⟨ek,em,H⟩:=bnd H
   refine Tp z z (SX.two (XA.fr [] Lr z) (XA.fr [2] Lr z)) (O.apX A1V A1V A3U z z z (j:=9) z (Src.row (j:=1) z) (O7.of z) (A7.ones VSl.plain cV) bj.u cV em z fun en m0 m1=>?_) T.Q9
   have iS:A7 (VSl (VI .u8) 1) Z (A ++ [[o]]) ek:=A7.ap bj.u cV em
   refine T.fl ?_
   refine I7 2 z<|T.fl ?_
   refine T.drop<|T.M6 Lr<|Tv z (V.U9 rfl)<|Tv z (V.fa A5m rfl)<|T.M5 1 rfl fun iU iV=>Tp z z (SX.two (XA.fr [] Lr rfl) (XA.fr [2] Lr rfl)) (O.st (vs:=[ej]) (k:=12) A7H rfl rfl (j:=2) rfl iV (by (simp only [Sl.ones,iU,Bool.and_true,Bool.true_and]) <;> rfl) ?_) T.Q9
   refine T.fl ?_
   refine T.M6 Lr<|Tv z (V.U9 rfl)<|Tv z (V.fa A5o rfl)<|T.M5 1 rfl fun iW iX=>Tp z z (SX.one (XA.fr [] Lr rfl) rfl) (O.st (vs:=[en]) (k:=13) A7r rfl rfl (j:=0) rfl iX (by (simp only [Sl.ones,iW,Bool.and_true,Bool.true_and]) <;> rfl) ?_) T.Q9
   refine T.fl ?_
   refine T.R5 (SX.one (XA.fr [] Lr z) z)<|Bn<|Th<|Rg ?_
   obtain ⟨iY,iZ,H⟩:=bnd H
   refine Vv (V.L8 z z iZ)<|Mv z<|Nt<|I7 1 z<|T.fl ?_
   refine I7 2 z<|T.fl ?_
   refine I7 8 z<|T.fl ?_
   refine I7 8 z<|T.fl ?_
   refine I7 8 z<|T.fl ?_
   refine I7 8 z<|T.fl ?_
   refine I7 8 z<|T.fl ?_
   refine I7 8 z<|T.fl ?_
   refine I7 8 z<|T.fl ?_
   exact T.again (cI,eg,ek,a0,iY,ej,(y ++ [[B]]),en,(A ++ [[o]]),a2) Li (Nat.lt_succ_self _) ⟨(G8 H ce),iP,iS,cP.u⟩ (A9.app ⟨z,z,trivial⟩ ⟨z,z,z,z,trivial⟩) z
  refine T.exit<|Te<|Te<|have H:=D7 H ce; Be<|Th<|T.met (bd,be,X,y,Y,A) Li ⟨H,bi,bj⟩ (A9.app trivial ⟨z,trivial⟩) z
 rintro ⟨bW,bX,bb,b5,bc,b6⟩ m2 m3 ⟨i0,i1,i2⟩
 have H:=J5 i0 gM
 refine T.norm [7] z<|T.fl ?_
 refine Sr<|Mv z<|Ag z<|Ag z<|Ag z<|Nt<|T.ret<|I7 1 z<|T.fl ?_
 refine T.K8 fun m4 m5 i3=>have i4:=A7.slc i3 cE.u; I7 1 z<|T.fl ?_
 refine T.K8 fun m6 m7 i5=>have i6:=A7.slc i5 dB.u; I7 1 z<|T.fl ?_
 refine T.K8 fun m8 m9 i7=>have i8:=A7.slc i7 dC.u; I7 1 z<|T.fl ?_
 refine T.K8 fun mh ml i9=>have ih:=A7.slc i9 dD.u; I7 1 z<|T.fl ?_
 refine T.K8 fun mv mz il=>have iv:=A7.slc il dE.u; I7 1 z<|T.fl ?_
 refine T.K8 fun na nb iz=>have ja:=A7.slc iz gB.u; I7 1 z<|T.fl ?_
 refine T.K8 fun nc nd jb=>have jc:=A7.slc jb i1.u; I7 1 z<|T.K8 fun nf ng jd=>have je:=A7.slc jd i2.u; T.B4x fun jf ni jg=>?_
 obtain ⟨rfl,rfl,rfl⟩:=B2G H
 exact T.F5 Tryz.results60 (RVs.cons (RV.tmp z) (RVs.cons (RV.tmp z) (Rv z))) Li ⟨_,z,z,(OPt.some (Pt.mk jg (show M8 jf [C,D,E,G,I,J,m,f,d,c,b,r,bb,bc] (P8.mk cj ck ax ay aA aB aC bS bW bX) from ⟨C,D,E,G,I,J,m,f,d,c,b,r,bb,bc,z,cX.u,cY.u,cZ.u,c0.u,c1.u,cm.u,i4.u,i6.u,i8.u,ih.u,iv.u,ja.u,jc.u,je.u⟩)))⟩
theorem A8O {h:PH} {pv0:Value} {j1:P8} (pr0:Pt M8 h pv0 j1) {r_0:A8} (H:A8k j1 = some r_0):∀ L,H5 Tryz.prog 29 [pv0] h (L) (fun v h' L'=>∃ v0_1 v0_3 v0_5 v0_7 v0_9,v = .agg #[v0_1,v0_3,v0_5,v0_7,v0_9]∧L' = L∧G9 E8 7 h' v0_1 r_0.H8∧G9 G7 9 h' v0_3 r_0.F3∧G9 I1 3 h' v0_5 r_0.J8∧G9 (VI .i64) 1 h' v0_7 r_0.K5∧G9 H9 6 h' v0_9 r_0.K9):=by
 intro L
 refine H5.enter Tryz.func29 z Tryz.ntmps29 z<|Sr<|To (O.alloc A0l z z fun N=>Nt<|Sq<|Sr<|Mv z ?_)
 obtain ⟨P,o,H⟩:=bnd H
 refine To (O.C8 z (A8d pr0 o _) z fun S p U W q=>?_)
 obtain ⟨rfl,r⟩:=q
 refine I9 _ r<|Nt<|T.cH H z (fun H=>?_) (fun H=>?_)
 ·exact dead H
 refine T.skip<|Th<|Sr<|Mv z<|have s:=pr0; ?_
 obtain ⟨X,_,rfl,t,⟨a,b,c,d,e,Y,Z,aa,ab,ac,ad,ae,af,ag,rfl,w,x,y,A,B,ai,aj,ak,am,an,ao,ap,aq,ar⟩⟩:=s
 refine Vv (V.U9 z)<|Vv (V.fa X6 z)<|Vv (V.B9v (k:=0) A6p z t.u (Nat.le_of_ble_eq_true z)) ?_
 obtain ⟨au,C,H⟩:=bnd H
 refine To (O.C8 z (B1M (show C9 p [a,b,c,d,e] j1.A0J from ⟨a,b,c,d,e,z,w.u,x.u,y.u,A.u,B.u⟩) C _) z fun aw ax ay aA D=>?_)
 obtain ⟨E,G,I,J,K,rfl,M,f,g,i,m,n⟩:=D
 refine I9 _ M<|To (O.stF (vs:=[E,G,I,J,K]) F9 rfl rfl (j:=0) rfl rfl (by (simp only [Sl.ones,G9.one f,G9.one g,G9.one i,G9.one m,G9.one n,Bool.and_true,Bool.true_and]) <;> rfl) rfl ?_)
 refine Nt<|T.ret ?_
 obtain rfl:=Option.some.inj H
 exact T.A6Z (L':=L) Tryz.results29 (RVs.cons (RV.cellS z (j:=0) z F9) RVs.nil) Li (fun _ iv=>iv.drop) ⟨_,_,_,_,_,z,z,f,g,i,m,n⟩
theorem A4V {h:PH} {pv0:Value} {j1:P8} (pr0:Pt M8 h pv0 j1) {pv1:Value} {part2:List Int} (pr1:G9 (VI .i64) 1 h pv1 part2) {r_0:J6} (H:A6O j1 part2 = some r_0):∀ L,H5 Tryz.prog 94 [pv0,pv1] h (L) (fun v h' L'=>L' = L∧Pt P7 h' v r_0):=by
 intro L
 refine H5.enter Tryz.func94 z Tryz.ntmps94 z<|Sr<|Ag z<|Nt<|Sq<|Sr<|Mv z ?_
 obtain ⟨av,ad,H⟩:=bnd H
 refine To (O.C8 z (A8d pr0 ad _) z fun az ae ba bb af=>?_)
 obtain ⟨rfl,ag⟩:=af
 refine I9 _ ag<|Mv z<|T.bH 10 H z (fun H=>?_) (fun H=>?_)
 ·exact dead H
 refine Mv z<|Vv (V.P6 D6 z pr1)<|Mv z<|have ai:=pr0; ?_
 obtain ⟨o,_,rfl,p,⟨y,A,B,C,D,E,G,I,J,K,M,N,P,S,rfl,aj,U,ak,am,an,ao,t,ap,aq,ar,au,aw,ax,ay⟩⟩:=ai
 refine Vv (V.U9 z)<|Vv (V.fa X6 z)<|Vv (V.fa B3c z)<|Vv (V.I6 (k:=1) J3 z p.u z)<|Vv (V.P6 O9 z U)<|Vv (V.ne z z)<|Vv (V.J9 z z)<|Nt<|T.cH H z (fun H=>?_) (fun H=>?_)
 ·exact dead H
 refine T.skip<|Th<|Sr<|Mv z<|Mv z<|To (O.bs D6 Q4 z (e:=z) (hk:=z) (xs:=[.const (.int .i64 (-1))]) (hv:=CO.eq (CO.cons z CO.nil)) (hw:=O7.of z) (hd:=z) fun bc=>have aA:A7 (VI .i64) ae [[.int .i64 (-1:Int)]] ([(-1:Int)]:List Int):=(A7.cons z A7.nil); Mv z<|Vv (V.U9 z)<|Vv (V.fa A0Z z)<|Vv (V.I6 (k:=6) F4 z p.u z)<|Vv (V.P6 D6 z t)<|T.K8 fun be bf aB=>have aC:=A7.slc aB aA.u; ?_)
 obtain ⟨aD,aE,H⟩:=bnd H
 refine To (O.C8 z (A4r aC aE _) z fun f bg bi bj aG=>?_)
 obtain ⟨aI,aJ,aK⟩:=aG
 refine I9 _ aJ<|T.M5 0 z fun bk aM=>Vv (V.bld (xs:=[(0,.tmp 21),(1,.tmp 22),(2,.tmp 29)]) (cs:=[_,_,_]) C3s C3A z (F8.cons z z z (F8.cons z (G9.cells pr1) z (F8.cons z aM z F8.nil))))<|To (O.box z z z fun W=>Ag z<|Nt<|Sq<|Sr<|Mv z<|Vv (V.P6 D6 z pr1)<|Mv z<|Nt ?_)
 obtain ⟨X,aN,aO⟩:=N7 H
 refine T.O5 (α:=(List Int)×(List (List Value))) [5] z (fun ⟨g,m⟩=>[]) (fun ⟨g,m⟩=>blk W (.cells [.pointer (some o),pv1,f].toArray 161)::D8 3 1 f m::L) (fun ⟨g,m⟩ hh=>X = g∧A7 (VI .i64) hh m g) ?_ ?_
 ·have H:=aN
  refine Bl<|T.N8 (α:=Nat×(List Int)×Int×(List (List Value))) [0,5,32,33] z (fun ⟨i,d,a,b⟩=>[(34,.int .i64 a)]) (fun ⟨i,d,a,b⟩=>blk W (.cells [.pointer (some o),pv1,f].toArray 161)::D8 3 1 f b::L) (fun ⟨i,d,a,b⟩ hh=>iter (B2Y j1 part2) i (d,a) = some X∧A7 (VI .i64) hh b d) (fun ⟨i,d,a,b⟩=>i) (FUEL,aD,(0:Int),aI) ⟨z,trivial⟩ z ⟨H,aK⟩ ?_
  rintro ⟨i,d,a,b⟩ q bm ⟨aP,c⟩
  obtain ⟨r,bn,rfl,H,n⟩:=I4 aP
  refine T.norm [34,0,5,32,33] z<|T.fl ?_
  refine Sr<|Vv (V.lt z z)<|Nt<|Sq<|T.cH H z (fun H=>?_) (fun H=>?_)
  ·refine T.skip<|Th<|Sq<|Bl<|Sr<|Mv z ?_
   obtain ⟨s,Y,H⟩:=bnd H
   obtain ⟨bo,aS,rfl⟩:=G9.at pr1 Y
   refine Vv (V.ix D6 z z pr1 (H6 Y))<|Vv (V.ld0 D9 z aS.u z)<|Ag z<|Ag z<|Nt<|Sq<|Sr<|Mv z<|Vv (V.lt z z)<|Mv z<|T.bH 41 H z (fun H=>?_) (fun H=>?_)
   ·exact dead H
   refine Mv z<|Mv z<|Vv (V.U9 z)<|Vv (V.fa A0Z z)<|Vv (V.I6 (k:=6) F4 z p.u z)<|Vv (V.P6 D6 z t)<|Vv (V.ge z z)<|Vv (V.J9 z z)<|Mv z<|T.bH 50 H z (fun H=>?_) (fun H=>?_)
   ·exact dead H
   refine Mv z<|Vv (V.ge z z)<|Mv z<|T.bH 53 H z (fun H=>?_) (fun H=>?_)
   ·refine Mv z<|Vv (V.U9 z)<|Vv (V.fa A8q z)<|Vv (V.ldO (k:=2) F4 z (j:=0) z z)<|Mv z ?_
    obtain ⟨bp,Z,H⟩:=bnd H
    obtain ⟨bq,aU,rfl⟩:=A7.get c Z
    refine Vv (V.ixR D6 z z (j:=1) z (A7.bd c Z))<|Vv (V.ldR D9 z (j:=1) z aU z)<|Vv (V.ge z z)<|Vv (V.M0 z z)<|Vv (V.J9 z z)<|Nt<|T.cH H z (fun H=>?_) (fun H=>?_)
    ·exact dead H
    refine T.skip<|Th<|Sq<|T.norm [0,5,6,7,32,33,34] z<|T.fl ?_
    refine Rg<|Mv z<|Vv (V.ge z z)<|Nt<|T.cH H z (fun H=>?_) (fun H=>?_)
    ·refine Rg<|Mv z<|Vv (V.U9 z)<|Vv (V.fa A8q z)<|Vv (V.ldO (k:=2) F4 z (j:=0) z z)<|Mv z<|Mv z ?_
     obtain ⟨br,w,H⟩:=bnd H
     obtain ⟨bt,bu,rfl⟩:=A7.get c w
     refine Vv (V.ixR D6 z z (j:=1) z (A7.bd c w)) ?_
     obtain ⟨aa,aV,H⟩:=bnd H
     refine To (O.stR D9 z z (j:=1) z (A7.bdN c w) z<|have aW:A7 (VI .i64) q (b.set s.toNat [.int .i64 a]) aa:=A7.set c (show (VI .i64) q [.int .i64 a] a from z) aV; Ni<|Bn<|Th<|Rg ?_)
     obtain ⟨aX,aY,H⟩:=bnd H
     refine Vv (V.L8 z z aY)<|Mv z<|Nt<|I7 1 z<|T.again (r,aa,aX,(b.set s.toNat [.int .i64 a])) Li (Nat.lt_succ_self _) ⟨(G8 H n),aW⟩ (A9.app ⟨z,trivial⟩ ⟨z,z,z,z,trivial⟩) z
    refine T.skip<|Bn<|Th<|Rg ?_
    obtain ⟨aZ,a0,H⟩:=bnd H
    refine Vv (V.L8 z z a0)<|Mv z<|Nt<|T.again (r,d,aZ,b) Li (Nat.lt_succ_self _) ⟨(G8 H n),c⟩ (A9.app ⟨z,trivial⟩ ⟨z,z,z,z,trivial⟩) z
   refine Sk<|Sk<|Sk<|Sk<|Sk<|Sk<|Sk<|Sk<|Vv (V.J9 z z)<|Vv (V.J9 z z)<|Nt<|Cf z<|T.skip<|Th<|Sr<|Mv z<|Vv (V.ge z z)<|Nt<|T.cH H z (fun H=>?_) (fun H=>?_)
   ·refine Rg<|Mv z<|Vv (V.U9 z)<|Vv (V.fa A8q z)<|Vv (V.ldO (k:=2) F4 z (j:=0) z z)<|Mv z<|Mv z ?_
    obtain ⟨bw,x,H⟩:=bnd H
    obtain ⟨bx,bA,rfl⟩:=A7.get c x
    refine Vv (V.ixR D6 z z (j:=1) z (A7.bd c x)) ?_
    obtain ⟨ab,a1,H⟩:=bnd H
    refine To (O.stR D9 z z (j:=1) z (A7.bdN c x) z<|have a2:A7 (VI .i64) q (b.set s.toNat [.int .i64 a]) ab:=A7.set c (show (VI .i64) q [.int .i64 a] a from z) a1; Ni<|Bn<|Th<|T.norm [0,5,32,33,34] z<|T.fl ?_)
    refine Rg ?_
    obtain ⟨a3,a4,H⟩:=bnd H
    refine Vv (V.L8 z z a4)<|Mv z<|Nt<|I7 1 z<|T.again (r,ab,a3,(b.set s.toNat [.int .i64 a])) Li (Nat.lt_succ_self _) ⟨(G8 H n),a2⟩ (A9.app ⟨z,trivial⟩ ⟨z,z,z,z,trivial⟩) z
   refine T.skip<|Bn<|Th<|Rg ?_
   obtain ⟨a5,a6,H⟩:=bnd H
   refine Vv (V.L8 z z a6)<|Mv z<|Nt<|T.again (r,d,a5,b) Li (Nat.lt_succ_self _) ⟨(G8 H n),c⟩ (A9.app ⟨z,trivial⟩ ⟨z,z,z,z,trivial⟩) z
  refine T.exit<|Te<|Te<|have H:=D7 H n; Be<|Th<|T.met (d,b) Li ⟨H,c⟩ (A9.app trivial ⟨z,trivial⟩) z
 rintro ⟨g,m⟩ bB bC ⟨a7,a8⟩
 have H:=J5 a7 aO
 refine T.norm [5] z<|T.fl ?_
 refine Sr<|Mv z<|Ag z<|Nt<|T.ret<|I7 1 z<|T.K8 fun bD bE a9=>have ah:=A7.slc a9 a8.u; T.B4x fun ac bG al=>?_
 obtain rfl:=Option.some.inj H
 exact T.F5 Tryz.results94 (Rv z) Li ⟨z,(Pt.mk al (show P7 ac [.pointer (some o),pv1,f] (J6.mk j1 part2 g) from ⟨(.pointer (some o)),pv1,f,z,(Pt.mk p.u (show M8 ac [y,A,B,C,D,E,G,I,J,K,M,N,P,S] j1 from ⟨y,A,B,C,D,E,G,I,J,K,M,N,P,S,z,aj.u,U.u,ak.u,am.u,an.u,ao.u,t.u,ap.u,aq.u,ar.u,au.u,aw.u,ax.u,ay.u⟩)),pr1.u,ah.u⟩))⟩
theorem B1f {h:PH} {pv0:Value} {j1:P8} (pr0:Pt M8 h pv0 j1) {pv1:Value} {part2:List Int} (pr1:G9 (VI .i64) 1 h pv1 part2) {i3:Int} {r_0:Int} (H:B1F j1 part2 i3 = some r_0):∀ L,H5 Tryz.prog 93 [pv0,pv1,.int .i64 i3] h (L) (fun v h' L'=>v = .int .i64 r_0∧L' = L):=by
 intro L
 refine H5.enter Tryz.func93 z Tryz.ntmps93 z<|Sr<|Ag z<|Nt<|Sr<|Mv z<|Mv z ?_
 obtain ⟨a,B,H⟩:=bnd H
 refine To (O.C8 z (A4V pr0 pr1 B _) z fun aj b ak am C=>?_)
 obtain ⟨D,E⟩:=C
 refine I9 _ D<|Ag z<|Nt<|Sq<|Sr<|Mv z<|have G:=E; ?_
 obtain ⟨an,_,rfl,c,⟨ao,d,e,rfl,I,J,K⟩⟩:=G
 refine Vv (V.C4S Tryz.underlying158 z)<|Mv z<|Mv z<|Vv (V.lt z z)<|Vv (V.J9 z z)<|Mv z<|T.bH 17 H z (fun H=>?_) (fun H=>?_)
 ·exact dead H
 refine Mv z<|Mv z<|Vv (V.U9 z)<|Vv (V.fa R9 z)<|Vv (V.I6 (k:=0) R7 z c z)<|have M:=I; ?_
 obtain ⟨f,_,rfl,g,⟨i,j,m,n,o,p,q,r,s,t,u,w,x,y,rfl,N,P,S,U,A,W,X,Y,Z,aa,ab,ac,ad,ae⟩⟩:=M
 refine Vv (V.U9 z)<|Vv (V.fa X6 z)<|Vv (V.fa A0V z)<|Vv (V.I6 (k:=4) Q8 z g z)<|Vv (V.P6 S9 z A)<|Vv (V.ge z z)<|Vv (V.J9 z z)<|Nt<|T.cH H z (fun H=>?_) (fun H=>?_)
 ·exact dead H
 refine T.skip<|Th<|Sr<|Mv z<|Mv z ?_
 obtain ⟨ap,af,H⟩:=bnd H
 refine To (O.C8 z (A8r (Pt.mk c (show P7 b [.pointer (some f),d,e] a from ⟨(.pointer (some f)),d,e,z,(Pt.mk g (show M8 b [i,j,m,n,o,p,q,r,s,t,u,w,x,y] a.O6 from ⟨i,j,m,n,o,p,q,r,s,t,u,w,x,y,z,N,P,S,U,A,W,X,Y,Z,aa,ab,ac,ad,ae⟩)),J,K⟩)) af _) z fun aq ar au aw ag=>?_)
 obtain ⟨rfl,ai⟩:=ag
 refine I9 _ ai<|Ag z<|Nt<|T.ret ?_
 obtain rfl:=Option.some.inj H
 exact T.F5 Tryz.results93 (Rv z) Li ⟨z,z⟩
theorem B4O {h:PH} {pv0:Value} {j1:P8} (pr0:Pt M8 h pv0 j1) {pv1:Value} {part2:List Int} (pr1:G9 (VI .i64) 1 h pv1 part2) {pv2:Value} {count3:J6→Int→Option Int} (pr2:A8C h pv2 count3) {r_0:Int} (H:B5I j1 part2 count3 = some r_0):∀ L,H5 Tryz.prog 175 [pv0,pv1,pv2] h (L) (fun v h' L'=>v = .int .i64 r_0∧L' = L):=by
 intro L
 refine H5.enter Tryz.func175 z Tryz.ntmps175 z<|Sr<|Ag z<|Nt<|Sr<|Mv z<|Mv z ?_
 obtain ⟨i,X,H⟩:=bnd H
 refine To (O.C8 z (A4V pr0 pr1 X _) z fun aX aY aZ a0 Y=>?_)
 obtain ⟨Z,aa⟩:=Y
 refine I9 _ Z<|Ag z<|Nt<|Sq<|Sr<|Mv z<|have ab:=aa; ?_
 obtain ⟨a1,_,rfl,o,⟨a2,p,q,rfl,ac,ad,ae⟩⟩:=ab
 refine Vv (V.C4S Tryz.underlying158 z)<|Nt<|Cf z<|T.skip<|Th<|Sr<|Ag z<|Nt<|Sq<|Sr<|Mv z<|Vv (V.U9 z)<|Vv (V.fa R9 z)<|Vv (V.I6 (k:=0) R7 z o z)<|have af:=ac; ?_
 obtain ⟨r,_,rfl,s,⟨w,x,y,A,B,C,D,E,G,I,J,K,M,N,rfl,ag,ai,aj,ak,f,am,an,ao,ap,aq,ar,au,aw,ax⟩⟩:=af
 refine Vv (V.U9 z)<|Vv (V.fa X6 z)<|Vv (V.fa A0V z)<|Vv (V.I6 (k:=4) Q8 z s z)<|Vv (V.P6 S9 z f)<|Mv z<|Nt ?_
 obtain ⟨P,ay,aA⟩:=N7 H
 refine T.O5 (α:=Int) [] z (fun e=>[(8,.int .i64 e)]) (fun e=>L) (fun e hh=>P = e) ?_ ?_
 ·have H:=ay
  refine Bl<|T.N8 (α:=Nat×Int×Int) [2,7,23,24] z (fun ⟨b,c,a⟩=>[(25,.int .i64 c),(8,.int .i64 a)]) (fun ⟨b,c,a⟩=>L) (fun ⟨b,c,a⟩ hh=>iter (B5s count3 i) b (c,a) = some P) (fun ⟨b,c,a⟩=>b) (FUEL,(0:Int),(0:Int)) ⟨z,z,trivial⟩ z H ?_
  rintro ⟨b,c,a⟩ a3 a4 aB
  obtain ⟨S,a5,rfl,H,m⟩:=I4 aB
  refine T.norm [25,8,2,7,23,24] z<|T.fl ?_
  refine Sr<|Vv (V.lt z z)<|Nt<|Sq<|T.cH H z (fun H=>?_) (fun H=>?_)
  ·refine T.skip<|Th<|Sq<|Bl<|Sr<|Mv z ?_
   obtain ⟨d,U,H⟩:=bnd H
   obtain ⟨a6,aC,rfl⟩:=G9.at f U
   refine Vv (V.ix S9 rfl rfl f (H6 U))<|Vv (V.Z9 rfl aC.u (by exact A0k)) ?_
   refine To (O.alloc A3H z z fun a7=>Ag z<|To (O.stF (vs:=[.int .u8 d.J4,.int .i64 d.Y6,.string d.fA,.string d.fB,.string d.V7,.int .i64 d.fN]) A0k z z (j:=0) z z z z<|T.freeze fun n a8 aD=>have W:=AtC.of aD; Nt<|Sr<|Vv (V.fa A1a z)<|Vv (V.I6 (k:=1) D9 z W z)<|Vv (V.gt z z)<|Nt<|T.cH H z (fun H=>?_) (fun H=>?_)))
   ·refine T.O8 (t:=(.v 0 (.v 1 (.v 2 (.v 3 (.v 4 (.v 5 (.alt 6 (.g (.v 7 (.v 8 (.alt 9 .done .no)))) .no)))))))) 11 0 0 rfl rfl I8 (by kernel_rfl) ?_
    refine Tm z z<|Tv z (V.fa A1a z)<|Tv z (V.I6 (k:=1) D9 z W z)<|Tm z z<|Tm z z<|Tm z z ?_
    obtain ⟨a9,aE,H⟩:=bnd H
    obtain ⟨ah,al,av,aG,aI⟩:=A8C.call (pr2.u (g:=n)) (Pt.mk o.u (show P7 n [.pointer (some r),p,q] i from ⟨(.pointer (some r)),p,q,rfl,(Pt.mk s.u (show M8 n [w,x,y,A,B,C,D,E,G,I,J,K,M,N] i.O6 from ⟨w,x,y,A,B,C,D,E,G,I,J,K,M,N,rfl,ag.u,ai.u,aj.u,ak.u,f.u,am.u,an.u,ao.u,ap.u,aq.u,ar.u,au.u,aw.u,ax.u⟩)),ad.u,ae.u⟩)) aE
    refine Tp z z (SX.two (XA.fr [] Lr z) (XA.fr [] Lr z)) (O.A1m z aG z (aI _) z fun az ba bb bc aJ=>?_) T.Q9
    obtain ⟨rfl,aK⟩:=aJ
    refine I9 _ aK<|T.M6 Li ?_
    obtain ⟨bd,aM,H⟩:=bnd H
    refine Tv z (V.B2H z z aM) ?_
    obtain ⟨aN,aO,H⟩:=bnd H
    refine Tv z (V.L8 z z aO)<|Ts z z (SX.two (XA.fr [] Lr z) (XA.fr [] Lr z)) (V.asg z) z ?_ T.Q9
    refine T.R5 (SX.two (XA.fr [] Lr z) (XA.fr [] Lr z))<|Bn<|Th<|Rg ?_
    obtain ⟨aP,aS,H⟩:=bnd H
    refine Vv (V.L8 z z aS)<|Mv z<|Nt<|T.again (S,aP,aN) Li (Nat.lt_succ_self _) (G8 H m) (A9.app ⟨z,z,trivial⟩ ⟨z,z,z,z,trivial⟩) z
   refine T.skip<|Bn<|Th<|Rg ?_
   obtain ⟨aU,aV,H⟩:=bnd H
   refine Vv (V.L8 z z aV)<|Mv z<|Nt<|T.again (S,aU,a) Li (Nat.lt_succ_self _) (G8 H m) (A9.app ⟨z,z,trivial⟩ ⟨z,z,z,z,trivial⟩) z
  refine T.exit<|Te<|Te<|have H:=D7 H m; Be<|Th<|T.met a Li H (A9.app ⟨z,trivial⟩ trivial) z
 rintro e be bf aW
 have H:=J5 aW aA
 refine T.norm [8] z<|T.fl ?_
 refine Sr<|Mv z<|Ag z<|Nt<|T.ret ?_
 obtain rfl:=Option.some.inj H
 exact T.F5 Tryz.results175 (Rv z) Li ⟨z,z⟩
theorem B2q {h:PH} {pv0:Value} {j1:P8} (pr0:Pt M8 h pv0 j1) {pv1:Value} {part2:List Int} (pr1:G9 (VI .i64) 1 h pv1 part2) {r_0:Int} (H:B1T j1 part2 = some r_0):∀ L,H5 Tryz.prog 108 [pv0,pv1] h (L) (fun v h' L'=>v = .int .i64 r_0∧L' = L):=by
 intro L
 refine H5.enter Tryz.func108 z Tryz.ntmps108 z<|Sr<|Ag z<|Nt<|Sr<|Mv z<|Mv z ?_
 obtain ⟨g,a,H⟩:=bnd H
 refine To (O.C8 z (B4O pr0 pr1 (show A8C h (.func (.func 168) #[] #[]) A7b from ⟨⟨z,z⟩,.inr ⟨168,[],[],z,fun i j k m b n o c d=>A8r b c d⟩⟩) a _) z fun p q r s e=>?_)
 obtain ⟨rfl,f⟩:=e
 refine I9 _ f<|Ag z<|Nt<|T.ret ?_
 obtain rfl:=Option.some.inj H
 exact T.F5 Tryz.results108 (Rv z) Li ⟨z,z⟩
theorem B3h {h:PH} {pv0:Value} {j1:P8} (pr0:Pt M8 h pv0 j1) {pv1:Value} {part2:List Int} (pr1:G9 (VI .i64) 1 h pv1 part2) {r_0:Int} {r_1:Bool} (H:B4t j1 part2 = some (r_0,r_1)):∀ L,H5 Tryz.prog 157 [pv0,pv1] h (L) (fun v h' L'=>v = .tuple #[.int .i64 r_0,.bool r_1]∧L' = L):=by
 intro L
 refine H5.enter Tryz.func157 z Tryz.ntmps157 z<|Sr<|Ag z<|Ag z<|Nt<|Sr<|Mv z<|Mv z ?_
 obtain ⟨f,P,H⟩:=bnd H
 refine To (O.C8 z (A4V pr0 pr1 P _) z fun aK aM aN aO S=>?_)
 obtain ⟨U,W⟩:=S
 refine I9 _ U<|Ag z<|Nt<|Sq<|Sr<|Mv z<|have X:=W; ?_
 obtain ⟨aP,_,rfl,g,⟨aS,i,m,rfl,Y,Z,aa⟩⟩:=X
 refine Vv (V.C4S Tryz.underlying158 z)<|Nt<|Cf z<|T.skip<|Th<|Sq<|Sr<|Mv z<|Vv (V.U9 z)<|Vv (V.fa R9 z)<|Vv (V.I6 (k:=0) R7 z g z)<|have ab:=Y; ?_
 obtain ⟨n,_,rfl,o,⟨p,q,r,s,t,w,x,y,A,B,C,D,E,G,rfl,ac,ad,ae,af,d,ag,ai,aj,ak,am,an,ao,ap,aq⟩⟩:=ab
 refine Vv (V.U9 z)<|Vv (V.fa X6 z)<|Vv (V.fa A0V z)<|Vv (V.I6 (k:=4) Q8 z o z)<|Vv (V.P6 S9 z d)<|Mv z<|Nt ?_
 obtain ⟨I,ar,J⟩:=N7 H
 refine T.O5 (α:=Unit) [] z (fun _u=>[]) (fun _u=>L) (fun _u hh=>I = (Sum.inl ())) ?_ ?_
 ·have H:=ar
  refine Bl<|T.N8 (α:=Nat×Int) [6,21,22] z (fun ⟨a,b⟩=>[(23,.int .i64 b)]) (fun ⟨a,b⟩=>L) (fun ⟨a,b⟩ hh=>iter (B2Z f) a b = some I) (fun ⟨a,b⟩=>a) (FUEL,(0:Int)) ⟨z,trivial⟩ z H ?_
  rintro ⟨a,b⟩ aU aV au
  obtain ⟨K,aW,rfl,H,e⟩:=I4 au
  refine T.norm [23,6,21,22] z<|T.fl ?_
  refine Sr<|Vv (V.lt z z)<|Nt<|Sq<|T.cH H z (fun H=>?_) (fun H=>?_)
  ·refine T.skip<|Th<|Sq<|Bl<|Sr<|Mv z ?_
   obtain ⟨c,M,H⟩:=bnd H
   obtain ⟨aX,aw,rfl⟩:=G9.at d M
   refine Vv (V.ix S9 rfl rfl d (H6 M))<|Vv (V.Z9 rfl aw.u (by exact A0k)) ?_
   refine To (O.alloc A3H z z fun aY=>Ag z<|To (O.stF (vs:=[.int .u8 c.J4,.int .i64 c.Y6,.string c.fA,.string c.fB,.string c.V7,.int .i64 c.fN]) A0k z z (j:=0) z z z z<|T.freeze fun N aZ ax=>have ay:=AtC.of ax; Nt<|Sr<|Vv (V.fa A1a z)<|Vv (V.I6 (k:=1) D9 z ay z)<|Vv (V.eq z z)<|Mv z<|T.bH 31 H z (fun H=>?_) (fun H=>?_)))
   ·refine Mv z<|Mv z ?_
    obtain ⟨a0,aA,H⟩:=bnd H
    refine To (O.C8 z (A8r (Pt.mk g.u (show P7 N [.pointer (some n),i,m] f from ⟨(.pointer (some n)),i,m,z,(Pt.mk o.u (show M8 N [p,q,r,s,t,w,x,y,A,B,C,D,E,G] f.O6 from ⟨p,q,r,s,t,w,x,y,A,B,C,D,E,G,z,ac.u,ad.u,ae.u,af.u,d.u,ag.u,ai.u,aj.u,ak.u,am.u,an.u,ao.u,ap.u,aq.u⟩)),Z.u,aa.u⟩)) aA _) z fun a1 a2 a3 a4 aB=>?_)
    obtain ⟨rfl,aC⟩:=aB
    refine I9 _ aC<|Vv (V.gt z z)<|Vv (V.M0 z z)<|Nt<|T.cH H z (fun H=>?_) (fun H=>?_)
    ·refine Sr<|Mv z<|Ag z<|Ag z<|Nt<|T.ret<|Br<|Tr<|Tr<|have H:=D7 H e; Br<|Tr<|have H:=J5 H J; ?_
     obtain ⟨rfl,rfl⟩:=inj2 H
     exact T.F5 Tryz.results157 (RVs.cons (RV.tmp z) (Rv z)) Li ⟨z,z⟩
    refine T.skip<|Bn<|Th<|Rg ?_
    obtain ⟨aD,aE,H⟩:=bnd H
    refine Vv (V.L8 z z aE)<|Mv z<|Nt<|T.again (K,aD) Li (Nat.lt_succ_self _) (G8 H e) (A9.app ⟨z,trivial⟩ ⟨z,z,z,trivial⟩) z
   refine Sk<|Sk<|Sk<|Sk<|Vv (V.J9 z z)<|Nt<|Cf z<|T.skip<|Bn<|Th<|Rg ?_
   obtain ⟨aG,aI,H⟩:=bnd H
   refine Vv (V.L8 z z aI)<|Mv z<|Nt<|T.again (K,aG) Li (Nat.lt_succ_self _) (G8 H e) (A9.app ⟨z,trivial⟩ ⟨z,z,z,trivial⟩) z
  refine T.exit<|Te<|Te<|have H:=D7 H e; Be<|Th<|T.met () Li H (A9.app trivial trivial) z
 rintro _ a5 a6 aJ
 have H:=J5 aJ J
 refine T.norm [] z<|T.fl ?_
 refine Sr<|Ag z<|Ag z<|Nt<|T.ret ?_
 obtain ⟨rfl,rfl⟩:=inj2 H
 exact T.F5 Tryz.results157 (RVs.cons (RV.tmp z) (Rv z)) Li ⟨z,z⟩
theorem C0t {h:PH} {pv0:Value} {j1:P8} (pr0:Pt M8 h pv0 j1) {pv1:Value} {part2:List Int} (pr1:G9 (VI .i64) 1 h pv1 part2) {r_0:Int} (H:B9o j1 part2 = some r_0):∀ L,H5 Tryz.prog 158 [pv0,pv1] h (L) (fun v h' L'=>v = .int .i64 r_0∧L' = L):=by
 intro L
 refine H5.enter Tryz.func158 z Tryz.ntmps158 z<|Sr<|Ag z<|Nt<|Sr<|Mv z<|Mv z ?_
 obtain ⟨g,a,H⟩:=bnd H
 refine To (O.C8 z (B4O pr0 pr1 (show A8C h (.func (.func 236) #[] #[]) A7h from ⟨⟨z,z⟩,.inr ⟨236,[],[],z,fun i j k m b n o c d=>B2j b c d⟩⟩) a _) z fun p q r s e=>?_)
 obtain ⟨rfl,f⟩:=e
 refine I9 _ f<|Ag z<|Nt<|T.ret ?_
 obtain rfl:=Option.some.inj H
 exact T.F5 Tryz.results158 (Rv z) Li ⟨z,z⟩
theorem B9m {h:PH} {pc0:List Value} {p1:A8} (pr0:C9 h pc0 p1) {t12:Int} {r_0:List Int} (H:B6O p1 t12 = some r_0):∀ L,H5 Tryz.prog 273 [.agg pc0.toArray,.int .i64 t12] h (L) (fun v h' L'=>∃ cs0,L' = D8 3 1 v cs0::L∧A7 (VI .i64) h' cs0 r_0):=by
 intro L
 obtain ⟨C,D,E,G,I,rfl,m,W,X,Y,s⟩:=pr0
 refine H5.enter Tryz.func273 rfl Tryz.ntmps273 rfl<|Sr<|To (O.V3 rfl rfl rfl fun aX Z aY n=>Ag z<|Nt<|Sq<|Sr<|Vv (V.Z9 rfl n (by exact F9)) ?_)
 obtain ⟨⟨aZ,a0⟩,aa,H⟩:=bnd H
 refine To (O.C8 z (A5d (show C9 Z [C,D,E,G,I] p1 from ⟨C,D,E,G,I,z,m.u,W.u,X.u,Y.u,s.u⟩) aa _) z fun a1 ab a2 a3 ac=>?_)
 obtain ⟨rfl,ad⟩:=ac
 refine I9 _ ad<|Mv z<|Vv (V.ext z z)<|Vv (V.ext z z)<|Ag z<|Ag z<|Nt<|Sr<|Mv z<|Vv (V.ne z z)<|Mv z<|T.bH 17 H z (fun H=>?_) (fun H=>?_)
 ·exact dead H
 refine Mv z<|Vv (V.lt z z)<|Vv (V.J9 z z)<|Mv z<|T.bH 21 H z (fun H=>?_) (fun H=>?_)
 ·exact dead H
 refine Mv z<|Vv (V.fa K3 z)<|Vv (V.I6 (k:=0) M9 z n.u z)<|Vv (V.P6 O0 z m)<|Vv (V.ge z z)<|Vv (V.J9 z z)<|Nt<|T.cH H z (fun H=>?_) (fun H=>?_)
 ·exact dead H
 refine T.skip<|Th<|Sr<|Ag z<|Nt<|Sq<|Sr<|Vv (V.fa T9 z)<|Vv (V.I6 (k:=4) Q8 z n.u z)<|Vv (V.P6 S9 z s)<|Mv z<|Nt ?_
 obtain ⟨J,ae,af⟩:=N7 H
 refine T.O5 (α:=(List Int)×Value×(List (List Value))) [] z (fun ⟨o,p,q⟩=>[(7,p)]) (fun ⟨o,p,q⟩=>D8 3 1 p q::L) (fun ⟨o,p,q⟩ hh=>J = o∧A7 (VI .i64) hh q o) ?_ ?_
 ·have H:=ae
  refine Bl<|T.A0n 3 1<|have ag:A7 (VI .i64) ab [] ([]:List Int):=A7.nil; T.N8 (α:=Nat×Int×(List Int)×Value×(List (List Value))) [1,2,29,30] z (fun ⟨f,i,c,b,a⟩=>[(31,.int .i64 i),(7,b)]) (fun ⟨f,i,c,b,a⟩=>D8 3 1 b a::L) (fun ⟨f,i,c,b,a⟩ hh=>iter (B1C p1 t12) f (i,c) = some J∧A7 (VI .i64) hh a c) (fun ⟨f,i,c,b,a⟩=>f) (FUEL,(0:Int),([]:List Int),(.slice none 0 0),[]) ⟨z,z,trivial⟩ z ⟨H,ag⟩ ?_
  rintro ⟨f,i,c,b,a⟩ a4 a5 ⟨ai,w⟩
  obtain ⟨K,a6,rfl,H,A⟩:=I4 ai
  refine T.norm [31,7,1,2,29,30] z<|T.fl ?_
  refine Sr<|Vv (V.lt z z)<|Nt<|Sq<|T.cH H z (fun H=>?_) (fun H=>?_)
  ·refine T.skip<|Th<|Sq<|Bl<|Sr ?_
   obtain ⟨d,M,H⟩:=bnd H
   obtain ⟨a7,aj,rfl⟩:=G9.at s M
   refine Vv (V.ix S9 rfl rfl s (H6 M))<|Vv (V.Z9 rfl aj.u (by exact A0k)) ?_
   refine To (O.alloc A3H z z fun a8=>To (O.stF (vs:=[.int .u8 d.J4,.int .i64 d.Y6,.string d.fA,.string d.fB,.string d.V7,.int .i64 d.fN]) A0k z z (j:=0) z z z z<|T.freeze fun a9 ah ak=>have x:=AtC.of ak; Nt<|Bl<|Sq ?_))
   obtain ⟨am,an,ao⟩:=N7 H
   refine T.O5 (α:=Bool) [1,2,7,9,29,30,31] z (fun r=>[(35,.bool r)]) (fun r=>D8 3 1 b a::L) (fun r hh=>am = r) ?_ ?_
   ·have H:=an
    refine T.O8 (t:=(.v 0 (.v 1 (.v 2 (.v 3 (.v 4 (.v 5 (.v 6 (.v 7 (.v 8 (.v 9 (.v 10 (.v 11 (.v 12 (.v 13 (.alt 14 .done .no)))))))))))))))) 16 0 0 rfl rfl I8 (by kernel_rfl) ?_
    refine Tv z (V.fa A1T z)<|Tv z (V.I6 (k:=0) A2P z x z)<|Tv z (V.eq z z)<|Tm z z<|T.bH 39 H z (fun H=>?_) (fun H=>?_)
    ·refine Tv z (V.fa X3 z)<|Tv z (V.I6 (k:=4) F6 z x z)<|Tv z (V.fa K3 z)<|Tv z (V.I6 (k:=0) M9 z n.u z)<|Tm z z ?_
     obtain ⟨aq,N,H⟩:=bnd H
     obtain ⟨al,ar,⟨av,rfl,az⟩⟩:=G9.at m N
     refine Tv z (V.ix O0 z z m (H6 N))<|Tv z (V.fa A1b z)<|Tv z (V.I6 (k:=0) F6 z ar.u z)<|Tv z (V.seq z z)<|Tv z (V.M0 z z)<|Ts z z (SX.two (XA.fr [] Lr z) (XA.fr [] Lr z)) (V.asg z) z ?_ T.Q9
     refine T.R5 (SX.two (XA.fr [] Lr z) (XA.fr [] Lr z))<|Th<|T.met (decide (d.V7 = aq.H7)) Lr (K4 H) (A9.app ⟨z,trivial⟩ ⟨z,z,z,z,z,z,z,trivial⟩) z
    refine Tk z<|Tk z<|Tk z<|Tk z<|Tk z<|Tk z<|Tk z<|Tk z<|Tk z<|Tv z (V.J9 z z)<|Ts z z (SX.two (XA.fr [] Lr z) (XA.fr [] Lr z)) (V.asg z) z ?_ T.Q9
    refine T.R5 (SX.two (XA.fr [] Lr z) (XA.fr [] Lr z))<|Th<|T.met false Lr (K4 H) (A9.app ⟨z,trivial⟩ ⟨z,z,z,z,z,z,z,trivial⟩) z
   rintro r ba bb au
   have H:=J5 au ao
   refine T.norm [35,1,2,7,9,29,30,31] z<|T.fl ?_
   refine T.cH H z (fun H=>?_) (fun H=>?_)
   ·refine T.O8 (t:=(.v 0 (.v 1 (.v 2 (.v 3 (.v 5 (.v 6 (.alt 4 (.g (.v 7 (.alt 8 (.alt 9 (.alt 10 .done .no) .no) .no))) .no)))))))) 9 1 0 rfl rfl I8 (by kernel_rfl) ?_
    refine Tm z z<|Tv z (V.fa K3 z)<|Tv z (V.I6 (k:=0) M9 z n.u z)<|Tm z z<|Tv z (V.fa O4 z)<|Tv z (V.I6 (k:=5) D9 z x.u z) ?_
    obtain ⟨bc,aw,H⟩:=bnd H
    refine Tp z z (SX.two (XA.fr [] Lr z) (XA.fr [0] Lr z)) (O.C8 z (A5n m.u aw _) z fun bd P be bf ax=>?_) T.Q9
    obtain ⟨rfl,ay⟩:=ax
    refine I9 _ ay<|T.M6 Li ?_
    obtain ⟨y,aA,H⟩:=bnd H
    refine Tv z (V.L8 z z aA)<|Tp z z (SX.two (XA.fr [] Lr z) (XA.fr [0] Lr z)) (O.bs D6 Q4 z (e:=z) (hk:=z) (xs:=[.tmp 57]) (hv:=CO.eq (CO.cons z CO.nil)) (hw:=O7.of z) (hd:=z) fun bg=>?_) T.Q9
    have B:A7 (VI .i64) P [[.int .i64 y]] ([y]:List Int):=(A7.cons z A7.nil)
    obtain ⟨S,U,H⟩:=bnd H
    refine Tp z z (SX.two (XA.fr [] Lr z) (XA.fr [1] Lr z)) (O.apX D6 D6 Q4 z z z (j:=1) z (Src.row (j:=0) z) (O7.of z) (A7.ones VI.plain B) w.u B U z fun aB bi bj=>?_) T.Q9
    have aC:A7 (VI .i64) P (a ++ [[.int .i64 y]]) S:=A7.ap w.u B U
    refine I7 1 z<|T.drop<|Ts z z (SX.one (XA.fr [] Lr z) z) (V.asg z) z ?_ T.Q9
    refine T.R5 (SX.one (XA.fr [] Lr z) z)<|Bn<|Bn<|Th<|Rg ?_
    obtain ⟨aD,aE,H⟩:=bnd H
    refine Vv (V.L8 z z aE)<|Mv z<|Nt<|T.again (K,aD,S,aB,(a ++ [[.int .i64 y]])) Li (Nat.lt_succ_self _) ⟨(G8 H A),aC⟩ (A9.app ⟨z,z,trivial⟩ ⟨z,z,z,z,trivial⟩) z
   refine Sq<|T.O8 (t:=(.v 0 (.v 1 (.v 2 (.v 3 (.v 4 (.v 5 (.v 6 (.v 7 (.v 8 (.v 9 (.v 10 (.v 11 (.v 12 (.v 13 (.v 14 (.v 15 (.v 16 (.v 17 (.v 18 (.alt 19 .done .no))))))))))))))))))))) 21 0 0 rfl rfl I8 (by kernel_rfl) ?_
   refine Tv z (V.fa A1T z)<|Tv z (V.I6 (k:=0) A2P z x.u z)<|Tv z (V.eq z z)<|Tm z z<|T.bH 64 H z (fun H=>?_) (fun H=>?_)
   ·exact dead H
   refine Tk z<|Tk z<|Tk z<|Tk z<|Tk z<|Tk z<|Tk z<|Tk z<|Tk z<|Tk z<|Tk z<|Tk z<|Tk z<|Tk z<|Tv z (V.J9 z z)<|Ts z z (SX.two (XA.fr [] Lr z) (XA.fr [] Lr z)) (V.asg z) z ?_ T.Q9
   refine T.R5 (SX.two (XA.fr [] Lr z) (XA.fr [] Lr z))<|Th<|Cf z<|T.skip<|Bn<|Bn<|Th<|Rg ?_
   obtain ⟨aG,aI,H⟩:=bnd H
   refine Vv (V.L8 z z aI)<|Mv z<|Nt<|T.again (K,aG,c,b,a) Li (Nat.lt_succ_self _) ⟨(G8 H A),w.u⟩ (A9.app ⟨z,z,trivial⟩ ⟨z,z,z,z,trivial⟩) z
  refine T.exit<|Te<|Te<|have H:=D7 H A; Be<|Th<|T.met (c,b,a) Li ⟨H,w⟩ (A9.app ⟨z,trivial⟩ trivial) z
 rintro ⟨o,p,q⟩ bk bm ⟨aJ,aK⟩
 have H:=J5 aJ af
 refine T.norm [7] z<|T.fl ?_
 refine Sr<|Mv z ?_
 obtain ⟨bn,aM,H⟩:=bnd H
 refine To (O.C8 z (B3S aK aM _) z fun bo bp bq br aN=>?_)
 obtain ⟨bt,rfl,aO,aP⟩:=aN
 refine I9 _ aO<|Nt<|Sr<|Mv z ?_
 obtain ⟨bu,aS,H⟩:=bnd H
 refine To (O.C8 z (A8y aP aS _) z fun bw bx bA bB aU=>?_)
 obtain ⟨bC,aV,aW⟩:=aU
 refine I9 _ aV<|Ag z<|Nt<|T.ret ?_
 obtain rfl:=Option.some.inj H
 exact T.F5 Tryz.results273 (Rv z) Li ⟨_,z,aW⟩
end Go.Proofs.X
open Go Go.Proofs Go.Sl Go.Dm
namespace Go.Proofs.X
theorem B9S : O3 Tryz.prog 234 5 = some 5:=by kernel_rfl
theorem C2L : X9 Tryz.prog 232 = some (false,1):=by kernel_rfl
theorem B0C : zer Tryz.prog 144 = some (.slice none 0 0):=by kernel_rfl
theorem B9w {h:PH} {k1:Int} {pp1:Addr} {pc1:List Value} {t2:D5} (pa1:AtC h pp1 pc1) (pr1:E8 h pc1 t2) {r_0:Bool} (H:B1Z k1 t2 = some r_0):∀ L,H5 Tryz.prog 344 [.int .i64 k1,.pointer (some pp1)] h (L) (fun v h' L'=>v = .bool r_0∧L' = L):=by
 intro L
 obtain ⟨a,rfl,b⟩:=pr1
 refine H5.enter Tryz.func344 z Tryz.ntmps344 z<|Sr<|Ag z<|Nt<|Sr<|Mv z<|Vv (V.lt z z)<|Mv z<|T.bH 6 H z (fun H=>?_) (fun H=>?_)
 ·exact dead H
 refine Mv z<|Vv (V.Z9 rfl pa1 (by exact U4)) ?_
 obtain ⟨f,c,H⟩:=bnd H
 refine To (O.C8 z (A1N (show E8 h [.string t2.H7,.int .u8 t2.N9,.int .i64 t2.fA,.int .i64 t2.fB,a,.int .i64 t2.fX,.int .i64 t2.fY] t2 from ⟨a,z,b⟩) c _) z fun g i j k d=>?_)
 obtain ⟨rfl,e⟩:=d
 refine I9 _ e<|Vv (V.ge z z)<|Vv (V.J9 z z)<|Ag z<|Nt<|T.ret ?_
 obtain rfl:=Option.some.inj H
 exact T.F5 Tryz.results344 (Rv z) Li ⟨z,z⟩
theorem B9b {h:PH} {k1:Int} {pp1:Addr} {pc1:List Value} {t2:List Int} (pa1:AtC h pp1 pc1) (pr1:(VSl (VI .i64) 1) h pc1 t2) {r_0:Bool} (H:B0S k1 t2 = some r_0):∀ L,H5 Tryz.prog 347 [.int .i64 k1,.pointer (some pp1)] h (L) (fun v h' L'=>v = .bool r_0∧L' = L):=by
 intro L
 obtain ⟨d,rfl,a⟩:=pr1
 refine H5.enter Tryz.func347 z Tryz.ntmps347 z<|Sr<|Ag z<|Nt<|Sr<|Vv (V.ld0 F4 z pa1 z)<|Mv z ?_
 obtain ⟨e,b,H⟩:=bnd H
 obtain ⟨f,c,rfl⟩:=G9.at a b
 refine Vv (V.ix D6 z z a (H6 b))<|Vv (V.ld0 D9 z c z)<|Mv z<|Vv (V.ne z z)<|Ag z<|Nt<|T.ret ?_
 obtain rfl:=Option.some.inj H
 exact T.F5 Tryz.results347 (Rv z) Lr ⟨z,z⟩
theorem C0B {h:PH} {pc0:List Value} {t1:D5} (pr0:E8 h pc0 t1) {pv1:Value} {p4:List Int} (pr1:G9 (VI .i64) 1 h pv1 p4) {r_0:Bool} (H:B8t t1 p4 = some r_0):∀ L,H5 Tryz.prog 346 [.agg pc0.toArray,pv1] h (L) (fun v h' L'=>v = .bool r_0∧L' = L):=by
 intro L
 obtain ⟨a,rfl,c⟩:=pr0
 refine H5.enter Tryz.func346 z Tryz.ntmps346 z<|Sr<|To (O.V3 z z z fun aB aC aD d=>Ag z<|Nt<|Sq<|Sr<|Mv z<|Vv (V.P6 D6 z pr1)<|Mv z<|Nt ?_)
 obtain ⟨j,x,y⟩:=N7 H
 refine T.O5 (α:=Unit) [] z (fun _u=>[]) (fun _u=>L) (fun _u hh=>j = ()) ?_ ?_
 ·have H:=x
  refine Bl<|T.N8 (α:=Nat×Int) [1,2,8] z (fun ⟨e,b⟩=>[(9,.int .i64 b)]) (fun ⟨e,b⟩=>L) (fun ⟨e,b⟩ hh=>iter (B3m t1 p4) e b = some j) (fun ⟨e,b⟩=>e) (FUEL,(0:Int)) ⟨z,trivial⟩ z H ?_
  rintro ⟨e,b⟩ aE aG A
  obtain ⟨B,aI,rfl,H,m⟩:=I4 A
  refine T.norm [9,1,2,8] z<|T.fl ?_
  refine Sr<|Vv (V.lt z z)<|Nt<|Sq<|T.cH H z (fun H=>?_) (fun H=>?_)
  ·refine T.skip<|Th<|Sq<|Bl<|Sr<|Mv z<|Ag z<|Nt<|Sq<|Sq<|T.O8 (t:=(.v 0 (.v 1 (.v 2 (.v 4 (.v 5 (.v 6 (.v 7 (.v 8 (.v 9 (.alt 3 (.g (.alt 10 (.g (.v 11 .done)) .no)) .no))))))))))) 13 0 0 rfl rfl I8 (by kernel_rfl) ?_
   refine Tv z (V.fa A0P z)<|Tv z (V.I6 (k:=4) F4 z d.u z)<|Tm z z<|Tv z (V.fa A0P z)<|Tv z (V.I6 (k:=4) F4 z d.u z)<|Tm z z<|Tm z z ?_
   obtain ⟨aJ,n,H⟩:=bnd H
   obtain ⟨aK,C,rfl⟩:=G9.at pr1 n
   refine Tv z (V.ix D6 z z pr1 (H6 n))<|Tv z (V.ld0 D9 z C.u z) ?_
   obtain ⟨aM,D,H⟩:=bnd H
   refine Tp z z (SX.two (XA.fr [] Lr z) (XA.fr [] Lr z)) (O.C8 z (A1f c.u D _) z fun aN aO aP aS E=>?_) T.Q9
   obtain ⟨rfl,G⟩:=E
   refine I9 _ G<|T.M6 Li ?_
   obtain ⟨aU,I,H⟩:=bnd H
   refine Tp z z (SX.two (XA.fr [] Lr z) (XA.fr [] Lr z)) (O.C8 z (A1f c.u I _) z fun aV aW aX aY J=>?_) T.Q9
   obtain ⟨rfl,K⟩:=J
   refine I9 _ K<|T.M6 Li<|Tv z (V.bne Tryz.underlying4 z z)<|T.R5 (SX.two (XA.fr [] Lr z) (XA.fr [] Lr z))<|Th<|T.cH H z (fun H=>?_) (fun H=>?_)
   ·exact dead H
   refine T.skip<|Th<|Sr<|Mv z<|Mv z<|Nt<|T.A4J ?_
   obtain ⟨o,M,N⟩:=N7 H
   refine T.O5 (α:=Unit) [1,2,8,9] z (fun _u=>[]) (fun _u=>L) (fun _u hh=>o = ()) ?_ ?_
   ·have H:=M
    refine Bl<|T.N8 (α:=Nat×Int) [1,2,5,8,9,24] z (fun ⟨f,i⟩=>[(25,.int .i64 i)]) (fun ⟨f,i⟩=>L) (fun ⟨f,i⟩ hh=>iter (B3M t1 p4 b) f i = some o) (fun ⟨f,i⟩=>f) (FUEL,(0:Int)) ⟨z,trivial⟩ z H ?_
    rintro ⟨f,i⟩ P aZ S
    obtain ⟨U,a0,rfl,H,p⟩:=I4 S
    refine T.norm [25,1,2,5,8,9,24] z<|T.fl ?_
    refine Sr<|Vv (V.lt z z)<|Nt<|Sq<|T.cH H z (fun H=>?_) (fun H=>?_)
    ·refine T.skip<|Th<|Sq<|Bl<|Sr<|Mv z<|Ag z<|Nt<|Sq<|T.O8 (t:=(.v 0 (.v 1 (.v 2 (.v 4 (.v 5 (.v 6 (.v 7 (.v 8 (.v 9 (.v 10 (.v 11 (.v 12 (.alt 3 (.g (.alt 13 (.g (.v 14 (.v 15 (.v 16 (.v 17 (.v 18 (.v 20 (.v 21 (.v 22 (.v 23 (.v 24 (.v 25 (.v 26 (.v 27 (.v 28 (.alt 19 (.g (.alt 29 (.g (.v 30 (.v 31 .done))) .no)) .no)))))))))))))))) .no)) .no)))))))))))))) 33 0 0 rfl rfl I8 (by kernel_rfl) ?_
     refine Tv z (V.Z9 rfl d.u (by exact U4)) ?_
     refine Tm z z<|Tm z z<|Tv z (V.Z9 rfl d.u (by exact U4)) ?_
     refine Tm z z<|Tm z z ?_
     obtain ⟨a1,q,H⟩:=bnd H
     obtain ⟨a2,W,rfl⟩:=G9.at pr1 q
     refine Tv z (V.ix D6 z z pr1 (H6 q))<|Tv z (V.ld0 D9 z W.u z)<|Tm z z<|Tm z z ?_
     obtain ⟨a3,r,H⟩:=bnd H
     obtain ⟨a4,X,rfl⟩:=G9.at pr1 r
     refine Tv z (V.ix D6 z z pr1 (H6 r))<|Tv z (V.ld0 D9 z X.u z) ?_
     obtain ⟨a5,Y,H⟩:=bnd H
     refine Tp z z (SX.two (XA.fr [] Lr z) (XA.fr [] Lr z)) (O.C8 z (A4s (show E8 P [.string t1.H7,.int .u8 t1.N9,.int .i64 t1.fA,.int .i64 t1.fB,a,.int .i64 t1.fX,.int .i64 t1.fY] t1 from ⟨a,z,c.u⟩) Y _) z fun a6 Z a7 a8 aa=>?_) T.Q9
     obtain ⟨rfl,ab⟩:=aa
     refine I9 _ ab<|T.M6 Li ?_
     obtain ⟨a9,ac,H⟩:=bnd H
     refine Tp z z (SX.two (XA.fr [] Lr z) (XA.fr [] Lr z)) (O.C8 z (A4s (show E8 Z [.string t1.H7,.int .u8 t1.N9,.int .i64 t1.fA,.int .i64 t1.fB,a,.int .i64 t1.fX,.int .i64 t1.fY] t1 from ⟨a,z,c.u⟩) ac _) z fun ah ad al av ae=>?_) T.Q9
     obtain ⟨rfl,af⟩:=ae
     refine I9 _ af<|T.M6 Li<|Tv z (V.bne Tryz.underlying4 z z)<|Tm z z<|T.bH 43 H z (fun H=>?_) (fun H=>?_)
     ·exact dead H
     refine Tv z (V.Z9 rfl d.u (by exact U4)) ?_
     refine Tm z z<|Tm z z<|Tv z (V.Z9 rfl d.u (by exact U4)) ?_
     refine Tm z z<|Tm z z ?_
     obtain ⟨az,s,H⟩:=bnd H
     obtain ⟨ba,ag,rfl⟩:=G9.at pr1 s
     refine Tv z (V.ix D6 z z pr1 (H6 s))<|Tv z (V.ld0 D9 z ag.u z)<|Tm z z<|Tm z z ?_
     obtain ⟨bb,w,H⟩:=bnd H
     obtain ⟨bc,ai,rfl⟩:=G9.at pr1 w
     refine Tv z (V.ix D6 z z pr1 (H6 w))<|Tv z (V.ld0 D9 z ai.u z) ?_
     obtain ⟨bd,aj,H⟩:=bnd H
     refine Tp z z (SX.two (XA.fr [] Lr z) (XA.fr [] Lr z)) (O.C8 z (A4B (show E8 ad [.string t1.H7,.int .u8 t1.N9,.int .i64 t1.fA,.int .i64 t1.fB,a,.int .i64 t1.fX,.int .i64 t1.fY] t1 from ⟨a,z,c.u⟩) aj _) z fun be ak bf bg am=>?_) T.Q9
     obtain ⟨rfl,an⟩:=am
     refine I9 _ an<|T.M6 Li ?_
     obtain ⟨bi,ao,H⟩:=bnd H
     refine Tp z z (SX.two (XA.fr [] Lr z) (XA.fr [] Lr z)) (O.C8 z (A4B (show E8 ak [.string t1.H7,.int .u8 t1.N9,.int .i64 t1.fA,.int .i64 t1.fB,a,.int .i64 t1.fX,.int .i64 t1.fY] t1 from ⟨a,z,c.u⟩) ao _) z fun bj bk bm bn ap=>?_) T.Q9
     obtain ⟨rfl,aq⟩:=ap
     refine I9 _ aq<|T.M6 Li<|Tv z (V.bne Tryz.underlying4 z z)<|Tv z (V.J9 z z)<|T.R5 (SX.two (XA.fr [] Lr z) (XA.fr [] Lr z))<|Th<|T.cH H z (fun H=>?_) (fun H=>?_)
     ·exact dead H
     refine T.skip<|Bn<|Th<|T.norm [1,2,5,8,9,24,25] z<|Rg ?_
     obtain ⟨ar,au,H⟩:=bnd H
     refine Vv (V.L8 z z au)<|Mv z<|Nt<|T.again (U,ar) Li (Nat.lt_succ_self _) (G8 H p) (A9.app ⟨z,trivial⟩ ⟨z,z,z,z,z,z,trivial⟩) z
    refine T.exit<|Te<|Te<|have H:=D7 H p; Be<|Th<|T.met () Li H (A9.app trivial ⟨z,z,z,z,trivial⟩) z
   rintro _ bo bp aw
   have H:=J5 aw N
   refine T.norm [1,2,8,9] z<|T.fl ?_
   refine Bn<|Th<|Rg ?_
   obtain ⟨ax,ay,H⟩:=bnd H
   refine Vv (V.L8 z z ay)<|Mv z<|Nt<|T.again (B,ax) Li (Nat.lt_succ_self _) (G8 H m) (A9.app ⟨z,trivial⟩ ⟨z,z,z,trivial⟩) z
  refine T.exit<|Te<|Te<|have H:=D7 H m; Be<|Th<|T.met () Li H (A9.app trivial trivial) z
 rintro _ bq br aA
 have H:=J5 aA y
 refine T.norm [] z<|T.fl ?_
 refine Sr<|Ag z<|Nt<|T.ret ?_
 obtain rfl:=Option.some.inj H
 exact T.F5 Tryz.results346 (Rv z) Li ⟨z,z⟩
theorem B1Y {h:PH} {σ:Type} {R:σ→PH→List E9→Prop} {pv0:Value} {yield1:σ→(List Int)→Option (σ×Bool)} (pr0:B1w R h pv0 yield1) {s0:σ} {La:List E9} (hRa:R s0 h La) {pp1:Addr} {pc1:List Value} {t2:D5} (pa1:AtC h pp1 pc1) (pr1:E8 h pc1 t2) {q_s:σ} (H:A7D yield1 s0 t2 = some q_s):∀ As L,H5 Tryz.prog 381 [pv0,.pointer (some pp1)] h ((As ++ (La ++ L))) (fun v h' L'=>∃ La',v = .tuple #[]∧L' = (As ++ (La' ++ L))∧R q_s h' La'):=by
 intro As L
 obtain ⟨A,rfl,W⟩:=pr1
 refine H5.enter Tryz.func381 z Tryz.ntmps381 z<|Sr<|Vv (V.fa A3W z)<|Vv (V.I6 (k:=1) A6l z pa1 z) ?_
 obtain ⟨⟨X,br⟩,Y,H⟩:=bnd H
 refine To (O.C8 z (A2i Y _) z fun bs bt bu Z aa=>?_)
 obtain ⟨ab,ac,ad,ae,af,rfl,ag,ai,aj,ak,am,B⟩:=aa
 refine I9 _ ag<|Mv z<|Vv (V.ext rfl rfl)<|Vv (V.ext rfl rfl)<|To (O.alloc A4I rfl rfl fun bw=>To (O.stF (vs:=[.string X.A5E,ab,ac,ad,ae,af]) A0y rfl rfl (j:=0) rfl rfl (by (simp only [Sl.ones,ai.1.1,aj.1.1,ak.1.1,am.1.1,B.1.1,Bool.and_true,Bool.true_and]) <;> rfl) rfl ?_))
 refine T.freeze fun an ao ap=>have aq:=AtC.of ap; Ag z<|Nt<|Sr<|Vv (V.Z9 rfl pa1.u (by exact U4)) ?_
 obtain ⟨C,ar,H⟩:=bnd H
 refine To (O.C8 z (A1N (show E8 an [.string t2.H7,.int .u8 t2.N9,.int .i64 t2.fA,.int .i64 t2.fB,A,.int .i64 t2.fX,.int .i64 t2.fY] t2 from ⟨A,z,W.u⟩) ar _) z fun bx au bA aw ax=>?_)
 obtain ⟨rfl,ay⟩:=ax
 refine I9 _ ay<|Ag z<|Nt<|Sr<|Vv (V.fa B9S z)<|Vv (V.I6 (k:=5) C2L z aq.u z)<|Vv (V.fa A0q z)<|Vv (V.I6 (k:=2) D9 z pa1.u z)<|Vv (V.fa A1c z)<|Vv (V.I6 (k:=3) D9 z pa1.u z) ?_
 obtain ⟨aA,aB,H⟩:=bnd H
 obtain ⟨bB,bC,bD,aC,aD⟩:=A8U.call (B.u (g:=au)) aB
 refine To (O.A1m z aC z (aD _) z fun bE bG bI aE aG=>?_)
 obtain ⟨aI,w⟩:=aG
 refine I9 _ aI<|Vv (V.P6 A1E z w)<|Mv z<|Nt<|T.A4J ?_
 obtain ⟨D,aJ,aK⟩:=N7 H
 refine T.O5 (α:=σ×(List E9)) [] z (fun ⟨q,d⟩=>[]) (fun ⟨q,d⟩=>(As ++ (d ++ L))) (fun ⟨q,d⟩ hh=>D = q∧R q hh d) ?_ ?_
 ·have H:=aJ
  refine Bl<|have aM:=(((Z.trans ao).trans aw).trans aE); have aN:=pr0.2.1 _ _ _ _ aM hRa; T.N8 (α:=Nat×σ×Int×(List E9)) [0,5,24,25] z (fun ⟨i,e,m,a⟩=>[(26,.int .i64 m)]) (fun ⟨i,e,m,a⟩=>(As ++ (a ++ L))) (fun ⟨i,e,m,a⟩ hh=>iter (A5B yield1 C aA) i (e,m) = some D∧R e hh a) (fun ⟨i,e,m,a⟩=>i) (FUEL,s0,(0:Int),La) ⟨z,trivial⟩ z ⟨H,aN⟩ ?_
  rintro ⟨i,e,m,a⟩ aO bJ ⟨aP,E⟩
  obtain ⟨aS,bK,rfl,H,G⟩:=I4 aP
  refine T.norm [26,0,5,24,25] z<|I9 ((As ++ (a ++ L))) z<|Sr<|Vv (V.lt z z)<|Nt<|Sq<|T.cH H z (fun H=>?_) (fun H=>?_)
  ·refine T.skip<|Th<|Sq<|Bl<|Sr ?_
   obtain ⟨aU,I,H⟩:=bnd H
   obtain ⟨bM,aV,⟨bN,rfl,aW⟩⟩:=G9.at w I
   refine Vv (V.ix A1E z z w (H6 I))<|Vv (V.ld0 A3S z aV.u z)<|Ag z<|Nt<|Sr<|Mv z ?_
   obtain ⟨x,J,H⟩:=bnd H
   refine To (O.mkX D6 Q4 z z z z J z fun n bO bP=>have K:A7 (VI .i64) aO _ x:=A7.rep z J; Ag z<|Nt<|Sq<|Sr<|Mv z<|Vv (V.A2E D6 z (j:=0) z K.len)<|Mv z<|Nt ?_)
   obtain ⟨M,aX,aY⟩:=N7 H
   refine T.O5 (α:=(List Int)×(List (List Value))) [0,5,24,25,26] z (fun ⟨r,o⟩=>[(8,n)]) (fun ⟨r,o⟩=>D8 3 1 n o::(As ++ (a ++ L))) (fun ⟨r,o⟩ hh=>M = r∧A7 (VI .i64) hh o r) ?_ ?_
   ·have H:=aX
    refine Bl<|T.N8 (α:=Nat×Int×(List Int)×(List (List Value))) [0,5,7,24,25,26,33] z (fun ⟨p,c,f,b⟩=>[(34,.int .i64 c),(8,n)]) (fun ⟨p,c,f,b⟩=>D8 3 1 n b::(As ++ (a ++ L))) (fun ⟨p,c,f,b⟩ hh=>iter (A5q aU x) p (c,f) = some M∧A7 (VI .i64) hh b f) (fun ⟨p,c,f,b⟩=>p) (FUEL,(0:Int),x,(List.replicate C.toNat [.int .i64 (0:Int)])) ⟨z,z,trivial⟩ z ⟨H,K⟩ ?_
    rintro ⟨p,c,f,b⟩ aZ bS ⟨a0,s⟩
    obtain ⟨a1,bU,rfl,H,N⟩:=I4 a0
    refine T.norm [34,8,0,5,7,24,25,26,33] z<|I9 (D8 3 1 n b::(As ++ (a ++ L))) z<|Sr<|Vv (V.lt z z)<|Nt<|Sq<|T.cH H z (fun H=>?_) (fun H=>?_)
    ·refine T.skip<|Th<|Sq<|Bl<|Sr<|Mv z<|Ag z<|Nt<|Rg<|Mv z<|Mv z<|Mv z<|Mv z ?_
     obtain ⟨t,a2,H⟩:=bnd H
     obtain ⟨bV,bW,bX,a3,a4⟩:=A5U.call (aW.u (g:=aZ)) a2
     refine To (O.A1m z a3 z (a4 _) z fun bY P bZ b0 a5=>?_)
     obtain ⟨rfl,a6⟩:=a5
     refine I9 _ a6 ?_
     obtain ⟨b1,y,H⟩:=bnd H
     obtain ⟨b2,b3,rfl⟩:=A7.get s y
     refine Vv (V.ixR D6 z z (j:=0) z (A7.bd s y)) ?_
     obtain ⟨S,a7,H⟩:=bnd H
     refine To (O.stR D9 z z (j:=0) z (A7.bdN s y) z<|have a8:A7 (VI .i64) P (b.set c.toNat [.int .i64 t]) S:=A7.set s.u (show (VI .i64) P [.int .i64 t] t from z) a7; Ni<|Bn<|Th<|Rg ?_)
     obtain ⟨a9,ah,H⟩:=bnd H
     refine Vv (V.L8 z z ah)<|Mv z<|Nt<|T.again (a1,a9,S,(b.set c.toNat [.int .i64 t])) Li (Nat.lt_succ_self _) ⟨(G8 H N),a8⟩ (A9.app ⟨z,z,trivial⟩ ⟨z,z,z,z,z,z,z,trivial⟩) z
    refine T.exit<|Te<|Te<|have H:=D7 H N; Be<|Th<|T.met (f,b) Li ⟨H,s⟩ (A9.app ⟨z,trivial⟩ ⟨z,z,z,z,z,trivial⟩) z
   rintro ⟨r,o⟩ b4 al ⟨av,az⟩
   have H:=J5 av aY
   refine T.norm [8,0,5,24,25,26] z<|I9 (D8 3 1 n o::(As ++ (a ++ L))) z<|Sr<|Mv z<|Mv z<|T.K8 fun b5 ba bb=>have bc:=A7.slc bb az.u; ?_
   obtain ⟨⟨be,b6⟩,bf,H⟩:=bnd H
   have bg:=(al.trans ba)
   have bi:=pr0.2.1 _ _ _ _ bg E
   refine To (O.C4x z z (B1w.call pr0.u bc bi bf As _) z fun b7 b8 b9 bh bj=>?_)
   obtain ⟨U,rfl,bk,bm⟩:=bj
   refine I9 ((As ++ (U ++ L))) bk<|Vv (V.not z)<|Nt<|T.cH H z (fun H=>?_) (fun H=>?_)
   ·exact dead H
   refine T.skip<|Bn<|Th<|Rg ?_
   obtain ⟨bn,bo,H⟩:=bnd H
   refine Vv (V.L8 z z bo)<|Mv z<|Nt<|T.again (aS,be,bn,U) Li (Nat.lt_succ_self _) ⟨(G8 H G),bm⟩ (A9.app ⟨z,trivial⟩ ⟨z,z,z,z,trivial⟩) z
  refine T.exit<|Te<|Te<|have H:=D7 H G; Be<|Th<|T.met (e,a) Li ⟨H,E⟩ (A9.app trivial trivial) z
 rintro ⟨q,d⟩ bl bv ⟨bp,bq⟩
 have H:=J5 bp aK
 refine T.norm [] z<|I9 ((As ++ (d ++ L))) z ?_
 obtain rfl:=Option.some.inj H
 exact T.B2D Tryz.results381 Li ⟨d,z,z,bq⟩
theorem B3U {h:PH} {pc0:List Value} {t1:D5} (pr0:E8 h pc0 t1) {r_0:D5} (H:A9T t1 = some r_0):∀ L,H5 Tryz.prog 345 [.agg pc0.toArray] h (L) (fun v h' L'=>∃ p0_1 v0_3,v = .func (.func 381) #[] #[.pointer (some p0_1)]∧L' = L∧AtC h' p0_1 [.string r_0.H7,.int .u8 r_0.N9,.int .i64 r_0.fA,.int .i64 r_0.fB,v0_3,.int .i64 r_0.fX,.int .i64 r_0.fY]∧G9 (VI .i64) 1 h' v0_3 r_0.A0N):=by
 intro L
 obtain ⟨c,rfl,a⟩:=pr0
 refine H5.enter Tryz.func345 z Tryz.ntmps345 z<|Sr<|To (O.V3 z z z fun d e f b=>Ag z<|Nt<|Sr<|Vv (V.mkf z z)<|Ag z<|Nt<|T.ret ?_)
 obtain rfl:=Option.some.inj H
 exact T.F5 Tryz.results345 (Rv z) Li ⟨_,_,z,z,b,a.u⟩
theorem C1Z {h:PH} {pc0:List Value} {t1:D5} (pr0:E8 h pc0 t1) {pv1:Value} {seats4:List Int} (pr1:G9 (VI .i64) 1 h pv1 seats4) {r_0:List (List Int)} (H:C0O t1 seats4 = some r_0):∀ L,H5 Tryz.prog 274 [.agg pc0.toArray,pv1] h (L) (fun v h' L'=>∃ cs0,L' = D8 25 1 v cs0::L∧A7 (VSl (VI .i64) 1) h' cs0 r_0):=by
 intro L
 obtain ⟨c,rfl,k⟩:=pr0
 refine H5.C7D Tryz.func274 rfl Tryz.ntmps274 rfl<|Sr<|To (O.V3 rfl rfl rfl fun y az ba m=>To (O.V3 rfl (G9.cells pr1) rfl fun bb G bc A=>Ag z<|Nt<|Sq<|Sr<|Vv (V.Z9 rfl m.u (by exact U4)) ?_))
 obtain ⟨bd,I,H⟩:=bnd H
 refine To (O.C8 z (A7X (show E8 G [.string t1.H7,.int .u8 t1.N9,.int .i64 t1.fA,.int .i64 t1.fB,c,.int .i64 t1.fX,.int .i64 t1.fY] t1 from ⟨c,z,k.u⟩) I _) z fun be J bf bg K=>?_)
 obtain ⟨rfl,M⟩:=K
 refine I9 _ M<|Vv (V.ne z z)<|Mv z<|T.bH 10 H z (fun H=>?_) (fun H=>?_)
 ·exact dead H
 refine Vv (V.ld0 F4 z A.u z)<|Vv (V.mkf z z) ?_
 obtain ⟨bi,N,H⟩:=bnd H
 refine To (O.C8 z (A2L pr1.u (show A1S J (.func (.func 344) #[] #[.pointer (some ⟨y,0,none⟩)]) (fun q=>B1Z q t1) from ⟨⟨z,z⟩,.inr ⟨344,[],[.pointer (some ⟨y,0,none⟩)],z,fun P bj bk bm U W=>B9w m.u (show E8 P [.string t1.H7,.int .u8 t1.N9,.int .i64 t1.fA,.int .i64 t1.fB,c,.int .i64 t1.fX,.int .i64 t1.fY] t1 from ⟨c,z,k.u⟩) U W⟩⟩) N _) z fun bn X bo bp Y=>?_)
 obtain ⟨rfl,Z⟩:=Y
 refine I9 _ Z<|Vv (V.J9 z z)<|Nt<|T.cH H z (fun H=>?_) (fun H=>?_)
 ·exact dead H
 refine T.skip<|Th<|Sr<|To (O.alloc B0C rfl rfl fun n=>Nt<|Sq<|Sr<|Vv (V.Z9 rfl m.u (by exact U4)) ?_)
 obtain ⟨f,aa,H⟩:=bnd H
 refine To (O.C8 z (B3U (show E8 X [.string t1.H7,.int .u8 t1.N9,.int .i64 t1.fA,.int .i64 t1.fB,c,.int .i64 t1.fX,.int .i64 t1.fY] t1 from ⟨c,z,k.u⟩) aa _) z fun bq r br bt ab=>?_)
 obtain ⟨bu,B,rfl,ac,ad,ae⟩:=ab
 refine I9 _ ac<|Nt<|Bl ?_
 obtain ⟨bw,af,ag⟩:=N7 H
 refine T.A0n 25 1<|have ai:A7 (VSl (VI .i64) 1) r [] ([]:List (List Int)):=A7.nil; I7 1 z<|T.C7j (S:=(List (List Int))) (O:=Unit) (La0:=[blk n (.cells [(.slice none 0 0)].toArray 144),D8 25 1 (.slice none 0 0) []]) (Lr:=L) (fun o hh aj=>∃ b:Value,∃ a:List (List Value),aj = ([blk n (.cells [b].toArray 144),D8 25 1 b a]:List E9)∧A7 (VSl (VI .i64) 1) hh a o) (fun _ _ _ _=>False) z z ⟨(.slice none 0 0),[],z,ai⟩ (fun R_ y_=>B1w R_ r y_ (B4L t1 seats4)) (fun bx=>⟨⟨z,z⟩,RYs.mono (fun o _ _ _ l_ ⟨b,a,e_,f0_⟩=>⟨b,a,e_,A7.mono (VSl.mono VI.mono) f0_ l_⟩) (fun _ _ _ _ _ _ q_=>q_),?_⟩) (fun _ La_ ak am an=>H5.perm (List.Perm.refl _) (B1Y ak am ad (show E8 r [.string f.H7,.int .u8 f.N9,.int .i64 f.fA,.int .i64 f.fB,B,.int .i64 f.fX,.int .i64 f.fY] f from ⟨B,z,ae⟩) af [] an) fun _ _ _ ⟨La_,_,e_,q_⟩=>⟨_,List.Perm.refl _,La_,e_,q_⟩) ?_ ?_
 ·intro bA bB d s g ao bC bD bE aq H As_ L_
  rcases ao with o | _
  rotate_left
  ·exact dead H
  obtain ⟨bG,_,rfl,t,ar,bI,b,a,rfl,i⟩:=aq
  refine Yld.front fun L=>Yld.C7n (j:=0) z t z<|T.fl ?_
  refine Rg<|To (O.alloc A2z rfl rfl fun C=>To (O.stF (vs:=[d]) F4 rfl rfl (j:=0) rfl (G9.cells g) (by (simp only [Sl.ones,G9.one g,Bool.and_true,Bool.true_and]) <;> rfl) rfl ?_))
  refine T.fl ?_
  refine T.freeze fun au bJ aw=>have w:=AtC.of aw; Nt<|T.begin (j:=0) z ar<|T.fl ?_
  refine Bl<|Sr<|Vv (V.Z9 rfl m.u (by exact U4)) ?_
  refine Vv (V.ld0 F4 z w z) ?_
  obtain ⟨bK,ax,H⟩:=bnd H
  refine To (O.C8 z (C0B (show E8 au [.string t1.H7,.int .u8 t1.N9,.int .i64 t1.fA,.int .i64 t1.fB,c,.int .i64 t1.fX,.int .i64 t1.fY] t1 from ⟨c,z,k.u⟩) g.u ax _) z fun bM ay bN bO aA=>?_)
  obtain ⟨rfl,aB⟩:=aA
  refine I9 _ aB<|Mv z<|T.bH 21 H z (fun H=>?_) (fun H=>?_)
  ·refine Vv (V.ld0 F4 z A.u z)<|Vv (V.mkf z z) ?_
   obtain ⟨bP,aC,H⟩:=bnd H
   refine To (O.C8 z (A2L pr1.u (show A1S ay (.func (.func 347) #[] #[.pointer (some ⟨C,0,none⟩)]) (fun q=>B0S q s) from ⟨⟨z,z⟩,.inr ⟨347,[],[.pointer (some ⟨C,0,none⟩)],z,fun aD bS bU bV aE aG=>B9b w.u (show (VSl (VI .i64) 1) aD [d] s from ⟨d,z,g.u⟩) aE aG⟩⟩) aC _) z fun bW D bX bY aI=>?_)
   obtain ⟨rfl,aJ⟩:=aI
   refine I9 _ aJ<|Vv (V.not z)<|Vv (V.M0 z z)<|Nt<|T.cH H z (fun H=>?_) (fun H=>?_)
   ·refine Rg<|Vv (V.A6h A0D z (j:=1) z z)<|Vv (V.ld0 F4 z w.u z)<|To (O.bs Q7 A2z z (e:=z) (hk:=z) (xs:=[.tmp 28]) (hv:=CO.eq (CO.cons (G9.cells g) CO.nil)) (hw:=O7.of z) (hd:=z) fun bZ=>have x:A7 (VSl (VI .i64) 1) D [[d]] ([s]:List (List Int)):=(A7.cons ⟨d,z,g.u⟩ A7.nil); ?_)
    obtain ⟨aK,E,H⟩:=bnd H
    refine To (O.apX Q7 Q7 A2z z z z (j:=3) z (Src.row (j:=0) z) (O7.of z) (A7.ones VSl.plain x) i.u x E z fun p b0 b1=>have aM:A7 (VSl (VI .i64) 1) D (a ++ [[d]]) aK:=A7.ap i.u x E; T.fl ?_)
    refine I7 1 z<|T.fl ?_
    refine T.drop<|T.M5 0 rfl fun aN aO=>To (O.stF (vs:=[p]) A0D rfl rfl (j:=2) rfl aO (by (simp only [Sl.ones,aN,Bool.and_true,Bool.true_and]) <;> rfl) rfl ?_)
    refine T.fl ?_
    refine Ni<|Bn<|I7 1 z<|T.fl ?_
    refine I7 1 z<|T.fl ?_
    refine I7 2 z<|T.fl ?_
    obtain ⟨rfl,rfl⟩:=inj2 H
    exact T.C8c (j:=0) z Li ⟨_::[blk n (.cells [p].toArray 144),D8 25 1 p (a ++ [[d]])],z,z,⟨_,_,z,t.turn .ready none,z,z,⟨p,(a ++ [[d]]),z,aM⟩⟩⟩
   refine T.skip<|Bn ?_
   obtain ⟨rfl,rfl⟩:=inj2 H
   exact T.C8c (j:=0) z Li ⟨_::[blk n (.cells [b].toArray 144),D8 25 1 b a],z,z,⟨_,_,z,t.turn .ready none,z,z,⟨b,a,z,i.u⟩⟩⟩
  exact dead H
 ·rintro b2 aP _ o b3 aS ⟨b,a,rfl,i⟩
  have H:=J5 aS ag
  refine T.fl ?_
  refine Bn<|Th<|Sr<|Vv (V.A6h A0D z (j:=1) z z)<|I7 2 z<|T.fl ?_
  obtain ⟨b4,aU,H⟩:=bnd H
  refine To (O.C8 z (B4m i (show A7w aP (.func (.func 349) #[] #[]) A7K from ⟨⟨z,z⟩,.inr ⟨349,[],[],z,fun b5 b6 b7 b8 aV b9 bh aW bl aX aY=>B6k aV aW aX aY⟩⟩) aU _) z fun bv aZ bz ca a0=>?_)
  obtain ⟨cb,rfl,a1,a2⟩:=a0
  refine I9 _ a1<|Nt<|Sr<|Vv (V.A6h A0D z (j:=2) z z) ?_
  obtain ⟨cc,a3,H⟩:=bnd H
  refine To (O.C8 z (B0o a2 (show B7v aZ (.func (.func 351) #[] #[]) B0t from ⟨⟨z,z⟩,.inr ⟨351,[],[],z,fun cd ce cf cg a4 ci cj a5 ck a6 a7=>B8D a4 a5 a6 a7⟩⟩) a3 _) z fun a8 cm cn co a9=>?_)
  obtain ⟨ah,al,av⟩:=a9
  refine I9 _ al<|Ag z<|Nt<|T.ret<|I7 2 z<|T.fl ?_
  refine T.drop<|I7 1 z<|T.C8k<|T.C7u (j:=0) z<|T.fl ?_
  obtain rfl:=Option.some.inj H
  exact T.C5Q (L':=D8 25 1 a8 ah::L) Tryz.results274 (Rv z) Li (fun _ iv=>iv) ⟨_,z,av⟩
 rintro _ _ _ _ _ _ _ ⟨⟩
end Go.Proofs.X
open Go Go.Proofs Go.Sl Go.Dm
namespace Go.Proofs.X
theorem C0q {h:PH} {pc0:List Value} {p1:A8} (pr0:C9 h pc0 p1) {t12:Int} {r_0:List (List Int)} (H:B8I p1 t12 = some r_0):∀ L,H5 Tryz.prog 174 [.agg pc0.toArray,.int .i64 t12] h (L) (fun v h' L'=>∃ cs0,L' = D8 25 1 v cs0::L∧A7 (VSl (VI .i64) 1) h' cs0 r_0):=by
 intro L
 obtain ⟨w,x,y,A,B,rfl,o,N,P,S,U⟩:=pr0
 refine H5.enter Tryz.func174 rfl Tryz.ntmps174 rfl<|Sr<|To (O.V3 rfl rfl rfl fun aN W aO q=>Ag z<|Nt<|Sr<|Ag z<|Nt<|Sq<|Sr<|Vv (V.Z9 rfl q (by exact F9)) ?_)
 refine Mv z ?_
 obtain ⟨X,Y,H⟩:=bnd H
 refine To (O.C8 z (B9m (show C9 W [w,x,y,A,B] p1 from ⟨w,x,y,A,B,z,o.u,N.u,P.u,S.u,U.u⟩) Y _) z fun Z aa aP aS ab=>?_)
 obtain ⟨ac,ad,r⟩:=ab
 refine I9 _ ad<|Vv (V.A2E D6 z (j:=0) z r.len)<|Mv z<|Nt ?_
 obtain ⟨C,ae,af⟩:=N7 H
 refine T.O5 (α:=(List Int)×Value×(List (List Value))) [1,2] z (fun ⟨i,m,n⟩=>[(5,m)]) (fun ⟨i,m,n⟩=>D8 3 1 m n::L) (fun ⟨i,m,n⟩ hh=>C = i∧A7 (VI .i64) hh n i) ?_ ?_
 ·have H:=ae
  refine Bl<|T.A0n 3 1<|have ag:A7 (VI .i64) aa [] ([]:List Int):=A7.nil; I7 1 z<|T.N8 (α:=Nat×Int×(List Int)×Value×(List (List Value))) [1,2,10,11] z (fun ⟨f,g,b,c,a⟩=>[(12,.int .i64 g),(5,c)]) (fun ⟨f,g,b,c,a⟩=>D8 3 1 Z ac::D8 3 1 c a::L) (fun ⟨f,g,b,c,a⟩ hh=>iter (B3a p1 t12 X) f (g,b) = some C∧A7 (VI .i64) hh a b) (fun ⟨f,g,b,c,a⟩=>f) (FUEL,(0:Int),([]:List Int),(.slice none 0 0),[]) ⟨z,z,trivial⟩ z ⟨H,ag⟩ ?_
  rintro ⟨f,g,b,c,a⟩ aU aV ⟨ai,s⟩
  obtain ⟨aj,aW,rfl,H,D⟩:=I4 ai
  refine T.norm [12,5,1,2,10,11] z<|T.fl ?_
  refine Sr<|Vv (V.lt z z)<|Nt<|Sq<|T.cH H z (fun H=>?_) (fun H=>?_)
  ·refine T.skip<|Th<|Sq<|Bl<|Sr ?_
   obtain ⟨aX,E,H⟩:=bnd H
   obtain ⟨aY,ak,rfl⟩:=A7.get r E
   refine Vv (V.ixR D6 z z (j:=0) z (A7.bd r E))<|Vv (V.ldR D9 z (j:=0) z ak z)<|Ag z<|Nt<|Rg<|Mv z<|Mv z<|Vv (V.fa K3 z)<|Vv (V.I6 (k:=0) M9 z q.u z)<|Mv z ?_
   obtain ⟨aZ,am,H⟩:=bnd H
   refine To (O.C8 z (A5n o.u am _) z fun a0 G a1 a2 an=>?_)
   obtain ⟨rfl,ao⟩:=an
   refine I9 _ ao ?_
   obtain ⟨p,aq,H⟩:=bnd H
   refine Vv (V.A0M z z aq)<|To (O.bs D6 Q4 z (e:=z) (hk:=z) (xs:=[.tmp 22]) (hv:=CO.eq (CO.cons z CO.nil)) (hw:=O7.of z) (hd:=z) fun a3=>have t:A7 (VI .i64) G [[.int .i64 p]] ([p]:List Int):=(A7.cons z A7.nil); ?_)
   obtain ⟨I,J,H⟩:=bnd H
   refine To (O.apX D6 D6 Q4 z z z (j:=2) z (Src.row (j:=0) z) (O7.of z) (A7.ones VI.plain t) s.u t J z fun ar a4 a5=>have au:A7 (VI .i64) G (a ++ [[.int .i64 p]]) I:=A7.ap s.u t J; T.fl ?_)
   refine I7 1 z<|T.fl ?_
   refine T.drop<|Ag z<|Ni<|Bn<|Th<|Rg ?_
   obtain ⟨aw,ax,H⟩:=bnd H
   refine Vv (V.L8 z z ax)<|Mv z<|Nt<|I7 1 z<|T.again (aj,aw,I,ar,(a ++ [[.int .i64 p]])) Li (Nat.lt_succ_self _) ⟨(G8 H D),au⟩ (A9.app ⟨z,z,trivial⟩ ⟨z,z,z,z,trivial⟩) z
  refine T.exit<|Te<|Te<|have H:=D7 H D; Be<|Th<|T.drop<|T.met (b,c,a) Li ⟨H,s⟩ (A9.app ⟨z,trivial⟩ ⟨z,z,trivial⟩) z
 rintro ⟨i,m,n⟩ a6 a7 ⟨ay,aA⟩
 have H:=J5 ay af
 refine T.norm [5,1,2] z<|T.fl ?_
 refine Sr<|Vv (V.fa K3 z)<|Vv (V.I6 (k:=0) M9 z q.u z)<|Mv z ?_
 obtain ⟨d,K,H⟩:=bnd H
 obtain ⟨a8,aB,⟨M,rfl,aC⟩⟩:=G9.at o K
 refine Vv (V.ix O0 rfl rfl o (H6 K))<|Vv (V.Z9 rfl aB.u (by exact U4)) ?_
 refine Mv z<|T.K8 fun aD a9 aE=>have aG:=A7.slc aE aA.u; ?_
 obtain ⟨ah,aI,H⟩:=bnd H
 refine To (O.C8 z (C1Z (show E8 aD [.string d.H7,.int .u8 d.N9,.int .i64 d.fA,.int .i64 d.fB,M,.int .i64 d.fX,.int .i64 d.fY] d from ⟨M,z,aC.u⟩) aG aI _) z fun al av az ba aJ=>?_)
 obtain ⟨bb,aK,aM⟩:=aJ
 refine I9 _ aK<|Ag z<|Nt<|T.ret ?_
 obtain rfl:=Option.some.inj H
 exact T.F5 Tryz.results174 (Rv z) Li ⟨_,z,aM⟩
theorem C0e {h:PH} {pc0:List Value} {p1:A8} (pr0:C9 h pc0 p1) {t12:Int} {r_0:List (List Int)} (H:B8s p1 t12 = some r_0):∀ L,H5 Tryz.prog 107 [.agg pc0.toArray,.int .i64 t12] h (L) (fun v h' L'=>∃ cs0,L' = D8 25 1 v cs0::L∧A7 (VSl (VI .i64) 1) h' cs0 r_0):=by
 intro L
 obtain ⟨a,b,c,d,e,rfl,f,i,j,m,n⟩:=pr0
 refine H5.enter Tryz.func107 rfl Tryz.ntmps107 rfl<|Sr<|To (O.V3 rfl rfl rfl fun A o B g=>Ag z<|Nt<|Sq<|Sr<|Vv (V.Z9 rfl g (by exact F9)) ?_)
 obtain ⟨⟨C,D⟩,p,H⟩:=bnd H
 refine To (O.C8 z (A5d (show C9 o [a,b,c,d,e] p1 from ⟨a,b,c,d,e,z,f.u,i.u,j.u,m.u,n.u⟩) p _) z fun E q G I r=>?_)
 obtain ⟨rfl,s⟩:=r
 refine I9 _ s<|Mv z<|Vv (V.ext z z)<|Vv (V.ext z z)<|Ag z<|Ag z<|Nt<|Sr<|Mv z<|Vv (V.ne z z)<|Mv z<|T.bH 14 H z (fun H=>?_) (fun H=>?_)
 ·exact dead H
 refine Mv z<|Vv (V.lt z z)<|Vv (V.J9 z z)<|Mv z<|T.bH 18 H z (fun H=>?_) (fun H=>?_)
 ·exact dead H
 refine Mv z<|Vv (V.fa K3 z)<|Vv (V.I6 (k:=0) M9 z g.u z)<|Vv (V.P6 O0 z f)<|Vv (V.ge z z)<|Vv (V.J9 z z)<|Nt<|T.cH H z (fun H=>?_) (fun H=>?_)
 ·exact dead H
 refine T.skip<|Th<|Sr<|Vv (V.Z9 rfl g.u (by exact F9)) ?_
 refine Mv z ?_
 obtain ⟨J,t,H⟩:=bnd H
 refine To (O.C8 z (C0q (show C9 q [a,b,c,d,e] p1 from ⟨a,b,c,d,e,z,f.u,i.u,j.u,m.u,n.u⟩) t _) z fun K M N P w=>?_)
 obtain ⟨S,x,y⟩:=w
 refine I9 _ x<|Ag z<|Nt<|T.ret ?_
 obtain rfl:=Option.some.inj H
 exact T.F5 Tryz.results107 (Rv z) Li ⟨_,z,y⟩
theorem B9Q {h:PH} {pc0:List Value} {p1:A8} (pr0:C9 h pc0 p1) {pv1:Value} {part12:List Int} (pr1:G9 (VI .i64) 1 h pv1 part12) {whole13:Bool} {r_0:Int} {r_1:Int} (H:B8n p1 part12 whole13 = some (r_0,r_1)):∀ L,H5 Tryz.prog 211 [.agg pc0.toArray,pv1,.bool whole13] h (L) (fun v h' L'=>v = .tuple #[.int .i64 r_0,.int .i64 r_1]∧L' = L):=by
 intro L
 obtain ⟨aq,ar,au,aw,ax,rfl,D,E,ay,aA,aB⟩:=pr0
 refine H5.enter Tryz.func211 z Tryz.ntmps211 z<|Sr<|To (O.V3 z z z fun aC aD aE r=>Ag z<|Ag z<|Nt<|Sq<|Sr<|Mv z<|Vv (V.P6 D6 z pr1)<|Vv (V.fa M3 z)<|Vv (V.I6 (k:=1) J3 z r z)<|Vv (V.P6 O9 z E)<|Vv (V.ne z z)<|Nt<|T.cH H z (fun H=>?_) (fun H=>?_))
 ·exact dead H
 refine T.skip<|Th<|Sr<|Vv (V.fa K3 z)<|Vv (V.I6 (k:=0) M9 z r z) ?_
 obtain ⟨s,G,H⟩:=bnd H
 refine To (O.C8 z (A3x D.u G _) z fun aG I aI aJ J=>?_)
 obtain ⟨rfl,K⟩:=J
 refine I9 _ K<|Ag z<|Nt<|Sr<|Mv z ?_
 obtain ⟨t,w,H⟩:=bnd H
 refine To (O.mkX A1q A6i z z z z w z fun o aK aM=>have M:A7 VB I _ t:=A7.rep z w; Ag z<|Nt<|Sq<|Sr<|Mv z<|Vv (V.P6 D6 z pr1)<|Mv z<|Nt ?_)
 obtain ⟨x,N,P⟩:=N7 H
 refine T.O5 (α:=Unit) [] z (fun _u=>[]) (fun _u=>L) (fun _u hh=>x = ()) ?_ ?_
 ·have H:=N
  refine Bl<|T.N8 (α:=Nat×Int×(List Bool)×(List (List Value))) [2,8,23,24] z (fun ⟨d,e,c,a⟩=>[(25,.int .i64 e),(9,o)]) (fun ⟨d,e,c,a⟩=>D8 4 1 o a::L) (fun ⟨d,e,c,a⟩ hh=>iter (B3I part12 whole13 s) d (e,c) = some x∧A7 VB hh a c) (fun ⟨d,e,c,a⟩=>d) (FUEL,(0:Int),t,(List.replicate s.toNat [.bool false])) ⟨z,z,trivial⟩ z ⟨H,M⟩ ?_
  rintro ⟨d,e,c,a⟩ aN aO ⟨S,b⟩
  obtain ⟨i,aP,rfl,H,f⟩:=I4 S
  refine T.norm [25,9,2,8,23,24] z<|T.fl ?_
  refine Sr<|Vv (V.lt z z)<|Nt<|Sq<|T.cH H z (fun H=>?_) (fun H=>?_)
  ·refine T.skip<|Th<|Sq<|Bl<|Sr<|Mv z ?_
   obtain ⟨m,y,H⟩:=bnd H
   obtain ⟨aS,U,rfl⟩:=G9.at pr1 y
   refine Vv (V.ix D6 z z pr1 (H6 y))<|Vv (V.ld0 D9 z U.u z)<|Ag z<|Ag z<|Nt<|Sq<|Bl<|Sq ?_
   obtain ⟨W,X,Y⟩:=N7 H
   refine T.O5 (α:=Bool) [2,8,9,11,23,24,25] z (fun g=>[(30,.bool g)]) (fun g=>D8 4 1 o a::L) (fun g hh=>W = g) ?_ ?_
   ·have H:=X
    refine Rg<|Mv z<|Vv (V.eq z z)<|Mv z<|T.bH 33 H z (fun H=>?_) (fun H=>?_)
    ·refine Mv z<|Vv (V.M0 z z)<|Ag z<|Nt<|T.met whole13 Lr (K4 H) (A9.app ⟨z,trivial⟩ ⟨z,z,z,z,z,z,z,trivial⟩) z
    refine Sk<|Vv (V.J9 z z)<|Ag z<|Nt<|T.met false Lr (K4 H) (A9.app ⟨z,trivial⟩ ⟨z,z,z,z,z,z,z,trivial⟩) z
   rintro g n aU Z
   have H:=J5 Z Y
   refine T.norm [30,2,8,9,11,23,24,25] z<|T.fl ?_
   refine T.cH H z (fun H=>?_) (fun H=>?_)
   ·exact dead H
   refine Sr<|Mv z<|Vv (V.lt z z)<|Mv z<|T.bH 40 H z (fun H=>?_) (fun H=>?_)
   ·exact dead H
   refine Mv z<|Mv z<|Vv (V.ge z z)<|Vv (V.J9 z z)<|Ag z<|Nt<|T.cH H z (fun H=>?_) (fun H=>?_)
   ·exact dead H
   refine Sr<|Mv z<|Vv (V.ge z z)<|Mv z<|T.bH 49 H z (fun H=>?_) (fun H=>?_)
   ·refine Mv z<|Mv z ?_
    obtain ⟨aV,A,H⟩:=bnd H
    obtain ⟨aW,aa,rfl⟩:=A7.get b A
    refine Vv (V.ixR A1q z z (j:=0) z (A7.bd b A))<|Vv (V.ldR X8 z (j:=0) z aa z)<|Vv (V.M0 z z)<|Ag z<|Nt<|T.cH H z (fun H=>?_) (fun H=>?_)
    ·exact dead H
    refine T.skip<|Bn<|Th<|Sr<|Mv z<|Vv (V.ge z z)<|Nt<|T.cH H z (fun H=>?_) (fun H=>?_)
    ·refine Rg<|Mv z<|Mv z ?_
     obtain ⟨aX,p,H⟩:=bnd H
     obtain ⟨aY,aZ,rfl⟩:=A7.get b p
     refine Vv (V.ixR A1q z z (j:=0) z (A7.bd b p)) ?_
     obtain ⟨B,ab,H⟩:=bnd H
     refine To (O.stR X8 z z (j:=0) z (A7.bdN b p) z<|have ac:A7 VB n (a.set m.toNat [.bool true]) B:=A7.set b.u (show VB n [.bool true] true from z) ab; Ni<|Bn<|Th<|Rg ?_)
     obtain ⟨ad,ae,H⟩:=bnd H
     refine Vv (V.L8 z z ae)<|Mv z<|Nt<|T.again (i,ad,B,(a.set m.toNat [.bool true])) Li (Nat.lt_succ_self _) ⟨(G8 H f),ac⟩ (A9.app ⟨z,z,trivial⟩ ⟨z,z,z,z,trivial⟩) z
    refine T.skip<|Bn<|Th<|Rg ?_
    obtain ⟨af,ag,H⟩:=bnd H
    refine Vv (V.L8 z z ag)<|Mv z<|Nt<|T.again (i,af,c,a) Li (Nat.lt_succ_self _) ⟨(G8 H f),b.u⟩ (A9.app ⟨z,z,trivial⟩ ⟨z,z,z,z,trivial⟩) z
   refine Sk<|Sk<|Sk<|Sk<|Vv (V.J9 z z)<|Ag z<|Nt<|Cf z<|T.skip<|Bn<|Th<|Sr<|Mv z<|Vv (V.ge z z)<|Nt<|T.cH H z (fun H=>?_) (fun H=>?_)
   ·refine Rg<|Mv z<|Mv z ?_
    obtain ⟨a0,q,H⟩:=bnd H
    obtain ⟨a1,a2,rfl⟩:=A7.get b q
    refine Vv (V.ixR A1q z z (j:=0) z (A7.bd b q)) ?_
    obtain ⟨C,ai,H⟩:=bnd H
    refine To (O.stR X8 z z (j:=0) z (A7.bdN b q) z<|have aj:A7 VB n (a.set m.toNat [.bool true]) C:=A7.set b.u (show VB n [.bool true] true from z) ai; Ni<|Bn<|Th<|Rg ?_)
    obtain ⟨ak,am,H⟩:=bnd H
    refine Vv (V.L8 z z am)<|Mv z<|Nt<|T.again (i,ak,C,(a.set m.toNat [.bool true])) Li (Nat.lt_succ_self _) ⟨(G8 H f),aj⟩ (A9.app ⟨z,z,trivial⟩ ⟨z,z,z,z,trivial⟩) z
   refine T.skip<|Bn<|Th<|Rg ?_
   obtain ⟨an,ao,H⟩:=bnd H
   refine Vv (V.L8 z z ao)<|Mv z<|Nt<|T.again (i,an,c,a) Li (Nat.lt_succ_self _) ⟨(G8 H f),b.u⟩ (A9.app ⟨z,z,trivial⟩ ⟨z,z,z,z,trivial⟩) z
  refine T.exit<|Te<|Te<|have H:=D7 H f; Be<|Th<|T.drop<|T.met () Li H (A9.app trivial trivial) z
 rintro _ a3 a4 ap
 have H:=J5 ap P
 refine T.norm [] z<|T.fl ?_
 refine Sr<|Ag z<|Ag z<|Nt<|T.ret ?_
 obtain ⟨rfl,rfl⟩:=inj2 H
 exact T.F5 Tryz.results211 (RVs.cons (RV.tmp z) (Rv z)) Li ⟨z,z⟩
theorem B7j {h:PH} {pc0:List Value} {p1:A8} (pr0:C9 h pc0 p1) {pv1:Value} {part12:List Int} (pr1:G9 (VI .i64) 1 h pv1 part12) {whole13:Bool} {r_0:Int} {r_1:Int} (H:B5D p1 part12 whole13 = some (r_0,r_1)):∀ L,H5 Tryz.prog 129 [.agg pc0.toArray,pv1,.bool whole13] h (L) (fun v h' L'=>v = .tuple #[.int .i64 r_0,.int .i64 r_1]∧L' = L):=by
 intro L
 obtain ⟨a,b,c,d,e,rfl,f,g,i,j,k⟩:=pr0
 refine H5.enter Tryz.func129 rfl Tryz.ntmps129 rfl<|Sr<|To (O.V3 rfl rfl rfl fun x n y m=>Ag z<|Ag z<|Nt<|Sq<|Sr<|Vv (V.Z9 rfl m (by exact F9)) ?_)
 obtain ⟨⟨A,B⟩,o,H⟩:=bnd H
 refine To (O.C8 z (A5d (show C9 n [a,b,c,d,e] p1 from ⟨a,b,c,d,e,z,f.u,g.u,i.u,j.u,k.u⟩) o _) z fun C p D E q=>?_)
 obtain ⟨rfl,r⟩:=q
 refine I9 _ r<|Mv z<|Vv (V.ext z z)<|Vv (V.ext z z)<|Ag z<|Ag z<|Nt<|Sr<|Mv z<|Vv (V.ne z z)<|Nt<|T.cH H z (fun H=>?_) (fun H=>?_)
 ·exact dead H
 refine T.skip<|Th<|Sr<|Vv (V.Z9 rfl m.u (by exact F9)) ?_
 refine Mv z<|Mv z ?_
 obtain ⟨⟨G,I⟩,s,H⟩:=bnd H
 refine To (O.C8 z (B9Q (show C9 p [a,b,c,d,e] p1 from ⟨a,b,c,d,e,z,f.u,g.u,i.u,j.u,k.u⟩) pr1.u s _) z fun J K M N t=>?_)
 obtain ⟨rfl,w⟩:=t
 refine I9 _ w<|Vv (V.ext z z)<|Vv (V.ext z z)<|Ag z<|Ag z<|Nt<|T.ret ?_
 obtain ⟨rfl,rfl⟩:=inj2 H
 exact T.F5 Tryz.results129 (RVs.cons (RV.tmp z) (Rv z)) Li ⟨z,z⟩
theorem B5n {h:PH} {pc0:List Value} {p1:A8} (pr0:C9 h pc0 p1) {pv1:Value} {part12:List Int} (pr1:G9 (VI .i64) 1 h pv1 part12) {r_0:Int} {r_1:Int} (H:B0T p1 part12 = some (r_0,r_1)):∀ L,H5 Tryz.prog 61 [.agg pc0.toArray,pv1] h (L) (fun v h' L'=>v = .tuple #[.int .i64 r_0,.int .i64 r_1]∧L' = L):=by
 intro L
 obtain ⟨a,b,c,d,e,rfl,f,g,i,j,k⟩:=pr0
 refine H5.enter Tryz.func61 rfl Tryz.ntmps61 rfl<|Sr<|To (O.V3 rfl rfl rfl fun r m s n=>Ag z<|Ag z<|Nt<|Sr<|Vv (V.Z9 rfl n (by exact F9)) ?_)
 refine Mv z ?_
 obtain ⟨⟨t,w⟩,o,H⟩:=bnd H
 refine To (O.C8 z (B7j (show C9 m [a,b,c,d,e] p1 from ⟨a,b,c,d,e,z,f.u,g.u,i.u,j.u,k.u⟩) pr1.u o _) z fun x y A B p=>?_)
 obtain ⟨rfl,q⟩:=p
 refine I9 _ q<|Vv (V.ext z z)<|Vv (V.ext z z)<|Ag z<|Ag z<|Nt<|T.ret ?_
 obtain ⟨rfl,rfl⟩:=inj2 H
 exact T.F5 Tryz.results61 (RVs.cons (RV.tmp z) (Rv z)) Li ⟨z,z⟩
end Go.Proofs.X
open Go Go.Proofs Go.Sl Go.Dm
namespace Go.Proofs.X
theorem C1w : A2Y Tryz.prog 177 = some ([.pointer none,.slice none 0 0,.slice none 0 0,.slice none 0 0,.slice none 0 0,.slice none 0 0,.slice none 0 0,.slice none 0 0,.slice none 0 0],[(0,1),(1,5),(6,1),(7,1),(8,1)]):=by kernel_rfl
theorem C2c : A0m Tryz.prog 177 = true:=by kernel_rfl
theorem A3g : A1j Tryz.prog 175 = some (144,1,24):=by kernel_rfl
theorem A6T : O3 Tryz.prog 177 1 = some 1:=by kernel_rfl
theorem A0t : O3 Tryz.prog 177 2 = some 6:=by kernel_rfl
theorem A6K : O3 Tryz.prog 177 3 = some 7:=by kernel_rfl
theorem A2W : O3 Tryz.prog 177 4 = some 8:=by kernel_rfl
theorem A4n : X9 Tryz.prog 175 = some (false,1):=by kernel_rfl
theorem B0D {h:PH} {pc0:List Value} {p1:A8} (pr0:C9 h pc0 p1) {r_0:Z0} {r_1:Int} {r_2:Int} (H:B0s p1 = some (r_0,r_1,r_2)):∀ L,H5 Tryz.prog 43 [.agg pc0.toArray] h (L) (fun v h' L'=>∃ w0,v = .tuple #[w0,.int .i64 r_1,.int .i64 r_2]∧L' = L∧Pt R3 h' w0 r_0):=by
 intro L
 obtain ⟨ab,ac,ad,ae,af,rfl,K,aA,aB,aC,aD⟩:=pr0
 refine H5.enter Tryz.func43 rfl Tryz.ntmps43 rfl<|Sr<|To (O.V3 rfl rfl rfl fun cy a3 cA ag=>Ag z<|Ag z<|Ag z<|Nt<|Sr<|Vv (V.Z9 rfl ag (by exact F9)) ?_)
 obtain ⟨⟨cB,cC,cD⟩,a4,H⟩:=bnd H
 refine To (O.C8 z (B0O (show C9 a3 [ab,ac,ad,ae,af] p1 from ⟨ab,ac,ad,ae,af,z,K.u,aA.u,aB.u,aC.u,aD.u⟩) a4 _) z fun cE cG cI cJ a5=>?_)
 obtain ⟨M,rfl,a6,a7⟩:=a5
 refine I9 _ a6<|Mv z<|Vv (V.ext z z)<|Vv (V.ext z z)<|Vv (V.ext z z)<|Ag z<|Ag z<|Ag z<|Nt<|Sq<|Sr<|Mv z<|Vv (V.ne z z)<|Nt<|T.cH H z (fun H=>?_) (fun H=>?_)
 ·exact dead H
 refine T.skip<|Th<|Sr<|Mv z<|Mv z ?_
 obtain ⟨a8,a9,H⟩:=bnd H
 have am:=OPt.get a7 a9
 obtain ⟨ah,al,H⟩:=bnd H
 refine To (O.C8 z (A8O am al _) z fun cK an cM cN av=>?_)
 obtain ⟨N,P,S,U,W,rfl,az,ba,bb,bc,bd,be⟩:=av
 refine I9 _ az<|Vv (V.bld (xs:=[(0,.tmp 20),(1,.tmp 22)]) (cs:=[_,_,_,_,_,_,_,_,_]) C1w C2c z (F8.cons z (Pt.cells am) z (F8.cons z z z F8.nil)))<|To (O.box z z z fun ao=>Ag z<|Nt<|Sq<|Sr<|Vv (V.fa K3 z)<|Vv (V.I6 (k:=0) M9 z ag.u z)<|Vv (V.P6 O0 z K)<|Mv z<|Nt ?_)
 obtain ⟨aE,bf,bg⟩:=N7 H
 refine T.O5 (α:=(List Int)×(List Int)×(List (List (List Int)))×Value×(List (List Value))×Value×(List (List Value))×Value×(List (List Value))) [8] z (fun ⟨A,B,C,o,X,p,Y,q,Z⟩=>[]) (fun ⟨A,B,C,o,X,p,Y,q,Z⟩=>blk ao (.cells [M,N,P,S,U,W,o,p,q].toArray 177)::D8 3 1 o X::D8 3 1 p Y::D8 144 1 q Z::L) (fun ⟨A,B,C,o,X,p,Y,q,Z⟩ hh=>aE = (A,B,C)∧A7 (VI .i64) hh X A∧A7 (VI .i64) hh Y B∧A7 (VSl (VSl (VI .i64) 1) 1) hh Z C) ?_ ?_
 ·have H:=bf
  refine Bl<|T.A0n 3 1<|have bi:A7 (VI .i64) an [] ([]:List Int):=A7.nil; T.A0n 3 1<|have bj:A7 (VI .i64) an [] ([]:List Int):=A7.nil; T.A0n 144 1<|have bk:A7 (VSl (VSl (VI .i64) 1) 1) an [] ([]:List (List (List Int))):=A7.nil; I7 1 z<|T.fl ?_
  refine I7 2 z<|T.fl ?_
  refine I7 3 z<|T.fl ?_
  refine T.N8 (α:=Nat×(List Int)×(List Int)×(List (List (List Int)))×Int×Value×(List (List Value))×Value×(List (List Value))×Value×(List (List Value))) [1,8,27] z (fun ⟨D,b,r,s,d,w,c,y,f,n,m⟩=>[(28,.int .i64 d)]) (fun ⟨D,b,r,s,d,w,c,y,f,n,m⟩=>blk ao (.cells [M,N,P,S,U,W,w,y,n].toArray 177)::D8 3 1 w c::D8 3 1 y f::D8 144 1 n m::L) (fun ⟨D,b,r,s,d,w,c,y,f,n,m⟩ hh=>iter (B0Y p1) D (b,r,s,d) = some aE∧A7 (VI .i64) hh c b∧A7 (VI .i64) hh f r∧A7 (VSl (VSl (VI .i64) 1) 1) hh m s) (fun ⟨D,b,r,s,d,w,c,y,f,n,m⟩=>D) (FUEL,([]:List Int),([]:List Int),([]:List (List (List Int))),(0:Int),(.slice none 0 0),[],(.slice none 0 0),[],(.slice none 0 0),[]) ⟨z,trivial⟩ z ⟨H,bi,bj,bk⟩ ?_
  rintro ⟨D,b,r,s,d,w,c,y,f,n,m⟩ aa cO ⟨bm,E,aq,ar⟩
  obtain ⟨bn,cP,rfl,H,aG⟩:=I4 bm
  refine T.norm [28,1,8,27] z<|T.fl ?_
  refine Sr<|Vv (V.lt z z)<|Nt<|Sq<|T.cH H z (fun H=>?_) (fun H=>?_)
  ·refine T.skip<|Th<|Sq<|Bl<|Sr<|Mv z<|Ag z<|Nt<|Sq<|I7 2 z<|T.fl ?_
   refine I7 1 z<|T.fl ?_
   refine I7 2 z<|T.fl ?_
   refine T.O8 (t:=(.v 0 (.v 1 (.v 2 (.v 3 (.x 4 (.v 5 (.v 6 (.v 7 (.alt 8 (.v 9 (.alt 10 (.alt 11 (.g (.v 12 (.v 13 (.alt 14 .done .no)))) .no) .no)) .no)))))))))) 11 3 1 rfl rfl I8 (by kernel_rfl) ?_
   refine Tm z z<|Tm z z<|Tv z (V.U9 z)<|Tv z (V.fa A6K z)<|T.tx z z (Val.XA fun _ _ _=>V.ldO (k:=7) F4 z (j:=1) z z) z Calm.i<|Tm z z<|Tv z (V.U9 z)<|Tv z (V.fa A0t z)<|Ts z z (SX.two (XA.fr [0] Lr z) (XA.fr [2,2,2] Lr z)) (V.ldO (k:=6) F4 z (j:=1) z z) z ?_ T.Q9
   refine Tv z (Val.XA fun _ _ _=>V.A2E D6 z (j:=0) z E.len)<|Tp z z (SX.two (XA.fr [0] Lr z) (XA.fr [2,2,2] Lr z)) (O.bs D6 Q4 z (e:=z) (hk:=z) (xs:=[.tmp 40]) (hv:=CO.eq (CO.cons z CO.nil)) (hw:=O7.of z) (hd:=z) fun cS=>?_) T.Q9
   have au:A7 (VI .i64) aa [[.int .i64 (b.length:Int)]] ([(b.length:Int)]:List Int):=(A7.cons z A7.nil)
   obtain ⟨aI,aJ,H⟩:=bnd H
   refine Tp z z (SX.two (XA.fr [1] Lr z) (XA.fr [3,3,3] Lr z)) (O.apX D6 D6 Q4 z z z (j:=3) z (Src.row (j:=0) z) (O7.of z) (A7.ones VI.plain au) aq au aJ z fun ai cU cV=>?_) T.Q9
   have bo:A7 (VI .i64) aa (f ++ [[.int .i64 (b.length:Int)]]) aI:=A7.ap aq au aJ
   refine T.fl ?_
   refine I7 1 z<|T.fl ?_
   refine T.drop<|T.M6 Lr<|Tv z (V.U9 rfl)<|Tv z (V.fa A6K rfl)<|T.M5 0 rfl fun bp bq=>Tp z z (SX.one (XA.fr [1] Lr rfl) rfl) (O.st (vs:=[ai]) (k:=7) F4 rfl rfl (j:=2) rfl bq (by (simp only [Sl.ones,bp,Bool.and_true,Bool.true_and]) <;> rfl) ?_) T.Q9
   refine T.fl ?_
   refine T.R5 (SX.one (XA.fr [2] Lr z) z)<|Th<|Sq ?_
   obtain ⟨br,bt,bu⟩:=N7 H
   refine T.O5 (α:=(List Int)×Value×(List (List Value))) [1,8,9,27,28] z (fun ⟨G,I,J⟩=>[]) (fun ⟨G,I,J⟩=>blk ao (.cells [M,N,P,S,U,W,I,ai,n].toArray 177)::D8 3 1 ai (f ++ [[.int .i64 (b.length:Int)]])::D8 144 1 n m::D8 3 1 I J::L) (fun ⟨G,I,J⟩ hh=>br = G∧A7 (VI .i64) hh J G) ?_ ?_
   ·have H:=bt
    refine I7 2 z<|T.fl ?_
    refine I7 1 z<|T.fl ?_
    refine T.O8 (t:=(.v 0 (.v 1 (.v 2 (.v 3 (.x 4 (.v 5 (.v 7 (.v 8 (.v 9 (.v 10 (.v 11 (.alt 6 (.alt 12 (.g (.alt 13 (.g (.alt 14 (.g (.v 15 (.v 16 (.alt 17 .done .no)))) .no)) .no)) .no) (.alt 12 (.g (.alt 6 (.alt 13 (.g (.alt 14 (.g (.v 15 (.v 16 (.alt 17 .done .no)))) .no)) .no) .no)) .no)))))))))))))) 14 2 0 rfl rfl I8 (by kernel_rfl) ?_
    refine Tm z z<|Tm z z<|Tv z (V.U9 z)<|Tv z (V.fa A0t z)<|T.tx z z (Val.XA fun _ _ _=>V.ldO (k:=6) F4 z (j:=0) z z) z Calm.i<|Tm z z<|Tv z (V.fa K3 z)<|Tv z (V.I6 (k:=0) M9 z ag.u z)<|Tm z z ?_
    obtain ⟨a,aK,H⟩:=bnd H
    obtain ⟨cW,bw,⟨aj,rfl,aM⟩⟩:=G9.at K aK
    refine Tv z (V.ix O0 rfl rfl K (H6 aK))<|Tv z (V.Z9 rfl bw.u (by exact U4)) ?_
    refine T.C6a ?_ ?_
    ·refine Tp z z (SX.two (XA.fr [] Lr z) (XA.fr [1,1] Lr z)) (O.bs D6 Q4 z (e:=z) (hk:=z) (xs:=[.tmp 50]) (hv:=CO.eq (CO.cons z CO.nil)) (hw:=O7.of z) (hd:=z) fun cX=>?_) T.Q9
     have bx:A7 (VI .i64) aa [[.int .i64 d]] ([d]:List Int):=(A7.cons z A7.nil)
     obtain ⟨cY,bA,H⟩:=bnd H
     refine Tp z z (SX.two (XA.fr [] Lr z) (XA.fr [2,2] Lr z)) (O.C8 z (B3e (show E8 aa [.string a.H7,.int .u8 a.N9,.int .i64 a.fA,.int .i64 a.fB,aj,.int .i64 a.fX,.int .i64 a.fY] a from ⟨aj,z,aM.u⟩) bA _) z fun cZ c0 c1 c2 bB=>?_) T.Q9
     obtain ⟨rfl,bC⟩:=bB
     refine I9 _ bC<|T.M6 Li<|T.K8 fun c3 c4 bD=>have bE:=A7.slc bD bx.u; ?_
     obtain ⟨c5,bG,H⟩:=bnd H
     refine Tp z z (SX.two (XA.fr [] Li z) (XA.fr [1,1] Li z)) (O.C8 z (A4r bE bG _) z fun c6 bI c7 c8 bJ=>?_) T.Q9
     obtain ⟨aN,bK,aw⟩:=bJ
     refine I9 _ bK<|T.M6 Li<|T.wide 0 z fun bM=>?_
     obtain ⟨aO,aP,H⟩:=bnd H
     refine Tp z z (SX.two (XA.fr [] Lr z) (XA.fr [2,2] Lr z)) (O.apX D6 D6 Q4 z z z (j:=2) z (Src.row (j:=0) z) bM (A7.ones VI.plain aw) E.u aw aP z fun aS c9 ch=>?_) T.Q9
     have bN:A7 (VI .i64) bI (c ++ aN) aO:=A7.ap E.u aw aP
     refine T.fl ?_
     refine T.M6 Lr<|Tv z (V.U9 rfl)<|Tv z (V.fa A0t rfl)<|T.M5 0 rfl fun bO bP=>Tp z z (SX.one (XA.fr [] Lr rfl) rfl) (O.st (vs:=[aS]) (k:=6) F4 rfl rfl (j:=2) rfl bP (by (simp only [Sl.ones,bO,Bool.and_true,Bool.true_and]) <;> rfl) ?_) T.Q9
     refine T.fl ?_
     refine T.R5 (SX.one (XA.fr [] Lr z) z)<|Th<|I7 2 z<|T.fl ?_
     refine T.drop<|I7 1 z<|T.fl ?_
     refine I7 3 z<|T.fl ?_
     refine I7 3 z<|T.fl ?_
     refine I7 3 z<|T.fl ?_
     exact T.met (aO,aS,(c ++ aN)) Li ⟨(K4 H),bN⟩ (A9.app trivial ⟨z,z,z,z,z,trivial⟩) z
    obtain ⟨cl,bS,H⟩:=bnd H
    refine Tp z z (SX.two (XA.fr [] Lr z) (XA.fr [1,1] Lr z)) (O.C8 z (B3e (show E8 aa [.string a.H7,.int .u8 a.N9,.int .i64 a.fA,.int .i64 a.fB,aj,.int .i64 a.fX,.int .i64 a.fY] a from ⟨aj,z,aM.u⟩) bS _) z fun cv bU cz da bV=>?_) T.Q9
    obtain ⟨rfl,bW⟩:=bV
    refine I9 _ bW<|T.M6 Li<|Tp z z (SX.two (XA.fr [] Lr z) (XA.fr [1,1] Lr z)) (O.bs D6 Q4 z (e:=z) (hk:=z) (xs:=[.tmp 50]) (hv:=CO.eq (CO.cons z CO.nil)) (hw:=O7.of z) (hd:=z) fun db=>?_) T.Q9
    have bX:A7 (VI .i64) bU [[.int .i64 d]] ([d]:List Int):=(A7.cons z A7.nil)
    refine T.K8 fun dc dd bY=>have bZ:=A7.slc bY bX.u; ?_
    obtain ⟨de,b0,H⟩:=bnd H
    refine Tp z z (SX.two (XA.fr [] Li z) (XA.fr [1,1] Li z)) (O.C8 z (A4r bZ b0 _) z fun df b1 dg di b2=>?_) T.Q9
    obtain ⟨aU,b3,ax⟩:=b2
    refine I9 _ b3<|T.M6 Li<|T.wide 0 z fun b4=>?_
    obtain ⟨aV,aW,H⟩:=bnd H
    refine Tp z z (SX.two (XA.fr [] Lr z) (XA.fr [2,2] Lr z)) (O.apX D6 D6 Q4 z z z (j:=2) z (Src.row (j:=0) z) b4 (A7.ones VI.plain ax) E.u ax aW z fun aX dj dk=>?_) T.Q9
    have b5:A7 (VI .i64) b1 (c ++ aU) aV:=A7.ap E.u ax aW
    refine T.fl ?_
    refine T.M6 Lr<|Tv z (V.U9 rfl)<|Tv z (V.fa A0t rfl)<|T.M5 0 rfl fun b6 b7=>Tp z z (SX.one (XA.fr [] Lr rfl) rfl) (O.st (vs:=[aX]) (k:=6) F4 rfl rfl (j:=2) rfl b7 (by (simp only [Sl.ones,b6,Bool.and_true,Bool.true_and]) <;> rfl) ?_) T.Q9
    refine T.fl ?_
    refine T.R5 (SX.one (XA.fr [] Lr z) z)<|Th<|I7 2 z<|T.fl ?_
    refine T.drop<|I7 1 z<|T.fl ?_
    refine I7 3 z<|T.fl ?_
    refine I7 3 z<|T.fl ?_
    refine I7 3 z<|T.fl ?_
    exact T.met (aV,aX,(c ++ aU)) Li ⟨(K4 H),b5⟩ (A9.app trivial ⟨z,z,z,z,z,trivial⟩) z
   rintro ⟨G,I,J⟩ b8 dm ⟨b9,bh⟩
   have H:=J5 b9 bu
   refine T.norm [1,8,9,27,28] z<|T.fl ?_
   refine I7 2 z<|T.fl ?_
   refine I7 1 z<|T.fl ?_
   refine T.O8 (t:=(.v 0 (.v 1 (.v 2 (.v 3 (.x 4 (.v 5 (.v 6 (.alt 7 (.g (.alt 8 (.alt 9 (.g (.v 10 (.v 11 (.alt 12 .done .no)))) .no) .no)) .no))))))))) 9 2 0 rfl rfl I8 (by kernel_rfl) ?_
   refine Tm z z<|Tm z z<|Tv z (V.U9 rfl)<|Tv z (V.fa A2W rfl)<|T.tx rfl rfl (Val.XA fun _ _ _=>V.ldO (k:=8) A4n rfl (j:=0) rfl rfl) rfl Calm.i<|Tv z (V.Z9 rfl ag.u (by exact F9)) ?_
   refine Tm z z ?_
   obtain ⟨bl,bv,H⟩:=bnd H
   refine Tp z z (SX.two (XA.fr [] Lr z) (XA.fr [1,1] Lr z)) (O.C8 z (C0e (show C9 b8 [ab,ac,ad,ae,af] p1 from ⟨ab,ac,ad,ae,af,z,K.u,aA.u,aB.u,aC.u,aD.u⟩) bv _) z fun ak dn dp dq bz=>?_) T.Q9
   obtain ⟨dr,ca,cb⟩:=bz
   refine I9 _ ca<|T.M6 Li<|T.K8 fun aY ds cc=>have aZ:=A7.slc cc cb.u; Tp z z (SX.two (XA.fr [] Li z) (XA.fr [1,1] Li z)) (O.bs A3g B0C z (e:=z) (hk:=z) (xs:=[.tmp 69]) (hv:=CO.eq (CO.cons (G9.cells aZ) CO.nil)) (hw:=O7.of z) (hd:=z) fun dt=>?_) T.Q9
   have ay:A7 (VSl (VSl (VI .i64) 1) 1) aY [[ak]] ([bl]:List (List (List Int))):=(A7.cons ⟨ak,z,aZ⟩ A7.nil)
   obtain ⟨a0,a1,H⟩:=bnd H
   refine Tp z z (SX.two (XA.fr [] Li z) (XA.fr [2,2] Li z)) (O.apX A3g A3g B0C z z z (j:=2) z (Src.row (j:=0) z) (O7.of z) (A7.ones VSl.plain ay) ar.u ay a1 z fun a2 du dw=>?_) T.Q9
   have cd:A7 (VSl (VSl (VI .i64) 1) 1) aY (m ++ [[ak]]) a0:=A7.ap ar.u ay a1
   refine T.fl ?_
   refine I7 1 z<|T.fl ?_
   refine T.drop<|T.M6 Li<|Tv z (V.U9 rfl)<|Tv z (V.fa A2W rfl)<|T.M5 0 rfl fun ce cf=>Tp z z (SX.one (XA.fr [] Lr rfl) rfl) (O.st (vs:=[a2]) (k:=8) A4n rfl rfl (j:=1) rfl cf (by (simp only [Sl.ones,ce,Bool.and_true,Bool.true_and]) <;> rfl) ?_) T.Q9
   refine T.fl ?_
   refine T.R5 (SX.one (XA.fr [] Lr z) z)<|Bn<|Th<|Rg ?_
   obtain ⟨cg,ci,H⟩:=bnd H
   refine Vv (V.L8 z z ci)<|Mv z<|Nt<|I7 1 z<|T.fl ?_
   refine I7 2 z<|T.fl ?_
   refine I7 3 z<|T.fl ?_
   refine I7 3 z<|T.fl ?_
   exact T.again (bn,G,aI,a0,cg,I,J,ai,(f ++ [[.int .i64 (b.length:Int)]]),a2,(m ++ [[ak]])) Li (Nat.lt_succ_self _) ⟨(G8 H aG),bh.u,bo.u,cd⟩ (A9.app ⟨z,trivial⟩ ⟨z,z,z,trivial⟩) z
  refine T.exit<|Te<|Te<|have H:=D7 H aG; Be<|Th<|T.met (b,r,s,w,c,y,f,n,m) Li ⟨H,E,aq,ar⟩ (A9.app trivial ⟨z,trivial⟩) z
 rintro ⟨A,B,C,o,X,p,Y,q,Z⟩ dx dy ⟨cj,ck,cm,cn⟩
 have H:=J5 cj bg
 refine T.norm [8] z<|T.fl ?_
 refine Sr<|Mv z<|Ag z<|Ag z<|Ag z<|Nt<|T.ret<|I7 1 z<|T.fl ?_
 refine T.K8 fun dA dB co=>have cp:=A7.slc co ck.u; I7 1 z<|T.fl ?_
 refine T.K8 fun dC dD cq=>have cr:=A7.slc cq cm.u; I7 1 z<|T.K8 fun dE dG ct=>have cu:=A7.slc ct cn.u; T.B4x fun cw dI cx=>?_
 obtain ⟨rfl,rfl,rfl⟩:=B2G H
 exact T.F5 Tryz.results43 (RVs.cons (RV.tmp z) (RVs.cons (RV.tmp z) (Rv z))) Li ⟨_,z,z,(Pt.mk cx (show R3 cw [M,N,P,S,U,W,o,p,q] (Z0.mk a8 ah A B C) from ⟨M,N,P,S,U,W,o,p,q,z,am.u,ba.u,bb.u,bc.u,bd.u,be.u,cp.u,cr.u,cu.u⟩))⟩
theorem B8h {h:PH} {free1:Int} {guests2:Int} {r_0:Int} (H:B6N free1 guests2 = some r_0):∀ L,H5 Tryz.prog 165 [.int .i64 free1,.int .i64 guests2] h (L) (fun v h' L'=>v = .int .i64 r_0∧L' = L):=by
 intro L
 refine H5.enter Tryz.func165 z Tryz.ntmps165 z<|Sr<|Ag z<|Nt<|Sr<|Ag z<|Nt<|Sq<|Sr<|Mv z<|Mv z<|Nt ?_
 obtain ⟨e,g,i⟩:=N7 H
 refine T.O5 (α:=Int) [] z (fun d=>[(5,.int .i64 d)]) (fun d=>L) (fun d hh=>e = d) ?_ ?_
 ·have H:=g
  refine Bl<|T.N8 (α:=Nat×Int×Int) [0,7] z (fun ⟨b,a,c⟩=>[(5,.int .i64 a),(8,.int .i64 c)]) (fun ⟨b,a,c⟩=>L) (fun ⟨b,a,c⟩ hh=>iter (B0F free1 guests2) b (a,c) = some e) (fun ⟨b,a,c⟩=>b) (FUEL,(1:Int),(0:Int)) ⟨z,z,trivial⟩ z H ?_
  rintro ⟨b,a,c⟩ s t j
  obtain ⟨k,u,rfl,H,f⟩:=I4 j
  refine T.norm [5,8,0,7] z<|T.fl ?_
  refine Sr<|Vv (V.lt z z)<|Nt<|Sq<|T.cH H z (fun H=>?_) (fun H=>?_)
  ·refine T.skip<|Th<|Sq<|Bl<|Sr<|Mv z<|Ag z<|Nt<|Sr<|Mv z<|Mv z<|Mv z ?_
   obtain ⟨w,m,H⟩:=bnd H
   refine Vv (V.A0M z z m) ?_
   obtain ⟨n,o,H⟩:=bnd H
   refine Vv (V.B2H z z o)<|Ag z<|Nt<|Sr<|Mv z<|Vv (V.gt z z)<|Nt<|T.cH H z (fun H=>?_) (fun H=>?_)
   ·exact dead H
   refine T.skip<|Bn<|Th<|Rg ?_
   obtain ⟨p,q,H⟩:=bnd H
   refine Vv (V.L8 z z q)<|Mv z<|Nt<|T.again (k,n,p) Li (Nat.lt_succ_self _) (G8 H f) (A9.app ⟨z,z,trivial⟩ ⟨z,z,trivial⟩) z
  refine T.exit<|Te<|Te<|have H:=D7 H f; Be<|Th<|T.met a Li H (A9.app ⟨z,trivial⟩ trivial) z
 rintro d x y r
 have H:=J5 r i
 refine T.norm [5] z<|T.fl ?_
 refine Sr<|Mv z<|Ag z<|Nt<|T.ret ?_
 obtain rfl:=Option.some.inj H
 exact T.F5 Tryz.results165 (Rv z) Li ⟨z,z⟩
theorem B7w {h:PH} {pc0:List Value} {p1:A8} (pr0:C9 h pc0 p1) {r_0:Z0} {r_1:Int} (H:B5z p1 = some (r_0,r_1)):∀ L,H5 Tryz.prog 91 [.agg pc0.toArray] h (L) (fun v h' L'=>∃ w0,v = .tuple #[w0,.int .i64 r_1]∧L' = L∧Pt R3 h' w0 r_0):=by
 intro L
 obtain ⟨a,b,c,d,e,rfl,A,f,B,C,D⟩:=pr0
 refine H5.enter Tryz.func91 rfl Tryz.ntmps91 rfl<|Sr<|To (O.V3 rfl rfl rfl fun af E ag i=>Ag z<|Ag z<|Nt<|Sr<|Vv (V.Z9 rfl i (by exact F9)) ?_)
 obtain ⟨⟨G,ai,aj⟩,I,H⟩:=bnd H
 refine To (O.C8 z (B0D (show C9 E [a,b,c,d,e] p1 from ⟨a,b,c,d,e,z,A.u,f.u,B.u,C.u,D.u⟩) I _) z fun ak am an ao J=>?_)
 obtain ⟨ap,rfl,K,M⟩:=J
 refine I9 _ K<|Mv z<|Vv (V.ext z z)<|Vv (V.ext z z)<|Vv (V.ext z z)<|Ag z<|Ag z<|Ag z<|Nt<|Sq<|Sr<|Mv z<|Vv (V.ne z z)<|Nt<|T.cH H z (fun H=>?_) (fun H=>?_)
 ·exact dead H
 refine T.skip<|Th<|Sq<|Sq<|T.O8 (t:=(.v 0 (.v 1 (.v 2 (.v 3 (.v 4 (.v 5 (.v 6 (.v 7 (.alt 8 (.g (.v 9 .done)) .no)))))))))) 11 0 0 rfl rfl I8 (by kernel_rfl) ?_
 refine Tm z z<|have N:=M; ?_
 obtain ⟨aq,_,rfl,j,⟨m,n,o,p,q,r,s,w,x,rfl,P,S,U,W,X,Y,y,Z,aa⟩⟩:=N
 refine Tv z (V.U9 z)<|Tv z (V.fa A0t z)<|Tv z (V.I6 (k:=6) F4 z j z)<|Tv z (V.P6 D6 z y)<|Tv z (V.fa M3 z)<|Tv z (V.I6 (k:=1) J3 z i.u z)<|Tv z (V.P6 O9 z f) ?_
 obtain ⟨ar,ab,H⟩:=bnd H
 refine Tp z z (SX.two (XA.fr [] Lr z) (XA.fr [] Lr z)) (O.C8 z (B8h ab _) z fun au ac aw ax ad=>?_) T.Q9
 obtain ⟨rfl,ae⟩:=ad
 refine I9 _ ae<|T.M6 Li<|Tv z (V.gt z z)<|T.R5 (SX.two (XA.fr [] Lr z) (XA.fr [] Lr z))<|Th<|T.cH H z (fun H=>?_) (fun H=>?_)
 ·exact dead H
 refine T.skip<|Th<|Sr<|Mv z<|Ag z<|Ag z<|Nt<|T.ret ?_
 obtain ⟨rfl,rfl⟩:=inj2 H
 exact T.F5 Tryz.results91 (RVs.cons (RV.tmp z) (Rv z)) Li ⟨_,z,z,(Pt.mk j.u (show R3 ac [m,n,o,p,q,r,s,w,x] G from ⟨m,n,o,p,q,r,s,w,x,z,P.u,S.u,U.u,W.u,X.u,Y.u,y.u,Z.u,aa.u⟩))⟩
theorem B0A {h:PH} {pv0:Value} {h1:Z0} (pr0:Pt R3 h pv0 h1) {r_0:List Int} (H:B1H h1 = some r_0):∀ L,H5 Tryz.prog 45 [pv0] h (L) (fun v h' L'=>∃ cs0,L' = D8 3 1 v cs0::L∧A7 (VI .i64) h' cs0 r_0):=by
 intro L
 refine H5.enter Tryz.func45 z Tryz.ntmps45 z<|Sr<|Ag z<|Nt<|Sr<|To (O.bs D6 Q4 z (e:=z) (hk:=z) (xs:=[.const (.int .i64 (-1))]) (hv:=CO.eq (CO.cons z CO.nil)) (hw:=O7.of z) (hd:=z) fun o=>have a:A7 (VI .i64) h [[.int .i64 (-1:Int)]] ([(-1:Int)]:List Int):=(A7.cons z A7.nil); Mv z<|have b:=pr0; ?_)
 obtain ⟨p,_,rfl,c,⟨q,r,s,t,w,x,y,A,B,rfl,C,D,d,E,G,I,J,K,M⟩⟩:=b
 refine Vv (V.U9 z)<|Vv (V.fa A6T z)<|Vv (V.fa M3 z)<|Vv (V.I6 (k:=2) J3 z c z)<|Vv (V.P6 O9 z d)<|T.K8 fun N P f=>have g:=A7.slc f a.u; ?_
 obtain ⟨S,i,H⟩:=bnd H
 refine To (O.C8 z (A4r g i _) z fun U W X Y j=>?_)
 obtain ⟨Z,m,n⟩:=j
 refine I9 _ m<|Ag z<|Nt<|T.ret ?_
 obtain rfl:=Option.some.inj H
 exact T.F5 Tryz.results45 (Rv z) Li ⟨_,z,n⟩
theorem B9N {h:PH} {pv0:Value} {h1:Z0} (pr0:Pt R3 h pv0 h1) {pv1:Value} {part2:List Int} (pr1:G9 (VI .i64) 1 h pv1 part2) {g3:Int} {k4:Int} {r_0:Bool} (H:B8M h1 part2 g3 k4 = some r_0):∀ L,H5 Tryz.prog 109 [pv0,pv1,.int .i64 g3,.int .i64 k4] h (L) (fun v h' L'=>v = .bool r_0∧L' = L):=by
 intro L
 refine H5.enter Tryz.func109 rfl Tryz.ntmps109 rfl<|Sr<|Ag z<|Nt<|Sq<|T.O8 (t:=(.v 0 (.v 1 (.v 2 (.v 3 (.v 4 (.v 5 (.v 6 (.v 7 (.v 8 (.v 9 (.alt 10 .done .no)))))))))))) 12 0 0 rfl rfl I8 (by kernel_rfl) ?_
 refine Tm z z<|have E:=pr0; ?_
 obtain ⟨ax,_,rfl,c,⟨ay,aA,aB,aC,aD,aE,aG,aI,aJ,rfl,aK,aM,aN,aO,aP,aS,e,j,f⟩⟩:=E
 refine Tv z (V.U9 z)<|Tv z (V.fa A0t z)<|Tv z (V.I6 (k:=6) F4 z c z)<|Tm z z<|Tm z z ?_
 obtain ⟨aU,m,H⟩:=bnd H
 obtain ⟨aV,G,rfl⟩:=G9.at pr1 m
 refine Tv z (V.ix D6 z z pr1 (H6 m))<|Tv z (V.ld0 D9 z G z) ?_
 obtain ⟨I,n,H⟩:=bnd H
 obtain ⟨aW,J,rfl⟩:=G9.at e n
 refine Tv z (V.ix D6 z z e (H6 n))<|Tv z (V.ld0 D9 z J z)<|Ts z z (SX.two (XA.fr [] Lr z) (XA.fr [] Lr z)) (V.asg z) z ?_ T.Q9
 refine T.R5 (SX.two (XA.fr [] Lr z) (XA.fr [] Lr z))<|Th<|Sq<|Sr<|Mv z<|Vv (V.lt z z)<|Mv z<|T.bH 26 H z (fun H=>?_) (fun H=>?_)
 ·exact dead H
 refine Mv z<|Mv z<|Vv (V.U9 z)<|Vv (V.fa A2W z)<|Vv (V.I6 (k:=8) A4n z c z)<|Mv z ?_
 obtain ⟨aX,o,H⟩:=bnd H
 obtain ⟨aY,K,⟨aZ,rfl,M⟩⟩:=G9.at f o
 refine Vv (V.ix A3g z z f (H6 o))<|Vv (V.ld0 A0D z K z)<|Vv (V.P6 Q7 z M)<|Vv (V.ge z z)<|Vv (V.J9 z z)<|Nt<|T.cH H z (fun H=>?_) (fun H=>?_)
 ·exact dead H
 refine T.skip<|Th<|Sq<|T.O8 (t:=(.v 0 (.v 1 (.v 2 (.v 3 (.v 4 (.v 5 (.v 6 (.v 7 (.v 8 (.v 9 (.v 10 (.v 11 (.v 12 (.v 13 (.v 14 (.v 15 (.v 16 (.alt 17 (.alt 18 .done .no) .no))))))))))))))))))) 20 0 0 rfl rfl I8 (by kernel_rfl) ?_
 refine Tm z z<|Tv z (V.U9 z)<|Tv z (V.fa A2W z)<|Tv z (V.I6 (k:=8) A4n z c z)<|Tm z z ?_
 obtain ⟨a0,p,H⟩:=bnd H
 obtain ⟨a1,N,⟨a2,rfl,q⟩⟩:=G9.at f p
 refine Tv z (V.ix A3g z z f (H6 p))<|Tv z (V.ld0 A0D z N z)<|Tm z z ?_
 obtain ⟨O,r,H⟩:=bnd H
 obtain ⟨a3,P,⟨a4,rfl,g⟩⟩:=G9.at q r
 refine Tv z (V.ix Q7 z z q (H6 r))<|Tv z (V.ld0 F4 z P z)<|Tm z z<|Tv z (V.U9 z)<|Tv z (V.fa A6K z)<|Tv z (V.I6 (k:=7) F4 z c z)<|Tm z z ?_
 obtain ⟨S,s,H⟩:=bnd H
 obtain ⟨a5,U,rfl⟩:=G9.at j s
 refine Tv z (V.ix D6 z z j (H6 s))<|Tv z (V.ld0 D9 z U z)<|Ts z z (SX.two (XA.fr [] Lr z) (XA.fr [] Lr z)) (V.asg z) z ?_ T.Q9
 refine Ts z z (SX.two (XA.fr [] Lr z) (XA.fr [] Lr z)) (V.asg z) z ?_ T.Q9
 refine T.R5 (SX.two (XA.fr [] Lr z) (XA.fr [] Lr z))<|Th<|Sq<|Sq<|T.norm [0,1,2,9,10,11] z<|Rg<|Mv z<|Vv (V.P6 D6 z pr1)<|Mv z<|Nt ?_
 obtain ⟨w,W,X⟩:=N7 H
 refine T.O5 (α:=Unit) [1,2,10,11] z (fun _u=>[]) (fun _u=>L) (fun _u hh=>w = ()) ?_ ?_
 ·have H:=W
  refine Bl<|T.N8 (α:=Nat×Int) [0,1,2,9,10,11,55,56] z (fun ⟨a,b⟩=>[(57,.int .i64 b)]) (fun ⟨a,b⟩=>L) (fun ⟨a,b⟩ hh=>iter (B3L h1 part2 g3 I O S) a b = some w) (fun ⟨a,b⟩=>a) (FUEL,(0:Int)) ⟨z,trivial⟩ z H ?_
  rintro ⟨a,b⟩ a6 a7 Y
  obtain ⟨i,a8,rfl,H,d⟩:=I4 Y
  refine T.norm [57,0,1,2,9,10,11,55,56] z<|T.fl ?_
  refine Sr<|Vv (V.lt z z)<|Nt<|Sq<|T.cH H z (fun H=>?_) (fun H=>?_)
  ·refine T.skip<|Th<|Sq<|Bl<|Sr<|Mv z ?_
   obtain ⟨a9,x,H⟩:=bnd H
   obtain ⟨ah,Z,rfl⟩:=G9.at pr1 x
   refine Vv (V.ix D6 z z pr1 (H6 x))<|Vv (V.ld0 D9 z Z.u z)<|Ag z<|Ag z<|Nt<|Sr<|Mv z<|Mv z<|Vv (V.ne z z)<|Mv z<|T.bH 65 H z (fun H=>?_) (fun H=>?_)
   ·refine Mv z<|Vv (V.ge z z)<|Vv (V.M0 z z)<|Mv z<|T.bH 69 H z (fun H=>?_) (fun H=>?_)
    ·refine Mv z<|Vv (V.U9 z)<|Vv (V.fa A0t z)<|Vv (V.I6 (k:=6) F4 z c.u z)<|Mv z ?_
     obtain ⟨al,y,H⟩:=bnd H
     obtain ⟨av,aa,rfl⟩:=G9.at e y
     refine Vv (V.ix D6 z z e (H6 y))<|Vv (V.ld0 D9 z aa.u z)<|Mv z<|Vv (V.eq z z)<|Vv (V.M0 z z)<|Mv z<|T.bH 80 H z (fun H=>?_) (fun H=>?_)
     ·refine Mv z<|Mv z<|Mv z ?_
      obtain ⟨az,ab,H⟩:=bnd H
      refine Vv (V.A0M z z ab) ?_
      obtain ⟨ba,A,H⟩:=bnd H
      obtain ⟨bb,ac,rfl⟩:=G9.at g A
      refine Vv (V.ix D6 z z g (H6 A))<|Vv (V.ld0 D9 z ac.u z)<|Mv z<|Mv z ?_
      obtain ⟨bc,ad,H⟩:=bnd H
      refine Vv (V.A0M z z ad)<|Vv (V.ne z z)<|Vv (V.M0 z z)<|Nt<|T.cH H z (fun H=>?_) (fun H=>?_)
      ·exact dead H
      refine T.skip<|Bn<|Th<|T.norm [0,1,2,9,10,11,55,56,57] z<|Rg ?_
      obtain ⟨ae,af,H⟩:=bnd H
      refine Vv (V.L8 z z af)<|Mv z<|Nt<|T.again (i,ae) Li (Nat.lt_succ_self _) (G8 H d) (A9.app ⟨z,trivial⟩ ⟨z,z,z,z,z,z,z,z,trivial⟩) z
     refine Sk<|Sk<|Sk<|Sk<|Sk<|Sk<|Sk<|Sk<|Sk<|Sk<|Vv (V.J9 z z)<|Nt<|Cf z<|T.skip<|Bn<|Th<|Rg ?_
     obtain ⟨ag,ai,H⟩:=bnd H
     refine Vv (V.L8 z z ai)<|Mv z<|Nt<|T.again (i,ag) Li (Nat.lt_succ_self _) (G8 H d) (A9.app ⟨z,trivial⟩ ⟨z,z,z,z,z,z,z,z,trivial⟩) z
    refine Sk<|Sk<|Sk<|Sk<|Sk<|Sk<|Sk<|Sk<|Sk<|Vv (V.J9 z z)<|Mv z<|Sk<|Sk<|Sk<|Sk<|Sk<|Sk<|Sk<|Sk<|Sk<|Sk<|Vv (V.J9 z z)<|Nt<|Cf z<|T.skip<|Bn<|Th<|Rg ?_
    obtain ⟨aj,ak,H⟩:=bnd H
    refine Vv (V.L8 z z ak)<|Mv z<|Nt<|T.again (i,aj) Li (Nat.lt_succ_self _) (G8 H d) (A9.app ⟨z,trivial⟩ ⟨z,z,z,z,z,z,z,z,trivial⟩) z
   refine Sk<|Sk<|Vv (V.J9 z z)<|Mv z<|Sk<|Sk<|Sk<|Sk<|Sk<|Sk<|Sk<|Sk<|Sk<|Vv (V.J9 z z)<|Mv z<|Sk<|Sk<|Sk<|Sk<|Sk<|Sk<|Sk<|Sk<|Sk<|Sk<|Vv (V.J9 z z)<|Nt<|Cf z<|T.skip<|Bn<|Th<|Rg ?_
   obtain ⟨am,an,H⟩:=bnd H
   refine Vv (V.L8 z z an)<|Mv z<|Nt<|T.again (i,am) Li (Nat.lt_succ_self _) (G8 H d) (A9.app ⟨z,trivial⟩ ⟨z,z,z,z,z,z,z,z,trivial⟩) z
  refine T.exit<|Te<|Te<|have H:=D7 H d; Be<|Th<|T.met () Li H (A9.app trivial ⟨z,z,z,z,trivial⟩) z
 rintro _ bd be ao
 have H:=J5 ao X
 refine T.norm [1,2,10,11] z<|T.fl ?_
 refine Sq<|T.O8 (t:=(.v 0 (.v 1 (.v 2 (.v 3 (.v 4 (.v 5 (.v 6 (.v 7 (.v 8 (.v 9 (.v 10 (.v 11 (.v 12 (.v 13 (.v 14 (.v 15 (.alt 16 .done .no)))))))))))))))))) 18 0 0 rfl rfl I8 (by kernel_rfl) ?_
 refine Tm z z<|Tm z z<|Tm z z ?_
 obtain ⟨bf,B,H⟩:=bnd H
 obtain ⟨bg,ap,rfl⟩:=G9.at pr1 B
 refine Tv z (V.ix D6 z z pr1 (H6 B))<|Tv z (V.ld0 D9 z ap.u z)<|Tm z z ?_
 obtain ⟨bi,aq,H⟩:=bnd H
 refine Tv z (V.A0M z z aq) ?_
 obtain ⟨bj,C,H⟩:=bnd H
 obtain ⟨bk,ar,rfl⟩:=G9.at g C
 refine Tv z (V.ix D6 z z g (H6 C))<|Tv z (V.ld0 D9 z ar.u z)<|Tm z z<|Tm z z ?_
 obtain ⟨bm,D,H⟩:=bnd H
 obtain ⟨bn,au,rfl⟩:=G9.at pr1 D
 refine Tv z (V.ix D6 z z pr1 (H6 D))<|Tv z (V.ld0 D9 z au.u z)<|Tm z z ?_
 obtain ⟨bo,aw,H⟩:=bnd H
 refine Tv z (V.A0M z z aw)<|Tv z (V.lt z z)<|Ts z z (SX.two (XA.fr [] Lr z) (XA.fr [] Lr z)) (V.asg z) z ?_ T.Q9
 refine T.R5 (SX.two (XA.fr [] Lr z) (XA.fr [] Lr z))<|Th<|T.ret ?_
 obtain rfl:=Option.some.inj H
 exact T.F5 Tryz.results109 (Rv z) Li ⟨z,z⟩
end Go.Proofs.X
open Go Go.Proofs Go.Sl Go.Dm
namespace Go.Proofs.X
theorem A1O : A1j Tryz.prog 52 = some (181,2,16):=by kernel_rfl
theorem A2B : O3 Tryz.prog 113 0 = some 0:=by kernel_rfl
theorem B0j : O3 Tryz.prog 113 1 = some 1:=by kernel_rfl
theorem A9L : O3 Tryz.prog 113 2 = some 2:=by kernel_rfl
theorem A0v : O3 Tryz.prog 113 3 = some 3:=by kernel_rfl
theorem A1k : O3 Tryz.prog 113 4 = some 4:=by kernel_rfl
theorem A3F : O3 Tryz.prog 177 0 = some 0:=by kernel_rfl
theorem B7l : O3 Tryz.prog 181 0 = some 0:=by kernel_rfl
theorem A0h : O3 Tryz.prog 181 1 = some 1:=by kernel_rfl
theorem A0Y : X9 Tryz.prog 106 = some (false,1):=by kernel_rfl
theorem B9Y : X9 Tryz.prog 179 = some (false,1):=by kernel_rfl
theorem B3K : X9 Tryz.prog 181 = some (true,2):=by kernel_rfl
theorem A4t : X9 Tryz.prog 52 = some (false,1):=by kernel_rfl
theorem A8e : zer Tryz.prog 181 = some (.agg #[.int .u8 (0),.int .i64 (0)]):=by kernel_rfl
theorem B7X (n:Nat):∀ {h:PH} {pb0:Nat} {r1:A0b} {v0_1:Value} {v0_3:Value} {v0_5:Value} {css0_6:List (List Value)} (hP0_2:Pt R3 h v0_1 r1.A1w) (hS0_4:G9 Y9 2 h v0_3 r1.A2d) (hR0_7:A7 (VI .i64) h css0_6 r1.R6) {last2:Int} {o_:(Int×(List Int))⊕A1u} (H:A7y n r1 last2 = some o_) (L:List E9),FnE Tryz.prog 46 [.pointer (some ⟨pb0,0,none⟩),.int .i64 last2] h (blk pb0 (.cells [v0_1,.int .i64 r1.A0T,v0_3,.int .i64 r1.fat,v0_5].toArray 113)::D8 3 1 v0_5 css0_6::L) (PE (fun q_0 v h' L'=>∃ vl0_1 cssl0_2,v = .tuple #[]∧L' = blk pb0 (.cells [v0_1,.int .i64 r1.A0T,v0_3,.int .i64 q_0.1,vl0_1].toArray 113)::D8 3 1 vl0_1 cssl0_2::L∧A7 (VI .i64) h' cssl0_2 q_0.2) (fun x_=>.iface 110 (.agg #[.int .i64 x_.fat,.int .i64 x_.fe])) L o_):=by
  induction n with
  | zero=>intros; rename_i H _; cases H
  | succ n self=>
    intro h pb0 r1 v0_1 v0_3 v0_5 css0_6 hP0_2 hS0_4 hR0_7 last2 o_ H L
    refine FnE.enter Tryz.func46 rfl Tryz.ntmps46 rfl<|Sq<|Sq<|T.O8 (t:=(.v 0 (.v 1 (.v 2 (.v 3 (.v 4 (.v 5 (.v 6 (.v 7 (.v 8 (.v 9 .done))))))))))) 11 1 1 rfl rfl I8 (by kernel_rfl) ?_
    refine Tm z z<|Tv z (V.U9 z)<|Tv z (V.fa A0v z)<|Tv z (Val.XA fun _ _ _=>V.ldO (k:=3) D9 z (j:=0) z z)<|Tm z z<|Tv z (V.U9 z)<|Tv z (V.fa A9L z)<|Tv z (Val.XA fun _ _ _=>V.ldO (k:=2) A4t z (j:=0) z z)<|Tv z (V.P6 A1O z hS0_4)<|Tv z (V.eq z z)<|T.R5 (SX.two (XA.fr [0] Lr z) (XA.fr [0] Lr z))<|Th<|T.cH H z (fun H=>?_) (fun H=>?_)
    ·exact dead H
    refine T.skip<|Th<|Sq<|T.O8 (t:=(.v 0 (.v 1 (.v 2 (.v 3 (.v 4 (.v 5 (.v 6 (.v 7 (.v 8 (.v 9 (.alt 10 (.alt 11 .done .no) .no)))))))))))) 13 1 1 rfl rfl I8 (by kernel_rfl) ?_
    refine Tm z z<|Tv z (V.U9 z)<|Tv z (V.fa A9L z)<|Tv z (Val.XA fun _ _ _=>V.ldO (k:=2) A4t z (j:=0) z z)<|Tm z z<|Tv z (V.U9 z)<|Tv z (V.fa A0v z)<|Tv z (Val.XA fun _ _ _=>V.ldO (k:=3) D9 z (j:=0) z z) ?_
    obtain ⟨o,J,H⟩:=bnd H
    obtain ⟨bu,an,rfl⟩:=G9.at hS0_4 J
    refine Tv z (V.ix A1O rfl rfl hS0_4 (H6 J))<|Tv z (V.Z9 rfl an (by exact B3K)) ?_
    refine Tp z z (SX.two (XA.fr [0] Lr z) (XA.fr [0] Lr z)) (O.alloc A8e z z fun bw=>?_) T.Q9
    refine Tp z z (SX.two (XA.fr [1] Lr z) (XA.fr [1] Lr z)) (O.stF (vs:=[.int .u8 o.J4,.int .i64 o.fN]) B3K z z (j:=0) z z z z ?_) T.Q9
    refine T.fl ?_
    refine T.freeze fun bx bA ao=>have a:=AtC.of ao; T.R5 (SX.two (XA.fr [0] Li z) (XA.fr [0] Li z))<|Th<|Sq<|Sr<|Vv (V.fa B7l z)<|Vv (V.I6 (k:=0) B9Y z a z)<|Nt<|Bl<|Sr<|Vv (V.eq z z)<|Ag z<|Nt<|T.cH H z (fun H=>?_) (fun H=>?_)
    ·refine Sq<|Sq<|T.O8 (t:=(.v 0 (.v 1 (.v 2 (.v 3 (.v 4 (.v 5 (.v 6 (.v 7 (.v 8 (.v 9 (.v 10 (.v 11 (.v 12 (.v 13 (.v 14 (.v 15 (.v 16 (.v 17 (.v 18 (.v 19 (.v 20 (.v 21 (.v 22 (.v 23 .done))))))))))))))))))))))))) 25 2 2 rfl rfl I8 (by kernel_rfl) ?_
     refine Tv z (V.fa A0h z)<|Tv z (V.I6 (k:=1) D9 z a z)<|Tv z (V.lt z z)<|Tm z z<|T.bH 37 H z (fun H=>?_) (fun H=>?_)
     ·exact dead H
     refine Tv z (V.fa A0h z)<|Tv z (V.I6 (k:=1) D9 z a z)<|Tm z z<|Tv z (V.U9 z)<|Tv z (V.fa A1k z)<|Tv z (Val.XA fun _ _ _=>V.ldO (k:=4) F4 z (j:=0) z z)<|Tv z (Val.XA fun _ _ _=>V.A2E D6 z (j:=1) z hR0_7.len)<|Tv z (V.ge z z)<|Tv z (V.J9 z z)<|Tm z z<|T.bH 47 H z (fun H=>?_) (fun H=>?_)
     ·exact dead H
     refine Tm z z<|Tv z (V.U9 z)<|Tv z (V.fa A1k z)<|Tv z (Val.XA fun _ _ _=>V.ldO (k:=4) F4 z (j:=0) z z)<|Tv z (V.fa A0h z)<|Tv z (V.I6 (k:=1) D9 z a z) ?_
     obtain ⟨bB,K,H⟩:=bnd H
     obtain ⟨bC,ap,rfl⟩:=A7.get hR0_7 K
     refine Tv z (Val.XA fun _ _ _=>V.ixR D6 z z (j:=1) z (A7.bd hR0_7 K))<|Tv z (Val.XA fun _ _ _=>V.ldR D9 z (j:=1) z ap z)<|Tv z (V.ge z z)<|Tv z (V.J9 z z)<|T.R5 (SX.two (XA.fr [1,1] Lr z) (XA.fr [1,1] Lr z))<|Th<|T.cH H z (fun H=>?_) (fun H=>?_)
     ·exact dead H
     refine T.skip<|Th<|Sq<|T.norm [0,4] z<|T.fl ?_
     refine Rg<|Mv z<|Vv (V.U9 z)<|Vv (V.fa A0v z)<|Vv (V.ldO (k:=3) D9 z (j:=0) z z) ?_
     obtain ⟨M,aq,H⟩:=bnd H
     refine Vv (V.L8 z z aq)<|Vv (V.U9 z)<|Vv (V.fa A0v z)<|To (O.st (vs:=[.int .i64 M]) (k:=3) D9 z z (j:=0) z z z<|Nt<|Sq<|Sr<|Mv z<|Vv (V.U9 z)<|Vv (V.fa A2B z)<|Vv (V.ldO (k:=0) A0Y z (j:=0) z z)<|have ar:=hP0_2; ?_)
     obtain ⟨N,_,rfl,P,⟨S,U,W,X,Y,Z,aa,ab,ac,rfl,au,aw,ax,ay,aA,aB,ad,aC,aD⟩⟩:=ar
     refine Vv (V.U9 z)<|Vv (V.fa A0t z)<|Vv (V.I6 (k:=6) F4 z P.u z)<|Vv (V.P6 D6 z ad)<|Mv z<|Nt ?_
     obtain ⟨ae,aE,aG⟩:=N7 H
     refine T.O5 (α:=Int×(List Int)×Value×(List (List Value))) [0] z (fun ⟨r,s,w,y⟩=>[]) (fun ⟨r,s,w,y⟩=>blk pb0 (.cells [.pointer (some N),.int .i64 r1.A0T,v0_3,.int .i64 r,w].toArray 113)::D8 3 1 w y::L) (fun ⟨r,s,w,y⟩ hh=>ae = (Sum.inl (r,s))∧A7 (VI .i64) hh y s) ?_ ?_
     ·have H:=aE
      refine Bl<|T.N8 (α:=Nat×Int×(List Int)×Int×Value×(List (List Value))) [0,4,74] z (fun ⟨p,b,e,c,f,d⟩=>[(75,.int .i64 c)]) (fun ⟨p,b,e,c,f,d⟩=>blk pb0 (.cells [.pointer (some N),.int .i64 r1.A0T,v0_3,.int .i64 b,f].toArray 113)::D8 3 1 f d::L) (fun ⟨p,b,e,c,f,d⟩ hh=>iter (B2o (A7y n) r1 o) p (b,e,c) = some ae∧A7 (VI .i64) hh d e) (fun ⟨p,b,e,c,f,d⟩=>p) (FUEL,M,r1.R6,(0:Int),v0_5,css0_6) ⟨z,trivial⟩ z ⟨H,hR0_7.u⟩ ?_
      rintro ⟨p,b,e,c,f,d⟩ bD bE ⟨aI,m⟩
      obtain ⟨af,bG,rfl,H,B⟩:=I4 aI
      refine T.norm [75,0,4,74] z<|T.fl ?_
      refine Sr<|Vv (V.lt z z)<|Nt<|Sq<|T.cH H z (fun H=>?_) (fun H=>?_)
      ·refine T.skip<|Th<|Sq<|Bl<|Sr<|Mv z<|Ag z<|Nt<|Sr<|Mv z<|Vv (V.U9 z)<|Vv (V.fa A1k z)<|Vv (V.ldO (k:=4) F4 z (j:=0) z z)<|Mv z<|I7 1 z ?_
       obtain ⟨aJ,aK,H⟩:=bnd H
       refine To (O.C8 z (H5.A1v (val:=.bool aJ) Tryz.func38 z Y4 fun bI bJ aM=>?_) z fun bK C bM bN aN=>?_)
       ·have aO:=A7.slc aM m.u
        exact A1f aO aK _
       obtain ⟨rfl,aP⟩:=aN
       refine I9 _ aP<|Vv (V.not z)<|Nt<|T.cH H z (fun H=>?_) (fun H=>?_)
       ·refine Sq<|I7 1 z<|T.O8 (t:=(.v 0 (.v 1 (.v 2 (.v 3 (.v 4 (.v 5 (.v 6 (.x 7 (.alt 8 .done .no)))))))))) 8 2 1 rfl rfl I8 (by kernel_rfl) ?_
        refine Tm z z<|Tv z (V.U9 z)<|Tv z (V.fa A1k z)<|Tv z (Val.XA fun _ _ _=>V.ldO (k:=4) F4 z (j:=0) z z)<|Tv z (V.fa A0h z)<|Tv z (V.I6 (k:=1) D9 z a.u z)<|Tm z z ?_
        obtain ⟨bO,D,H⟩:=bnd H
        obtain ⟨bP,bS,rfl⟩:=A7.get m D
        refine T.tx z z (Val.XA fun _ _ _=>V.ixR D6 z z (j:=1) z (A7.bd m D)) z Calm.i ?_
        obtain ⟨ag,aS,H⟩:=bnd H
        refine Tp z z (SX.two (XA.fr [0] Lr z) (XA.fr [1,1] Lr z)) (O.stR D9 z z (j:=1) z (A7.bdN m D) z ?_) T.Q9
        have aU:A7 (VI .i64) C (d.set o.fN.toNat [.int .i64 c]) ag:=A7.set m.u (show (VI .i64) C [.int .i64 c] c from z) aS
        refine T.R5 (SX.one (XA.fr [1] Lr z) z)<|Th<|Sr<|Mv z<|Vv (V.fa A0h z)<|Vv (V.I6 (k:=1) D9 z a.u z)<|I7 1 z ?_
        obtain ⟨aV,aW,H⟩:=bnd H
        rcases aV with aX | bU
        rotate_left
        ·exact dead H
        refine To (O.C8 z (FnE.toS (self (r1:=(A0b.mk r1.A1w r1.A0T r1.A2d b ag)) (Pt.mk P.u (show R3 C [S,U,W,X,Y,Z,aa,ab,ac] r1.A1w from ⟨S,U,W,X,Y,Z,aa,ab,ac,z,au.u,aw.u,ax.u,ay.u,aA.u,aB.u,ad.u,aC.u,aD.u⟩)) hS0_4.u aU aW _) fun _ _ _ q=>q) z fun bV ai bW bX aY=>?_)
        obtain ⟨aZ,aj,rfl,a0,A⟩:=aY
        refine I9 _ a0<|Nt<|T.O8 (t:=(.v 0 (.v 1 (.v 2 (.v 3 (.v 4 (.v 5 (.x 6 (.alt 7 .done .no))))))))) 7 2 1 rfl rfl I8 (by kernel_rfl) ?_
        refine Tm z z<|Tv z (V.U9 z)<|Tv z (V.fa A1k z)<|Tv z (Val.XA fun _ _ _=>V.ldO (k:=4) F4 z (j:=0) z z)<|Tv z (V.fa A0h z)<|Tv z (V.I6 (k:=1) D9 z a.u z) ?_
        obtain ⟨bY,E,H⟩:=bnd H
        obtain ⟨bZ,b0,rfl⟩:=A7.get A E
        refine T.tx z z (Val.XA fun _ _ _=>V.ixR D6 z z (j:=1) z (A7.bd A E)) z Calm.i ?_
        obtain ⟨ak,a1,H⟩:=bnd H
        refine Tp z z (SX.two (XA.fr [0] Lr z) (XA.fr [1,1] Lr z)) (O.stR D9 z z (j:=1) z (A7.bdN A E) z ?_) T.Q9
        have a2:A7 (VI .i64) ai (aj.set o.fN.toNat [.int .i64 (-1:Int)]) ak:=A7.set A (show (VI .i64) ai [.int .i64 (-1:Int)] (-1:Int) from z) a1
        refine T.R5 (SX.one (XA.fr [1] Lr z) z)<|Bn<|Th<|T.norm [0,4,74,75] z<|T.fl ?_
        refine Rg ?_
        obtain ⟨a3,a4,H⟩:=bnd H
        refine Vv (V.L8 z z a4)<|Mv z<|Nt<|I7 1 z<|T.again (af,aX.1,ak,a3,aZ,(aj.set o.fN.toNat [.int .i64 (-1:Int)])) Li (Nat.lt_succ_self _) ⟨(G8 H B),a2⟩ (A9.app ⟨z,trivial⟩ ⟨z,z,z,trivial⟩) z
       refine T.skip<|Bn<|Th<|Rg ?_
       obtain ⟨a5,a6,H⟩:=bnd H
       refine Vv (V.L8 z z a6)<|Mv z<|Nt<|I7 1 z<|T.again (af,b,e,a5,f,d) Li (Nat.lt_succ_self _) ⟨(G8 H B),m.u⟩ (A9.app ⟨z,trivial⟩ ⟨z,z,z,trivial⟩) z
      refine T.exit<|Te<|Te<|have H:=D7 H B; Be<|Th<|T.met (b,e,f,d) Li ⟨H,m⟩ (A9.app trivial ⟨z,trivial⟩) z
     rintro ⟨r,s,w,y⟩ b1 b2 ⟨a7,a8⟩
     have H:=J5 a7 aG
     refine T.norm [0] z<|T.fl ?_
     refine T.ret<|Br<|Tr ?_
     obtain rfl:=Option.some.inj H
     exact T.C7X Tryz.results46 Li (PE.ret ⟨_,_,z,z,a8⟩)
    refine Sr<|Vv (V.eq z z)<|Ag z<|Nt<|T.cH H z (fun H=>?_) (fun H=>?_)
    ·refine Sq<|T.O8 (t:=(.v 0 (.v 1 (.v 2 (.v 3 (.v 4 (.v 5 (.v 6 (.v 7 (.v 8 (.v 9 (.v 10 (.v 11 (.v 12 (.v 13 (.v 14 (.v 15 (.v 16 (.v 17 (.v 18 (.v 19 (.v 20 (.v 21 (.v 22 (.v 23 (.v 24 (.v 25 (.v 26 (.v 27 (.v 28 (.v 29 (.v 30 (.v 31 (.v 32 (.v 33 (.v 34 (.v 35 (.v 36 (.v 37 (.v 38 (.v 39 (.v 40 (.v 41 (.v 42 (.v 43 (.v 44 (.v 45 (.v 46 (.alt 47 (.g (.v 48 (.v 49 .done))) .no))))))))))))))))))))))))))))))))))))))))))))))))) 51 2 2 rfl rfl I8 (by kernel_rfl) ?_
     refine Tv z (V.fa A0h z)<|Tv z (V.I6 (k:=1) D9 z a z)<|Tv z (V.lt z z)<|Tm z z<|T.bH 110 H z (fun H=>?_) (fun H=>?_)
     ·exact dead H
     refine Tv z (V.fa A0h z)<|Tv z (V.I6 (k:=1) D9 z a z)<|Tm z z<|Tv z (V.U9 z)<|Tv z (V.fa A2B z)<|Tv z (Val.XA fun _ _ _=>V.ldO (k:=0) A0Y z (j:=0) z z)<|have a9:=hP0_2; ?_
     obtain ⟨b3,_,rfl,G,⟨b4,b5,b6,b7,b8,b9,bh,bl,bv,rfl,ah,bz,ca,cb,cc,I,cd,ce,cf⟩⟩:=a9
     refine Tv z (V.U9 z)<|Tv z (V.fa A6T z)<|Tv z (V.fa T9 z)<|Tv z (V.I6 (k:=5) Q8 z G.u z)<|Tv z (V.P6 S9 z I)<|Tv z (V.ge z z)<|Tv z (V.J9 z z)<|Tm z z<|T.bH 124 H z (fun H=>?_) (fun H=>?_)
     ·exact dead H
     refine Tm z z<|Tv z (V.U9 z)<|Tv z (V.fa A2B z)<|Tv z (Val.XA fun _ _ _=>V.ldO (k:=0) A0Y z (j:=0) z z)<|Tv z (V.U9 z)<|Tv z (V.fa A6T z)<|Tv z (V.fa T9 z)<|Tv z (V.I6 (k:=5) Q8 z G.u z)<|Tv z (V.fa A0h z)<|Tv z (V.I6 (k:=1) D9 z a z) ?_
     obtain ⟨cg,am,H⟩:=bnd H
     obtain ⟨ci,al,rfl⟩:=G9.at I am
     refine Tv z (V.ix S9 z z I (H6 am))<|Tv z (V.fa A1a z)<|Tv z (V.I6 (k:=1) D9 z al.u z)<|Tv z (V.gt z z)<|Tv z (V.J9 z z)<|Tm z z<|T.bH 140 H z (fun H=>?_) (fun H=>?_)
     ·exact dead H
     refine Tm z z<|Tv z (V.U9 z)<|Tv z (V.fa A2B z)<|Tv z (Val.XA fun _ _ _=>V.ldO (k:=0) A0Y z (j:=0) z z)<|Tv z (V.U9 z)<|Tv z (V.fa A3F z)<|Tv z (V.I6 (k:=0) R7 z G.u z)<|Tm z z<|Tv z (V.U9 z)<|Tv z (V.fa A1k z)<|Tv z (Val.XA fun _ _ _=>V.ldO (k:=4) F4 z (j:=0) z z)<|Tv z (V.fa A0h z)<|Tv z (V.I6 (k:=1) D9 z a z)<|I7 1 z ?_
     obtain ⟨av,az,H⟩:=bnd H
     refine Tp z z (SX.two (XA.fr [0,1] Lr z) (XA.fr [0,1] Lr z)) (O.C8 z (H5.A1v (val:=.int .i64 av) Tryz.func93 z Y4 fun cj ck ba=>?_) z fun cm cn co cp bb=>?_) T.Q9
     ·have bc:=A7.slc ba hR0_7.u
      exact B1f ah.u bc az _
     obtain ⟨rfl,be⟩:=bb
     refine I9 _ be<|T.M6 Li<|Tv z (V.eq z z)<|Tv z (V.J9 z z)<|T.R5 (SX.two (XA.fr [0,1] Lr z) (XA.fr [0,1] Lr z))<|Th<|T.cH H z (fun H=>?_) (fun H=>?_)
     ·exact dead H
     refine T.skip<|Bn<|Th<|T.norm [0] z<|T.fl ?_
     refine Rg<|Mv z<|Vv (V.U9 z)<|Vv (V.fa A0v z)<|Vv (V.ldO (k:=3) D9 z (j:=1) z z) ?_
     obtain ⟨bf,bg,H⟩:=bnd H
     refine Vv (V.L8 z z bg)<|Vv (V.U9 z)<|Vv (V.fa A0v z)<|To (O.st (vs:=[.int .i64 bf]) (k:=3) D9 z z (j:=1) z z z<|Ni ?_)
     obtain rfl:=Option.some.inj H
     exact T.C6W Tryz.results46 Li (PE.ret ⟨_,_,z,z,hR0_7.u⟩)
    refine Sr<|Vv (V.eq z z)<|Ag z<|Nt<|T.cH H z (fun H=>?_) (fun H=>?_)
    ·refine Sq<|T.O8 (t:=(.v 0 (.v 1 (.v 2 (.v 3 (.v 4 (.v 5 (.v 6 (.v 7 (.v 8 (.v 9 (.v 10 (.v 11 (.v 12 (.v 13 (.v 14 (.v 15 (.v 16 (.v 18 (.v 19 (.v 20 (.v 21 (.alt 17 (.g (.v 22 (.v 23 .done))) .no))))))))))))))))))))))) 25 2 2 rfl rfl I8 (by kernel_rfl) ?_
     refine Tm z z<|Tv z (V.U9 z)<|Tv z (V.fa B0j z)<|Tv z (Val.XA fun _ _ _=>V.ldO (k:=1) D9 z (j:=0) z z)<|Tv z (V.lt z z)<|Tm z z<|T.bH 166 H z (fun H=>?_) (fun H=>?_)
     ·exact dead H
     refine Tm z z<|Tv z (V.U9 z)<|Tv z (V.fa A2B z)<|Tv z (Val.XA fun _ _ _=>V.ldO (k:=0) A0Y z (j:=0) z z)<|have bi:=hP0_2; ?_
     obtain ⟨cq,_,rfl,bj,⟨cr,cs,ct,cu,cw,cx,cy,cA,cB,rfl,bk,cC,cD,cE,cG,cI,cJ,cK,cM⟩⟩:=bi
     refine Tv z (V.U9 z)<|Tv z (V.fa A3F z)<|Tv z (V.I6 (k:=0) R7 z bj.u z)<|Tm z z<|Tv z (V.U9 z)<|Tv z (V.fa A1k z)<|Tv z (Val.XA fun _ _ _=>V.ldO (k:=4) F4 z (j:=0) z z)<|Tm z z<|Tv z (V.U9 z)<|Tv z (V.fa B0j z)<|Tv z (Val.XA fun _ _ _=>V.ldO (k:=1) D9 z (j:=0) z z)<|I7 1 z ?_
     obtain ⟨bm,bn,H⟩:=bnd H
     refine Tp z z (SX.two (XA.fr [0,1] Lr z) (XA.fr [0,1] Lr z)) (O.C8 z (H5.A1v (val:=.int .i64 bm) Tryz.func108 z Y4 fun cN cO bo=>?_) z fun cP cS cU cV bp=>?_) T.Q9
     ·have bq:=A7.slc bo hR0_7.u
      exact B2q bk.u bq bn _
     obtain ⟨rfl,br⟩:=bp
     refine I9 _ br<|T.M6 Li<|Tv z (V.lt z z)<|Tv z (V.J9 z z)<|T.R5 (SX.two (XA.fr [0,1] Lr z) (XA.fr [0,1] Lr z))<|Th<|T.cH H z (fun H=>?_) (fun H=>?_)
     ·exact dead H
     refine T.skip<|Bn<|Th<|T.norm [0] z<|T.fl ?_
     refine Rg<|Mv z<|Vv (V.U9 z)<|Vv (V.fa A0v z)<|Vv (V.ldO (k:=3) D9 z (j:=1) z z) ?_
     obtain ⟨bs,bt,H⟩:=bnd H
     refine Vv (V.L8 z z bt)<|Vv (V.U9 z)<|Vv (V.fa A0v z)<|To (O.st (vs:=[.int .i64 bs]) (k:=3) D9 z z (j:=1) z z z<|Ni ?_)
     obtain rfl:=Option.some.inj H
     exact T.C6W Tryz.results46 Li (PE.ret ⟨_,_,z,z,hR0_7.u⟩)
    exact dead H
end Go.Proofs.X
open Go Go.Proofs Go.Sl Go.Dm
namespace Go.Proofs.X
theorem B9C : A2Y Tryz.prog 113 = some ([.pointer none,.int .i64 (0),.slice none 0 0,.int .i64 (0),.slice none 0 0],[(0,1),(1,1),(2,1),(3,1),(4,1)]):=by kernel_rfl
theorem C0J : A0m Tryz.prog 113 = true:=by kernel_rfl
theorem A4A : X9 Tryz.prog 31 = some (false,1):=by kernel_rfl
theorem B5o : zer Tryz.prog 31 = some (.int .i64 (0)):=by kernel_rfl
theorem B2R {h : PH} {b0 b1 : Nat} (L : List E9) : FnQ Tryz.prog 44 [.pointer (some ⟨b0,0,none⟩),.pointer (some ⟨b1,0,none⟩)] h L (fun _ L'=>L' = L):=by
  refine FnQ.enter Tryz.func44 rfl Tryz.ntmps44 Tryz.results44 rfl rfl rfl ?_
  refine T.seq ?_
  refine T.region ?_
  refine T.v rfl (V.mv rfl) rfl ?_
  refine T.v rfl (V.neN Tryz.underlying20 rfl) rfl ?_
  refine T.nil ?_
  refine T.thN ?_
  refine T.C7c rfl ?_
  refine T.skip ?_
  exact T.C8G (Le.refl _) rfl
theorem B6v {h:PH} {pc0:List Value} {p1:A8} (pr0:C9 h pc0 p1) {bound12:Int} {pv2:Value} {steps13:List U1} (pr2:G9 Y9 2 h pv2 steps13) {r_0:Int} {r_1:Int} (H:B3s p1 bound12 steps13 = some (r_0,r_1)):∀ L,H5 Tryz.prog 22 [.agg pc0.toArray,.int .i64 bound12,pv2] h (L) (fun v h' L'=>v = .tuple #[.int .i64 r_0,.int .i64 r_1]∧L' = L):=by
 intro L
 obtain ⟨b,c,d,e,f,rfl,g,i,m,n,o⟩:=pr0
 refine H5.C7v Tryz.func22 rfl Tryz.ntmps22 rfl<|Sr<|To (O.V3 rfl rfl rfl fun P p S r=>To (O.alloc Q4 rfl rfl fun U=>To (O.alloc B5o rfl rfl fun W=>Nt<|Sr<|Vv (V.Z9 rfl r (by exact F9)) ?_)))
 obtain ⟨⟨s,X,t⟩,w,H⟩:=bnd H
 refine To (O.C8 z (B0D (show C9 p [b,c,d,e,f] p1 from ⟨b,c,d,e,f,z,g.u,i.u,m.u,n.u,o.u⟩) w _) z fun Y Z aa ab x=>?_)
 obtain ⟨ac,rfl,y,a⟩:=x
 refine I9 _ y<|Mv z<|Vv (V.ext z z)<|Vv (V.ext z z)<|Vv (V.ext z z)<|Ag z<|Ag z<|To (O.stF (vs:=[.int .i64 t]) A4A z z (j:=0) z z z z<|Nt<|Sq<|Sr<|Vv (V.A6h A4A z (j:=0) z z)<|Vv (V.ne z z)<|Nt<|T.cH H z (fun H=>?_) (fun H=>?_))
 ·exact dead H
 refine T.skip<|Th<|Sq<|Sr<|Mv z<|Vv (V.P6 A1O z pr2)<|Vv (V.gt z z)<|Nt<|T.cH H z (fun H=>?_) (fun H=>?_)
 ·exact dead H
 refine T.skip<|Th<|Sr<|Vv (V.mkf z z)<|To (T.dfr z<|Nt<|Sr<|Mv z<|Mv z<|Mv z<|Mv z ?_)
 obtain ⟨A,B,H⟩:=bnd H
 refine To (O.C8 z (B0A a B _) z fun ad ae af ag C=>?_)
 obtain ⟨ai,D,E⟩:=C
 refine I9 _ D<|T.M5 0 z fun aj G=>Vv (V.bld (xs:=[(0,.tmp 24),(1,.tmp 25),(2,.tmp 26),(4,.tmp 28)]) (cs:=[_,_,_,_,_]) B9C C0J z (F8.cons z (Pt.cells a) z (F8.cons z z z (F8.cons z (G9.cells pr2) z (F8.cons z G z F8.nil)))))<|To (O.box z z z fun ak=>Ag z<|Nt<|Sr<|Mv z ?_)
 obtain ⟨I,J,H⟩:=bnd H
 rcases I with am | an
 rotate_left
 ·exact dead H
 refine To (O.C8 z (FnE.toS (B7X _ (r1:=(A0b.mk s bound12 steps13 (0:Int) A)) a.u pr2.u E J _) fun _ _ _ q=>q) z fun ap aq ar au K=>?_)
 obtain ⟨aw,ax,rfl,M,ay⟩:=K
 refine I9 _ M<|Nt<|Sq<|Sr<|Mv z<|Vv (V.U9 z)<|Vv (V.fa A0v z)<|Vv (V.ldO (k:=3) D9 z (j:=0) z z)<|Mv z<|Vv (V.P6 A1O z pr2)<|Vv (V.lt z z)<|Nt<|T.cH H z (fun H=>?_) (fun H=>?_)
 ·exact dead H
 refine T.skip<|Th<|Sq<|T.norm [6,7] z<|T.fl ?_
 refine Rg<|To (O.stF (vs:=[.int .i64 (0:Int)]) D9 z z (j:=3) z z z z<|T.fl ?_)
 refine To (O.stF (vs:=[.int .i64 (0:Int)]) A4A z z (j:=3) z z z z<|T.fl ?_)
 refine Nt<|T.ret<|T.C8f<|T.lvQ (B2R _) fun aA aB aC N=>I9 _ N<|I7 2 z<|T.fl ?_
 refine T.drop<|I7 2 z<|T.fl ?_
 refine T.drop<|I7 1 z ?_
 obtain ⟨rfl,rfl⟩:=inj2 H
 exact T.C5Q (L':=L) Tryz.results22 (RVs.cons (RV.cell D9 z (j:=0) z z) (RVs.cons (RV.cell A4A z (j:=1) z z) RVs.nil)) Li (fun _ iv=>iv.drop.drop) ⟨z,z⟩
end Go.Proofs.X
open Go Go.Proofs Go.Sl Go.Dm
namespace Go.Proofs.X
theorem C0p : A2Y Tryz.prog 156 = some ([.pointer none,.int .i64 (0),.slice none 0 0,.slice none 0 0],[(0,1),(1,1),(2,1),(3,1)]):=by kernel_rfl
theorem C0k : A2Y Tryz.prog 181 = some ([.int .u8 (0),.int .i64 (0)],[(0,1),(1,1)]):=by kernel_rfl
theorem B9F : A0m Tryz.prog 156 = true:=by kernel_rfl
theorem C0G : A0m Tryz.prog 181 = true:=by kernel_rfl
theorem A3D : O3 Tryz.prog 156 0 = some 0:=by kernel_rfl
theorem A9O : O3 Tryz.prog 156 1 = some 1:=by kernel_rfl
theorem A5L : O3 Tryz.prog 156 2 = some 2:=by kernel_rfl
theorem A1h : O3 Tryz.prog 156 3 = some 3:=by kernel_rfl
theorem B8H {h:PH} {pv0:Value} {h1:Z0} (pr0:Pt R3 h pv0 h1) {pv1:Value} {part2:List Int} (pr1:G9 (VI .i64) 1 h pv1 part2) {g3:Int} {r_0:Int} (H:B6L h1 part2 g3 = some r_0):∀ L,H5 Tryz.prog 167 [pv0,pv1,.int .i64 g3] h (L) (fun v h' L'=>v = .int .i64 r_0∧L' = L):=by
 intro L
 refine H5.enter Tryz.func167 rfl Tryz.ntmps167 rfl<|Sr<|Ag z<|Nt<|Sq<|T.O8 (t:=(.v 0 (.v 1 (.v 2 (.v 3 (.v 4 (.v 5 (.v 6 (.v 7 (.v 8 (.v 9 (.alt 10 .done .no)))))))))))) 12 0 0 rfl rfl I8 (by kernel_rfl) ?_
 refine Tm z z<|have A:=pr0; ?_
 obtain ⟨ag,_,rfl,c,⟨f,g,i,j,m,n,o,p,q,rfl,B,C,D,E,G,I,d,J,e⟩⟩:=A
 refine Tv z (V.U9 z)<|Tv z (V.fa A0t z)<|Tv z (V.I6 (k:=6) F4 z c z)<|Tm z z<|Tm z z ?_
 obtain ⟨ai,r,H⟩:=bnd H
 obtain ⟨aj,K,rfl⟩:=G9.at pr1 r
 refine Tv z (V.ix D6 z z pr1 (H6 r))<|Tv z (V.ld0 D9 z K z) ?_
 obtain ⟨ak,s,H⟩:=bnd H
 obtain ⟨am,M,rfl⟩:=G9.at d s
 refine Tv z (V.ix D6 z z d (H6 s))<|Tv z (V.ld0 D9 z M z)<|Ts z z (SX.two (XA.fr [] Lr z) (XA.fr [] Lr z)) (V.asg z) z ?_ T.Q9
 refine T.R5 (SX.two (XA.fr [] Lr z) (XA.fr [] Lr z))<|Th<|Sq<|Sr<|Mv z<|Vv (V.U9 z)<|Vv (V.fa A2W z)<|Vv (V.I6 (k:=8) A4n z c z)<|Mv z ?_
 obtain ⟨N,w,H⟩:=bnd H
 obtain ⟨an,P,⟨ao,rfl,S⟩⟩:=G9.at e w
 refine Vv (V.ix A3g z z e (H6 w))<|Vv (V.ld0 A0D z P z)<|Vv (V.P6 Q7 z S)<|Mv z<|Nt ?_
 obtain ⟨x,U,W⟩:=N7 H
 refine T.O5 (α:=Unit) [] z (fun _u=>[]) (fun _u=>L) (fun _u hh=>x = ()) ?_ ?_
 ·have H:=U
  refine Bl<|T.N8 (α:=Nat×Int) [0,1,2,26] z (fun ⟨a,b⟩=>[(27,.int .i64 b)]) (fun ⟨a,b⟩=>L) (fun ⟨a,b⟩ hh=>iter (B1y h1 part2 g3 N) a b = some x) (fun ⟨a,b⟩=>a) (FUEL,(0:Int)) ⟨z,trivial⟩ z H ?_
  rintro ⟨a,b⟩ X ap Y
  obtain ⟨Z,aq,rfl,H,y⟩:=I4 Y
  refine T.norm [27,0,1,2,26] z<|T.fl ?_
  refine Sr<|Vv (V.lt z z)<|Nt<|Sq<|T.cH H z (fun H=>?_) (fun H=>?_)
  ·refine T.skip<|Th<|Sq<|Bl<|Sr<|Mv z<|Ag z<|Nt<|Sr<|Mv z<|Mv z<|Mv z<|Mv z ?_
   obtain ⟨ar,aa,H⟩:=bnd H
   refine To (O.C8 z (B9N (Pt.mk c.u (show R3 X [f,g,i,j,m,n,o,p,q] h1 from ⟨f,g,i,j,m,n,o,p,q,z,B.u,C.u,D.u,E.u,G.u,I.u,d.u,J.u,e.u⟩)) pr1.u aa _) z fun au aw ax ay ab=>?_)
   obtain ⟨rfl,ac⟩:=ab
   refine I9 _ ac<|Nt<|T.cH H z (fun H=>?_) (fun H=>?_)
   ·exact dead H
   refine T.skip<|Bn<|Th<|Rg ?_
   obtain ⟨ad,ae,H⟩:=bnd H
   refine Vv (V.L8 z z ae)<|Mv z<|Nt<|T.again (Z,ad) Li (Nat.lt_succ_self _) (G8 H y) (A9.app ⟨z,trivial⟩ ⟨z,z,z,z,trivial⟩) z
  refine T.exit<|Te<|Te<|have H:=D7 H y; Be<|Th<|T.met () Li H (A9.app trivial trivial) z
 rintro _ aA aB af
 have H:=J5 af W
 refine T.norm [] z<|T.fl ?_
 refine Sr<|Ag z<|Nt<|T.ret ?_
 obtain rfl:=Option.some.inj H
 exact T.F5 Tryz.results167 (Rv z) Li ⟨z,z⟩
theorem A7W {h:PH} {pb0:Nat} {p1:U3} {v0_1:Value} {v0_3:Value} {css0_4:List (List Value)} {v0_6:Value} {css0_7:List (List Value)} (hP0_2:Pt R3 h v0_1 p1.A1w) (hR0_5:A7 Y9 h css0_4 p1.A2d) (hR0_8:A7 (VI .i64) h css0_7 p1.R6) {kind2:Int} {n3:Int} {r_0:Bool} {q_0:(List U1)×(List Int)} (H:A9C p1 kind2 n3 = some (r_0,q_0)):∀ L,H5 Tryz.prog 166 [.pointer (some ⟨pb0,0,none⟩),.int .u8 kind2,.int .i64 n3] h (blk pb0 (.cells [v0_1,.int .i64 p1.A0T,v0_3,v0_6].toArray 156)::D8 181 2 v0_3 css0_4::D8 3 1 v0_6 css0_7::L) (fun v h' L'=>∃ vl0_1 cssl0_2 vl0_4 cssl0_5,v = .bool r_0∧L' = blk pb0 (.cells [v0_1,.int .i64 p1.A0T,vl0_1,vl0_4].toArray 156)::D8 181 2 vl0_1 cssl0_2::D8 3 1 vl0_4 cssl0_5::L∧A7 Y9 h' cssl0_2 q_0.1∧A7 (VI .i64) h' cssl0_5 q_0.2):=by
 intro L
 refine H5.enter Tryz.func166 z Tryz.ntmps166 z<|Sr<|Ag z<|Nt<|Sr<|Mv z<|Mv z<|Vv (V.U9 z)<|Vv (V.fa A5L z)<|Vv (V.ldO (k:=2) A4t z (j:=0) z z)<|Mv z<|Mv z<|Vv (V.bld (xs:=[(0,.tmp 12),(1,.tmp 13)]) (cs:=[_,_]) C0k C0G z (F8.cons z z z (F8.cons z z z F8.nil)))<|To (O.bs A1O A8e z (e:=z) (hk:=z) (xs:=[.tmp 14]) (hv:=CO.eq (CO.cons z CO.nil)) (hw:=O7.of z) (hd:=z) fun m=>have a:A7 Y9 h [[.int .u8 kind2,.int .i64 n3]] ([(U1.mk kind2 n3)]:List U1):=(A7.cons z A7.nil); ?_)
 obtain ⟨c,b,H⟩:=bnd H
 refine To (O.apX A1O A1O A8e z z z (j:=2) z (Src.row (j:=0) z) (O7.of z) (A7.ones Y9.plain a) hR0_5 a b z fun d n o=>have f:A7 Y9 h (css0_4 ++ [[.int .u8 kind2,.int .i64 n3]]) c:=A7.ap hR0_5 a b; T.fl ?_)
 refine I7 1 z<|T.fl ?_
 refine T.drop<|Vv (V.U9 rfl)<|Vv (V.fa A5L rfl)<|T.M5 0 rfl fun g i=>To (O.st (vs:=[d]) (k:=2) A4t rfl rfl (j:=1) rfl i (by (simp only [Sl.ones,g,Bool.and_true,Bool.true_and]) <;> rfl) ?_)
 refine T.fl ?_
 refine Nt<|Sr<|Ag z<|Nt<|T.ret ?_
 obtain ⟨rfl,rfl⟩:=inj2 H
 exact T.F5 Tryz.results166 (Rv z) Lr ⟨_,_,_,_,z,z,f,hR0_8⟩
theorem B9n (n:Nat):∀ {h:PH} {pb0:Nat} {p1:U3} {v0_1:Value} {v0_3:Value} {css0_4:List (List Value)} {v0_6:Value} {css0_7:List (List Value)} (hP0_2:Pt R3 h v0_1 p1.A1w) (hR0_5:A7 Y9 h css0_4 p1.A2d) (hR0_8:A7 (VI .i64) h css0_7 p1.R6) {r_0:Bool} {q_0:(List U1)×(List Int)} (H:A7v n p1 = some (r_0,q_0)) (L:List E9),H5 Tryz.prog 92 [.pointer (some ⟨pb0,0,none⟩)] h (blk pb0 (.cells [v0_1,.int .i64 p1.A0T,v0_3,v0_6].toArray 156)::D8 181 2 v0_3 css0_4::D8 3 1 v0_6 css0_7::L) (fun v h' L'=>∃ vl0_1 cssl0_2 vl0_4 cssl0_5,v = .bool r_0∧L' = blk pb0 (.cells [v0_1,.int .i64 p1.A0T,vl0_1,vl0_4].toArray 156)::D8 181 2 vl0_1 cssl0_2::D8 3 1 vl0_4 cssl0_5::L∧A7 Y9 h' cssl0_2 q_0.1∧A7 (VI .i64) h' cssl0_5 q_0.2):=by
  induction n with
  | zero=>intros; rename_i H _; cases H
  | succ n self=>
    intro h pb0 p1 v0_1 v0_3 css0_4 v0_6 css0_7 hP0_2 hR0_5 hR0_8 r_0 q_0 H L
    refine H5.enter Tryz.func92 z Tryz.ntmps92 z<|Sr<|Ag z<|Nt<|Sq<|Sq<|I7 2 z<|T.fl ?_
    refine I7 1 z<|T.fl ?_
    refine T.O8 (t:=(.v 0 (.v 1 (.v 2 (.v 3 (.v 4 (.v 5 (.v 6 (.v 7 (.v 8 (.v 9 (.v 10 (.alt 11 (.g (.v 12 (.v 13 (.v 14 (.alt 15 (.alt 16 .done .no) .no))))) .no))))))))))))) 18 2 2 rfl rfl I8 (by kernel_rfl) ?_
    refine Tm z z<|Tv z (V.U9 z)<|Tv z (V.fa A3D z)<|Tv z (Val.XA fun _ _ _=>V.ldO (k:=0) A0Y z (j:=0) z z)<|have ay:=hP0_2; ?_
    obtain ⟨ag,_,rfl,s,⟨a,b,c,d,e,f,i,m,o,rfl,B,G,I,J,K,M,D,N,P⟩⟩:=ay
    refine Tv z (V.U9 z)<|Tv z (V.fa A3F z)<|Tv z (V.I6 (k:=0) R7 z s z)<|Tm z z<|Tv z (V.U9 z)<|Tv z (V.fa A1h z)<|Tv z (Val.XA fun _ _ _=>V.ldO (k:=3) F4 z (j:=0) z z)<|I7 1 z<|T.fl ?_
    obtain ⟨⟨aA,aB⟩,aC,H⟩:=bnd H
    refine Tp z z (SX.two (XA.fr [0,1] Lr z) (XA.fr [0,1] Lr z)) (O.C8 z (H5.A1v (val:=.tuple #[.int .i64 aA,.bool aB]) Tryz.func157 z Y4 fun bY bZ aD=>?_) z fun b0 aE b1 b2 aG=>?_) T.Q9
    ·have aI:=A7.slc aD hR0_8.u
     exact B3h B.u aI aC _
    obtain ⟨rfl,aJ⟩:=aG
    refine I9 _ aJ<|T.M6 Li<|Tm z z<|Tv z (V.ext z z)<|Tv z (V.ext z z)<|Ts z z (SX.two (XA.fr [0,1] Lr z) (XA.fr [0,1] Lr z)) (V.asg z) z ?_ T.Q9
    refine Ts z z (SX.two (XA.fr [0,1] Lr z) (XA.fr [0,1] Lr z)) (V.asg z) z ?_ T.Q9
    refine T.R5 (SX.two (XA.fr [0,1] Lr z) (XA.fr [0,1] Lr z))<|Th<|Sr<|Mv z<|Nt<|T.cH H z (fun H=>?_) (fun H=>?_)
    ·refine Sr<|Mv z<|Mv z<|I7 2 z<|T.fl ?_
     refine I7 2 z<|T.fl ?_
     obtain ⟨⟨b3,b4⟩,aK,H⟩:=bnd H
     refine To (O.C8 z (A7W (p1:=(U3.mk p1.A1w p1.A0T p1.A2d p1.R6)) (Pt.mk s.u (show R3 aE [a,b,c,d,e,f,i,m,o] p1.A1w from ⟨a,b,c,d,e,f,i,m,o,z,B.u,G.u,I.u,J.u,K.u,M.u,D.u,N.u,P.u⟩)) hR0_5.u hR0_8.u aK _) z fun b5 b6 b7 b8 aM=>?_)
     obtain ⟨b9,bh,bl,bv,rfl,aN,aO,aP⟩:=aM
     refine I9 _ aN<|Ag z<|Nt<|T.ret<|Tr ?_
     obtain ⟨rfl,rfl⟩:=inj2 H
     exact T.F5 Tryz.results92 (Rv z) Li ⟨_,_,_,_,z,z,aO,aP⟩
    refine T.skip<|Th<|Sq<|Sq<|T.O8 (t:=(.v 0 (.v 1 (.v 2 (.v 3 (.v 4 (.v 5 (.v 6 (.v 7 (.v 8 (.v 9 (.v 10 (.v 11 (.v 12 (.v 13 (.v 14 (.v 15 (.v 16 (.v 18 (.v 19 (.v 20 (.v 21 (.alt 17 (.g (.v 22 (.v 23 .done))) .no))))))))))))))))))))))) 25 2 2 rfl rfl I8 (by kernel_rfl) ?_
    refine Tm z z<|Tv z (V.U9 z)<|Tv z (V.fa A9O z)<|Tv z (Val.XA fun _ _ _=>V.ldO (k:=1) D9 z (j:=1) z z)<|Tv z (V.ge z z)<|Tm z z<|T.bH 33 H z (fun H=>?_) (fun H=>?_)
    ·refine Tm z z<|Tv z (V.U9 z)<|Tv z (V.fa A3D z)<|Tv z (Val.XA fun _ _ _=>V.ldO (k:=0) A0Y z (j:=1) z z)<|Tv z (V.U9 z)<|Tv z (V.fa A3F z)<|Tv z (V.I6 (k:=0) R7 z s.u z)<|Tm z z<|Tv z (V.U9 z)<|Tv z (V.fa A1h z)<|Tv z (Val.XA fun _ _ _=>V.ldO (k:=3) F4 z (j:=1) z z)<|Tm z z<|Tv z (V.U9 z)<|Tv z (V.fa A9O z)<|Tv z (Val.XA fun _ _ _=>V.ldO (k:=1) D9 z (j:=1) z z) ?_
     obtain ⟨aS,aU,H⟩:=bnd H
     refine Tp z z (SX.two (XA.fr [1,1] Lr z) (XA.fr [1,1] Lr z)) (O.C8 z (H5.A1v (val:=.int .i64 aS) Tryz.func108 z Y4 fun bz ca aV=>?_) z fun cb aW cc cd aX=>?_) T.Q9
     ·have aY:=A7.slc aV hR0_8.u
      exact B2q B.u aY aU _
     obtain ⟨rfl,aZ⟩:=aX
     refine I9 _ aZ<|T.M6 Li<|Tv z (V.ge z z)<|Tv z (V.M0 z z)<|T.R5 (SX.two (XA.fr [1,1] Lr z) (XA.fr [1,1] Lr z))<|Th<|T.cH H z (fun H=>?_) (fun H=>?_)
     ·refine Sq<|T.norm [0] z<|T.fl ?_
      refine Rg<|Mv z<|I7 2 z<|T.fl ?_
      refine I7 2 z<|T.fl ?_
      obtain ⟨⟨ce,cf⟩,a0,H⟩:=bnd H
      refine To (O.C8 z (A7W (p1:=(U3.mk p1.A1w p1.A0T p1.A2d p1.R6)) (Pt.mk s.u (show R3 aW [a,b,c,d,e,f,i,m,o] p1.A1w from ⟨a,b,c,d,e,f,i,m,o,z,B.u,G.u,I.u,J.u,K.u,M.u,D.u,N.u,P.u⟩)) hR0_5.u hR0_8.u a0 _) z fun cg ci cj ck a1=>?_)
      obtain ⟨cm,cn,co,cp,rfl,a2,a3,a4⟩:=a1
      refine I9 _ a2<|Ag z<|Nt<|T.ret<|Tr ?_
      obtain ⟨rfl,rfl⟩:=inj2 H
      exact T.F5 Tryz.results92 (Rv z) Li ⟨_,_,_,_,z,z,a3,a4⟩
     refine T.skip<|Th<|Sq<|T.norm [0] z<|T.fl ?_
     refine Rg<|Mv z<|Vv (V.U9 z)<|Vv (V.fa A1h z)<|Vv (V.ldO (k:=3) F4 z (j:=1) z z) ?_
     obtain ⟨S,a5,H⟩:=bnd H
     refine To (O.C8 z (H5.A1v (val:=.int .i64 S) Tryz.func99 z Y4 fun cq cr a6=>?_) z fun cs a7 ct cu a8=>?_)
     ·have a9:=A7.slc a6 hR0_8.u
      exact B1c a9 a5 _
     obtain ⟨rfl,ah⟩:=a8
     refine I9 _ ah<|Ag z<|Nt<|Sq<|Sr<|Mv z<|Vv (V.lt z z)<|Nt<|T.cH H z (fun H=>?_) (fun H=>?_)
     ·refine Sr<|Ag z<|Nt<|T.ret<|Tr<|I7 2 z<|T.fl ?_
      refine I7 2 z<|T.fl ?_
      obtain ⟨rfl,rfl⟩:=inj2 H
      exact T.F5 Tryz.results92 (Rv z) Li ⟨_,_,_,_,z,z,hR0_5.u,hR0_8.u⟩
     refine T.skip<|Th<|Sr<|Mv z<|Mv z<|I7 2 z<|T.fl ?_
     refine I7 2 z<|T.fl ?_
     obtain ⟨⟨cw,ai⟩,al,H⟩:=bnd H
     refine To (O.C8 z (A7W (p1:=(U3.mk p1.A1w p1.A0T p1.A2d p1.R6)) (Pt.mk s.u (show R3 a7 [a,b,c,d,e,f,i,m,o] p1.A1w from ⟨a,b,c,d,e,f,i,m,o,z,B.u,G.u,I.u,J.u,K.u,M.u,D.u,N.u,P.u⟩)) hR0_5.u hR0_8.u al _) z fun cx cy cA cB av=>?_)
     obtain ⟨az,ba,bb,bc,rfl,be,bf,bg⟩:=av
     refine I9 _ be<|Nt<|Sq<|Sr<|Mv z<|Vv (V.U9 z)<|Vv (V.fa A3D z)<|Vv (V.ldO (k:=0) A0Y z (j:=0) z z)<|Vv (V.U9 z)<|Vv (V.fa A0t z)<|Vv (V.I6 (k:=6) F4 z s.u z)<|Vv (V.P6 D6 z D)<|Mv z<|Nt ?_
     obtain ⟨aj,bi,ak⟩:=N7 H
     refine T.O5 (α:=(List U1)×(List Int)×Value×(List (List Value))×Value×(List (List Value))) [0] z (fun ⟨U,W,X,Y,Z,aa⟩=>[]) (fun ⟨U,W,X,Y,Z,aa⟩=>blk pb0 (.cells [.pointer (some ag),.int .i64 p1.A0T,X,Z].toArray 156)::D8 181 2 X Y::D8 3 1 Z aa::L) (fun ⟨U,W,X,Y,Z,aa⟩ hh=>aj = (Sum.inl (U,W))∧A7 Y9 hh Y U∧A7 (VI .i64) hh aa W) ?_ ?_
     ·have H:=bi
      refine Bl<|T.N8 (α:=Nat×(List U1)×(List Int)×Int×Value×(List (List Value))×Value×(List (List Value))) [0,5,71] z (fun ⟨E,p,w,q,x,y,A,r⟩=>[(72,.int .i64 q)]) (fun ⟨E,p,w,q,x,y,A,r⟩=>blk pb0 (.cells [.pointer (some ag),.int .i64 p1.A0T,x,A].toArray 156)::D8 181 2 x y::D8 3 1 A r::L) (fun ⟨E,p,w,q,x,y,A,r⟩ hh=>iter (B1N (A7v n) p1 S) E (p,w,q) = some aj∧A7 Y9 hh y p∧A7 (VI .i64) hh r w) (fun ⟨E,p,w,q,x,y,A,r⟩=>E) (FUEL,ai.1,ai.2,(0:Int),az,ba,bb,bc) ⟨z,trivial⟩ z ⟨H,bf,bg⟩ ?_
      rintro ⟨E,p,w,q,x,y,A,r⟩ cC cD ⟨bj,ad,C⟩
      obtain ⟨am,cE,rfl,H,ab⟩:=I4 bj
      refine T.norm [72,0,5,71] z<|T.fl ?_
      refine Sr<|Vv (V.lt z z)<|Nt<|Sq<|T.cH H z (fun H=>?_) (fun H=>?_)
      ·refine T.skip<|Th<|Sq<|Bl<|Sr<|Mv z<|Ag z<|Nt<|Sq<|Sr<|Mv z<|Vv (V.U9 z)<|Vv (V.fa A1h z)<|Vv (V.ldO (k:=3) F4 z (j:=0) z z)<|Mv z<|I7 2 z<|T.fl ?_
       obtain ⟨bk,bm,H⟩:=bnd H
       refine To (O.C8 z (H5.A1v (val:=.bool bk) Tryz.func38 z Y4 fun cG cI bn=>?_) z fun cJ an cK cM bo=>?_)
       ·have bp:=A7.slc bn C.u
        exact A1f bp bm _
       obtain ⟨rfl,bq⟩:=bo
       refine I9 _ bq<|Nt<|T.cH H z (fun H=>?_) (fun H=>?_)
       ·refine T.exit<|Te<|Be<|Th<|Rg ?_
        obtain ⟨br,bs,H⟩:=bnd H
        refine Vv (V.L8 z z bs)<|Mv z<|Nt<|I7 2 z<|T.fl ?_
        refine I7 2 z<|T.fl ?_
        exact T.again (am,p,w,br,x,y,A,r) Li (Nat.lt_succ_self _) ⟨(G8 H ab),ad.u,C.u⟩ (A9.app ⟨z,trivial⟩ ⟨z,z,z,trivial⟩) z
       refine T.skip<|Th<|Sr<|Mv z<|Vv (V.U9 z)<|Vv (V.fa A1h z)<|Vv (V.ldO (k:=3) F4 z (j:=1) z z)<|Mv z<|Mv z ?_
       obtain ⟨cN,ae,H⟩:=bnd H
       obtain ⟨cO,cP,rfl⟩:=A7.get C ae
       refine Vv (V.ixR D6 z z (j:=0) z (A7.bd C ae)) ?_
       obtain ⟨ao,bt,H⟩:=bnd H
       refine To (O.stR D9 rfl rfl (j:=0) rfl (A7.bdN C ae) rfl<|have ap:A7 (VI .i64) an (r.set S.toNat [.int .i64 q]) ao:=A7.set C.u (show (VI .i64) an [.int .i64 q] q from rfl) bt; Nt<|Sr<|Ag z<|Nt<|Sq<|Sq<|T.O8 (t:=(.v 0 (.v 1 (.v 2 (.v 3 (.v 4 (.v 5 (.v 6 (.v 7 (.v 8 (.alt 9 (.alt 10 .done .no) .no))))))))))) 12 2 2 rfl rfl I8 (by kernel_rfl) ?_)
       refine Tm z z<|Tv z (V.U9 z)<|Tv z (V.fa A3D z)<|Tv z (Val.XA fun _ _ _=>V.ldO (k:=0) A0Y z (j:=1) z z)<|Tm z z<|Tv z (V.U9 z)<|Tv z (V.fa A1h z)<|Tv z (Val.XA fun _ _ _=>V.ldO (k:=3) F4 z (j:=1) z z)<|Tm z z ?_
       obtain ⟨bu,bw,H⟩:=bnd H
       refine Tp z z (SX.two (XA.fr [1,1] Lr z) (XA.fr [1,1] Lr z)) (O.C8 z (H5.A1v (val:=.int .i64 bu) Tryz.func167 z Y4 fun bx cS bA=>?_) z fun cU bB cV cW bC=>?_) T.Q9
       ·have bD:=A7.slc bA ap.u
        exact B8H (Pt.mk s.u (show R3 bx [a,b,c,d,e,f,i,m,o] p1.A1w from ⟨a,b,c,d,e,f,i,m,o,z,B.u,G.u,I.u,J.u,K.u,M.u,D.u,N.u,P.u⟩)) bD bw _
       obtain ⟨rfl,bE⟩:=bC
       refine I9 _ bE<|Ts z z (SX.two (XA.fr [1,1] Li z) (XA.fr [1,1] Li z)) (V.asg z) z ?_ T.Q9
       refine T.R5 (SX.two (XA.fr [1,1] Li z) (XA.fr [1,1] Li z))<|Th<|Sr<|Mv z<|Vv (V.ge z z)<|Nt<|T.cH H z (fun H=>?_) (fun H=>?_)
       ·exact dead H
       refine T.norm [0,5,71,72] z<|T.fl ?_
       refine Rg<|Mv z<|I7 2 z<|T.fl ?_
       refine I7 2 z<|T.fl ?_
       obtain ⟨⟨cX,bG⟩,bI,H⟩:=bnd H
       refine To (O.C8 z (self (p1:=(U3.mk p1.A1w p1.A0T p ao)) (Pt.mk s.u (show R3 bB [a,b,c,d,e,f,i,m,o] p1.A1w from ⟨a,b,c,d,e,f,i,m,o,z,B.u,G.u,I.u,J.u,K.u,M.u,D.u,N.u,P.u⟩)) ad.u ap.u bI _) z fun cY aq cZ c0 bJ=>?_)
       obtain ⟨bK,bM,bN,ar,rfl,bO,au,ac⟩:=bJ
       refine I9 _ bO<|Ag z<|Nt<|Sr<|Mv z<|Vv (V.U9 z)<|Vv (V.fa A1h z)<|Vv (V.ldO (k:=3) F4 z (j:=0) z z)<|Mv z ?_
       obtain ⟨c1,af,H⟩:=bnd H
       obtain ⟨c2,c3,rfl⟩:=A7.get ac af
       refine Vv (V.ixR D6 z z (j:=2) z (A7.bd ac af)) ?_
       obtain ⟨aw,bP,H⟩:=bnd H
       refine To (O.stR D9 z z (j:=2) z (A7.bdN ac af) z<|have ax:A7 (VI .i64) aq (ar.set S.toNat [.int .i64 (-1:Int)]) aw:=A7.set ac (show (VI .i64) aq [.int .i64 (-1:Int)] (-1:Int) from z) bP; Nt<|Sr<|Mv z<|Vv (V.not z)<|Nt<|T.cH H z (fun H=>?_) (fun H=>?_))
       ·refine Sr<|Ag z<|Nt<|T.ret<|Br<|Tr<|Tr<|have H:=D7 H ab; Br<|Tr<|have H:=J5 H ak; I7 2 z<|T.fl ?_
        refine I7 2 z<|T.fl ?_
        obtain ⟨rfl,rfl⟩:=inj2 H
        exact T.F5 Tryz.results92 (Rv z) Li ⟨_,_,_,_,z,z,au,ax⟩
       refine T.skip<|Bn<|Th<|Rg ?_
       obtain ⟨bS,bU,H⟩:=bnd H
       refine Vv (V.L8 z z bU)<|Mv z<|Nt<|I7 2 z<|T.fl ?_
       refine I7 2 z<|T.fl ?_
       exact T.again (am,bG.1,aw,bS,bK,bM,bN,(ar.set S.toNat [.int .i64 (-1:Int)])) Li (Nat.lt_succ_self _) ⟨(G8 H ab),au,ax⟩ (A9.app ⟨z,trivial⟩ ⟨z,z,z,trivial⟩) z
      refine T.exit<|Te<|Te<|have H:=D7 H ab; Be<|Th<|T.met (p,w,x,y,A,r) Li ⟨H,ad,C⟩ (A9.app trivial ⟨z,trivial⟩) z
     rintro ⟨U,W,X,Y,Z,aa⟩ c4 c5 ⟨bV,bW,bX⟩
     have H:=J5 bV ak
     refine T.norm [0] z<|T.fl ?_
     refine Sr<|Ag z<|Nt<|T.ret ?_
     obtain ⟨rfl,rfl⟩:=inj2 H
     exact T.F5 Tryz.results92 (Rv z) Li ⟨_,_,_,_,z,z,bW,bX⟩
    exact dead H
theorem B7x {h:PH} {pc0:List Value} {p1:A8} (pr0:C9 h pc0 p1) {bound12:Int} {r_0:List U1} {r_1:Int} (H:B5f p1 bound12 = some (r_0,r_1)):∀ L,H5 Tryz.prog 33 [.agg pc0.toArray,.int .i64 bound12] h (L) (fun v h' L'=>∃ w0 cs0,v = .tuple #[w0,.int .i64 r_1]∧L' = D8 181 2 w0 cs0::L∧A7 Y9 h' cs0 r_0):=by
 intro L
 obtain ⟨b,c,d,e,f,rfl,g,i,m,n,o⟩:=pr0
 refine H5.enter Tryz.func33 rfl Tryz.ntmps33 rfl<|Sr<|To (O.V3 rfl rfl rfl fun S p U q=>Ag z<|Ag z<|Nt<|Sr<|Vv (V.Z9 rfl q (by exact F9)) ?_)
 obtain ⟨⟨r,W⟩,s,H⟩:=bnd H
 refine To (O.C8 z (B7w (show C9 p [b,c,d,e,f] p1 from ⟨b,c,d,e,f,z,g.u,i.u,m.u,n.u,o.u⟩) s _) z fun X Y Z aa t=>?_)
 obtain ⟨ab,rfl,w,a⟩:=t
 refine I9 _ w<|Mv z<|Vv (V.ext z z)<|Vv (V.ext z z)<|Ag z<|Ag z<|Nt<|Sq<|Sr<|Mv z<|Vv (V.ne z z)<|Nt<|T.cH H z (fun H=>?_) (fun H=>?_)
 ·exact dead H
 refine T.skip<|Th<|Sr<|Mv z<|Mv z<|Mv z ?_
 obtain ⟨x,y,H⟩:=bnd H
 refine To (O.C8 z (B0A a y _) z fun ac A ad ae B=>?_)
 obtain ⟨af,C,D⟩:=B
 refine I9 _ C<|T.M5 0 z fun ag E=>Vv (V.bld (xs:=[(0,.tmp 17),(1,.tmp 18),(3,.tmp 20)]) (cs:=[_,_,_,_]) C0p B9F z (F8.cons z (Pt.cells a) z (F8.cons z z z (F8.cons z E z F8.nil))))<|To (O.box z z z fun ai=>Ag z<|Nt<|Sq<|Sr<|Mv z<|T.A0n 181 2<|have G:A7 Y9 A [] ([]:List U1):=A7.nil; I7 2 z<|T.fl ?_)
 refine I7 1 z<|T.fl ?_
 refine I7 2 z<|T.fl ?_
 obtain ⟨⟨aj,ak⟩,I,H⟩:=bnd H
 refine To (O.C8 z (B9n _ (p1:=(U3.mk r bound12 ([]:List U1) x)) a.u G D I _) z fun am J an ao K=>?_)
 obtain ⟨ap,aq,ar,au,rfl,M,N,aw⟩:=K
 refine I9 _ M<|Vv (V.not z)<|Nt<|T.cH H z (fun H=>?_) (fun H=>?_)
 ·refine Sr<|Ag z<|Ag z<|Nt<|T.ret<|Tr<|T.A0n 181 2<|have P:A7 Y9 J [] ([]:List U1):=A7.nil; I7 1 z<|T.fl ?_
  refine T.drop<|I7 1 z<|T.fl ?_
  refine T.drop<|I7 1 z<|T.drop ?_
  obtain ⟨rfl,rfl⟩:=inj2 H
  exact T.F5 Tryz.results33 (RVs.cons (RV.tmp z) (Rv z)) Li ⟨_,_,z,z,P⟩
 refine T.skip<|Th<|Sr<|Mv z<|Vv (V.U9 z)<|Vv (V.fa A5L z)<|Vv (V.ldO (k:=2) A4t z (j:=0) z z)<|Ag z<|Ag z<|Nt<|T.ret<|T.drop<|I7 1 z<|T.drop ?_
 obtain ⟨rfl,rfl⟩:=inj2 H
 exact T.F5 Tryz.results33 (RVs.cons (RV.tmp z) (Rv z)) Li ⟨_,_,z,z,N⟩
end Go.Proofs.X
