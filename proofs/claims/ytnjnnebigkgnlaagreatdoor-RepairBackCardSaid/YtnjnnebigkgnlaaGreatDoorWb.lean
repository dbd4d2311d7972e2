import Derived.Test.YtnjnnebigkgnlaaGreatDoorChecked
import Derived.KernelRfl
import Derived.Test.YtnjnnebigkgnlaaGreatDoorV
import Derived.Test.YtnjnnebigkgnlaaGreatDoorL12
import Derived.Test.YtnjnnebigkgnlaaGreatDoorDa
import Derived.Test.YtnjnnebigkgnlaaGreatDoorL9
import Derived.Test.YtnjnnebigkgnlaaGreatDoorWa
/- The walks: each function computes what its Lean function says. -/
set_option maxRecDepth 1000000
set_option maxHeartbeats 40000000
set_option linter.unusedVariables false
set_option linter.unusedSimpArgs false
set_option linter.unnecessarySimpa false
open Go Go.Proofs Go.Proofs.Tryz Go.Sl Go.Dm
namespace Go.Proofs.X
theorem C5w : A4f prog 149 = some ([.slice none 0 0,.slice none 0 0,.slice none 0 0,.slice none 0 0,.slice none 0 0,.map none,.slice none 0 0,.slice none 0 0,.slice none 0 0,.slice none 0 0,.slice none 0 0,.slice none 0 0,.slice none 0 0,.slice none 0 0],[(0,5),(5,1),(6,1),(7,1),(8,1),(9,1),(10,1),(11,1),(12,1),(13,1)]):=by kernel_rfl
theorem C4P : A4f prog 212 = some ([.pointer none,.slice none 0 0,.slice none 0 0],[(0,1),(1,1),(2,1)]):=by kernel_rfl
theorem Z6 : A4f prog 215 = some ([.string ⟨#[]⟩,.int .u8 (0),.bool false,.int .u8 (0),.bool false,.int .i64 (0),.bool false,.nilFunc],[(0,1),(1,1),(2,1),(3,1),(4,1),(5,1),(6,1),(7,1)]):=by kernel_rfl
theorem C0i : A4f prog 58 = some ([.slice none 0 0,.slice none 0 0],[(0,1),(1,1)]):=by kernel_rfl
theorem C5q : A0q prog 149 = true:=by kernel_rfl
theorem C4E : A0q prog 212 = true:=by kernel_rfl
theorem Z5 : A0q prog 215 = true:=by kernel_rfl
theorem B9I : A0q prog 58 = true:=by kernel_rfl
theorem A3e : A0X prog 146 = some (65,1,24):=by kernel_rfl
theorem A2o : A0X prog 147 = some (159,1,24):=by kernel_rfl
theorem B2p : A0X prog 159 = some (104,1,1):=by kernel_rfl
theorem A0F : A0X prog 65 = some (4,1,1):=by kernel_rfl
theorem B4W : N8 prog 140 1 = some 1:=by kernel_rfl
theorem A1m : N8 prog 140 4 = some 4:=by kernel_rfl
theorem B0i : N8 prog 149 1 = some 5:=by kernel_rfl
theorem B5s : N8 prog 149 3 = some 7:=by kernel_rfl
theorem B5k : N8 prog 149 4 = some 8:=by kernel_rfl
theorem B0m : N8 prog 149 5 = some 9:=by kernel_rfl
theorem B0q : N8 prog 149 6 = some 10:=by kernel_rfl
theorem A6S : N8 prog 149 8 = some 12:=by kernel_rfl
theorem A6W : N8 prog 149 9 = some 13:=by kernel_rfl
theorem B0n : N8 prog 212 2 = some 2:=by kernel_rfl
theorem C1A : N8 prog 215 0 = some 0:=by kernel_rfl
theorem A6C : N8 prog 215 1 = some 1:=by kernel_rfl
theorem A3H : N8 prog 215 2 = some 2:=by kernel_rfl
theorem A2D : N8 prog 215 3 = some 3:=by kernel_rfl
theorem A1k : N8 prog 215 4 = some 4:=by kernel_rfl
theorem C1Y : N8 prog 215 5 = some 5:=by kernel_rfl
theorem C2l : N8 prog 215 6 = some 6:=by kernel_rfl
theorem B1t : N8 prog 39 6 = some 6:=by kernel_rfl
theorem A0o : N8 prog 42 0 = some 0:=by kernel_rfl
theorem A1Q : N8 prog 42 1 = some 1:=by kernel_rfl
theorem B2q : X9 prog 142 = some (false,1):=by kernel_rfl
theorem A0H : X9 prog 144 = some (false,1):=by kernel_rfl
theorem A9C : X9 prog 146 = some (false,1):=by kernel_rfl
theorem A9z : X9 prog 147 = some (false,1):=by kernel_rfl
theorem B8u : X9 prog 213 = some (false,1):=by kernel_rfl
theorem C4z : X9 prog 215 = some (true,8):=by kernel_rfl
theorem U5 : X9 prog 4 = some (false,1):=by kernel_rfl
theorem A1f : X9 prog 40 = some (false,1):=by kernel_rfl
theorem A1v : X9 prog 5 = some (false,1):=by kernel_rfl
theorem B9Q : X9 prog 65 = some (false,1):=by kernel_rfl
theorem B8C : zer prog 104 = some (.int .u8 (0)):=by kernel_rfl
theorem B8E : zer prog 154 = some (.map none):=by kernel_rfl
theorem A5t : zer prog 159 = some (.slice none 0 0):=by kernel_rfl
theorem B3q : zer prog 215 = some (.agg #[.string ⟨#[]⟩,.int .u8 (0),.bool false,.int .u8 (0),.bool false,.int .i64 (0),.bool false,.nilFunc]):=by kernel_rfl
theorem A6l : zer prog 4 = some (.bool false):=by kernel_rfl
theorem A8u : zer prog 65 = some (.slice none 0 0):=by kernel_rfl
theorem B5o : D1c prog 215 7 = some (7,213):=by kernel_rfl
theorem rfE {c : Prop} [Decidable c] {α : Type} {a b r : α} {P : Prop} (H : (if c then a else b) = r) (x : c→a = r→P) (y : ¬c→b = r→P) : P:=by
  by_cases h : c
  · rw [if_pos h] at H; exact x h H
  · rw [if_neg h] at H; exact y h H
theorem B2F {σ : Type} {R : σ→PH→List E9→Prop} {h : PH} {n : Nat} {pv1 : Value} {v : O8} (pr1 : Pt U4 h pv1 v) {pc2 : List Value} {r : F6} (pr2 : H5 h pc2 r) {pv3 : Value} {f : σ→Int→(List Int)→Option σ} (pr3 : A1R R h pv3 f) {s0 : σ} {La : List E9} (hRa : R s0 h La) {q_s : σ} (H : B4g n v r f s0 = some q_s) :
    ∃ fid us vs,fnV n = .func (.func fid) us.toArray vs.toArray∧∀ As L,G8 prog fid (us ++ [pv1,.agg pc2.toArray,pv3] ++ vs) h (As ++ (La ++ L)) (fun v h' L'=>∃ La',v = .tuple #[]∧L' = (As ++ (La' ++ L))∧R q_s h' La'):=by
  unfold B4g at H
  refine rfE H (fun e H=>?_) (fun _ H=>?_)
  · subst e; exact ⟨151,[],[],rfl,C2u pr1 pr2 pr3 hRa H⟩
  refine rfE H (fun e H=>?_) (fun _ H=>?_)
  · subst e; exact ⟨152,[],[],rfl,B5Q pr1 pr2 pr3 hRa H⟩
  refine rfE H (fun e H=>?_) (fun _ H=>?_)
  · subst e; exact ⟨153,[],[],rfl,B6a pr1 pr2 pr3 hRa H⟩
  refine rfE H (fun e H=>?_) (fun _ H=>?_)
  · subst e; exact ⟨154,[],[],rfl,B9v pr1 pr2 pr3 hRa H⟩
  refine rfE H (fun e H=>?_) (fun _ H=>?_)
  · subst e; exact ⟨155,[],[],rfl,B7J pr1 pr2 pr3 hRa H⟩
  refine rfE H (fun e H=>?_) (fun _ H=>?_)
  · subst e; exact ⟨156,[],[],rfl,C5H pr1 pr2 pr3 hRa H⟩
  refine rfE H (fun e H=>?_) (fun _ H=>?_)
  · subst e; exact ⟨157,[],[],rfl,C3R pr1 pr2 pr3 hRa H⟩
  refine rfE H (fun e H=>?_) (fun _ H=>?_)
  · subst e; exact ⟨158,[],[],rfl,B6C pr1 pr2 pr3 hRa H⟩
  refine rfE H (fun e H=>?_) (fun _ H=>?_)
  · subst e; exact ⟨159,[],[],rfl,C3s pr1 pr2 pr3 hRa H⟩
  refine rfE H (fun e H=>?_) (fun _ H=>?_)
  · subst e; exact ⟨160,[],[],rfl,C1s pr1 pr2 pr3 hRa H⟩
  refine rfE H (fun e H=>?_) (fun _ H=>?_)
  · subst e; exact ⟨161,[],[],rfl,C1E pr1 pr2 pr3 hRa H⟩
  refine rfE H (fun e H=>?_) (fun _ H=>?_)
  · subst e; exact ⟨162,[],[],rfl,C1v pr1 pr2 pr3 hRa H⟩
  refine rfE H (fun e H=>?_) (fun _ H=>?_)
  · subst e; exact ⟨163,[],[],rfl,B9l pr1 pr2 pr3 hRa H⟩
  refine rfE H (fun e H=>?_) (fun _ H=>?_)
  · subst e; exact ⟨164,[],[],rfl,C0z pr1 pr2 pr3 hRa H⟩
  refine rfE H (fun e H=>?_) (fun _ H=>?_)
  · subst e; exact ⟨165,[],[],rfl,C4d pr1 pr2 pr3 hRa H⟩
  refine rfE H (fun e H=>?_) (fun _ H=>?_)
  · subst e; exact ⟨166,[],[],rfl,C1H pr1 pr2 pr3 hRa H⟩
  refine rfE H (fun e H=>?_) (fun _ H=>?_)
  · subst e; exact ⟨167,[],[],rfl,B9k pr1 pr2 pr3 hRa H⟩
  refine rfE H (fun e H=>?_) (fun _ H=>?_)
  · subst e; exact ⟨168,[],[],rfl,C5A pr1 pr2 pr3 hRa H⟩
  cases H
theorem B7I {h b c d a e q_2} (i:G6 (VI .i64) 1 h c d)  (H:A9O b d e = some q_2):∀ L,G8 prog 341 [.int .i64 b,c,.pointer (some ⟨a,0,none⟩)] h (blk a (.cells [.int .i64 e].toArray 3)::L) (fun v h' L'=>v = .tuple #[]∧L' = blk a (.cells [.int .i64 q_2].toArray 3)::L):=by
 intro L
 refine G8.enter func341 z z z<|Rg<|Vv (V.A8c E8 z (j:=0) z z)<|Mv z<|bE H fun f g H=>Vv (V.J2 z z g)<|To (O.stF (vs:=[qi f]) E8 z z (j:=0) z z z z<|Ni ?_)
 cases H
 exact T.B2y results341 Lr ⟨z,z⟩
theorem B3k {h g i m n} (r:Pt U4 h g i) (H:A9s i m = some n):∀ L,G8 prog 278 [g,.int .i64 m] h (L) (fun v h' L'=>v = .int .i64 n∧L' = L):=by
 intro L
 refine G8.enter func278 z z z<|Sr<|Ag z<|Nt<|Sr<|To (O.alloc M9 z z fun f=>To (O.stF (vs:=[qi 0]) E8 z z (j:=0) z z z z<|Nt<|Sq<|T.O1 (t:=(.vs [0,1,2,3,4,5,6,7,8,9,10,11,12,13,14,15,16,17,18,19,20,21,22,23,24,25,26,27,28,29,30,31,32,33] (.alt 34 .done .no))) 34 1 0 z z I4 (by kernel_rfl) ?_))
 refine Tm z z<|have s:=r; ?_
 obtain ⟨aJ,_,rfl,c,⟨aK,u,w,rfl,x,y,A⟩⟩:=s
 refine Tv z (V.S9 z)<|Tv z (V.fa R5 z)<|Tv z (V.I9 (k:=0) R3 z c z)<|have B:=x; ?_
 obtain ⟨C,_,rfl,d,⟨D,E,G,I,J,K,M,N,P,S,U,W,X,Y,rfl,Z,aa,ab,ac,b,o,ad,ae,af,ag,ai,aj,ak,am⟩⟩:=B
 refine Tv z (V.S9 z)<|Tv z (V.fa B0i z)<|Tv z (V.I9 (k:=5) B2q z d z)<|Tm z z<|Tv z (V.S9 z)<|Tv z (V.fa R5 z)<|Tv z (V.I9 (k:=0) R3 z c z)<|Tv z (V.S9 z)<|Tv z (V.fa Y1 z)<|Tv z (V.fa A1m z)<|Tv z (V.I9 (k:=4) O7 z d z)<|Tm z z<|bE H fun aM p H=>?_
 obtain ⟨aN,an,rfl⟩:=G6.at b p
 refine Tv z (V.ix Q5 z z b (G7 p))<|Tv z (V.fa A0o z)<|Tv z (V.I9 (k:=0) A1f z an z)<|bE H fun ⟨aO,aP⟩ ao H=>?_
 obtain ⟨_,ap,rfl⟩:=Mp.look (zc:=[.string qe,.int .u8 0,.bool false,.int .u8 0,.bool false,qi 0,.bool false,(fnV (0:Nat))]) (agg:=true) underlying142 (A0M.int underlying40) B3q (show K6 h [.string qe,.int .u8 0,.bool false,.int .u8 0,.bool false,qi 0,.bool false,(fnV (0:Nat))] (I5.mk qe (0:Int) false (0:Int) false (0:Int) false (0:Nat)) from rfl) o ao
 refine Tv z (V.D0x z z ap)<|Tv z (V.fld B5o B8u z z)<|Tm z z<|Tm z z<|Tv z (V.S9 z)<|Tv z (V.fa R5 z)<|Tv z (V.I9 (k:=0) R3 z c z)<|Tv z (V.S9 z)<|Tv z (V.fa Y1 z)<|Tv z (V.fa A1m z)<|Tv z (V.I9 (k:=4) O7 z d z)<|Tm z z<|bE H fun a q H=>?_
 obtain ⟨aS,aq,rfl⟩:=G6.at b q
 refine Tv z (V.ix Q5 z z b (G7 q))<|Tv z (V.ldS z aq (by exact K7)) ?_
 refine Tv z (V.mkf z z)<|bE H fun aU ar H=>?_
 obtain ⟨aV,aW,aX,au,aw⟩:=B2F (Pt.mk c ⟨(.pointer (some C)),u,w,rfl,(Pt.mk d ⟨D,E,G,I,J,K,M,N,P,S,U,W,X,Y,rfl,Z,aa,ab,ac,b,o,ad,ae,af,ag,ai,aj,ak,am⟩),y,A⟩) (show H5 h [.int .u8 a.H8,qi a.Q3,.string a.fA,.string a.fB,.string a.R6,qi a.fN] a from rfl) (show A1R (fun x_ _ La_=>La_ = [blk f (.cells [qi x_].toArray 3)]) h (.func (.func 341) #[] #[qp f]) (fun s_ ax ay=>A9O ax ay s_) from ⟨⟨rfl,rfl⟩,fun _ _ _ _ _ e=>e,fun aY aZ=>fun aA=>fun aB aC aD aE=>by subst aB; exact Yld.one (us:=[]) (cs:=[qp f]) (B7I aA aC) aD aE⟩) rfl ar
 refine Tp z z (SX.two (XA.fr [] Lr z) (XA.fr [0] Lr z)) (O.A1d z au z (aw ([]:List E9) _) z fun a0 a1 a2 a3 aG=>?_) T.O9
 obtain ⟨a4,rfl,aI,rfl⟩:=aG
 refine J9 _ aI<|T.R7 (SX.one (XA.fr [] Li z) z)<|Th<|Sq<|T.norm [5] z<|T.fl ?_
 exact Rg<|Vv (V.A8c E8 z (j:=0) z z)<|Ag z<|Nt<|T.ret<|T.drop<|E1 H
theorem A9Y {h i d j m} (n:Pt U4 h i d) (H:A8J d j = some m):∀ L,G8 prog 220 [i,.int .i64 j] h (L) (fun v h' L'=>v = .int .i64 m∧L' = L):=by
 intro L
 refine G8.enter func220 z z z<|Sr<|Ag z<|Nt<|Sr<|Mv z<|Mv z<|bE H fun ac y H=>To (O.D8 z (B3k n y _) z fun ad ae af ai A=>?_)
 obtain ⟨rfl,B⟩:=A
 refine J9 _ B<|Ag z<|Nt<|Sr<|Ag z<|Ag z<|Nt<|Sq<|Sr<|Mv z<|have C:=n; ?_
 obtain ⟨aj,_,rfl,e,⟨ak,am,an,rfl,o,f,ao⟩⟩:=C
 refine Vv (V.S9 z)<|Vv (V.fa A2n z)<|Vv (V.I9 (k:=1) E5 z e.u z)<|Vv (V.P9 C9 z f)<|Mv z<|Nt ?_
 obtain ⟨p,D,E⟩:=M5 H
 refine T.M7 (α:=Unit) [0,1,5] z (fun _u=>[]) (fun _u=>L) (fun _u hh=>p = ()) ?_ ?_
 ·have H:=D
  refine Bl<|T.M8 (α:=Nat×Int×Int) [0,1,5,16,17] z (fun ⟨b,c,a⟩=>[(18,qi c),(6,qi a)]) (fun ⟨b,c,a⟩=>L) (fun ⟨b,c,a⟩ hh=>iter (B4M d) b (c,a) = some p) (fun ⟨b,c,a⟩=>b) (FUEL,(0:Int),(0:Int)) ⟨z,z,trivial⟩ z H ?_
  rintro ⟨b,c,a⟩ ap aq G
  obtain ⟨q,ar,rfl,H,g⟩:=I1 G
  refine T.norm [18,6,0,1,5,16,17] z<|T.fl ?_
  refine Sr<|Vv (V.lt z z)<|Nt<|Sq<|T.cH H z (fun H=>?_) fun H=>?_
  ·refine Ks<|Sq<|Bl<|Sr<|Mv z<|bE H fun au r H=>?_
   obtain ⟨aw,I,rfl⟩:=G6.at f r
   refine Vv (V.ix C9 z z f (G7 r))<|Vv (V.ld0 E8 z I.u z)<|Ag z<|Ag z<|Nt<|Sr<|Mv z<|Vv (V.lt z z)<|Nt<|T.cH H z (fun H=>?_) fun H=>?_
   ·refine Sr<|Mv z<|bE H fun J K H=>Vv (V.J2 z z K)<|Ag z<|Nt<|Sr<|Mv z<|Vv (V.S9 z)<|Vv (V.fa R5 z)<|Vv (V.I9 (k:=0) R3 z e.u z)<|have M:=o; ?_
    obtain ⟨ax,_,rfl,N,⟨ay,aA,aB,aC,aD,aE,aG,aI,aJ,aK,aM,aN,aO,aP,rfl,aS,s,aU,aV,aW,aX,aY,aZ,a0,a1,a2,a3,a4,a5⟩⟩:=M
    refine Vv (V.S9 z)<|Vv (V.fa Y1 z)<|Vv (V.fa B4W z)<|Vv (V.I9 (k:=1) I7 z N.u z)<|Mv z<|bE H fun a6 t H=>?_
    obtain ⟨a7,P,⟨a8,rfl,a9⟩⟩:=G6.at s t
    refine Vv (V.ix K8 z z s (G7 t))<|Vv (V.fa B1t z)<|Vv (V.I9 (k:=6) U5 z P.u z)<|Nt<|T.cH H z dead fun H=>T.skip<|Bn<|Th<|Rg<|bE H fun S U H=>Vv (V.J2 z z U)<|Mv z<|Nt<|T.ag (q,S,J) (F4 H g)
   refine T.skip<|Bn<|Th<|Rg<|bE H fun W X H=>Vv (V.J2 z z X)<|Mv z<|Nt<|T.ag (q,W,a) (F4 H g)
  refine T.exit<|Te<|Te<|have H:=D9 H g; Be<|Th<|T.mt () H
 rintro _ ah al Y
 have H:=J8 Y E
 refine T.norm [0,1,5] z<|T.fl ?_
 refine Sq<|Sr<|Mv z<|Vv (V.S9 z)<|Vv (V.fa R5 z)<|Vv (V.I9 (k:=0) R3 z e.u z)<|have Z:=o; ?_
 obtain ⟨av,_,rfl,aa,⟨az,ba,bb,bc,bd,be,bf,bg,bi,bj,bk,bm,bn,bo,rfl,bp,bq,br,bs,w,bt,bu,bw,bx,bA,bB,bC,bD,bG⟩⟩:=Z
 refine Vv (V.S9 z)<|Vv (V.fa Y1 z)<|Vv (V.fa A1m z)<|Vv (V.I9 (k:=4) O7 z aa.u z)<|Mv z<|bE H fun bI x H=>?_
 obtain ⟨bJ,ab,rfl⟩:=G6.at w x
 exact Vv (V.ix Q5 z z w (G7 x))<|Vv (V.fa A0o z)<|Vv (V.I9 (k:=0) A1f z ab.u z)<|Nt<|Bl<|Sr<|Vv (V.eq z z)<|Ag z<|Nt<|T.cH H z dead fun H=>Sr<|Vv (V.eq z z)<|Ag z<|Nt<|T.cH H z dead fun H=>Sr<|Vv (V.eq z z)<|Ag z<|Nt<|T.cH H z dead fun H=>T.skip<|Bn<|Th<|Sr<|Mv z<|Vv (V.max2 z z)<|Ag z<|Nt<|T.ret<|E1 H
theorem B5l {h a} (H:A8X  = some a):∀ L,G8 prog 82 [] h (L) (fun v h' L'=>L' = L∧Mp (Value.int .u8) true K6 h' v a):=by
 intro L
 refine G8.enter func82 z z z<|Sr<|Ag z<|Nt<|Sr<|To (O.mkM z fun ab=>have x:A0v (Value.int .u8) true K6 h 0 ([]:List MapEntry) ([]:List (Int×I5)):=trivial; Vv (V.bld (xs:=[(0,.const (.string ⟨#[97,112,97,114,116]⟩)),(1,.const (.int .u8 (103))),(2,.const (.bool true)),(4,.const (.bool true)),(7,.func 151)]) (cs:=[_,_,_,_,_,_,_,_]) Z6 Z5 z (F3.cons z z z (F3.cons z z z (F3.cons z z z (F3.cons z z z (F3.cons z z z F3.nil))))))<|bE H fun ac y H=>To (O.A9Z (agg:=true) (E:=K6) (cs:=[.string (⟨#[97,112,97,114,116]⟩:ByteArray),.int .u8 103,.bool true,.int .u8 0,.bool true,qi 0,.bool false,(fnV (152:Nat))]) underlying142 (A0M.int underlying40) z z z (j:=0) z x (show K6 h [.string (⟨#[97,112,97,114,116]⟩:ByteArray),.int .u8 103,.bool true,.int .u8 0,.bool true,qi 0,.bool false,(fnV (152:Nat))] (I5.mk (⟨#[97,112,97,114,116]⟩:ByteArray) (103:Int) true (0:Int) true (0:Int) false (152:Nat)) from z) _ (.inr z) fun ad b=>?_))
 rw [Option.some.inj y] at b
 refine Vv (V.bld (xs:=[(0,.const (.string ⟨#[98,101,115,105,100,101]⟩)),(1,.const (.int .u8 (103))),(2,.const (.bool true)),(7,.func 152)]) (cs:=[_,_,_,_,_,_,_,_]) Z6 Z5 z (F3.cons z z z (F3.cons z z z (F3.cons z z z (F3.cons z z z F3.nil)))))<|bE H fun ae A H=>To (O.A9Z (agg:=true) (E:=K6) (cs:=[.string (⟨#[98,101,115,105,100,101]⟩:ByteArray),.int .u8 103,.bool true,.int .u8 0,.bool false,qi 0,.bool false,(fnV (153:Nat))]) underlying142 (A0M.int underlying40) z z z (j:=0) z b (show K6 h [.string (⟨#[98,101,115,105,100,101]⟩:ByteArray),.int .u8 103,.bool true,.int .u8 0,.bool false,qi 0,.bool false,(fnV (153:Nat))] (I5.mk (⟨#[98,101,115,105,100,101]⟩:ByteArray) (103:Int) true (0:Int) false (0:Int) false (153:Nat)) from z) _ (.inr z) fun af c=>?_)
 rw [Option.some.inj A] at c
 refine Vv (V.bld (xs:=[(0,.const (.string ⟨#[97,99,114,111,115,115]⟩)),(1,.const (.int .u8 (103))),(2,.const (.bool true)),(7,.func 153)]) (cs:=[_,_,_,_,_,_,_,_]) Z6 Z5 z (F3.cons z z z (F3.cons z z z (F3.cons z z z (F3.cons z z z F3.nil)))))<|bE H fun ag B H=>To (O.A9Z (agg:=true) (E:=K6) (cs:=[.string (⟨#[97,99,114,111,115,115]⟩:ByteArray),.int .u8 103,.bool true,.int .u8 0,.bool false,qi 0,.bool false,(fnV (154:Nat))]) underlying142 (A0M.int underlying40) z z z (j:=0) z c (show K6 h [.string (⟨#[97,99,114,111,115,115]⟩:ByteArray),.int .u8 103,.bool true,.int .u8 0,.bool false,qi 0,.bool false,(fnV (154:Nat))] (I5.mk (⟨#[97,99,114,111,115,115]⟩:ByteArray) (103:Int) true (0:Int) false (0:Int) false (154:Nat)) from z) _ (.inr z) fun ai d=>?_)
 rw [Option.some.inj B] at d
 refine Vv (V.bld (xs:=[(0,.const (.string ⟨#[110,101,97,114]⟩)),(1,.const (.int .u8 (103))),(2,.const (.bool true)),(4,.const (.bool true)),(5,.const (qi (1))),(7,.func 154)]) (cs:=[_,_,_,_,_,_,_,_]) Z6 Z5 z (F3.cons z z z (F3.cons z z z (F3.cons z z z (F3.cons z z z (F3.cons z z z (F3.cons z z z F3.nil)))))))<|bE H fun aj C H=>To (O.A9Z (agg:=true) (E:=K6) (cs:=[.string (⟨#[110,101,97,114]⟩:ByteArray),.int .u8 103,.bool true,.int .u8 0,.bool true,qi 1,.bool false,(fnV (155:Nat))]) underlying142 (A0M.int underlying40) z z z (j:=0) z d (show K6 h [.string (⟨#[110,101,97,114]⟩:ByteArray),.int .u8 103,.bool true,.int .u8 0,.bool true,qi 1,.bool false,(fnV (155:Nat))] (I5.mk (⟨#[110,101,97,114]⟩:ByteArray) (103:Int) true (0:Int) true (1:Int) false (155:Nat)) from z) _ (.inr z) fun ak e=>?_)
 rw [Option.some.inj C] at e
 refine Vv (V.bld (xs:=[(0,.const (.string ⟨#[116,111,103,101,116,104,101,114]⟩)),(1,.const (.int .u8 (103))),(2,.const (.bool true)),(7,.func 155)]) (cs:=[_,_,_,_,_,_,_,_]) Z6 Z5 z (F3.cons z z z (F3.cons z z z (F3.cons z z z (F3.cons z z z F3.nil)))))<|bE H fun am D H=>To (O.A9Z (agg:=true) (E:=K6) (cs:=[.string (⟨#[116,111,103,101,116,104,101,114]⟩:ByteArray),.int .u8 103,.bool true,.int .u8 0,.bool false,qi 0,.bool false,(fnV (156:Nat))]) underlying142 (A0M.int underlying40) z z z (j:=0) z e (show K6 h [.string (⟨#[116,111,103,101,116,104,101,114]⟩:ByteArray),.int .u8 103,.bool true,.int .u8 0,.bool false,qi 0,.bool false,(fnV (156:Nat))] (I5.mk (⟨#[116,111,103,101,116,104,101,114]⟩:ByteArray) (103:Int) true (0:Int) false (0:Int) false (156:Nat)) from z) _ (.inr z) fun an f=>?_)
 rw [Option.some.inj D] at f
 refine Vv (V.bld (xs:=[(0,.const (.string ⟨#[97,116]⟩)),(1,.const (.int .u8 (103))),(3,.const (.int .u8 (116))),(7,.func 156)]) (cs:=[_,_,_,_,_,_,_,_]) Z6 Z5 z (F3.cons z z z (F3.cons z z z (F3.cons z z z (F3.cons z z z F3.nil)))))<|bE H fun ao G H=>To (O.A9Z (agg:=true) (E:=K6) (cs:=[.string (⟨#[97,116]⟩:ByteArray),.int .u8 103,.bool false,.int .u8 116,.bool false,qi 0,.bool false,(fnV (157:Nat))]) underlying142 (A0M.int underlying40) z z z (j:=0) z f (show K6 h [.string (⟨#[97,116]⟩:ByteArray),.int .u8 103,.bool false,.int .u8 116,.bool false,qi 0,.bool false,(fnV (157:Nat))] (I5.mk (⟨#[97,116]⟩:ByteArray) (103:Int) false (116:Int) false (0:Int) false (157:Nat)) from z) _ (.inr z) fun ap g=>?_)
 rw [Option.some.inj G] at g
 refine Vv (V.bld (xs:=[(0,.const (.string ⟨#[115,101,97,116]⟩)),(1,.const (.int .u8 (103))),(3,.const (.int .u8 (116))),(4,.const (.bool true)),(6,.const (.bool true)),(7,.func 157)]) (cs:=[_,_,_,_,_,_,_,_]) Z6 Z5 z (F3.cons z z z (F3.cons z z z (F3.cons z z z (F3.cons z z z (F3.cons z z z (F3.cons z z z F3.nil)))))))<|bE H fun aq I H=>To (O.A9Z (agg:=true) (E:=K6) (cs:=[.string (⟨#[115,101,97,116]⟩:ByteArray),.int .u8 103,.bool false,.int .u8 116,.bool true,qi 0,.bool true,(fnV (158:Nat))]) underlying142 (A0M.int underlying40) z z z (j:=0) z g (show K6 h [.string (⟨#[115,101,97,116]⟩:ByteArray),.int .u8 103,.bool false,.int .u8 116,.bool true,qi 0,.bool true,(fnV (158:Nat))] (I5.mk (⟨#[115,101,97,116]⟩:ByteArray) (103:Int) false (116:Int) true (0:Int) true (158:Nat)) from z) _ (.inr z) fun ar i=>?_)
 rw [Option.some.inj I] at i
 refine Vv (V.bld (xs:=[(0,.const (.string ⟨#[97,108,116,101,114,110,97,116,101]⟩)),(3,.const (.int .u8 (101))),(7,.func 158)]) (cs:=[_,_,_,_,_,_,_,_]) Z6 Z5 z (F3.cons z z z (F3.cons z z z (F3.cons z z z F3.nil))))<|bE H fun au J H=>To (O.A9Z (agg:=true) (E:=K6) (cs:=[.string (⟨#[97,108,116,101,114,110,97,116,101]⟩:ByteArray),.int .u8 0,.bool false,.int .u8 101,.bool false,qi 0,.bool false,(fnV (159:Nat))]) underlying142 (A0M.int underlying40) z z z (j:=0) z i (show K6 h [.string (⟨#[97,108,116,101,114,110,97,116,101]⟩:ByteArray),.int .u8 0,.bool false,.int .u8 101,.bool false,qi 0,.bool false,(fnV (159:Nat))] (I5.mk (⟨#[97,108,116,101,114,110,97,116,101]⟩:ByteArray) (0:Int) false (101:Int) false (0:Int) false (159:Nat)) from z) _ (.inr z) fun aw k=>?_)
 rw [Option.some.inj J] at k
 refine Vv (V.bld (xs:=[(0,.const (.string ⟨#[104,111,115,116]⟩)),(3,.const (.int .u8 (101))),(7,.func 159)]) (cs:=[_,_,_,_,_,_,_,_]) Z6 Z5 z (F3.cons z z z (F3.cons z z z (F3.cons z z z F3.nil))))<|bE H fun ax K H=>To (O.A9Z (agg:=true) (E:=K6) (cs:=[.string (⟨#[104,111,115,116]⟩:ByteArray),.int .u8 0,.bool false,.int .u8 101,.bool false,qi 0,.bool false,(fnV (160:Nat))]) underlying142 (A0M.int underlying40) z z z (j:=0) z k (show K6 h [.string (⟨#[104,111,115,116]⟩:ByteArray),.int .u8 0,.bool false,.int .u8 101,.bool false,qi 0,.bool false,(fnV (160:Nat))] (I5.mk (⟨#[104,111,115,116]⟩:ByteArray) (0:Int) false (101:Int) false (0:Int) false (160:Nat)) from z) _ (.inr z) fun ay m=>?_)
 rw [Option.some.inj K] at m
 refine Vv (V.bld (xs:=[(0,.const (.string ⟨#[114,101,97,99,104]⟩)),(1,.const (.int .u8 (101))),(7,.func 160)]) (cs:=[_,_,_,_,_,_,_,_]) Z6 Z5 z (F3.cons z z z (F3.cons z z z (F3.cons z z z F3.nil))))<|bE H fun aA M H=>To (O.A9Z (agg:=true) (E:=K6) (cs:=[.string (⟨#[114,101,97,99,104]⟩:ByteArray),.int .u8 101,.bool false,.int .u8 0,.bool false,qi 0,.bool false,(fnV (161:Nat))]) underlying142 (A0M.int underlying40) z z z (j:=0) z m (show K6 h [.string (⟨#[114,101,97,99,104]⟩:ByteArray),.int .u8 101,.bool false,.int .u8 0,.bool false,qi 0,.bool false,(fnV (161:Nat))] (I5.mk (⟨#[114,101,97,99,104]⟩:ByteArray) (101:Int) false (0:Int) false (0:Int) false (161:Nat)) from z) _ (.inr z) fun aB n=>?_)
 rw [Option.some.inj M] at n
 refine Vv (V.bld (xs:=[(0,.const (.string ⟨#[115,112,101,97,107]⟩)),(3,.const (.int .u8 (101))),(7,.func 161)]) (cs:=[_,_,_,_,_,_,_,_]) Z6 Z5 z (F3.cons z z z (F3.cons z z z (F3.cons z z z F3.nil))))<|bE H fun aC N H=>To (O.A9Z (agg:=true) (E:=K6) (cs:=[.string (⟨#[115,112,101,97,107]⟩:ByteArray),.int .u8 0,.bool false,.int .u8 101,.bool false,qi 0,.bool false,(fnV (162:Nat))]) underlying142 (A0M.int underlying40) z z z (j:=0) z n (show K6 h [.string (⟨#[115,112,101,97,107]⟩:ByteArray),.int .u8 0,.bool false,.int .u8 101,.bool false,qi 0,.bool false,(fnV (162:Nat))] (I5.mk (⟨#[115,112,101,97,107]⟩:ByteArray) (0:Int) false (101:Int) false (0:Int) false (162:Nat)) from z) _ (.inr z) fun aD o=>?_)
 rw [Option.some.inj N] at o
 refine Vv (V.bld (xs:=[(0,.const (.string ⟨#[112,101,97,99,101]⟩)),(3,.const (.int .u8 (101))),(7,.func 162)]) (cs:=[_,_,_,_,_,_,_,_]) Z6 Z5 z (F3.cons z z z (F3.cons z z z (F3.cons z z z F3.nil))))<|bE H fun aE P H=>To (O.A9Z (agg:=true) (E:=K6) (cs:=[.string (⟨#[112,101,97,99,101]⟩:ByteArray),.int .u8 0,.bool false,.int .u8 101,.bool false,qi 0,.bool false,(fnV (163:Nat))]) underlying142 (A0M.int underlying40) z z z (j:=0) z o (show K6 h [.string (⟨#[112,101,97,99,101]⟩:ByteArray),.int .u8 0,.bool false,.int .u8 101,.bool false,qi 0,.bool false,(fnV (163:Nat))] (I5.mk (⟨#[112,101,97,99,101]⟩:ByteArray) (0:Int) false (101:Int) false (0:Int) false (163:Nat)) from z) _ (.inr z) fun aG p=>?_)
 rw [Option.some.inj P] at p
 refine Vv (V.bld (xs:=[(0,.const (.string ⟨#[99,111,109,112,97,110,121]⟩)),(3,.const (.int .u8 (101))),(7,.func 163)]) (cs:=[_,_,_,_,_,_,_,_]) Z6 Z5 z (F3.cons z z z (F3.cons z z z (F3.cons z z z F3.nil))))<|bE H fun aI S H=>To (O.A9Z (agg:=true) (E:=K6) (cs:=[.string (⟨#[99,111,109,112,97,110,121]⟩:ByteArray),.int .u8 0,.bool false,.int .u8 101,.bool false,qi 0,.bool false,(fnV (164:Nat))]) underlying142 (A0M.int underlying40) z z z (j:=0) z p (show K6 h [.string (⟨#[99,111,109,112,97,110,121]⟩:ByteArray),.int .u8 0,.bool false,.int .u8 101,.bool false,qi 0,.bool false,(fnV (164:Nat))] (I5.mk (⟨#[99,111,109,112,97,110,121]⟩:ByteArray) (0:Int) false (101:Int) false (0:Int) false (164:Nat)) from z) _ (.inr z) fun aJ q=>?_)
 rw [Option.some.inj S] at q
 refine Vv (V.bld (xs:=[(0,.const (.string ⟨#[104,111,110,111,117,114]⟩)),(3,.const (.int .u8 (101))),(7,.func 164)]) (cs:=[_,_,_,_,_,_,_,_]) Z6 Z5 z (F3.cons z z z (F3.cons z z z (F3.cons z z z F3.nil))))<|bE H fun aK U H=>To (O.A9Z (agg:=true) (E:=K6) (cs:=[.string (⟨#[104,111,110,111,117,114]⟩:ByteArray),.int .u8 0,.bool false,.int .u8 101,.bool false,qi 0,.bool false,(fnV (165:Nat))]) underlying142 (A0M.int underlying40) z z z (j:=0) z q (show K6 h [.string (⟨#[104,111,110,111,117,114]⟩:ByteArray),.int .u8 0,.bool false,.int .u8 101,.bool false,qi 0,.bool false,(fnV (165:Nat))] (I5.mk (⟨#[104,111,110,111,117,114]⟩:ByteArray) (0:Int) false (101:Int) false (0:Int) false (165:Nat)) from z) _ (.inr z) fun aM r=>?_)
 rw [Option.some.inj U] at r
 refine Vv (V.bld (xs:=[(0,.const (.string ⟨#[102,105,108,108]⟩)),(3,.const (.int .u8 (101))),(4,.const (.bool true)),(7,.func 165)]) (cs:=[_,_,_,_,_,_,_,_]) Z6 Z5 z (F3.cons z z z (F3.cons z z z (F3.cons z z z (F3.cons z z z F3.nil)))))<|bE H fun aN W H=>To (O.A9Z (agg:=true) (E:=K6) (cs:=[.string (⟨#[102,105,108,108]⟩:ByteArray),.int .u8 0,.bool false,.int .u8 101,.bool true,qi 0,.bool false,(fnV (166:Nat))]) underlying142 (A0M.int underlying40) z z z (j:=0) z r (show K6 h [.string (⟨#[102,105,108,108]⟩:ByteArray),.int .u8 0,.bool false,.int .u8 101,.bool true,qi 0,.bool false,(fnV (166:Nat))] (I5.mk (⟨#[102,105,108,108]⟩:ByteArray) (0:Int) false (101:Int) true (0:Int) false (166:Nat)) from z) _ (.inr z) fun aO s=>?_)
 rw [Option.some.inj W] at s
 refine Vv (V.bld (xs:=[(0,.const (.string ⟨#[108,105,109,105,116]⟩)),(3,.const (.int .u8 (101))),(4,.const (.bool true)),(7,.func 166)]) (cs:=[_,_,_,_,_,_,_,_]) Z6 Z5 z (F3.cons z z z (F3.cons z z z (F3.cons z z z (F3.cons z z z F3.nil)))))<|bE H fun aP X H=>To (O.A9Z (agg:=true) (E:=K6) (cs:=[.string (⟨#[108,105,109,105,116]⟩:ByteArray),.int .u8 0,.bool false,.int .u8 101,.bool true,qi 0,.bool false,(fnV (167:Nat))]) underlying142 (A0M.int underlying40) z z z (j:=0) z s (show K6 h [.string (⟨#[108,105,109,105,116]⟩:ByteArray),.int .u8 0,.bool false,.int .u8 101,.bool true,qi 0,.bool false,(fnV (167:Nat))] (I5.mk (⟨#[108,105,109,105,116]⟩:ByteArray) (0:Int) false (101:Int) true (0:Int) false (167:Nat)) from z) _ (.inr z) fun aS t=>?_)
 rw [Option.some.inj X] at t
 refine Vv (V.bld (xs:=[(0,.const (.string ⟨#[107,105,116,99,104,101,110]⟩)),(1,.const (.int .u8 (100))),(3,.const (.int .u8 (116))),(7,.func 167)]) (cs:=[_,_,_,_,_,_,_,_]) Z6 Z5 z (F3.cons z z z (F3.cons z z z (F3.cons z z z (F3.cons z z z F3.nil)))))<|bE H fun aU Y H=>To (O.A9Z (agg:=true) (E:=K6) (cs:=[.string (⟨#[107,105,116,99,104,101,110]⟩:ByteArray),.int .u8 100,.bool false,.int .u8 116,.bool false,qi 0,.bool false,(fnV (168:Nat))]) underlying142 (A0M.int underlying40) z z z (j:=0) z t (show K6 h [.string (⟨#[107,105,116,99,104,101,110]⟩:ByteArray),.int .u8 100,.bool false,.int .u8 116,.bool false,qi 0,.bool false,(fnV (168:Nat))] (I5.mk (⟨#[107,105,116,99,104,101,110]⟩:ByteArray) (100:Int) false (116:Int) false (0:Int) false (168:Nat)) from z) _ (.inr z) fun aV u=>?_)
 rw [Option.some.inj Y] at u
 refine Vv (V.bld (xs:=[(0,.const (.string ⟨#[109,105,120]⟩)),(3,.const (.int .u8 (101))),(7,.func 168)]) (cs:=[_,_,_,_,_,_,_,_]) Z6 Z5 z (F3.cons z z z (F3.cons z z z (F3.cons z z z F3.nil))))<|bE H fun aW Z H=>To (O.A9Z (agg:=true) (E:=K6) (cs:=[.string (⟨#[109,105,120]⟩:ByteArray),.int .u8 0,.bool false,.int .u8 101,.bool false,qi 0,.bool false,(fnV (169:Nat))]) underlying142 (A0M.int underlying40) z z z (j:=0) z u (show K6 h [.string (⟨#[109,105,120]⟩:ByteArray),.int .u8 0,.bool false,.int .u8 101,.bool false,qi 0,.bool false,(fnV (169:Nat))] (I5.mk (⟨#[109,105,120]⟩:ByteArray) (0:Int) false (101:Int) false (0:Int) false (169:Nat)) from z) _ (.inr z) fun aX w=>?_)
 rw [Option.some.inj Z] at w
 refine Mv z<|Ag z<|Nt<|T.ret<|T.C5K K6.mono w fun aY aZ aa=>?_
 cases H
 exact T.rl z (Rv z) ⟨z,aa⟩
theorem C1D {h c d e f g} (i:K6 h c d) (j:H5 h e f) (H:B1F d f = some g):∀ L,G8 prog 223 [.agg c.toArray,.agg e.toArray] h (L) (fun v h' L'=>v = .bool g∧L' = L):=by
 intro L
 obtain rfl:=i
 obtain rfl:=j
 refine G8.enter func223 z z z<|Sr<|To (O.Y0 z z z fun m n o a=>To (O.Y0 z z z fun p q r b=>Ag z<|Nt<|Sr<|Vv (V.fa A6C z)<|Vv (V.I9 (k:=1) A1v z a.u z)<|Vv (V.ne z z)<|Mv z<|T.bH 8 H z (fun H=>?_) fun H=>?_))
 ·refine Sk<|Sk<|Sk<|Vv (V.R8 z z)<|Mv z<|Vv (V.fa A3H z)<|Vv (V.I9 (k:=2) U5 z a.u z)<|Mv z<|T.bH 16 H z (fun H=>?_) fun H=>?_
  ·refine Sk<|Sk<|Sk<|Vv (V.R8 z z)<|Vv (V.R8 z z)<|Mv z<|Vv (V.fa A2D z)<|Vv (V.I9 (k:=3) A1v z a.u z)<|Vv (V.ne z z)<|Mv z<|T.bH 26 H z (fun H=>?_) fun H=>?_
   ·refine Sk<|Sk<|Sk<|Vv (V.R8 z z)<|Vv (V.R8 z z)<|Mv z<|Vv (V.fa A1k z)<|Vv (V.I9 (k:=4) U5 z a.u z)<|Mv z<|T.bH 35 H z (fun H=>?_) fun H=>?_
    ·exact Sk<|Sk<|Sk<|Vv (V.R8 z z)<|Vv (V.R8 z z)<|Ag z<|Nt<|T.ret<|E1 H
    exact Vv (V.fa Y6 z)<|Vv (V.I9 (k:=5) E8 z b z)<|Vv (V.eq z z)<|Vv (V.R9 z z)<|Vv (V.R8 z z)<|Ag z<|Nt<|T.ret<|E1 H
   refine Vv (V.fa A0I z)<|Vv (V.I9 (k:=4) H9 z b z)<|Vv (V.seq z z)<|Vv (V.R9 z z)<|Vv (V.R8 z z)<|Mv z<|T.bH 32 H z (fun H=>?_) fun H=>?_
   ·refine Vv (V.fa A1k z)<|Vv (V.I9 (k:=4) U5 z a.u z)<|Mv z<|T.bH 35 H z (fun H=>?_) fun H=>?_
    ·exact Sk<|Sk<|Sk<|Vv (V.R8 z z)<|Vv (V.R8 z z)<|Ag z<|Nt<|T.ret<|E1 H
    exact Vv (V.fa Y6 z)<|Vv (V.I9 (k:=5) E8 z b z)<|Vv (V.eq z z)<|Vv (V.R9 z z)<|Vv (V.R8 z z)<|Ag z<|Nt<|T.ret<|E1 H
   exact Sk<|Sk<|Sk<|Sk<|Sk<|Sk<|Sk<|Vv (V.R9 z z)<|Ag z<|Nt<|T.ret<|E1 H
  refine Vv (V.fa A0e z)<|Vv (V.I9 (k:=3) H9 z b z)<|Vv (V.seq z z)<|Vv (V.R9 z z)<|Vv (V.R8 z z)<|Mv z<|T.bH 22 H z (fun H=>?_) fun H=>?_
  ·refine Vv (V.fa A2D z)<|Vv (V.I9 (k:=3) A1v z a.u z)<|Vv (V.ne z z)<|Mv z<|T.bH 26 H z (fun H=>?_) fun H=>?_
   ·refine Sk<|Sk<|Sk<|Vv (V.R8 z z)<|Vv (V.R8 z z)<|Mv z<|Vv (V.fa A1k z)<|Vv (V.I9 (k:=4) U5 z a.u z)<|Mv z<|T.bH 35 H z (fun H=>?_) fun H=>?_
    ·exact Sk<|Sk<|Sk<|Vv (V.R8 z z)<|Vv (V.R8 z z)<|Ag z<|Nt<|T.ret<|E1 H
    exact Vv (V.fa Y6 z)<|Vv (V.I9 (k:=5) E8 z b z)<|Vv (V.eq z z)<|Vv (V.R9 z z)<|Vv (V.R8 z z)<|Ag z<|Nt<|T.ret<|E1 H
   refine Vv (V.fa A0I z)<|Vv (V.I9 (k:=4) H9 z b z)<|Vv (V.seq z z)<|Vv (V.R9 z z)<|Vv (V.R8 z z)<|Mv z<|T.bH 32 H z (fun H=>?_) fun H=>?_
   ·refine Vv (V.fa A1k z)<|Vv (V.I9 (k:=4) U5 z a.u z)<|Mv z<|T.bH 35 H z (fun H=>?_) fun H=>?_
    ·exact Sk<|Sk<|Sk<|Vv (V.R8 z z)<|Vv (V.R8 z z)<|Ag z<|Nt<|T.ret<|E1 H
    exact Vv (V.fa Y6 z)<|Vv (V.I9 (k:=5) E8 z b z)<|Vv (V.eq z z)<|Vv (V.R9 z z)<|Vv (V.R8 z z)<|Ag z<|Nt<|T.ret<|E1 H
   exact Sk<|Sk<|Sk<|Sk<|Sk<|Sk<|Sk<|Vv (V.R9 z z)<|Ag z<|Nt<|T.ret<|E1 H
  exact Sk<|Sk<|Sk<|Sk<|Sk<|Sk<|Sk<|Sk<|Vv (V.R9 z z)<|Mv z<|Sk<|Sk<|Sk<|Sk<|Sk<|Sk<|Sk<|Vv (V.R9 z z)<|Ag z<|Nt<|T.ret<|E1 H
 refine Vv (V.fa V6 z)<|Vv (V.I9 (k:=2) H9 z b z)<|Vv (V.seq z z)<|Vv (V.R9 z z)<|Mv z<|T.bH 13 H z (fun H=>?_) fun H=>?_
 ·refine Vv (V.fa A3H z)<|Vv (V.I9 (k:=2) U5 z a.u z)<|Mv z<|T.bH 16 H z (fun H=>?_) fun H=>?_
  ·refine Sk<|Sk<|Sk<|Vv (V.R8 z z)<|Vv (V.R8 z z)<|Mv z<|Vv (V.fa A2D z)<|Vv (V.I9 (k:=3) A1v z a.u z)<|Vv (V.ne z z)<|Mv z<|T.bH 26 H z (fun H=>?_) fun H=>?_
   ·refine Sk<|Sk<|Sk<|Vv (V.R8 z z)<|Vv (V.R8 z z)<|Mv z<|Vv (V.fa A1k z)<|Vv (V.I9 (k:=4) U5 z a.u z)<|Mv z<|T.bH 35 H z (fun H=>?_) fun H=>?_
    ·exact Sk<|Sk<|Sk<|Vv (V.R8 z z)<|Vv (V.R8 z z)<|Ag z<|Nt<|T.ret<|E1 H
    exact Vv (V.fa Y6 z)<|Vv (V.I9 (k:=5) E8 z b z)<|Vv (V.eq z z)<|Vv (V.R9 z z)<|Vv (V.R8 z z)<|Ag z<|Nt<|T.ret<|E1 H
   refine Vv (V.fa A0I z)<|Vv (V.I9 (k:=4) H9 z b z)<|Vv (V.seq z z)<|Vv (V.R9 z z)<|Vv (V.R8 z z)<|Mv z<|T.bH 32 H z (fun H=>?_) fun H=>?_
   ·refine Vv (V.fa A1k z)<|Vv (V.I9 (k:=4) U5 z a.u z)<|Mv z<|T.bH 35 H z (fun H=>?_) fun H=>?_
    ·exact Sk<|Sk<|Sk<|Vv (V.R8 z z)<|Vv (V.R8 z z)<|Ag z<|Nt<|T.ret<|E1 H
    exact Vv (V.fa Y6 z)<|Vv (V.I9 (k:=5) E8 z b z)<|Vv (V.eq z z)<|Vv (V.R9 z z)<|Vv (V.R8 z z)<|Ag z<|Nt<|T.ret<|E1 H
   exact Sk<|Sk<|Sk<|Sk<|Sk<|Sk<|Sk<|Vv (V.R9 z z)<|Ag z<|Nt<|T.ret<|E1 H
  refine Vv (V.fa A0e z)<|Vv (V.I9 (k:=3) H9 z b z)<|Vv (V.seq z z)<|Vv (V.R9 z z)<|Vv (V.R8 z z)<|Mv z<|T.bH 22 H z (fun H=>?_) fun H=>?_
  ·refine Vv (V.fa A2D z)<|Vv (V.I9 (k:=3) A1v z a.u z)<|Vv (V.ne z z)<|Mv z<|T.bH 26 H z (fun H=>?_) fun H=>?_
   ·refine Sk<|Sk<|Sk<|Vv (V.R8 z z)<|Vv (V.R8 z z)<|Mv z<|Vv (V.fa A1k z)<|Vv (V.I9 (k:=4) U5 z a.u z)<|Mv z<|T.bH 35 H z (fun H=>?_) fun H=>?_
    ·exact Sk<|Sk<|Sk<|Vv (V.R8 z z)<|Vv (V.R8 z z)<|Ag z<|Nt<|T.ret<|E1 H
    exact Vv (V.fa Y6 z)<|Vv (V.I9 (k:=5) E8 z b z)<|Vv (V.eq z z)<|Vv (V.R9 z z)<|Vv (V.R8 z z)<|Ag z<|Nt<|T.ret<|E1 H
   refine Vv (V.fa A0I z)<|Vv (V.I9 (k:=4) H9 z b z)<|Vv (V.seq z z)<|Vv (V.R9 z z)<|Vv (V.R8 z z)<|Mv z<|T.bH 32 H z (fun H=>?_) fun H=>?_
   ·refine Vv (V.fa A1k z)<|Vv (V.I9 (k:=4) U5 z a.u z)<|Mv z<|T.bH 35 H z (fun H=>?_) fun H=>?_
    ·exact Sk<|Sk<|Sk<|Vv (V.R8 z z)<|Vv (V.R8 z z)<|Ag z<|Nt<|T.ret<|E1 H
    exact Vv (V.fa Y6 z)<|Vv (V.I9 (k:=5) E8 z b z)<|Vv (V.eq z z)<|Vv (V.R9 z z)<|Vv (V.R8 z z)<|Ag z<|Nt<|T.ret<|E1 H
   exact Sk<|Sk<|Sk<|Sk<|Sk<|Sk<|Sk<|Vv (V.R9 z z)<|Ag z<|Nt<|T.ret<|E1 H
  exact Sk<|Sk<|Sk<|Sk<|Sk<|Sk<|Sk<|Sk<|Vv (V.R9 z z)<|Mv z<|Sk<|Sk<|Sk<|Sk<|Sk<|Sk<|Sk<|Vv (V.R9 z z)<|Ag z<|Nt<|T.ret<|E1 H
 exact Sk<|Sk<|Sk<|Sk<|Sk<|Sk<|Sk<|Vv (V.R9 z z)<|Mv z<|Sk<|Sk<|Sk<|Sk<|Sk<|Sk<|Sk<|Sk<|Vv (V.R9 z z)<|Mv z<|Sk<|Sk<|Sk<|Sk<|Sk<|Sk<|Sk<|Vv (V.R9 z z)<|Ag z<|Nt<|T.ret<|E1 H
theorem C2b {h C d D E G c I} (N:K6 h C d) (P:M3 h D E) (S:H5 h G c) (H:B1n d E c = some I):∀ L,G8 prog 146 [.agg C.toArray,.agg D.toArray,.agg G.toArray] h (L) (fun v h' L'=>v = .int .i64 I∧L' = L):=by
 intro L
 obtain rfl:=N
 obtain ⟨i,j,m,n,o,rfl,e,p,q,r,s⟩:=P
 obtain rfl:=S
 refine G8.enter func146 z z z<|Sr<|To (O.Y0 z z z fun bm bn bo b=>To (O.Y0 z z z fun bp bq br f=>To (O.Y0 z z z fun bs bt bu a=>Ag z<|Nt<|Sq<|Bl<|Sr<|Vv (V.fa C1A z)<|Vv (V.I9 (k:=0) H9 z b.u z)<|Vv (V.seq z z)<|Ag z<|Nt<|T.cH H z (fun H=>?_) fun H=>?_)))
 ·exact Sr<|Ag z<|Nt<|T.ret<|Br<|Tr<|E1 H
 refine Sq ?_
 obtain ⟨U,W,X⟩:=M5 H
 refine T.M7 (α:=Bool) [3,4,5] z (fun t=>[(14,.bool t)]) (fun t=>L) (fun t hh=>U = t) ?_ ?_
 ·have H:=W
  refine Rg<|Vv (V.fa A1Q z)<|Vv (V.I9 (k:=1) E8 z a z)<|Vv (V.lt z z)<|Mv z<|T.bH 18 H z (fun H=>?_) fun H=>?_
  ·refine Sk<|Sk<|Sk<|Vv (V.R8 z z)<|Ag z<|Nt<|T.mt true (O5 H)
  refine Vv (V.fa A1Q z)<|Vv (V.I9 (k:=1) E8 z a z)<|Vv (V.gt z z)<|Vv (V.R9 z z)<|Ag z<|Nt<|T.mt (decide ((1000:Int) < c.Q3)) (O5 H)
 rintro t J bw Y
 have H:=J8 Y X
 refine T.norm [14,3,4,5] z<|T.fl ?_
 refine T.cH H z (fun H=>?_) fun H=>?_
 ·exact Sr<|Ag z<|Nt<|T.ret<|Br<|Tr<|E1 H
 refine Sr<|Vv (V.ldS z b.u (by exact C4z)) ?_
 refine Vv (V.ldS z a.u (by exact K7)) ?_
 refine bE H fun bx Z H=>To (O.D8 z (C1D (show K6 J [.string d.A7v,.int .u8 d.fa,.bool d.fb,.int .u8 d.ft,.bool d.fn,qi d.flo,.bool d.C6n,(fnV d.C5k)] d from z) (show H5 J [.int .u8 c.H8,qi c.Q3,.string c.fA,.string c.fB,.string c.R6,qi c.fN] c from z) Z _) z fun bA bB bC bD aa=>?_)
 obtain ⟨rfl,ab⟩:=aa
 refine J9 _ ab<|Vv (V.not z)<|Ag z<|Nt<|T.cH H z (fun H=>?_) fun H=>?_
 ·exact Sr<|Ag z<|Nt<|T.ret<|Br<|Tr<|E1 H
 refine Sq<|Sq ?_
 obtain ⟨ac,ad,ae⟩:=M5 H
 refine T.M7 (α:=Bool) [3,4,5] z (fun g=>[(28,.bool g)]) (fun g=>L) (fun g hh=>ac = g) ?_ ?_
 ·have H:=ad
  refine Rg<|Vv (V.fa A6C z)<|Vv (V.I9 (k:=1) A1v z b.u z)<|Vv (V.eq z z)<|Mv z<|T.bH 32 H z (fun H=>?_) fun H=>?_
  ·refine Vv (V.ldS z f.u (by exact G9)) ?_
   refine Vv (V.fa V6 z)<|Vv (V.I9 (k:=2) H9 z a.u z)<|bE H fun af ag H=>To (O.D8 z (A3c ⟨i,j,m,n,o,z,e.u,p.u,q.u,r.u,s.u⟩ ag _) z fun bG bI bJ bK ai=>?_)
   obtain ⟨rfl,aj⟩:=ai
   refine J9 _ aj<|Vv (V.lt z z)<|Vv (V.R8 z z)<|Ag z<|Nt<|T.mt (decide (af < (0:Int))) (O5 H)
  refine Sk<|Sk<|Sk<|Sk<|Sk<|Vv (V.R9 z z)<|Ag z<|Nt<|T.mt false (O5 H)
 rintro g bM bN ak
 have H:=J8 ak ae
 refine T.norm [28,3,4,5] z<|T.fl ?_
 obtain ⟨am,an,ao⟩:=M5 H
 refine T.M7 (α:=Bool) [3,4,5] z (fun w=>[(28,.bool w)]) (fun w=>L) (fun w hh=>am = w) ?_ ?_
 ·have H:=an
  refine T.cH H z (fun H=>?_) fun H=>?_
  ·refine Ks<|T.mt g (O5 H)
  refine Sr<|Vv (V.fa A6C z)<|Vv (V.I9 (k:=1) A1v z b.u z)<|Vv (V.eq z z)<|Mv z<|T.bH 42 H z (fun H=>?_) fun H=>?_
  ·refine Vv (V.fa V6 z)<|Vv (V.I9 (k:=2) H9 z a.u z)<|Vv (V.sne z z)<|Vv (V.R8 z z)<|Mv z<|T.bH 47 H z (fun H=>?_) fun H=>?_
   ·refine Vv (V.ldS z f.u (by exact G9)) ?_
    refine Vv (V.fa V6 z)<|Vv (V.I9 (k:=2) H9 z a.u z)<|bE H fun ap aq H=>To (O.D8 z (A3c ⟨i,j,m,n,o,z,e.u,p.u,q.u,r.u,s.u⟩ aq _) z fun bO bP bS bU ar=>?_)
    obtain ⟨rfl,au⟩:=ar
    refine J9 _ au<|Vv (V.lt z z)<|Vv (V.R8 z z)<|Ag z<|Nt<|T.cH H z (fun H=>?_) fun H=>?_
    ·refine Ks<|T.mt (decide (ap < (0:Int))) (O5 H)
    refine Rg<|Vv (V.fa A3H z)<|Vv (V.I9 (k:=2) U5 z b.u z)<|Mv z<|T.bH 56 H z (fun H=>?_) fun H=>?_
    ·refine Vv (V.ldS z f.u (by exact G9)) ?_
     refine Vv (V.fa A0e z)<|Vv (V.I9 (k:=3) H9 z a.u z)<|bE H fun aw ax H=>To (O.D8 z (A3c ⟨i,j,m,n,o,z,e.u,p.u,q.u,r.u,s.u⟩ ax _) z fun bV bW bX bY ay=>?_)
     obtain ⟨rfl,aA⟩:=ay
     refine J9 _ aA<|Vv (V.lt z z)<|Vv (V.R8 z z)<|Ag z<|Nt<|T.mt (decide (aw < (0:Int))) (O5 H)
    refine Sk<|Sk<|Sk<|Sk<|Sk<|Vv (V.R9 z z)<|Ag z<|Nt<|T.mt false (O5 H)
   refine Sk<|Sk<|Sk<|Sk<|Sk<|Vv (V.R9 z z)<|Ag z<|Nt<|Cf z<|Rg<|Vv (V.fa A3H z)<|Vv (V.I9 (k:=2) U5 z b.u z)<|Mv z<|T.bH 56 H z (fun H=>?_) fun H=>?_
   ·refine Vv (V.ldS z f.u (by exact G9)) ?_
    refine Vv (V.fa A0e z)<|Vv (V.I9 (k:=3) H9 z a.u z)<|bE H fun aB aC H=>To (O.D8 z (A3c ⟨i,j,m,n,o,z,e.u,p.u,q.u,r.u,s.u⟩ aC _) z fun bZ b0 b1 b2 aD=>?_)
    obtain ⟨rfl,aE⟩:=aD
    refine J9 _ aE<|Vv (V.lt z z)<|Vv (V.R8 z z)<|Ag z<|Nt<|T.mt (decide (aB < (0:Int))) (O5 H)
   refine Sk<|Sk<|Sk<|Sk<|Sk<|Vv (V.R9 z z)<|Ag z<|Nt<|T.mt false (O5 H)
  refine Sk<|Sk<|Sk<|Vv (V.R9 z z)<|Mv z<|Sk<|Sk<|Sk<|Sk<|Sk<|Vv (V.R9 z z)<|Ag z<|Nt<|Cf z<|Rg<|Vv (V.fa A3H z)<|Vv (V.I9 (k:=2) U5 z b.u z)<|Mv z<|T.bH 56 H z (fun H=>?_) fun H=>?_
  ·refine Vv (V.ldS z f.u (by exact G9)) ?_
   refine Vv (V.fa A0e z)<|Vv (V.I9 (k:=3) H9 z a.u z)<|bE H fun aG aI H=>To (O.D8 z (A3c ⟨i,j,m,n,o,z,e.u,p.u,q.u,r.u,s.u⟩ aI _) z fun b3 b4 b5 b6 aJ=>?_)
   obtain ⟨rfl,aK⟩:=aJ
   refine J9 _ aK<|Vv (V.lt z z)<|Vv (V.R8 z z)<|Ag z<|Nt<|T.mt (decide (aG < (0:Int))) (O5 H)
  refine Sk<|Sk<|Sk<|Sk<|Sk<|Vv (V.R9 z z)<|Ag z<|Nt<|T.mt false (O5 H)
 rintro w b7 b8 aM
 have H:=J8 aM ao
 refine T.norm [28,3,4,5] z<|T.fl ?_
 refine T.cH H z (fun H=>?_) fun H=>?_
 ·exact Sr<|Ag z<|Nt<|T.ret<|Br<|Tr<|E1 H
 refine Sq ?_
 obtain ⟨aN,aO,aP⟩:=M5 H
 refine T.M7 (α:=Bool) [3,4,5] z (fun x=>[(63,.bool x)]) (fun x=>L) (fun x hh=>aN = x) ?_ ?_
 ·have H:=aO
  refine Rg<|Vv (V.fa A6C z)<|Vv (V.I9 (k:=1) A1v z b.u z)<|Vv (V.eq z z)<|Mv z<|T.bH 67 H z (fun H=>?_) fun H=>?_
  ·refine Vv (V.fa V6 z)<|Vv (V.I9 (k:=2) H9 z a.u z)<|bE H fun aS aU H=>To (O.D8 z (C3r aU _) z fun b9 bh bl bv aV=>?_)
   obtain ⟨rfl,aW⟩:=aV
   refine J9 _ aW<|Vv (V.not z)<|Vv (V.R8 z z)<|Ag z<|Nt<|T.mt (!aS) (O5 H)
  refine Sk<|Sk<|Sk<|Sk<|Vv (V.R9 z z)<|Ag z<|Nt<|T.mt false (O5 H)
 rintro x bz ca aX
 have H:=J8 aX aP
 refine T.norm [63,3,4,5] z<|T.fl ?_
 refine T.cH H z (fun H=>?_) fun H=>?_
 ·exact Sr<|Ag z<|Nt<|T.ret<|Br<|Tr<|E1 H
 refine Sq ?_
 obtain ⟨aY,aZ,a0⟩:=M5 H
 refine T.M7 (α:=Bool) [3,4,5] z (fun y=>[(73,.bool y)]) (fun y=>L) (fun y hh=>aY = y) ?_ ?_
 ·have H:=aZ
  refine Rg<|Vv (V.fa A3H z)<|Vv (V.I9 (k:=2) U5 z b.u z)<|Mv z<|T.bH 76 H z (fun H=>?_) fun H=>?_
  ·refine Vv (V.fa V6 z)<|Vv (V.I9 (k:=2) H9 z a.u z)<|Vv (V.fa A0e z)<|Vv (V.I9 (k:=3) H9 z a.u z)<|Vv (V.seq z z)<|Vv (V.R8 z z)<|Ag z<|Nt<|T.mt (decide (c.fA = c.fB)) (O5 H)
  refine Sk<|Sk<|Sk<|Sk<|Sk<|Vv (V.R9 z z)<|Ag z<|Nt<|T.mt false (O5 H)
 rintro y cb cc a1
 have H:=J8 a1 a0
 refine T.norm [73,3,4,5] z<|T.fl ?_
 refine T.cH H z (fun H=>?_) fun H=>?_
 ·exact Sr<|Ag z<|Nt<|T.ret<|Br<|Tr<|E1 H
 refine T.skip<|Bn<|Th<|Sr<|Vv (V.fa J4 z)<|Vv (V.I9 (k:=0) M0 z f.u z)<|Vv (V.fa A0I z)<|Vv (V.I9 (k:=4) H9 z a.u z)<|bE H fun ⟨cd,K⟩ a2 H=>To (O.D8 z (C3Z e.u a2 _) z fun ce cf cg ci a3=>?_)
 obtain ⟨rfl,a4⟩:=a3
 refine J9 _ a4<|Mv z<|Vv (V.ext z z)<|Vv (V.ext z z)<|Ag z<|Ag z<|Nt<|Sq<|Sq ?_
 obtain ⟨a5,a6,a7⟩:=M5 H
 refine T.M7 (α:=Bool) [3,4,5,7] z (fun A=>[(111,.bool A)]) (fun A=>L) (fun A hh=>a5 = A) ?_ ?_
 ·have H:=a6
  refine Rg<|Vv (V.fa A2D z)<|Vv (V.I9 (k:=3) A1v z b.u z)<|Vv (V.eq z z)<|Mv z<|T.bH 94 H z (fun H=>?_) fun H=>?_
  ·refine Mv z<|Vv (V.not z)<|Vv (V.R8 z z)<|Mv z<|T.bH 98 H z (fun H=>?_) fun H=>?_
   ·refine Sk<|Sk<|Sk<|Sk<|Sk<|Sk<|Sk<|Sk<|Sk<|Sk<|Sk<|Sk<|Vv (V.R8 z z)<|Nt<|T.mt true (O5 H)
   refine Vv (V.fa A2D z)<|Vv (V.I9 (k:=3) A1v z b.u z)<|Vv (V.eq z z)<|Mv z<|T.bH 102 H z (fun H=>?_) fun H=>?_
   ·refine Vv (V.fa A0I z)<|Vv (V.I9 (k:=4) H9 z a.u z)<|Vv (V.sne z z)<|Vv (V.R8 z z)<|Mv z<|T.bH 107 H z (fun H=>?_) fun H=>?_
    ·refine Mv z<|Vv (V.not z)<|Vv (V.R8 z z)<|Vv (V.R9 z z)<|Nt<|T.mt (!K) (O5 H)
    refine Sk<|Sk<|Vv (V.R9 z z)<|Vv (V.R9 z z)<|Nt<|T.mt false (O5 H)
   refine Sk<|Sk<|Sk<|Vv (V.R9 z z)<|Mv z<|Sk<|Sk<|Vv (V.R9 z z)<|Vv (V.R9 z z)<|Nt<|T.mt false (O5 H)
  refine Sk<|Sk<|Vv (V.R9 z z)<|Mv z<|Vv (V.fa A2D z)<|Vv (V.I9 (k:=3) A1v z b.u z)<|Vv (V.eq z z)<|Mv z<|T.bH 102 H z (fun H=>?_) fun H=>?_
  ·refine Vv (V.fa A0I z)<|Vv (V.I9 (k:=4) H9 z a.u z)<|Vv (V.sne z z)<|Vv (V.R8 z z)<|Mv z<|T.bH 107 H z (fun H=>?_) fun H=>?_
   ·refine Mv z<|Vv (V.not z)<|Vv (V.R8 z z)<|Vv (V.R9 z z)<|Nt<|T.mt (!K) (O5 H)
   refine Sk<|Sk<|Vv (V.R9 z z)<|Vv (V.R9 z z)<|Nt<|T.mt false (O5 H)
  refine Sk<|Sk<|Sk<|Vv (V.R9 z z)<|Mv z<|Sk<|Sk<|Vv (V.R9 z z)<|Vv (V.R9 z z)<|Nt<|T.mt false (O5 H)
 rintro A a8 cj a9
 have H:=J8 a9 a7
 refine T.norm [111,3,4,5,7] z<|T.fl ?_
 refine T.cH H z (fun H=>?_) fun H=>?_
 ·exact Sr<|Ag z<|Nt<|T.ret<|Tr<|E1 H
 refine Ks<|Sr<|Ag z<|Nt<|Sq<|Sr<|Vv (V.fa C2l z)<|Vv (V.I9 (k:=6) U5 z b.u z)<|Nt ?_
 obtain ⟨ah,al,av⟩:=M5 H
 refine T.M7 (α:=Int) [3,5] z (fun B=>[(9,qi B)]) (fun B=>L) (fun B hh=>ah = B) ?_ ?_
 ·have H:=al
  refine T.cH H z (fun H=>?_) fun H=>?_
  ·refine Rg<|Vv (V.fa J4 z)<|Vv (V.I9 (k:=0) M0 z f.u z)<|Mv z<|Mv z<|bE H fun ck az H=>Vv (V.J2 z z az)<|bE H fun ba M H=>T.slM z N9 z e.u (.inr ⟨_,_,z,z⟩) (.inr ⟨_,_,z,z⟩) (A5F M).2 z fun bb bc cm=>?_
   have bd:G6 F7 7 a8 bb ba:=by rw [(A5F M).1]; exact bc
   refine bE H fun cn be H=>To (O.D8 z (A4Y bd be _) z fun co cp cq cr bf=>?_)
   obtain ⟨rfl,bg⟩:=bf
   refine J9 _ bg<|bE H fun bi bj H=>Vv (V.A1s z z bj)<|Ag z<|Nt<|T.mt bi (O5 H)
  refine Ks<|T.mt (24:Int) (O5 H)
 rintro B cs ct bk
 have H:=J8 bk av
 refine T.norm [9,3,5] z<|T.fl ?_
 refine Sq<|Sr<|Vv (V.fa A1k z)<|Vv (V.I9 (k:=4) U5 z b.u z)<|Mv z<|T.bH 124 H z (fun H=>?_) fun H=>?_
 ·refine Vv (V.fa Y6 z)<|Vv (V.I9 (k:=5) E8 z a.u z)<|Vv (V.fa C1Y z)<|Vv (V.I9 (k:=5) E8 z b.u z)<|Vv (V.lt z z)<|Mv z<|T.bH 130 H z (fun H=>?_) fun H=>?_
  ·exact Sk<|Sk<|Sk<|Sk<|Vv (V.R8 z z)<|Vv (V.R8 z z)<|Nt<|Ct z<|Sr<|Ag z<|Nt<|T.ret<|Tr<|E1 H
  refine Vv (V.fa Y6 z)<|Vv (V.I9 (k:=5) E8 z a.u z)<|Mv z<|Vv (V.gt z z)<|Vv (V.R9 z z)<|Vv (V.R8 z z)<|Nt<|T.cH H z (fun H=>?_) fun H=>?_
  ·exact Sr<|Ag z<|Nt<|T.ret<|Tr<|E1 H
  exact Ks<|Sr<|Ag z<|Nt<|T.ret<|E1 H
 exact Sk<|Sk<|Sk<|Sk<|Sk<|Sk<|Sk<|Sk<|Sk<|Sk<|Sk<|Vv (V.R9 z z)<|Nt<|Cf z<|Ks<|Sr<|Ag z<|Nt<|T.ret<|E1 H
theorem C1y {h m p1 n o} (w:M3 h m p1) (H:B1m p1 = some (n,o)):∀ L,G8 prog 145 [.agg m.toArray] h (L) (fun v h' L'=>v = .tuple #[.int .i64 n,.int .i64 o]∧L' = L):=by
 intro L
 obtain ⟨ac,x,y,ad,ae,rfl,p,f,q,d,af⟩:=w
 refine G8.enter func145 z z z<|Sr<|To (O.Y0 z z z fun ai aj ak a=>Ag z<|Ag z<|Nt<|Sq<|Sr<|Vv (V.fa J4 z)<|Vv (V.I9 (k:=0) M0 z a z)<|bE H fun ⟨am,an⟩ A H=>To (O.D8 z (B0R p.u A _) z fun ao ap aq ar B=>?_))
 obtain ⟨rfl,C⟩:=B
 refine J9 _ C<|Mv z<|Vv (V.ext z z)<|Vv (V.ext z z)<|Ag z<|Ag z<|Nt<|Sr<|Mv z<|Vv (V.ne z z)<|Nt<|T.cH H z (fun H=>?_) fun H=>?_
 ·exact Sr<|Mv z<|Mv z<|Ag z<|Ag z<|Nt<|T.ret<|Tr<|E1 H
 refine Ks<|Sq<|Sr<|Vv (V.fa K3 z)<|Vv (V.I9 (k:=1) I7 z a.u z)<|Vv (V.fa Y5 z)<|Vv (V.I9 (k:=2) Q4 z a.u z)<|Vv (V.bld (xs:=[(0,.tmp 22),(1,.tmp 24)]) (cs:=[_,_]) C0i B9I z (F3.cons z (G6.cells f) z (F3.cons z (G6.cells q) z F3.nil)))<|bE H fun ⟨au,aw⟩ D H=>To (O.D8 z (B5D ⟨x,y,z,f.u,q.u⟩ D _) z fun ax ay aA aB E=>?_)
 obtain ⟨rfl,G⟩:=E
 refine J9 _ G<|Mv z<|Vv (V.ext z z)<|Vv (V.ext z z)<|Ag z<|Ag z<|Nt<|Sr<|Mv z<|Vv (V.ne z z)<|Nt<|T.cH H z (fun H=>?_) fun H=>?_
 ·exact Sr<|Mv z<|Mv z<|Ag z<|Ag z<|Nt<|T.ret<|Tr<|E1 H
 refine Ks<|Sq<|Sq ?_
 obtain ⟨I,J,K⟩:=M5 H
 refine T.M7 (α:=Bool) [1] z (fun e=>[(45,.bool e)]) (fun e=>L) (fun e hh=>I = e) ?_ ?_
 ·have H:=J
  refine Rg<|Vv (V.fa Y3 z)<|Vv (V.I9 (k:=3) E5 z a.u z)<|Vv (V.P9 C9 z d)<|Vv (V.gt z z)<|Mv z<|T.bH 37 H z (fun H=>?_) fun H=>?_
  ·refine Vv (V.fa Y3 z)<|Vv (V.I9 (k:=3) E5 z a.u z)<|Vv (V.P9 C9 z d)<|Vv (V.fa K3 z)<|Vv (V.I9 (k:=1) I7 z a.u z)<|Vv (V.P9 K8 z f)<|Vv (V.ne z z)<|Vv (V.R8 z z)<|Nt<|T.mt (!decide ((p1.I6.length:Int) = (p1.A8.length:Int))) (O5 H)
  refine Sk<|Sk<|Sk<|Sk<|Sk<|Sk<|Sk<|Vv (V.R9 z z)<|Nt<|T.mt false (O5 H)
 rintro e aC aD M
 have H:=J8 M K
 refine T.norm [45,1] z<|T.fl ?_
 refine T.cH H z (fun H=>?_) fun H=>?_
 ·exact Sr<|Ag z<|Ag z<|Nt<|T.ret<|Tr<|E1 H
 refine Ks<|Sq<|Sr<|Vv (V.fa Y3 z)<|Vv (V.I9 (k:=3) E5 z a.u z)<|Vv (V.P9 C9 z d)<|Mv z<|Nt ?_
 obtain ⟨r,N,j⟩:=M5 H
 refine T.M7 (α:=Unit) [1] z (fun _u=>[]) (fun _u=>L) (fun _u hh=>r = (Sum.inl ())) ?_ ?_
 ·have H:=N
  refine Bl<|T.M8 (α:=Nat×Int) [1,47,48] z (fun ⟨b,c⟩=>[(49,qi c)]) (fun ⟨b,c⟩=>L) (fun ⟨b,c⟩ hh=>iter (A4L p1) b c = some r) (fun ⟨b,c⟩=>b) (FUEL,(0:Int)) ⟨z,trivial⟩ z H ?_
  rintro ⟨b,c⟩ aE aG P
  obtain ⟨S,aI,rfl,H,i⟩:=I1 P
  refine T.norm [49,1,47,48] z<|T.fl ?_
  refine Sr<|Vv (V.lt z z)<|Nt<|Sq<|T.cH H z (fun H=>?_) fun H=>?_
  ·refine Ks<|Sq<|Bl<|Sr<|bE H fun aJ s H=>?_
   obtain ⟨aK,U,rfl⟩:=G6.at d s
   refine Vv (V.ix C9 z z d (G7 s))<|Vv (V.ld0 E8 z U.u z)<|Ag z<|Nt<|Sr<|Mv z<|Vv (V.lt z z)<|Mv z<|T.bH 55 H z (fun H=>?_) fun H=>?_
   ·exact Sk<|Sk<|Vv (V.R8 z z)<|Nt<|Ct z<|Sr<|Ag z<|Ag z<|Nt<|T.ret<|Br<|Tr<|Tr<|have H:=D9 H i; Br<|Tr<|have H:=J8 H j; E1 H
   refine Mv z<|Vv (V.ge z z)<|Vv (V.R9 z z)<|Nt<|T.cH H z (fun H=>?_) fun H=>?_
   ·exact Sr<|Ag z<|Ag z<|Nt<|T.ret<|Br<|Tr<|Tr<|have H:=D9 H i; Br<|Tr<|have H:=J8 H j; E1 H
   refine T.skip<|Bn<|Th<|Rg<|bE H fun W X H=>Vv (V.J2 z z X)<|Mv z<|Nt<|T.ag (S,W) (F4 H i)
  refine T.exit<|Te<|Te<|have H:=D9 H i; Be<|Th<|T.mt () H
 rintro _ aM aN Y
 have H:=J8 Y j
 refine T.norm [1] z<|T.fl ?_
 refine Sq<|Sq<|T.O1 (t:=(.vs [0,1,2,3,4] (.alt 5 (.g (.v 6 .done)) .no))) 8 0 0 z z I4 (by kernel_rfl) ?_
 refine Tv z (V.fa K3 z)<|Tv z (V.I9 (k:=1) I7 z a.u z)<|Tv z (V.P9 K8 z f)<|Tv z (V.fa J4 z)<|Tv z (V.I9 (k:=0) M0 z a.u z)<|bE H fun aO Z H=>Tp z z (SX.two (XA.fr [] Lr z) (XA.fr [] Lr z)) (O.D8 z (A4Y p.u Z _) z fun aP aS aU aV aa=>?_) T.O9
 obtain ⟨rfl,ab⟩:=aa
 refine J9 _ ab<|T.O3 Li<|Tv z (V.gt z z)<|T.R7 (SX.two (XA.fr [] Lr z) (XA.fr [] Lr z))<|Th<|T.cH H z (fun H=>?_) fun H=>?_
 ·exact Sr<|Ag z<|Ag z<|Nt<|T.ret<|Tr<|E1 H
 exact Ks<|Sr<|Ag z<|Ag z<|Nt<|T.ret<|E1 H
theorem A6D {h n p1 o p} (G:M3 h n p1) (H:A5k p1 = some (o,p)):∀ L,G8 prog 80 [.agg n.toArray] h (L) (fun v h' L'=>v = .tuple #[.int .i64 o,.int .i64 p]∧L' = L):=by
 intro L
 obtain ⟨q,r,s,t,w,rfl,x,y,A,B,e⟩:=G
 refine G8.enter func80 z z z<|Sr<|To (O.Y0 z z z fun am an ao g=>Ag z<|Ag z<|Nt<|Sq<|Sr<|Vv (V.ldS z g (by exact G9)) ?_)
 refine bE H fun ⟨ap,aq⟩ I H=>To (O.D8 z (C1y ⟨q,r,s,t,w,z,x.u,y.u,A.u,B.u,e.u⟩ I _) z fun ar au aw ax J=>?_)
 obtain ⟨rfl,K⟩:=J
 refine J9 _ K<|Mv z<|Vv (V.ext z z)<|Vv (V.ext z z)<|Ag z<|Ag z<|Nt<|Sr<|Mv z<|Vv (V.ne z z)<|Nt<|T.cH H z (fun H=>?_) fun H=>?_
 ·exact Sr<|Mv z<|Mv z<|Ag z<|Ag z<|Nt<|T.ret<|Tr<|E1 H
 refine Ks<|Sr<|bE H fun M N H=>To (O.D8 z (B5l N _) z fun ay aA aB aC P=>?_)
 obtain ⟨S,U⟩:=P
 refine J9 _ S<|Ag z<|Nt<|Sq<|Sr<|Vv (V.fa P6 z)<|Vv (V.I9 (k:=4) O7 z g.u z)<|Vv (V.P9 Q5 z e)<|Mv z<|Nt ?_
 obtain ⟨C,W,i⟩:=M5 H
 refine T.M7 (α:=Unit) [] z (fun _u=>[]) (fun _u=>L) (fun _u hh=>C = (Sum.inl ())) ?_ ?_
 ·have H:=W
  refine Bl<|T.M8 (α:=Nat×Int) [1,6,21,22] z (fun ⟨c,d⟩=>[(23,qi d)]) (fun ⟨c,d⟩=>L) (fun ⟨c,d⟩ hh=>iter (A4D p1 M) c d = some C) (fun ⟨c,d⟩=>c) (FUEL,(0:Int)) ⟨z,trivial⟩ z H ?_
  rintro ⟨c,d⟩ aD aE X
  obtain ⟨Y,aG,rfl,H,f⟩:=I1 X
  refine T.norm [23,1,6,21,22] z<|T.fl ?_
  refine Sr<|Vv (V.lt z z)<|Nt<|Sq<|T.cH H z (fun H=>?_) fun H=>?_
  ·refine Ks<|Sq<|Bl<|Sr<|Mv z<|bE H fun a D H=>?_
   obtain ⟨aI,Z,rfl⟩:=G6.at e D
   refine Vv (V.ix Q5 z z e (G7 D))<|Vv (V.ldS z Z.u (by exact K7)) ?_
   refine To (O.alloc A1x z z fun aJ=>Ag z<|To (O.stF (vs:=[.int .u8 a.H8,qi a.Q3,.string a.fA,.string a.fB,.string a.R6,qi a.fN]) K7 z z (j:=0) z z z z<|T.freeze fun m aK aa=>have E:=AtC.of aa; Nt<|Sq<|Sr<|Mv z<|Vv (V.fa A0o z)<|Vv (V.I9 (k:=0) A1f z E z)<|bE H fun ⟨b,aM⟩ ab H=>?_))
   obtain ⟨_,ac,rfl⟩:=Mp.look (zc:=[.string qe,.int .u8 0,.bool false,.int .u8 0,.bool false,qi 0,.bool false,(fnV (0:Nat))]) (agg:=true) underlying142 (A0M.int underlying40) B3q (show K6 m [.string qe,.int .u8 0,.bool false,.int .u8 0,.bool false,qi 0,.bool false,(fnV (0:Nat))] (I5.mk qe (0:Int) false (0:Int) false (0:Int) false (0:Nat)) from rfl) U.u ab
   refine Vv (V.D0x z z ac)<|Vv (V.ldS z g.u (by exact G9)) ?_
   refine Vv (V.ldS z E (by exact K7)) ?_
   refine bE H fun aN ad H=>To (O.D8 z (C2b (show K6 m [.string b.A7v,.int .u8 b.fa,.bool b.fb,.int .u8 b.ft,.bool b.fn,qi b.flo,.bool b.C6n,(fnV b.C5k)] b from z) ⟨q,r,s,t,w,z,x.u,y.u,A.u,B.u,e.u⟩ (show H5 m [.int .u8 a.H8,qi a.Q3,.string a.fA,.string a.fB,.string a.R6,qi a.fN] a from z) ad _) z fun aO aP aS aU ae=>?_)
   obtain ⟨rfl,af⟩:=ae
   refine J9 _ af<|Ag z<|Nt<|Sr<|Mv z<|Vv (V.ne z z)<|Nt<|T.cH H z (fun H=>?_) fun H=>?_
   ·exact Sr<|Mv z<|Mv z<|Ag z<|Ag z<|Nt<|T.ret<|Tr<|Br<|Tr<|Tr<|have H:=D9 H f; Br<|Tr<|have H:=J8 H i; E1 H
   refine Ks<|Sr<|Mv z<|Vv (V.eq z z)<|Nt<|T.cH H z (fun H=>?_) fun H=>?_
   ·exact Sr<|Mv z<|Ag z<|Ag z<|Nt<|T.ret<|Br<|Tr<|Tr<|have H:=D9 H f; Br<|Tr<|have H:=J8 H i; E1 H
   refine T.skip<|Bn<|Th<|Rg<|bE H fun ai aj H=>Vv (V.J2 z z aj)<|Mv z<|Nt<|T.ag (Y,ai) (F4 H f)
  refine T.exit<|Te<|Te<|have H:=D9 H f; Be<|Th<|T.mt () H
 rintro _ aV aW ak
 have H:=J8 ak i
 refine T.norm [] z<|T.fl ?_
 exact Sr<|Ag z<|Ag z<|Nt<|T.ret<|E1 H
theorem C1R {h a b c d e f g i} (j:AtC h b c) (m:M3 h c d) (n:AtC h e f) (o:(VI .i64) h f g) (H:A8w a d g = some i):∀ L,G8 prog 87 [.int .i64 a,.pointer (some b),.pointer (some e)] h (L) (fun v h' L'=>v = .bool i∧L' = L):=by
 intro L
 obtain ⟨t,u,w,x,y,rfl,p,A,B,C,D⟩:=m
 obtain rfl:=o
 refine G8.enter func87 z z z<|Sr<|Ag z<|Nt<|Sr<|Vv (V.fa J4 z)<|Vv (V.I9 (k:=0) M0 z j z)<|Vv (V.ld0 E8 z n z)<|Mv z<|bE H fun E q H=>To (O.D8 z (C1e p q _) z fun G I J K r=>?_)
 obtain ⟨rfl,s⟩:=r
 exact J9 _ s<|Ag z<|Nt<|T.ret<|E1 H
theorem C1Q {h a b c d e f g i} (j:AtC h b c) (m:M3 h c d) (n:AtC h e f) (o:(VI .i64) h f g) (H:A8D a d g = some i):∀ L,G8 prog 89 [.int .i64 a,.pointer (some b),.pointer (some e)] h (L) (fun v h' L'=>v = .bool i∧L' = L):=by
 intro L
 obtain ⟨t,u,w,x,y,rfl,p,A,B,C,D⟩:=m
 obtain rfl:=o
 refine G8.enter func89 z z z<|Sr<|Ag z<|Nt<|Sr<|Vv (V.fa J4 z)<|Vv (V.I9 (k:=0) M0 z j z)<|Vv (V.ld0 E8 z n z)<|Mv z<|bE H fun E q H=>To (O.D8 z (C0s p q _) z fun G I J K r=>?_)
 obtain ⟨rfl,s⟩:=r
 exact J9 _ s<|Ag z<|Nt<|T.ret<|E1 H
theorem C2i {h aA ao am aB} (bc:Pt P5 h aA ao) (H:B1v ao am = some aB):∀ L,G8 prog 91 [aA,.int .i64 am] h (L) (fun v h' L'=>∃ aC aq,v = .map (some aC)∧L' = blk aC (.map aq.toArray aq.length)::L∧A0v (Value.int .i64) false (VI .i64) h' 0 aq aB):=by
 intro L
 refine G8.enter func91 z z z<|Sr<|Ag z<|Nt<|Sr<|To (O.mkM z fun be=>have bf:A0v (Value.int .i64) false (VI .i64) h 0 ([]:List MapEntry) ([]:List (Int×Int)):=trivial; Mv z<|bE H fun bg bi H=>To (O.A9Z (agg:=false) (E:=(VI .i64)) (cs:=[qi 0]) underlying154 (A0M.int underlying3) z z z (j:=0) z bf (show (VI .i64) h [qi 0] (0:Int) from z) _ (.inr z) fun bj aD=>?_))
 rw [Option.some.inj bi] at aD
 refine Mv z<|Ag z<|Nt<|Sq<|Sr<|Mv z<|To (O.b1 (E:=VI .i64) C9 M9 z z z z z fun bk bm=>Ag z<|Nt ?_)
 obtain ⟨aE,bn,bo⟩:=M5 H
 refine T.M7 (α:=(List (Int×Int))×Nat×(List MapEntry)) [] z (fun ⟨ae,af,J⟩=>[(5,.map (some af))]) (fun ⟨ae,af,J⟩=>blk af (.map J.toArray J.length)::L) (fun ⟨ae,af,J⟩ hh=>aE = ae∧A0v (Value.int .i64) false (VI .i64) hh 0 J ae) ?_ ?_
 ·have H:=bn
  refine Bl<|G5 1 z<|T.M8 (α:=Nat×(List (Int×Int))×(List Int)×Nat×(List MapEntry)×Value×(List (List Value))) [0] z (fun ⟨K,i,A,m,c,B,C⟩=>[(5,.map (some m)),(6,B)]) (fun ⟨K,i,A,m,c,B,C⟩=>blk m (.map c.toArray c.length)::D5 3 1 B C::L) (fun ⟨K,i,A,m,c,B,C⟩ hh=>iter (A7i ao) K (i,A) = some aE∧A0v (Value.int .i64) false (VI .i64) hh 0 c i∧A7 (VI .i64) hh C A) (fun ⟨K,i,A,m,c,B,C⟩=>K) (FUEL,bg,[am],be,bj,(.slice (some ⟨bk,0,none⟩) 1 1),[[qi am]]) ⟨z,z,trivial⟩ z ⟨H,aD,bm⟩ ?_
  rintro ⟨K,i,A,m,c,B,C⟩ bp cj ⟨bq,aG,M⟩
  obtain ⟨br,ck,rfl,H,aI⟩:=I1 bq
  refine T.norm [5,6,0] z<|T.fl ?_
  refine Sq<|Sr<|Mv z<|Vv (V.A2a C9 z (j:=1) z M.len)<|Vv (V.gt z z)<|Nt<|T.cH H z (fun H=>?_) fun H=>?_
  ·refine Ks<|Sq<|Bl<|Sq<|G5 1 z<|T.O1 (t:=(.vs [0,1,2,3,4,5,6,7,8,9,10,11,12,13,14,15,16,17,20] (.alt 18 (.g (.v 19 .done)) .no))) 22 1 1 z z I4 (by kernel_rfl) ?_
   refine Tm z z<|have bt:=bc; ?_
   obtain ⟨cm,_,rfl,aJ,⟨cn,co,cp,cq,cr,ct,cu,cw,cx,cy,cA,cB,cC,cD,rfl,cE,cG,cI,cJ,cK,cM,cN,cO,cP,aK,aM,cS,cU,cV⟩⟩:=bt
   refine Tv z (V.S9 z)<|Tv z (V.fa B0m z)<|Tv z (V.I9 (k:=9) A0H z aJ.u z)<|Tm z z<|bE H fun cW aN H=>?_
   obtain ⟨cX,bu,rfl⟩:=A7.get M aN
   refine Tv z (Val.XA fun _ _ _=>V.ixR C9 z z (j:=0) z (A7.bd M aN))<|Tv z (Val.XA fun _ _ _=>V.ldR E8 z (j:=0) z bu z)<|bE H fun aO aP H=>?_
   obtain ⟨cY,bw,⟨aS,rfl,aU⟩⟩:=G6.at aK aP
   refine Tv z (V.ix Q7 z z aK (G7 aP))<|Tv z (V.ld0 E5 z bw.u z)<|Tm z z<|Tv z (V.S9 z)<|Tv z (V.fa B0q z)<|Tv z (V.I9 (k:=10) A0H z aJ.u z)<|Tm z z<|bE H fun cZ aV H=>?_
   obtain ⟨c0,bx,rfl⟩:=A7.get M aV
   refine Tv z (Val.XA fun _ _ _=>V.ixR C9 z z (j:=0) z (A7.bd M aV))<|Tv z (Val.XA fun _ _ _=>V.ldR E8 z (j:=0) z bx z)<|bE H fun aW aX H=>?_
   obtain ⟨c1,bA,⟨aY,rfl,aZ⟩⟩:=G6.at aM aX
   refine Tv z (V.ix Q7 z z aM (G7 aX))<|Tv z (V.ld0 E5 z bA.u z)<|Tm z z<|Tp z z (SX.two (XA.fr [0] Lr z) (XA.fr [0] Lr z)) (O.bs Q7 A3z z (e:=z) (hk:=z) (xs:=[.tmp 31,.tmp 40]) (hv:=CO.eq (CO.cons (G6.cells aU) (CO.cons (G6.cells aZ) CO.nil))) (hw:=O4.of z) (hd:=z) fun c2=>?_) T.O9
   have bB:A7 (VSl (VI .i64) 1) bp [[aS],[aY]] ([aO,aW]:List (List Int)):=(A7.cons ⟨aS,z,aU.u⟩ (A7.cons ⟨aY,z,aZ.u⟩ A7.nil))
   refine T.J5 fun c3 c4 bC=>have ar:=A7.Z4 bC bB.u; T.O3 Li<|Tv z (V.P9 Q7 z ar)<|T.R7 (SX.two (XA.fr [0] Lr z) (XA.fr [0] Lr z))<|Th<|T.A5G ?_
   obtain ⟨a0,bD,bG⟩:=M5 H
   refine T.M7 (α:=(List (Int×Int))×(List Int)×Nat×(List MapEntry)×Value×(List (List Value))) [0] z (fun ⟨N,ai,P,D,aj,G⟩=>[(5,.map (some P)),(6,aj)]) (fun ⟨N,ai,P,D,aj,G⟩=>blk P (.map D.toArray D.length)::D5 3 1 aj G::L) (fun ⟨N,ai,P,D,aj,G⟩ hh=>a0 = (N,ai)∧A0v (Value.int .i64) false (VI .i64) hh 0 D N∧A7 (VI .i64) hh G ai) ?_ ?_
   ·have H:=bD
    refine Bl<|G5 1 z<|T.M8 (α:=Nat×Int×(List (Int×Int))×(List Int)×Nat×(List MapEntry)×Value×(List (List Value))) [0,41,42] z (fun ⟨S,U,n,o,p,d,q,s⟩=>[(43,qi U),(5,.map (some p)),(6,q)]) (fun ⟨S,U,n,o,p,d,q,s⟩=>blk p (.map d.toArray d.length)::D5 3 1 q s::L) (fun ⟨S,U,n,o,p,d,q,s⟩ hh=>iter (A7d aO aW) S (U,n,o) = some a0∧A0v (Value.int .i64) false (VI .i64) hh 0 d n∧A7 (VI .i64) hh s o) (fun ⟨S,U,n,o,p,d,q,s⟩=>S) (FUEL,(0:Int),i,A,m,c,B,C) ⟨z,z,z,trivial⟩ z ⟨H,aG.u,M.u⟩ ?_
    rintro ⟨S,U,n,o,p,d,q,s⟩ c5 c6 ⟨bI,a1,a2⟩
    obtain ⟨bJ,c7,rfl,H,a3⟩:=I1 bI
    refine T.norm [43,5,6,0,41,42] z<|T.fl ?_
    refine Sr<|Vv (V.lt z z)<|Nt<|Sq<|T.cH H z (fun H=>?_) fun H=>?_
    ·refine Ks<|Sq<|Bl<|Sr<|bE H fun bK a4 H=>?_
     obtain ⟨c8,bM,⟨c9,rfl,au⟩⟩:=G6.at ar a4
     refine Vv (V.ix Q7 z z ar (G7 a4))<|Vv (V.ld0 E5 z bM.u z)<|Ag z<|Nt<|Sr<|Mv z<|Vv (V.P9 C9 z au)<|Mv z<|Nt<|T.A5G ?_
     obtain ⟨a5,bN,bO⟩:=M5 H
     refine T.M7 (α:=(List (Int×Int))×(List Int)×Nat×(List MapEntry)×Value×(List (List Value))) [0,41,42,43] z (fun ⟨W,X,Y,I,Z,aa⟩=>[(5,.map (some Y)),(6,Z)]) (fun ⟨W,X,Y,I,Z,aa⟩=>blk Y (.map I.toArray I.length)::D5 3 1 Z aa::L) (fun ⟨W,X,Y,I,Z,aa⟩ hh=>a5 = (W,X)∧A0v (Value.int .i64) false (VI .i64) hh 0 I W∧A7 (VI .i64) hh aa X) ?_ ?_
     ·have H:=bN
      refine Bl<|T.M8 (α:=Nat×Int×(List (Int×Int))×(List Int)×Nat×(List MapEntry)×Value×(List (List Value))) [0,41,42,43,47,48] z (fun ⟨ab,ac,w,x,a,f,y,b⟩=>[(49,qi ac),(5,.map (some a)),(6,y)]) (fun ⟨ab,ac,w,x,a,f,y,b⟩=>blk a (.map f.toArray f.length)::D5 3 1 y b::L) (fun ⟨ab,ac,w,x,a,f,y,b⟩ hh=>iter (A6V bK) ab (ac,w,x) = some a5∧A0v (Value.int .i64) false (VI .i64) hh 0 f w∧A7 (VI .i64) hh b x) (fun ⟨ab,ac,w,x,a,f,y,b⟩=>ab) (FUEL,(0:Int),n,o,p,d,q,s) ⟨z,z,z,trivial⟩ z ⟨H,a1,a2⟩ ?_
      rintro ⟨ab,ac,w,x,a,f,y,b⟩ an ch ⟨bP,ak,ad⟩
      obtain ⟨a6,cl,rfl,H,aw⟩:=I1 bP
      refine T.norm [49,5,6,0,41,42,43,47,48] z<|T.fl ?_
      refine Sr<|Vv (V.lt z z)<|Nt<|Sq<|T.cH H z (fun H=>?_) fun H=>?_
      ·refine Ks<|Sq<|Bl<|Sr<|bE H fun a7 a8 H=>?_
       obtain ⟨cv,bS,rfl⟩:=G6.at au a8
       refine Vv (V.ix C9 z z au (G7 a8))<|Vv (V.ld0 E8 z bS.u z)<|Ag z<|Nt<|Sr<|Mv z<|Mv z<|bE H fun ⟨cz,da⟩ bU H=>?_
       obtain ⟨_,bV,rfl⟩:=A0v.lookO (r:=a) (zc:=[qi 0]) (agg:=false) underlying154 (A0M.int underlying3) M9 (show (VI .i64) an [qi 0] (0:Int) from rfl) ak bU
       refine Vv (V.lkO z z (j:=0) z bV)<|Mv z<|Vv (V.ext z z)<|Vv (V.ext z z)<|Ag z<|Ag z<|Nt<|Sr<|Mv z<|Vv (V.not z)<|Nt<|T.cH H z (fun H=>?_) fun H=>?_
       ·refine Sr<|Mv z<|Mv z<|Mv z<|Mv z<|bE H fun db a9 H=>?_
        obtain ⟨dc,bW,rfl⟩:=A7.get ad a9
        refine Vv (V.ixR C9 z z (j:=1) z (A7.bd ad a9))<|Vv (V.ldR E8 z (j:=1) z bW z)<|bE H fun ⟨dd,de⟩ bX H=>?_
        obtain ⟨_,bY,rfl⟩:=A0v.lookO (r:=a) (zc:=[qi 0]) (agg:=false) underlying154 (A0M.int underlying3) M9 (show (VI .i64) an [qi 0] (0:Int) from rfl) ak bX
        refine Vv (V.D2Q z z (j:=0) z bY)<|bE H fun ax bZ H=>Vv (V.J2 z z bZ)<|bE H fun b0 b2 H=>To (O.A9Z (agg:=false) (E:=(VI .i64)) (cs:=[qi ax]) underlying154 (A0M.int underlying3) z z z (j:=0) z ak (show (VI .i64) an [qi ax] ax from z) _ (.inl z) fun b3 ah=>?_)
        rw [Option.some.inj b2] at ah
        refine Nt<|Rg<|Mv z<|Mv z<|To (O.b1 (E:=VI .i64) C9 M9 z z z z z fun df ay=>bE H fun al av H=>To (O.apX C9 C9 M9 z z z (j:=2) z (Src.row (j:=0) z) (O4.of z) (A7.ones VI.plain ay) ad ay av z fun b4 dg di=>have b5:A7 (VI .i64) an (b ++ [[qi a7]]) al:=A7.ap ad ay av; T.fl ?_))
        refine G5 1 z<|T.fl ?_
        refine T.drop<|Ag z<|Ni<|Bn<|Th<|Rg<|bE H fun b6 b7 H=>Vv (V.J2 z z b7)<|Mv z<|Nt<|G5 1 z<|T.ag (a6,b6,b0,al,a,b3,b4,(b ++ [[qi a7]])) ⟨(F4 H aw),ah,b5⟩
       refine T.skip<|Bn<|Th<|Rg<|bE H fun b8 b9 H=>Vv (V.J2 z z b9)<|Mv z<|Nt<|T.ag (a6,b8,w,x,a,f,y,b) ⟨(F4 H aw),ak,ad⟩
      refine T.exit<|Te<|Te<|have H:=D9 H aw; Be<|Th<|T.mt (w,x,a,f,y,b) ⟨H,ak,ad⟩
     rintro ⟨W,X,Y,I,Z,aa⟩ dj dk ⟨bh,bl,bv⟩
     have H:=J8 bh bO
     refine T.norm [5,6,0,41,42,43] z<|T.fl ?_
     refine Bn<|Th<|Rg<|bE H fun bz ca H=>Vv (V.J2 z z ca)<|Mv z<|Nt<|T.ag (bJ,bz,W,X,Y,I,Z,aa) ⟨(F4 H a3),bl,bv⟩
    refine T.exit<|Te<|Te<|have H:=D9 H a3; Be<|Th<|T.mt (n,o,p,d,q,s) ⟨H,a1,a2⟩
   rintro ⟨N,ai,P,D,aj,G⟩ cb dm ⟨cc,cd,az⟩
   have H:=J8 cc bG
   refine T.norm [5,6,0] z<|T.fl ?_
   refine Bn<|Th<|Rg<|Mv z<|bE H fun ba bb H=>To (O.slR C9 z z (j:=1) z (A7.slb az bb) z fun ce=>have cf:A7 (VI .i64) cb (List.drop (1:Int).toNat G) ba:=A7.sl az bb; Ag z<|Nt<|G5 1 z<|T.ag (br,N,ba,P,D,ce,(List.drop (1:Int).toNat G)) ⟨(F4 H aI),cd,cf⟩)
  refine T.exit<|Te<|Te<|have H:=D9 H aI; Be<|Th<|G5 1 z<|T.drop<|T.mt (i,m,c) ⟨H,aG⟩
 rintro ⟨ae,af,J⟩ dn dp ⟨cg,ci⟩
 have H:=J8 cg bo
 refine T.norm [5] z<|T.fl ?_
 refine Sr<|Mv z<|Ag z<|Nt<|T.ret ?_
 cases H
 exact T.rl z (Rv z) ⟨_,_,z,z,ci⟩
theorem B0b {h a b c} (d:Pt P5 h a b) (H:A8V b = some c):∀ L,G8 prog 96 [a] h (L) (fun v h' L'=>v = .bool c∧L' = L):=by
 intro L
 refine G8.enter func96 z z z<|Sr<|Ag z<|Nt<|Sr<|Mv z<|have e:=d; ?_
 obtain ⟨j,_,rfl,f,⟨m,n,o,p,q,r,s,t,u,w,x,y,A,B,rfl,C,D,E,G,I,g,J,K,M,N,O,P,S,U⟩⟩:=e
 refine Vv (V.C7H underlying80 z)<|Mv z<|Mv z<|Vv (V.S9 z)<|Vv (V.fa B0i z)<|Vv (V.I9 (k:=5) B2q z f z)<|have i:=g; ?_
 obtain ⟨W,_,rfl,_⟩:=i
 exact Vv (V.D1T underlying142 z)<|Vv (V.R9 z z)<|Ag z<|Nt<|T.ret<|E1 H
theorem B8F {h cX p1 cY cZ c0} (er:M3 h cX p1) (H:B3I p1 = some (cY,cZ,c0)):∀ L,G8 prog 36 [.agg cX.toArray] h (L) (fun v h' L'=>∃ c1,v = .tuple #[c1,.int .i64 cZ,.int .i64 c0]∧L' = L∧OPt P5 h' c1 cY):=by
 intro L
 obtain ⟨bh,bZ,b0,bl,bv,rfl,ac,J,bf,bz,ca⟩:=er
 refine G8.enter func36 z z z<|Sr<|To (O.Y0 z z z fun cb jo jp D=>Ag z<|Ag z<|Ag z<|Nt<|Sq<|Sr<|Vv (V.ldS z D (by exact G9)) ?_)
 refine bE H fun ⟨jq,jr⟩ es H=>To (O.D8 z (A6D ⟨bh,bZ,b0,bl,bv,z,ac.u,J.u,bf.u,bz.u,ca.u⟩ es _) z fun js jt ju jw et=>?_)
 obtain ⟨rfl,eu⟩:=et
 refine J9 _ eu<|Mv z<|Vv (V.ext z z)<|Vv (V.ext z z)<|Ag z<|Ag z<|Nt<|Sr<|Mv z<|Vv (V.ne z z)<|Nt<|T.cH H z (fun H=>?_) fun H=>?_
 ·refine Sr<|Mv z<|Mv z<|Ag z<|Ag z<|Ag z<|Nt<|T.ret<|Tr ?_
  cases H
  exact T.rl z (RVs.cons (RV.tmp z) (RVs.cons (RV.tmp z) (Rv z))) ⟨_,z,z,OPt.nil⟩
 refine Ks<|Sr<|Vv (V.ldS z D.u (by exact G9)) ?_
 refine bE H fun ew ex H=>To (O.D8 z (B3p ⟨bh,bZ,b0,bl,bv,z,ac.u,J.u,bf.u,bz.u,ca.u⟩ ex _) z fun jx jy jA jB ey=>?_)
 obtain ⟨K,M,N,P,S,rfl,eA,c2,c3,c4,c5,c6⟩:=ey
 refine J9 _ eA<|bE H fun eB eC H=>To (O.D8 z (B5l eC _) z fun U b2 jC jD eD=>?_)
 obtain ⟨eE,cm⟩:=eD
 refine J9 _ eE<|Vv (V.bld (xs:=[(0,.tmp 34),(1,.tmp 35)]) (cs:=[_,_,_,_,_,_,_,_,_,_,_,_,_,_]) C5w C5q z (F3.cons z z z (F3.cons z (Mp.cells cm) z F3.nil)))<|To (O.box z z z fun aa=>Ag z<|Nt<|Sq<|Sr<|Vv (V.fa J4 z)<|Vv (V.I9 (k:=0) M0 z D.u z)<|Vv (V.P9 N9 z ac)<|Mv z<|Nt ?_)
 obtain ⟨c7,eG,eI⟩:=M5 H
 refine T.M7 (α:=(List Int)×(List Int)×(List Bool)×(List (List Int))×(List (List Int))×Value×(List (List Value))×Value×(List (List Value))×Value×(List (List Value))×Value×(List (List Value))×Value×(List (List Value))) [1,7] z (fun ⟨bg,bi,bj,bk,bm,m,W,f,G,d,A,c,q,b,p⟩=>[]) (fun ⟨bg,bi,bj,bk,bm,m,W,f,G,d,A,c,q,b,p⟩=>blk aa (.cells [K,M,N,P,S,U,m,f,d,c,b,qs,qs,qs].toArray 149)::D5 3 1 m W::D5 3 1 f G::D5 4 1 d A::D5 27 1 c q::D5 27 1 b p::L) (fun ⟨bg,bi,bj,bk,bm,m,W,f,G,d,A,c,q,b,p⟩ hh=>c7 = (bg,bi,bj,bk,bm)∧A7 (VI .i64) hh W bg∧A7 (VI .i64) hh G bi∧A7 VB hh A bj∧A7 (VSl (VI .i64) 1) hh q bk∧A7 (VSl (VI .i64) 1) hh p bm) ?_ ?_
 ·have H:=eG
  refine Bl<|T.U9 3 1<|have eJ:A7 (VI .i64) b2 [] ([]:List Int):=A7.nil; T.U9 3 1<|have eK:A7 (VI .i64) b2 [] ([]:List Int):=A7.nil; T.U9 4 1<|have eM:A7 VB b2 [] ([]:List Bool):=A7.nil; T.U9 27 1<|have eN:A7 (VSl (VI .i64) 1) b2 [] ([]:List (List Int)):=A7.nil; T.U9 27 1<|have eO:A7 (VSl (VI .i64) 1) b2 [] ([]:List (List Int)):=A7.nil; G5 1 z<|T.fl ?_
  refine G5 2 z<|T.fl ?_
  refine G5 3 z<|T.fl ?_
  refine G5 4 z<|T.fl ?_
  refine G5 5 z<|T.fl ?_
  refine T.M8 (α:=Nat×(List Int)×(List Int)×(List Bool)×(List (List Int))×(List (List Int))×Int×Value×(List (List Value))×Value×(List (List Value))×Value×(List (List Value))×Value×(List (List Value))×Value×(List (List Value))) [1,7,40] z (fun ⟨bn,ar,au,aw,ax,ay,ad,aA,aB,aC,aD,aE,aG,aI,aJ,aK,aM⟩=>[(41,qi ad)]) (fun ⟨bn,ar,au,aw,ax,ay,ad,aA,aB,aC,aD,aE,aG,aI,aJ,aK,aM⟩=>blk aa (.cells [K,M,N,P,S,U,aA,aC,aE,aI,aK,qs,qs,qs].toArray 149)::D5 3 1 aA aB::D5 3 1 aC aD::D5 4 1 aE aG::D5 27 1 aI aJ::D5 27 1 aK aM::L) (fun ⟨bn,ar,au,aw,ax,ay,ad,aA,aB,aC,aD,aE,aG,aI,aJ,aK,aM⟩ hh=>iter (A9F p1) bn (ar,au,aw,ax,ay,ad) = some c7∧A7 (VI .i64) hh aB ar∧A7 (VI .i64) hh aD au∧A7 VB hh aG aw∧A7 (VSl (VI .i64) 1) hh aJ ax∧A7 (VSl (VI .i64) 1) hh aM ay) (fun ⟨bn,ar,au,aw,ax,ay,ad,aA,aB,aC,aD,aE,aG,aI,aJ,aK,aM⟩=>bn) (FUEL,([]:List Int),([]:List Int),([]:List Bool),([]:List (List Int)),([]:List (List Int)),(0:Int),(qs),[],(qs),[],(qs),[],(qs),[],(qs),[]) ⟨z,trivial⟩ z ⟨H,eJ,eK,eM,eN,eO⟩ ?_
  rintro ⟨bn,ar,au,aw,ax,ay,ad,aA,aB,aC,aD,aE,aG,aI,aJ,aK,aM⟩ jE jG ⟨eP,c8,c9,ch,cl,cv⟩
  obtain ⟨eS,jI,rfl,H,cz⟩:=I1 eP
  refine T.norm [41,1,7,40] z<|T.fl ?_
  refine Sr<|Vv (V.lt z z)<|Nt<|Sq<|T.cH H z (fun H=>?_) fun H=>?_
  ·refine Ks<|Sq<|Bl<|Sr<|Mv z<|Ag z<|Nt<|Sr<|Vv (V.fa J4 z)<|Vv (V.I9 (k:=0) M0 z D.u z)<|Mv z<|bE H fun cn eU H=>To (O.D8 z (A6K ac.u eU _) z fun jJ eV jK jM eW=>?_)
   obtain ⟨rfl,eX⟩:=eW
   refine J9 _ eX<|Ag z<|Nt<|Sr<|Vv (V.fa J4 z)<|Vv (V.I9 (k:=0) M0 z D.u z)<|Mv z<|Mv z<|bE H fun jN eY H=>Vv (V.J2 z z eY)<|bE H fun eZ da H=>T.slM z N9 z ac.u (.inr ⟨_,_,z,z⟩) (.inr ⟨_,_,z,z⟩) (A5F da).2 z fun e0 e1 jO=>?_
   have e2:G6 F7 7 eV e0 eZ:=by rw [(A5F da).1]; exact e1
   refine bE H fun e3 e4 H=>To (O.D8 z (A4Y e2 e4 _) z fun jP jS jU jV e5=>?_)
   obtain ⟨rfl,e6⟩:=e5
   refine J9 _ e6<|Ag z<|Nt<|Sr<|Mv z<|To (O.alloc M9 z z fun e7=>To (O.stF (vs:=[qi cn]) E8 z z (j:=0) z z z z<|T.fl ?_))
   refine Nt<|T.A5G ?_
   obtain ⟨db,e8,e9⟩:=M5 H
   refine T.M7 (α:=(List Int)×(List Int)×(List Bool)×(List (List Int))×(List (List Int))×Value×(List (List Value))×Value×(List (List Value))×Value×(List (List Value))×Value×(List (List Value))×Value×(List (List Value))) [1,7,40,41] z (fun ⟨bo,bp,bq,br,bt,bu,bw,bx,bA,bB,bC,bD,bG,bI,bJ⟩=>[]) (fun ⟨bo,bp,bq,br,bt,bu,bw,bx,bA,bB,bC,bD,bG,bI,bJ⟩=>blk aa (.cells [K,M,N,P,S,U,bu,bx,bB,bD,bI,qs,qs,qs].toArray 149)::D5 3 1 bu bw::D5 3 1 bx bA::D5 4 1 bB bC::D5 27 1 bD bG::D5 27 1 bI bJ::L) (fun ⟨bo,bp,bq,br,bt,bu,bw,bx,bA,bB,bC,bD,bG,bI,bJ⟩ hh=>db = (bo,bp,bq,br,bt)∧A7 (VI .i64) hh bw bo∧A7 (VI .i64) hh bA bp∧A7 VB hh bC bq∧A7 (VSl (VI .i64) 1) hh bG br∧A7 (VSl (VI .i64) 1) hh bJ bt) ?_ ?_
   ·have H:=e8
    refine Bl<|G5 6 z<|T.fl ?_
    refine G5 6 z<|T.fl ?_
    refine G5 6 z<|T.fl ?_
    refine G5 6 z<|T.fl ?_
    refine G5 6 z<|T.fl ?_
    refine G5 6 z<|T.fl ?_
    refine T.M8 (α:=Nat×(List Int)×(List Int)×(List Bool)×(List (List Int))×(List (List Int))×Int×Value×(List (List Value))×Value×(List (List Value))×Value×(List (List Value))×Value×(List (List Value))×Value×(List (List Value))×Nat) [1,7,8,9,10,40,41] z (fun ⟨bK,aW,aX,aY,aZ,a0,I,a1,ae,a2,af,a3,ai,a4,aj,a5,ak,ab⟩=>[(11,qp ab)]) (fun ⟨bK,aW,aX,aY,aZ,a0,I,a1,ae,a2,af,a3,ai,a4,aj,a5,ak,ab⟩=>blk aa (.cells [K,M,N,P,S,U,a1,a2,a3,a4,a5,qs,qs,qs].toArray 149)::D5 3 1 a1 ae::D5 3 1 a2 af::D5 4 1 a3 ai::D5 27 1 a4 aj::D5 27 1 a5 ak::blk ab (.cells [qi I].toArray 3)::L) (fun ⟨bK,aW,aX,aY,aZ,a0,I,a1,ae,a2,af,a3,ai,a4,aj,a5,ak,ab⟩ hh=>iter (A9q p1 ad cn e3) bK (aW,aX,aY,aZ,a0,I) = some db∧A7 (VI .i64) hh ae aW∧A7 (VI .i64) hh af aX∧A7 VB hh ai aY∧A7 (VSl (VI .i64) 1) hh aj aZ∧A7 (VSl (VI .i64) 1) hh ak a0) (fun ⟨bK,aW,aX,aY,aZ,a0,I,a1,ae,a2,af,a3,ai,a4,aj,a5,ak,ab⟩=>bK) (FUEL,ar,au,aw,ax,ay,cn,aA,aB,aC,aD,aE,aG,aI,aJ,aK,aM,e7) ⟨z,trivial⟩ z ⟨H,c8.u,c9.u,ch.u,cl.u,cv.u⟩ ?_
    rintro ⟨bK,aW,aX,aY,aZ,a0,I,a1,ae,a2,af,a3,ai,a4,aj,a5,ak,ab⟩ eh jW ⟨el,co,cp,cq,cr,ct⟩
    obtain ⟨ev,jX,rfl,H,dc⟩:=I1 el
    refine T.norm [11,1,7,8,9,10,40,41] z<|T.fl ?_
    refine Sq<|Sr<|Vv (V.A8c E8 z (j:=6) z z)<|Mv z<|Mv z<|bE H fun jY ez H=>Vv (V.J2 z z ez)<|Vv (V.lt z z)<|Nt<|T.cH H z (fun H=>?_) fun H=>?_
    ·refine Ks<|Sq<|Bl<|Sr<|Mv z<|Mv z<|Vv (V.S9 z)<|Vv (V.fa A1j z)<|Vv (V.ldO (k:=6) E5 z (j:=0) z z)<|Mv z<|To (O.b1 (E:=VI .i64) C9 M9 z z z z z fun jZ cu=>bE H fun dd de H=>To (O.apX C9 C9 M9 z z z (j:=2) z (Src.row (j:=0) z) (O4.of z) (A7.ones VI.plain cu) co cu de z fun df j0 j1=>have fb:A7 (VI .i64) eh (ae ++ [[qi ad]]) dd:=A7.ap co cu de; T.fl ?_))
     refine G5 1 z<|T.fl ?_
     refine T.drop<|Vv (V.S9 z)<|Vv (V.fa A1j z)<|T.J7 0 z fun fc fd=>To (O.st (vs:=[df]) (k:=6) E5 z z (j:=1) z fd (by (simp only [Sl.ones,fc,Bool.and_true,Bool.true_and]) <;> rfl) ?_)
     refine T.fl ?_
     refine Nt<|Sq<|G5 2 z<|T.fl ?_
     refine G5 1 z<|T.fl ?_
     refine G5 6 z<|T.fl ?_
     refine T.O1 (t:=(.vs [0,1,2,3] (.x 4 (.vs [5,6,7] (.alt 8 (.g (.alt 9 (.alt 10 (.g (.v 11 (.v 12 (.alt 13 .done .no)))) .no) .no)) .no))))) 10 3 1 z z I4 (by kernel_rfl) ?_
     refine Tm z z<|Tm z z<|Tv z (V.S9 z)<|Tv z (V.fa B5s z)<|T.tx z z (Val.XA fun _ _ _=>V.ldO (k:=7) E5 z (j:=1) z z) z Calm.i<|Tv z (V.fa J4 z)<|Tv z (V.I9 (k:=0) M0 z D.u z)<|Tv z (Val.XA fun _ _ _=>V.A8c E8 z (j:=0) z z)<|bE H fun cc fe H=>Tp z z (SX.two (XA.fr [0] Lr z) (XA.fr [2,2,2] Lr z)) (O.D8 z (C2p ac.u fe _) z fun j2 dg j3 j4 ff=>?_) T.O9
     obtain ⟨rfl,fg⟩:=ff
     refine J9 _ fg<|T.O3 Li<|Tp z z (SX.two (XA.fr [0] Lr z) (XA.fr [2,2,2] Lr z)) (O.bs C9 M9 z (e:=z) (hk:=z) (xs:=[.tmp 81]) (hv:=CO.eq (CO.cons z CO.nil)) (hw:=O4.of z) (hd:=z) fun j5=>?_) T.O9
     have cw:A7 (VI .i64) dg [[qi cc]] ([cc]:List Int):=(A7.cons z A7.nil)
     refine bE H fun di dj H=>Tp z z (SX.two (XA.fr [1] Lr z) (XA.fr [3,3,3] Lr z)) (O.apX C9 C9 M9 z z z (j:=3) z (Src.row (j:=0) z) (O4.of z) (A7.ones VI.plain cw) cp.u cw dj z fun dk j6 j7=>?_) T.O9
     have fi:A7 (VI .i64) dg (af ++ [[qi cc]]) di:=A7.ap cp.u cw dj
     refine T.fl ?_
     refine G5 1 z<|T.fl ?_
     refine T.drop<|T.O3 Lr<|Tv z (V.S9 z)<|Tv z (V.fa B5s z)<|T.J7 0 z fun fj fk=>Tp z z (SX.one (XA.fr [1] Lr z) z) (O.st (vs:=[dk]) (k:=7) E5 z z (j:=2) z fk (by (simp only [Sl.ones,fj,Bool.and_true,Bool.true_and]) <;> rfl) ?_) T.O9
     refine T.fl ?_
     refine T.R7 (SX.one (XA.fr [2] Lr z) z)<|Th<|Sq<|G5 4 z<|T.fl ?_
     refine G5 1 z<|T.fl ?_
     refine G5 3 z<|T.fl ?_
     refine T.O1 (t:=(.vs [0,1,2,3] (.x 4 (.vs [5,6,7] (.alt 8 (.g (.alt 9 (.alt 10 (.g (.v 11 (.v 12 (.alt 13 .done .no)))) .no) .no)) .no))))) 10 3 1 z z I4 (by kernel_rfl) ?_
     refine Tm z z<|Tm z z<|Tv z (V.S9 z)<|Tv z (V.fa B5k z)<|T.tx z z (Val.XA fun _ _ _=>V.ldO (k:=8) B9Q z (j:=1) z z) z Calm.i<|Tv z (V.fa J4 z)<|Tv z (V.I9 (k:=0) M0 z D.u z)<|Tv z (Val.XA fun _ _ _=>V.A8c E8 z (j:=0) z z)<|bE H fun cd fm H=>Tp z z (SX.two (XA.fr [0] Lr z) (XA.fr [2,2,2] Lr z)) (O.D8 z (C3x ac.u fm _) z fun j8 dm j9 jh fn=>?_) T.O9
     obtain ⟨rfl,fo⟩:=fn
     refine J9 _ fo<|T.O3 Li<|Tp z z (SX.two (XA.fr [0] Lr z) (XA.fr [2,2,2] Lr z)) (O.bs A0F A6l z (e:=z) (hk:=z) (xs:=[.tmp 94]) (hv:=CO.eq (CO.cons z CO.nil)) (hw:=O4.of z) (hd:=z) fun jl=>?_) T.O9
     have cx:A7 VB dm [[.bool cd]] ([cd]:List Bool):=(A7.cons z A7.nil)
     refine bE H fun dn dp H=>Tp z z (SX.two (XA.fr [1] Lr z) (XA.fr [3,3,3] Lr z)) (O.apX A0F A0F A6l z z z (j:=3) z (Src.row (j:=0) z) (O4.of z) (A7.ones VB.plain cx) cq.u cx dp z fun dq jv jz=>?_) T.O9
     have fp:A7 VB dm (ai ++ [[.bool cd]]) dn:=A7.ap cq.u cx dp
     refine T.fl ?_
     refine G5 1 z<|T.fl ?_
     refine T.drop<|T.O3 Lr<|Tv z (V.S9 z)<|Tv z (V.fa B5k z)<|T.J7 0 z fun fq fs=>Tp z z (SX.one (XA.fr [1] Lr z) z) (O.st (vs:=[dq]) (k:=8) B9Q z z (j:=2) z fs (by (simp only [Sl.ones,fq,Bool.and_true,Bool.true_and]) <;> rfl) ?_) T.O9
     refine T.fl ?_
     refine T.R7 (SX.one (XA.fr [2] Lr z) z)<|Th<|Sq<|T.norm [1,7,8,9,10,11,40,41] z<|T.fl ?_
     refine G5 2 z<|T.fl ?_
     refine T.B5P fun ft ka cy=>G5 4 z<|T.fl ?_
     refine G5 1 z<|T.fl ?_
     refine T.O1 (t:=(.vs [0,1,2,3] (.x 4 (.vs [5,6,7] (.alt 8 (.g (.alt 9 (.alt 10 (.g (.v 11 (.v 12 (.alt 13 .done .no)))) .no) .no)) .no))))) 10 2 0 z z I4 (by kernel_rfl) ?_
     refine Tm z z<|Tm z z<|Tv z (V.S9 z)<|Tv z (V.fa B0m z)<|T.tx z z (Val.XA fun _ _ _=>V.ldO (k:=9) A0H z (j:=0) z z) z Calm.i<|Tm z z<|Tm z z<|Tv z (V.mkf z z)<|bE H fun fu fw H=>Tp z z (SX.two (XA.fr [] Lr z) (XA.fr [1,1] Lr z)) (O.D8 z (B5m (show A2q ft (.func (.func 87) #[] #[qp cb,qp ab]) (fun cA=>A8w cA p1 I) from ⟨⟨z,z⟩,.inr ⟨87,[],[qp cb,qp ab],z,fun fx kb kc kd fy fA=>C1R D.u ⟨bh,bZ,b0,bl,bv,z,ac.u,J.u,bf.u,bz.u,ca.u⟩ cy.u (show (VI .i64) fx [qi I] I from z) fy fA⟩⟩) fw _) z fun ce ke kf kg fB=>?_) T.O9
     obtain ⟨ki,fC,fD⟩:=fB
     refine J9 _ fC<|T.O3 Li<|T.J5 fun cB kj fE=>have dr:=A7.Z4 fE fD.u; Tp z z (SX.two (XA.fr [] Li z) (XA.fr [1,1] Li z)) (O.bs Q7 A3z z (e:=z) (hk:=z) (xs:=[.tmp 107]) (hv:=CO.eq (CO.cons (G6.cells dr) CO.nil)) (hw:=O4.of z) (hd:=z) fun kk=>?_) T.O9
     have cC:A7 (VSl (VI .i64) 1) cB [[ce]] ([fu]:List (List Int)):=(A7.cons ⟨ce,z,dr⟩ A7.nil)
     refine bE H fun ds dt H=>Tp z z (SX.two (XA.fr [] Li z) (XA.fr [2,2] Li z)) (O.apX Q7 Q7 A3z z z z (j:=2) z (Src.row (j:=0) z) (O4.of z) (A7.ones VSl.plain cC) cr.u cC dt z fun du km kn=>?_) T.O9
     have fG:A7 (VSl (VI .i64) 1) cB (aj ++ [[ce]]) ds:=A7.ap cr.u cC dt
     refine T.fl ?_
     refine G5 1 z<|T.fl ?_
     refine T.drop<|T.O3 Li<|Tv z (V.S9 z)<|Tv z (V.fa B0m z)<|T.J7 0 z fun fI fJ=>Tp z z (SX.one (XA.fr [] Lr z) z) (O.st (vs:=[du]) (k:=9) A0H z z (j:=1) z fJ (by (simp only [Sl.ones,fI,Bool.and_true,Bool.true_and]) <;> rfl) ?_) T.O9
     refine T.fl ?_
     refine T.R7 (SX.one (XA.fr [] Lr z) z)<|Th<|G5 5 z<|T.fl ?_
     refine G5 1 z<|T.fl ?_
     refine T.O1 (t:=(.vs [0,1,2,3] (.x 4 (.vs [5,6,7] (.alt 8 (.g (.alt 9 (.alt 10 (.g (.v 11 (.v 12 (.alt 13 .done .no)))) .no) .no)) .no))))) 10 2 0 z z I4 (by kernel_rfl) ?_
     refine Tm z z<|Tm z z<|Tv z (V.S9 z)<|Tv z (V.fa B0q z)<|T.tx z z (Val.XA fun _ _ _=>V.ldO (k:=10) A0H z (j:=0) z z) z Calm.i<|Tm z z<|Tm z z<|Tv z (V.mkf z z)<|bE H fun fK fM H=>Tp z z (SX.two (XA.fr [] Lr z) (XA.fr [1,1] Lr z)) (O.D8 z (B5m (show A2q cB (.func (.func 89) #[] #[qp cb,qp ab]) (fun cA=>A8D cA p1 I) from ⟨⟨z,z⟩,.inr ⟨89,[],[qp cb,qp ab],z,fun fN ko kp kq fO fP=>C1Q D.u ⟨bh,bZ,b0,bl,bv,z,ac.u,J.u,bf.u,bz.u,ca.u⟩ cy.u (show (VI .i64) fN [qi I] I from z) fO fP⟩⟩) fM _) z fun cf kr ks kt fS=>?_) T.O9
     obtain ⟨ku,fU,fV⟩:=fS
     refine J9 _ fU<|T.O3 Li<|T.J5 fun dw kw fW=>have dx:=A7.Z4 fW fV.u; Tp z z (SX.two (XA.fr [] Li z) (XA.fr [1,1] Li z)) (O.bs Q7 A3z z (e:=z) (hk:=z) (xs:=[.tmp 120]) (hv:=CO.eq (CO.cons (G6.cells dx) CO.nil)) (hw:=O4.of z) (hd:=z) fun kx=>?_) T.O9
     have cD:A7 (VSl (VI .i64) 1) dw [[cf]] ([fK]:List (List Int)):=(A7.cons ⟨cf,z,dx⟩ A7.nil)
     refine bE H fun dy dA H=>Tp z z (SX.two (XA.fr [] Li z) (XA.fr [2,2] Li z)) (O.apX Q7 Q7 A3z z z z (j:=2) z (Src.row (j:=0) z) (O4.of z) (A7.ones VSl.plain cD) ct.u cD dA z fun dB ky kA=>?_) T.O9
     have fX:A7 (VSl (VI .i64) 1) dw (ak ++ [[cf]]) dy:=A7.ap ct.u cD dA
     refine T.fl ?_
     refine G5 1 z<|T.fl ?_
     refine T.drop<|T.O3 Li<|Tv z (V.S9 z)<|Tv z (V.fa B0q z)<|T.J7 0 z fun fY fZ=>Tp z z (SX.one (XA.fr [] Lr z) z) (O.st (vs:=[dB]) (k:=10) A0H z z (j:=1) z fZ (by (simp only [Sl.ones,fY,Bool.and_true,Bool.true_and]) <;> rfl) ?_) T.O9
     refine T.fl ?_
     refine T.R7 (SX.one (XA.fr [] Lr z) z)<|Bn<|Th<|Sq<|Sr<|Vv (V.ld0 E8 z cy.u z)<|Nt<|Rg<|To (O.alloc M9 z z fun f0=>To (O.stF (vs:=[qi I]) E8 z z (j:=0) z z z z<|T.fl ?_))
     refine Nt<|T.norm [1,7,8,9,10,11,40,41] z<|T.fl ?_
     refine Rg<|Vv (V.A8c E8 z (j:=0) z z)<|bE H fun dC f1 H=>Vv (V.J2 z z f1)<|To (O.stF (vs:=[qi dC]) E8 z z (j:=0) z z z z<|T.fl ?_)
     refine Nt<|G5 2 z<|T.fl ?_
     refine G5 3 z<|T.fl ?_
     refine G5 4 z<|T.fl ?_
     refine G5 5 z<|T.fl ?_
     refine G5 6 z<|T.fl ?_
     refine G5 6 z<|T.fl ?_
     exact T.ag (ev,dd,di,dn,ds,dy,dC,df,(ae ++ [[qi ad]]),dk,(af ++ [[qi cc]]),dq,(ai ++ [[.bool cd]]),du,(aj ++ [[ce]]),dB,(ak ++ [[cf]]),f0) ⟨(F4 H dc),fb.u,fi.u,fp.u,fG.u,fX⟩
    refine T.exit<|Te<|Te<|have H:=D9 H dc; Be<|Th<|G5 6 z<|T.fl ?_
    refine T.drop<|T.mt (aW,aX,aY,aZ,a0,a1,ae,a2,af,a3,ai,a4,aj,a5,ak) ⟨H,co,cp,cq,cr,ct⟩
   rintro ⟨bo,bp,bq,br,bt,bu,bw,bx,bA,bB,bC,bD,bG,bI,bJ⟩ kB kC ⟨f2,f3,f4,f5,f6,f7⟩
   have H:=J8 f2 e9
   refine T.norm [1,7,40,41] z<|T.fl ?_
   refine Bn<|Th<|Rg<|bE H fun f8 f9 H=>Vv (V.J2 z z f9)<|Mv z<|Nt<|T.ag (eS,bo,bp,bq,br,bt,f8,bu,bw,bx,bA,bB,bC,bD,bG,bI,bJ) ⟨(F4 H cz),f3,f4,f5,f6,f7⟩
  refine T.exit<|Te<|Te<|have H:=D9 H cz; Be<|Th<|T.mt (ar,au,aw,ax,ay,aA,aB,aC,aD,aE,aG,aI,aJ,aK,aM) ⟨H,c8,c9,ch,cl,cv⟩
 rintro ⟨bg,bi,bj,bk,bm,m,W,f,G,d,A,c,q,b,p⟩ fh kD ⟨fv,cE,dD,dE,dG,dI⟩
 have H:=J8 fv eI
 refine T.norm [1,7] z<|T.fl ?_
 refine Sq<|Sr<|Mv z<|Vv (V.S9 z)<|Vv (V.fa A1j z)<|Vv (V.ldO (k:=6) E5 z (j:=0) z z)<|Vv (V.A2a C9 z (j:=1) z cE.len)<|Mv z<|Nt ?_
 obtain ⟨dJ,fz,ga⟩:=M5 H
 refine T.M7 (α:=(List (List (Int×Int)))×Value×(List (List Value))) [1,7] z (fun ⟨b3,B,am⟩=>[]) (fun ⟨b3,B,am⟩=>blk aa (.cells [K,M,N,P,S,U,m,f,d,c,b,B,qs,qs].toArray 149)::D5 3 1 m W::D5 3 1 f G::D5 4 1 d A::D5 27 1 c q::D5 27 1 b p::D5 154 1 B am::L) (fun ⟨b3,B,am⟩ hh=>dJ = b3∧A7 (VMp (Value.int .i64) false (VI .i64)) hh am b3) ?_ ?_
 ·have H:=fz
  refine Bl<|T.U9 154 1<|have gb:A7 (VMp (Value.int .i64) false (VI .i64)) fh [] ([]:List (List (Int×Int))):=A7.nil; G5 6 z<|T.fl ?_
  refine G5 6 z<|T.fl ?_
  refine G5 6 z<|T.fl ?_
  refine G5 6 z<|T.fl ?_
  refine G5 6 z<|T.fl ?_
  refine G5 6 z<|T.fl ?_
  refine T.M8 (α:=Nat×(List (List (Int×Int)))×Int×Value×(List (List Value))) [1,7,131] z (fun ⟨bM,a6,bN,C,r⟩=>[(132,qi bN)]) (fun ⟨bM,a6,bN,C,r⟩=>blk aa (.cells [K,M,N,P,S,U,m,f,d,c,b,C,qs,qs].toArray 149)::D5 3 1 m W::D5 3 1 f G::D5 4 1 d A::D5 27 1 c q::D5 27 1 b p::D5 154 1 C r::L) (fun ⟨bM,a6,bN,C,r⟩ hh=>iter (A9h ew eB bg bi bj bk bm) bM (a6,bN) = some dJ∧A7 (VMp (Value.int .i64) false (VI .i64)) hh r a6) (fun ⟨bM,a6,bN,C,r⟩=>bM) (FUEL,([]:List (List (Int×Int))),(0:Int),(qs),[]) ⟨z,trivial⟩ z ⟨H,gb⟩ ?_
  rintro ⟨bM,a6,bN,C,r⟩ kE kG ⟨gc,cg⟩
  obtain ⟨gd,kI,rfl,H,dK⟩:=I1 gc
  refine T.norm [132,1,7,131] z<|T.fl ?_
  refine Sr<|Vv (V.lt z z)<|Nt<|Sq<|T.cH H z (fun H=>?_) fun H=>?_
  ·refine Ks<|Sq<|Bl<|Sr<|Mv z<|Ag z<|Nt<|G5 6 z<|T.fl ?_
   refine G5 1 z<|T.fl ?_
   refine G5 6 z<|T.fl ?_
   refine G5 6 z<|T.fl ?_
   refine G5 6 z<|T.fl ?_
   refine G5 6 z<|T.fl ?_
   refine G5 6 z<|T.fl ?_
   refine T.O1 (t:=(.vs [0,1,2,3] (.x 4 (.v 5 (.v 6 (.alt 7 (.g (.alt 8 (.alt 9 (.g (.v 10 (.v 11 (.alt 12 .done .no)))) .no) .no)) .no)))))) 9 7 5 z z I4 (by kernel_rfl) ?_
   refine Tm z z<|Tm z z<|Tv z (V.S9 z)<|Tv z (V.fa B1e z)<|T.tx z z (Val.XA fun _ _ _=>V.ldO (k:=11) B5y z (j:=5) z z) z Calm.i<|Tm z z<|Tm z z<|G5 6 z<|T.fl ?_
   refine G5 5 z<|T.fl ?_
   refine G5 5 z<|T.fl ?_
   refine G5 5 z<|T.fl ?_
   refine G5 5 z<|T.fl ?_
   refine G5 5 z<|T.fl ?_
   refine G5 6 z<|T.fl ?_
   refine bE H fun aN ge H=>Tp z z (SX.two (XA.fr [5,5,5,5,5] Lr z) (XA.fr [6,1,6,6,6,6,6] Lr z)) (O.D8 z (G8.A3u (R:=fun v h' L'=>∃ L1_,L' = D5 3 1 m W::L1_∧(∃ L2_,L1_ = D5 3 1 f G::L2_∧(∃ L3_,L2_ = D5 4 1 d A::L3_∧(∃ L4_,L3_ = D5 27 1 c q::L4_∧(∃ L5_,L4_ = D5 27 1 b p::L5_∧(∃ L6_,L5_ = D5 154 1 C r::L6_∧(∃ (n:Nat) (a:List MapEntry),v = .map (some n)∧L6_ = blk n (.map a.toArray a.length)::L∧A0v (Value.int .i64) false (VI .i64) h' 0 a aN))))))) func91 z (fun _ _ _ _ ⟨a5_,b5_,⟨a4_,b4_,⟨a3_,b3_,⟨a2_,b2_,⟨a1_,b1_,⟨a0_,b0_,⟨e_0,e_1,v_,l_,f_0⟩⟩⟩⟩⟩⟩⟩=>⟨a5_,b5_,⟨a4_,b4_,⟨a3_,b3_,⟨a2_,b2_,⟨a1_,b1_,⟨a0_,b0_,⟨e_0,e_1,v_,l_,(A0v.free VI.free f_0)⟩⟩⟩⟩⟩⟩⟩) B2G fun kJ kK gf=>G8.A3u (R:=fun v h' L'=>∃ L1_,L' = D5 3 1 f G::L1_∧(∃ L2_,L1_ = D5 4 1 d A::L2_∧(∃ L3_,L2_ = D5 27 1 c q::L3_∧(∃ L4_,L3_ = D5 27 1 b p::L4_∧(∃ L5_,L4_ = D5 154 1 C r::L5_∧(∃ (n:Nat) (a:List MapEntry),v = .map (some n)∧L5_ = blk n (.map a.toArray a.length)::L∧A0v (Value.int .i64) false (VI .i64) h' 0 a aN)))))) func91 z (fun _ _ _ _ ⟨a4_,b4_,⟨a3_,b3_,⟨a2_,b2_,⟨a1_,b1_,⟨a0_,b0_,⟨e_0,e_1,v_,l_,f_0⟩⟩⟩⟩⟩⟩=>⟨a4_,b4_,⟨a3_,b3_,⟨a2_,b2_,⟨a1_,b1_,⟨a0_,b0_,⟨e_0,e_1,v_,l_,(A0v.free VI.free f_0)⟩⟩⟩⟩⟩⟩) V8 fun kM kN gg=>G8.A3u (R:=fun v h' L'=>∃ L1_,L' = D5 4 1 d A::L1_∧(∃ L2_,L1_ = D5 27 1 c q::L2_∧(∃ L3_,L2_ = D5 27 1 b p::L3_∧(∃ L4_,L3_ = D5 154 1 C r::L4_∧(∃ (n:Nat) (a:List MapEntry),v = .map (some n)∧L4_ = blk n (.map a.toArray a.length)::L∧A0v (Value.int .i64) false (VI .i64) h' 0 a aN))))) func91 z (fun _ _ _ _ ⟨a3_,b3_,⟨a2_,b2_,⟨a1_,b1_,⟨a0_,b0_,⟨e_0,e_1,v_,l_,f_0⟩⟩⟩⟩⟩=>⟨a3_,b3_,⟨a2_,b2_,⟨a1_,b1_,⟨a0_,b0_,⟨e_0,e_1,v_,l_,(A0v.free VI.free f_0)⟩⟩⟩⟩⟩) V8 fun kO kP gi=>G8.A3u (R:=fun v h' L'=>∃ L1_,L' = D5 27 1 c q::L1_∧(∃ L2_,L1_ = D5 27 1 b p::L2_∧(∃ L3_,L2_ = D5 154 1 C r::L3_∧(∃ (n:Nat) (a:List MapEntry),v = .map (some n)∧L3_ = blk n (.map a.toArray a.length)::L∧A0v (Value.int .i64) false (VI .i64) h' 0 a aN)))) func91 z (fun _ _ _ _ ⟨a2_,b2_,⟨a1_,b1_,⟨a0_,b0_,⟨e_0,e_1,v_,l_,f_0⟩⟩⟩⟩=>⟨a2_,b2_,⟨a1_,b1_,⟨a0_,b0_,⟨e_0,e_1,v_,l_,(A0v.free VI.free f_0)⟩⟩⟩⟩) V8 fun kS kU gj=>G8.A3u (R:=fun v h' L'=>∃ L1_,L' = D5 27 1 b p::L1_∧(∃ L2_,L1_ = D5 154 1 C r::L2_∧(∃ (n:Nat) (a:List MapEntry),v = .map (some n)∧L2_ = blk n (.map a.toArray a.length)::L∧A0v (Value.int .i64) false (VI .i64) h' 0 a aN))) func91 z (fun _ _ _ _ ⟨a1_,b1_,⟨a0_,b0_,⟨e_0,e_1,v_,l_,f_0⟩⟩⟩=>⟨a1_,b1_,⟨a0_,b0_,⟨e_0,e_1,v_,l_,(A0v.free VI.free f_0)⟩⟩⟩) V8 fun kV kW gk=>G8.A3u (R:=fun v h' L'=>∃ L1_,L' = D5 154 1 C r::L1_∧(∃ (n:Nat) (a:List MapEntry),v = .map (some n)∧L1_ = blk n (.map a.toArray a.length)::L∧A0v (Value.int .i64) false (VI .i64) h' 0 a aN)) func91 z (fun _ _ _ _ ⟨a0_,b0_,⟨e_0,e_1,v_,l_,f_0⟩⟩=>⟨a0_,b0_,⟨e_0,e_1,v_,l_,(A0v.free VI.free f_0)⟩⟩) V8 fun kX kY gm=>G8.A3u (R:=fun v h' L'=>∃ (n:Nat) (a:List MapEntry),v = .map (some n)∧L' = blk n (.map a.toArray a.length)::L∧A0v (Value.int .i64) false (VI .i64) h' 0 a aN) func91 z (fun _ _ _ _ ⟨e_0,e_1,v_,l_,f_0⟩=>⟨e_0,e_1,v_,l_,(A0v.free VI.free f_0)⟩) V8 fun kZ k0 gn=>?_) z fun k1 k2 k3 k4 go=>?_) T.O9
   ·have gp:=A7.Z4 gg cE.u
    have gq:=A7.Z4 gi dD.u
    have gr:=A7.Z4 gj dE.u
    have gs:=A7.Z4 gk dG.u
    have gu:=A7.Z4 gm dI.u
    have gw:=A7.Z4 gn cg.u
    exact C2i (Pt.mk gf.u ⟨K,M,N,P,S,U,m,f,d,c,b,C,(qs),(qs),z,c2.u,c3.u,c4.u,c5.u,c6.u,cm.u,gp.u,gq.u,gr.u,gs.u,gu.u,gw,G6.nil,G6.nil⟩) ge _
   obtain ⟨_,rfl,⟨_,rfl,⟨_,rfl,⟨_,rfl,⟨_,rfl,⟨_,rfl,⟨_,rfl,⟨ci,k5,rfl,rfl,gx⟩⟩⟩⟩⟩⟩⟩⟩:=go
   refine T.fl ?_
   refine T.O3 Li<|G5 7 z<|T.fl ?_
   refine T.C5K VI.mono gx fun dM k6 dN=>Tp z z (SX.two (XA.fr [5,5,5,5,5] Li z) (XA.fr [6,1,6,6,6,6,6] Li z)) (O.bs B1A B8E z (e:=z) (hk:=z) (xs:=[.tmp 142]) (hv:=CO.eq (CO.cons (Mp.cells dN) CO.nil)) (hw:=O4.of z) (hd:=z) fun k7=>?_) T.O9
   have cG:A7 (VMp (Value.int .i64) false (VI .i64)) dM [[(.map (some ci))]] ([aN]:List (List (Int×Int))):=(A7.cons ⟨(.map (some ci)),z,dN⟩ A7.nil)
   refine bE H fun dO dP H=>Tp z z (SX.two (XA.fr [6,6,6,6,6] Li z) (XA.fr [7,2,7,7,7,7,7] Li z)) (O.apX B1A B1A B8E z z z (j:=7) z (Src.row (j:=0) z) (O4.of z) (A7.ones VMp.plain cG) cg.u cG dP z fun dS k8 k9=>?_) T.O9
   have gy:A7 (VMp (Value.int .i64) false (VI .i64)) dM (r ++ [[(.map (some ci))]]) dO:=A7.ap cg.u cG dP
   refine T.fl ?_
   refine G5 1 z<|T.fl ?_
   refine T.drop<|T.O3 Li<|Tv z (V.S9 z)<|Tv z (V.fa B1e z)<|T.J7 0 z fun gA gB=>Tp z z (SX.one (XA.fr [6,6,6,6,6] Lr z) z) (O.st (vs:=[dS]) (k:=11) B5y z z (j:=1) z gB (by (simp only [Sl.ones,gA,Bool.and_true,Bool.true_and]) <;> rfl) ?_) T.O9
   refine T.fl ?_
   refine T.R7 (SX.one (XA.fr [6,6,6,6,6] Lr z) z)<|Bn<|Th<|Rg<|bE H fun gC gD H=>Vv (V.J2 z z gD)<|Mv z<|Nt<|G5 1 z<|T.fl ?_
   refine G5 6 z<|T.fl ?_
   refine G5 6 z<|T.fl ?_
   refine G5 6 z<|T.fl ?_
   refine G5 6 z<|T.fl ?_
   refine G5 6 z<|T.fl ?_
   refine G5 6 z<|T.fl ?_
   exact T.ag (gd,dO,gC,dS,(r ++ [[(.map (some ci))]])) ⟨(F4 H dK),gy⟩
  refine T.exit<|Te<|Te<|have H:=D9 H dK; Be<|Th<|T.mt (a6,C,r) ⟨H,cg⟩
 rintro ⟨b3,B,am⟩ kh kl ⟨gE,gG⟩
 have H:=J8 gE ga
 refine T.norm [1,7] z<|T.fl ?_
 refine Sr<|Vv (V.fa K3 z)<|Vv (V.I9 (k:=1) I7 z D.u z)<|Vv (V.fa Y5 z)<|Vv (V.I9 (k:=2) Q4 z D.u z)<|Vv (V.bld (xs:=[(0,.tmp 150),(1,.tmp 152)]) (cs:=[_,_]) C0i B9I z (F3.cons z (G6.cells J) z (F3.cons z (G6.cells bf) z F3.nil)))<|bE H fun ⟨gI,kv,kz⟩ gJ H=>To (O.D8 z (B5a ⟨bZ,b0,z,J.u,bf.u⟩ gJ _) z fun ma dU mb mc gK=>?_)
 obtain ⟨gM,rfl,gN,gO⟩:=gK
 refine J9 _ gN<|Mv z<|Vv (V.ext z z)<|Vv (V.ext z z)<|Vv (V.ext z z)<|Ag z<|Ag z<|Ag z<|Nt<|Sq<|Sr<|Vv (V.fa K3 z)<|Vv (V.I9 (k:=1) I7 z D.u z)<|Vv (V.P9 K8 z J)<|Mv z<|Nt ?_
 obtain ⟨dV,gP,gS⟩:=M5 H
 refine T.M7 (α:=(List (List Bool))×(List (List Int))×Value×(List (List Value))×Value×(List (List Value))) [7] z (fun ⟨b4,b5,bO,b6,bP,b7⟩=>[]) (fun ⟨b4,b5,bO,b6,bP,b7⟩=>blk aa (.cells [K,M,N,P,S,U,m,f,d,c,b,B,bO,bP].toArray 149)::D5 3 1 m W::D5 3 1 f G::D5 4 1 d A::D5 27 1 c q::D5 27 1 b p::D5 154 1 B am::D5 65 1 bO b6::D5 159 1 bP b7::L) (fun ⟨b4,b5,bO,b6,bP,b7⟩ hh=>dV = (b4,b5)∧A7 (VSl VB 1) hh b6 b4∧A7 (VSl (VI .u8) 1) hh b7 b5) ?_ ?_
 ·have H:=gP
  refine Bl<|T.U9 65 1<|have gU:A7 (VSl VB 1) dU [] ([]:List (List Bool)):=A7.nil; T.U9 159 1<|have gV:A7 (VSl (VI .u8) 1) dU [] ([]:List (List Int)):=A7.nil; G5 1 z<|T.fl ?_
  refine G5 8 z<|T.fl ?_
  refine G5 8 z<|T.fl ?_
  refine G5 8 z<|T.fl ?_
  refine G5 8 z<|T.fl ?_
  refine G5 8 z<|T.fl ?_
  refine G5 8 z<|T.fl ?_
  refine G5 8 z<|T.fl ?_
  refine T.M8 (α:=Nat×(List (List Bool))×(List (List Int))×(Option K4)×Int×Value×(List (List Value))×Value×(List (List Value))×Value) [1,7,159,160] z (fun ⟨bS,a7,a8,a9,bU,X,s,Y,w,ah⟩=>[(13,ah),(161,qi bU)]) (fun ⟨bS,a7,a8,a9,bU,X,s,Y,w,ah⟩=>blk aa (.cells [K,M,N,P,S,U,m,f,d,c,b,B,X,Y].toArray 149)::D5 3 1 m W::D5 3 1 f G::D5 4 1 d A::D5 27 1 c q::D5 27 1 b p::D5 154 1 B am::D5 65 1 X s::D5 159 1 Y w::L) (fun ⟨bS,a7,a8,a9,bU,X,s,Y,w,ah⟩ hh=>iter (A9m p1) bS (a7,a8,a9,bU) = some dV∧A7 (VSl VB 1) hh s a7∧A7 (VSl (VI .u8) 1) hh w a8∧OPt A1c hh ah a9) (fun ⟨bS,a7,a8,a9,bU,X,s,Y,w,ah⟩=>bS) (FUEL,([]:List (List Bool)),([]:List (List Int)),gI,(0:Int),(qs),[],(qs),[],gM) ⟨z,z,trivial⟩ z ⟨H,gU,gV,gO⟩ ?_
  rintro ⟨bS,a7,a8,a9,bU,X,s,Y,w,ah⟩ md me ⟨gW,al,av,gX⟩
  obtain ⟨cI,mf,rfl,H,cj⟩:=I1 gW
  refine T.norm [13,161,1,7,159,160] z<|T.fl ?_
  refine Sr<|Vv (V.lt z z)<|Nt<|Sq<|T.cH H z (fun H=>?_) fun H=>?_
  ·refine Ks<|Sq<|Bl<|Sr<|bE H fun an dW H=>?_
   obtain ⟨mg,gY,⟨gZ,rfl,g0⟩⟩:=G6.at J dW
   refine Vv (V.ix K8 z z J (G7 dW))<|Vv (V.ldS z gY.u (by exact Z7)) ?_
   refine To (O.alloc A1B z z fun mi=>To (O.stF (vs:=[.string an.F8,.string an.A0k,.string an.V9,qi an.V3,qi an.A0f,.string an.Z0,.bool an.A0u,.bool an.U2,gZ]) Z7 z z (j:=0) z z (by (simp only [Sl.ones,G6.one g0,Bool.and_true,Bool.true_and]) <;> rfl) z ?_))
   refine T.fl ?_
   refine T.freeze fun dX mj g1=>have dY:=AtC.of g1; Nt<|Sr<|Ag z<|Nt<|Sr<|Ag z<|Nt<|Sq<|Sr<|Vv (V.fa K3 z)<|Vv (V.I9 (k:=1) I7 z D.u z)<|Vv (V.P9 K8 z J)<|Mv z<|Nt ?_
   obtain ⟨dZ,g2,g3⟩:=M5 H
   refine T.M7 (α:=(Option K4)×(List Bool)×(List Int)×Value×Value×(List (List Value))×Value×(List (List Value))) [1,7,159,160,161] z (fun ⟨aO,az,aP,aS,y,b8,o,b9⟩=>[(13,aS),(18,y),(19,o)]) (fun ⟨aO,az,aP,aS,y,b8,o,b9⟩=>blk aa (.cells [K,M,N,P,S,U,m,f,d,c,b,B,X,Y].toArray 149)::D5 3 1 m W::D5 3 1 f G::D5 4 1 d A::D5 27 1 c q::D5 27 1 b p::D5 154 1 B am::D5 65 1 X s::D5 159 1 Y w::D5 4 1 y b8::D5 104 1 o b9::L) (fun ⟨aO,az,aP,aS,y,b8,o,b9⟩ hh=>dZ = (aO,az,aP)∧OPt A1c hh aS aO∧A7 VB hh b8 az∧A7 (VI .u8) hh b9 aP) ?_ ?_
   ·have H:=g2
    refine Bl<|T.U9 4 1<|have g4:A7 VB dX [] ([]:List Bool):=A7.nil; T.U9 104 1<|have g5:A7 (VI .u8) dX [] ([]:List Int):=A7.nil; G5 1 z<|T.fl ?_
    refine G5 10 z<|T.fl ?_
    refine G5 10 z<|T.fl ?_
    refine G5 10 z<|T.fl ?_
    refine G5 10 z<|T.fl ?_
    refine G5 10 z<|T.fl ?_
    refine G5 10 z<|T.fl ?_
    refine G5 10 z<|T.fl ?_
    refine G5 10 z<|T.fl ?_
    refine G5 10 z<|T.fl ?_
    refine T.M8 (α:=Nat×(Option K4)×Int×(List Bool)×(List Int)×Value×Value×(List (List Value))×Value×(List (List Value))) [1,7,17,159,160,161,166,167] z (fun ⟨bV,ba,bW,bb,bc,aU,bd,ao,be,aq⟩=>[(13,aU),(168,qi bW),(18,bd),(19,be)]) (fun ⟨bV,ba,bW,bb,bc,aU,bd,ao,be,aq⟩=>blk aa (.cells [K,M,N,P,S,U,m,f,d,c,b,B,X,Y].toArray 149)::D5 3 1 m W::D5 3 1 f G::D5 4 1 d A::D5 27 1 c q::D5 27 1 b p::D5 154 1 B am::D5 65 1 X s::D5 159 1 Y w::D5 4 1 bd ao::D5 104 1 be aq::L) (fun ⟨bV,ba,bW,bb,bc,aU,bd,ao,be,aq⟩ hh=>iter (A9r p1 an) bV (ba,bW,bb,bc) = some dZ∧OPt A1c hh aU ba∧A7 VB hh ao bb∧A7 (VI .u8) hh aq bc) (fun ⟨bV,ba,bW,bb,bc,aU,bd,ao,be,aq⟩=>bV) (FUEL,a9,(0:Int),([]:List Bool),([]:List Int),ah,(qs),[],(qs),[]) ⟨z,z,z,z,trivial⟩ z ⟨H,gX.u,g4,g5⟩ ?_
    rintro ⟨bV,ba,bW,bb,bc,aU,bd,ao,be,aq⟩ mm mn ⟨g6,d0,cJ,cK⟩
    obtain ⟨g7,mo,rfl,H,d1⟩:=I1 g6
    refine T.norm [13,168,18,19,1,7,17,159,160,161,166,167] z<|T.fl ?_
    refine Sr<|Vv (V.lt z z)<|Nt<|Sq<|T.cH H z (fun H=>?_) fun H=>?_
    ·refine Ks<|Sq<|Bl<|Sr<|bE H fun aV d2 H=>?_
     obtain ⟨mp,g8,⟨g9,rfl,gh⟩⟩:=G6.at J d2
     refine Vv (V.ix K8 z z J (G7 d2))<|Vv (V.ldS z g8.u (by exact Z7)) ?_
     refine To (O.alloc A1B z z fun mq=>To (O.stF (vs:=[.string aV.F8,.string aV.A0k,.string aV.V9,qi aV.V3,qi aV.A0f,.string aV.Z0,.bool aV.A0u,.bool aV.U2,g9]) Z7 z z (j:=0) z z (by (simp only [Sl.ones,G6.one gh,Bool.and_true,Bool.true_and]) <;> rfl) z ?_))
     refine T.fl ?_
     refine T.freeze fun mr ms gl=>have d3:=AtC.of gl; Nt<|Sr<|Mv z<|Mv z<|Vv (V.fa X4 z)<|Vv (V.I9 (k:=0) H9 z dY.u z)<|Vv (V.fa X4 z)<|Vv (V.I9 (k:=0) H9 z d3 z)<|bE H fun gv gz H=>have cM:=OPt.get d0 gz; bE H fun d4 ia H=>To (O.D8 z (C0O cM.u ia _) z fun mu ib mw mx ic=>?_)
     obtain ⟨my,id,ie⟩:=ic
     refine J9 _ id<|Vv (V.A2a A0a z (j:=0) z ie.len)<|Vv (V.gt z z)<|To (O.b1 (E:=VB) A0F A6l z z z z z fun mA cN=>bE H fun d5 d6 H=>To (O.apX A0F A0F A6l z z z (j:=11) z (Src.row (j:=0) z) (O4.of z) (A7.ones VB.plain cN) cJ.u cN d6 z fun ig mB mC=>have ii:A7 VB ib (ao ++ [[.bool (decide ((0:Int) < (d4.length:Int)))]]) d5:=A7.ap cJ.u cN d6; T.fl ?_))
     refine G5 1 z<|T.fl ?_
     refine T.drop<|Ag z<|Nt<|Sr<|Mv z<|Vv (V.fa X4 z)<|Vv (V.I9 (k:=0) H9 z dY.u z)<|Vv (V.fa X4 z)<|Vv (V.I9 (k:=0) H9 z d3.u z)<|bE H fun ⟨d7,mD⟩ ij H=>To (O.D8 z (C3n cM.u ij _) z fun mE ik mG mI im=>?_)
     obtain ⟨rfl,io⟩:=im
     refine J9 _ io<|Mv z<|Vv (V.ext z z)<|Vv (V.ext z z)<|Ag z<|Ag z<|Nt<|Rg<|Mv z<|Mv z<|To (O.b1 (E:=VI .u8) B2p B8C z z z z z fun mJ cO=>bE H fun d8 d9 H=>To (O.apX B2p B2p B8C z z z (j:=12) z (Src.row (j:=0) z) (O4.of z) (A7.ones VI.plain cO) cK.u cO d9 z fun ip mK mM=>have iq:A7 (VI .u8) ik (aq ++ [[.int .u8 d7]]) d8:=A7.ap cK.u cO d9; T.fl ?_))
     refine G5 1 z<|T.fl ?_
     refine T.drop<|Ag z<|Ni<|Bn<|Th<|T.norm [1,7,13,17,18,19,159,160,161,166,167,168] z<|T.fl ?_
     refine Rg<|bE H fun ir it H=>Vv (V.J2 z z it)<|Mv z<|Nt<|G5 2 z<|T.fl ?_
     refine T.drop<|G5 1 z<|T.fl ?_
     refine G5 10 z<|T.fl ?_
     refine G5 10 z<|T.fl ?_
     refine G5 10 z<|T.fl ?_
     refine G5 10 z<|T.fl ?_
     refine G5 10 z<|T.fl ?_
     refine G5 10 z<|T.fl ?_
     refine G5 10 z<|T.fl ?_
     refine G5 10 z<|T.fl ?_
     refine G5 10 z<|T.fl ?_
     exact T.ag (g7,(some gv),ir,d5,d8,aU,ig,(ao ++ [[.bool (decide ((0:Int) < (d4.length:Int)))]]),ip,(aq ++ [[.int .u8 d7]])) ⟨(F4 H d1),(OPt.some cM.u),ii.u,iq⟩
    refine T.exit<|Te<|Te<|have H:=D9 H d1; Be<|Th<|T.mt (ba,bb,bc,aU,bd,ao,be,aq) ⟨H,d0,cJ,cK⟩
   rintro ⟨aO,az,aP,aS,y,b8,o,b9⟩ mN mO ⟨iu,cP,iw,iy⟩
   have H:=J8 iu g3
   refine T.norm [13,18,19,1,7,159,160,161] z<|T.fl ?_
   refine G5 9 z<|T.fl ?_
   refine T.J5 fun mP mS iA=>have ck:=A7.Z4 iA iw.u; G5 9 z<|T.fl ?_
   refine T.J5 fun Z mU iB=>have bX:=A7.Z4 iB iy.u; T.O1 (t:=(.vs [0,1,2,3,4] (.x 5 (.vs [6,9,10,11] (.x 12 (.v 13 (.alt 7 (.alt 8 (.g (.alt 14 (.alt 15 (.g (.v 16 (.v 17 (.alt 18 (.g (.v 19 (.v 20 (.alt 21 .done .no)))) .no)))) .no) .no)) (.alt 14 (.alt 8 (.g (.alt 15 (.g (.v 16 (.v 17 (.alt 18 (.g (.v 19 (.v 20 (.alt 21 .done .no)))) .no)))) .no)) .no) .no)) (.alt 14 (.alt 7 (.alt 8 (.g (.alt 15 (.g (.v 16 (.v 17 (.alt 18 (.g (.v 19 (.v 20 (.alt 21 .done .no)))) .no)))) .no)) .no) .no) .no)))))))) 18 1 0 z z I4 (by kernel_rfl) ?_
   refine Tm z z<|Tm z z<|Tm z z<|Tv z (V.S9 z)<|Tv z (V.fa A6S z)<|T.tx z z (Val.XA fun _ _ _=>V.ldO (k:=12) A9C z (j:=0) z z) z Calm.i<|Tm z z<|Tm z z<|Tv z (V.S9 z)<|Tv z (V.fa A6W z)<|T.tx z z (Val.XA fun _ _ _=>V.ldO (k:=13) A9z z (j:=0) z z) z Calm.i<|Tm z z<|T.C4A ?_ ?_
   ·refine Tp z z (SX.two (XA.fr [] Lr z) (XA.fr [0] Lr z)) (O.bs A3e A8u z (e:=z) (hk:=z) (xs:=[.tmp 203]) (hv:=CO.eq (CO.cons (G6.cells ck) CO.nil)) (hw:=O4.of z) (hd:=z) fun mV=>?_) T.O9
    have bY:A7 (VSl VB 1) Z [[y]] ([az]:List (List Bool)):=(A7.cons ⟨y,z,ck.u⟩ A7.nil)
    refine T.C4A ?_ ?_
    ·refine bE H fun dh dl H=>Tp z z (SX.two (XA.fr [] Lr z) (XA.fr [1] Lr z)) (O.apX A3e A3e A8u z z z (j:=8) z (Src.row (j:=0) z) (O4.of z) (A7.ones VSl.plain bY) al.u bY dl z fun dv mW mX=>?_) T.O9
     have iC:A7 (VSl VB 1) Z (s ++ [[y]]) dh:=A7.ap al.u bY dl
     refine T.fl ?_
     refine G5 1 z<|T.fl ?_
     refine T.drop<|T.O3 Lr<|Tp z z (SX.two (XA.fr [] Lr z) (XA.fr [1] Lr z)) (O.bs A2o A5t z (e:=z) (hk:=z) (xs:=[.tmp 210]) (hv:=CO.eq (CO.cons (G6.cells bX) CO.nil)) (hw:=O4.of z) (hd:=z) fun mY=>?_) T.O9
     have cS:A7 (VSl (VI .u8) 1) Z [[o]] ([aP]:List (List Int)):=(A7.cons ⟨o,z,bX⟩ A7.nil)
     refine bE H fun dz ea H=>Tp z z (SX.two (XA.fr [] Lr z) (XA.fr [2] Lr z)) (O.apX A2o A2o A5t z z z (j:=9) z (Src.row (j:=0) z) (O4.of z) (A7.ones VSl.plain cS) av.u cS ea z fun eb mZ m0=>?_) T.O9
     have iD:A7 (VSl (VI .u8) 1) Z (w ++ [[o]]) dz:=A7.ap av.u cS ea
     refine T.fl ?_
     refine G5 1 z<|T.fl ?_
     refine T.drop<|T.O3 Lr<|Tv z (V.S9 z)<|Tv z (V.fa A6S z)<|T.J7 1 z fun iE iG=>Tp z z (SX.two (XA.fr [] Lr z) (XA.fr [2] Lr z)) (O.st (vs:=[dv]) (k:=12) A9C z z (j:=2) z iG (by (simp only [Sl.ones,iE,Bool.and_true,Bool.true_and]) <;> rfl) ?_) T.O9
     refine T.fl ?_
     refine T.O3 Lr<|Tv z (V.S9 z)<|Tv z (V.fa A6W z)<|T.J7 1 z fun iI iJ=>Tp z z (SX.one (XA.fr [] Lr z) z) (O.st (vs:=[eb]) (k:=13) A9z z z (j:=0) z iJ (by (simp only [Sl.ones,iI,Bool.and_true,Bool.true_and]) <;> rfl) ?_) T.O9
     refine T.fl ?_
     refine T.R7 (SX.one (XA.fr [] Lr z) z)<|Bn<|Th<|Rg<|bE H fun iK iM H=>Vv (V.J2 z z iM)<|Mv z<|Nt<|G5 1 z<|T.fl ?_
     refine G5 2 z<|T.fl ?_
     refine G5 8 z<|T.fl ?_
     refine G5 8 z<|T.fl ?_
     refine G5 8 z<|T.fl ?_
     refine G5 8 z<|T.fl ?_
     refine G5 8 z<|T.fl ?_
     refine G5 8 z<|T.fl ?_
     refine G5 8 z<|T.fl ?_
     exact T.ag (cI,dh,dz,aO,iK,dv,(s ++ [[y]]),eb,(w ++ [[o]]),aS) ⟨(F4 H cj),iC,iD,cP.u⟩
    refine Tp z z (SX.two (XA.fr [] Lr z) (XA.fr [1] Lr z)) (O.bs A2o A5t z (e:=z) (hk:=z) (xs:=[.tmp 210]) (hv:=CO.eq (CO.cons (G6.cells bX) CO.nil)) (hw:=O4.of z) (hd:=z) fun m1=>?_) T.O9
    have cU:A7 (VSl (VI .u8) 1) Z [[o]] ([aP]:List (List Int)):=(A7.cons ⟨o,z,bX⟩ A7.nil)
    refine bE H fun ec ed H=>Tp z z (SX.two (XA.fr [] Lr z) (XA.fr [2] Lr z)) (O.apX A3e A3e A8u z z z (j:=9) z (Src.row (j:=1) z) (O4.of z) (A7.ones VSl.plain bY) al.u bY ed z fun ee m2 m3=>?_) T.O9
    have iN:A7 (VSl VB 1) Z (s ++ [[y]]) ec:=A7.ap al.u bY ed
    refine T.fl ?_
    refine G5 2 z<|T.fl ?_
    refine T.drop<|T.O3 Lr<|bE H fun ef eg H=>Tp z z (SX.two (XA.fr [] Lr z) (XA.fr [2] Lr z)) (O.apX A2o A2o A5t z z z (j:=9) z (Src.row (j:=1) z) (O4.of z) (A7.ones VSl.plain cU) av.u cU eg z fun ei m4 m5=>?_) T.O9
    have iO:A7 (VSl (VI .u8) 1) Z (w ++ [[o]]) ef:=A7.ap av.u cU eg
    refine T.fl ?_
    refine G5 2 z<|T.fl ?_
    refine T.drop<|T.O3 Lr<|Tv z (V.S9 z)<|Tv z (V.fa A6S z)<|T.J7 1 z fun iP iS=>Tp z z (SX.two (XA.fr [] Lr z) (XA.fr [2] Lr z)) (O.st (vs:=[ee]) (k:=12) A9C z z (j:=2) z iS (by (simp only [Sl.ones,iP,Bool.and_true,Bool.true_and]) <;> rfl) ?_) T.O9
    refine T.fl ?_
    refine T.O3 Lr<|Tv z (V.S9 z)<|Tv z (V.fa A6W z)<|T.J7 1 z fun iU iV=>Tp z z (SX.one (XA.fr [] Lr z) z) (O.st (vs:=[ei]) (k:=13) A9z z z (j:=0) z iV (by (simp only [Sl.ones,iU,Bool.and_true,Bool.true_and]) <;> rfl) ?_) T.O9
    refine T.fl ?_
    refine T.R7 (SX.one (XA.fr [] Lr z) z)<|Bn<|Th<|Rg<|bE H fun iW iX H=>Vv (V.J2 z z iX)<|Mv z<|Nt<|G5 1 z<|T.fl ?_
    refine G5 2 z<|T.fl ?_
    refine G5 8 z<|T.fl ?_
    refine G5 8 z<|T.fl ?_
    refine G5 8 z<|T.fl ?_
    refine G5 8 z<|T.fl ?_
    refine G5 8 z<|T.fl ?_
    refine G5 8 z<|T.fl ?_
    refine G5 8 z<|T.fl ?_
    exact T.ag (cI,ec,ef,aO,iW,ee,(s ++ [[y]]),ei,(w ++ [[o]]),aS) ⟨(F4 H cj),iN,iO,cP.u⟩
   refine Tp z z (SX.two (XA.fr [] Lr z) (XA.fr [0] Lr z)) (O.bs A2o A5t z (e:=z) (hk:=z) (xs:=[.tmp 210]) (hv:=CO.eq (CO.cons (G6.cells bX) CO.nil)) (hw:=O4.of z) (hd:=z) fun m6=>?_) T.O9
   have cV:A7 (VSl (VI .u8) 1) Z [[o]] ([aP]:List (List Int)):=(A7.cons ⟨o,z,bX⟩ A7.nil)
   refine Tp z z (SX.two (XA.fr [] Lr z) (XA.fr [1] Lr z)) (O.bs A3e A8u z (e:=z) (hk:=z) (xs:=[.tmp 203]) (hv:=CO.eq (CO.cons (G6.cells ck) CO.nil)) (hw:=O4.of z) (hd:=z) fun m7=>?_) T.O9
   have cW:A7 (VSl VB 1) Z [[y]] ([az]:List (List Bool)):=(A7.cons ⟨y,z,ck.u⟩ A7.nil)
   refine bE H fun ej ek H=>Tp z z (SX.two (XA.fr [] Lr z) (XA.fr [2] Lr z)) (O.apX A3e A3e A8u z z z (j:=9) z (Src.row (j:=0) z) (O4.of z) (A7.ones VSl.plain cW) al.u cW ek z fun em m8 m9=>?_) T.O9
   have iY:A7 (VSl VB 1) Z (s ++ [[y]]) ej:=A7.ap al.u cW ek
   refine T.fl ?_
   refine G5 1 z<|T.fl ?_
   refine T.drop<|T.O3 Lr<|bE H fun en eo H=>Tp z z (SX.two (XA.fr [] Lr z) (XA.fr [2] Lr z)) (O.apX A2o A2o A5t z z z (j:=9) z (Src.row (j:=1) z) (O4.of z) (A7.ones VSl.plain cV) av.u cV eo z fun ep mh ml=>?_) T.O9
   have iZ:A7 (VSl (VI .u8) 1) Z (w ++ [[o]]) en:=A7.ap av.u cV eo
   refine T.fl ?_
   refine G5 2 z<|T.fl ?_
   refine T.drop<|T.O3 Lr<|Tv z (V.S9 z)<|Tv z (V.fa A6S z)<|T.J7 1 z fun i0 i1=>Tp z z (SX.two (XA.fr [] Lr z) (XA.fr [2] Lr z)) (O.st (vs:=[em]) (k:=12) A9C z z (j:=2) z i1 (by (simp only [Sl.ones,i0,Bool.and_true,Bool.true_and]) <;> rfl) ?_) T.O9
   refine T.fl ?_
   refine T.O3 Lr<|Tv z (V.S9 z)<|Tv z (V.fa A6W z)<|T.J7 1 z fun i2 i3=>Tp z z (SX.one (XA.fr [] Lr z) z) (O.st (vs:=[ep]) (k:=13) A9z z z (j:=0) z i3 (by (simp only [Sl.ones,i2,Bool.and_true,Bool.true_and]) <;> rfl) ?_) T.O9
   refine T.fl ?_
   refine T.R7 (SX.one (XA.fr [] Lr z) z)<|Bn<|Th<|Rg<|bE H fun i4 i5 H=>Vv (V.J2 z z i5)<|Mv z<|Nt<|G5 1 z<|T.fl ?_
   refine G5 2 z<|T.fl ?_
   refine G5 8 z<|T.fl ?_
   refine G5 8 z<|T.fl ?_
   refine G5 8 z<|T.fl ?_
   refine G5 8 z<|T.fl ?_
   refine G5 8 z<|T.fl ?_
   refine G5 8 z<|T.fl ?_
   refine G5 8 z<|T.fl ?_
   exact T.ag (cI,ej,en,aO,i4,em,(s ++ [[y]]),ep,(w ++ [[o]]),aS) ⟨(F4 H cj),iY,iZ,cP.u⟩
  refine T.exit<|Te<|Te<|have H:=D9 H cj; Be<|Th<|T.mt (a7,a8,X,s,Y,w) ⟨H,al,av⟩
 rintro ⟨b4,b5,bO,b6,bP,b7⟩ mv mz ⟨i6,i7,i8⟩
 have H:=J8 i6 gS
 refine T.norm [7] z<|T.fl ?_
 refine Sr<|Mv z<|Ag z<|Ag z<|Ag z<|Nt<|T.ret<|G5 1 z<|T.fl ?_
 refine T.J5 fun na nb i9=>have ih:=A7.Z4 i9 cE.u; G5 1 z<|T.fl ?_
 refine T.J5 fun nc nd il=>have iv:=A7.Z4 il dD.u; G5 1 z<|T.fl ?_
 refine T.J5 fun nf ng iz=>have ja:=A7.Z4 iz dE.u; G5 1 z<|T.fl ?_
 refine T.J5 fun ni nj jb=>have jc:=A7.Z4 jb dG.u; G5 1 z<|T.fl ?_
 refine T.J5 fun nk nm jd=>have je:=A7.Z4 jd dI.u; G5 1 z<|T.fl ?_
 refine T.J5 fun nn np jf=>have jg:=A7.Z4 jf gG.u; G5 1 z<|T.fl ?_
 refine T.J5 fun nq nr ji=>have jj:=A7.Z4 ji i7.u; G5 1 z<|T.J5 fun ns nt jk=>have jm:=A7.Z4 jk i8.u; T.B5P fun nu nw jn=>?_
 cases H
 exact T.rl z (RVs.cons (RV.tmp z) (RVs.cons (RV.tmp z) (Rv z))) ⟨_,z,z,(OPt.some (Pt.mk jn ⟨K,M,N,P,S,U,m,f,d,c,b,B,bO,bP,z,c2.u,c3.u,c4.u,c5.u,c6.u,cm.u,ih.u,iv.u,ja.u,jc.u,je.u,jg.u,jj.u,jm.u⟩))⟩
theorem B0w {h b c a} (d:Pt P5 h b c) (H:A9K c = some a):∀ L,G8 prog 38 [b] h (L) (fun v h' L'=>∃ v0_1 v0_3 v0_5 v0_7 v0_9,v = .agg #[v0_1,v0_3,v0_5,v0_7,v0_9]∧L' = L∧G6 F7 7 h' v0_1 a.D7∧G6 F9 9 h' v0_3 a.A8∧G6 H7 3 h' v0_5 a.I8∧G6 (VI .i64) 1 h' v0_7 a.I6∧G6 H5 6 h' v0_9 a.J3):=by
 intro L
 refine G8.enter func38 z z z<|Sr<|To (O.alloc A0p z z fun U=>Nt<|Sq<|Sr<|Mv z<|bE H fun W n H=>To (O.D8 z (B0b d n _) z fun X Y Z aa o=>?_))
 obtain ⟨rfl,p⟩:=o
 refine J9 _ p<|Nt<|T.cH H z dead fun H=>Ks<|Sr<|Mv z<|have q:=d; ?_
 obtain ⟨ab,_,rfl,r,⟨s,t,w,x,y,ac,ad,ae,af,ag,ai,aj,ak,am,rfl,A,B,C,D,E,an,ao,ap,aq,ar,au,aw,ax,ay⟩⟩:=q
 refine Vv (V.S9 z)<|Vv (V.fa Y1 z)<|Vv (V.C2j (k:=0) A8N z r.u (Nat.le_of_ble_eq_true z))<|bE H fun aA G H=>To (O.D8 z (B3p ⟨s,t,w,x,y,z,A.u,B.u,C.u,D.u,E.u⟩ G _) z fun aB aC aD aE I=>?_)
 obtain ⟨J,K,M,N,P,rfl,S,e,f,g,i,m⟩:=I
 refine J9 _ S<|To (O.stF (vs:=[J,K,M,N,P]) G9 z z (j:=0) z z (by (simp only [Sl.ones,G6.one e,G6.one f,G6.one g,G6.one i,G6.one m,Bool.and_true,Bool.true_and]) <;> rfl) z ?_)
 refine Nt<|T.ret ?_
 cases H
 exact T.A4z (L':=L) results38 (RVs.cons (RV.cellS z (j:=0) z G9) RVs.nil) Li (fun _ iv=>iv.drop) ⟨_,_,_,_,_,z,z,e,f,g,i,m⟩
theorem A7g {h C t g w D} (G:Pt P5 h C t) (e:G6 (VI .i64) 1 h g w) (H:A8E t w = some D):∀ L,G8 prog 135 [C,g] h (L) (fun v h' L'=>L' = L∧Pt U4 h' v D):=by
 intro L
 refine G8.enter func135 z z z<|Sr<|Ag z<|Nt<|Sq<|Sr<|Mv z<|bE H fun bf U H=>To (O.D8 z (B0b G U _) z fun bg bi bj bk W=>?_)
 obtain ⟨rfl,X⟩:=W
 refine J9 _ X<|Mv z<|T.bH 10 H z dead fun H=>Mv z<|Vv (V.P9 C9 z e)<|Mv z<|have Y:=G; ?_
 obtain ⟨x,_,rfl,p,⟨Z,aa,ab,ac,ad,ae,af,ai,aj,ak,am,an,ao,ap,rfl,aq,I,ar,au,aw,ax,y,ay,aA,aB,aC,aD,aE,aG⟩⟩:=Y
 refine Vv (V.S9 z)<|Vv (V.fa Y1 z)<|Vv (V.fa B4W z)<|Vv (V.I9 (k:=1) I7 z p.u z)<|Vv (V.P9 K8 z I)<|Vv (V.ne z z)<|Vv (V.R9 z z)<|Nt<|T.cH H z dead fun H=>Ks<|Sr<|Mv z<|Mv z<|To (O.b1 (E:=VI .i64) C9 M9 z z z z z fun bm aI=>Mv z<|Vv (V.S9 z)<|Vv (V.fa A1j z)<|Vv (V.I9 (k:=6) E5 z p.u z)<|Vv (V.P9 C9 z y)<|T.J5 fun bn bo aJ=>have aK:=A7.Z4 aJ aI.u; bE H fun aM aN H=>To (O.D8 z (A6e aK aN _) z fun i bp bq br aO=>?_))
 obtain ⟨aP,aS,aU⟩:=aO
 refine J9 _ aS<|T.J7 0 z fun bs aV=>Vv (V.bld (xs:=[(0,.tmp 21),(1,.tmp 22),(2,.tmp 29)]) (cs:=[_,_,_]) C4P C4E z (F3.cons z z z (F3.cons z (G6.cells e) z (F3.cons z aV z F3.nil))))<|To (O.box z z z fun J=>Ag z<|Nt<|Sq<|Sr<|Mv z<|Vv (V.P9 C9 z e)<|Mv z<|Nt ?_)
 obtain ⟨K,aW,aX⟩:=M5 H
 refine T.M7 (α:=(List Int)×(List (List Value))) [5] z (fun ⟨m,n⟩=>[]) (fun ⟨m,n⟩=>blk J (.cells [.pointer (some x),g,i].toArray 212)::D5 3 1 i n::L) (fun ⟨m,n⟩ hh=>K = m∧A7 (VI .i64) hh n m) ?_ ?_
 ·have H:=aW
  refine Bl<|T.M8 (α:=Nat×(List Int)×Int×(List (List Value))) [0,5,32,33] z (fun ⟨f,d,a,b⟩=>[(34,qi a)]) (fun ⟨f,d,a,b⟩=>blk J (.cells [.pointer (some x),g,i].toArray 212)::D5 3 1 i b::L) (fun ⟨f,d,a,b⟩ hh=>iter (B5u t w) f (d,a) = some K∧A7 (VI .i64) hh b d) (fun ⟨f,d,a,b⟩=>f) (FUEL,aM,(0:Int),aP) ⟨z,trivial⟩ z ⟨H,aU⟩ ?_
  rintro ⟨f,d,a,b⟩ q bt ⟨aY,c⟩
  obtain ⟨r,bu,rfl,H,o⟩:=I1 aY
  refine T.norm [34,0,5,32,33] z<|T.fl ?_
  refine Sr<|Vv (V.lt z z)<|Nt<|Sq<|T.cH H z (fun H=>?_) fun H=>?_
  ·refine Ks<|Sq<|Bl<|Sr<|Mv z<|bE H fun s M H=>?_
   obtain ⟨bw,aZ,rfl⟩:=G6.at e M
   refine Vv (V.ix C9 z z e (G7 M))<|Vv (V.ld0 E8 z aZ.u z)<|Ag z<|Ag z<|Nt<|Sq<|Sr<|Mv z<|Vv (V.lt z z)<|Mv z<|T.bH 41 H z dead fun H=>Mv z<|Mv z<|Vv (V.S9 z)<|Vv (V.fa A1j z)<|Vv (V.I9 (k:=6) E5 z p.u z)<|Vv (V.P9 C9 z y)<|Vv (V.ge z z)<|Vv (V.R9 z z)<|Mv z<|T.bH 50 H z dead fun H=>Mv z<|Vv (V.ge z z)<|Mv z<|T.bH 53 H z (fun H=>?_) fun H=>?_
   ·refine Mv z<|Vv (V.S9 z)<|Vv (V.fa B0n z)<|Vv (V.ldO (k:=2) E5 z (j:=0) z z)<|Mv z<|bE H fun bx N H=>?_
    obtain ⟨bA,a0,rfl⟩:=A7.get c N
    refine Vv (V.ixR C9 z z (j:=1) z (A7.bd c N))<|Vv (V.ldR E8 z (j:=1) z a0 z)<|Vv (V.ge z z)<|Vv (V.R8 z z)<|Vv (V.R9 z z)<|Nt<|T.cH H z dead fun H=>Ks<|Sq<|T.norm [0,5,6,7,32,33,34] z<|T.fl ?_
    refine Rg<|Mv z<|Vv (V.ge z z)<|Nt<|T.cH H z (fun H=>?_) fun H=>?_
    ·refine Rg<|Mv z<|Vv (V.S9 z)<|Vv (V.fa B0n z)<|Vv (V.ldO (k:=2) E5 z (j:=0) z z)<|Mv z<|Mv z<|bE H fun bB A H=>?_
     obtain ⟨bC,bD,rfl⟩:=A7.get c A
     refine Vv (V.ixR C9 z z (j:=1) z (A7.bd c A))<|bE H fun P a1 H=>To (O.stR E8 z z (j:=1) z (A7.bdN c A) z<|have a2:A7 (VI .i64) q (b.set s.toNat [qi a]) P:=A7.set c (show (VI .i64) q [qi a] a from z) a1; Ni<|Bn<|Th<|Rg<|bE H fun a3 a4 H=>Vv (V.J2 z z a4)<|Mv z<|Nt<|G5 1 z<|T.ag (r,P,a3,(b.set s.toNat [qi a])) ⟨(F4 H o),a2⟩)
    refine T.skip<|Bn<|Th<|Rg<|bE H fun a5 a6 H=>Vv (V.J2 z z a6)<|Mv z<|Nt<|T.ag (r,d,a5,b) ⟨(F4 H o),c⟩
   refine Sk<|Sk<|Sk<|Sk<|Sk<|Sk<|Sk<|Sk<|Vv (V.R9 z z)<|Vv (V.R9 z z)<|Nt<|Cf z<|Ks<|Sr<|Mv z<|Vv (V.ge z z)<|Nt<|T.cH H z (fun H=>?_) fun H=>?_
   ·refine Rg<|Mv z<|Vv (V.S9 z)<|Vv (V.fa B0n z)<|Vv (V.ldO (k:=2) E5 z (j:=0) z z)<|Mv z<|Mv z<|bE H fun bG B H=>?_
    obtain ⟨bI,bJ,rfl⟩:=A7.get c B
    refine Vv (V.ixR C9 z z (j:=1) z (A7.bd c B))<|bE H fun S a7 H=>To (O.stR E8 z z (j:=1) z (A7.bdN c B) z<|have a8:A7 (VI .i64) q (b.set s.toNat [qi a]) S:=A7.set c (show (VI .i64) q [qi a] a from z) a7; Ni<|Bn<|Th<|T.norm [0,5,32,33,34] z<|T.fl ?_)
    refine Rg<|bE H fun a9 ah H=>Vv (V.J2 z z ah)<|Mv z<|Nt<|G5 1 z<|T.ag (r,S,a9,(b.set s.toNat [qi a])) ⟨(F4 H o),a8⟩
   refine T.skip<|Bn<|Th<|Rg<|bE H fun al av H=>Vv (V.J2 z z av)<|Mv z<|Nt<|T.ag (r,d,al,b) ⟨(F4 H o),c⟩
  refine T.exit<|Te<|Te<|have H:=D9 H o; Be<|Th<|T.mt (d,b) ⟨H,c⟩
 rintro ⟨m,n⟩ bK bM ⟨az,ba⟩
 have H:=J8 az aX
 refine T.norm [5] z<|T.fl ?_
 refine Sr<|Mv z<|Ag z<|Nt<|T.ret<|G5 1 z<|T.J5 fun bN bO bb=>have bc:=A7.Z4 bb ba.u; T.B5P fun bP bS be=>?_
 cases H
 exact T.rl z (Rv z) ⟨z,(Pt.mk be ⟨(.pointer (some x)),g,i,z,(Pt.mk p.u ⟨Z,aa,ab,ac,ad,ae,af,ai,aj,ak,am,an,ao,ap,z,aq.u,I.u,ar.u,au.u,aw.u,ax.u,y.u,ay.u,aA.u,aB.u,aC.u,aD.u,aE.u,aG.u⟩),e.u,bc.u⟩)⟩
theorem B3i {h a b c d e f} (m:Pt P5 h a b) (n:G6 (VI .i64) 1 h c d) (H:B3t b d e = some f):∀ L,G8 prog 132 [a,c,.int .i64 e] h (L) (fun v h' L'=>v = .int .i64 f∧L' = L):=by
 intro L
 refine G8.enter func132 z z z<|Sr<|Ag z<|Nt<|Sr<|Mv z<|Mv z<|bE H fun aq o H=>To (O.D8 z (A7g m n o _) z fun ar au aw ax p=>?_)
 obtain ⟨q,r⟩:=p
 refine J9 _ q<|Ag z<|Nt<|Sq<|Sr<|Mv z<|have s:=r; ?_
 obtain ⟨ay,_,rfl,g,⟨aA,t,u,rfl,w,x,y⟩⟩:=s
 refine Vv (V.C7H underlying209 z)<|Mv z<|Mv z<|Vv (V.lt z z)<|Vv (V.R9 z z)<|Mv z<|T.bH 17 H z dead fun H=>Mv z<|Mv z<|Vv (V.S9 z)<|Vv (V.fa R5 z)<|Vv (V.I9 (k:=0) R3 z g z)<|have A:=w; ?_
 obtain ⟨B,_,rfl,i,⟨C,D,E,G,I,J,K,M,N,P,S,U,W,X,rfl,Y,Z,aa,ab,j,ac,ad,ae,af,ag,ai,aj,ak,am⟩⟩:=A
 refine Vv (V.S9 z)<|Vv (V.fa Y1 z)<|Vv (V.fa A1m z)<|Vv (V.I9 (k:=4) O7 z i z)<|Vv (V.P9 Q5 z j)<|Vv (V.ge z z)<|Vv (V.R9 z z)<|Nt<|T.cH H z dead fun H=>Ks<|Sr<|Mv z<|Mv z<|bE H fun aB an H=>To (O.D8 z (A9Y (Pt.mk g ⟨(.pointer (some B)),t,u,z,(Pt.mk i ⟨C,D,E,G,I,J,K,M,N,P,S,U,W,X,z,Y,Z,aa,ab,j,ac,ad,ae,af,ag,ai,aj,ak,am⟩),x,y⟩) an _) z fun aC aD aE aG ao=>?_)
 obtain ⟨rfl,ap⟩:=ao
 exact J9 _ ap<|Ag z<|Nt<|T.ret<|E1 H
theorem B6O {h n o p q r i s} (D:Pt P5 h n o) (E:G6 (VI .i64) 1 h p q) (G:B0F h r i) (H:B8f o q i = some s):∀ L,G8 prog 221 [n,p,r] h (L) (fun v h' L'=>v = .int .i64 s∧L' = L):=by
 intro L
 refine G8.enter func221 z z z<|Sr<|Ag z<|Nt<|Sr<|Mv z<|Mv z<|bE H fun I J H=>To (O.D8 z (A7g D E J _) z fun a8 a9 ah al K=>?_)
 obtain ⟨M,N⟩:=K
 refine J9 _ M<|Ag z<|Nt<|Sq<|Sr<|Mv z<|have P:=N; ?_
 obtain ⟨av,_,rfl,w,⟨az,S,U,rfl,W,X,Y⟩⟩:=P
 refine Vv (V.C7H underlying209 z)<|Nt<|Cf z<|Ks<|Sr<|Ag z<|Nt<|Sq<|Sr<|Mv z<|Vv (V.S9 z)<|Vv (V.fa R5 z)<|Vv (V.I9 (k:=0) R3 z w z)<|have Z:=W; ?_
 obtain ⟨aa,_,rfl,x,⟨ab,ac,ad,ae,af,ai,aj,ak,am,an,ao,ap,aq,ar,rfl,au,aw,ax,ay,f,aA,aB,aC,aD,aE,aG,aI,aJ,aK⟩⟩:=Z
 refine Vv (V.S9 z)<|Vv (V.fa Y1 z)<|Vv (V.fa A1m z)<|Vv (V.I9 (k:=4) O7 z x z)<|Vv (V.P9 Q5 z f)<|Mv z<|Nt ?_
 obtain ⟨y,aM,aN⟩:=M5 H
 refine T.M7 (α:=Int) [] z (fun e=>[(8,qi e)]) (fun e=>L) (fun e hh=>y = e) ?_ ?_
 ·have H:=aM
  refine Bl<|T.M8 (α:=Nat×Int×Int) [2,7,23,24] z (fun ⟨b,c,a⟩=>[(25,qi c),(8,qi a)]) (fun ⟨b,c,a⟩=>L) (fun ⟨b,c,a⟩ hh=>iter (B7f i I) b (c,a) = some y) (fun ⟨b,c,a⟩=>b) (FUEL,(0:Int),(0:Int)) ⟨z,z,trivial⟩ z H ?_
  rintro ⟨b,c,a⟩ ba bb aO
  obtain ⟨A,bc,rfl,H,m⟩:=I1 aO
  refine T.norm [25,8,2,7,23,24] z<|T.fl ?_
  refine Sr<|Vv (V.lt z z)<|Nt<|Sq<|T.cH H z (fun H=>?_) fun H=>?_
  ·refine Ks<|Sq<|Bl<|Sr<|Mv z<|bE H fun d B H=>?_
   obtain ⟨bd,aP,rfl⟩:=G6.at f B
   refine Vv (V.ix Q5 z z f (G7 B))<|Vv (V.ldS z aP.u (by exact K7)) ?_
   refine To (O.alloc A1x z z fun be=>Ag z<|To (O.stF (vs:=[.int .u8 d.H8,qi d.Q3,.string d.fA,.string d.fB,.string d.R6,qi d.fN]) K7 z z (j:=0) z z z z<|T.freeze fun aS bf aU=>have C:=AtC.of aU; Nt<|Sr<|Vv (V.fa A1Q z)<|Vv (V.I9 (k:=1) E8 z C z)<|Vv (V.gt z z)<|Nt<|T.cH H z (fun H=>?_) fun H=>?_))
   ·refine T.O1 (t:=(.vs [0,1,2,3,4,5] (.alt 6 (.g (.v 7 (.v 8 (.alt 9 .done .no)))) .no))) 11 0 0 z z I4 (by kernel_rfl) ?_
    refine Tm z z<|Tv z (V.fa A1Q z)<|Tv z (V.I9 (k:=1) E8 z C z)<|Tm z z<|Tm z z<|Tm z z<|bE H fun bg aV H=>?_
    obtain ⟨bi,bj,bk,aW,aX⟩:=B0F.call (G.u (g:=aS)) (Pt.mk w.u ⟨(.pointer (some aa)),S,U,rfl,(Pt.mk x.u ⟨ab,ac,ad,ae,af,ai,aj,ak,am,an,ao,ap,aq,ar,rfl,au.u,aw.u,ax.u,ay.u,f.u,aA.u,aB.u,aC.u,aD.u,aE.u,aG.u,aI.u,aJ.u,aK.u⟩),X.u,Y.u⟩) aV
    refine Tp z z (SX.two (XA.fr [] Lr z) (XA.fr [] Lr z)) (O.A1d z aW z (aX _) z fun bm bn bo bp aY=>?_) T.O9
    obtain ⟨rfl,aZ⟩:=aY
    refine J9 _ aZ<|T.O3 Li<|bE H fun bq a0 H=>Tv z (V.B1u z z a0)<|bE H fun a1 a2 H=>Tv z (V.J2 z z a2)<|Ts z z (SX.two (XA.fr [] Lr z) (XA.fr [] Lr z)) (V.asg z) z ?_ T.O9
    refine T.R7 (SX.two (XA.fr [] Lr z) (XA.fr [] Lr z))<|Bn<|Th<|Rg<|bE H fun a3 a4 H=>Vv (V.J2 z z a4)<|Mv z<|Nt<|T.ag (A,a3,a1) (F4 H m)
   refine T.skip<|Bn<|Th<|Rg<|bE H fun a5 a6 H=>Vv (V.J2 z z a6)<|Mv z<|Nt<|T.ag (A,a5,a) (F4 H m)
  refine T.exit<|Te<|Te<|have H:=D9 H m; Be<|Th<|T.mt a H
 rintro e br bs a7
 have H:=J8 a7 aN
 refine T.norm [8] z<|T.fl ?_
 exact Sr<|Mv z<|Ag z<|Nt<|T.ret<|E1 H
theorem B2J {h a b c d e} (f:Pt P5 h a b) (g:G6 (VI .i64) 1 h c d) (H:B3y b d = some e):∀ L,G8 prog 133 [a,c] h (L) (fun v h' L'=>v = .int .i64 e∧L' = L):=by
 intro L
 refine G8.enter func133 z z z<|Sr<|Ag z<|Nt<|Sr<|Mv z<|Mv z<|bE H fun p i H=>To (O.D8 z (B6O f g (show B0F h (.func (.func 220) #[] #[]) A8J from ⟨⟨z,z⟩,.inr ⟨220,[],[],z,fun q r s t j u w k m=>A9Y j k m⟩⟩) i _) z fun x y A B n=>?_)
 obtain ⟨rfl,o⟩:=n
 exact J9 _ o<|Ag z<|Nt<|T.ret<|E1 H
theorem B5x {h f g i m n o} (x:Pt P5 h f g) (y:G6 (VI .i64) 1 h i m) (H:B5O g m = some (n,o)):∀ L,G8 prog 211 [f,i] h (L) (fun v h' L'=>v = .tuple #[.int .i64 n,.bool o]∧L' = L):=by
 intro L
 refine G8.enter func211 z z z<|Sr<|Ag z<|Ag z<|Nt<|Sr<|Mv z<|Mv z<|bE H fun A B H=>To (O.D8 z (A7g x y B _) z fun aW aX aY aZ C=>?_)
 obtain ⟨D,E⟩:=C
 refine J9 _ D<|Ag z<|Nt<|Sq<|Sr<|Mv z<|have G:=E; ?_
 obtain ⟨a0,_,rfl,p,⟨a1,I,J,rfl,K,M,N⟩⟩:=G
 refine Vv (V.C7H underlying209 z)<|Nt<|Cf z<|Ks<|Sq<|Sr<|Mv z<|Vv (V.S9 z)<|Vv (V.fa R5 z)<|Vv (V.I9 (k:=0) R3 z p z)<|have P:=K; ?_
 obtain ⟨S,_,rfl,q,⟨U,W,X,Y,Z,aa,ab,ac,ad,ae,af,ai,aj,ak,rfl,am,an,ao,ap,d,aq,ar,au,aw,ax,ay,aA,aB,aC⟩⟩:=P
 refine Vv (V.S9 z)<|Vv (V.fa Y1 z)<|Vv (V.fa A1m z)<|Vv (V.I9 (k:=4) O7 z q z)<|Vv (V.P9 Q5 z d)<|Mv z<|Nt ?_
 obtain ⟨r,aD,s⟩:=M5 H
 refine T.M7 (α:=Unit) [] z (fun _u=>[]) (fun _u=>L) (fun _u hh=>r = (Sum.inl ())) ?_ ?_
 ·have H:=aD
  refine Bl<|T.M8 (α:=Nat×Int) [6,21,22] z (fun ⟨a,b⟩=>[(23,qi b)]) (fun ⟨a,b⟩=>L) (fun ⟨a,b⟩ hh=>iter (B5t A) a b = some r) (fun ⟨a,b⟩=>a) (FUEL,(0:Int)) ⟨z,trivial⟩ z H ?_
  rintro ⟨a,b⟩ a2 a3 aE
  obtain ⟨t,a4,rfl,H,e⟩:=I1 aE
  refine T.norm [23,6,21,22] z<|T.fl ?_
  refine Sr<|Vv (V.lt z z)<|Nt<|Sq<|T.cH H z (fun H=>?_) fun H=>?_
  ·refine Ks<|Sq<|Bl<|Sr<|Mv z<|bE H fun c w H=>?_
   obtain ⟨a5,aG,rfl⟩:=G6.at d w
   refine Vv (V.ix Q5 z z d (G7 w))<|Vv (V.ldS z aG.u (by exact K7)) ?_
   refine To (O.alloc A1x z z fun a6=>Ag z<|To (O.stF (vs:=[.int .u8 c.H8,qi c.Q3,.string c.fA,.string c.fB,.string c.R6,qi c.fN]) K7 z z (j:=0) z z z z<|T.freeze fun a7 a8 aI=>have aJ:=AtC.of aI; Nt<|Sr<|Vv (V.fa A1Q z)<|Vv (V.I9 (k:=1) E8 z aJ z)<|Vv (V.eq z z)<|Mv z<|T.bH 31 H z (fun H=>?_) fun H=>?_))
   ·refine Mv z<|Mv z<|bE H fun a9 aK H=>To (O.D8 z (A9Y (Pt.mk p.u ⟨(.pointer (some S)),I,J,z,(Pt.mk q.u ⟨U,W,X,Y,Z,aa,ab,ac,ad,ae,af,ai,aj,ak,z,am.u,an.u,ao.u,ap.u,d.u,aq.u,ar.u,au.u,aw.u,ax.u,ay.u,aA.u,aB.u,aC.u⟩),M.u,N.u⟩) aK _) z fun ah al av az aM=>?_)
    obtain ⟨rfl,aN⟩:=aM
    refine J9 _ aN<|Vv (V.gt z z)<|Vv (V.R8 z z)<|Nt<|T.cH H z (fun H=>?_) fun H=>?_
    ·exact Sr<|Mv z<|Ag z<|Ag z<|Nt<|T.ret<|Br<|Tr<|Tr<|have H:=D9 H e; Br<|Tr<|have H:=J8 H s; E1 H
    refine T.skip<|Bn<|Th<|Rg<|bE H fun aO aP H=>Vv (V.J2 z z aP)<|Mv z<|Nt<|T.ag (t,aO) (F4 H e)
   refine Sk<|Sk<|Sk<|Sk<|Vv (V.R9 z z)<|Nt<|Cf z<|T.skip<|Bn<|Th<|Rg<|bE H fun aS aU H=>Vv (V.J2 z z aU)<|Mv z<|Nt<|T.ag (t,aS) (F4 H e)
  refine T.exit<|Te<|Te<|have H:=D9 H e; Be<|Th<|T.mt () H
 rintro _ ba bb aV
 have H:=J8 aV s
 refine T.norm [] z<|T.fl ?_
 exact Sr<|Ag z<|Ag z<|Nt<|T.ret<|E1 H
theorem C1V {h a b c d e} (f:Pt P5 h a b) (g:G6 (VI .i64) 1 h c d) (H:B9r b d = some e):∀ L,G8 prog 212 [a,c] h (L) (fun v h' L'=>v = .int .i64 e∧L' = L):=by
 intro L
 refine G8.enter func212 z z z<|Sr<|Ag z<|Nt<|Sr<|Mv z<|Mv z<|bE H fun p i H=>To (O.D8 z (B6O f g (show B0F h (.func (.func 278) #[] #[]) A9s from ⟨⟨z,z⟩,.inr ⟨278,[],[],z,fun q r s t j u w k m=>B3k j k m⟩⟩) i _) z fun x y A B n=>?_)
 obtain ⟨rfl,o⟩:=n
 exact J9 _ o<|Ag z<|Nt<|T.ret<|E1 H
theorem C1i {h D p1 A E} (U:M3 h D p1) (H:B8B p1 A = some E):∀ L,G8 prog 302 [.agg D.toArray,.int .i64 A] h (L) (fun v h' L'=>∃ G,L' = D5 3 1 v G::L∧A7 (VI .i64) h' G E):=by
 intro L
 obtain ⟨W,X,Y,Z,aa,rfl,m,ab,ac,ad,s⟩:=U
 refine G8.enter func302 z z z<|Sr<|To (O.Y0 z z z fun a2 a3 a4 n=>Ag z<|Nt<|Sq<|Sr<|Vv (V.ldS z n (by exact G9)) ?_)
 refine bE H fun ⟨a5,a6⟩ ae H=>To (O.D8 z (A6D ⟨W,X,Y,Z,aa,z,m.u,ab.u,ac.u,ad.u,s.u⟩ ae _) z fun a7 af a8 a9 ai=>?_)
 obtain ⟨rfl,aj⟩:=ai
 refine J9 _ aj<|Mv z<|Vv (V.ext z z)<|Vv (V.ext z z)<|Ag z<|Ag z<|Nt<|Sr<|Mv z<|Vv (V.ne z z)<|Mv z<|T.bH 17 H z dead fun H=>Mv z<|Vv (V.lt z z)<|Vv (V.R9 z z)<|Mv z<|T.bH 21 H z dead fun H=>Mv z<|Vv (V.fa J4 z)<|Vv (V.I9 (k:=0) M0 z n.u z)<|Vv (V.P9 N9 z m)<|Vv (V.ge z z)<|Vv (V.R9 z z)<|Nt<|T.cH H z dead fun H=>Ks<|Sr<|Ag z<|Nt<|Sq<|Sr<|Vv (V.fa P6 z)<|Vv (V.I9 (k:=4) O7 z n.u z)<|Vv (V.P9 Q5 z s)<|Mv z<|Nt ?_
 obtain ⟨I,ak,am⟩:=M5 H
 refine T.M7 (α:=(List Int)×Value×(List (List Value))) [] z (fun ⟨o,p,q⟩=>[(7,p)]) (fun ⟨o,p,q⟩=>D5 3 1 p q::L) (fun ⟨o,p,q⟩ hh=>I = o∧A7 (VI .i64) hh q o) ?_ ?_
 ·have H:=ak
  refine Bl<|T.U9 3 1<|have an:A7 (VI .i64) af [] ([]:List Int):=A7.nil; T.M8 (α:=Nat×Int×(List Int)×Value×(List (List Value))) [1,2,29,30] z (fun ⟨f,i,c,b,a⟩=>[(31,qi i),(7,b)]) (fun ⟨f,i,c,b,a⟩=>D5 3 1 b a::L) (fun ⟨f,i,c,b,a⟩ hh=>iter (B3L p1 A) f (i,c) = some I∧A7 (VI .i64) hh a c) (fun ⟨f,i,c,b,a⟩=>f) (FUEL,(0:Int),([]:List Int),(qs),[]) ⟨z,z,trivial⟩ z ⟨H,an⟩ ?_
  rintro ⟨f,i,c,b,a⟩ ah al ⟨ao,w⟩
  obtain ⟨J,av,rfl,H,B⟩:=I1 ao
  refine T.norm [31,7,1,2,29,30] z<|T.fl ?_
  refine Sr<|Vv (V.lt z z)<|Nt<|Sq<|T.cH H z (fun H=>?_) fun H=>?_
  ·refine Ks<|Sq<|Bl<|Sr<|bE H fun d K H=>?_
   obtain ⟨az,aq,rfl⟩:=G6.at s K
   refine Vv (V.ix Q5 z z s (G7 K))<|Vv (V.ldS z aq.u (by exact K7)) ?_
   refine To (O.alloc A1x z z fun ba=>To (O.stF (vs:=[.int .u8 d.H8,qi d.Q3,.string d.fA,.string d.fB,.string d.R6,qi d.fN]) K7 z z (j:=0) z z z z<|T.freeze fun bb bc ar=>have x:=AtC.of ar; Nt<|Bl<|Sq ?_))
   obtain ⟨au,aw,ax⟩:=M5 H
   refine T.M7 (α:=Bool) [1,2,7,9,29,30,31] z (fun r=>[(35,.bool r)]) (fun r=>D5 3 1 b a::L) (fun r hh=>au = r) ?_ ?_
   ·have H:=aw
    refine T.O1 (t:=(.vs [0,1,2,3,4,5,6,7,8,9,10,11,12,13] (.alt 14 .done .no))) 16 0 0 z z I4 (by kernel_rfl) ?_
    refine Tv z (V.fa A0o z)<|Tv z (V.I9 (k:=0) A1f z x z)<|Tv z (V.eq z z)<|Tm z z<|T.bH 39 H z (fun H=>?_) fun H=>?_
    ·refine Tv z (V.fa A0I z)<|Tv z (V.I9 (k:=4) H9 z x z)<|Tv z (V.fa J4 z)<|Tv z (V.I9 (k:=0) M0 z n.u z)<|Tm z z<|bE H fun ay M H=>?_
     obtain ⟨bd,aA,⟨be,rfl,bf⟩⟩:=G6.at m M
     refine Tv z (V.ix N9 z z m (G7 M))<|Tv z (V.fa A0K z)<|Tv z (V.I9 (k:=0) H9 z aA.u z)<|Tv z (V.seq z z)<|Tv z (V.R8 z z)<|Ts z z (SX.two (XA.fr [] Lr z) (XA.fr [] Lr z)) (V.asg z) z ?_ T.O9
     refine T.R7 (SX.two (XA.fr [] Lr z) (XA.fr [] Lr z))<|Th<|T.mt (decide (d.R6 = ay.F8)) (O5 H)
    refine Tk z<|Tk z<|Tk z<|Tk z<|Tk z<|Tk z<|Tk z<|Tk z<|Tk z<|Tv z (V.R9 z z)<|Ts z z (SX.two (XA.fr [] Lr z) (XA.fr [] Lr z)) (V.asg z) z ?_ T.O9
    refine T.R7 (SX.two (XA.fr [] Lr z) (XA.fr [] Lr z))<|Th<|T.mt false (O5 H)
   rintro r bg bi aB
   have H:=J8 aB ax
   refine T.norm [35,1,2,7,9,29,30,31] z<|T.fl ?_
   refine T.cH H z (fun H=>?_) fun H=>?_
   ·refine T.O1 (t:=(.vs [0,1,2,3,5,6] (.alt 4 (.g (.v 7 (.alt 8 (.alt 9 (.alt 10 .done .no) .no) .no))) .no))) 9 1 0 z z I4 (by kernel_rfl) ?_
    refine Tm z z<|Tv z (V.fa J4 z)<|Tv z (V.I9 (k:=0) M0 z n.u z)<|Tm z z<|Tv z (V.fa Y6 z)<|Tv z (V.I9 (k:=5) E8 z x.u z)<|bE H fun bj aC H=>Tp z z (SX.two (XA.fr [] Lr z) (XA.fr [0] Lr z)) (O.D8 z (A6K m.u aC _) z fun bk N bm bn aD=>?_) T.O9
    obtain ⟨rfl,aE⟩:=aD
    refine J9 _ aE<|T.O3 Li<|bE H fun y aG H=>Tv z (V.J2 z z aG)<|Tp z z (SX.two (XA.fr [] Lr z) (XA.fr [0] Lr z)) (O.bs C9 M9 z (e:=z) (hk:=z) (xs:=[.tmp 57]) (hv:=CO.eq (CO.cons z CO.nil)) (hw:=O4.of z) (hd:=z) fun bo=>?_) T.O9
    have C:A7 (VI .i64) N [[qi y]] ([y]:List Int):=(A7.cons z A7.nil)
    refine bE H fun P S H=>Tp z z (SX.two (XA.fr [] Lr z) (XA.fr [1] Lr z)) (O.apX C9 C9 M9 z z z (j:=1) z (Src.row (j:=0) z) (O4.of z) (A7.ones VI.plain C) w.u C S z fun aI bp bq=>?_) T.O9
    have aJ:A7 (VI .i64) N (a ++ [[qi y]]) P:=A7.ap w.u C S
    refine G5 1 z<|T.drop<|Ts z z (SX.one (XA.fr [] Lr z) z) (V.asg z) z ?_ T.O9
    refine T.R7 (SX.one (XA.fr [] Lr z) z)<|Bn<|Bn<|Th<|Rg<|bE H fun aK aM H=>Vv (V.J2 z z aM)<|Mv z<|Nt<|T.ag (J,aK,P,aI,(a ++ [[qi y]])) ⟨(F4 H B),aJ⟩
   refine Sq<|T.O1 (t:=(.vs [0,1,2,3,4,5,6,7,8,9,10,11,12,13,14,15,16,17,18] (.alt 19 .done .no))) 21 0 0 z z I4 (by kernel_rfl) ?_
   refine Tv z (V.fa A0o z)<|Tv z (V.I9 (k:=0) A1f z x.u z)<|Tv z (V.eq z z)<|Tm z z<|T.bH 64 H z dead fun H=>Tk z<|Tk z<|Tk z<|Tk z<|Tk z<|Tk z<|Tk z<|Tk z<|Tk z<|Tk z<|Tk z<|Tk z<|Tk z<|Tk z<|Tv z (V.R9 z z)<|Ts z z (SX.two (XA.fr [] Lr z) (XA.fr [] Lr z)) (V.asg z) z ?_ T.O9
   refine T.R7 (SX.two (XA.fr [] Lr z) (XA.fr [] Lr z))<|Th<|Cf z<|T.skip<|Bn<|Bn<|Th<|Rg<|bE H fun aN aO H=>Vv (V.J2 z z aO)<|Mv z<|Nt<|T.ag (J,aN,c,b,a) ⟨(F4 H B),w.u⟩
  refine T.exit<|Te<|Te<|have H:=D9 H B; Be<|Th<|T.mt (c,b,a) ⟨H,w⟩
 rintro ⟨o,p,q⟩ br bt ⟨aP,aS⟩
 have H:=J8 aP am
 refine T.norm [7] z<|T.fl ?_
 refine Sr<|Mv z<|bE H fun bu aU H=>To (O.D8 z (B4T aS aU _) z fun bw bx bA bB aV=>?_)
 obtain ⟨bC,rfl,aW,aX⟩:=aV
 refine J9 _ aW<|Nt<|Sr<|Mv z<|bE H fun bD aY H=>To (O.D8 z (B0Y aX aY _) z fun bG bI bJ bK aZ=>?_)
 obtain ⟨bM,a0,a1⟩:=aZ
 refine J9 _ a0<|Ag z<|Nt<|T.ret ?_
 cases H
 exact T.rl z (Rv z) ⟨_,z,a1⟩
end Go.Proofs.X
open Go Go.Proofs Go.Proofs.Tryz Go.Sl Go.Dm
namespace Go.Proofs.X
theorem C2t : N8 prog 281 5 = some 5:=by kernel_rfl
theorem C5z : X9 prog 279 = some (false,1):=by kernel_rfl
theorem B2B : zer prog 144 = some (.slice none 0 0):=by kernel_rfl
theorem C1g {h a b c d e} (f:AtC h b c) (g:F7 h c d) (H:B2H a d = some e):∀ L,G8 prog 353 [.int .i64 a,.pointer (some b)] h (L) (fun v h' L'=>v = .bool e∧L' = L):=by
 intro L
 obtain ⟨i,rfl,j⟩:=g
 refine G8.enter func353 z z z<|Sr<|Ag z<|Nt<|Sr<|Mv z<|Vv (V.lt z z)<|Mv z<|T.bH 6 H z dead fun H=>Mv z<|Vv (V.ldS z f (by exact L9)) ?_
 refine bE H fun o k H=>To (O.D8 z (A2m ⟨i,z,j⟩ k _) z fun p q r s m=>?_)
 obtain ⟨rfl,n⟩:=m
 exact J9 _ n<|Vv (V.ge z z)<|Vv (V.R9 z z)<|Ag z<|Nt<|T.ret<|E1 H
theorem B9z {h a b c d e} (i:AtC h b c) (j:(VSl (VI .i64) 1) h c d) (H:B2C a d = some e):∀ L,G8 prog 356 [.int .i64 a,.pointer (some b)] h (L) (fun v h' L'=>v = .bool e∧L' = L):=by
 intro L
 obtain ⟨m,rfl,f⟩:=j
 refine G8.enter func356 z z z<|Sr<|Ag z<|Nt<|Sr<|Vv (V.ld0 E5 z i z)<|Mv z<|bE H fun n g H=>?_
 obtain ⟨o,k,rfl⟩:=G6.at f g
 exact Vv (V.ix C9 z z f (G7 g))<|Vv (V.ld0 E8 z k z)<|Mv z<|Vv (V.ne z z)<|Ag z<|Nt<|T.ret<|E1 H
theorem C1N {h o j p m q} (E:F7 h o j) (a:G6 (VI .i64) 1 h p m) (H:B9Z j m = some q):∀ L,G8 prog 355 [.agg o.toArray,p] h (L) (fun v h' L'=>v = .bool q∧L' = L):=by
 intro L
 obtain ⟨n,rfl,c⟩:=E
 refine G8.enter func355 z z z<|Sr<|To (O.Y0 z z z fun aG aI aJ d=>Ag z<|Nt<|Sq<|Sr<|Mv z<|Vv (V.P9 C9 z a)<|Mv z<|Nt ?_)
 obtain ⟨r,G,I⟩:=M5 H
 refine T.M7 (α:=Unit) [] z (fun _u=>[]) (fun _u=>L) (fun _u hh=>r = ()) ?_ ?_
 ·have H:=G
  refine Bl<|T.M8 (α:=Nat×Int) [1,2,8] z (fun ⟨e,b⟩=>[(9,qi b)]) (fun ⟨e,b⟩=>L) (fun ⟨e,b⟩ hh=>iter (B4X j m) e b = some r) (fun ⟨e,b⟩=>e) (FUEL,(0:Int)) ⟨z,trivial⟩ z H ?_
  rintro ⟨e,b⟩ aK aM J
  obtain ⟨K,aN,rfl,H,s⟩:=I1 J
  refine T.norm [9,1,2,8] z<|T.fl ?_
  refine Sr<|Vv (V.lt z z)<|Nt<|Sq<|T.cH H z (fun H=>?_) fun H=>?_
  ·refine Ks<|Sq<|Bl<|Sr<|Mv z<|Ag z<|Nt<|Sq<|Sq<|T.O1 (t:=(.vs [0,1,2,4,5,6,7,8,9] (.alt 3 (.g (.alt 10 (.g (.v 11 .done)) .no)) .no))) 13 0 0 z z I4 (by kernel_rfl) ?_
   refine Tv z (V.fa X6 z)<|Tv z (V.I9 (k:=4) E5 z d.u z)<|Tm z z<|Tv z (V.fa X6 z)<|Tv z (V.I9 (k:=4) E5 z d.u z)<|Tm z z<|Tm z z<|bE H fun aO w H=>?_
   obtain ⟨aP,M,rfl⟩:=G6.at a w
   refine Tv z (V.ix C9 z z a (G7 w))<|Tv z (V.ld0 E8 z M.u z)<|bE H fun aS N H=>Tp z z (SX.two (XA.fr [] Lr z) (XA.fr [] Lr z)) (O.D8 z (A1t c.u N _) z fun aU aV aW aX P=>?_) T.O9
   obtain ⟨rfl,S⟩:=P
   refine J9 _ S<|T.O3 Li<|bE H fun aY U H=>Tp z z (SX.two (XA.fr [] Lr z) (XA.fr [] Lr z)) (O.D8 z (A1t c.u U _) z fun aZ a0 a1 a2 W=>?_) T.O9
   obtain ⟨rfl,X⟩:=W
   refine J9 _ X<|T.O3 Li<|Tv z (V.bne underlying4 z z)<|T.R7 (SX.two (XA.fr [] Lr z) (XA.fr [] Lr z))<|Th<|T.cH H z dead fun H=>Ks<|Sr<|Mv z<|Mv z<|Nt<|T.A5G ?_
   obtain ⟨x,Y,Z⟩:=M5 H
   refine T.M7 (α:=Unit) [1,2,8,9] z (fun _u=>[]) (fun _u=>L) (fun _u hh=>x = ()) ?_ ?_
   ·have H:=Y
    refine Bl<|T.M8 (α:=Nat×Int) [1,2,5,8,9,24] z (fun ⟨f,i⟩=>[(25,qi i)]) (fun ⟨f,i⟩=>L) (fun ⟨f,i⟩ hh=>iter (B5w j m b) f i = some x) (fun ⟨f,i⟩=>f) (FUEL,(0:Int)) ⟨z,trivial⟩ z H ?_
    rintro ⟨f,i⟩ a3 a4 aa
    obtain ⟨ab,a5,rfl,H,y⟩:=I1 aa
    refine T.norm [25,1,2,5,8,9,24] z<|T.fl ?_
    refine Sr<|Vv (V.lt z z)<|Nt<|Sq<|T.cH H z (fun H=>?_) fun H=>?_
    ·refine Ks<|Sq<|Bl<|Sr<|Mv z<|Ag z<|Nt<|Sq<|T.O1 (t:=(.vs [0,1,2,4,5,6,7,8,9,10,11,12] (.alt 3 (.g (.alt 13 (.g (.vs [14,15,16,17,18,20,21,22,23,24,25,26,27,28] (.alt 19 (.g (.alt 29 (.g (.v 30 (.v 31 .done))) .no)) .no))) .no)) .no))) 33 0 0 z z I4 (by kernel_rfl) ?_
     refine Tv z (V.ldS z d.u (by exact L9)) ?_
     refine Tm z z<|Tm z z<|Tv z (V.ldS z d.u (by exact L9)) ?_
     refine Tm z z<|Tm z z<|bE H fun a6 A H=>?_
     obtain ⟨a7,ac,rfl⟩:=G6.at a A
     refine Tv z (V.ix C9 z z a (G7 A))<|Tv z (V.ld0 E8 z ac.u z)<|Tm z z<|Tm z z<|bE H fun a8 B H=>?_
     obtain ⟨a9,ad,rfl⟩:=G6.at a B
     refine Tv z (V.ix C9 z z a (G7 B))<|Tv z (V.ld0 E8 z ad.u z)<|bE H fun ah ae H=>Tp z z (SX.two (XA.fr [] Lr z) (XA.fr [] Lr z)) (O.D8 z (A5M ⟨n,z,c.u⟩ ae _) z fun al av az ba af=>?_) T.O9
     obtain ⟨rfl,ai⟩:=af
     refine J9 _ ai<|T.O3 Li<|bE H fun bb aj H=>Tp z z (SX.two (XA.fr [] Lr z) (XA.fr [] Lr z)) (O.D8 z (A5M ⟨n,z,c.u⟩ aj _) z fun bc bd be bf ak=>?_) T.O9
     obtain ⟨rfl,am⟩:=ak
     refine J9 _ am<|T.O3 Li<|Tv z (V.bne underlying4 z z)<|Tm z z<|T.bH 43 H z dead fun H=>Tv z (V.ldS z d.u (by exact L9)) ?_
     refine Tm z z<|Tm z z<|Tv z (V.ldS z d.u (by exact L9)) ?_
     refine Tm z z<|Tm z z<|bE H fun bg C H=>?_
     obtain ⟨bi,an,rfl⟩:=G6.at a C
     refine Tv z (V.ix C9 z z a (G7 C))<|Tv z (V.ld0 E8 z an.u z)<|Tm z z<|Tm z z<|bE H fun bj D H=>?_
     obtain ⟨bk,ao,rfl⟩:=G6.at a D
     refine Tv z (V.ix C9 z z a (G7 D))<|Tv z (V.ld0 E8 z ao.u z)<|bE H fun bm ap H=>Tp z z (SX.two (XA.fr [] Lr z) (XA.fr [] Lr z)) (O.D8 z (A5N ⟨n,z,c.u⟩ ap _) z fun bn bo bp bq aq=>?_) T.O9
     obtain ⟨rfl,ar⟩:=aq
     refine J9 _ ar<|T.O3 Li<|bE H fun br au H=>Tp z z (SX.two (XA.fr [] Lr z) (XA.fr [] Lr z)) (O.D8 z (A5N ⟨n,z,c.u⟩ au _) z fun bs bt bu bw aw=>?_) T.O9
     obtain ⟨rfl,ax⟩:=aw
     refine J9 _ ax<|T.O3 Li<|Tv z (V.bne underlying4 z z)<|Tv z (V.R9 z z)<|T.R7 (SX.two (XA.fr [] Lr z) (XA.fr [] Lr z))<|Th<|T.cH H z dead fun H=>T.skip<|Bn<|Th<|T.norm [1,2,5,8,9,24,25] z<|Rg<|bE H fun ay aA H=>Vv (V.J2 z z aA)<|Mv z<|Nt<|T.ag (ab,ay) (F4 H y)
    refine T.exit<|Te<|Te<|have H:=D9 H y; Be<|Th<|T.mt () H
   rintro _ bx bA aB
   have H:=J8 aB Z
   refine T.norm [1,2,8,9] z<|T.fl ?_
   refine Bn<|Th<|Rg<|bE H fun aC aD H=>Vv (V.J2 z z aD)<|Mv z<|Nt<|T.ag (K,aC) (F4 H s)
  refine T.exit<|Te<|Te<|have H:=D9 H s; Be<|Th<|T.mt () H
 rintro _ bB bC aE
 have H:=J8 aE I
 refine T.norm [] z<|T.fl ?_
 exact Sr<|Ag z<|Nt<|T.ret<|E1 H
theorem B3f {σ:Type} {R:σ→PH→List E9→Prop} {x:σ→(List Int)→Option (σ×Bool)} {y:σ} {q_s:σ} {h E La G I J} (A:B2o R h E x) (hRa:R y h La) (t:AtC h G I) (ad:F7 h I J) (H:A9v x y J = some q_s):∀ As L,G8 prog 378 [E,.pointer (some G)] h ((As ++ (La ++ L))) (fun v h' L'=>∃ La',v = .tuple #[]∧L' = (As ++ (La' ++ L))∧R q_s h' La'):=by
 intro As L
 obtain ⟨ae,rfl,af⟩:=ad
 refine G8.enter func378 z z z<|Sr<|Vv (V.fa A2r z)<|Vv (V.I9 (k:=1) A4u z t z)<|bE H fun ⟨ai,bD⟩ aj H=>To (O.D8 z (A3b aj _) z fun bG bI bJ ak am=>?_)
 obtain ⟨an,ao,ap,aq,ar,rfl,au,aw,ax,ay,aA,K⟩:=am
 refine J9 _ au<|Mv z<|Vv (V.ext z z)<|Vv (V.ext z z)<|To (O.alloc A6m z z fun bK=>To (O.stF (vs:=[.string ai.A7v,an,ao,ap,aq,ar]) A0E z z (j:=0) z z (by (simp only [Sl.ones,aw.1.1,ax.1.1,ay.1.1,aA.1.1,K.1.1,Bool.and_true,Bool.true_and]) <;> rfl) z ?_))
 refine T.freeze fun bM aB aC=>have aD:=AtC.of aC; Ag z<|Nt<|Sr<|Vv (V.ldS z t.u (by exact L9)) ?_
 refine bE H fun M aE H=>To (O.D8 z (A2m ⟨ae,z,af.u⟩ aE _) z fun bN aG bO aI aJ=>?_)
 obtain ⟨rfl,aK⟩:=aJ
 refine J9 _ aK<|Ag z<|Nt<|Sr<|Vv (V.fa C2t z)<|Vv (V.I9 (k:=5) C5z z aD.u z)<|Vv (V.fa A0l z)<|Vv (V.I9 (k:=2) E8 z t.u z)<|Vv (V.fa A0V z)<|Vv (V.I9 (k:=3) E8 z t.u z)<|bE H fun aM aN H=>?_
 obtain ⟨bP,bS,bU,aO,aP⟩:=B0W.call (K.u (g:=aG)) aN
 refine To (O.A1d z aO z (aP _) z fun bV bW bX aS aU=>?_)
 obtain ⟨aV,B⟩:=aU
 refine J9 _ aV<|Vv (V.P9 A2c z B)<|Mv z<|Nt<|T.A5G ?_
 obtain ⟨N,aW,aX⟩:=M5 H
 refine T.M7 (α:=σ×(List E9)) [] z (fun ⟨q,d⟩=>[]) (fun ⟨q,d⟩=>(As ++ (d ++ L))) (fun ⟨q,d⟩ hh=>N = q∧R q hh d) ?_ ?_
 ·have H:=aW
  refine Bl<|have aY:=(((ak.trans aB).trans aI).trans aS); have aZ:=A.2.1 _ _ _ _ aY hRa; T.M8 (α:=Nat×σ×Int×(List E9)) [0,5,24,25] z (fun ⟨i,e,m,a⟩=>[(26,qi m)]) (fun ⟨i,e,m,a⟩=>(As ++ (a ++ L))) (fun ⟨i,e,m,a⟩ hh=>iter (A7q x M aM) i (e,m) = some N∧R e hh a) (fun ⟨i,e,m,a⟩=>i) (FUEL,y,(0:Int),La) ⟨z,trivial⟩ z ⟨H,aZ⟩ ?_
  rintro ⟨i,e,m,a⟩ a0 bY ⟨a1,P⟩
  obtain ⟨a2,bZ,rfl,H,S⟩:=I1 a1
  refine T.norm [26,0,5,24,25] z<|J9 ((As ++ (a ++ L))) z<|Sr<|Vv (V.lt z z)<|Nt<|Sq<|T.cH H z (fun H=>?_) fun H=>?_
  ·refine Ks<|Sq<|Bl<|Sr<|bE H fun a3 U H=>?_
   obtain ⟨b0,a4,⟨b1,rfl,a5⟩⟩:=G6.at B U
   refine Vv (V.ix A2c z z B (G7 U))<|Vv (V.ld0 A5m z a4.u z)<|Ag z<|Nt<|Sr<|Mv z<|bE H fun C W H=>To (O.mkX C9 M9 z z z z W z fun n b2 b3=>have X:A7 (VI .i64) a0 _ C:=A7.rep z W; Ag z<|Nt<|Sq<|Sr<|Mv z<|Vv (V.A2a C9 z (j:=0) z X.len)<|Mv z<|Nt ?_)
   obtain ⟨Y,a6,a7⟩:=M5 H
   refine T.M7 (α:=(List Int)×(List (List Value))) [0,5,24,25,26] z (fun ⟨r,o⟩=>[(8,n)]) (fun ⟨r,o⟩=>D5 3 1 n o::(As ++ (a ++ L))) (fun ⟨r,o⟩ hh=>Y = r∧A7 (VI .i64) hh o r) ?_ ?_
   ·have H:=a6
    refine Bl<|T.M8 (α:=Nat×Int×(List Int)×(List (List Value))) [0,5,7,24,25,26,33] z (fun ⟨p,c,f,b⟩=>[(34,qi c),(8,n)]) (fun ⟨p,c,f,b⟩=>D5 3 1 n b::(As ++ (a ++ L))) (fun ⟨p,c,f,b⟩ hh=>iter (A7r a3 C) p (c,f) = some Y∧A7 (VI .i64) hh b f) (fun ⟨p,c,f,b⟩=>p) (FUEL,(0:Int),C,(List.replicate M.toNat [qi 0])) ⟨z,z,trivial⟩ z ⟨H,X⟩ ?_
    rintro ⟨p,c,f,b⟩ a8 b4 ⟨a9,s⟩
    obtain ⟨ah,b5,rfl,H,Z⟩:=I1 a9
    refine T.norm [34,8,0,5,7,24,25,26,33] z<|J9 (D5 3 1 n b::(As ++ (a ++ L))) z<|Sr<|Vv (V.lt z z)<|Nt<|Sq<|T.cH H z (fun H=>?_) fun H=>?_
    ·refine Ks<|Sq<|Bl<|Sr<|Mv z<|Ag z<|Nt<|Rg<|Mv z<|Mv z<|Mv z<|Mv z<|bE H fun w al H=>?_
     obtain ⟨b6,b7,b8,av,az⟩:=A7Q.call (a5.u (g:=a8)) al
     refine To (O.A1d z av z (az _) z fun b9 aa bh bl ba=>?_)
     obtain ⟨rfl,bb⟩:=ba
     refine J9 _ bb<|bE H fun bv D H=>?_
     obtain ⟨bz,ca,rfl⟩:=A7.get s D
     refine Vv (V.ixR C9 z z (j:=0) z (A7.bd s D))<|bE H fun ab bc H=>To (O.stR E8 z z (j:=0) z (A7.bdN s D) z<|have be:A7 (VI .i64) aa (b.set c.toNat [qi w]) ab:=A7.set s.u (show (VI .i64) aa [qi w] w from z) bc; Ni<|Bn<|Th<|Rg<|bE H fun bf bg H=>Vv (V.J2 z z bg)<|Mv z<|Nt<|T.ag (ah,bf,ab,(b.set c.toNat [qi w])) ⟨(F4 H Z),be⟩)
    refine T.exit<|Te<|Te<|have H:=D9 H Z; Be<|Th<|T.mt (f,b) ⟨H,s⟩
   rintro ⟨r,o⟩ cb bi ⟨bj,bk⟩
   have H:=J8 bj a7
   refine T.norm [8,0,5,24,25,26] z<|J9 (D5 3 1 n o::(As ++ (a ++ L))) z<|Sr<|Mv z<|Mv z<|T.J5 fun cc bm bn=>have bo:=A7.Z4 bn bk.u; bE H fun ⟨bp,cd⟩ bq H=>have br:=(bi.trans bm); have bs:=A.2.1 _ _ _ _ br P; To (O.C6T z z (B2o.call A.u bo bs bq As _) z fun ce cf cg ci bt=>?_)
   obtain ⟨ac,rfl,bu,bw⟩:=bt
   refine J9 ((As ++ (ac ++ L))) bu<|Vv (V.not z)<|Nt<|T.cH H z dead fun H=>T.skip<|Bn<|Th<|Rg<|bE H fun bx bA H=>Vv (V.J2 z z bA)<|Mv z<|Nt<|T.ag (a2,bp,bx,ac) ⟨(F4 H S),bw⟩
  refine T.exit<|Te<|Te<|have H:=D9 H S; Be<|Th<|T.mt (e,a) ⟨H,P⟩
 rintro ⟨q,d⟩ cj ck ⟨bB,bC⟩
 have H:=J8 bB aX
 refine T.norm [] z<|J9 ((As ++ (d ++ L))) z ?_
 cases H
 exact T.B2y results378 Li ⟨d,z,z,bC⟩
theorem B5M {h b c a} (d:F7 h b c) (H:B1G c = some a):∀ L,G8 prog 354 [.agg b.toArray] h (L) (fun v h' L'=>∃ p0_1 v0_3,v = .func (.func 378) #[] #[.pointer (some p0_1)]∧L' = L∧AtC h' p0_1 [.string a.F8,.int .u8 a.O6,.int .i64 a.fA,.int .i64 a.fB,v0_3,.int .i64 a.fX,.int .i64 a.fY]∧G6 (VI .i64) 1 h' v0_3 a.A2H):=by
 intro L
 obtain ⟨g,rfl,e⟩:=d
 refine G8.enter func354 z z z<|Sr<|To (O.Y0 z z z fun i j k f=>Ag z<|Nt<|Sr<|Vv (V.mkf z z)<|Ag z<|Nt<|T.ret ?_)
 cases H
 exact T.rl z (Rv z) ⟨_,_,z,z,f,e.u⟩
theorem C3F {h A g B q C} (N:F7 h A g) (r:G6 (VI .i64) 1 h B q) (H:C2L g q = some C):∀ L,G8 prog 303 [.agg A.toArray,B] h (L) (fun v h' L'=>∃ D,L' = D5 27 1 v D::L∧A7 (VSl (VI .i64) 1) h' D C):=by
 intro L
 obtain ⟨i,rfl,k⟩:=N
 refine G8.D1e func303 z ntmps303 z<|Sr<|To (O.Y0 z z z fun E bc bd m=>To (O.Y0 z (G6.cells r) z fun be bf bg G=>Ag z<|Nt<|Sq<|Sr<|Vv (V.ldS z m.u (by exact L9)) ?_))
 refine bE H fun bi P H=>To (O.D8 z (B0f ⟨i,z,k.u⟩ P _) z fun bj U bk bm W=>?_)
 obtain ⟨rfl,X⟩:=W
 refine J9 _ X<|Vv (V.ne z z)<|Mv z<|T.bH 10 H z dead fun H=>Vv (V.ld0 E5 z G.u z)<|Vv (V.mkf z z)<|bE H fun bn Y H=>To (O.D8 z (A3I r.u (show A2q U (.func (.func 353) #[] #[qp E]) (fun s=>B2H s g) from ⟨⟨z,z⟩,.inr ⟨353,[],[qp E],z,fun bo bp bq br Z aa=>C1g m.u ⟨i,z,k.u⟩ Z aa⟩⟩) Y _) z fun bt bu bw bx ab=>?_)
 obtain ⟨rfl,ac⟩:=ab
 refine J9 _ ac<|Vv (V.R9 z z)<|Nt<|T.cH H z dead fun H=>Ks<|Sr<|To (O.alloc B2B z z fun n=>Nt<|Sq<|Sr<|Vv (V.ldS z m.u (by exact L9)) ?_)
 refine bE H fun bA ad H=>To (O.D8 z (B5M ⟨i,z,k.u⟩ ad _) z fun bB I bC bD ae=>?_)
 obtain ⟨bG,af,rfl,ag,ai,aj⟩:=ae
 refine J9 _ ag<|Nt<|Bl ?_
 obtain ⟨bI,ak,am⟩:=M5 H
 refine T.U9 27 1<|have an:A7 (VSl (VI .i64) 1) I [] ([]:List (List Int)):=A7.nil; G5 1 z<|T.D1d (S:=(List (List Int))) (O:=Unit) (La0:=[blk n (.cells [(qs)].toArray 144),D5 27 1 (qs) []]) (Lr:=L) (fun o hh ao=>∃ b:Value,∃ a:List (List Value),ao = ([blk n (.cells [b].toArray 144),D5 27 1 b a]:List E9)∧A7 (VSl (VI .i64) 1) hh a o) (fun _ _ _ _=>False) z z ⟨(qs),[],z,an⟩ (fun R_ y_=>B2o R_ I y_ (B6u g q)) (fun bJ=>⟨⟨z,z⟩,RYs.mono (fun o _ _ _ l_ ⟨b,a,e_,f0_⟩=>⟨b,a,e_,A7.mono (VSl.mono VI.mono) f0_ l_⟩) (fun _ _ _ _ _ _ q_=>q_),?_⟩) (fun _ La_ aq ar au=>G8.perm (List.Perm.refl _) (B3f aq ar ai ⟨af,z,aj⟩ ak [] au) fun _ _ _ ⟨La_,_,e_,q_⟩=>⟨_,List.Perm.refl _,La_,e_,q_⟩) ?_ ?_
 ·intro bK bM c t d aw bN bO bP ax H As_ L_
  rcases aw with o | _
  rotate_left
  ·exact dead H
  obtain ⟨bS,_,rfl,w,ay,bU,b,a,rfl,f⟩:=ax
  refine Yld.front fun L=>Yld.D1i (j:=0) z w z<|T.fl ?_
  refine Rg<|To (O.alloc A3z z z fun J=>To (O.stF (vs:=[c]) E5 z z (j:=0) z (G6.cells d) (by (simp only [Sl.ones,G6.one d,Bool.and_true,Bool.true_and]) <;> rfl) z ?_))
  refine T.fl ?_
  refine T.freeze fun bV bW aA=>have x:=AtC.of aA; Nt<|T.begin (j:=0) z ay<|T.fl ?_
  refine Bl<|Sr<|Vv (V.ldS z m.u (by exact L9)) ?_
  refine Vv (V.ld0 E5 z x z)<|bE H fun bX aB H=>To (O.D8 z (C1N ⟨i,z,k.u⟩ d.u aB _) z fun bY aC bZ b0 aD=>?_)
  obtain ⟨rfl,aE⟩:=aD
  refine J9 _ aE<|Mv z<|T.bH 21 H z (fun H=>?_) fun H=>?_
  ·refine Vv (V.ld0 E5 z G.u z)<|Vv (V.mkf z z)<|bE H fun b1 aG H=>To (O.D8 z (A3I r.u (show A2q aC (.func (.func 356) #[] #[qp J]) (fun s=>B2C s t) from ⟨⟨z,z⟩,.inr ⟨356,[],[qp J],z,fun aI b2 b3 b4 aJ aK=>B9z x.u (show (VSl (VI .i64) 1) aI [c] t from ⟨c,z,d.u⟩) aJ aK⟩⟩) aG _) z fun b5 K b6 b7 aM=>?_)
   obtain ⟨rfl,aN⟩:=aM
   refine J9 _ aN<|Vv (V.not z)<|Vv (V.R8 z z)<|Nt<|T.cH H z (fun H=>?_) fun H=>?_
   ·refine Rg<|Vv (V.A8c A0H z (j:=1) z z)<|Vv (V.ld0 E5 z x.u z)<|To (O.bs Q7 A3z z (e:=z) (hk:=z) (xs:=[.tmp 28]) (hv:=CO.eq (CO.cons (G6.cells d) CO.nil)) (hw:=O4.of z) (hd:=z) fun b8=>have y:A7 (VSl (VI .i64) 1) K [[c]] ([t]:List (List Int)):=(A7.cons ⟨c,z,d.u⟩ A7.nil); bE H fun aO M H=>To (O.apX Q7 Q7 A3z z z z (j:=3) z (Src.row (j:=0) z) (O4.of z) (A7.ones VSl.plain y) f.u y M z fun p b9 bh=>have aP:A7 (VSl (VI .i64) 1) K (a ++ [[c]]) aO:=A7.ap f.u y M; T.fl ?_))
    refine G5 1 z<|T.fl ?_
    refine T.drop<|T.J7 0 z fun aS aU=>To (O.stF (vs:=[p]) A0H z z (j:=2) z aU (by (simp only [Sl.ones,aS,Bool.and_true,Bool.true_and]) <;> rfl) z ?_)
    refine T.fl ?_
    refine Ni<|Bn<|G5 1 z<|T.fl ?_
    refine G5 1 z<|T.fl ?_
    refine G5 2 z<|T.fl ?_
    cases H
    exact T.D1H (j:=0) z Li ⟨_::[blk n (.cells [p].toArray 144),D5 27 1 p (a ++ [[c]])],z,z,⟨_,_,z,w.turn .ready none,z,z,⟨p,(a ++ [[c]]),z,aP⟩⟩⟩
   refine T.skip<|Bn ?_
   cases H
   exact T.D1H (j:=0) z Li ⟨_::[blk n (.cells [b].toArray 144),D5 27 1 b a],z,z,⟨_,_,z,w.turn .ready none,z,z,⟨b,a,z,f.u⟩⟩⟩
  exact dead H
 ·rintro bl aV _ o bv aW ⟨b,a,rfl,f⟩
  have H:=J8 aW am
  refine T.fl ?_
  refine Bn<|Th<|Sr<|Vv (V.A8c A0H z (j:=1) z z)<|G5 2 z<|T.fl ?_
  refine bE H fun bz aX H=>To (O.D8 z (B5B f (show A9A aV (.func (.func 358) #[] #[]) A9U from ⟨⟨z,z⟩,.inr ⟨358,[],[],z,fun ca cb cc cd aY ce cf aZ cg a0 a1=>B7B aY aZ a0 a1⟩⟩) aX _) z fun ci a2 cj ck a3=>?_)
  obtain ⟨cm,rfl,a4,a5⟩:=a3
  refine J9 _ a4<|Nt<|Sr<|Vv (V.A8c A0H z (j:=2) z z)<|bE H fun cn a6 H=>To (O.D8 z (B2j a5 (show B8O a2 (.func (.func 360) #[] #[]) B2Q from ⟨⟨z,z⟩,.inr ⟨360,[],[],z,fun co cp cq cr a7 cs ct a8 cu a9 ah=>C0n a7 a8 a9 ah⟩⟩) a6 _) z fun al cw cx cy av=>?_)
  obtain ⟨az,ba,bb⟩:=av
  refine J9 _ ba<|Ag z<|Nt<|T.ret<|G5 2 z<|T.fl ?_
  refine T.drop<|G5 1 z<|T.D1Z<|T.D0u (j:=0) z<|T.fl ?_
  cases H
  exact T.C7R (L':=D5 27 1 al az::L) results303 (Rv z) Li (fun _ iv=>iv) ⟨_,z,bb⟩
 rintro _ _ _ _ _ _ _ ⟨⟩
end Go.Proofs.X
open Go Go.Proofs Go.Proofs.Tryz Go.Sl Go.Dm
namespace Go.Proofs.X
theorem C1B {h s p1 n t} (I:M3 h s p1) (H:C0r p1 n = some t):∀ L,G8 prog 219 [.agg s.toArray,.int .i64 n] h (L) (fun v h' L'=>∃ w,L' = D5 27 1 v w::L∧A7 (VSl (VI .i64) 1) h' w t):=by
 intro L
 obtain ⟨J,K,M,N,P,rfl,m,S,U,W,X⟩:=I
 refine G8.enter func219 z z z<|Sr<|To (O.Y0 z z z fun aS aU aV o=>Ag z<|Nt<|Sr<|Ag z<|Nt<|Sq<|Sr<|Vv (V.ldS z o (by exact G9)) ?_)
 refine Mv z<|bE H fun Y Z H=>To (O.D8 z (C1i ⟨J,K,M,N,P,z,m.u,S.u,U.u,W.u,X.u⟩ Z _) z fun aa ab aW aX ac=>?_)
 obtain ⟨ad,ae,p⟩:=ac
 refine J9 _ ae<|Vv (V.A2a C9 z (j:=0) z p.len)<|Mv z<|Nt ?_
 obtain ⟨x,af,ai⟩:=M5 H
 refine T.M7 (α:=(List Int)×Value×(List (List Value))) [1,2] z (fun ⟨f,g,i⟩=>[(5,g)]) (fun ⟨f,g,i⟩=>D5 3 1 g i::L) (fun ⟨f,g,i⟩ hh=>x = f∧A7 (VI .i64) hh i f) ?_ ?_
 ·have H:=af
  refine Bl<|T.U9 3 1<|have aj:A7 (VI .i64) ab [] ([]:List Int):=A7.nil; G5 1 z<|T.M8 (α:=Nat×Int×(List Int)×Value×(List (List Value))) [1,2,10,11] z (fun ⟨d,e,b,c,a⟩=>[(12,qi e),(5,c)]) (fun ⟨d,e,b,c,a⟩=>D5 3 1 aa ad::D5 3 1 c a::L) (fun ⟨d,e,b,c,a⟩ hh=>iter (B5h p1 n Y) d (e,b) = some x∧A7 (VI .i64) hh a b) (fun ⟨d,e,b,c,a⟩=>d) (FUEL,(0:Int),([]:List Int),(qs),[]) ⟨z,z,trivial⟩ z ⟨H,aj⟩ ?_
  rintro ⟨d,e,b,c,a⟩ aY aZ ⟨ak,q⟩
  obtain ⟨am,a0,rfl,H,y⟩:=I1 ak
  refine T.norm [12,5,1,2,10,11] z<|T.fl ?_
  refine Sr<|Vv (V.lt z z)<|Nt<|Sq<|T.cH H z (fun H=>?_) fun H=>?_
  ·refine Ks<|Sq<|Bl<|Sr<|bE H fun a1 A H=>?_
   obtain ⟨a2,an,rfl⟩:=A7.get p A
   refine Vv (V.ixR C9 z z (j:=0) z (A7.bd p A))<|Vv (V.ldR E8 z (j:=0) z an z)<|Ag z<|Nt<|Rg<|Mv z<|Mv z<|Vv (V.fa J4 z)<|Vv (V.I9 (k:=0) M0 z o.u z)<|Mv z<|bE H fun a3 ao H=>To (O.D8 z (A6K m.u ao _) z fun a4 aq a5 a6 ar=>?_)
   obtain ⟨rfl,au⟩:=ar
   refine J9 _ au<|bE H fun B aw H=>Vv (V.A1s z z aw)<|To (O.b1 (E:=VI .i64) C9 M9 z z z z z fun a7 r=>bE H fun C D H=>To (O.apX C9 C9 M9 z z z (j:=2) z (Src.row (j:=0) z) (O4.of z) (A7.ones VI.plain r) q.u r D z fun ax a8 a9=>have ay:A7 (VI .i64) aq (a ++ [[qi B]]) C:=A7.ap q.u r D; T.fl ?_))
   refine G5 1 z<|T.fl ?_
   refine T.drop<|Ag z<|Ni<|Bn<|Th<|Rg<|bE H fun aA aB H=>Vv (V.J2 z z aB)<|Mv z<|Nt<|G5 1 z<|T.ag (am,aA,C,ax,(a ++ [[qi B]])) ⟨(F4 H y),ay⟩
  refine T.exit<|Te<|Te<|have H:=D9 H y; Be<|Th<|T.drop<|T.mt (b,c,a) ⟨H,q⟩
 rintro ⟨f,g,i⟩ ah al ⟨aC,aD⟩
 have H:=J8 aC ai
 refine T.norm [5,1,2] z<|T.fl ?_
 refine Sr<|Vv (V.fa J4 z)<|Vv (V.I9 (k:=0) M0 z o.u z)<|Mv z<|bE H fun av G H=>?_
 obtain ⟨az,aE,⟨aG,rfl,aI⟩⟩:=G6.at m G
 refine Vv (V.ix N9 z z m (G7 G))<|Vv (V.ldS z aE.u (by exact L9)) ?_
 refine Mv z<|T.J5 fun ba bb aJ=>have aK:=A7.Z4 aJ aD.u; bE H fun bc aM H=>To (O.D8 z (C3F ⟨aG,z,aI.u⟩ aK aM _) z fun be bf bg bi aN=>?_)
 obtain ⟨bj,aO,aP⟩:=aN
 refine J9 _ aO<|Ag z<|Nt<|T.ret ?_
 cases H
 exact T.rl z (Rv z) ⟨_,z,aP⟩
theorem C2r {h c p1 d e} (s:M3 h c p1) (H:C0c p1 d = some e):∀ L,G8 prog 131 [.agg c.toArray,.int .i64 d] h (L) (fun v h' L'=>∃ f,L' = D5 27 1 v f::L∧A7 (VSl (VI .i64) 1) h' f e):=by
 intro L
 obtain ⟨g,i,j,m,n,rfl,a,o,p,q,r⟩:=s
 refine G8.enter func131 z z z<|Sr<|To (O.Y0 z z z fun D E G b=>Ag z<|Nt<|Sq<|Sr<|Vv (V.ldS z b (by exact G9)) ?_)
 refine bE H fun ⟨I,J⟩ t H=>To (O.D8 z (A6D ⟨g,i,j,m,n,z,a.u,o.u,p.u,q.u,r.u⟩ t _) z fun K M N P w=>?_)
 obtain ⟨rfl,x⟩:=w
 refine J9 _ x<|Mv z<|Vv (V.ext z z)<|Vv (V.ext z z)<|Ag z<|Ag z<|Nt<|Sr<|Mv z<|Vv (V.ne z z)<|Mv z<|T.bH 14 H z dead fun H=>Mv z<|Vv (V.lt z z)<|Vv (V.R9 z z)<|Mv z<|T.bH 18 H z dead fun H=>Mv z<|Vv (V.fa J4 z)<|Vv (V.I9 (k:=0) M0 z b.u z)<|Vv (V.P9 N9 z a)<|Vv (V.ge z z)<|Vv (V.R9 z z)<|Nt<|T.cH H z dead fun H=>Ks<|Sr<|Vv (V.ldS z b.u (by exact G9)) ?_
 refine Mv z<|bE H fun S y H=>To (O.D8 z (C1B ⟨g,i,j,m,n,z,a.u,o.u,p.u,q.u,r.u⟩ y _) z fun U W X Y A=>?_)
 obtain ⟨Z,B,C⟩:=A
 refine J9 _ B<|Ag z<|Nt<|T.ret ?_
 cases H
 exact T.rl z (Rv z) ⟨_,z,C⟩
theorem C1P {h A p1 B t n C D} (S:M3 h A p1) (o:G6 (VI .i64) 1 h B t) (H:B1z p1 t n = some (C,D)):∀ L,G8 prog 183 [.agg A.toArray,B,.bool n] h (L) (fun v h' L'=>v = .tuple #[.int .i64 C,.int .i64 D]∧L' = L):=by
 intro L
 obtain ⟨aK,aM,aN,aO,aP,rfl,U,W,aS,aU,aV⟩:=S
 refine G8.enter func183 z z z<|Sr<|To (O.Y0 z z z fun aW aX aY E=>Ag z<|Ag z<|Nt<|Sq<|Sr<|Mv z<|Vv (V.P9 C9 z o)<|Vv (V.fa K3 z)<|Vv (V.I9 (k:=1) I7 z E z)<|Vv (V.P9 K8 z W)<|Vv (V.ne z z)<|Nt<|T.cH H z (fun H=>?_) fun H=>?_)
 ·exact Sr<|Ag z<|Ag z<|Nt<|T.ret<|Tr<|E1 H
 refine Ks<|Sr<|Vv (V.fa J4 z)<|Vv (V.I9 (k:=0) M0 z E z)<|bE H fun w X H=>To (O.D8 z (A4Y U.u X _) z fun aZ Y a0 a1 Z=>?_)
 obtain ⟨rfl,aa⟩:=Z
 refine J9 _ aa<|Ag z<|Nt<|Sr<|Mv z<|bE H fun G I H=>To (O.mkX A0F A6l z z z z I z fun p a2 a3=>have ab:A7 VB Y _ G:=A7.rep z I; Ag z<|Nt<|Sq<|Sr<|Mv z<|Vv (V.P9 C9 z o)<|Mv z<|Nt ?_)
 obtain ⟨J,ac,q⟩:=M5 H
 refine T.M7 (α:=Unit) [] z (fun _u=>[]) (fun _u=>L) (fun _u hh=>J = (Sum.inl ())) ?_ ?_
 ·have H:=ac
  refine Bl<|T.M8 (α:=Nat×Int×(List Bool)×(List (List Value))) [2,8,23,24] z (fun ⟨e,f,c,a⟩=>[(25,qi f),(9,p)]) (fun ⟨e,f,c,a⟩=>D5 4 1 p a::L) (fun ⟨e,f,c,a⟩ hh=>iter (A7h t n w) e (f,c) = some J∧A7 VB hh a c) (fun ⟨e,f,c,a⟩=>e) (FUEL,(0:Int),G,(List.replicate w.toNat [.bool false])) ⟨z,z,trivial⟩ z ⟨H,ab⟩ ?_
  rintro ⟨e,f,c,a⟩ a4 a5 ⟨ad,b⟩
  obtain ⟨r,a6,rfl,H,d⟩:=I1 ad
  refine T.norm [25,9,2,8,23,24] z<|T.fl ?_
  refine Sr<|Vv (V.lt z z)<|Nt<|Sq<|T.cH H z (fun H=>?_) fun H=>?_
  ·refine Ks<|Sq<|Bl<|Sr<|Mv z<|bE H fun g K H=>?_
   obtain ⟨a7,ae,rfl⟩:=G6.at o K
   refine Vv (V.ix C9 z z o (G7 K))<|Vv (V.ld0 E8 z ae.u z)<|Ag z<|Ag z<|Nt<|Sq<|Bl<|Sq ?_
   obtain ⟨af,ai,aj⟩:=M5 H
   refine T.M7 (α:=Bool) [2,8,9,10,11,23,24,25] z (fun i=>[(30,.bool i)]) (fun i=>D5 4 1 p a::L) (fun i hh=>af = i) ?_ ?_
   ·have H:=ai
    refine Rg<|Mv z<|Vv (V.eq z z)<|Mv z<|T.bH 33 H z (fun H=>?_) fun H=>?_
    ·refine Mv z<|Vv (V.R8 z z)<|Ag z<|Nt<|T.mt n (O5 H)
    refine Sk<|Vv (V.R9 z z)<|Ag z<|Nt<|T.mt false (O5 H)
   rintro i a8 a9 ak
   have H:=J8 ak aj
   refine T.norm [30,2,8,9,10,11,23,24,25] z<|T.fl ?_
   refine T.cH H z (fun H=>?_) fun H=>?_
   ·exact Sr<|Mv z<|Ag z<|Ag z<|Nt<|T.ret<|Br<|Tr<|Br<|Tr<|Tr<|have H:=D9 H d; Br<|Tr<|have H:=J8 H q; T.drop<|E1 H
   refine Sq ?_
   obtain ⟨am,an,ao⟩:=M5 H
   refine T.M7 (α:=Bool) [2,8,9,10,11,23,24,25] z (fun m=>[(37,.bool m)]) (fun m=>D5 4 1 p a::L) (fun m hh=>am = m) ?_ ?_
   ·have H:=an
    refine Rg<|Mv z<|Vv (V.lt z z)<|Mv z<|T.bH 40 H z (fun H=>?_) fun H=>?_
    ·refine Sk<|Sk<|Sk<|Vv (V.R8 z z)<|Ag z<|Nt<|T.mt true (O5 H)
    refine Mv z<|Mv z<|Vv (V.ge z z)<|Vv (V.R9 z z)<|Ag z<|Nt<|T.mt (decide (w≤g)) (O5 H)
   rintro m s ah ap
   have H:=J8 ap ao
   refine T.norm [37,2,8,9,10,11,23,24,25] z<|T.fl ?_
   refine T.cH H z (fun H=>?_) fun H=>?_
   ·exact Sr<|Mv z<|Ag z<|Ag z<|Nt<|T.ret<|Br<|Tr<|Br<|Tr<|Tr<|have H:=D9 H d; Br<|Tr<|have H:=J8 H q; T.drop<|E1 H
   refine Sr<|Mv z<|Vv (V.ge z z)<|Mv z<|T.bH 49 H z (fun H=>?_) fun H=>?_
   ·refine Mv z<|Mv z<|bE H fun al M H=>?_
    obtain ⟨av,aq,rfl⟩:=A7.get b M
    refine Vv (V.ixR A0F z z (j:=0) z (A7.bd b M))<|Vv (V.ldR U5 z (j:=0) z aq z)<|Vv (V.R8 z z)<|Ag z<|Nt<|T.cH H z (fun H=>?_) fun H=>?_
    ·exact Sr<|Mv z<|Ag z<|Ag z<|Nt<|T.ret<|Br<|Tr<|Br<|Tr<|Tr<|have H:=D9 H d; Br<|Tr<|have H:=J8 H q; T.drop<|E1 H
    refine T.skip<|Bn<|Th<|Sr<|Mv z<|Vv (V.ge z z)<|Nt<|T.cH H z (fun H=>?_) fun H=>?_
    ·refine Rg<|Mv z<|Mv z<|bE H fun az x H=>?_
     obtain ⟨ba,bb,rfl⟩:=A7.get b x
     refine Vv (V.ixR A0F z z (j:=0) z (A7.bd b x))<|bE H fun N ar H=>To (O.stR U5 z z (j:=0) z (A7.bdN b x) z<|have au:A7 VB s (a.set g.toNat [.bool true]) N:=A7.set b.u (show VB s [.bool true] true from z) ar; Ni<|Bn<|Th<|Rg<|bE H fun aw ax H=>Vv (V.J2 z z ax)<|Mv z<|Nt<|T.ag (r,aw,N,(a.set g.toNat [.bool true])) ⟨(F4 H d),au⟩)
    refine T.skip<|Bn<|Th<|Rg<|bE H fun ay aA H=>Vv (V.J2 z z aA)<|Mv z<|Nt<|T.ag (r,ay,c,a) ⟨(F4 H d),b.u⟩
   refine Sk<|Sk<|Sk<|Sk<|Vv (V.R9 z z)<|Ag z<|Nt<|Cf z<|T.skip<|Bn<|Th<|Sr<|Mv z<|Vv (V.ge z z)<|Nt<|T.cH H z (fun H=>?_) fun H=>?_
   ·refine Rg<|Mv z<|Mv z<|bE H fun bc y H=>?_
    obtain ⟨be,bf,rfl⟩:=A7.get b y
    refine Vv (V.ixR A0F z z (j:=0) z (A7.bd b y))<|bE H fun P aB H=>To (O.stR U5 z z (j:=0) z (A7.bdN b y) z<|have aC:A7 VB s (a.set g.toNat [.bool true]) P:=A7.set b.u (show VB s [.bool true] true from z) aB; Ni<|Bn<|Th<|Rg<|bE H fun aD aE H=>Vv (V.J2 z z aE)<|Mv z<|Nt<|T.ag (r,aD,P,(a.set g.toNat [.bool true])) ⟨(F4 H d),aC⟩)
   refine T.skip<|Bn<|Th<|Rg<|bE H fun aG aI H=>Vv (V.J2 z z aI)<|Mv z<|Nt<|T.ag (r,aG,c,a) ⟨(F4 H d),b.u⟩
  refine T.exit<|Te<|Te<|have H:=D9 H d; Be<|Th<|T.drop<|T.mt () H
 rintro _ bg bi aJ
 have H:=J8 aJ q
 refine T.norm [] z<|T.fl ?_
 exact Sr<|Ag z<|Ag z<|Nt<|T.ret<|E1 H
theorem B9m {h a p1 b c d e f} (t:M3 h a p1) (w:G6 (VI .i64) 1 h b c) (H:B1q p1 c d = some (e,f)):∀ L,G8 prog 95 [.agg a.toArray,b,.bool d] h (L) (fun v h' L'=>v = .tuple #[.int .i64 e,.int .i64 f]∧L' = L):=by
 intro L
 obtain ⟨g,i,j,k,m,rfl,n,o,p,q,r⟩:=t
 refine G8.enter func95 z z z<|Sr<|To (O.Y0 z z z fun E G I s=>Ag z<|Ag z<|Nt<|Sq<|Sr<|Vv (V.ldS z s (by exact G9)) ?_)
 refine bE H fun ⟨J,K⟩ x H=>To (O.D8 z (A6D ⟨g,i,j,k,m,z,n.u,o.u,p.u,q.u,r.u⟩ x _) z fun M N P S y=>?_)
 obtain ⟨rfl,A⟩:=y
 refine J9 _ A<|Mv z<|Vv (V.ext z z)<|Vv (V.ext z z)<|Ag z<|Ag z<|Nt<|Sr<|Mv z<|Vv (V.ne z z)<|Nt<|T.cH H z dead fun H=>Ks<|Sr<|Vv (V.ldS z s.u (by exact G9)) ?_
 refine Mv z<|Mv z<|bE H fun ⟨U,W⟩ B H=>To (O.D8 z (C1P ⟨g,i,j,k,m,z,n.u,o.u,p.u,q.u,r.u⟩ w.u B _) z fun X Y Z aa C=>?_)
 obtain ⟨rfl,D⟩:=C
 exact J9 _ D<|Vv (V.ext z z)<|Vv (V.ext z z)<|Ag z<|Ag z<|Nt<|T.ret<|E1 H
theorem B6z {h a p1 b c d e} (f:M3 h a p1) (g:G6 (VI .i64) 1 h b c) (H:A5V p1 c = some (d,e)):∀ L,G8 prog 37 [.agg a.toArray,b] h (L) (fun v h' L'=>v = .tuple #[.int .i64 d,.int .i64 e]∧L' = L):=by
 intro L
 obtain ⟨i,j,k,m,n,rfl,o,p,q,r,s⟩:=f
 refine G8.enter func37 z z z<|Sr<|To (O.Y0 z z z fun A B C t=>Ag z<|Ag z<|Nt<|Sr<|Vv (V.ldS z t (by exact G9)) ?_)
 refine Mv z<|bE H fun ⟨D,E⟩ w H=>To (O.D8 z (B9m ⟨i,j,k,m,n,z,o.u,p.u,q.u,r.u,s.u⟩ g.u w _) z fun G I J K x=>?_)
 obtain ⟨rfl,y⟩:=x
 exact J9 _ y<|Vv (V.ext z z)<|Vv (V.ext z z)<|Ag z<|Ag z<|Nt<|T.ret<|E1 H
end Go.Proofs.X
open Go Go.Proofs Go.Proofs.Tryz Go.Sl Go.Dm
namespace Go.Proofs.X
theorem C3U : A4f prog 201 = some ([.pointer none,.slice none 0 0,.slice none 0 0,.slice none 0 0,.slice none 0 0,.slice none 0 0,.slice none 0 0,.slice none 0 0,.slice none 0 0],[(0,1),(1,5),(6,1),(7,1),(8,1)]):=by kernel_rfl
theorem C3A : A0q prog 201 = true:=by kernel_rfl
theorem A4m : A0X prog 199 = some (144,1,24):=by kernel_rfl
theorem A8Q : N8 prog 201 1 = some 1:=by kernel_rfl
theorem A0x : N8 prog 201 2 = some 6:=by kernel_rfl
theorem A8H : N8 prog 201 3 = some 7:=by kernel_rfl
theorem A3U : N8 prog 201 4 = some 8:=by kernel_rfl
theorem A5P : X9 prog 199 = some (false,1):=by kernel_rfl
theorem B3z {h aq p1 ar au aw} (a8:M3 h aq p1) (H:B3u p1 = some (ar,au,aw)):∀ L,G8 prog 67 [.agg aq.toArray] h (L) (fun v h' L'=>∃ ax,v = .tuple #[ax,.int .i64 au,.int .i64 aw]∧L' = L∧Pt A0d h' ax ar):=by
 intro L
 obtain ⟨ay,aA,aB,aC,aD,rfl,E,aE,aG,aI,aJ⟩:=a8
 refine G8.enter func67 z z z<|Sr<|To (O.Y0 z z z fun cB cC cD P=>Ag z<|Ag z<|Ag z<|Nt<|Sr<|Vv (V.ldS z P (by exact G9)) ?_)
 refine bE H fun ⟨cE,cG,cI⟩ a9 H=>To (O.D8 z (B8F ⟨ay,aA,aB,aC,aD,z,E.u,aE.u,aG.u,aI.u,aJ.u⟩ a9 _) z fun cJ cK cM cN ah=>?_)
 obtain ⟨S,rfl,al,av⟩:=ah
 refine J9 _ al<|Mv z<|Vv (V.ext z z)<|Vv (V.ext z z)<|Vv (V.ext z z)<|Ag z<|Ag z<|Ag z<|Nt<|Sq<|Sr<|Mv z<|Vv (V.ne z z)<|Nt<|T.cH H z dead fun H=>Ks<|Sr<|Mv z<|Mv z<|bE H fun cO az H=>have ac:=OPt.get av az; bE H fun cP ba H=>To (O.D8 z (B0w ac ba _) z fun cS ad cU cV bb=>?_)
 obtain ⟨U,W,X,Y,Z,rfl,bc,bd,be,bf,bg,bi⟩:=bb
 refine J9 _ bc<|Vv (V.bld (xs:=[(0,.tmp 20),(1,.tmp 22)]) (cs:=[_,_,_,_,_,_,_,_,_]) C3U C3A z (F3.cons z (Pt.cells ac) z (F3.cons z z z F3.nil)))<|To (O.box z z z fun ae=>Ag z<|Nt<|Sq<|Sr<|Vv (V.fa J4 z)<|Vv (V.I9 (k:=0) M0 z P.u z)<|Vv (V.P9 N9 z E)<|Mv z<|Nt ?_)
 obtain ⟨aK,bj,bk⟩:=M5 H
 refine T.M7 (α:=(List Int)×(List Int)×(List (List (List Int)))×Value×(List (List Value))×Value×(List (List Value))×Value×(List (List Value))) [8] z (fun ⟨G,I,J,r,K,s,M,w,N⟩=>[]) (fun ⟨G,I,J,r,K,s,M,w,N⟩=>blk ae (.cells [S,U,W,X,Y,Z,r,s,w].toArray 201)::D5 3 1 r K::D5 3 1 s M::D5 144 1 w N::L) (fun ⟨G,I,J,r,K,s,M,w,N⟩ hh=>aK = (G,I,J)∧A7 (VI .i64) hh K G∧A7 (VI .i64) hh M I∧A7 (VSl (VSl (VI .i64) 1) 1) hh N J) ?_ ?_
 ·have H:=bj
  refine Bl<|T.U9 3 1<|have bm:A7 (VI .i64) ad [] ([]:List Int):=A7.nil; T.U9 3 1<|have bn:A7 (VI .i64) ad [] ([]:List Int):=A7.nil; T.U9 144 1<|have bo:A7 (VSl (VSl (VI .i64) 1) 1) ad [] ([]:List (List (List Int))):=A7.nil; G5 1 z<|T.fl ?_
  refine G5 2 z<|T.fl ?_
  refine G5 3 z<|T.fl ?_
  refine T.M8 (α:=Nat×(List Int)×(List Int)×(List (List (List Int)))×Int×Value×(List (List Value))×Value×(List (List Value))×Value×(List (List Value))) [1,8,27] z (fun ⟨y,a,n,o,c,p,b,q,d,m,f⟩=>[(28,qi c)]) (fun ⟨y,a,n,o,c,p,b,q,d,m,f⟩=>blk ae (.cells [S,U,W,X,Y,Z,p,q,m].toArray 201)::D5 3 1 p b::D5 3 1 q d::D5 144 1 m f::L) (fun ⟨y,a,n,o,c,p,b,q,d,m,f⟩ hh=>iter (B2w p1) y (a,n,o,c) = some aK∧A7 (VI .i64) hh b a∧A7 (VI .i64) hh d n∧A7 (VSl (VSl (VI .i64) 1) 1) hh f o) (fun ⟨y,a,n,o,c,p,b,q,d,m,f⟩=>y) (FUEL,([]:List Int),([]:List Int),([]:List (List (List Int))),(0:Int),(qs),[],(qs),[],(qs),[]) ⟨z,trivial⟩ z ⟨H,bm,bn,bo⟩ ?_
  rintro ⟨y,a,n,o,c,p,b,q,d,m,f⟩ af cW ⟨bp,A,ai,aj⟩
  obtain ⟨bq,cX,rfl,H,aM⟩:=I1 bp
  refine T.norm [28,1,8,27] z<|T.fl ?_
  refine Sr<|Vv (V.lt z z)<|Nt<|Sq<|T.cH H z (fun H=>?_) fun H=>?_
  ·refine Ks<|Sq<|Bl<|Sr<|Mv z<|Ag z<|Nt<|Sq<|G5 2 z<|T.fl ?_
   refine G5 1 z<|T.fl ?_
   refine G5 2 z<|T.fl ?_
   refine T.O1 (t:=(.vs [0,1,2,3] (.x 4 (.vs [5,6,7] (.alt 8 (.v 9 (.alt 10 (.alt 11 (.g (.v 12 (.v 13 (.alt 14 .done .no)))) .no) .no)) .no))))) 11 3 1 z z I4 (by kernel_rfl) ?_
   refine Tm z z<|Tm z z<|Tv z (V.S9 z)<|Tv z (V.fa A8H z)<|T.tx z z (Val.XA fun _ _ _=>V.ldO (k:=7) E5 z (j:=1) z z) z Calm.i<|Tm z z<|Tv z (V.S9 z)<|Tv z (V.fa A0x z)<|Ts z z (SX.two (XA.fr [0] Lr z) (XA.fr [2,2,2] Lr z)) (V.ldO (k:=6) E5 z (j:=1) z z) z ?_ T.O9
   refine Tv z (Val.XA fun _ _ _=>V.A2a C9 z (j:=0) z A.len)<|Tp z z (SX.two (XA.fr [0] Lr z) (XA.fr [2,2,2] Lr z)) (O.bs C9 M9 z (e:=z) (hk:=z) (xs:=[.tmp 40]) (hv:=CO.eq (CO.cons z CO.nil)) (hw:=O4.of z) (hd:=z) fun cY=>?_) T.O9
   have ak:A7 (VI .i64) af [[qi (a.length:Int)]] ([(a.length:Int)]:List Int):=(A7.cons z A7.nil)
   refine bE H fun aN aO H=>Tp z z (SX.two (XA.fr [1] Lr z) (XA.fr [3,3,3] Lr z)) (O.apX C9 C9 M9 z z z (j:=3) z (Src.row (j:=0) z) (O4.of z) (A7.ones VI.plain ak) ai ak aO z fun aa cZ c0=>?_) T.O9
   have br:A7 (VI .i64) af (d ++ [[qi (a.length:Int)]]) aN:=A7.ap ai ak aO
   refine T.fl ?_
   refine G5 1 z<|T.fl ?_
   refine T.drop<|T.O3 Lr<|Tv z (V.S9 z)<|Tv z (V.fa A8H z)<|T.J7 0 z fun bt bu=>Tp z z (SX.one (XA.fr [1] Lr z) z) (O.st (vs:=[aa]) (k:=7) E5 z z (j:=2) z bu (by (simp only [Sl.ones,bt,Bool.and_true,Bool.true_and]) <;> rfl) ?_) T.O9
   refine T.fl ?_
   refine T.R7 (SX.one (XA.fr [2] Lr z) z)<|Th<|Sq ?_
   obtain ⟨bw,bx,bA⟩:=M5 H
   refine T.M7 (α:=(List Int)×Value×(List (List Value))) [1,8,9,27,28] z (fun ⟨B,C,D⟩=>[]) (fun ⟨B,C,D⟩=>blk ae (.cells [S,U,W,X,Y,Z,C,aa,m].toArray 201)::D5 3 1 aa (d ++ [[qi (a.length:Int)]])::D5 144 1 m f::D5 3 1 C D::L) (fun ⟨B,C,D⟩ hh=>bw = B∧A7 (VI .i64) hh D B) ?_ ?_
   ·have H:=bx
    refine G5 2 z<|T.fl ?_
    refine G5 1 z<|T.fl ?_
    refine T.O1 (t:=(.vs [0,1,2,3] (.x 4 (.vs [5,7,8,9,10,11] (.alt 6 (.alt 12 (.g (.alt 13 (.g (.alt 14 (.g (.v 15 (.v 16 (.alt 17 .done .no)))) .no)) .no)) .no) (.alt 12 (.g (.alt 6 (.alt 13 (.g (.alt 14 (.g (.v 15 (.v 16 (.alt 17 .done .no)))) .no)) .no) .no)) .no)))))) 14 2 0 z z I4 (by kernel_rfl) ?_
    refine Tm z z<|Tm z z<|Tv z (V.S9 z)<|Tv z (V.fa A0x z)<|T.tx z z (Val.XA fun _ _ _=>V.ldO (k:=6) E5 z (j:=0) z z) z Calm.i<|Tm z z<|Tv z (V.fa J4 z)<|Tv z (V.I9 (k:=0) M0 z P.u z)<|Tm z z<|bE H fun c1 aP H=>?_
    obtain ⟨c2,bB,⟨aS,rfl,aU⟩⟩:=G6.at E aP
    refine Tv z (V.ix N9 z z E (G7 aP))<|Tv z (V.ldS z bB.u (by exact L9)) ?_
    refine T.C4A ?_ ?_
    ·refine Tp z z (SX.two (XA.fr [] Lr z) (XA.fr [1,1] Lr z)) (O.bs C9 M9 z (e:=z) (hk:=z) (xs:=[.tmp 50]) (hv:=CO.eq (CO.cons z CO.nil)) (hw:=O4.of z) (hd:=z) fun c3=>?_) T.O9
     have bC:A7 (VI .i64) af [[qi c]] ([c]:List Int):=(A7.cons z A7.nil)
     refine bE H fun c4 bD H=>Tp z z (SX.two (XA.fr [] Lr z) (XA.fr [2,2] Lr z)) (O.D8 z (B5i ⟨aS,z,aU.u⟩ bD _) z fun c5 c6 c7 c8 bG=>?_) T.O9
     obtain ⟨rfl,bI⟩:=bG
     refine J9 _ bI<|T.O3 Li<|T.J5 fun c9 ch bJ=>have bK:=A7.Z4 bJ bC.u; bE H fun cl bM H=>Tp z z (SX.two (XA.fr [] Li z) (XA.fr [1,1] Li z)) (O.D8 z (A6e bK bM _) z fun cv bN cz da bO=>?_) T.O9
     obtain ⟨aV,bP,am⟩:=bO
     refine J9 _ bP<|T.O3 Li<|T.wide 0 z fun bS=>bE H fun aW aX H=>Tp z z (SX.two (XA.fr [] Lr z) (XA.fr [2,2] Lr z)) (O.apX C9 C9 M9 z z z (j:=2) z (Src.row (j:=0) z) bS (A7.ones VI.plain am) A.u am aX z fun aY db dc=>?_) T.O9
     have bU:A7 (VI .i64) bN (b ++ aV) aW:=A7.ap A.u am aX
     refine T.fl ?_
     refine T.O3 Lr<|Tv z (V.S9 z)<|Tv z (V.fa A0x z)<|T.J7 0 z fun bV bW=>Tp z z (SX.one (XA.fr [] Lr z) z) (O.st (vs:=[aY]) (k:=6) E5 z z (j:=2) z bW (by (simp only [Sl.ones,bV,Bool.and_true,Bool.true_and]) <;> rfl) ?_) T.O9
     refine T.fl ?_
     refine T.R7 (SX.one (XA.fr [] Lr z) z)<|Th<|G5 2 z<|T.fl ?_
     refine T.drop<|G5 1 z<|T.fl ?_
     refine G5 3 z<|T.fl ?_
     refine G5 3 z<|T.fl ?_
     refine G5 3 z<|T.fl ?_
     exact T.mt (aW,aY,(b ++ aV)) ⟨(O5 H),bU⟩
    refine bE H fun dd bX H=>Tp z z (SX.two (XA.fr [] Lr z) (XA.fr [1,1] Lr z)) (O.D8 z (B5i ⟨aS,z,aU.u⟩ bX _) z fun de bY df dg bZ=>?_) T.O9
    obtain ⟨rfl,b0⟩:=bZ
    refine J9 _ b0<|T.O3 Li<|Tp z z (SX.two (XA.fr [] Lr z) (XA.fr [1,1] Lr z)) (O.bs C9 M9 z (e:=z) (hk:=z) (xs:=[.tmp 50]) (hv:=CO.eq (CO.cons z CO.nil)) (hw:=O4.of z) (hd:=z) fun di=>?_) T.O9
    have b1:A7 (VI .i64) bY [[qi c]] ([c]:List Int):=(A7.cons z A7.nil)
    refine T.J5 fun dj dk b2=>have b3:=A7.Z4 b2 b1.u; bE H fun dm b4 H=>Tp z z (SX.two (XA.fr [] Li z) (XA.fr [1,1] Li z)) (O.D8 z (A6e b3 b4 _) z fun dn b5 dp dq b6=>?_) T.O9
    obtain ⟨aZ,b7,an⟩:=b6
    refine J9 _ b7<|T.O3 Li<|T.wide 0 z fun b8=>bE H fun a0 a1 H=>Tp z z (SX.two (XA.fr [] Lr z) (XA.fr [2,2] Lr z)) (O.apX C9 C9 M9 z z z (j:=2) z (Src.row (j:=0) z) b8 (A7.ones VI.plain an) A.u an a1 z fun a2 dr ds=>?_) T.O9
    have b9:A7 (VI .i64) b5 (b ++ aZ) a0:=A7.ap A.u an a1
    refine T.fl ?_
    refine T.O3 Lr<|Tv z (V.S9 z)<|Tv z (V.fa A0x z)<|T.J7 0 z fun bh bl=>Tp z z (SX.one (XA.fr [] Lr z) z) (O.st (vs:=[a2]) (k:=6) E5 z z (j:=2) z bl (by (simp only [Sl.ones,bh,Bool.and_true,Bool.true_and]) <;> rfl) ?_) T.O9
    refine T.fl ?_
    refine T.R7 (SX.one (XA.fr [] Lr z) z)<|Th<|G5 2 z<|T.fl ?_
    refine T.drop<|G5 1 z<|T.fl ?_
    refine G5 3 z<|T.fl ?_
    refine G5 3 z<|T.fl ?_
    refine G5 3 z<|T.fl ?_
    exact T.mt (a0,a2,(b ++ aZ)) ⟨(O5 H),b9⟩
   rintro ⟨B,C,D⟩ dt du ⟨bv,bz⟩
   have H:=J8 bv bA
   refine T.norm [1,8,9,27,28] z<|T.fl ?_
   refine G5 2 z<|T.fl ?_
   refine G5 1 z<|T.fl ?_
   refine T.O1 (t:=(.vs [0,1,2,3] (.x 4 (.v 5 (.v 6 (.alt 7 (.g (.alt 8 (.alt 9 (.g (.v 10 (.v 11 (.alt 12 .done .no)))) .no) .no)) .no)))))) 9 2 0 z z I4 (by kernel_rfl) ?_
   refine Tm z z<|Tm z z<|Tv z (V.S9 z)<|Tv z (V.fa A3U z)<|T.tx z z (Val.XA fun _ _ _=>V.ldO (k:=8) A5P z (j:=0) z z) z Calm.i<|Tv z (V.ldS z P.u (by exact G9)) ?_
   refine Tm z z<|bE H fun ca cb H=>Tp z z (SX.two (XA.fr [] Lr z) (XA.fr [1,1] Lr z)) (O.D8 z (C2r ⟨ay,aA,aB,aC,aD,z,E.u,aE.u,aG.u,aI.u,aJ.u⟩ cb _) z fun ab dw dx dy cc=>?_) T.O9
   obtain ⟨dA,cd,ce⟩:=cc
   refine J9 _ cd<|T.O3 Li<|T.J5 fun a3 dB cf=>have a4:=A7.Z4 cf ce.u; Tp z z (SX.two (XA.fr [] Li z) (XA.fr [1,1] Li z)) (O.bs A4m B2B z (e:=z) (hk:=z) (xs:=[.tmp 69]) (hv:=CO.eq (CO.cons (G6.cells a4) CO.nil)) (hw:=O4.of z) (hd:=z) fun dC=>?_) T.O9
   have ao:A7 (VSl (VSl (VI .i64) 1) 1) a3 [[ab]] ([ca]:List (List (List Int))):=(A7.cons ⟨ab,z,a4⟩ A7.nil)
   refine bE H fun a5 a6 H=>Tp z z (SX.two (XA.fr [] Li z) (XA.fr [2,2] Li z)) (O.apX A4m A4m B2B z z z (j:=2) z (Src.row (j:=0) z) (O4.of z) (A7.ones VSl.plain ao) aj.u ao a6 z fun a7 dD dE=>?_) T.O9
   have cg:A7 (VSl (VSl (VI .i64) 1) 1) a3 (f ++ [[ab]]) a5:=A7.ap aj.u ao a6
   refine T.fl ?_
   refine G5 1 z<|T.fl ?_
   refine T.drop<|T.O3 Li<|Tv z (V.S9 z)<|Tv z (V.fa A3U z)<|T.J7 0 z fun ci cj=>Tp z z (SX.one (XA.fr [] Lr z) z) (O.st (vs:=[a7]) (k:=8) A5P z z (j:=1) z cj (by (simp only [Sl.ones,ci,Bool.and_true,Bool.true_and]) <;> rfl) ?_) T.O9
   refine T.fl ?_
   refine T.R7 (SX.one (XA.fr [] Lr z) z)<|Bn<|Th<|Rg<|bE H fun ck cm H=>Vv (V.J2 z z cm)<|Mv z<|Nt<|G5 1 z<|T.fl ?_
   refine G5 2 z<|T.fl ?_
   refine G5 3 z<|T.fl ?_
   refine G5 3 z<|T.fl ?_
   exact T.ag (bq,B,aN,a5,ck,C,D,aa,(d ++ [[qi (a.length:Int)]]),a7,(f ++ [[ab]])) ⟨(F4 H aM),bz.u,br.u,cg⟩
  refine T.exit<|Te<|Te<|have H:=D9 H aM; Be<|Th<|T.mt (a,n,o,p,b,q,d,m,f) ⟨H,A,ai,aj⟩
 rintro ⟨G,I,J,r,K,s,M,w,N⟩ dG dI ⟨cn,co,cp,cq⟩
 have H:=J8 cn bk
 refine T.norm [8] z<|T.fl ?_
 refine Sr<|Mv z<|Ag z<|Ag z<|Ag z<|Nt<|T.ret<|G5 1 z<|T.fl ?_
 refine T.J5 fun dJ dK cr=>have ct:=A7.Z4 cr co.u; G5 1 z<|T.fl ?_
 refine T.J5 fun dM dN cu=>have cw:=A7.Z4 cu cp.u; G5 1 z<|T.J5 fun dO dP cx=>have cy:=A7.Z4 cx cq.u; T.B5P fun dS dU cA=>?_
 cases H
 exact T.rl z (RVs.cons (RV.tmp z) (RVs.cons (RV.tmp z) (Rv z))) ⟨_,z,z,(Pt.mk cA ⟨S,U,W,X,Y,Z,r,s,w,z,ac.u,bd.u,be.u,bf.u,bg.u,bi.u,ct.u,cw.u,cy.u⟩)⟩
theorem C0A {h e f g} (H:B8n e f = some g):∀ L,G8 prog 213 [.int .i64 e,.int .i64 f] h (L) (fun v h' L'=>v = .int .i64 g∧L' = L):=by
 intro L
 refine G8.enter func213 z z z<|Sr<|Ag z<|Nt<|Sr<|Ag z<|Nt<|Sq<|Sr<|Mv z<|Mv z<|Nt ?_
 obtain ⟨i,k,m⟩:=M5 H
 refine T.M7 (α:=Int) [] z (fun d=>[(5,qi d)]) (fun d=>L) (fun d hh=>i = d) ?_ ?_
 ·have H:=k
  refine Bl<|T.M8 (α:=Nat×Int×Int) [0,7] z (fun ⟨b,a,c⟩=>[(5,qi a),(8,qi c)]) (fun ⟨b,a,c⟩=>L) (fun ⟨b,a,c⟩ hh=>iter (B3P e f) b (a,c) = some i) (fun ⟨b,a,c⟩=>b) (FUEL,(1:Int),(0:Int)) ⟨z,z,trivial⟩ z H ?_
  rintro ⟨b,a,c⟩ w x n
  obtain ⟨o,y,rfl,H,j⟩:=I1 n
  refine T.norm [5,8,0,7] z<|T.fl ?_
  refine Sr<|Vv (V.lt z z)<|Nt<|Sq<|T.cH H z (fun H=>?_) fun H=>?_
  ·refine Ks<|Sq<|Bl<|Sr<|Mv z<|Ag z<|Nt<|Sr<|Mv z<|Mv z<|Mv z<|bE H fun A p H=>Vv (V.A1s z z p)<|bE H fun q r H=>Vv (V.B1u z z r)<|Ag z<|Nt<|Sr<|Mv z<|Vv (V.gt z z)<|Nt<|T.cH H z dead fun H=>T.skip<|Bn<|Th<|Rg<|bE H fun s t H=>Vv (V.J2 z z t)<|Mv z<|Nt<|T.ag (o,q,s) (F4 H j)
  refine T.exit<|Te<|Te<|have H:=D9 H j; Be<|Th<|T.mt a H
 rintro d B C u
 have H:=J8 u m
 refine T.norm [5] z<|T.fl ?_
 exact Sr<|Mv z<|Ag z<|Nt<|T.ret<|E1 H
theorem B8Y {h a p1 b c} (m:M3 h a p1) (H:B7g p1 = some (b,c)):∀ L,G8 prog 125 [.agg a.toArray] h (L) (fun v h' L'=>∃ d,v = .tuple #[d,.int .i64 c]∧L' = L∧Pt A0d h' d b):=by
 intro L
 obtain ⟨n,o,p,q,r,rfl,s,e,w,x,y⟩:=m
 refine G8.enter func125 z z z<|Sr<|To (O.Y0 z z z fun ai aj ak f=>Ag z<|Ag z<|Nt<|Sr<|Vv (V.ldS z f (by exact G9)) ?_)
 refine bE H fun ⟨am,an,ao⟩ A H=>To (O.D8 z (B3z ⟨n,o,p,q,r,z,s.u,e.u,w.u,x.u,y.u⟩ A _) z fun ap aq ar au B=>?_)
 obtain ⟨aw,rfl,C,D⟩:=B
 refine J9 _ C<|Mv z<|Vv (V.ext z z)<|Vv (V.ext z z)<|Vv (V.ext z z)<|Ag z<|Ag z<|Ag z<|Nt<|Sq<|Sr<|Mv z<|Vv (V.ne z z)<|Nt<|T.cH H z dead fun H=>Ks<|Sq<|Sq<|T.O1 (t:=(.vs [0,1,2,3,4,5,6,7] (.alt 8 (.g (.v 9 .done)) .no))) 11 0 0 z z I4 (by kernel_rfl) ?_
 refine Tm z z<|have E:=D; ?_
 obtain ⟨ax,_,rfl,i,⟨G,I,J,K,M,N,P,S,U,rfl,W,X,Y,Z,aa,ab,j,ac,ad⟩⟩:=E
 refine Tv z (V.S9 z)<|Tv z (V.fa A0x z)<|Tv z (V.I9 (k:=6) E5 z i z)<|Tv z (V.P9 C9 z j)<|Tv z (V.fa K3 z)<|Tv z (V.I9 (k:=1) I7 z f.u z)<|Tv z (V.P9 K8 z e)<|bE H fun ay ae H=>Tp z z (SX.two (XA.fr [] Lr z) (XA.fr [] Lr z)) (O.D8 z (C0A ae _) z fun aA aB aC aD af=>?_) T.O9
 obtain ⟨rfl,ag⟩:=af
 refine J9 _ ag<|T.O3 Li<|Tv z (V.gt z z)<|T.R7 (SX.two (XA.fr [] Lr z) (XA.fr [] Lr z))<|Th<|T.cH H z dead fun H=>Ks<|Sr<|Mv z<|Ag z<|Ag z<|Nt<|T.ret ?_
 cases H
 exact T.rl z (RVs.cons (RV.tmp z) (Rv z)) ⟨_,z,z,(Pt.mk i.u ⟨G,I,J,K,M,N,P,S,U,z,W.u,X.u,Y.u,Z.u,aa.u,ab.u,j.u,ac.u,ad.u⟩)⟩
theorem B3c {h a b c} (e:Pt A0d h a b) (H:B3j b = some c):∀ L,G8 prog 69 [a] h (L) (fun v h' L'=>∃ d,L' = D5 3 1 v d::L∧A7 (VI .i64) h' d c):=by
 intro L
 refine G8.enter func69 z z z<|Sr<|Ag z<|Nt<|Sr<|To (O.b1 (E:=VI .i64) C9 M9 z z z z z fun s f=>Mv z<|have g:=e; ?_)
 obtain ⟨t,_,rfl,i,⟨w,x,y,A,B,C,D,G,I,rfl,J,K,j,M,N,P,S,U,W⟩⟩:=g
 refine Vv (V.S9 z)<|Vv (V.fa A8Q z)<|Vv (V.fa K3 z)<|Vv (V.I9 (k:=2) I7 z i z)<|Vv (V.P9 K8 z j)<|T.J5 fun X Y m=>have n:=A7.Z4 m f.u; bE H fun Z o H=>To (O.D8 z (A6e n o _) z fun aa ab ac ad p=>?_)
 obtain ⟨ae,q,r⟩:=p
 refine J9 _ q<|Ag z<|Nt<|T.ret ?_
 cases H
 exact T.rl z (Rv z) ⟨_,z,r⟩
theorem C2g {h p m q n o r s} (P:Pt A0d h p m) (a:G6 (VI .i64) 1 h q n) (H:B9M m n o r = some s):∀ L,G8 prog 134 [p,q,.int .i64 o,.int .i64 r] h (L) (fun v h' L'=>v = .bool s∧L' = L):=by
 intro L
 refine G8.enter func134 z z z<|Sr<|Ag z<|Nt<|Sq<|T.O1 (t:=(.vs [0,1,2,3,4,5,6,7,8,9] (.alt 10 .done .no))) 12 0 0 z z I4 (by kernel_rfl) ?_
 refine Tm z z<|have S:=P; ?_
 obtain ⟨aK,_,rfl,d,⟨aM,aN,aO,aP,aS,aU,aV,aW,aX,rfl,aY,aZ,a0,a1,a2,a3,f,w,g⟩⟩:=S
 refine Tv z (V.S9 z)<|Tv z (V.fa A0x z)<|Tv z (V.I9 (k:=6) E5 z d z)<|Tm z z<|Tm z z<|bE H fun a4 x H=>?_
 obtain ⟨a5,U,rfl⟩:=G6.at a x
 refine Tv z (V.ix C9 z z a (G7 x))<|Tv z (V.ld0 E8 z U z)<|bE H fun W y H=>?_
 obtain ⟨a6,X,rfl⟩:=G6.at f y
 refine Tv z (V.ix C9 z z f (G7 y))<|Tv z (V.ld0 E8 z X z)<|Ts z z (SX.two (XA.fr [] Lr z) (XA.fr [] Lr z)) (V.asg z) z ?_ T.O9
 refine T.R7 (SX.two (XA.fr [] Lr z) (XA.fr [] Lr z))<|Th<|Sq<|Sr<|Mv z<|Vv (V.lt z z)<|Mv z<|T.bH 26 H z dead fun H=>Mv z<|Mv z<|Vv (V.S9 z)<|Vv (V.fa A3U z)<|Vv (V.I9 (k:=8) A5P z d z)<|Mv z<|bE H fun a7 A H=>?_
 obtain ⟨a8,Y,⟨a9,rfl,Z⟩⟩:=G6.at g A
 refine Vv (V.ix A4m z z g (G7 A))<|Vv (V.ld0 A0H z Y z)<|Vv (V.P9 Q7 z Z)<|Vv (V.ge z z)<|Vv (V.R9 z z)<|Nt<|T.cH H z dead fun H=>Ks<|Sq<|T.O1 (t:=(.vs [0,1,2,3,4,5,6,7,8,9,10,11,12,13,14,15,16] (.alt 17 (.alt 18 .done .no) .no))) 20 0 0 z z I4 (by kernel_rfl) ?_
 refine Tm z z<|Tv z (V.S9 z)<|Tv z (V.fa A3U z)<|Tv z (V.I9 (k:=8) A5P z d z)<|Tm z z<|bE H fun ah B H=>?_
 obtain ⟨al,aa,⟨av,rfl,C⟩⟩:=G6.at g B
 refine Tv z (V.ix A4m z z g (G7 B))<|Tv z (V.ld0 A0H z aa z)<|Tm z z<|bE H fun ab D H=>?_
 obtain ⟨az,ac,⟨ba,rfl,i⟩⟩:=G6.at C D
 refine Tv z (V.ix Q7 z z C (G7 D))<|Tv z (V.ld0 E5 z ac z)<|Tm z z<|Tv z (V.S9 z)<|Tv z (V.fa A8H z)<|Tv z (V.I9 (k:=7) E5 z d z)<|Tm z z<|bE H fun ad E H=>?_
 obtain ⟨bb,ae,rfl⟩:=G6.at w E
 refine Tv z (V.ix C9 z z w (G7 E))<|Tv z (V.ld0 E8 z ae z)<|Ts z z (SX.two (XA.fr [] Lr z) (XA.fr [] Lr z)) (V.asg z) z ?_ T.O9
 refine Ts z z (SX.two (XA.fr [] Lr z) (XA.fr [] Lr z)) (V.asg z) z ?_ T.O9
 refine T.R7 (SX.two (XA.fr [] Lr z) (XA.fr [] Lr z))<|Th<|Sq<|Sq<|T.norm [0,1,2,9,10,11] z<|Rg<|Mv z<|Vv (V.P9 C9 z a)<|Mv z<|Nt ?_
 obtain ⟨G,af,ai⟩:=M5 H
 refine T.M7 (α:=Unit) [1,2,10,11] z (fun _u=>[]) (fun _u=>L) (fun _u hh=>G = ()) ?_ ?_
 ·have H:=af
  refine Bl<|T.M8 (α:=Nat×Int) [0,1,2,9,10,11,55,56] z (fun ⟨b,c⟩=>[(57,qi c)]) (fun ⟨b,c⟩=>L) (fun ⟨b,c⟩ hh=>iter (B4Q m n o W ab ad) b c = some G) (fun ⟨b,c⟩=>b) (FUEL,(0:Int)) ⟨z,trivial⟩ z H ?_
  rintro ⟨b,c⟩ bc bd aj
  obtain ⟨j,be,rfl,H,e⟩:=I1 aj
  refine T.norm [57,0,1,2,9,10,11,55,56] z<|T.fl ?_
  refine Sr<|Vv (V.lt z z)<|Nt<|Sq<|T.cH H z (fun H=>?_) fun H=>?_
  ·refine Ks<|Sq<|Bl<|Sr<|Mv z<|bE H fun bf I H=>?_
   obtain ⟨bg,ak,rfl⟩:=G6.at a I
   refine Vv (V.ix C9 z z a (G7 I))<|Vv (V.ld0 E8 z ak.u z)<|Ag z<|Ag z<|Nt<|Sr<|Mv z<|Mv z<|Vv (V.ne z z)<|Mv z<|T.bH 65 H z (fun H=>?_) fun H=>?_
   ·refine Mv z<|Vv (V.ge z z)<|Vv (V.R8 z z)<|Mv z<|T.bH 69 H z (fun H=>?_) fun H=>?_
    ·refine Mv z<|Vv (V.S9 z)<|Vv (V.fa A0x z)<|Vv (V.I9 (k:=6) E5 z d.u z)<|Mv z<|bE H fun bi J H=>?_
     obtain ⟨bj,am,rfl⟩:=G6.at f J
     refine Vv (V.ix C9 z z f (G7 J))<|Vv (V.ld0 E8 z am.u z)<|Mv z<|Vv (V.eq z z)<|Vv (V.R8 z z)<|Mv z<|T.bH 80 H z (fun H=>?_) fun H=>?_
     ·refine Mv z<|Mv z<|Mv z<|bE H fun bk an H=>Vv (V.A1s z z an)<|bE H fun bm K H=>?_
      obtain ⟨bn,ao,rfl⟩:=G6.at i K
      refine Vv (V.ix C9 z z i (G7 K))<|Vv (V.ld0 E8 z ao.u z)<|Mv z<|Mv z<|bE H fun bo ap H=>Vv (V.A1s z z ap)<|Vv (V.ne z z)<|Vv (V.R8 z z)<|Nt<|T.cH H z dead fun H=>T.skip<|Bn<|Th<|T.norm [0,1,2,9,10,11,55,56,57] z<|Rg<|bE H fun aq ar H=>Vv (V.J2 z z ar)<|Mv z<|Nt<|T.ag (j,aq) (F4 H e)
     refine Sk<|Sk<|Sk<|Sk<|Sk<|Sk<|Sk<|Sk<|Sk<|Sk<|Vv (V.R9 z z)<|Nt<|Cf z<|T.skip<|Bn<|Th<|Rg<|bE H fun au aw H=>Vv (V.J2 z z aw)<|Mv z<|Nt<|T.ag (j,au) (F4 H e)
    refine Sk<|Sk<|Sk<|Sk<|Sk<|Sk<|Sk<|Sk<|Sk<|Vv (V.R9 z z)<|Mv z<|Sk<|Sk<|Sk<|Sk<|Sk<|Sk<|Sk<|Sk<|Sk<|Sk<|Vv (V.R9 z z)<|Nt<|Cf z<|T.skip<|Bn<|Th<|Rg<|bE H fun ax ay H=>Vv (V.J2 z z ay)<|Mv z<|Nt<|T.ag (j,ax) (F4 H e)
   refine Sk<|Sk<|Vv (V.R9 z z)<|Mv z<|Sk<|Sk<|Sk<|Sk<|Sk<|Sk<|Sk<|Sk<|Sk<|Vv (V.R9 z z)<|Mv z<|Sk<|Sk<|Sk<|Sk<|Sk<|Sk<|Sk<|Sk<|Sk<|Sk<|Vv (V.R9 z z)<|Nt<|Cf z<|T.skip<|Bn<|Th<|Rg<|bE H fun aA aB H=>Vv (V.J2 z z aB)<|Mv z<|Nt<|T.ag (j,aA) (F4 H e)
  refine T.exit<|Te<|Te<|have H:=D9 H e; Be<|Th<|T.mt () H
 rintro _ bp bq aC
 have H:=J8 aC ai
 refine T.norm [1,2,10,11] z<|T.fl ?_
 refine Sq<|T.O1 (t:=(.vs [0,1,2,3,4,5,6,7,8,9,10,11,12,13,14,15] (.alt 16 .done .no))) 18 0 0 z z I4 (by kernel_rfl) ?_
 refine Tm z z<|Tm z z<|Tm z z<|bE H fun br M H=>?_
 obtain ⟨bs,aD,rfl⟩:=G6.at a M
 refine Tv z (V.ix C9 z z a (G7 M))<|Tv z (V.ld0 E8 z aD.u z)<|Tm z z<|bE H fun bt aE H=>Tv z (V.A1s z z aE)<|bE H fun bu N H=>?_
 obtain ⟨bw,aG,rfl⟩:=G6.at i N
 refine Tv z (V.ix C9 z z i (G7 N))<|Tv z (V.ld0 E8 z aG.u z)<|Tm z z<|Tm z z<|bE H fun bx O H=>?_
 obtain ⟨bA,aI,rfl⟩:=G6.at a O
 refine Tv z (V.ix C9 z z a (G7 O))<|Tv z (V.ld0 E8 z aI.u z)<|Tm z z<|bE H fun bB aJ H=>Tv z (V.A1s z z aJ)<|Tv z (V.lt z z)<|Ts z z (SX.two (XA.fr [] Lr z) (XA.fr [] Lr z)) (V.asg z) z ?_ T.O9
 exact T.R7 (SX.two (XA.fr [] Lr z) (XA.fr [] Lr z))<|Th<|T.ret<|E1 H
end Go.Proofs.X
open Go Go.Proofs Go.Proofs.Tryz Go.Sl Go.Dm
namespace Go.Proofs.X
theorem A3m : A0X prog 89 = some (205,2,16):=by kernel_rfl
theorem A3y : N8 prog 129 0 = some 0:=by kernel_rfl
theorem B1Q : N8 prog 129 1 = some 1:=by kernel_rfl
theorem B1S : N8 prog 129 2 = some 2:=by kernel_rfl
theorem A0B : N8 prog 129 3 = some 3:=by kernel_rfl
theorem A1G : N8 prog 129 4 = some 4:=by kernel_rfl
theorem A5g : N8 prog 201 0 = some 0:=by kernel_rfl
theorem B8S : N8 prog 205 0 = some 0:=by kernel_rfl
theorem A0m : N8 prog 205 1 = some 1:=by kernel_rfl
theorem A1i : X9 prog 121 = some (false,1):=by kernel_rfl
theorem C1z : X9 prog 203 = some (false,1):=by kernel_rfl
theorem B4Z : X9 prog 205 = some (true,2):=by kernel_rfl
theorem A5W : X9 prog 89 = some (false,1):=by kernel_rfl
theorem B0l : zer prog 205 = some (.agg #[.int .u8 (0),.int .i64 (0)]):=by kernel_rfl
theorem B9T (n:Nat):∀ {h:PH} {pb0:Nat} {r1:A0h} {v0_1:Value} {v0_3:Value} {v0_5:Value} {css0_6:List (List Value)} (hP0_2:Pt A0d h v0_1 r1.A3v) (hS0_4:G6 A0c 2 h v0_3 r1.A2g) (hR0_7:A7 (VI .i64) h css0_6 r1.U3) {last2:Int} {o_:(Int×(List Int))⊕A1X} (H:A9E n r1 last2 = some o_) (L:List E9),FnE prog 70 [.pointer (some ⟨pb0,0,none⟩),.int .i64 last2] h (blk pb0 (.cells [v0_1,.int .i64 r1.A1e,v0_3,.int .i64 r1.fat,v0_5].toArray 129)::D5 3 1 v0_5 css0_6::L) (PE (fun q_0 v h' L'=>∃ vl0_1 cssl0_2,v = .tuple #[]∧L' = blk pb0 (.cells [v0_1,.int .i64 r1.A1e,v0_3,.int .i64 q_0.1,vl0_1].toArray 129)::D5 3 1 vl0_1 cssl0_2::L∧A7 (VI .i64) h' cssl0_2 q_0.2) (fun x_=>.iface 125 (.agg #[.int .i64 x_.fat,.int .i64 x_.fe])) L o_):=by
  induction n with
  | zero=>intros; rename_i H _; cases H
  | succ n self=>
    intro h pb0 r1 v0_1 v0_3 v0_5 css0_6 hP0_2 hS0_4 hR0_7 last2 o_ H L
    refine FnE.enter func70 z ntmps70 z<|Sq<|Sq<|T.O1 (t:=(.vs [0,1,2,3,4,5,6,7,8,9] .done)) 11 1 1 z z I4 (by kernel_rfl) ?_
    refine Tm z z<|Tv z (V.S9 z)<|Tv z (V.fa A0B z)<|Tv z (Val.XA fun _ _ _=>V.ldO (k:=3) E8 z (j:=0) z z)<|Tm z z<|Tv z (V.S9 z)<|Tv z (V.fa B1S z)<|Tv z (Val.XA fun _ _ _=>V.ldO (k:=2) A5W z (j:=0) z z)<|Tv z (V.P9 A3m z hS0_4)<|Tv z (V.eq z z)<|T.R7 (SX.two (XA.fr [0] Lr z) (XA.fr [0] Lr z))<|Th<|T.cH H z dead fun H=>Ks<|Sq<|T.O1 (t:=(.vs [0,1,2,3,4,5,6,7,8,9] (.alt 10 (.alt 11 .done .no) .no))) 13 1 1 z z I4 (by kernel_rfl) ?_
    refine Tm z z<|Tv z (V.S9 z)<|Tv z (V.fa B1S z)<|Tv z (Val.XA fun _ _ _=>V.ldO (k:=2) A5W z (j:=0) z z)<|Tm z z<|Tv z (V.S9 z)<|Tv z (V.fa A0B z)<|Tv z (Val.XA fun _ _ _=>V.ldO (k:=3) E8 z (j:=0) z z)<|bE H fun o I H=>?_
    obtain ⟨bw,ac,rfl⟩:=G6.at hS0_4 I
    refine Tv z (V.ix A3m z z hS0_4 (G7 I))<|Tv z (V.ldS z ac (by exact B4Z)) ?_
    refine Tp z z (SX.two (XA.fr [0] Lr z) (XA.fr [0] Lr z)) (O.alloc B0l z z fun bx=>?_) T.O9
    refine Tp z z (SX.two (XA.fr [1] Lr z) (XA.fr [1] Lr z)) (O.stF (vs:=[.int .u8 o.H8,qi o.fN]) B4Z z z (j:=0) z z z z ?_) T.O9
    refine T.fl ?_
    refine T.freeze fun bA bB ad=>have a:=AtC.of ad; T.R7 (SX.two (XA.fr [0] Li z) (XA.fr [0] Li z))<|Th<|Sq<|Sr<|Vv (V.fa B8S z)<|Vv (V.I9 (k:=0) C1z z a z)<|Nt<|Bl<|Sr<|Vv (V.eq z z)<|Ag z<|Nt<|T.cH H z (fun H=>?_) fun H=>?_
    ·refine Sq<|Sq<|T.O1 (t:=(.vs [0,1,2,3,4,5,6,7,8,9,10,11,12,13,14,15,16,17,18,19,20,21,22,23] .done)) 25 2 2 z z I4 (by kernel_rfl) ?_
     refine Tv z (V.fa A0m z)<|Tv z (V.I9 (k:=1) E8 z a z)<|Tv z (V.lt z z)<|Tm z z<|T.bH 37 H z dead fun H=>Tv z (V.fa A0m z)<|Tv z (V.I9 (k:=1) E8 z a z)<|Tm z z<|Tv z (V.S9 z)<|Tv z (V.fa A1G z)<|Tv z (Val.XA fun _ _ _=>V.ldO (k:=4) E5 z (j:=0) z z)<|Tv z (Val.XA fun _ _ _=>V.A2a C9 z (j:=1) z hR0_7.len)<|Tv z (V.ge z z)<|Tv z (V.R9 z z)<|Tm z z<|T.bH 47 H z dead fun H=>Tm z z<|Tv z (V.S9 z)<|Tv z (V.fa A1G z)<|Tv z (Val.XA fun _ _ _=>V.ldO (k:=4) E5 z (j:=0) z z)<|Tv z (V.fa A0m z)<|Tv z (V.I9 (k:=1) E8 z a z)<|bE H fun bC J H=>?_
     obtain ⟨bD,ae,rfl⟩:=A7.get hR0_7 J
     refine Tv z (Val.XA fun _ _ _=>V.ixR C9 z z (j:=1) z (A7.bd hR0_7 J))<|Tv z (Val.XA fun _ _ _=>V.ldR E8 z (j:=1) z ae z)<|Tv z (V.ge z z)<|Tv z (V.R9 z z)<|T.R7 (SX.two (XA.fr [1,1] Lr z) (XA.fr [1,1] Lr z))<|Th<|T.cH H z dead fun H=>Ks<|Sq<|T.norm [0,4] z<|T.fl ?_
     refine Rg<|Mv z<|Vv (V.S9 z)<|Vv (V.fa A0B z)<|Vv (V.ldO (k:=3) E8 z (j:=0) z z)<|bE H fun K af H=>Vv (V.J2 z z af)<|Vv (V.S9 z)<|Vv (V.fa A0B z)<|To (O.st (vs:=[qi K]) (k:=3) E8 z z (j:=0) z z z<|Nt<|Sq<|Sr<|Mv z<|Vv (V.S9 z)<|Vv (V.fa A3y z)<|Vv (V.ldO (k:=0) A1i z (j:=0) z z)<|have ai:=hP0_2; ?_)
     obtain ⟨M,_,rfl,N,⟨aj,ak,am,an,ao,ap,aq,ar,au,rfl,aw,ax,ay,aA,aB,aC,P,aD,aE⟩⟩:=ai
     refine Vv (V.S9 z)<|Vv (V.fa A0x z)<|Vv (V.I9 (k:=6) E5 z N.u z)<|Vv (V.P9 C9 z P)<|Mv z<|Nt ?_
     obtain ⟨S,aG,aI⟩:=M5 H
     refine T.M7 (α:=Int×(List Int)×Value×(List (List Value))) [0] z (fun ⟨r,s,w,y⟩=>[]) (fun ⟨r,s,w,y⟩=>blk pb0 (.cells [.pointer (some M),qi r1.A1e,v0_3,qi r,w].toArray 129)::D5 3 1 w y::L) (fun ⟨r,s,w,y⟩ hh=>S = (Sum.inl (r,s))∧A7 (VI .i64) hh y s) ?_ ?_
     ·have H:=aG
      refine Bl<|T.M8 (α:=Nat×Int×(List Int)×Int×Value×(List (List Value))) [0,4,74] z (fun ⟨p,b,e,c,f,d⟩=>[(75,qi c)]) (fun ⟨p,b,e,c,f,d⟩=>blk pb0 (.cells [.pointer (some M),qi r1.A1e,v0_3,qi b,f].toArray 129)::D5 3 1 f d::L) (fun ⟨p,b,e,c,f,d⟩ hh=>iter (B3Q (A9E n) r1 o) p (b,e,c) = some S∧A7 (VI .i64) hh d e) (fun ⟨p,b,e,c,f,d⟩=>p) (FUEL,K,r1.U3,(0:Int),v0_5,css0_6) ⟨z,trivial⟩ z ⟨H,hR0_7.u⟩ ?_
      rintro ⟨p,b,e,c,f,d⟩ bG bI ⟨aJ,m⟩
      obtain ⟨U,bJ,rfl,H,B⟩:=I1 aJ
      refine T.norm [75,0,4,74] z<|T.fl ?_
      refine Sr<|Vv (V.lt z z)<|Nt<|Sq<|T.cH H z (fun H=>?_) fun H=>?_
      ·refine Ks<|Sq<|Bl<|Sr<|Mv z<|Ag z<|Nt<|Sr<|Mv z<|Vv (V.S9 z)<|Vv (V.fa A1G z)<|Vv (V.ldO (k:=4) E5 z (j:=0) z z)<|Mv z<|G5 1 z<|bE H fun aK aM H=>To (O.D8 z (G8.A0W (val:=.bool aK) func76 z V8 fun bK bM aN=>?_) z fun bN W bO bP aO=>?_)
       ·have aP:=A7.Z4 aN m.u
        exact A1t aP aM _
       obtain ⟨rfl,aS⟩:=aO
       refine J9 _ aS<|Vv (V.not z)<|Nt<|T.cH H z (fun H=>?_) fun H=>?_
       ·refine Sq<|G5 1 z<|T.O1 (t:=(.vs [0,1,2,3,4,5,6] (.x 7 (.alt 8 .done .no)))) 8 2 1 z z I4 (by kernel_rfl) ?_
        refine Tm z z<|Tv z (V.S9 z)<|Tv z (V.fa A1G z)<|Tv z (Val.XA fun _ _ _=>V.ldO (k:=4) E5 z (j:=0) z z)<|Tv z (V.fa A0m z)<|Tv z (V.I9 (k:=1) E8 z a.u z)<|Tm z z<|bE H fun bS C H=>?_
        obtain ⟨bU,bV,rfl⟩:=A7.get m C
        refine T.tx z z (Val.XA fun _ _ _=>V.ixR C9 z z (j:=1) z (A7.bd m C)) z Calm.i<|bE H fun X aU H=>Tp z z (SX.two (XA.fr [0] Lr z) (XA.fr [1,1] Lr z)) (O.stR E8 z z (j:=1) z (A7.bdN m C) z ?_) T.O9
        have aV:A7 (VI .i64) W (d.set o.fN.toNat [qi c]) X:=A7.set m.u (show (VI .i64) W [qi c] c from z) aU
        refine T.R7 (SX.one (XA.fr [1] Lr z) z)<|Th<|Sr<|Mv z<|Vv (V.fa A0m z)<|Vv (V.I9 (k:=1) E8 z a.u z)<|G5 1 z<|bE H fun aW aX H=>?_
        rcases aW with aY | bW
        rotate_left
        ·exact dead H
        refine To (O.D8 z (FnE.toS (self (r1:=(A0h.mk r1.A3v r1.A1e r1.A2g b X)) (Pt.mk N.u ⟨aj,ak,am,an,ao,ap,aq,ar,au,z,aw.u,ax.u,ay.u,aA.u,aB.u,aC.u,P.u,aD.u,aE.u⟩) hS0_4.u aV aX _) fun _ _ _ q=>q) z fun bX Y bY bZ aZ=>?_)
        obtain ⟨a0,Z,rfl,a1,A⟩:=aZ
        refine J9 _ a1<|Nt<|T.O1 (t:=(.vs [0,1,2,3,4,5] (.x 6 (.alt 7 .done .no)))) 7 2 1 z z I4 (by kernel_rfl) ?_
        refine Tm z z<|Tv z (V.S9 z)<|Tv z (V.fa A1G z)<|Tv z (Val.XA fun _ _ _=>V.ldO (k:=4) E5 z (j:=0) z z)<|Tv z (V.fa A0m z)<|Tv z (V.I9 (k:=1) E8 z a.u z)<|bE H fun b0 D H=>?_
        obtain ⟨b1,b2,rfl⟩:=A7.get A D
        refine T.tx z z (Val.XA fun _ _ _=>V.ixR C9 z z (j:=1) z (A7.bd A D)) z Calm.i<|bE H fun aa a2 H=>Tp z z (SX.two (XA.fr [0] Lr z) (XA.fr [1,1] Lr z)) (O.stR E8 z z (j:=1) z (A7.bdN A D) z ?_) T.O9
        have a3:A7 (VI .i64) Y (Z.set o.fN.toNat [qi (-1)]) aa:=A7.set A (show (VI .i64) Y [qi (-1)] (-1:Int) from z) a2
        refine T.R7 (SX.one (XA.fr [1] Lr z) z)<|Bn<|Th<|T.norm [0,4,74,75] z<|T.fl ?_
        refine Rg<|bE H fun a4 a5 H=>Vv (V.J2 z z a5)<|Mv z<|Nt<|G5 1 z<|T.ag (U,aY.1,aa,a4,a0,(Z.set o.fN.toNat [qi (-1)])) ⟨(F4 H B),a3⟩
       refine T.skip<|Bn<|Th<|Rg<|bE H fun a6 a7 H=>Vv (V.J2 z z a7)<|Mv z<|Nt<|G5 1 z<|T.ag (U,b,e,a6,f,d) ⟨(F4 H B),m.u⟩
      refine T.exit<|Te<|Te<|have H:=D9 H B; Be<|Th<|T.mt (b,e,f,d) ⟨H,m⟩
     rintro ⟨r,s,w,y⟩ b3 b4 ⟨a8,a9⟩
     have H:=J8 a8 aI
     refine T.norm [0] z<|T.fl ?_
     refine T.ret<|Br<|Tr ?_
     cases H
     exact T.D1x results70 Li (PE.ret ⟨_,_,z,z,a9⟩)
    refine Sr<|Vv (V.eq z z)<|Ag z<|Nt<|T.cH H z (fun H=>?_) fun H=>?_
    ·refine Sq<|T.O1 (t:=(.vs [0,1,2,3,4,5,6,7,8,9,10,11,12,13,14,15,16,17,18,19,20,21,22,23,24,25,26,27,28,29,30,31,32,33,34,35,36,37,38,39,40,41,42,43,44,45,46] (.alt 47 (.g (.v 48 (.v 49 .done))) .no))) 51 2 2 z z I4 (by kernel_rfl) ?_
     refine Tv z (V.fa A0m z)<|Tv z (V.I9 (k:=1) E8 z a z)<|Tv z (V.lt z z)<|Tm z z<|T.bH 110 H z dead fun H=>Tv z (V.fa A0m z)<|Tv z (V.I9 (k:=1) E8 z a z)<|Tm z z<|Tv z (V.S9 z)<|Tv z (V.fa A3y z)<|Tv z (Val.XA fun _ _ _=>V.ldO (k:=0) A1i z (j:=0) z z)<|have ah:=hP0_2; ?_
     obtain ⟨b5,_,rfl,E,⟨b6,b7,b8,b9,bh,bl,bv,bz,ca,rfl,al,cb,cc,cd,ce,G,cf,cg,ci⟩⟩:=ah
     refine Tv z (V.S9 z)<|Tv z (V.fa A8Q z)<|Tv z (V.fa P6 z)<|Tv z (V.I9 (k:=5) O7 z E.u z)<|Tv z (V.P9 Q5 z G)<|Tv z (V.ge z z)<|Tv z (V.R9 z z)<|Tm z z<|T.bH 124 H z dead fun H=>Tm z z<|Tv z (V.S9 z)<|Tv z (V.fa A3y z)<|Tv z (Val.XA fun _ _ _=>V.ldO (k:=0) A1i z (j:=0) z z)<|Tv z (V.S9 z)<|Tv z (V.fa A8Q z)<|Tv z (V.fa P6 z)<|Tv z (V.I9 (k:=5) O7 z E.u z)<|Tv z (V.fa A0m z)<|Tv z (V.I9 (k:=1) E8 z a z)<|bE H fun cj ab H=>?_
     obtain ⟨ck,av,rfl⟩:=G6.at G ab
     refine Tv z (V.ix Q5 z z G (G7 ab))<|Tv z (V.fa A1Q z)<|Tv z (V.I9 (k:=1) E8 z av.u z)<|Tv z (V.gt z z)<|Tv z (V.R9 z z)<|Tm z z<|T.bH 140 H z dead fun H=>Tm z z<|Tv z (V.S9 z)<|Tv z (V.fa A3y z)<|Tv z (Val.XA fun _ _ _=>V.ldO (k:=0) A1i z (j:=0) z z)<|Tv z (V.S9 z)<|Tv z (V.fa A5g z)<|Tv z (V.I9 (k:=0) R3 z E.u z)<|Tm z z<|Tv z (V.S9 z)<|Tv z (V.fa A1G z)<|Tv z (Val.XA fun _ _ _=>V.ldO (k:=4) E5 z (j:=0) z z)<|Tv z (V.fa A0m z)<|Tv z (V.I9 (k:=1) E8 z a z)<|G5 1 z<|bE H fun az ba H=>Tp z z (SX.two (XA.fr [0,1] Lr z) (XA.fr [0,1] Lr z)) (O.D8 z (G8.A0W (val:=qi az) func132 z V8 fun cm cn bb=>?_) z fun co cp cq cr bc=>?_) T.O9
     ·have be:=A7.Z4 bb hR0_7.u
      exact B3i al.u be ba _
     obtain ⟨rfl,bf⟩:=bc
     refine J9 _ bf<|T.O3 Li<|Tv z (V.eq z z)<|Tv z (V.R9 z z)<|T.R7 (SX.two (XA.fr [0,1] Lr z) (XA.fr [0,1] Lr z))<|Th<|T.cH H z dead fun H=>T.skip<|Bn<|Th<|T.norm [0] z<|T.fl ?_
     refine Rg<|Mv z<|Vv (V.S9 z)<|Vv (V.fa A0B z)<|Vv (V.ldO (k:=3) E8 z (j:=1) z z)<|bE H fun bg bi H=>Vv (V.J2 z z bi)<|Vv (V.S9 z)<|Vv (V.fa A0B z)<|To (O.st (vs:=[qi bg]) (k:=3) E8 z z (j:=1) z z z<|Ni ?_)
     cases H
     exact T.D0t results70 Li (PE.ret ⟨_,_,z,z,hR0_7.u⟩)
    refine Sr<|Vv (V.eq z z)<|Ag z<|Nt<|T.cH H z (fun H=>?_) fun H=>?_
    ·refine Sq<|T.O1 (t:=(.vs [0,1,2,3,4,5,6,7,8,9,10,11,12,13,14,15,16,18,19,20,21] (.alt 17 (.g (.v 22 (.v 23 .done))) .no))) 25 2 2 z z I4 (by kernel_rfl) ?_
     refine Tm z z<|Tv z (V.S9 z)<|Tv z (V.fa B1Q z)<|Tv z (Val.XA fun _ _ _=>V.ldO (k:=1) E8 z (j:=0) z z)<|Tv z (V.lt z z)<|Tm z z<|T.bH 166 H z dead fun H=>Tm z z<|Tv z (V.S9 z)<|Tv z (V.fa A3y z)<|Tv z (Val.XA fun _ _ _=>V.ldO (k:=0) A1i z (j:=0) z z)<|have bj:=hP0_2; ?_
     obtain ⟨cs,_,rfl,bk,⟨ct,cu,cw,cx,cy,cA,cB,cC,cD,rfl,bm,cE,cG,cI,cJ,cK,cM,cN,cO⟩⟩:=bj
     refine Tv z (V.S9 z)<|Tv z (V.fa A5g z)<|Tv z (V.I9 (k:=0) R3 z bk.u z)<|Tm z z<|Tv z (V.S9 z)<|Tv z (V.fa A1G z)<|Tv z (Val.XA fun _ _ _=>V.ldO (k:=4) E5 z (j:=0) z z)<|Tm z z<|Tv z (V.S9 z)<|Tv z (V.fa B1Q z)<|Tv z (Val.XA fun _ _ _=>V.ldO (k:=1) E8 z (j:=0) z z)<|G5 1 z<|bE H fun bn bo H=>Tp z z (SX.two (XA.fr [0,1] Lr z) (XA.fr [0,1] Lr z)) (O.D8 z (G8.A0W (val:=qi bn) func133 z V8 fun cP cS bp=>?_) z fun cU cV cW cX bq=>?_) T.O9
     ·have br:=A7.Z4 bp hR0_7.u
      exact B2J bm.u br bo _
     obtain ⟨rfl,bs⟩:=bq
     refine J9 _ bs<|T.O3 Li<|Tv z (V.lt z z)<|Tv z (V.R9 z z)<|T.R7 (SX.two (XA.fr [0,1] Lr z) (XA.fr [0,1] Lr z))<|Th<|T.cH H z dead fun H=>T.skip<|Bn<|Th<|T.norm [0] z<|T.fl ?_
     refine Rg<|Mv z<|Vv (V.S9 z)<|Vv (V.fa A0B z)<|Vv (V.ldO (k:=3) E8 z (j:=1) z z)<|bE H fun bt bu H=>Vv (V.J2 z z bu)<|Vv (V.S9 z)<|Vv (V.fa A0B z)<|To (O.st (vs:=[qi bt]) (k:=3) E8 z z (j:=1) z z z<|Ni ?_)
     cases H
     exact T.D0t results70 Li (PE.ret ⟨_,_,z,z,hR0_7.u⟩)
    exact dead H
end Go.Proofs.X
open Go Go.Proofs Go.Proofs.Tryz Go.Sl Go.Dm
namespace Go.Proofs.X
theorem C1O : A4f prog 129 = some ([.pointer none,.int .i64 (0),.slice none 0 0,.int .i64 (0),.slice none 0 0],[(0,1),(1,1),(2,1),(3,1),(4,1)]):=by kernel_rfl
theorem C1q : A0q prog 129 = true:=by kernel_rfl
theorem A7Y : X9 prog 45 = some (false,1):=by kernel_rfl
theorem C3H : zer prog 45 = some (.int .i64 (0)):=by kernel_rfl
theorem B4z {h : PH} {b0 b1 : Nat} (L : List E9) : FnQ prog 68 [.pointer (some ⟨b0,0,none⟩),.pointer (some ⟨b1,0,none⟩)] h L (fun _ L'=>L' = L):=by
  refine FnQ.enter func68 rfl ntmps68 results68 rfl rfl rfl ?_
  refine T.seq ?_
  refine T.region ?_
  refine T.v rfl (V.mv rfl) rfl ?_
  refine T.v rfl (V.neN underlying20 rfl) rfl ?_
  refine T.nil ?_
  refine T.thN ?_
  refine T.D0i rfl ?_
  refine T.skip ?_
  exact T.D2Y (Le.refl _) rfl
theorem B7x {h e p1 b f c g i} (m:M3 h e p1) (a:G6 A0c 2 h f c) (H:B4N p1 b c = some (g,i)):∀ L,G8 prog 25 [.agg e.toArray,.int .i64 b,f] h (L) (fun v h' L'=>v = .tuple #[.int .i64 g,.int .i64 i]∧L' = L):=by
 intro L
 obtain ⟨n,o,p,r,s,rfl,t,w,x,y,A⟩:=m
 refine G8.D0C func25 z ntmps25 z<|Sr<|To (O.Y0 z z z fun aa ab ac B=>To (O.alloc M9 z z fun ad=>To (O.alloc C3H z z fun ae=>Nt<|Sr<|Vv (V.ldS z B (by exact G9)) ?_)))
 refine bE H fun ⟨C,af,D⟩ E H=>To (O.D8 z (B3z ⟨n,o,p,r,s,z,t.u,w.u,x.u,y.u,A.u⟩ E _) z fun ag ai aj ak G=>?_)
 obtain ⟨am,rfl,I,d⟩:=G
 refine J9 _ I<|Mv z<|Vv (V.ext z z)<|Vv (V.ext z z)<|Vv (V.ext z z)<|Ag z<|Ag z<|To (O.stF (vs:=[qi D]) A7Y z z (j:=0) z z z z<|Nt<|Sq<|Sr<|Vv (V.A8c A7Y z (j:=0) z z)<|Vv (V.ne z z)<|Nt<|T.cH H z (fun H=>?_) fun H=>?_)
 ·exact dead H
 refine Ks<|Sq<|Sr<|Mv z<|Vv (V.P9 A3m z a)<|Vv (V.gt z z)<|Nt<|T.cH H z dead fun H=>Ks<|Sr<|Vv (V.mkf z z)<|To (T.dfr z<|Nt<|Sr<|Mv z<|Mv z<|Mv z<|Mv z<|bE H fun J K H=>To (O.D8 z (B3c d K _) z fun an ao ap aq M=>?_))
 obtain ⟨ar,N,P⟩:=M
 refine J9 _ N<|T.J7 0 z fun au S=>Vv (V.bld (xs:=[(0,.tmp 24),(1,.tmp 25),(2,.tmp 26),(4,.tmp 28)]) (cs:=[_,_,_,_,_]) C1O C1q z (F3.cons z (Pt.cells d) z (F3.cons z z z (F3.cons z (G6.cells a) z (F3.cons z S z F3.nil)))))<|To (O.box z z z fun aw=>Ag z<|Nt<|Sr<|Mv z<|bE H fun U W H=>?_)
 rcases U with ax | ay
 rotate_left
 ·exact dead H
 refine To (O.D8 z (FnE.toS (B9T _ (r1:=(A0h.mk C b c (0:Int) J)) d.u a.u P W _) fun _ _ _ q=>q) z fun aA aB aC aD X=>?_)
 obtain ⟨aE,aG,rfl,Y,aI⟩:=X
 refine J9 _ Y<|Nt<|Sq<|Sr<|Mv z<|Vv (V.S9 z)<|Vv (V.fa A0B z)<|Vv (V.ldO (k:=3) E8 z (j:=0) z z)<|Mv z<|Vv (V.P9 A3m z a)<|Vv (V.lt z z)<|Nt<|T.cH H z dead fun H=>Ks<|Sq<|T.norm [6,7] z<|T.fl ?_
 refine Rg<|To (O.stF (vs:=[qi 0]) E8 z z (j:=3) z z z z<|T.fl ?_)
 refine To (O.stF (vs:=[qi 0]) A7Y z z (j:=3) z z z z<|T.fl ?_)
 refine Nt<|T.ret<|T.D1Y<|T.lvQ (B4z _) fun aJ aK aM Z=>J9 _ Z<|G5 2 z<|T.fl ?_
 refine T.drop<|G5 2 z<|T.fl ?_
 refine T.drop<|G5 1 z ?_
 cases H
 exact T.C7R (L':=L) results25 (RVs.cons (RV.cell E8 z (j:=0) z z) (RVs.cons (RV.cell A7Y z (j:=1) z z) RVs.nil)) Li (fun _ iv=>iv.drop.drop) ⟨z,z⟩
end Go.Proofs.X
open Go Go.Proofs Go.Proofs.Tryz Go.Sl Go.Dm
namespace Go.Proofs.X
theorem C1Z : A4f prog 197 = some ([.pointer none,.int .i64 (0),.slice none 0 0,.slice none 0 0],[(0,1),(1,1),(2,1),(3,1)]):=by kernel_rfl
theorem C1n : A4f prog 205 = some ([.int .u8 (0),.int .i64 (0)],[(0,1),(1,1)]):=by kernel_rfl
theorem C1x : A0q prog 197 = true:=by kernel_rfl
theorem C2s : A0q prog 205 = true:=by kernel_rfl
theorem A4Z : N8 prog 197 0 = some 0:=by kernel_rfl
theorem B1O : N8 prog 197 1 = some 1:=by kernel_rfl
theorem A7M : N8 prog 197 2 = some 2:=by kernel_rfl
theorem A1J : N8 prog 197 3 = some 3:=by kernel_rfl
theorem B9t {h m c n d e o} (x:Pt A0d h m c) (f:G6 (VI .i64) 1 h n d) (H:B8q c d e = some o):∀ L,G8 prog 215 [m,n,.int .i64 e] h (L) (fun v h' L'=>v = .int .i64 o∧L' = L):=by
 intro L
 refine G8.enter func215 z z z<|Sr<|Ag z<|Nt<|Sq<|T.O1 (t:=(.vs [0,1,2,3,4,5,6,7,8,9] (.alt 10 .done .no))) 12 0 0 z z I4 (by kernel_rfl) ?_
 refine Tm z z<|have y:=x; ?_
 obtain ⟨aq,_,rfl,g,⟨A,B,C,D,E,G,I,J,K,rfl,M,N,P,S,U,W,i,X,j⟩⟩:=y
 refine Tv z (V.S9 z)<|Tv z (V.fa A0x z)<|Tv z (V.I9 (k:=6) E5 z g z)<|Tm z z<|Tm z z<|bE H fun ar p H=>?_
 obtain ⟨au,Y,rfl⟩:=G6.at f p
 refine Tv z (V.ix C9 z z f (G7 p))<|Tv z (V.ld0 E8 z Y z)<|bE H fun aw q H=>?_
 obtain ⟨ax,Z,rfl⟩:=G6.at i q
 refine Tv z (V.ix C9 z z i (G7 q))<|Tv z (V.ld0 E8 z Z z)<|Ts z z (SX.two (XA.fr [] Lr z) (XA.fr [] Lr z)) (V.asg z) z ?_ T.O9
 refine T.R7 (SX.two (XA.fr [] Lr z) (XA.fr [] Lr z))<|Th<|Sq<|Sr<|Mv z<|Vv (V.S9 z)<|Vv (V.fa A3U z)<|Vv (V.I9 (k:=8) A5P z g z)<|Mv z<|bE H fun aa r H=>?_
 obtain ⟨ay,ab,⟨aA,rfl,ac⟩⟩:=G6.at j r
 refine Vv (V.ix A4m z z j (G7 r))<|Vv (V.ld0 A0H z ab z)<|Vv (V.P9 Q7 z ac)<|Mv z<|Nt ?_
 obtain ⟨s,ad,ae⟩:=M5 H
 refine T.M7 (α:=Unit) [] z (fun _u=>[]) (fun _u=>L) (fun _u hh=>s = ()) ?_ ?_
 ·have H:=ad
  refine Bl<|T.M8 (α:=Nat×Int) [0,1,2,26] z (fun ⟨a,b⟩=>[(27,qi b)]) (fun ⟨a,b⟩=>L) (fun ⟨a,b⟩ hh=>iter (B2M c d e aa) a b = some s) (fun ⟨a,b⟩=>a) (FUEL,(0:Int)) ⟨z,trivial⟩ z H ?_
  rintro ⟨a,b⟩ aB aC af
  obtain ⟨ai,aD,rfl,H,w⟩:=I1 af
  refine T.norm [27,0,1,2,26] z<|T.fl ?_
  refine Sr<|Vv (V.lt z z)<|Nt<|Sq<|T.cH H z (fun H=>?_) fun H=>?_
  ·refine Ks<|Sq<|Bl<|Sr<|Mv z<|Ag z<|Nt<|Sr<|Mv z<|Mv z<|Mv z<|Mv z<|bE H fun aE aj H=>To (O.D8 z (C2g (Pt.mk g.u ⟨A,B,C,D,E,G,I,J,K,z,M.u,N.u,P.u,S.u,U.u,W.u,i.u,X.u,j.u⟩) f.u aj _) z fun aG aI aJ aK ak=>?_)
   obtain ⟨rfl,am⟩:=ak
   refine J9 _ am<|Nt<|T.cH H z dead fun H=>T.skip<|Bn<|Th<|Rg<|bE H fun an ao H=>Vv (V.J2 z z ao)<|Mv z<|Nt<|T.ag (ai,an) (F4 H w)
  refine T.exit<|Te<|Te<|have H:=D9 H w; Be<|Th<|T.mt () H
 rintro _ aM aN ap
 have H:=J8 ap ae
 refine T.norm [] z<|T.fl ?_
 exact Sr<|Ag z<|Nt<|T.ret<|E1 H
theorem A9X {h c p1 v0_1 v0_3 css0_4 v0_6 css0_7 a b f q_0} (hP0_2:Pt A0d h v0_1 p1.A3v) (hR0_5:A7 A0c h css0_4 p1.A2g) (hR0_8:A7 (VI .i64) h css0_7 p1.U3) (H:B1x p1 a b = some (f,q_0)):∀ L,G8 prog 214 [.pointer (some ⟨c,0,none⟩),.int .u8 a,.int .i64 b] h (blk c (.cells [v0_1,.int .i64 p1.A1e,v0_3,v0_6].toArray 197)::D5 205 2 v0_3 css0_4::D5 3 1 v0_6 css0_7::L) (fun v h' L'=>∃ vl0_1 cssl0_2 vl0_4 cssl0_5,v = .bool f∧L' = blk c (.cells [v0_1,.int .i64 p1.A1e,vl0_1,vl0_4].toArray 197)::D5 205 2 vl0_1 cssl0_2::D5 3 1 vl0_4 cssl0_5::L∧A7 A0c h' cssl0_2 q_0.1∧A7 (VI .i64) h' cssl0_5 q_0.2):=by
 intro L
 refine G8.enter func214 z z z<|Sr<|Ag z<|Nt<|Sr<|Mv z<|Mv z<|Vv (V.S9 z)<|Vv (V.fa A7M z)<|Vv (V.ldO (k:=2) A5W z (j:=0) z z)<|Mv z<|Mv z<|Vv (V.bld (xs:=[(0,.tmp 12),(1,.tmp 13)]) (cs:=[_,_]) C1n C2s z (F3.cons z z z (F3.cons z z z F3.nil)))<|To (O.bs A3m B0l z (e:=z) (hk:=z) (xs:=[.tmp 14]) (hv:=CO.eq (CO.cons z CO.nil)) (hw:=O4.of z) (hd:=z) fun q=>have d:A7 A0c h [[.int .u8 a,qi b]] ([(Y2.mk a b)]:List Y2):=(A7.cons z A7.nil); bE H fun i g H=>To (O.apX A3m A3m B0l z z z (j:=2) z (Src.row (j:=0) z) (O4.of z) (A7.ones A0c.plain d) hR0_5 d g z fun m r s=>have n:A7 A0c h (css0_4 ++ [[.int .u8 a,qi b]]) i:=A7.ap hR0_5 d g; T.fl ?_))
 refine G5 1 z<|T.fl ?_
 refine T.drop<|Vv (V.S9 z)<|Vv (V.fa A7M z)<|T.J7 0 z fun o p=>To (O.st (vs:=[m]) (k:=2) A5W z z (j:=1) z p (by (simp only [Sl.ones,o,Bool.and_true,Bool.true_and]) <;> rfl) ?_)
 refine T.fl ?_
 refine Nt<|Sr<|Ag z<|Nt<|T.ret ?_
 cases H
 exact T.rl z (Rv z) ⟨_,_,_,_,z,z,n,hR0_8⟩
theorem C0q (n:Nat):∀ {h:PH} {pb0:Nat} {p1:U7} {v0_1:Value} {v0_3:Value} {css0_4:List (List Value)} {v0_6:Value} {css0_7:List (List Value)} (hP0_2:Pt A0d h v0_1 p1.A3v) (hR0_5:A7 A0c h css0_4 p1.A2g) (hR0_8:A7 (VI .i64) h css0_7 p1.U3) {r_0:Bool} {q_0:(List Y2)×(List Int)} (H:A9y n p1 = some (r_0,q_0)) (L:List E9),G8 prog 126 [.pointer (some ⟨pb0,0,none⟩)] h (blk pb0 (.cells [v0_1,.int .i64 p1.A1e,v0_3,v0_6].toArray 197)::D5 205 2 v0_3 css0_4::D5 3 1 v0_6 css0_7::L) (fun v h' L'=>∃ vl0_1 cssl0_2 vl0_4 cssl0_5,v = .bool r_0∧L' = blk pb0 (.cells [v0_1,.int .i64 p1.A1e,vl0_1,vl0_4].toArray 197)::D5 205 2 vl0_1 cssl0_2::D5 3 1 vl0_4 cssl0_5::L∧A7 A0c h' cssl0_2 q_0.1∧A7 (VI .i64) h' cssl0_5 q_0.2):=by
  induction n with
  | zero=>intros; rename_i H _; cases H
  | succ n self=>
    intro h pb0 p1 v0_1 v0_3 css0_4 v0_6 css0_7 hP0_2 hR0_5 hR0_8 r_0 q_0 H L
    refine G8.enter func126 z z z<|Sr<|Ag z<|Nt<|Sq<|Sq<|G5 2 z<|T.fl ?_
    refine G5 1 z<|T.fl ?_
    refine T.O1 (t:=(.vs [0,1,2,3,4,5,6,7,8,9,10] (.alt 11 (.g (.vs [12,13,14] (.alt 15 (.alt 16 .done .no) .no))) .no))) 18 2 2 z z I4 (by kernel_rfl) ?_
    refine Tm z z<|Tv z (V.S9 z)<|Tv z (V.fa A4Z z)<|Tv z (Val.XA fun _ _ _=>V.ldO (k:=0) A1i z (j:=0) z z)<|have aA:=hP0_2; ?_
    obtain ⟨ai,_,rfl,d,⟨s,w,x,y,A,B,C,D,E,rfl,o,G,I,J,K,M,q,N,P⟩⟩:=aA
    refine Tv z (V.S9 z)<|Tv z (V.fa A5g z)<|Tv z (V.I9 (k:=0) R3 z d z)<|Tm z z<|Tv z (V.S9 z)<|Tv z (V.fa A1J z)<|Tv z (Val.XA fun _ _ _=>V.ldO (k:=3) E5 z (j:=0) z z)<|G5 1 z<|T.fl ?_
    refine bE H fun ⟨aB,aC⟩ aD H=>Tp z z (SX.two (XA.fr [0,1] Lr z) (XA.fr [0,1] Lr z)) (O.D8 z (G8.A0W (val:=.tuple #[qi aB,.bool aC]) func211 z V8 fun bV bW aE=>?_) z fun bX bY bZ b0 aG=>?_) T.O9
    ·have aI:=A7.Z4 aE hR0_8.u
     exact B5x o.u aI aD _
    obtain ⟨rfl,aJ⟩:=aG
    refine J9 _ aJ<|T.O3 Li<|Tm z z<|Tv z (V.ext z z)<|Tv z (V.ext z z)<|Ts z z (SX.two (XA.fr [0,1] Lr z) (XA.fr [0,1] Lr z)) (V.asg z) z ?_ T.O9
    refine Ts z z (SX.two (XA.fr [0,1] Lr z) (XA.fr [0,1] Lr z)) (V.asg z) z ?_ T.O9
    refine T.R7 (SX.two (XA.fr [0,1] Lr z) (XA.fr [0,1] Lr z))<|Th<|Sr<|Mv z<|Nt<|T.cH H z (fun H=>?_) fun H=>?_
    ·refine Sr<|Mv z<|Mv z<|G5 2 z<|T.fl ?_
     refine G5 2 z<|T.fl ?_
     refine bE H fun ⟨b1,b2⟩ aK H=>To (O.D8 z (A9X (p1:=(U7.mk p1.A3v p1.A1e p1.A2g p1.U3)) (Pt.mk d.u ⟨s,w,x,y,A,B,C,D,E,z,o.u,G.u,I.u,J.u,K.u,M.u,q.u,N.u,P.u⟩) hR0_5.u hR0_8.u aK _) z fun b3 b4 b5 b6 aM=>?_)
     obtain ⟨b7,b8,b9,bh,rfl,aN,aO,aP⟩:=aM
     refine J9 _ aN<|Ag z<|Nt<|T.ret<|Tr ?_
     cases H
     exact T.rl z (Rv z) ⟨_,_,_,_,z,z,aO,aP⟩
    refine Ks<|Sq<|Sq<|T.O1 (t:=(.vs [0,1,2,3,4,5,6,7,8,9,10,11,12,13,14,15,16,18,19,20,21] (.alt 17 (.g (.v 22 (.v 23 .done))) .no))) 25 2 2 z z I4 (by kernel_rfl) ?_
    refine Tm z z<|Tv z (V.S9 z)<|Tv z (V.fa B1O z)<|Tv z (Val.XA fun _ _ _=>V.ldO (k:=1) E8 z (j:=1) z z)<|Tv z (V.ge z z)<|Tm z z<|T.bH 33 H z (fun H=>?_) fun H=>?_
    ·refine Tm z z<|Tv z (V.S9 z)<|Tv z (V.fa A4Z z)<|Tv z (Val.XA fun _ _ _=>V.ldO (k:=0) A1i z (j:=1) z z)<|Tv z (V.S9 z)<|Tv z (V.fa A5g z)<|Tv z (V.I9 (k:=0) R3 z d.u z)<|Tm z z<|Tv z (V.S9 z)<|Tv z (V.fa A1J z)<|Tv z (Val.XA fun _ _ _=>V.ldO (k:=3) E5 z (j:=1) z z)<|Tm z z<|Tv z (V.S9 z)<|Tv z (V.fa B1O z)<|Tv z (Val.XA fun _ _ _=>V.ldO (k:=1) E8 z (j:=1) z z)<|bE H fun aS aU H=>Tp z z (SX.two (XA.fr [1,1] Lr z) (XA.fr [1,1] Lr z)) (O.D8 z (G8.A0W (val:=qi aS) func133 z V8 fun bl bv aV=>?_) z fun bz ca cb cc aW=>?_) T.O9
     ·have aX:=A7.Z4 aV hR0_8.u
      exact B2J o.u aX aU _
     obtain ⟨rfl,aY⟩:=aW
     refine J9 _ aY<|T.O3 Li<|Tv z (V.ge z z)<|Tv z (V.R8 z z)<|T.R7 (SX.two (XA.fr [1,1] Lr z) (XA.fr [1,1] Lr z))<|Th<|T.cH H z (fun H=>?_) fun H=>?_
     ·refine Sq<|T.norm [0] z<|T.fl ?_
      refine Rg<|Mv z<|G5 2 z<|T.fl ?_
      refine G5 2 z<|T.fl ?_
      refine bE H fun ⟨cd,ce⟩ aZ H=>To (O.D8 z (A9X (p1:=(U7.mk p1.A3v p1.A1e p1.A2g p1.U3)) (Pt.mk d.u ⟨s,w,x,y,A,B,C,D,E,z,o.u,G.u,I.u,J.u,K.u,M.u,q.u,N.u,P.u⟩) hR0_5.u hR0_8.u aZ _) z fun cf cg ci cj a0=>?_)
      obtain ⟨ck,cm,cn,co,rfl,a1,a2,a3⟩:=a0
      refine J9 _ a1<|Ag z<|Nt<|T.ret<|Tr ?_
      cases H
      exact T.rl z (Rv z) ⟨_,_,_,_,z,z,a2,a3⟩
     refine Ks<|Sq<|T.norm [0] z<|T.fl ?_
     refine Rg<|Mv z<|Vv (V.S9 z)<|Vv (V.fa A1J z)<|Vv (V.ldO (k:=3) E5 z (j:=1) z z)<|bE H fun S a4 H=>To (O.D8 z (G8.A0W (val:=qi S) func140 z V8 fun cp cq a5=>?_) z fun cr cs ct cu a6=>?_)
     ·have a7:=A7.Z4 a5 hR0_8.u
      exact B2A a7 a4 _
     obtain ⟨rfl,a8⟩:=a6
     refine J9 _ a8<|Ag z<|Nt<|Sq<|Sr<|Mv z<|Vv (V.lt z z)<|Nt<|T.cH H z (fun H=>?_) fun H=>?_
     ·refine Sr<|Ag z<|Nt<|T.ret<|Tr<|G5 2 z<|T.fl ?_
      refine G5 2 z<|T.fl ?_
      cases H
      exact T.rl z (Rv z) ⟨_,_,_,_,z,z,hR0_5.u,hR0_8.u⟩
     refine Ks<|Sr<|Mv z<|Mv z<|G5 2 z<|T.fl ?_
     refine G5 2 z<|T.fl ?_
     refine bE H fun ⟨cw,aj⟩ a9 H=>To (O.D8 z (A9X (p1:=(U7.mk p1.A3v p1.A1e p1.A2g p1.U3)) (Pt.mk d.u ⟨s,w,x,y,A,B,C,D,E,z,o.u,G.u,I.u,J.u,K.u,M.u,q.u,N.u,P.u⟩) hR0_5.u hR0_8.u a9 _) z fun cx cy cA cB ah=>?_)
     obtain ⟨al,av,az,ba,rfl,bb,bc,be⟩:=ah
     refine J9 _ bb<|Nt<|Sq<|Sr<|Mv z<|Vv (V.S9 z)<|Vv (V.fa A4Z z)<|Vv (V.ldO (k:=0) A1i z (j:=0) z z)<|Vv (V.S9 z)<|Vv (V.fa A0x z)<|Vv (V.I9 (k:=6) E5 z d.u z)<|Vv (V.P9 C9 z q)<|Mv z<|Nt ?_
     obtain ⟨ak,bf,am⟩:=M5 H
     refine T.M7 (α:=(List Y2)×(List Int)×Value×(List (List Value))×Value×(List (List Value))) [0] z (fun ⟨U,W,X,Y,Z,aa⟩=>[]) (fun ⟨U,W,X,Y,Z,aa⟩=>blk pb0 (.cells [.pointer (some ai),qi p1.A1e,X,Z].toArray 197)::D5 205 2 X Y::D5 3 1 Z aa::L) (fun ⟨U,W,X,Y,Z,aa⟩ hh=>ak = (Sum.inl (U,W))∧A7 A0c hh Y U∧A7 (VI .i64) hh aa W) ?_ ?_
     ·have H:=bf
      refine Bl<|T.M8 (α:=Nat×(List Y2)×(List Int)×Int×Value×(List (List Value))×Value×(List (List Value))) [0,5,71] z (fun ⟨r,a,e,b,f,i,m,c⟩=>[(72,qi b)]) (fun ⟨r,a,e,b,f,i,m,c⟩=>blk pb0 (.cells [.pointer (some ai),qi p1.A1e,f,m].toArray 197)::D5 205 2 f i::D5 3 1 m c::L) (fun ⟨r,a,e,b,f,i,m,c⟩ hh=>iter (B3X (A9y n) p1 S) r (a,e,b) = some ak∧A7 A0c hh i a∧A7 (VI .i64) hh c e) (fun ⟨r,a,e,b,f,i,m,c⟩=>r) (FUEL,aj.1,aj.2,(0:Int),al,av,az,ba) ⟨z,trivial⟩ z ⟨H,bc,be⟩ ?_
      rintro ⟨r,a,e,b,f,i,m,c⟩ cC cD ⟨bg,ad,p⟩
      obtain ⟨an,cE,rfl,H,ab⟩:=I1 bg
      refine T.norm [72,0,5,71] z<|T.fl ?_
      refine Sr<|Vv (V.lt z z)<|Nt<|Sq<|T.cH H z (fun H=>?_) fun H=>?_
      ·refine Ks<|Sq<|Bl<|Sr<|Mv z<|Ag z<|Nt<|Sq<|Sr<|Mv z<|Vv (V.S9 z)<|Vv (V.fa A1J z)<|Vv (V.ldO (k:=3) E5 z (j:=0) z z)<|Mv z<|G5 2 z<|T.fl ?_
       refine bE H fun bi bj H=>To (O.D8 z (G8.A0W (val:=.bool bi) func76 z V8 fun cG cI bk=>?_) z fun cJ ao cK cM bm=>?_)
       ·have bn:=A7.Z4 bk p.u
        exact A1t bn bj _
       obtain ⟨rfl,bo⟩:=bm
       refine J9 _ bo<|Nt<|T.cH H z (fun H=>?_) fun H=>?_
       ·refine T.exit<|Te<|Be<|Th<|Rg<|bE H fun bp bq H=>Vv (V.J2 z z bq)<|Mv z<|Nt<|G5 2 z<|T.fl ?_
        refine G5 2 z<|T.fl ?_
        exact T.ag (an,a,e,bp,f,i,m,c) ⟨(F4 H ab),ad.u,p.u⟩
       refine Ks<|Sr<|Mv z<|Vv (V.S9 z)<|Vv (V.fa A1J z)<|Vv (V.ldO (k:=3) E5 z (j:=1) z z)<|Mv z<|Mv z<|bE H fun cN ae H=>?_
       obtain ⟨cO,cP,rfl⟩:=A7.get p ae
       refine Vv (V.ixR C9 z z (j:=0) z (A7.bd p ae))<|bE H fun ap br H=>To (O.stR E8 z z (j:=0) z (A7.bdN p ae) z<|have aq:A7 (VI .i64) ao (c.set S.toNat [qi b]) ap:=A7.set p.u (show (VI .i64) ao [qi b] b from z) br; Nt<|Sr<|Ag z<|Nt<|Sq<|Sq<|T.O1 (t:=(.vs [0,1,2,3,4,5,6,7,8] (.alt 9 (.alt 10 .done .no) .no))) 12 2 2 z z I4 (by kernel_rfl) ?_)
       refine Tm z z<|Tv z (V.S9 z)<|Tv z (V.fa A4Z z)<|Tv z (Val.XA fun _ _ _=>V.ldO (k:=0) A1i z (j:=1) z z)<|Tm z z<|Tv z (V.S9 z)<|Tv z (V.fa A1J z)<|Tv z (Val.XA fun _ _ _=>V.ldO (k:=3) E5 z (j:=1) z z)<|Tm z z<|bE H fun bs bt H=>Tp z z (SX.two (XA.fr [1,1] Lr z) (XA.fr [1,1] Lr z)) (O.D8 z (G8.A0W (val:=qi bs) func215 z V8 fun cS cU bu=>?_) z fun cV cW cX cY bw=>?_) T.O9
       ·have bx:=A7.Z4 bu aq.u
        exact B9t (Pt.mk d.u ⟨s,w,x,y,A,B,C,D,E,z,o.u,G.u,I.u,J.u,K.u,M.u,q.u,N.u,P.u⟩) bx bt _
       obtain ⟨rfl,bA⟩:=bw
       refine J9 _ bA<|Ts z z (SX.two (XA.fr [1,1] Li z) (XA.fr [1,1] Li z)) (V.asg z) z ?_ T.O9
       refine T.R7 (SX.two (XA.fr [1,1] Li z) (XA.fr [1,1] Li z))<|Th<|Sr<|Mv z<|Vv (V.ge z z)<|Nt<|T.cH H z dead fun H=>T.norm [0,5,71,72] z<|T.fl ?_
       refine Rg<|Mv z<|G5 2 z<|T.fl ?_
       refine G5 2 z<|T.fl ?_
       refine bE H fun ⟨cZ,bB⟩ bC H=>To (O.D8 z (self (p1:=(U7.mk p1.A3v p1.A1e a ap)) (Pt.mk d.u ⟨s,w,x,y,A,B,C,D,E,z,o.u,G.u,I.u,J.u,K.u,M.u,q.u,N.u,P.u⟩) ad.u aq.u bC _) z fun c0 ar c1 c2 bD=>?_)
       obtain ⟨bG,bI,bJ,au,rfl,bK,aw,ac⟩:=bD
       refine J9 _ bK<|Ag z<|Nt<|Sr<|Mv z<|Vv (V.S9 z)<|Vv (V.fa A1J z)<|Vv (V.ldO (k:=3) E5 z (j:=0) z z)<|Mv z<|bE H fun c3 af H=>?_
       obtain ⟨c4,c5,rfl⟩:=A7.get ac af
       refine Vv (V.ixR C9 z z (j:=2) z (A7.bd ac af))<|bE H fun ax bM H=>To (O.stR E8 z z (j:=2) z (A7.bdN ac af) z<|have ay:A7 (VI .i64) ar (au.set S.toNat [qi (-1)]) ax:=A7.set ac (show (VI .i64) ar [qi (-1)] (-1:Int) from z) bM; Nt<|Sr<|Mv z<|Vv (V.not z)<|Nt<|T.cH H z (fun H=>?_) fun H=>?_)
       ·refine Sr<|Ag z<|Nt<|T.ret<|Br<|Tr<|Tr<|have H:=D9 H ab; Br<|Tr<|have H:=J8 H am; G5 2 z<|T.fl ?_
        refine G5 2 z<|T.fl ?_
        cases H
        exact T.rl z (Rv z) ⟨_,_,_,_,z,z,aw,ay⟩
       refine T.skip<|Bn<|Th<|Rg<|bE H fun bN bO H=>Vv (V.J2 z z bO)<|Mv z<|Nt<|G5 2 z<|T.fl ?_
       refine G5 2 z<|T.fl ?_
       exact T.ag (an,bB.1,ax,bN,bG,bI,bJ,(au.set S.toNat [qi (-1)])) ⟨(F4 H ab),aw,ay⟩
      refine T.exit<|Te<|Te<|have H:=D9 H ab; Be<|Th<|T.mt (a,e,f,i,m,c) ⟨H,ad,p⟩
     rintro ⟨U,W,X,Y,Z,aa⟩ c6 c7 ⟨bP,bS,bU⟩
     have H:=J8 bP am
     refine T.norm [0] z<|T.fl ?_
     refine Sr<|Ag z<|Nt<|T.ret ?_
     cases H
     exact T.rl z (Rv z) ⟨_,_,_,_,z,z,bS,bU⟩
    exact dead H
theorem B8W {h c p1 a d e} (i:M3 h c p1) (H:B6T p1 a = some (d,e)):∀ L,G8 prog 63 [.agg c.toArray,.int .i64 a] h (L) (fun v h' L'=>∃ f g,v = .tuple #[f,.int .i64 e]∧L' = D5 205 2 f g::L∧A7 A0c h' g d):=by
 intro L
 obtain ⟨m,n,o,p,q,rfl,r,s,t,w,x⟩:=i
 refine G8.enter func63 z z z<|Sr<|To (O.Y0 z z z fun aa ab ac y=>Ag z<|Ag z<|Nt<|Sr<|Vv (V.ldS z y (by exact G9)) ?_)
 refine bE H fun ⟨A,ad⟩ B H=>To (O.D8 z (B8Y ⟨m,n,o,p,q,z,r.u,s.u,t.u,w.u,x.u⟩ B _) z fun ae af ag ai C=>?_)
 obtain ⟨aj,rfl,D,b⟩:=C
 refine J9 _ D<|Mv z<|Vv (V.ext z z)<|Vv (V.ext z z)<|Ag z<|Ag z<|Nt<|Sq<|Sr<|Mv z<|Vv (V.ne z z)<|Nt<|T.cH H z dead fun H=>Ks<|Sr<|Mv z<|Mv z<|Mv z<|bE H fun E G H=>To (O.D8 z (B3c b G _) z fun ak I am an J=>?_)
 obtain ⟨ao,K,M⟩:=J
 refine J9 _ K<|T.J7 0 z fun ap N=>Vv (V.bld (xs:=[(0,.tmp 17),(1,.tmp 18),(3,.tmp 20)]) (cs:=[_,_,_,_]) C1Z C1x z (F3.cons z (Pt.cells b) z (F3.cons z z z (F3.cons z N z F3.nil))))<|To (O.box z z z fun aq=>Ag z<|Nt<|Sq<|Sr<|Mv z<|T.U9 205 2<|have P:A7 A0c I [] ([]:List Y2):=A7.nil; G5 2 z<|T.fl ?_)
 refine G5 1 z<|T.fl ?_
 refine G5 2 z<|T.fl ?_
 refine bE H fun ⟨ar,au⟩ S H=>To (O.D8 z (C0q _ (p1:=(U7.mk A a ([]:List Y2) E)) b.u P M S _) z fun aw U ax ay W=>?_)
 obtain ⟨aA,aB,aC,aD,rfl,X,Y,aE⟩:=W
 refine J9 _ X<|Vv (V.not z)<|Nt<|T.cH H z (fun H=>?_) fun H=>?_
 ·refine Sr<|Ag z<|Ag z<|Nt<|T.ret<|Tr<|T.U9 205 2<|have Z:A7 A0c U [] ([]:List Y2):=A7.nil; G5 1 z<|T.fl ?_
  refine T.drop<|G5 1 z<|T.fl ?_
  refine T.drop<|G5 1 z<|T.drop ?_
  cases H
  exact T.rl z (RVs.cons (RV.tmp z) (Rv z)) ⟨_,_,z,z,Z⟩
 refine Ks<|Sr<|Mv z<|Vv (V.S9 z)<|Vv (V.fa A7M z)<|Vv (V.ldO (k:=2) A5W z (j:=0) z z)<|Ag z<|Ag z<|Nt<|T.ret<|T.drop<|G5 1 z<|T.drop ?_
 cases H
 exact T.rl z (RVs.cons (RV.tmp z) (Rv z)) ⟨_,_,z,z,Y⟩
end Go.Proofs.X
