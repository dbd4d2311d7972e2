import Derived.Test.YtnjnnebigkgnlaaGreatDoorChecked
import Derived.KernelRfl
import Derived.Test.YtnjnnebigkgnlaaGreatDoorV
import Derived.Test.YtnjnnebigkgnlaaGreatDoorL12
import Derived.Test.YtnjnnebigkgnlaaGreatDoorDa
import Derived.Test.YtnjnnebigkgnlaaGreatDoorL10
import Derived.Test.YtnjnnebigkgnlaaGreatDoorWb
/- The walks: each function computes what its Lean function says. -/
set_option maxRecDepth 1000000
set_option maxHeartbeats 40000000
set_option linter.unusedVariables false
set_option linter.unusedSimpArgs false
set_option linter.unnecessarySimpa false
open Go Go.Proofs Go.Proofs.Tryz Go.Sl Go.Dm
namespace Go.Proofs.X
theorem B8K : A4f prog 33 = some ([.slice none 0 0,.slice none 0 0,.slice none 0 0,.slice none 0 0,.slice none 0 0],[(0,1),(1,1),(2,1),(3,1),(4,1)]):=by kernel_rfl
theorem A7k : A4f prog 42 = some ([.int .u8 (0),.int .i64 (0),.string ⟨#[]⟩,.string ⟨#[]⟩,.string ⟨#[]⟩,.int .i64 (0)],[(0,1),(1,1),(2,1),(3,1),(4,1),(5,1)]):=by kernel_rfl
theorem A5s : A4f prog 77 = some ([.string ⟨#[]⟩,.nilFunc,.nilFunc,.nilFunc,.nilFunc],[(0,1),(1,1),(2,1),(3,1),(4,1)]):=by kernel_rfl
theorem C5n : A4f prog 82 = some ([.pointer none,.slice none 0 0,.slice none 0 0,.slice none 0 0,.slice none 0 0,.slice none 0 0,.slice none 0 0,.int .i64 (0)],[(0,1),(1,5),(6,1),(7,1)]):=by kernel_rfl
theorem B8k : A0q prog 33 = true:=by kernel_rfl
theorem A7A : A0q prog 42 = true:=by kernel_rfl
theorem A5w : A0q prog 77 = true:=by kernel_rfl
theorem C4t : A0q prog 82 = true:=by kernel_rfl
theorem B5d : N8 prog 44 0 = some 0:=by kernel_rfl
theorem B0t : N8 prog 44 1 = some 1:=by kernel_rfl
theorem A0w : N8 prog 44 2 = some 10:=by kernel_rfl
theorem A3G : N8 prog 44 3 = some 11:=by kernel_rfl
theorem A6Y : N8 prog 44 5 = some 13:=by kernel_rfl
theorem C1F : N8 prog 77 1 = some 1:=by kernel_rfl
theorem C2h : N8 prog 77 2 = some 2:=by kernel_rfl
theorem L8 : N8 prog 82 1 = some 1:=by kernel_rfl
theorem Y8 : N8 prog 82 2 = some 6:=by kernel_rfl
theorem B0d : N8 prog 82 3 = some 7:=by kernel_rfl
theorem C3c : X9 prog 114 = some (true,30):=by kernel_rfl
theorem B8x : X9 prog 36 = some (false,1):=by kernel_rfl
theorem A7l : X9 prog 44 = some (true,20):=by kernel_rfl
theorem C4w : X9 prog 72 = some (false,1):=by kernel_rfl
theorem C5g : X9 prog 73 = some (false,1):=by kernel_rfl
theorem A1q : X9 prog 77 = some (true,5):=by kernel_rfl
theorem C3E : zer prog 114 = some (.agg #[.string ⟨#[]⟩,.nilFunc,.nilFunc,.nilFunc,.nilFunc,.string ⟨#[]⟩,.nilFunc,.nilFunc,.nilFunc,.nilFunc,.string ⟨#[]⟩,.nilFunc,.nilFunc,.nilFunc,.nilFunc,.string ⟨#[]⟩,.nilFunc,.nilFunc,.nilFunc,.nilFunc,.string ⟨#[]⟩,.nilFunc,.nilFunc,.nilFunc,.nilFunc,.string ⟨#[]⟩,.nilFunc,.nilFunc,.nilFunc,.nilFunc]):=by kernel_rfl
theorem B2P : zer prog 77 = some (.agg #[.string ⟨#[]⟩,.nilFunc,.nilFunc,.nilFunc,.nilFunc]):=by kernel_rfl
theorem C4y : C8S prog 42 = some [(0,.i .u8),(1,.i .i64),(2,.s),(3,.s),(4,.s),(5,.i .i64)]:=by kernel_rfl
theorem A7W : C8h prog 114 = some ([.string ⟨#[]⟩,.nilFunc,.nilFunc,.nilFunc,.nilFunc,.string ⟨#[]⟩,.nilFunc,.nilFunc,.nilFunc,.nilFunc,.string ⟨#[]⟩,.nilFunc,.nilFunc,.nilFunc,.nilFunc,.string ⟨#[]⟩,.nilFunc,.nilFunc,.nilFunc,.nilFunc,.string ⟨#[]⟩,.nilFunc,.nilFunc,.nilFunc,.nilFunc,.string ⟨#[]⟩,.nilFunc,.nilFunc,.nilFunc,.nilFunc],6,5):=by kernel_rfl
theorem A0z {h g d i e j} (c:G6 (VI .i64) 1 h g d) (f:G6 (VI .i64) 1 h i e) (H:A0A d e = some j):∀ L,G8 prog 9 [g,i] h (L) (fun v h' L'=>v = .bool j∧L' = L):=by
 intro L
 refine G8.enter func9 z z z<|Sr<|Ag z<|Nt<|Sq<|Sr<|Mv z<|Vv (V.P9 C9 z c)<|Mv z<|Vv (V.P9 C9 z f)<|Vv (V.ne z z)<|Nt<|T.cH H z dead fun H=>Ks<|Sq<|Sr<|Ag z<|Nt ?_
 obtain ⟨k,p,q⟩:=M5 H
 refine T.M7 (α:=Unit) [] z (fun _u=>[]) (fun _u=>L) (fun _u hh=>k = ()) ?_ ?_
 ·have H:=p
  refine Bl<|T.M8 (α:=Nat×Int) [0,1] z (fun ⟨a,b⟩=>[(5,qi b)]) (fun ⟨a,b⟩=>L) (fun ⟨a,b⟩ hh=>iter (A5a d e) a b = some k) (fun ⟨a,b⟩=>a) (FUEL,(0:Int)) ⟨z,trivial⟩ z H ?_
  rintro ⟨a,b⟩ C D r
  obtain ⟨s,E,rfl,H,m⟩:=I1 r
  refine T.norm [5,0,1] z<|T.fl ?_
  refine Sq<|Sr<|Mv z<|Mv z<|Vv (V.P9 C9 z c)<|Vv (V.lt z z)<|Nt<|T.cH H z (fun H=>?_) fun H=>?_
  ·refine Ks<|Sq<|Bl<|Sq<|T.O1 (t:=(.vs [0,1,2,3,4,5,6,7,8] .done)) 10 0 0 z z I4 (by kernel_rfl) ?_
   refine Tm z z<|Tm z z<|bE H fun G n H=>?_
   obtain ⟨I,w,rfl⟩:=G6.at c n
   refine Tv z (V.ix C9 z z c (G7 n))<|Tv z (V.ld0 E8 z w.u z)<|Tm z z<|Tm z z<|bE H fun J o H=>?_
   obtain ⟨K,x,rfl⟩:=G6.at f o
   refine Tv z (V.ix C9 z z f (G7 o))<|Tv z (V.ld0 E8 z x.u z)<|Tv z (V.ne z z)<|T.R7 (SX.two (XA.fr [] Lr z) (XA.fr [] Lr z))<|Th<|T.cH H z dead fun H=>T.skip<|Bn<|Th<|Rg<|Mv z<|bE H fun y A H=>Vv (V.J2 z z A)<|Ag z<|Nt<|T.ag (s,y) (F4 H m)
  refine T.exit<|Te<|Te<|have H:=D9 H m; Be<|Th<|T.mt () H
 rintro _ M N B
 have H:=J8 B q
 refine T.norm [] z<|T.fl ?_
 exact Sr<|Ag z<|Nt<|T.ret<|E1 H
theorem B0v {h j f k g m} (e:G6 H5 6 h j f) (i:G6 H5 6 h k g) (H:A4R f g = some m):∀ L,G8 prog 21 [j,k] h (L) (fun v h' L'=>v = .bool m∧L' = L):=by
 intro L
 refine G8.enter func21 z z z<|Sr<|Ag z<|Nt<|Sq<|Sr<|Mv z<|Vv (V.P9 Q5 z e)<|Mv z<|Vv (V.P9 Q5 z i)<|Vv (V.ne z z)<|Nt<|T.cH H z dead fun H=>Ks<|Sq<|Sr<|Ag z<|Nt ?_
 obtain ⟨n,s,w⟩:=M5 H
 refine T.M7 (α:=Unit) [] z (fun _u=>[]) (fun _u=>L) (fun _u hh=>n = ()) ?_ ?_
 ·have H:=s
  refine Bl<|T.M8 (α:=Nat×Int) [0,1] z (fun ⟨a,b⟩=>[(5,qi b)]) (fun ⟨a,b⟩=>L) (fun ⟨a,b⟩ hh=>iter (A4n f g) a b = some n) (fun ⟨a,b⟩=>a) (FUEL,(0:Int)) ⟨z,trivial⟩ z H ?_
  rintro ⟨a,b⟩ G I x
  obtain ⟨y,J,rfl,H,o⟩:=I1 x
  refine T.norm [5,0,1] z<|T.fl ?_
  refine Sq<|Sr<|Mv z<|Mv z<|Vv (V.P9 Q5 z e)<|Vv (V.lt z z)<|Nt<|T.cH H z (fun H=>?_) fun H=>?_
  ·refine Ks<|Sq<|Bl<|Sq<|T.O1 (t:=(.vs [0,1,2,3,4,5,6,7,8] .done)) 10 0 0 z z I4 (by kernel_rfl) ?_
   refine Tm z z<|Tm z z<|bE H fun c p H=>?_
   obtain ⟨K,A,rfl⟩:=G6.at e p
   refine Tv z (V.ix Q5 z z e (G7 p))<|Tv z (V.ldS z A.u (by exact K7)) ?_
   refine Tm z z<|Tm z z<|bE H fun d q H=>?_
   obtain ⟨M,B,rfl⟩:=G6.at i q
   refine Tv z (V.ix Q5 z z i (G7 q))<|Tv z (V.ldS z B.u (by exact K7)) ?_
   refine Tv z (V.D1F C4y z z (r:=(decide (c.H8 = d.H8) && (decide (c.Q3 = d.Q3) && (decide (c.fA = d.fA) && (decide (c.fB = d.fB) && (decide (c.R6 = d.R6) && (decide (c.fN = d.fN) && true))))))) z)<|T.R7 (SX.two (XA.fr [] Lr z) (XA.fr [] Lr z))<|Th<|T.cH H z dead fun H=>T.skip<|Bn<|Th<|Rg<|Mv z<|bE H fun C D H=>Vv (V.J2 z z D)<|Ag z<|Nt<|T.ag (y,C) (F4 H o)
  refine T.exit<|Te<|Te<|have H:=D9 H o; Be<|Th<|T.mt () H
 rintro _ N O E
 have H:=J8 E w
 refine T.norm [] z<|T.fl ?_
 exact Sr<|Ag z<|Nt<|T.ret<|E1 H
theorem A6Q {h i c m a} (b:G6 H5 6 h c m) (H:A8Y i m = some a):∀ L,G8 prog 20 [.bool i,c] h (L) (fun v h' L'=>∃ v0_1 v0_3 v0_5 v0_7 v0_9,v = .agg #[v0_1,v0_3,v0_5,v0_7,v0_9]∧L' = L∧G6 F7 7 h' v0_1 a.D7∧G6 F9 9 h' v0_3 a.A8∧G6 H7 3 h' v0_5 a.I8∧G6 (VI .i64) 1 h' v0_7 a.I6∧G6 H5 6 h' v0_9 a.J3):=by
 intro L
 refine G8.enter func20 z z z<|Sr<|To (O.alloc A0p z z fun W=>Nt<|Sr<|Vv (V.bld (xs:=[(0,.const (.string ⟨#[114]⟩)),(1,.const (.int .u8 (1))),(2,.const (qi (4)))]) (cs:=[_,_,_,_,_,_,_]) B4c B4f z (F3.cons z z z (F3.cons z z z (F3.cons z z z F3.nil))))<|To (O.bs N9 A3n z (e:=z) (hk:=z) (xs:=[.tmp 7]) (hv:=CO.eq (CO.cons z CO.nil)) (hw:=O4.of z) (hd:=z) fun n=>have d:A7 F7 h [[.string (⟨#[114]⟩:ByteArray),.int .u8 1,qi 4,qi 0,qs,qi 0,qi 0]] ([(C8.mk (⟨#[114]⟩:ByteArray) (1:Int) (4:Int) (0:Int) ([]:List Int) (0:Int) (0:Int))]:List C8):=(A7.cons ⟨(qs),z,G6.nil⟩ A7.nil); Vv (V.bld (xs:=[(0,.const (.string ⟨#[97,110,110,97]⟩))]) (cs:=[_,_,_,_,_,_,_,_,_]) A3d A3f z (F3.cons z z z F3.nil))<|Vv (V.bld (xs:=[(0,.const (.string ⟨#[98,111,114,105,115]⟩))]) (cs:=[_,_,_,_,_,_,_,_,_]) A3d A3f z (F3.cons z z z F3.nil))<|Vv (V.bld (xs:=[(0,.const (.string ⟨#[99,97,114,108]⟩))]) (cs:=[_,_,_,_,_,_,_,_,_]) A3d A3f z (F3.cons z z z F3.nil))<|To (O.bs K8 A1B z (e:=z) (hk:=z) (xs:=[.tmp 9,.tmp 10,.tmp 11]) (hv:=CO.eq (CO.cons z (CO.cons z (CO.cons z CO.nil)))) (hw:=O4.of z) (hd:=z) fun f=>have o:A7 F9 h [[.string (⟨#[97,110,110,97]⟩:ByteArray),.string qe,.string qe,qi 0,qi 0,.string qe,.bool false,.bool false,qs],[.string (⟨#[98,111,114,105,115]⟩:ByteArray),.string qe,.string qe,qi 0,qi 0,.string qe,.bool false,.bool false,qs],[.string (⟨#[99,97,114,108]⟩:ByteArray),.string qe,.string qe,qi 0,qi 0,.string qe,.bool false,.bool false,qs]] ([(D6.mk (⟨#[97,110,110,97]⟩:ByteArray) qe qe (0:Int) (0:Int) qe false false ([]:List ByteArray)),(D6.mk (⟨#[98,111,114,105,115]⟩:ByteArray) qe qe (0:Int) (0:Int) qe false false ([]:List ByteArray)),(D6.mk (⟨#[99,97,114,108]⟩:ByteArray) qe qe (0:Int) (0:Int) qe false false ([]:List ByteArray))]:List D6):=(A7.cons ⟨(qs),z,G6.nil⟩ (A7.cons ⟨(qs),z,G6.nil⟩ (A7.cons ⟨(qs),z,G6.nil⟩ A7.nil))); Mv z<|T.J7 0 z fun X x=>T.J7 1 z fun Y y=>Vv (V.bld (xs:=[(0,.tmp 8),(1,.tmp 12),(4,.tmp 13)]) (cs:=[_,_,_,_,_]) B8K B8k z (F3.cons z y z (F3.cons z x z (F3.cons z (G6.cells b) z F3.nil))))<|To (O.alloc A0p z z fun Z=>T.J7 2 z fun A aa=>T.J7 1 z fun B ab=>To (O.stF (vs:=[(.slice (some ⟨n,0,none⟩) 1 1),(.slice (some ⟨f,0,none⟩) 3 3),qs,qs,c]) G9 z z (j:=0) z z (by (simp only [Sl.ones,A,B,G6.one b,Bool.and_true,Bool.true_and]) <;> rfl) z ?_)))))
 refine T.fl ?_
 refine Nt<|Sq<|Sr<|Mv z<|Nt<|T.cH H z (fun H=>?_) fun H=>?_
 ·refine Sr<|Vv (V.fa J4 z)<|Vv (V.ldO (k:=0) M0 z (j:=0) z z)<|Ag z<|Nt<|Rg<|Mv z<|Vv (V.bld (xs:=[(0,.const (.string ⟨#[119]⟩)),(1,.const (.int .u8 (4))),(2,.const (qi (1)))]) (cs:=[_,_,_,_,_,_,_]) B4c B4f z (F3.cons z z z (F3.cons z z z (F3.cons z z z F3.nil))))<|To (O.bs N9 A3n z (e:=z) (hk:=z) (xs:=[.tmp 19]) (hv:=CO.eq (CO.cons z CO.nil)) (hw:=O4.of z) (hd:=z) fun ac=>have g:A7 F7 h [[.string (⟨#[119]⟩:ByteArray),.int .u8 4,qi 1,qi 0,qs,qi 0,qi 0]] ([(C8.mk (⟨#[119]⟩:ByteArray) (4:Int) (1:Int) (0:Int) ([]:List Int) (0:Int) (0:Int))]:List C8):=(A7.cons ⟨(qs),z,G6.nil⟩ A7.nil); bE H fun C p H=>To (O.apX N9 N9 A3n z z z (j:=3) z (Src.row (j:=0) z) (O4.of z) (A7.ones F7.plain g) d g p z fun q ad ae=>have D:A7 F7 h ([[.string (⟨#[114]⟩:ByteArray),.int .u8 1,qi 4,qi 0,qs,qi 0,qi 0]] ++ [[.string (⟨#[119]⟩:ByteArray),.int .u8 4,qi 1,qi 0,qs,qi 0,qi 0]]) C:=A7.ap d g p; T.fl ?_))
  refine G5 1 z<|T.fl ?_
  refine T.drop<|Vv (V.fa J4 z)<|T.J7 0 z fun E G=>To (O.st (vs:=[q]) (k:=0) M0 z z (j:=1) z G (by (simp only [Sl.ones,E,Bool.and_true,Bool.true_and]) <;> rfl) ?_)
  refine T.fl ?_
  refine Nt<|Sr<|Vv (V.A3T (j:=0) (by exact G9) z z) ?_
  refine G5 1 z<|T.fl ?_
  refine T.J5 fun af ag I=>have r:=A7.Z4 I D.u; G5 1 z<|T.fl ?_
  refine T.J5 fun ai aj J=>have s:=A7.Z4 J o.u; To (O.stF (vs:=[q,(.slice (some ⟨f,0,none⟩) 3 3),qs,qs,c]) G9 z z (j:=1) z z (by (simp only [Sl.ones,G6.one r,G6.one s,G6.one b,Bool.and_true,Bool.true_and]) <;> rfl) z ?_)
  refine T.freeze fun ak am K=>have M:=AtC.of K; Nt<|T.ret<|T.drop ?_
  cases H
  exact T.rl z (RVs.cons (RV.B0y z M G9) RVs.nil) ⟨_,_,_,_,_,z,z,r.u,s.u,G6.nil,G6.nil,b.u⟩
 refine Ks<|Sr<|Vv (V.A3T (j:=0) (by exact G9) z z) ?_
 refine G5 2 z<|T.fl ?_
 refine T.J5 fun an ao N=>have t:=A7.Z4 N d.u; G5 1 z<|T.fl ?_
 refine T.J5 fun aq ar P=>have w:=A7.Z4 P o.u; To (O.stF (vs:=[(.slice (some ⟨n,0,none⟩) 1 1),(.slice (some ⟨f,0,none⟩) 3 3),qs,qs,c]) G9 z z (j:=1) z z (by (simp only [Sl.ones,G6.one t,G6.one w,G6.one b,Bool.and_true,Bool.true_and]) <;> rfl) z ?_)
 refine T.freeze fun au aw S=>have U:=AtC.of S; Nt<|T.ret<|T.drop ?_
 cases H
 exact T.rl z (RVs.cons (RV.B0y z U G9) RVs.nil) ⟨_,_,_,_,_,z,z,t.u,w.u,G6.nil,G6.nil,b.u⟩
theorem B9j {h aa p1 r} (ay:M3 h aa p1) (H:B1k p1 = some r):∀ L,G8 prog 81 [.agg aa.toArray] h (L) (fun v h' L'=>∃ vo0_1 csso0_2 vo0_4 csso0_5 vo0_7 csso0_8 vo0_10 csso0_11 vo0_13 csso0_14,v = .agg #[vo0_1,vo0_4,vo0_7,vo0_10,vo0_13]∧L' = D5 54 7 vo0_1 csso0_2::D5 39 9 vo0_4 csso0_5::D5 106 3 vo0_7 csso0_8::D5 3 1 vo0_10 csso0_11::D5 42 6 vo0_13 csso0_14::L∧A7 F7 h' csso0_2 r.D7∧A7 F9 h' csso0_5 r.A8∧A7 H7 h' csso0_8 r.I8∧A7 (VI .i64) h' csso0_11 r.I6∧A7 H5 h' csso0_14 r.J3):=by
 intro L
 obtain ⟨b8,ab,E,G,I,rfl,aA,aB,aC,aD,aE⟩:=ay
 refine G8.enter func81 z z z<|Sr<|To (O.box z z z fun J=>To (O.alloc A0p z z fun K=>Nt<|Sr<|Vv (V.fa J4 z)<|Vv (V.ldO (k:=0) M0 z (j:=1) z z)<|bE H fun ac aG H=>To (O.D8 z (B0L aA aG _) z fun c b9 bh bl aI=>?_)))
 obtain ⟨aJ,aK,ad⟩:=aI
 refine J9 _ aK<|Vv (V.fa J4 z)<|T.J7 0 z fun aM aN=>To (O.st (vs:=[c]) (k:=0) M0 z z (j:=2) z aN (by (simp only [Sl.ones,aM,Bool.and_true,Bool.true_and]) <;> rfl) ?_)
 refine T.fl ?_
 refine Nt<|Sq<|Sr<|Vv (V.fa J4 z)<|Vv (V.ldO (k:=0) M0 z (j:=0) z z)<|Vv (V.A2a N9 z (j:=1) z ad.len)<|Mv z<|Nt ?_
 obtain ⟨ae,aO,aP⟩:=M5 H
 refine T.M7 (α:=(List C8)×(List (List Value))) [1,2] z (fun ⟨C,f⟩=>[]) (fun ⟨C,f⟩=>blk J (.cells [c,ab,E,G,I].toArray 33)::blk K (.cells [qs,qs,qs,qs,qs].toArray 33)::D5 54 7 c f::L) (fun ⟨C,f⟩ hh=>ae = C∧A7 F7 hh f C) ?_ ?_
 ·have H:=aO
  refine Bl<|G5 1 z<|T.fl ?_
  refine G5 2 z<|T.fl ?_
  refine G5 2 z<|T.fl ?_
  refine T.M8 (α:=Nat×(List C8)×Int×(List (List Value))) [1,2,11] z (fun ⟨s,o,m,d⟩=>[(12,qi m)]) (fun ⟨s,o,m,d⟩=>blk J (.cells [c,ab,E,G,I].toArray 33)::blk K (.cells [qs,qs,qs,qs,qs].toArray 33)::D5 54 7 c d::L) (fun ⟨s,o,m,d⟩ hh=>iter (B2d ac) s (o,m) = some ae∧A7 F7 hh d o) (fun ⟨s,o,m,d⟩=>s) (FUEL,ac,(0:Int),aJ) ⟨z,trivial⟩ z ⟨H,ad⟩ ?_
  rintro ⟨s,o,m,d⟩ bv bz ⟨aS,w⟩
  obtain ⟨aU,ca,rfl,H,af⟩:=I1 aS
  refine T.norm [12,1,2,11] z<|T.fl ?_
  refine Sr<|Vv (V.lt z z)<|Nt<|Sq<|T.cH H z (fun H=>?_) fun H=>?_
  ·refine Ks<|Sq<|Bl<|Sr<|Mv z<|Ag z<|Nt<|G5 2 z<|T.fl ?_
   refine G5 1 z<|T.fl ?_
   refine T.O1 (t:=(.vs [0,1,2,3,4,5] (.x 6 (.v 7 (.x 8 (.alt 9 (.g (.alt 10 (.v 11 (.alt 12 .done .no)) .no)) .no)))))) 12 2 1 z z I4 (by kernel_rfl) ?_
   refine Tv z (V.fa J4 z)<|Tv z (Val.XA fun _ _ _=>V.ldO (k:=0) M0 z (j:=0) z z)<|Tm z z<|Tv z (V.fa J4 z)<|Tv z (Val.XA fun _ _ _=>V.ldO (k:=0) M0 z (j:=0) z z)<|Tm z z<|bE H fun cb ai H=>?_
   obtain ⟨cc,aV,⟨cd,rfl,aW⟩⟩:=A7.get w ai
   refine T.tx z z (Val.XA fun _ _ _=>V.ixR N9 z z (j:=1) z (A7.bd w ai)) z Calm.i<|Tv z (V.fa X6 z)<|T.tx z z (Val.XA fun _ _ _=>V.C8X (k:=4) E5 z (j:=1) z aV z) z Calm.i<|bE H fun aX aY H=>Tp z z (SX.two (XA.fr [0] Lr z) (XA.fr [1,1] Lr z)) (O.D8 z (A2N aW aY _) z fun M ce cf cg aZ=>?_) T.O9
   obtain ⟨ci,a0,a1⟩:=aZ
   refine J9 _ a0<|T.O3 Li<|bE H fun b aj H=>?_
   obtain ⟨cj,a2,⟨P,rfl,ck⟩⟩:=A7.get w aj
   refine Ts z z (SX.two (XA.fr [1] Lr z) (XA.fr [2,2] Lr z)) (V.ixR N9 z z (j:=2) z (A7.bd w aj)) z ?_ T.O9
   refine Tv z (V.fa X6 z)<|T.J5 fun ak cm a3=>have S:=A7.Z4 a3 a1.u; bE H fun am a4 H=>Tp z z (SX.two (XA.fr [0] Li z) (XA.fr [1,1] Li z)) (O.C9n (k:=4) E5 z z (j:=1) z (G6.cells S) (by (simp only [Sl.ones,G6.one S,Bool.and_true,Bool.true_and]) <;> rfl) z a2 ?_) T.O9
   have a5:A7 F7 ak (d.set m.toNat (over [.string b.F8,.int .u8 b.O6,qi b.fA,qi b.fB,P,qi b.fX,qi b.fY] [M] 4)) am:=A7.set w.u (show F7 ak (over [.string b.F8,.int .u8 b.O6,qi b.fA,qi b.fB,P,qi b.fX,qi b.fY] [M] 4) (C8.mk b.F8 b.O6 b.fA b.fB aX b.fX b.fY) from ⟨M,z,S⟩) a4
   refine T.R7 (SX.one (XA.fr [1] Li z) z)<|Bn<|Th<|Rg<|bE H fun a6 a7 H=>Vv (V.J2 z z a7)<|Mv z<|Nt<|G5 2 z<|T.fl ?_
   refine G5 2 z<|T.fl ?_
   exact T.ag (aU,am,a6,(d.set m.toNat (over [.string b.F8,.int .u8 b.O6,qi b.fA,qi b.fB,P,qi b.fX,qi b.fY] [M] 4))) ⟨(F4 H af),a5⟩
  refine T.exit<|Te<|Te<|have H:=D9 H af; Be<|Th<|T.mt (o,d) ⟨H,w⟩
 rintro ⟨C,f⟩ cn co ⟨a8,a9⟩
 have H:=J8 a8 aP
 refine T.norm [1,2] z<|T.fl ?_
 refine Sr<|Vv (V.fa K3 z)<|Vv (V.ldO (k:=1) I7 z (j:=0) z z)<|bE H fun an ah H=>To (O.D8 z (B0X aB.u ah _) z fun p cp cq cr al=>?_)
 obtain ⟨av,az,ao⟩:=al
 refine J9 _ az<|Vv (V.fa K3 z)<|T.J7 0 z fun ba bb=>To (O.st (vs:=[p]) (k:=1) I7 z z (j:=1) z bb (by (simp only [Sl.ones,ba,Bool.and_true,Bool.true_and]) <;> rfl) ?_)
 refine T.fl ?_
 refine Nt<|Sq<|Sr<|Vv (V.fa K3 z)<|Vv (V.ldO (k:=1) I7 z (j:=0) z z)<|Vv (V.A2a K8 z (j:=1) z ao.len)<|Mv z<|Nt ?_
 obtain ⟨ap,bc,be⟩:=M5 H
 refine T.M7 (α:=(List D6)×(List (List Value))) [1,2] z (fun ⟨D,y⟩=>[]) (fun ⟨D,y⟩=>blk J (.cells [c,p,E,G,I].toArray 33)::blk K (.cells [qs,qs,qs,qs,qs].toArray 33)::D5 54 7 c f::D5 39 9 p y::L) (fun ⟨D,y⟩ hh=>ap = D∧A7 F9 hh y D) ?_ ?_
 ·have H:=bc
  refine Bl<|G5 1 z<|T.fl ?_
  refine G5 3 z<|T.fl ?_
  refine G5 3 z<|T.fl ?_
  refine G5 3 z<|T.fl ?_
  refine T.M8 (α:=Nat×(List D6)×Int×(List (List Value))) [1,2,34] z (fun ⟨A,q,n,e⟩=>[(35,qi n)]) (fun ⟨A,q,n,e⟩=>blk J (.cells [c,p,E,G,I].toArray 33)::blk K (.cells [qs,qs,qs,qs,qs].toArray 33)::D5 54 7 c f::D5 39 9 p e::L) (fun ⟨A,q,n,e⟩ hh=>iter (B1P an) A (q,n) = some ap∧A7 F9 hh e q) (fun ⟨A,q,n,e⟩=>A) (FUEL,an,(0:Int),av) ⟨z,trivial⟩ z ⟨H,ao⟩ ?_
  rintro ⟨A,q,n,e⟩ cs ct ⟨bf,B⟩
  obtain ⟨bg,cu,rfl,H,aq⟩:=I1 bf
  refine T.norm [35,1,2,34] z<|T.fl ?_
  refine Sr<|Vv (V.lt z z)<|Nt<|Sq<|T.cH H z (fun H=>?_) fun H=>?_
  ·refine Ks<|Sq<|Bl<|Sr<|Mv z<|Ag z<|Nt<|G5 3 z<|T.fl ?_
   refine G5 1 z<|T.fl ?_
   refine T.O1 (t:=(.vs [0,1,2,3,4,5] (.x 6 (.v 7 (.x 8 (.alt 9 (.g (.alt 10 (.v 11 (.alt 12 .done .no)) .no)) .no)))))) 12 2 1 z z I4 (by kernel_rfl) ?_
   refine Tv z (V.fa K3 z)<|Tv z (Val.XA fun _ _ _=>V.ldO (k:=1) I7 z (j:=0) z z)<|Tm z z<|Tv z (V.fa K3 z)<|Tv z (Val.XA fun _ _ _=>V.ldO (k:=1) I7 z (j:=0) z z)<|Tm z z<|bE H fun cw ar H=>?_
   obtain ⟨cx,bi,⟨cy,rfl,bj⟩⟩:=A7.get B ar
   refine T.tx z z (Val.XA fun _ _ _=>V.ixR K8 z z (j:=1) z (A7.bd B ar)) z Calm.i<|Tv z (V.fa V5 z)<|T.tx z z (Val.XA fun _ _ _=>V.C8X (k:=8) A0b z (j:=1) z bi z) z Calm.i<|bE H fun bk bm H=>Tp z z (SX.two (XA.fr [0] Lr z) (XA.fr [1,1] Lr z)) (O.D8 z (A3Z bj bm _) z fun N cA cB cC bn=>?_) T.O9
   obtain ⟨cD,bo,bp⟩:=bn
   refine J9 _ bo<|T.O3 Li<|bE H fun a au H=>?_
   obtain ⟨cE,bq,⟨U,rfl,cG⟩⟩:=A7.get B au
   refine Ts z z (SX.two (XA.fr [1] Lr z) (XA.fr [2,2] Lr z)) (V.ixR K8 z z (j:=2) z (A7.bd B au)) z ?_ T.O9
   refine Tv z (V.fa V5 z)<|T.J5 fun aw cI br=>have W:=A7.Z4 br bp.u; bE H fun ax bs H=>Tp z z (SX.two (XA.fr [0] Li z) (XA.fr [1,1] Li z)) (O.C9n (k:=8) A0b z z (j:=1) z (G6.cells W) (by (simp only [Sl.ones,G6.one W,Bool.and_true,Bool.true_and]) <;> rfl) z bq ?_) T.O9
   have bt:A7 F9 aw (e.set n.toNat (over [.string a.F8,.string a.A0k,.string a.V9,qi a.V3,qi a.A0f,.string a.Z0,.bool a.A0u,.bool a.U2,U] [N] 8)) ax:=A7.set B.u (show F9 aw (over [.string a.F8,.string a.A0k,.string a.V9,qi a.V3,qi a.A0f,.string a.Z0,.bool a.A0u,.bool a.U2,U] [N] 8) (D6.mk a.F8 a.A0k a.V9 a.V3 a.A0f a.Z0 a.A0u a.U2 bk) from ⟨N,z,W⟩) bs
   refine T.R7 (SX.one (XA.fr [1] Li z) z)<|Bn<|Th<|Rg<|bE H fun bu bw H=>Vv (V.J2 z z bw)<|Mv z<|Nt<|G5 3 z<|T.fl ?_
   refine G5 3 z<|T.fl ?_
   refine G5 3 z<|T.fl ?_
   exact T.ag (bg,ax,bu,(e.set n.toNat (over [.string a.F8,.string a.A0k,.string a.V9,qi a.V3,qi a.A0f,.string a.Z0,.bool a.A0u,.bool a.U2,U] [N] 8))) ⟨(F4 H aq),bt⟩
  refine T.exit<|Te<|Te<|have H:=D9 H aq; Be<|Th<|T.mt (q,e) ⟨H,B⟩
 rintro ⟨D,y⟩ cJ cK ⟨bx,bA⟩
 have H:=J8 bx be
 refine T.norm [1,2] z<|T.fl ?_
 refine Sq<|T.O1 (t:=(.v 0 (.x 1 (.v 3 (.x 4 (.v 6 (.x 7 (.alt 2 (.g (.v 9 (.alt 5 (.g (.alt 8 (.g (.alt 10 (.g (.v 11 (.alt 12 (.g (.v 13 (.alt 14 .done .no))) .no))) .no)) .no)) .no))) .no)))))))) 10 1 0 z z I4 (by kernel_rfl) ?_
 refine Tv z (V.fa Y5 z)<|T.tx z z (Val.XA fun _ _ _=>V.ldO (k:=2) Q4 z (j:=0) z z) z Calm.i<|Tv z (V.fa Y3 z)<|T.tx z z (Val.XA fun _ _ _=>V.ldO (k:=3) E5 z (j:=0) z z) z Calm.i<|Tv z (V.fa P6 z)<|T.tx z z (Val.XA fun _ _ _=>V.ldO (k:=4) O7 z (j:=0) z z) z Calm.i<|bE H fun cM bB H=>Tp z z (SX.two (XA.fr [] Lr z) (XA.fr [0] Lr z)) (O.D8 z (B3Y aC.u bB _) z fun X cN cO cP bC=>?_) T.O9
 obtain ⟨bD,bG,bI⟩:=bC
 refine J9 _ bG<|T.O3 Li<|Tv z (V.fa Y5 z)<|bE H fun cS bJ H=>Tp z z (SX.two (XA.fr [] Lr z) (XA.fr [1] Lr z)) (O.D8 z (A2N aD.u bJ _) z fun Y cU cV cW bK=>?_) T.O9
 obtain ⟨bM,bN,bO⟩:=bK
 refine J9 _ bN<|T.O3 Li<|bE H fun cX bP H=>Tp z z (SX.two (XA.fr [] Lr z) (XA.fr [2] Lr z)) (O.D8 z (B1H aE.u bP _) z fun Z cY cZ c0 bS=>?_) T.O9
 obtain ⟨bU,bV,bW⟩:=bS
 refine J9 _ bV<|T.O3 Li<|T.J7 2 z fun bX bY=>Tp z z (SX.two (XA.fr [] Lr z) (XA.fr [3] Lr z)) (O.st (vs:=[X]) (k:=2) Q4 z z (j:=3) z bY (by (simp only [Sl.ones,bX,Bool.and_true,Bool.true_and]) <;> rfl) ?_) T.O9
 refine T.fl ?_
 refine T.O3 Lr<|Tv z (V.fa Y3 z)<|T.J7 2 z fun bZ b0=>Tp z z (SX.one (XA.fr [] Lr z) z) (O.st (vs:=[Y]) (k:=3) E5 z z (j:=0) z b0 (by (simp only [Sl.ones,bZ,Bool.and_true,Bool.true_and]) <;> rfl) ?_) T.O9
 refine T.fl ?_
 refine T.O3 Lr<|Tv z (V.fa P6 z)<|T.J7 1 z fun b1 b2=>Tp z z (SX.one (XA.fr [] Lr z) z) (O.st (vs:=[Z]) (k:=4) O7 z z (j:=0) z b2 (by (simp only [Sl.ones,b1,Bool.and_true,Bool.true_and]) <;> rfl) ?_) T.O9
 refine T.fl ?_
 refine T.R7 (SX.one (XA.fr [] Lr z) z)<|Th<|Sr<|Vv (V.A3T (j:=0) (by exact G9) z z) ?_
 refine T.J7 5 z fun b3 c1=>T.J7 6 z fun b4 c2=>T.J7 3 z fun b5 c3=>T.J7 2 z fun b6 c4=>T.J7 1 z fun b7 c5=>To (O.stF (vs:=[c,p,X,Y,Z]) G9 z z (j:=4) z z (by (simp only [Sl.ones,b3,b4,b5,b6,b7,Bool.and_true,Bool.true_and]) <;> rfl) z ?_)
 refine T.fl ?_
 refine Nt<|T.ret<|G5 1 z<|T.fl ?_
 refine T.drop<|G5 1 z<|T.fl ?_
 refine G5 2 z<|T.fl ?_
 refine G5 3 z<|T.fl ?_
 refine G5 5 z<|T.fl ?_
 refine G5 5 z<|T.fl ?_
 refine G5 5 z<|T.fl ?_
 cases H
 exact T.A4z (L':=D5 54 7 c f::D5 39 9 p y::D5 106 3 X bD::D5 3 1 Y bM::D5 42 6 Z bU::L) results81 (RVs.cons (RV.cellS z (j:=0) z G9) RVs.nil) Li (fun _ iv=>iv.drop) ⟨_,_,_,_,_,_,_,_,_,_,z,z,a9.u,bA.u,bI.u,bO.u,bW⟩
theorem A9u {h b c a} (d:Pt P5 h b c) (H:A5C c = some a):∀ L,G8 prog 38 [b] h (L) (fun v h' L'=>∃ vo0_1 csso0_2 vo0_4 csso0_5 vo0_7 csso0_8 vo0_10 csso0_11 vo0_13 csso0_14,v = .agg #[vo0_1,vo0_4,vo0_7,vo0_10,vo0_13]∧L' = D5 54 7 vo0_1 csso0_2::D5 39 9 vo0_4 csso0_5::D5 106 3 vo0_7 csso0_8::D5 3 1 vo0_10 csso0_11::D5 42 6 vo0_13 csso0_14::L∧A7 F7 h' csso0_2 a.D7∧A7 F9 h' csso0_5 a.A8∧A7 H7 h' csso0_8 a.I8∧A7 (VI .i64) h' csso0_11 a.I6∧A7 H5 h' csso0_14 a.J3):=by
 intro L
 refine G8.enter func38 z z z<|Sr<|To (O.alloc A0p z z fun af=>Nt<|Sq<|Sr<|Mv z<|bE H fun ag n H=>To (O.D8 z (B0b d n _) z fun ai aj ak am o=>?_))
 obtain ⟨rfl,p⟩:=o
 refine J9 _ p<|Nt<|T.cH H z dead fun H=>Ks<|Sr<|Mv z<|have q:=d; ?_
 obtain ⟨an,_,rfl,r,⟨s,t,w,x,y,ao,ap,aq,ar,au,aw,ax,ay,aA,rfl,A,B,C,D,E,aB,aC,aD,aE,aG,aI,aJ,aK,aM⟩⟩:=q
 refine Vv (V.S9 z)<|Vv (V.fa Y1 z)<|Vv (V.C2j (k:=0) A8N z r.u (Nat.le_of_ble_eq_true z))<|bE H fun aN G H=>To (O.D8 z (B9j ⟨s,t,w,x,y,z,A.u,B.u,C.u,D.u,E.u⟩ G _) z fun aO aP aS aU I=>?_)
 obtain ⟨e,J,f,K,g,M,i,N,m,P,rfl,S,U,W,X,Y,Z⟩:=I
 refine J9 _ S<|T.J7 0 z fun aa aV=>T.J7 1 z fun ab aW=>T.J7 2 z fun ac aX=>T.J7 3 z fun ad aY=>T.J7 4 z fun ae aZ=>To (O.stF (vs:=[e,f,g,i,m]) G9 z z (j:=5) z z (by (simp only [Sl.ones,aa,ab,ac,ad,ae,Bool.and_true,Bool.true_and]) <;> rfl) z ?_)
 refine T.fl ?_
 refine Nt<|T.ret ?_
 cases H
 exact T.A4z (L':=D5 54 7 e J::D5 39 9 f K::D5 106 3 g M::D5 3 1 i N::D5 42 6 m P::L) results38 (RVs.cons (RV.cellS z (j:=0) z G9) RVs.nil) Li (fun _ iv=>iv.drop) ⟨_,_,_,_,_,_,_,_,_,_,z,z,U,W,X,Y,Z⟩
theorem A2b {h e p1 f i a j} (B:M3 h e p1) (m:G6 (VI .i64) 1 h f i) (H:A1V p1 i = some (a,j)):∀ L,G8 prog 17 [.agg e.toArray,f] h (L) (fun v h' L'=>∃ n vo0_1 vo0_3 csso0_4 vo0_6 csso0_7 vo0_9 csso0_10 vo0_12 csso0_13 vo0_15 csso0_16 vo0_18 csso0_19,v = .tuple #[.pointer (some ⟨n,0,none⟩),.int .i64 j]∧L' = blk n (.cells [vo0_1,vo0_3,vo0_6,vo0_9,vo0_12,vo0_15,vo0_18,.int .i64 a.A0j].toArray 82)::D5 54 7 vo0_3 csso0_4::D5 39 9 vo0_6 csso0_7::D5 106 3 vo0_9 csso0_10::D5 3 1 vo0_12 csso0_13::D5 42 6 vo0_15 csso0_16::D5 3 1 vo0_18 csso0_19::L∧Pt P5 h' vo0_1 a.Q0∧A7 F7 h' csso0_4 a.fp.D7∧A7 F9 h' csso0_7 a.fp.A8∧A7 H7 h' csso0_10 a.fp.I8∧A7 (VI .i64) h' csso0_13 a.fp.I6∧A7 H5 h' csso0_16 a.fp.J3∧A7 (VI .i64) h' csso0_19 a.U3):=by
 intro L
 obtain ⟨o,p,q,r,s,rfl,b,w,x,y,A⟩:=B
 refine G8.enter func17 z z z<|Sr<|To (O.Y0 z z z fun aj ak am c=>Ag z<|Ag z<|Nt<|Sr<|Vv (V.ldS z c (by exact G9)) ?_)
 refine bE H fun ⟨an,ao,ap⟩ C H=>To (O.D8 z (B8F ⟨o,p,q,r,s,z,b.u,w.u,x.u,y.u,A.u⟩ C _) z fun aq ar au aw D=>?_)
 obtain ⟨ax,rfl,E,G⟩:=D
 refine J9 _ E<|Mv z<|Vv (V.ext z z)<|Vv (V.ext z z)<|Vv (V.ext z z)<|Ag z<|Ag z<|Ag z<|Nt<|Sq<|Sr<|Mv z<|Vv (V.ne z z)<|Nt<|T.cH H z dead fun H=>Ks<|Sq<|Sr<|Vv (V.ldS z c.u (by exact G9)) ?_
 refine Mv z<|bE H fun ⟨ay,aA⟩ I H=>To (O.D8 z (B6z ⟨o,p,q,r,s,z,b.u,w.u,x.u,y.u,A.u⟩ m.u I _) z fun aB aC aD aE J=>?_)
 obtain ⟨rfl,K⟩:=J
 refine J9 _ K<|Mv z<|Vv (V.ext z z)<|Vv (V.ext z z)<|Ag z<|Ag z<|Nt<|Sr<|Mv z<|Vv (V.ne z z)<|Nt<|T.cH H z dead fun H=>Ks<|Sq<|T.O1 (t:=(.vs [0,1,3,5,6] (.alt 2 (.g (.alt 4 (.g (.alt 7 (.g (.v 8 (.alt 9 (.alt 10 (.alt 11 .done .no) .no) .no))) .no)) .no)) .no))) 13 0 0 z z I4 (by kernel_rfl) ?_
 refine Tm z z<|Tm z z<|Tm z z<|Tv z (V.fa J4 z)<|Tv z (V.I9 (k:=0) M0 z c.u z)<|bE H fun aG M H=>have d:=OPt.get G M; bE H fun aI N H=>Tp z z (SX.two (XA.fr [] Lr z) (XA.fr [] Lr z)) (O.D8 z (A9u d.u N _) z fun aJ aK aM aN P=>?_) T.O9
 obtain ⟨aO,aP,aS,aU,aV,aW,aX,aY,aZ,a0,rfl,S,U,W,X,Y,Z⟩:=P
 refine J9 _ S<|T.O3 Li<|bE H fun a1 aa H=>Tp z z (SX.two (XA.fr [] Lr z) (XA.fr [] Lr z)) (O.D8 z (A2N m.u aa _) z fun a2 a3 a4 a5 ab=>?_) T.O9
 obtain ⟨a6,ac,ad⟩:=ab
 refine J9 _ ac<|T.O3 Li<|bE H fun a7 ae H=>Tp z z (SX.two (XA.fr [] Lr z) (XA.fr [] Lr z)) (O.D8 z (A4Y b.u ae _) z fun a8 a9 ah al af=>?_) T.O9
 obtain ⟨rfl,ag⟩:=af
 refine J9 _ ag<|T.O3 Li<|T.J7 0 z fun av ai=>Tv z (V.bld (xs:=[(0,.tmp 29),(1,.tmp 31),(2,.tmp 33),(3,.tmp 36)]) (cs:=[_,_,_,_,_,_,_,_]) C5n C4t z (F3.cons z (Pt.cells d) z (F3.cons z z z (F3.cons z ai z (F3.cons z z z F3.nil)))))<|Tp z z (SX.two (XA.fr [] Lr z) (XA.fr [] Lr z)) (O.box z z z fun az=>?_) T.O9
 refine Ts z z (SX.two (XA.fr [] Lr z) (XA.fr [] Lr z)) (V.asg z) z ?_ T.O9
 refine Ts z z (SX.two (XA.fr [] Lr z) (XA.fr [] Lr z)) (V.asg z) z ?_ T.O9
 refine T.R7 (SX.two (XA.fr [] Lr z) (XA.fr [] Lr z))<|Th<|T.ret<|G5 1 z<|T.fl ?_
 refine G5 6 z<|T.fl ?_
 refine G5 6 z<|T.fl ?_
 refine G5 6 z<|T.fl ?_
 refine G5 6 z<|T.fl ?_
 refine G5 6 z<|T.fl ?_
 refine G5 6 z<|T.fl ?_
 cases H
 exact T.rl z (RVs.cons (RV.tmp z) (Rv z)) ⟨_,_,_,_,_,_,_,_,_,_,_,_,_,_,z,z,d.u,U.u,W.u,X.u,Y.u,Z.u,ad.u⟩
theorem B4x {h c d i m k n q_0} (e:A7 H7 h d i) (t:A8O h m k) (H:A4j i k = some (n,q_0)):∀ L,G8 prog 199 [c,m] h (D5 106 3 c d::L) (fun v h' L'=>∃ o,v = .int .i64 n∧L' = D5 106 3 c o::L∧A7 H7 h' o q_0):=by
 intro L
 refine G8.enter func199 z z z<|Sr<|Ag z<|Nt<|Sq<|Sr<|Mv z<|Vv (V.A2a X3 z (j:=0) z e.len)<|Mv z<|Nt ?_
 obtain ⟨p,w,x⟩:=M5 H
 refine T.M7 (α:=Unit) [0] z (fun _u=>[]) (fun _u=>D5 106 3 c d::L) (fun _u hh=>p = ()) ?_ ?_
 ·have H:=w
  refine Bl<|T.M8 (α:=Nat×Int) [0,1,7] z (fun ⟨a,b⟩=>[(8,qi b)]) (fun ⟨a,b⟩=>D5 106 3 c d::L) (fun ⟨a,b⟩ hh=>iter (A2K i k) a b = some p) (fun ⟨a,b⟩=>a) (FUEL,(0:Int)) ⟨z,trivial⟩ z H ?_
  rintro ⟨a,b⟩ q N y
  obtain ⟨A,P,rfl,H,r⟩:=I1 y
  refine T.norm [8,0,1,7] z<|T.fl ?_
  refine Sr<|Vv (V.lt z z)<|Nt<|Sq<|T.cH H z (fun H=>?_) fun H=>?_
  ·refine Ks<|Sq<|Bl<|Sr<|Mv z<|Ag z<|Nt<|Sr<|Mv z<|Mv z<|Mv z<|bE H fun f s H=>?_
   obtain ⟨S,B,rfl⟩:=A7.get e s
   refine Vv (V.ixR X3 z z (j:=0) z (A7.bd e s))<|Vv (V.D1y z (j:=0) z B A0G)<|bE H fun U C H=>?_
   obtain ⟨W,X,Y,D,E⟩:=A8O.call (t.u (g:=q)) (show H7 q [.string f.fA,.string f.fB,.int .u8 f.H8] f from rfl) C
   refine To (O.A1d z D z (E _) z fun Z aa ab ac G=>?_)
   obtain ⟨rfl,I⟩:=G
   refine J9 _ I<|Nt<|T.cH H z dead fun H=>T.skip<|Bn<|Th<|Rg<|bE H fun J K H=>Vv (V.J2 z z K)<|Mv z<|Nt<|T.ag (A,J) (F4 H r)
  refine T.exit<|Te<|Te<|have H:=D9 H r; Be<|Th<|T.mt () H
 rintro _ ad ae M
 have H:=J8 M x
 refine T.norm [0] z<|T.fl ?_
 refine Sr<|Ag z<|Nt<|T.ret ?_
 cases H
 exact T.rl z (Rv z) ⟨_,z,z,e.u⟩
theorem B5X {h c b d e f} (i:G6 H7 3 h c b) (p:A8O h d e) (H:B1T b e = some f):∀ L,G8 prog 199 [c,d] h (L) (fun v h' L'=>v = .int .i64 f∧L' = L):=by
 intro L
 refine G8.enter func199 z z z<|Sr<|Ag z<|Nt<|Sq<|Sr<|Mv z<|Vv (V.P9 X3 z i)<|Mv z<|Nt ?_
 obtain ⟨g,j,k⟩:=M5 H
 refine T.M7 (α:=Unit) [] z (fun _u=>[]) (fun _u=>L) (fun _u hh=>g = ()) ?_ ?_
 ·have H:=j
  refine Bl<|T.M8 (α:=Nat) [7,8] z (fun a=>[]) (fun a=>L) (fun a hh=>iter (A8G b) a () = some g) (fun a=>a) FUEL trivial z H ?_
  rintro a q r m
  obtain ⟨s,t,rfl,H,n⟩:=I1 m
  refine T.norm [7,8] z<|T.fl ?_
  refine Sr<|Vv (V.lt z z)<|Nt<|Sq<|T.cH H z dead fun H=>T.exit<|Te<|Te<|have H:=D9 H n; Be<|Th<|T.mt () H
 rintro _ u w o
 have H:=J8 o k
 refine T.norm [] z<|T.fl ?_
 exact Sr<|Ag z<|Nt<|T.ret<|E1 H
theorem B4t {h a b c d e f} (i:A7 H7 h b c) (j:A8O h d e) (H:A2W c e = some f):∀ L,G8 prog 109 [a,d] h (D5 106 3 a b::L) (fun v h' L'=>∃ g,L' = D5 106 3 v g::L∧A7 H7 h' g f):=by
 intro L
 refine G8.enter func109 z z z<|Sr<|Ag z<|Nt<|Sr<|Mv z<|Mv z<|bE H fun ⟨p,q⟩ k H=>To (O.D8 z (B4x i j k _) z fun r s t u m=>?_)
 obtain ⟨w,rfl,n,o⟩:=m
 refine J9 _ n<|Ag z<|Nt<|Sq<|Sr<|Mv z<|Vv (V.eq z z)<|Nt<|T.cH H z (fun H=>?_) fun H=>?_
 ·refine Sr<|Mv z<|Ag z<|Nt<|T.ret<|Tr ?_
  cases H
  exact T.rl z (Rv z) ⟨_,z,o⟩
 exact dead H
theorem B2s {h d e i m k n q_0} (f:A7 H5 h e i) (t:A9o h m k) (H:A3L i k = some (n,q_0)):∀ L,G8 prog 127 [d,m] h (D5 42 6 d e::L) (fun v h' L'=>∃ o,v = .int .i64 n∧L' = D5 42 6 d o::L∧A7 H5 h' o q_0):=by
 intro L
 refine G8.enter func127 z z z<|Sr<|Ag z<|Nt<|Sq<|Sr<|Mv z<|Vv (V.A2a Q5 z (j:=0) z f.len)<|Mv z<|Nt ?_
 obtain ⟨p,w,x⟩:=M5 H
 refine T.M7 (α:=Unit) [0] z (fun _u=>[]) (fun _u=>D5 42 6 d e::L) (fun _u hh=>p = ()) ?_ ?_
 ·have H:=w
  refine Bl<|T.M8 (α:=Nat×Int) [0,1,7] z (fun ⟨b,c⟩=>[(8,qi c)]) (fun ⟨b,c⟩=>D5 42 6 d e::L) (fun ⟨b,c⟩ hh=>iter (A2z i k) b c = some p) (fun ⟨b,c⟩=>b) (FUEL,(0:Int)) ⟨z,trivial⟩ z H ?_
  rintro ⟨b,c⟩ q N y
  obtain ⟨A,P,rfl,H,r⟩:=I1 y
  refine T.norm [8,0,1,7] z<|T.fl ?_
  refine Sr<|Vv (V.lt z z)<|Nt<|Sq<|T.cH H z (fun H=>?_) fun H=>?_
  ·refine Ks<|Sq<|Bl<|Sr<|Mv z<|Ag z<|Nt<|Sr<|Mv z<|Mv z<|Mv z<|bE H fun a s H=>?_
   obtain ⟨S,B,rfl⟩:=A7.get f s
   refine Vv (V.ixR Q5 z z (j:=0) z (A7.bd f s))<|Vv (V.D1y z (j:=0) z B K7)<|bE H fun U C H=>?_
   obtain ⟨W,X,Y,D,E⟩:=A9o.call (t.u (g:=q)) (show H5 q [.int .u8 a.H8,qi a.Q3,.string a.fA,.string a.fB,.string a.R6,qi a.fN] a from rfl) C
   refine To (O.A1d z D z (E _) z fun Z aa ab ac G=>?_)
   obtain ⟨rfl,I⟩:=G
   refine J9 _ I<|Nt<|T.cH H z dead fun H=>T.skip<|Bn<|Th<|Rg<|bE H fun J K H=>Vv (V.J2 z z K)<|Mv z<|Nt<|T.ag (A,J) (F4 H r)
  refine T.exit<|Te<|Te<|have H:=D9 H r; Be<|Th<|T.mt () H
 rintro _ ad ae M
 have H:=J8 M x
 refine T.norm [0] z<|T.fl ?_
 refine Sr<|Ag z<|Nt<|T.ret ?_
 cases H
 exact T.rl z (Rv z) ⟨_,z,z,f.u⟩
theorem A7m {h a b c d e f} (i:A7 H5 h b c) (j:A9o h d e) (H:A1A c e = some f):∀ L,G8 prog 64 [a,d] h (D5 42 6 a b::L) (fun v h' L'=>∃ g,L' = D5 42 6 v g::L∧A7 H5 h' g f):=by
 intro L
 refine G8.enter func64 z z z<|Sr<|Ag z<|Nt<|Sr<|Mv z<|Mv z<|bE H fun ⟨p,q⟩ k H=>To (O.D8 z (B2s i j k _) z fun r s t u m=>?_)
 obtain ⟨w,rfl,n,o⟩:=m
 refine J9 _ n<|Ag z<|Nt<|Sq<|Sr<|Mv z<|Vv (V.eq z z)<|Nt<|T.cH H z (fun H=>?_) fun H=>?_
 ·refine Sr<|Mv z<|Ag z<|Nt<|T.ret<|Tr ?_
  cases H
  exact T.rl z (Rv z) ⟨_,z,o⟩
 exact dead H
theorem C0X {h a b c d e f} (g:F9 h a b) (i:AtC h c d) (j:VS h d e) (H:A9G b e = some f):∀ L,G8 prog 188 [.agg a.toArray,.pointer (some c)] h (L) (fun v h' L'=>v = .bool f∧L' = L):=by
 intro L
 obtain ⟨n,rfl,o⟩:=g
 obtain rfl:=j
 refine G8.enter func188 z z z<|Sr<|To (O.Y0 z z z fun p q r m=>Ag z<|Nt<|Sr<|Vv (V.fa X4 z)<|Vv (V.I9 (k:=0) H9 z m z)<|Vv (V.ld0 H9 z i.u z)<|Vv (V.seq z z)<|Ag z<|Nt<|T.ret ?_)
 exact E1 H
theorem A5B {h b c a d} (f:Pt Q8 h b c) (H:A2M c a = some d):∀ L,G8 prog 100 [b,.string a] h (L) (fun v h' L'=>v = .int .i64 d∧L' = L):=by
 intro L
 refine G8.enter func100 z z z<|Sr<|To (O.Y0 z z z fun e g y i=>Ag z<|Nt<|Sr<|Mv z<|have j:=f; ?_)
 obtain ⟨A,_,rfl,m,⟨B,C,D,E,G,I,J,rfl,K,M,n,N,P,S,U⟩⟩:=j
 refine Vv (V.S9 z)<|Vv (V.fa L8 z)<|Vv (V.fa K3 z)<|Vv (V.I9 (k:=2) I7 z m.u z)<|Vv (V.mkf z z)<|bE H fun W o H=>To (O.D8 z (A7w n.u (show B0u g (.func (.func 188) #[] #[qp e]) (fun p=>A9G p a) from ⟨⟨z,z⟩,.inr ⟨188,[],[qp e],z,fun q X Y Z r aa s t=>C0X r i.u (show VS q [.string a] a from z) s t⟩⟩) o _) z fun ab ac ad ae w=>?_)
 obtain ⟨rfl,x⟩:=w
 exact J9 _ x<|Ag z<|Nt<|T.ret<|E1 H
theorem C1t {h a b c} (d:Pt Q8 h a b) (H:B9S b = some c):∀ L,G8 prog 114 [a] h (L) (fun v h' L'=>v = .bool c∧L' = L):=by
 intro L
 refine G8.enter func114 z z z<|Sr<|Ag z<|Nt<|Sr<|Mv z<|have e:=d; ?_
 obtain ⟨i,_,rfl,f,⟨j,m,n,o,p,q,r,rfl,s,t,u,w,x,g,y⟩⟩:=e
 exact Vv (V.S9 z)<|Vv (V.fa L8 z)<|Vv (V.fa P6 z)<|Vv (V.I9 (k:=5) O7 z f z)<|Vv (V.P9 Q5 z g)<|Vv (V.eq z z)<|Ag z<|Nt<|T.ret<|E1 H
theorem C0m {h a b c d e f g i j} (k:H7 h a b) (m:AtC h c d) (n:VS h d e) (o:AtC h f g) (p:VS h g i) (H:B2S b e i = some j):∀ L,G8 prog 201 [.agg a.toArray,.pointer (some c),.pointer (some f)] h (L) (fun v h' L'=>v = .bool j∧L' = L):=by
 intro L
 exact dead H
theorem C3j {h c d a b e} (j:Pt Q8 h c d) (H:C2O d a b = some e):∀ L,G8 prog 115 [c,.string a,.string b] h (L) (fun v h' L'=>v = .int .i64 e∧L' = L):=by
 intro L
 refine G8.enter func115 z z z<|Sr<|To (O.Y0 z z z fun f C D m=>To (O.Y0 z z z fun g n E o=>Ag z<|Nt<|Sr<|Mv z<|have p:=j; ?_))
 obtain ⟨G,_,rfl,q,⟨I,J,K,M,N,P,S,rfl,U,W,X,r,Y,Z,aa⟩⟩:=p
 refine Vv (V.S9 z)<|Vv (V.fa L8 z)<|Vv (V.fa Y5 z)<|Vv (V.I9 (k:=3) Q4 z q.u z)<|Vv (V.mkf z z)<|bE H fun ab s H=>To (O.D8 z (B5X r.u (show A8O n (.func (.func 201) #[] #[qp f,qp g]) (fun t=>B2S t a b) from ⟨⟨z,z⟩,.inr ⟨201,[],[qp f,qp g],z,fun i ac ad ae w af x y=>C0m w m.u (show VS i [.string a] a from z) o.u (show VS i [.string b] b from z) x y⟩⟩) s _) z fun ag ai aj ak A=>?_)
 obtain ⟨rfl,B⟩:=A
 exact J9 _ B<|Ag z<|Nt<|T.ret<|E1 H
theorem B5F {h e f g i j} (n:Pt Q8 h e f) (o:Y9 h g i) (H:A2l f i = some j):∀ L,G8 prog 41 [e,.agg g.toArray] h (L) (fun v h' L'=>v = .int .i64 j∧L' = L):=by
 intro L
 obtain ⟨p,rfl,q⟩:=o
 refine G8.enter func41 z z z<|Sr<|To (O.Y0 z z z fun aa ab ac c=>Ag z<|Nt<|Sr<|Ag z<|Nt<|Sq<|Sr<|Mv z<|have r:=n; ?_)
 obtain ⟨ad,_,rfl,a,⟨s,w,x,y,A,B,C,rfl,D,E,d,G,m,I,J⟩⟩:=r
 refine Vv (V.S9 z)<|Vv (V.fa L8 z)<|Vv (V.fa Y3 z)<|Vv (V.I9 (k:=4) E5 z a.u z)<|Vv (V.P9 C9 z m)<|Vv (V.eq z z)<|Nt ?_
 obtain ⟨K,M,N⟩:=M5 H
 refine T.M7 (α:=Int) [0,3] z (fun b=>[(5,qi b)]) (fun b=>L) (fun b hh=>K = b) ?_ ?_
 ·have H:=M
  refine T.cH H z (fun H=>?_) fun H=>?_
  ·refine Rg<|Ag z<|Nt<|T.mt (0:Int) (O5 H)
  refine Ks<|T.mt (63:Int) (O5 H)
 rintro b ae af P
 have H:=J8 P N
 refine T.norm [5,0,3] z<|T.fl ?_
 refine Sq<|Sr<|Vv (V.fa B0t z)<|Vv (V.C2j (k:=1) Z7 z c.u (Nat.le_of_ble_eq_true z))<|bE H fun ag S H=>To (O.D8 z (B2t ⟨p,z,q.u⟩ S _) z fun ai aj ak am U=>?_)
 obtain ⟨rfl,W⟩:=U
 refine J9 _ W<|Ag z<|Nt<|Bl<|Sr<|Mv z<|Vv (V.ne z z)<|Ag z<|Nt<|T.cH H z dead fun H=>Sr<|Mv z<|Vv (V.fa B0t z)<|Vv (V.fa X4 z)<|Vv (V.I9 (k:=1) H9 z c.u z)<|bE H fun an X H=>To (O.D8 z (A5B (Pt.mk a.u ⟨s,w,x,y,A,B,C,z,D.u,E.u,d.u,G.u,m.u,I.u,J.u⟩) X _) z fun ao ap aq ar Y=>?_)
 obtain ⟨rfl,Z⟩:=Y
 refine J9 _ Z<|Vv (V.ge z z)<|Ag z<|Nt<|T.cH H z dead fun H=>Sr<|Mv z<|Vv (V.S9 z)<|Vv (V.fa L8 z)<|Vv (V.fa K3 z)<|Vv (V.I9 (k:=2) I7 z a.u z)<|Vv (V.P9 K8 z d)<|Vv (V.eq z z)<|Ag z<|Nt<|T.cH H z dead fun H=>Sq<|T.O1 (t:=(.vs [0,1,2,3,4,5,6,7,8,9,10] (.alt 11 .done .no))) 13 0 0 z z I4 (by kernel_rfl) ?_
 refine Tm z z<|Tv z (V.S9 z)<|Tv z (V.fa L8 z)<|Tv z (V.fa K3 z)<|Tv z (V.I9 (k:=2) I7 z a.u z)<|Tv z (V.P9 K8 z d)<|Tm z z<|Tv z (V.S9 z)<|Tv z (V.fa B0d z)<|Tv z (V.I9 (k:=7) E8 z a.u z)<|Tv z (V.eq z z)<|Ts z z (SX.two (XA.fr [] Lr z) (XA.fr [] Lr z)) (V.asg z) z ?_ T.O9
 refine T.R7 (SX.two (XA.fr [] Lr z) (XA.fr [] Lr z))<|Th<|T.cH H z (fun H=>?_) fun H=>?_
 ·exact Sq<|T.norm [] z<|Rg<|Ag z<|Nt<|T.ret<|Br<|Tr<|E1 H
 exact Sq<|T.norm [3,5] z<|Rg<|Vv (V.fa A6Y z)<|Vv (V.I9 (k:=13) E8 z c.u z)<|Vv (V.lt z z)<|Mv z<|T.bH 52 H z dead fun H=>Vv (V.fa A6Y z)<|Vv (V.I9 (k:=13) E8 z c.u z)<|Mv z<|Vv (V.gt z z)<|Vv (V.R9 z z)<|Ag z<|Nt<|T.cH H z dead fun H=>T.skip<|Bn<|Th<|Sr<|Ag z<|Nt<|T.ret<|E1 H
theorem B2L {h a b c d e} (f:Pt Q8 h a b) (g:Y9 h c d) (H:A1w b d = some e):∀ L,G8 prog 45 [a,.agg c.toArray] h (L) (fun v h' L'=>v = .int .i64 e∧L' = L):=by
 intro L
 obtain ⟨o,rfl,p⟩:=g
 refine G8.enter func45 z z z<|Sr<|To (O.Y0 z z z fun q r s i=>Ag z<|Nt<|Sq<|Sr<|Mv z<|Vv (V.fa A0w z)<|Vv (V.I9 (k:=10) H9 z i z)<|bE H fun t j H=>To (O.D8 z (A5B f.u j _) z fun w x y A m=>?_))
 obtain ⟨rfl,n⟩:=m
 exact J9 _ n<|Vv (V.lt z z)<|Nt<|T.cH H z dead fun H=>Ks<|Sr<|Ag z<|Nt<|T.ret<|E1 H
theorem B2i {h c d e f g} (a:Pt Q8 h c d) (i:Y9 h e f) (H:A8C d f = some g):∀ L,G8 prog 49 [c,.agg e.toArray] h (L) (fun v h' L'=>v = .int .i64 g∧L' = L):=by
 intro L
 obtain ⟨A,rfl,B⟩:=i
 refine G8.enter func49 z z z<|Sr<|To (O.Y0 z z z fun C D E b=>Ag z<|Nt<|Sq<|Bl<|Sr<|Mv z<|Vv (V.fa A0w z)<|Vv (V.I9 (k:=10) H9 z b z)<|bE H fun G j H=>To (O.D8 z (A5B a.u j _) z fun I J K M m=>?_))
 obtain ⟨rfl,n⟩:=m
 refine J9 _ n<|Vv (V.lt z z)<|Mv z<|T.bH 11 H z dead fun H=>Mv z<|Vv (V.fa A3G z)<|Vv (V.I9 (k:=11) H9 z b.u z)<|bE H fun N o H=>To (O.D8 z (A5B a.u o _) z fun P S U W p=>?_)
 obtain ⟨rfl,q⟩:=p
 refine J9 _ q<|Vv (V.lt z z)<|Vv (V.R9 z z)<|Ag z<|Nt<|T.cH H z dead fun H=>Sr<|Vv (V.fa A0w z)<|Vv (V.I9 (k:=10) H9 z b.u z)<|Vv (V.fa A3G z)<|Vv (V.I9 (k:=11) H9 z b.u z)<|Vv (V.seq z z)<|Ag z<|Nt<|T.cH H z dead fun H=>Sr<|Mv z<|bE H fun X r H=>To (O.D8 z (C1t a.u r _) z fun Y Z aa ab s=>?_)
 obtain ⟨rfl,t⟩:=s
 refine J9 _ t<|Mv z<|T.bH 27 H z dead fun H=>Mv z<|have w:=a; ?_
 obtain ⟨ac,_,rfl,x,⟨ad,ae,af,ag,ai,aj,ak,rfl,am,an,ao,y,ap,aq,ar⟩⟩:=w
 exact Vv (V.S9 z)<|Vv (V.fa L8 z)<|Vv (V.fa Y5 z)<|Vv (V.I9 (k:=3) Q4 z x.u z)<|Vv (V.P9 X3 z y)<|Vv (V.eq z z)<|Mv z<|T.bH 35 H z dead fun H=>Sk<|Sk<|Sk<|Sk<|Sk<|Sk<|Sk<|Vv (V.R9 z z)<|Vv (V.R9 z z)<|Ag z<|Nt<|Cf z<|T.skip<|Bn<|Th<|Sq<|T.norm [] z<|Rg<|Ag z<|Nt<|T.ret<|E1 H
theorem B4u {h a b c d e} (f:Pt Q8 h a b) (g:Y9 h c d) (H:B0D b d = some e):∀ L,G8 prog 53 [a,.agg c.toArray] h (L) (fun v h' L'=>v = .int .i64 e∧L' = L):=by
 intro L
 exact dead H
theorem B3B {h a b c d e} (f:Pt Q8 h a b) (g:Y9 h c d) (H:A9i b d = some e):∀ L,G8 prog 58 [a,.agg c.toArray] h (L) (fun v h' L'=>v = .int .i64 e∧L' = L):=by
 intro L
 exact dead H
theorem C0H {h : PH} {n : Nat} {pv0 : Value} {s1 : H6} (pr0 : Pt Q8 h pv0 s1) {pc1 : List Value} {c2 : V4} (pr1 : Y9 h pc1 c2) {r_0 : Int} (H : B0E n s1 c2 = some r_0) :
    ∃ fid us vs,fnV n = .func (.func fid) us.toArray vs.toArray∧∀ L,G8 prog fid (us ++ [pv0,.agg pc1.toArray] ++ vs) h (L) (fun v h' L'=>v = .int .i64 r_0∧L' = L):=by
  unfold B0E at H
  refine rfE H (fun e H=>?_) (fun _ H=>?_)
  · subst e; exact ⟨41,[],[],rfl,B5F pr0 pr1 H⟩
  refine rfE H (fun e H=>?_) (fun _ H=>?_)
  · subst e; exact ⟨45,[],[],rfl,B2L pr0 pr1 H⟩
  refine rfE H (fun e H=>?_) (fun _ H=>?_)
  · subst e; exact ⟨49,[],[],rfl,B2i pr0 pr1 H⟩
  refine rfE H (fun e H=>?_) (fun _ H=>?_)
  · subst e; exact ⟨53,[],[],rfl,B4u pr0 pr1 H⟩
  refine rfE H (fun e H=>?_) (fun _ H=>?_)
  · subst e; exact ⟨58,[],[],rfl,B3B pr0 pr1 H⟩
  cases H
theorem B9i {h m r1 n o} (p:H5 h m r1) (H:A7S r1 n = some o):∀ L,G8 prog 112 [.agg m.toArray,.string n] h (L) (fun v h' L'=>v = .bool o∧L' = L):=by
 intro L
 obtain rfl:=p
 refine G8.enter func112 z z z<|Sr<|To (O.Y0 z z z fun q r s a=>Ag z<|Nt<|Sq<|Sr<|Vv (V.fa A0o z)<|Vv (V.I9 (k:=0) A1f z a z)<|Nt<|Bl<|Sq<|Sr<|Vv (V.eq z z)<|Ag z<|Nt<|T.cond (b:=decide (r1.H8 = (1:Int))) z (fun c=>?_) (fun c=>?_))
 ·have H:=cT c H
  refine Ks<|Ct (congrArg (fun b=>some (Value.bool b)) c)<|Sr<|Vv (V.fa V6 z)<|Vv (V.I9 (k:=2) H9 z a z)<|Mv z<|Vv (V.seq z z)<|Mv z<|T.bH 20 H z (fun H=>?_) fun H=>?_
  ·exact Sk<|Sk<|Sk<|Sk<|Vv (V.R8 z z)<|Ag z<|Nt<|T.ret<|Br<|Tr<|E1 H
  exact Vv (V.fa A0e z)<|Vv (V.I9 (k:=3) H9 z a z)<|Mv z<|Vv (V.seq z z)<|Vv (V.R9 z z)<|Ag z<|Nt<|T.ret<|Br<|Tr<|E1 H
 have H:=cF c H
 refine Sr<|Vv (V.eq z z)<|Ag z<|Nt<|T.cond (b:=decide (r1.H8 = (2:Int))) z (fun d=>?_) (fun d=>?_)
 ·have H:=cT d H
  refine Ks<|Ct (congrArg (fun b=>some (Value.bool b)) d)<|Sr<|Vv (V.fa V6 z)<|Vv (V.I9 (k:=2) H9 z a z)<|Mv z<|Vv (V.seq z z)<|Mv z<|T.bH 20 H z (fun H=>?_) fun H=>?_
  ·exact Sk<|Sk<|Sk<|Sk<|Vv (V.R8 z z)<|Ag z<|Nt<|T.ret<|Br<|Tr<|E1 H
  exact Vv (V.fa A0e z)<|Vv (V.I9 (k:=3) H9 z a z)<|Mv z<|Vv (V.seq z z)<|Vv (V.R9 z z)<|Ag z<|Nt<|T.ret<|Br<|Tr<|E1 H
 have H:=cF d H
 refine Sr<|Vv (V.eq z z)<|Ag z<|Nt<|T.cond (b:=decide (r1.H8 = (3:Int))) z (fun e=>?_) (fun e=>?_)
 ·have H:=cT e H
  refine Ks<|Ct (congrArg (fun b=>some (Value.bool b)) e)<|Sr<|Vv (V.fa V6 z)<|Vv (V.I9 (k:=2) H9 z a z)<|Mv z<|Vv (V.seq z z)<|Mv z<|T.bH 20 H z (fun H=>?_) fun H=>?_
  ·exact Sk<|Sk<|Sk<|Sk<|Vv (V.R8 z z)<|Ag z<|Nt<|T.ret<|Br<|Tr<|E1 H
  exact Vv (V.fa A0e z)<|Vv (V.I9 (k:=3) H9 z a z)<|Mv z<|Vv (V.seq z z)<|Vv (V.R9 z z)<|Ag z<|Nt<|T.ret<|Br<|Tr<|E1 H
 have H:=cF e H
 refine Sr<|Vv (V.eq z z)<|Ag z<|Nt<|T.cond (b:=decide (r1.H8 = (4:Int))) z (fun f=>?_) (fun f=>?_)
 ·have H:=cT f H
  refine Ks<|Ct (congrArg (fun b=>some (Value.bool b)) f)<|Sr<|Vv (V.fa V6 z)<|Vv (V.I9 (k:=2) H9 z a z)<|Mv z<|Vv (V.seq z z)<|Mv z<|T.bH 20 H z (fun H=>?_) fun H=>?_
  ·exact Sk<|Sk<|Sk<|Sk<|Vv (V.R8 z z)<|Ag z<|Nt<|T.ret<|Br<|Tr<|E1 H
  exact Vv (V.fa A0e z)<|Vv (V.I9 (k:=3) H9 z a z)<|Mv z<|Vv (V.seq z z)<|Vv (V.R9 z z)<|Ag z<|Nt<|T.ret<|Br<|Tr<|E1 H
 have H:=cF f H
 refine Sr<|Vv (V.eq z z)<|Ag z<|Nt<|T.cond (b:=decide (r1.H8 = (5:Int))) z (fun g=>?_) (fun g=>?_)
 ·have H:=cT g H
  refine Ks<|Ct (congrArg (fun b=>some (Value.bool b)) g)<|Sr<|Vv (V.fa V6 z)<|Vv (V.I9 (k:=2) H9 z a z)<|Mv z<|Vv (V.seq z z)<|Mv z<|T.bH 20 H z (fun H=>?_) fun H=>?_
  ·exact Sk<|Sk<|Sk<|Sk<|Vv (V.R8 z z)<|Ag z<|Nt<|T.ret<|Br<|Tr<|E1 H
  exact Vv (V.fa A0e z)<|Vv (V.I9 (k:=3) H9 z a z)<|Mv z<|Vv (V.seq z z)<|Vv (V.R9 z z)<|Ag z<|Nt<|T.ret<|Br<|Tr<|E1 H
 have H:=cF g H
 refine Sr<|Vv (V.eq z z)<|Ag z<|Nt<|T.cond (b:=decide (r1.H8 = (6:Int))) z (fun i=>?_) (fun i=>?_)
 ·have H:=cT i H
  refine Ks<|Ct (congrArg (fun b=>some (Value.bool b)) i)<|Sr<|Vv (V.fa V6 z)<|Vv (V.I9 (k:=2) H9 z a z)<|Mv z<|Vv (V.seq z z)<|Mv z<|T.bH 20 H z (fun H=>?_) fun H=>?_
  ·exact Sk<|Sk<|Sk<|Sk<|Vv (V.R8 z z)<|Ag z<|Nt<|T.ret<|Br<|Tr<|E1 H
  exact Vv (V.fa A0e z)<|Vv (V.I9 (k:=3) H9 z a z)<|Mv z<|Vv (V.seq z z)<|Vv (V.R9 z z)<|Ag z<|Nt<|T.ret<|Br<|Tr<|E1 H
 have H:=cF i H
 refine Sr<|Vv (V.eq z z)<|Ag z<|Nt<|T.cond (b:=decide (r1.H8 = (7:Int))) z (fun j=>?_) (fun j=>?_)
 ·have H:=cT j H
  refine Ks<|Ct (congrArg (fun b=>some (Value.bool b)) j)<|Sr<|Vv (V.fa V6 z)<|Vv (V.I9 (k:=2) H9 z a z)<|Mv z<|Vv (V.seq z z)<|Mv z<|T.bH 20 H z (fun H=>?_) fun H=>?_
  ·exact Sk<|Sk<|Sk<|Sk<|Vv (V.R8 z z)<|Ag z<|Nt<|T.ret<|Br<|Tr<|E1 H
  exact Vv (V.fa A0e z)<|Vv (V.I9 (k:=3) H9 z a z)<|Mv z<|Vv (V.seq z z)<|Vv (V.R9 z z)<|Ag z<|Nt<|T.ret<|Br<|Tr<|E1 H
 have H:=cF j H
 refine Rg<|Vv (V.eq z z)<|Ag z<|Nt<|T.cH H z (fun H=>?_) fun H=>?_
 ·refine Sr<|Vv (V.fa V6 z)<|Vv (V.I9 (k:=2) H9 z a z)<|Mv z<|Vv (V.seq z z)<|Mv z<|T.bH 20 H z (fun H=>?_) fun H=>?_
  ·exact Sk<|Sk<|Sk<|Sk<|Vv (V.R8 z z)<|Ag z<|Nt<|T.ret<|Br<|Tr<|E1 H
  exact Vv (V.fa A0e z)<|Vv (V.I9 (k:=3) H9 z a z)<|Mv z<|Vv (V.seq z z)<|Vv (V.R9 z z)<|Ag z<|Nt<|T.ret<|Br<|Tr<|E1 H
 exact T.skip<|Bn<|Th<|Sr<|Ag z<|Nt<|T.ret<|E1 H
theorem B6J {h a b c d e f} (j:H7 h a b) (g:AtC h c d) (m:Y9 h d e) (H:A4a b e = some f):∀ L,G8 prog 110 [.agg a.toArray,.pointer (some c)] h (L) (fun v h' L'=>v = .bool f∧L' = L):=by
 intro L
 obtain rfl:=j
 obtain ⟨n,rfl,o⟩:=m
 refine G8.enter func110 z z z<|Sr<|To (O.Y0 z z z fun p q r i=>Ag z<|Nt<|Sr<|Vv (V.fa A4U z)<|Vv (V.I9 (k:=0) H9 z i z)<|Vv (V.fa A0w z)<|Vv (V.I9 (k:=10) H9 z g.u z)<|Vv (V.seq z z)<|Mv z<|T.bH 9 H z (fun H=>?_) fun H=>?_)
 ·exact dead H
 exact Vv (V.fa A4E z)<|Vv (V.I9 (k:=1) H9 z i z)<|Vv (V.fa A0w z)<|Vv (V.I9 (k:=10) H9 z g.u z)<|Vv (V.seq z z)<|Vv (V.R9 z z)<|Ag z<|Nt<|T.ret<|E1 H
theorem B7m {h a r1 b c d e} (f:H5 h a r1) (g:AtC h b c) (i:Y9 h c d) (H:A3S r1 d = some e):∀ L,G8 prog 111 [.agg a.toArray,.pointer (some b)] h (L) (fun v h' L'=>v = .bool e∧L' = L):=by
 intro L
 obtain rfl:=f
 obtain ⟨q,rfl,r⟩:=i
 refine G8.enter func111 z z z<|Sr<|To (O.Y0 z z z fun s j t m=>Ag z<|Nt<|Sr<|Vv (V.ldS z m (by exact K7)) ?_)
 refine Vv (V.fa A0w z)<|Vv (V.I9 (k:=10) H9 z g.u z)<|bE H fun w n H=>To (O.D8 z (B9i (show H5 j [.int .u8 r1.H8,qi r1.Q3,.string r1.fA,.string r1.fB,.string r1.R6,qi r1.fN] r1 from z) n _) z fun x y A B o=>?_)
 obtain ⟨rfl,p⟩:=o
 exact J9 _ p<|Ag z<|Nt<|T.ret<|E1 H
theorem B5Y {h a b c d e} (f:H7 h a b) (g:H7 h c d) (H:A7F b d = some e):∀ L,G8 prog 117 [.agg a.toArray,.agg c.toArray] h (L) (fun v h' L'=>v = .int .i64 e∧L' = L):=by
 intro L
 exact dead H
theorem B6N {h i c d b k m} (a:A7 F9 h c d) (H:A4e d b k = some m):∀ L,G8 prog 107 [i,.int .i64 b,.int .i64 k] h (D5 39 9 i c::L) (fun v h' L'=>∃ n,L' = D5 39 9 v n::L∧A7 F9 h' n m):=by
 intro L
 refine G8.enter func107 z z z<|Sr<|Ag z<|Nt<|Sr<|Mv z<|Mv z<|Mv z<|Mv z<|Vv (V.A2a K8 z (j:=0) z a.len)<|bE H fun C p H=>bE H fun D q H=>Vv (V.sl3 K8 z (j:=0) z a.len z z z (A1I p) (A1I q))<|Nt<|Sq<|Sr<|Mv z<|Mv z<|Vv (V.eq z z)<|Nt<|T.cH H z dead fun H=>Ks<|Sr<|Mv z<|Vv (V.A2a K8 z (j:=0) z a.len)<|Ag z<|Nt<|Sq<|T.O1 (t:=(.vs [0,1,2,3,4,5] (.alt 6 (.alt 7 .done .no) .no))) 9 1 1 z z I4 (by kernel_rfl) ?_
 refine Tm z z<|Tm z z<|bE H fun E e H=>Tv z (Val.XA fun _ _ _=>V.C1S K8 z (j:=0) z a.len (.inl ⟨z,z⟩) (.inr ⟨_,_,z,z⟩) (A1I e))<|Tm z z<|Tm z z<|bE H fun G r H=>Tv z (Val.XA fun _ _ _=>V.C1S K8 z (j:=0) z a.len (.inr ⟨_,_,z,z⟩) (.inl ⟨z,z⟩) (A1I r))<|bE H fun I s H=>Ts z z (SX.two (XA.fr [0] Lr z) (XA.fr [0] Lr z)) (V.apE K8 K8 A1B z z (j:=0) z (C8o s) (C8x a.len e)) z ?_ T.O9
 refine Ts z z (SX.two (XA.fr [0] Lr z) (XA.fr [0] Lr z)) (V.asg z) z ?_ T.O9
 refine T.R7 (SX.two (XA.fr [0] Lr z) (XA.fr [0] Lr z))<|Th<|Sr<|Mv z<|Mv z<|Vv (V.D0B K8 z (j:=0) z)<|Mv z<|bE H fun J w H=>Vv (V.D2b K8 z (j:=0) z a.len z z (A1I w))<|bE H fun K o H=>have f:=C5x a.len o; bE H fun x y H=>To (O.D0G (zs:=[.string qe,.string qe,.string qe,qi 0,qi 0,.string qe,.bool false,.bool false,qs]) K8 A1B z z z (j:=0) z (fun _ iv=>DX.B8I iv (j:=0) z a.len (A1I o)) f<|have g:A7 F9 h (A2E c (((b.toNat - (0:Int).toNat:Nat)):Int).toNat (List.replicate ((d.length:Int).toNat - (((b.toNat - (0:Int).toNat:Nat)):Int).toNat) ([.string qe,.string qe,.string qe,qi 0,qi 0,.string qe,.bool false,.bool false,qs]:List Value))) x:=A7.D2Z a ⟨(qs),z,G6.nil⟩ f y; ?_)
 have A:=C7Y a.len g.len (B2K (by simpa using f)) e
 refine Nt<|Sr<|Mv z<|Ag z<|Nt<|T.ret<|T.C6M (u:=b) (D0m g.len A)<|have B:=A7.take g b.toNat; ?_
 cases H
 exact T.rl z (Rv z) ⟨_,z,B⟩
theorem B1U {h i c d b k m} (a:A7 (VI .i64) h c d) (H:A2s d b k = some m):∀ L,G8 prog 108 [i,.int .i64 b,.int .i64 k] h (D5 3 1 i c::L) (fun v h' L'=>∃ n,L' = D5 3 1 v n::L∧A7 (VI .i64) h' n m):=by
 intro L
 refine G8.enter func108 z z z<|Sr<|Ag z<|Nt<|Sr<|Mv z<|Mv z<|Mv z<|Mv z<|Vv (V.A2a C9 z (j:=0) z a.len)<|bE H fun C p H=>bE H fun D q H=>Vv (V.sl3 C9 z (j:=0) z a.len z z z (A1I p) (A1I q))<|Nt<|Sq<|Sr<|Mv z<|Mv z<|Vv (V.eq z z)<|Nt<|T.cH H z dead fun H=>Ks<|Sr<|Mv z<|Vv (V.A2a C9 z (j:=0) z a.len)<|Ag z<|Nt<|Sq<|T.O1 (t:=(.vs [0,1,2,3,4,5] (.alt 6 (.alt 7 .done .no) .no))) 9 1 1 z z I4 (by kernel_rfl) ?_
 refine Tm z z<|Tm z z<|bE H fun E e H=>Tv z (Val.XA fun _ _ _=>V.C1S C9 z (j:=0) z a.len (.inl ⟨z,z⟩) (.inr ⟨_,_,z,z⟩) (A1I e))<|Tm z z<|Tm z z<|bE H fun G r H=>Tv z (Val.XA fun _ _ _=>V.C1S C9 z (j:=0) z a.len (.inr ⟨_,_,z,z⟩) (.inl ⟨z,z⟩) (A1I r))<|bE H fun I s H=>Ts z z (SX.two (XA.fr [0] Lr z) (XA.fr [0] Lr z)) (V.apE C9 C9 M9 z z (j:=0) z (C8o s) (C8x a.len e)) z ?_ T.O9
 refine Ts z z (SX.two (XA.fr [0] Lr z) (XA.fr [0] Lr z)) (V.asg z) z ?_ T.O9
 refine T.R7 (SX.two (XA.fr [0] Lr z) (XA.fr [0] Lr z))<|Th<|Sr<|Mv z<|Mv z<|Vv (V.D0B C9 z (j:=0) z)<|Mv z<|bE H fun J w H=>Vv (V.D2b C9 z (j:=0) z a.len z z (A1I w))<|bE H fun K o H=>have f:=C5x a.len o; bE H fun x y H=>To (O.clear C9 M9 z z z (j:=0) z (fun _ iv=>D1.B8I iv (j:=0) z a.len (A1I o)) f<|have g:A7 (VI .i64) h (A2E c (((b.toNat - (0:Int).toNat:Nat)):Int).toNat (List.replicate ((d.length:Int).toNat - (((b.toNat - (0:Int).toNat:Nat)):Int).toNat) ([qi 0]:List Value))) x:=A7.clr a (show (VI .i64) h [qi 0] (0:Int) from z) f y; ?_)
 have A:=C7Y a.len g.len (B2K (by simpa using f)) e
 refine Nt<|Sr<|Mv z<|Ag z<|Nt<|T.ret<|T.C6M (u:=b) (D0m g.len A)<|have B:=A7.take g b.toNat; ?_
 cases H
 exact T.rl z (Rv z) ⟨_,z,B⟩
theorem C3k {h b c e f d g i q_0} (m:A7 H7 h c e) (w:A7y h g i) (H:C2D e f d i = some q_0):∀ L,G8 prog 258 [b,.int .i64 f,.int .i64 d,g] h (D5 106 3 b c::L) (fun v h' L'=>∃ j,v = .tuple #[]∧L' = D5 106 3 b j::L∧A7 H7 h' j q_0):=by
 intro L
 refine G8.enter func258 z z z<|Sr<|Mv z<|bE H fun n o H=>Vv (V.J2 z z o)<|Ag z<|Nt<|T.A5G ?_
 obtain ⟨k,p,q⟩:=M5 H
 refine T.M7 (α:=Unit) [0] z (fun _u=>[]) (fun _u=>D5 106 3 b c::L) (fun _u hh=>k = ()) ?_ ?_
 ·have H:=p
  refine Bl<|T.M8 (α:=Nat) [0,2,8] z (fun a=>[]) (fun a=>D5 106 3 b c::L) (fun a hh=>iter (B6m d n) a () = some k) (fun a=>a) FUEL trivial z H ?_
  rintro a x y r
  obtain ⟨A,B,rfl,H,s⟩:=I1 r
  refine T.norm [0,2,8] z<|T.fl ?_
  refine Sq<|Sr<|Mv z<|Mv z<|Vv (V.lt z z)<|Nt<|T.cH H z dead fun H=>T.exit<|Te<|Te<|have H:=D9 H s; Be<|Th<|T.mt () H
 rintro _ C D t
 have H:=J8 t q
 refine T.norm [0] z<|T.fl ?_
 cases H
 exact T.B2y results258 Li ⟨_,z,z,m.u⟩
theorem C4i (n:Nat):∀ {h:PH} {pv0:Value} {pcs0:List (List Value)} {data1:List F5} (pr0:A7 H7 h pcs0 data1) {a3:Int} {b4:Int} {limit5:Int} {pv4:Value} {cmp6:F5→F5→Option Int} (pr4:A7y h pv4 cmp6) {q_0:List F5} (H:C2B n data1 a3 b4 limit5 cmp6 = some q_0) (L:List E9),G8 prog 202 [pv0,.int .i64 a3,.int .i64 b4,.int .i64 limit5,pv4] h (D5 106 3 pv0 pcs0::L) (fun v h' L'=>∃ ls0,v = .tuple #[]∧L' = D5 106 3 pv0 ls0::L∧A7 H7 h' ls0 q_0):=by
  induction n with
  | zero=>intros; rename_i H _; cases H
  | succ n self=>
    intro h pv0 pcs0 data1 pr0 a3 b4 limit5 pv4 cmp6 pr4 q_0 H L
    refine G8.enter func202 z z z<|Sr<|Ag z<|Nt<|Sr<|Ag z<|Nt ?_
    obtain ⟨b,c,d⟩:=M5 H
    have H:=c
    refine Bl<|T.M8 (α:=Nat) [0,1,2,4] z (fun a=>[]) (fun a=>D5 106 3 pv0 pcs0::L) (fun a hh=>iter (B6X data1 a3 b4 cmp6) a () = some b) (fun a=>a) FUEL trivial z H ?_
    rintro a o p e
    obtain ⟨q,r,rfl,H,f⟩:=I1 e
    refine T.norm [0,1,2,4] z<|T.fl ?_
    refine Bl<|Sr<|Mv z<|Mv z<|bE H fun s g H=>Vv (V.A1s z z g)<|Ag z<|Nt<|Sq<|Sr<|Mv z<|Vv (V.le z z)<|Nt<|T.cH H z (fun H=>?_) fun H=>?_
    ·refine Sr<|Mv z<|Mv z<|Mv z<|Mv z<|bE H fun t i H=>To (O.D8 z (C3k pr0.u pr4.u i _) z fun w x y A j=>?_)
     obtain ⟨B,rfl,k,m⟩:=j
     refine J9 _ k<|Nt<|T.ret<|Tr<|Br<|Tr<|have H:=D9 H f; Br<|have H:=J8 H d; ?_
     cases H
     exact T.C5S results202 Li ⟨_,z,z,m⟩
    exact dead H
theorem B7r {h a b c d e q_0} (f:A7 H7 h b c) (i:A7y h d e) (H:B2n c e = some q_0):∀ L,G8 prog 116 [a,d] h (D5 106 3 a b::L) (fun v h' L'=>∃ g,v = .tuple #[]∧L' = D5 106 3 a g::L∧A7 H7 h' g q_0):=by
 intro L
 refine G8.enter func116 z z z<|Sr<|Mv z<|Vv (V.A2a X3 z (j:=0) z f.len)<|Ag z<|Nt<|Rg<|Mv z<|Mv z<|Mv z<|bE H fun t k H=>Vv (V.A4v underlying3 underlying264 z k)<|bE H fun w m H=>To (O.D8 z (B3S m _) z fun x y A B n=>?_)
 obtain ⟨rfl,o⟩:=n
 refine J9 _ o<|Mv z<|bE H fun C p H=>To (O.D8 z (C4i _ f.u i.u p _) z fun D E G I q=>?_)
 obtain ⟨J,rfl,r,s⟩:=q
 refine J9 _ r<|Ni ?_
 cases H
 exact T.B2y results116 Li ⟨_,z,z,s⟩
theorem C1U {h n b v0_1 v0_3 css0_4 v0_6 css0_7 v0_9 css0_10 v0_12 css0_13 v0_15 css0_16 v0_18 css0_19 s a q_0} (hP0_2:Pt P5 h v0_1 b.Q0) (hR0_5:A7 F7 h css0_4 b.fp.D7) (hR0_8:A7 F9 h css0_7 b.fp.A8) (hR0_11:A7 H7 h css0_10 b.fp.I8) (hR0_14:A7 (VI .i64) h css0_13 b.fp.I6) (hR0_17:A7 H5 h css0_16 b.fp.J3) (hR0_20:A7 (VI .i64) h css0_19 b.U3) (J:Y9 h s a) (H:A8B b a = some q_0):∀ L,G8 prog 42 [.pointer (some ⟨n,0,none⟩),.agg s.toArray] h (blk n (.cells [v0_1,v0_3,v0_6,v0_9,v0_12,v0_15,v0_18,.int .i64 b.A0j].toArray 82)::D5 54 7 v0_3 css0_4::D5 39 9 v0_6 css0_7::D5 106 3 v0_9 css0_10::D5 3 1 v0_12 css0_13::D5 42 6 v0_15 css0_16::D5 3 1 v0_18 css0_19::L) (fun v h' L'=>∃ vl0_1 vl0_3 cssl0_4 vl0_6 cssl0_7 vl0_9 cssl0_10 vl0_12 cssl0_13 vl0_15 cssl0_16 vl0_18 cssl0_19,v = .tuple #[]∧L' = blk n (.cells [vl0_1,vl0_3,vl0_6,vl0_9,vl0_12,vl0_15,vl0_18,.int .i64 q_0.A0j].toArray 82)::D5 54 7 vl0_3 cssl0_4::D5 39 9 vl0_6 cssl0_7::D5 106 3 vl0_9 cssl0_10::D5 3 1 vl0_12 cssl0_13::D5 42 6 vl0_15 cssl0_16::D5 3 1 vl0_18 cssl0_19::L∧Pt P5 h' vl0_1 q_0.Q0∧A7 F7 h' cssl0_4 q_0.fp.D7∧A7 F9 h' cssl0_7 q_0.fp.A8∧A7 H7 h' cssl0_10 q_0.fp.I8∧A7 (VI .i64) h' cssl0_13 q_0.fp.I6∧A7 H5 h' cssl0_16 q_0.fp.J3∧A7 (VI .i64) h' cssl0_19 q_0.U3):=by
 intro L
 obtain ⟨K,rfl,w⟩:=J
 refine G8.enter func42 z z z<|Sr<|To (O.Y0 z z z fun aB aC aD y=>Nt<|Sr<|Vv (V.fa B0t z)<|Vv (V.C2j (k:=1) Z7 z y (Nat.le_of_ble_eq_true z))<|To (O.alloc A1B z z fun M=>To (O.stF (vs:=[.string a.L6.F8,.string a.L6.A0k,.string a.L6.V9,qi a.L6.V3,qi a.L6.A0f,.string a.L6.Z0,.bool a.L6.A0u,.bool a.L6.U2,K]) Z7 z z (j:=0) z z (by (simp only [Sl.ones,G6.one w,Bool.and_true,Bool.true_and]) <;> rfl) z ?_)))
 refine T.fl ?_
 refine Nt<|Sr<|Vv (V.fa V5 z)<|Vv (V.ldO (k:=8) A0b z (j:=0) z z)<|bE H fun N P H=>To (O.D8 z (A3Z w.u P _) z fun c A aE aG S=>?_)
 obtain ⟨U,W,X⟩:=S
 refine J9 _ W<|Vv (V.fa V5 z)<|T.J7 0 z fun Y Z=>To (O.st (vs:=[c]) (k:=8) A0b z z (j:=1) z Z (by (simp only [Sl.ones,Y,Bool.and_true,Bool.true_and]) <;> rfl) ?_)
 refine T.fl ?_
 refine Nt<|Sq<|Sr<|Mv z<|Vv (V.S9 z)<|Vv (V.fa L8 z)<|Vv (V.fa Y3 z)<|Vv (V.ldO (k:=4) E5 z (j:=2) z z)<|Vv (V.A2a C9 z (j:=6) z hR0_14.len)<|Vv (V.gt z z)<|Nt ?_
 obtain ⟨aa,ab,ac⟩:=M5 H
 refine T.M7 (α:=(List Int)×Value×(List (List Value))) [0,4] z (fun ⟨d,f,m⟩=>[]) (fun ⟨d,f,m⟩=>blk M (.cells [.string a.L6.F8,.string a.L6.A0k,.string a.L6.V9,qi a.L6.V3,qi a.L6.A0f,.string a.L6.Z0,.bool a.L6.A0u,.bool a.L6.U2,c].toArray 39)::D5 9 1 c U::blk n (.cells [v0_1,v0_3,v0_6,v0_9,f,v0_15,v0_18,qi b.A0j].toArray 82)::D5 54 7 v0_3 css0_4::D5 39 9 v0_6 css0_7::D5 106 3 v0_9 css0_10::D5 42 6 v0_15 css0_16::D5 3 1 v0_18 css0_19::D5 3 1 f m::L) (fun ⟨d,f,m⟩ hh=>aa = d∧A7 (VI .i64) hh m d) ?_ ?_
 ·have H:=ab
  refine T.cH H z (fun H=>?_) fun H=>?_
  ·refine G5 6 z<|T.fl ?_
   refine G5 3 z<|T.fl ?_
   refine T.O1 (t:=(.vs [0,1,2,3,4] (.x 5 (.v 6 (.v 7 (.alt 8 (.alt 9 (.g (.vs [10,11,12] (.alt 13 .done .no))) .no) .no)))))) 9 2 0 z z I4 (by kernel_rfl) ?_
   refine Tm z z<|Tm z z<|Tv z (V.S9 z)<|Tv z (V.fa L8 z)<|Tv z (V.fa Y3 z)<|T.tx z z (Val.XA fun _ _ _=>V.ldO (k:=4) E5 z (j:=0) z z) z Calm.i<|Tv z (V.fa A6Y z)<|Tv z (V.I9 (k:=13) E8 z y.u z)<|Tp z z (SX.two (XA.fr [] Lr z) (XA.fr [1,1] Lr z)) (O.bs C9 M9 z (e:=z) (hk:=z) (xs:=[.tmp 25]) (hv:=CO.eq (CO.cons z CO.nil)) (hw:=O4.of z) (hd:=z) fun aI=>?_) T.O9
   have o:A7 (VI .i64) A [[qi a.fN]] ([a.fN]:List Int):=(A7.cons z A7.nil)
   refine bE H fun B C H=>Tp z z (SX.two (XA.fr [] Lr z) (XA.fr [2,2] Lr z)) (O.apX C9 C9 M9 z z z (j:=2) z (Src.row (j:=0) z) (O4.of z) (A7.ones VI.plain o) hR0_14.u o C z fun D aJ aK=>?_) T.O9
   have ad:A7 (VI .i64) A (css0_13 ++ [[qi a.fN]]) B:=A7.ap hR0_14.u o C
   refine T.fl ?_
   refine G5 1 z<|T.fl ?_
   refine T.drop<|T.O3 Lr<|Tv z (V.S9 z)<|Tv z (V.fa L8 z)<|Tv z (V.fa Y3 z)<|T.J7 0 z fun ae af=>Tp z z (SX.one (XA.fr [] Lr z) z) (O.st (vs:=[D]) (k:=4) E5 z z (j:=1) z af (by (simp only [Sl.ones,ae,Bool.and_true,Bool.true_and]) <;> rfl) ?_) T.O9
   refine T.fl ?_
   refine T.R7 (SX.one (XA.fr [] Lr z) z)<|Th<|G5 1 z<|T.fl ?_
   refine G5 8 z<|T.fl ?_
   refine G5 8 z<|T.fl ?_
   refine G5 8 z<|T.fl ?_
   refine G5 8 z<|T.fl ?_
   refine G5 8 z<|T.fl ?_
   refine G5 6 z<|T.fl ?_
   refine G5 8 z<|T.fl ?_
   refine G5 8 z<|T.fl ?_
   exact T.mt (B,D,(css0_13 ++ [[qi a.fN]])) ⟨(O5 H),ad⟩
  refine Ks<|G5 6 z<|T.fl ?_
  refine G5 8 z<|T.fl ?_
  refine G5 8 z<|T.fl ?_
  refine G5 8 z<|T.fl ?_
  refine G5 8 z<|T.fl ?_
  refine G5 8 z<|T.fl ?_
  refine G5 8 z<|T.fl ?_
  refine G5 8 z<|T.fl ?_
  refine G5 8 z<|T.fl ?_
  exact T.mt (b.fp.I6,v0_12,css0_13) ⟨(O5 H),hR0_14.u⟩
 rintro ⟨d,f,m⟩ aM aN ⟨ag,ai⟩
 have H:=J8 ag ac
 refine T.norm [0,4] z<|T.fl ?_
 refine Sq<|G5 1 z<|T.fl ?_
 refine T.J5 fun p aO aj=>have ak:=A7.Z4 aj X.u; G5 3 z<|T.fl ?_
 refine G5 2 z<|T.fl ?_
 refine G5 2 z<|T.fl ?_
 refine T.O1 (t:=(.vs [0,1,2,3,4] (.x 5 (.v 6 (.alt 7 (.alt 8 (.g (.vs [9,10,11] (.alt 12 .done .no))) .no) .no))))) 8 3 1 z z I4 (by kernel_rfl) ?_
 refine Tm z z<|Tm z z<|Tv z (V.S9 z)<|Tv z (V.fa L8 z)<|Tv z (V.fa K3 z)<|T.tx z z (Val.XA fun _ _ _=>V.ldO (k:=2) I7 z (j:=1) z z) z Calm.i<|Tv z (Val.XA fun _ _ _=>V.A3T (j:=0) (by exact Z7) z z) ?_
 refine Tp z z (SX.two (XA.fr [0] Lr z) (XA.fr [2,2,2] Lr z)) (O.bs K8 A1B z (e:=z) (hk:=z) (xs:=[.tmp 37]) (hv:=CO.eq (CO.cons z CO.nil)) (hw:=O4.of z) (hd:=z) fun aP=>?_) T.O9
 have q:A7 F9 p [[.string a.L6.F8,.string a.L6.A0k,.string a.L6.V9,qi a.L6.V3,qi a.L6.A0f,.string a.L6.Z0,.bool a.L6.A0u,.bool a.L6.U2,c]] ([(D6.mk a.L6.F8 a.L6.A0k a.L6.V9 a.L6.V3 a.L6.A0f a.L6.Z0 a.L6.A0u a.L6.U2 N)]:List D6):=(A7.cons ⟨c,z,ak⟩ A7.nil)
 refine bE H fun am G H=>Tp z z (SX.two (XA.fr [1] Lr z) (XA.fr [3,3,3] Lr z)) (O.apX K8 K8 A1B z z z (j:=3) z (Src.row (j:=0) z) (O4.of z) (A7.ones F9.plain q) hR0_8.u q G z fun an aS aU=>?_) T.O9
 have ao:A7 F9 p (css0_7 ++ [[.string a.L6.F8,.string a.L6.A0k,.string a.L6.V9,qi a.L6.V3,qi a.L6.A0f,.string a.L6.Z0,.bool a.L6.A0u,.bool a.L6.U2,c]]) am:=A7.ap hR0_8.u q G
 refine T.fl ?_
 refine G5 1 z<|T.fl ?_
 refine T.drop<|T.O3 Lr<|Tv z (V.S9 z)<|Tv z (V.fa L8 z)<|Tv z (V.fa K3 z)<|T.J7 0 z fun aq ar=>Tp z z (SX.one (XA.fr [1] Lr z) z) (O.st (vs:=[an]) (k:=2) I7 z z (j:=2) z ar (by (simp only [Sl.ones,aq,Bool.and_true,Bool.true_and]) <;> rfl) ?_) T.O9
 refine T.fl ?_
 refine T.R7 (SX.one (XA.fr [2] Lr z) z)<|Th<|Rg<|Mv z<|Mv z<|Vv (V.S9 z)<|Vv (V.fa Y8 z)<|Vv (V.ldO (k:=6) E5 z (j:=0) z z)<|To (O.b1 (E:=VI .i64) C9 M9 z z z z z fun aV r=>bE H fun au I H=>To (O.apX C9 C9 M9 z z z (j:=7) z (Src.row (j:=0) z) (O4.of z) (A7.ones VI.plain r) hR0_20.u r I z fun aw aW aX=>have ax:A7 (VI .i64) p (css0_19 ++ [[qi (-1)]]) au:=A7.ap hR0_20.u r I; T.fl ?_))
 refine G5 1 z<|T.fl ?_
 refine T.drop<|Vv (V.S9 z)<|Vv (V.fa Y8 z)<|T.J7 0 z fun ay aA=>To (O.st (vs:=[aw]) (k:=6) E5 z z (j:=1) z aA (by (simp only [Sl.ones,ay,Bool.and_true,Bool.true_and]) <;> rfl) ?_)
 refine T.fl ?_
 refine Ni<|G5 3 z<|T.fl ?_
 refine T.drop<|G5 1 z<|T.fl ?_
 refine G5 5 z<|T.fl ?_
 refine G5 6 z<|T.fl ?_
 refine G5 6 z<|T.fl ?_
 refine G5 5 z<|T.fl ?_
 refine G5 6 z<|T.fl ?_
 refine G5 6 z<|T.fl ?_
 cases H
 exact T.B2y results42 Li ⟨_,_,_,_,_,_,_,_,_,_,_,_,_,z,z,hP0_2.u,hR0_5.u,ao,hR0_11.u,ai.u,hR0_17.u,ax⟩
theorem B9f {h f a v0_1 v0_3 css0_4 v0_6 css0_7 v0_9 css0_10 v0_12 css0_13 v0_15 css0_16 v0_18 css0_19 p g q_0} (hP0_2:Pt P5 h v0_1 a.Q0) (hR0_5:A7 F7 h css0_4 a.fp.D7) (hR0_8:A7 F9 h css0_7 a.fp.A8) (hR0_11:A7 H7 h css0_10 a.fp.I8) (hR0_14:A7 (VI .i64) h css0_13 a.fp.I6) (hR0_17:A7 H5 h css0_16 a.fp.J3) (hR0_20:A7 (VI .i64) h css0_19 a.U3) (t:Y9 h p g) (H:A5D a g = some q_0):∀ L,G8 prog 46 [.pointer (some ⟨f,0,none⟩),.agg p.toArray] h (blk f (.cells [v0_1,v0_3,v0_6,v0_9,v0_12,v0_15,v0_18,.int .i64 a.A0j].toArray 82)::D5 54 7 v0_3 css0_4::D5 39 9 v0_6 css0_7::D5 106 3 v0_9 css0_10::D5 3 1 v0_12 css0_13::D5 42 6 v0_15 css0_16::D5 3 1 v0_18 css0_19::L) (fun v h' L'=>∃ vl0_1 vl0_3 cssl0_4 vl0_6 cssl0_7 vl0_9 cssl0_10 vl0_12 cssl0_13 vl0_15 cssl0_16 vl0_18 cssl0_19,v = .tuple #[]∧L' = blk f (.cells [vl0_1,vl0_3,vl0_6,vl0_9,vl0_12,vl0_15,vl0_18,.int .i64 q_0.A0j].toArray 82)::D5 54 7 vl0_3 cssl0_4::D5 39 9 vl0_6 cssl0_7::D5 106 3 vl0_9 cssl0_10::D5 3 1 vl0_12 cssl0_13::D5 42 6 vl0_15 cssl0_16::D5 3 1 vl0_18 cssl0_19::L∧Pt P5 h' vl0_1 q_0.Q0∧A7 F7 h' cssl0_4 q_0.fp.D7∧A7 F9 h' cssl0_7 q_0.fp.A8∧A7 H7 h' cssl0_10 q_0.fp.I8∧A7 (VI .i64) h' cssl0_13 q_0.fp.I6∧A7 H5 h' cssl0_16 q_0.fp.J3∧A7 (VI .i64) h' cssl0_19 q_0.U3):=by
 intro L
 obtain ⟨q,rfl,r⟩:=t
 refine G8.enter func46 z z z<|Sr<|To (O.Y0 z z z fun i a7 a8 m=>Nt<|Sr<|Mv z<|Vv (V.fa A0w z)<|Vv (V.I9 (k:=10) H9 z m z)<|bE H fun b w H=>To (O.D8 z (G8.A0W (val:=qi b) func100 z B2G fun a9 ah x=>G8.A0W (val:=qi b) func100 z V8 fun al av y=>G8.A0W (val:=qi b) func100 z V8 fun az ba A=>G8.A0W (val:=qi b) func100 z V8 fun bb bc B=>G8.A0W (val:=qi b) func100 z V8 fun bd be C=>G8.A0W (val:=qi b) func100 z V8 fun bf bg D=>G8.A0W (val:=qi b) func100 z V8 fun bi bj E=>?_) z fun bk bm bn bo G=>?_))
 ·have I:=A7.Z4 y hR0_5.u
  have J:=A7.Z4 A hR0_8.u
  have K:=A7.Z4 B hR0_11.u
  have M:=A7.Z4 C hR0_14.u
  have N:=A7.Z4 D hR0_17.u
  have P:=A7.Z4 E hR0_20.u
  exact A5B (Pt.mk x.u ⟨v0_1,v0_3,v0_6,v0_9,v0_12,v0_15,v0_18,z,hP0_2.u,I.u,J.u,K.u,M.u,N.u,P⟩) w _
 obtain ⟨rfl,S⟩:=G
 refine J9 _ S<|Ag z<|Nt<|Sr<|Mv z<|Mv z<|Vv (V.S9 z)<|Vv (V.fa L8 z)<|Vv (V.fa K3 z)<|Vv (V.ldO (k:=2) I7 z (j:=0) z z)<|Mv z<|Mv z<|bE H fun bp U H=>Vv (V.J2 z z U)<|G5 2 z<|T.fl ?_
 refine bE H fun bq W H=>To (O.D8 z (B6N hR0_8.u W _) z fun n br bs bt X=>?_)
 obtain ⟨Y,Z,aa⟩:=X
 refine J9 _ Z<|Vv (V.S9 z)<|Vv (V.fa L8 z)<|Vv (V.fa K3 z)<|T.J7 0 z fun ab ac=>To (O.st (vs:=[n]) (k:=2) I7 z z (j:=1) z ac (by (simp only [Sl.ones,ab,Bool.and_true,Bool.true_and]) <;> rfl) ?_)
 refine T.fl ?_
 refine Nt<|Sq<|Sr<|Mv z<|Vv (V.S9 z)<|Vv (V.fa L8 z)<|Vv (V.fa Y3 z)<|Vv (V.ldO (k:=4) E5 z (j:=0) z z)<|Vv (V.A2a C9 z (j:=4) z hR0_14.len)<|Vv (V.gt z z)<|Nt ?_
 obtain ⟨ad,ae,af⟩:=M5 H
 refine T.M7 (α:=(List Int)×Value×(List (List Value))) [0,3,4] z (fun ⟨c,d,e⟩=>[]) (fun ⟨c,d,e⟩=>blk f (.cells [v0_1,v0_3,n,v0_9,d,v0_15,v0_18,qi a.A0j].toArray 82)::D5 39 9 n Y::D5 54 7 v0_3 css0_4::D5 106 3 v0_9 css0_10::D5 42 6 v0_15 css0_16::D5 3 1 v0_18 css0_19::D5 3 1 d e::L) (fun ⟨c,d,e⟩ hh=>ad = c∧A7 (VI .i64) hh e c) ?_ ?_
 ·have H:=ae
  refine T.cH H z (fun H=>?_) fun H=>?_
  ·refine Rg<|Mv z<|Mv z<|Vv (V.S9 z)<|Vv (V.fa L8 z)<|Vv (V.fa Y3 z)<|Vv (V.ldO (k:=4) E5 z (j:=0) z z)<|Mv z<|Mv z<|bE H fun bu ag H=>Vv (V.J2 z z ag)<|G5 4 z<|T.fl ?_
   refine bE H fun ai aj H=>To (O.D8 z (B1U hR0_14.u aj _) z fun s bw bx bA ak=>?_)
   obtain ⟨am,an,ao⟩:=ak
   refine J9 _ an<|Vv (V.S9 z)<|Vv (V.fa L8 z)<|Vv (V.fa Y3 z)<|T.J7 0 z fun ap aq=>To (O.st (vs:=[s]) (k:=4) E5 z z (j:=1) z aq (by (simp only [Sl.ones,ap,Bool.and_true,Bool.true_and]) <;> rfl) ?_)
   refine T.fl ?_
   refine Nt<|G5 1 z<|T.fl ?_
   refine G5 6 z<|T.fl ?_
   refine G5 6 z<|T.fl ?_
   refine G5 6 z<|T.fl ?_
   refine G5 6 z<|T.fl ?_
   refine G5 6 z<|T.fl ?_
   refine G5 6 z<|T.fl ?_
   exact T.mt (ai,s,am) ⟨(O5 H),ao⟩
  refine Ks<|G5 4 z<|T.fl ?_
  refine G5 6 z<|T.fl ?_
  refine G5 6 z<|T.fl ?_
  refine G5 6 z<|T.fl ?_
  refine G5 6 z<|T.fl ?_
  refine G5 6 z<|T.fl ?_
  refine G5 6 z<|T.fl ?_
  exact T.mt (a.fp.I6,v0_12,css0_13) ⟨(O5 H),hR0_14.u⟩
 rintro ⟨c,d,e⟩ bB bC ⟨ar,au⟩
 have H:=J8 ar af
 refine T.norm [0,3,4] z<|T.fl ?_
 refine Sr<|Mv z<|Mv z<|Vv (V.S9 z)<|Vv (V.fa Y8 z)<|Vv (V.ldO (k:=6) E5 z (j:=0) z z)<|Mv z<|Mv z<|bE H fun bD aw H=>Vv (V.J2 z z aw)<|G5 5 z<|T.fl ?_
 refine bE H fun bG ax H=>To (O.D8 z (B1U hR0_20.u ax _) z fun ay aA bI bJ aB=>?_)
 obtain ⟨bK,aC,aD⟩:=aB
 refine J9 _ aC<|Vv (V.S9 z)<|Vv (V.fa Y8 z)<|T.J7 0 z fun aE aG=>To (O.st (vs:=[ay]) (k:=6) E5 z z (j:=1) z aG (by (simp only [Sl.ones,aE,Bool.and_true,Bool.true_and]) <;> rfl) ?_)
 refine T.fl ?_
 refine Nt<|Sr<|Mv z<|Mv z<|Vv (V.S9 z)<|Vv (V.fa L8 z)<|Vv (V.fa Y5 z)<|Vv (V.ldO (k:=3) Q4 z (j:=0) z z)<|Vv (V.mkf z z)<|G5 4 z<|T.fl ?_
 refine bE H fun bM aI H=>To (O.D8 z (B4t hR0_11.u (show A8O aA (.func (.func 110) #[] #[qp i]) (fun o=>A4a o g) from ⟨⟨z,z⟩,.inr ⟨110,[],[qp i],z,fun bN bO bP bS aJ bU aK aM=>B6J aJ m.u ⟨q,z,r.u⟩ aK aM⟩⟩) aI _) z fun aN aO bV bW aP=>?_)
 obtain ⟨bX,aS,aU⟩:=aP
 refine J9 _ aS<|Vv (V.S9 z)<|Vv (V.fa L8 z)<|Vv (V.fa Y5 z)<|T.J7 0 z fun aV aW=>To (O.st (vs:=[aN]) (k:=3) Q4 z z (j:=1) z aW (by (simp only [Sl.ones,aV,Bool.and_true,Bool.true_and]) <;> rfl) ?_)
 refine T.fl ?_
 refine Nt<|Rg<|Mv z<|Mv z<|Vv (V.S9 z)<|Vv (V.fa L8 z)<|Vv (V.fa P6 z)<|Vv (V.ldO (k:=5) O7 z (j:=0) z z)<|Vv (V.mkf z z)<|G5 5 z<|T.fl ?_
 refine bE H fun bY aX H=>To (O.D8 z (A7m hR0_17.u (show A9o aO (.func (.func 111) #[] #[qp i]) (fun o=>A3S o g) from ⟨⟨z,z⟩,.inr ⟨111,[],[qp i],z,fun bZ b0 b1 b2 aY b3 aZ a0=>B7m aY m.u ⟨q,z,r.u⟩ aZ a0⟩⟩) aX _) z fun a1 b4 b5 b6 a2=>?_)
 obtain ⟨b7,a3,a4⟩:=a2
 refine J9 _ a3<|Vv (V.S9 z)<|Vv (V.fa L8 z)<|Vv (V.fa P6 z)<|T.J7 0 z fun a5 a6=>To (O.st (vs:=[a1]) (k:=5) O7 z z (j:=1) z a6 (by (simp only [Sl.ones,a5,Bool.and_true,Bool.true_and]) <;> rfl) ?_)
 refine T.fl ?_
 refine Ni<|G5 3 z<|T.fl ?_
 refine G5 2 z<|T.fl ?_
 refine G5 6 z<|T.fl ?_
 refine G5 4 z<|T.fl ?_
 refine G5 5 z<|T.fl ?_
 refine G5 6 z<|T.fl ?_
 refine G5 6 z<|T.fl ?_
 cases H
 exact T.B2y results46 Li ⟨_,_,_,_,_,_,_,_,_,_,_,_,_,z,z,hP0_2.u,hR0_5.u,aa.u,aU.u,au.u,a4,aD.u⟩
theorem B7N {h n b v0_1 v0_3 css0_4 v0_6 css0_7 v0_9 css0_10 v0_12 css0_13 v0_15 css0_16 v0_18 css0_19 r a q_0} (hP0_2:Pt P5 h v0_1 b.Q0) (hR0_5:A7 F7 h css0_4 b.fp.D7) (hR0_8:A7 F9 h css0_7 b.fp.A8) (hR0_11:A7 H7 h css0_10 b.fp.I8) (hR0_14:A7 (VI .i64) h css0_13 b.fp.I6) (hR0_17:A7 H5 h css0_16 b.fp.J3) (hR0_20:A7 (VI .i64) h css0_19 b.U3) (B:Y9 h r a) (H:B5c b a = some q_0):∀ L,G8 prog 50 [.pointer (some ⟨n,0,none⟩),.agg r.toArray] h (blk n (.cells [v0_1,v0_3,v0_6,v0_9,v0_12,v0_15,v0_18,.int .i64 b.A0j].toArray 82)::D5 54 7 v0_3 css0_4::D5 39 9 v0_6 css0_7::D5 106 3 v0_9 css0_10::D5 3 1 v0_12 css0_13::D5 42 6 v0_15 css0_16::D5 3 1 v0_18 css0_19::L) (fun v h' L'=>∃ vl0_1 vl0_3 cssl0_4 vl0_6 cssl0_7 vl0_9 cssl0_10 vl0_12 cssl0_13 vl0_15 cssl0_16 vl0_18 cssl0_19,v = .tuple #[]∧L' = blk n (.cells [vl0_1,vl0_3,vl0_6,vl0_9,vl0_12,vl0_15,vl0_18,.int .i64 q_0.A0j].toArray 82)::D5 54 7 vl0_3 cssl0_4::D5 39 9 vl0_6 cssl0_7::D5 106 3 vl0_9 cssl0_10::D5 3 1 vl0_12 cssl0_13::D5 42 6 vl0_15 cssl0_16::D5 3 1 vl0_18 cssl0_19::L∧Pt P5 h' vl0_1 q_0.Q0∧A7 F7 h' cssl0_4 q_0.fp.D7∧A7 F9 h' cssl0_7 q_0.fp.A8∧A7 H7 h' cssl0_10 q_0.fp.I8∧A7 (VI .i64) h' cssl0_13 q_0.fp.I6∧A7 H5 h' cssl0_16 q_0.fp.J3∧A7 (VI .i64) h' cssl0_19 q_0.U3):=by
 intro L
 obtain ⟨aC,rfl,aD⟩:=B
 refine G8.enter func50 z z z<|Sr<|To (O.Y0 z z z fun aE aG aI c=>Nt<|Sr<|Mv z<|Vv (V.fa A0w z)<|Vv (V.I9 (k:=10) H9 z c z)<|Vv (V.fa A3G z)<|Vv (V.I9 (k:=11) H9 z c z)<|bE H fun f C H=>To (O.D8 z (G8.A0W (val:=qi f) func115 z B2G fun aJ aK D=>G8.A0W (val:=qi f) func115 z V8 fun aM aN E=>G8.A0W (val:=qi f) func115 z V8 fun aO aP G=>G8.A0W (val:=qi f) func115 z V8 fun aS aU I=>G8.A0W (val:=qi f) func115 z V8 fun aV aW J=>G8.A0W (val:=qi f) func115 z V8 fun aX aY K=>G8.A0W (val:=qi f) func115 z V8 fun aZ a0 M=>?_) z fun a1 m a2 a3 N=>?_))
 ·have P:=A7.Z4 E hR0_5.u
  have S:=A7.Z4 G hR0_8.u
  have U:=A7.Z4 I hR0_11.u
  have W:=A7.Z4 J hR0_14.u
  have X:=A7.Z4 K hR0_17.u
  have Y:=A7.Z4 M hR0_20.u
  exact C3j (Pt.mk D.u ⟨v0_1,v0_3,v0_6,v0_9,v0_12,v0_15,v0_18,z,hP0_2.u,P.u,S.u,U.u,W.u,X.u,Y⟩) C _
 obtain ⟨rfl,Z⟩:=N
 refine J9 _ Z<|Ag z<|Nt<|Sq<|Sr<|Mv z<|Vv (V.lt z z)<|Nt<|T.cH H z (fun H=>?_) fun H=>?_
 ·refine Sr<|Mv z<|Vv (V.S9 z)<|Vv (V.fa L8 z)<|Vv (V.fa Y5 z)<|Vv (V.ldO (k:=3) Q4 z (j:=0) z z)<|Vv (V.A2a X3 z (j:=3) z hR0_11.len)<|Ag z<|Nt<|G5 3 z<|T.fl ?_
  refine G5 1 z<|T.fl ?_
  refine T.O1 (t:=(.vs [0,1,2,3,4] (.x 5 (.vs [6,7,8,9,10,11,12,13,14,15,16] (.alt 17 (.alt 18 (.g (.vs [19,20,21] (.alt 22 .done .no))) .no) .no))))) 18 2 0 z z I4 (by kernel_rfl) ?_
  refine Tm z z<|Tm z z<|Tv z (V.S9 z)<|Tv z (V.fa L8 z)<|Tv z (V.fa Y5 z)<|T.tx z z (Val.XA fun _ _ _=>V.ldO (k:=3) Q4 z (j:=0) z z) z Calm.i<|Tv z (V.fa A0w z)<|Tv z (V.I9 (k:=10) H9 z c.u z)<|Tv z (V.fa A3G z)<|Tv z (V.I9 (k:=11) H9 z c.u z)<|Tv z (V.minS z z)<|Tv z (V.fa A0w z)<|Tv z (V.I9 (k:=10) H9 z c.u z)<|Tv z (V.fa A3G z)<|Tv z (V.I9 (k:=11) H9 z c.u z)<|Tv z (V.maxS z z)<|Tv z (V.bld (xs:=[(0,.tmp 29),(1,.tmp 34)]) (cs:=[_,_,_]) B2V B2Y z (F3.cons z z z (F3.cons z z z F3.nil)))<|Tp z z (SX.two (XA.fr [] Lr z) (XA.fr [1,1] Lr z)) (O.bs X3 A6c z (e:=z) (hk:=z) (xs:=[.tmp 35]) (hv:=CO.eq (CO.cons z CO.nil)) (hw:=O4.of z) (hd:=z) fun a4=>?_) T.O9
  have o:A7 H7 m [[.string (minS a.fA a.fB),.string (maxS a.fA a.fB),.int .u8 0]] ([(F5.mk (minS a.fA a.fB) (maxS a.fA a.fB) (0:Int))]:List F5):=(A7.cons z A7.nil)
  refine bE H fun aa s H=>Tp z z (SX.two (XA.fr [] Lr z) (XA.fr [2,2] Lr z)) (O.apX X3 X3 A6c z z z (j:=2) z (Src.row (j:=0) z) (O4.of z) (A7.ones H7.plain o) hR0_11.u o s z fun ab a5 a6=>?_) T.O9
  have p:A7 H7 m (css0_10 ++ [[.string (minS a.fA a.fB),.string (maxS a.fA a.fB),.int .u8 0]]) aa:=A7.ap hR0_11.u o s
  refine T.fl ?_
  refine G5 1 z<|T.fl ?_
  refine T.drop<|T.O3 Lr<|Tv z (V.S9 z)<|Tv z (V.fa L8 z)<|Tv z (V.fa Y5 z)<|T.J7 0 z fun ac ad=>Tp z z (SX.one (XA.fr [] Lr z) z) (O.st (vs:=[ab]) (k:=3) Q4 z z (j:=1) z ad (by (simp only [Sl.ones,ac,Bool.and_true,Bool.true_and]) <;> rfl) ?_) T.O9
  refine T.fl ?_
  refine T.R7 (SX.one (XA.fr [] Lr z) z)<|Th<|Sq<|T.norm [0,3,4] z<|T.fl ?_
  refine Rg<|Mv z<|Vv (V.S9 z)<|Vv (V.fa L8 z)<|Vv (V.fa Y5 z)<|Vv (V.ldO (k:=3) Q4 z (j:=0) z z)<|Mv z<|bE H fun d w H=>?_
  obtain ⟨a7,ae,rfl⟩:=A7.get p w
  refine Vv (V.ixR X3 z z (j:=1) z (A7.bd p w))<|Vv (V.fa A9V z)<|bE H fun af ag H=>To (O.C9n (k:=2) B2X z z (j:=1) z z z z ae<|have ai:A7 H7 m (List.set (css0_10 ++ [[.string (minS a.fA a.fB),.string (maxS a.fA a.fB),.int .u8 0]]) (b.fp.I8.length:Int).toNat (over [.string d.fA,.string d.fB,.int .u8 d.H8] [.int .u8 2] 2)) af:=A7.set p (show H7 m (over [.string d.fA,.string d.fB,.int .u8 d.H8] [.int .u8 2] 2) (F5.mk d.fA d.fB (2:Int)) from z) ag; Nt<|Sr<|Mv z<|Vv (V.S9 z)<|Vv (V.fa L8 z)<|Vv (V.fa Y5 z)<|Vv (V.ldO (k:=3) Q4 z (j:=1) z z)<|bE H fun a8 aj H=>To (O.D8 z (B7r ai (show A7y m (.func (.func 117) #[] #[]) A7F from ⟨⟨z,z⟩,.inr ⟨117,[],[],z,fun a9 ah al av ak az ba am bb an ao=>B5Y ak am an ao⟩⟩) aj _) z fun bc y be bf aq=>?_))
  obtain ⟨bg,rfl,ar,au⟩:=aq
  refine J9 _ ar<|Nt<|G5 5 z<|T.fl ?_
  refine G5 2 z<|T.fl ?_
  refine T.O1 (t:=(.vs [0,1,2,3,4] (.x 5 (.vs [6,7,8,9,10] (.alt 11 (.alt 12 (.g (.vs [13,14,15] (.alt 16 .done .no))) .no) .no))))) 12 2 0 z z I4 (by kernel_rfl) ?_
  refine Tm z z<|Tm z z<|Tv z (V.S9 z)<|Tv z (V.fa L8 z)<|Tv z (V.fa P6 z)<|T.tx z z (Val.XA fun _ _ _=>V.ldO (k:=5) O7 z (j:=0) z z) z Calm.i<|Tv z (V.fa A0w z)<|Tv z (V.I9 (k:=10) H9 z c.u z)<|Tv z (V.fa A3G z)<|Tv z (V.I9 (k:=11) H9 z c.u z)<|Tv z (V.bld (xs:=[(0,.const (.int .u8 (1))),(2,.tmp 62),(3,.tmp 64),(5,.const (qi (2)))]) (cs:=[_,_,_,_,_,_]) A7k A7A z (F3.cons z z z (F3.cons z z z (F3.cons z z z (F3.cons z z z F3.nil)))))<|Tp z z (SX.two (XA.fr [] Lr z) (XA.fr [1,1] Lr z)) (O.bs Q5 A1x z (e:=z) (hk:=z) (xs:=[.tmp 65]) (hv:=CO.eq (CO.cons z CO.nil)) (hw:=O4.of z) (hd:=z) fun bi=>?_) T.O9
  have q:A7 H5 y [[.int .u8 1,qi 0,.string a.fA,.string a.fB,.string qe,qi 2]] ([(F6.mk (1:Int) (0:Int) a.fA a.fB qe (2:Int))]:List F6):=(A7.cons z A7.nil)
  refine bE H fun aw A H=>Tp z z (SX.two (XA.fr [] Lr z) (XA.fr [2,2] Lr z)) (O.apX Q5 Q5 A1x z z z (j:=2) z (Src.row (j:=0) z) (O4.of z) (A7.ones H5.plain q) hR0_17.u q A z fun ax bj bk=>?_) T.O9
  have ay:A7 H5 y (css0_16 ++ [[.int .u8 1,qi 0,.string a.fA,.string a.fB,.string qe,qi 2]]) aw:=A7.ap hR0_17.u q A
  refine T.fl ?_
  refine G5 1 z<|T.fl ?_
  refine T.drop<|T.O3 Lr<|Tv z (V.S9 z)<|Tv z (V.fa L8 z)<|Tv z (V.fa P6 z)<|T.J7 0 z fun aA aB=>Tp z z (SX.one (XA.fr [] Lr z) z) (O.st (vs:=[ax]) (k:=5) O7 z z (j:=1) z aB (by (simp only [Sl.ones,aA,Bool.and_true,Bool.true_and]) <;> rfl) ?_) T.O9
  refine T.fl ?_
  refine T.R7 (SX.one (XA.fr [] Lr z) z)<|G5 6 z<|T.fl ?_
  refine G5 2 z<|T.fl ?_
  refine G5 6 z<|T.fl ?_
  refine G5 4 z<|T.fl ?_
  refine G5 6 z<|T.fl ?_
  refine G5 6 z<|T.fl ?_
  refine G5 6 z<|T.fl ?_
  cases H
  exact T.B2y results50 Li ⟨_,_,_,_,_,_,_,_,_,_,_,_,_,z,z,hP0_2.u,hR0_5.u,hR0_8.u,au,hR0_14.u,ay,hR0_20.u⟩
 exact dead H
theorem C1c {h : PH} {n : Nat} {pb0 : Nat} {s1 : H6} {v0_1 : Value} {v0_3 : Value} {css0_4 : List (List Value)} {v0_6 : Value} {css0_7 : List (List Value)} {v0_9 : Value} {css0_10 : List (List Value)} {v0_12 : Value} {css0_13 : List (List Value)} {v0_15 : Value} {css0_16 : List (List Value)} {v0_18 : Value} {css0_19 : List (List Value)} (hP0_2 : Pt P5 h v0_1 s1.Q0) (hR0_5 : A7 F7 h css0_4 s1.fp.D7) (hR0_8 : A7 F9 h css0_7 s1.fp.A8) (hR0_11 : A7 H7 h css0_10 s1.fp.I8) (hR0_14 : A7 (VI .i64) h css0_13 s1.fp.I6) (hR0_17 : A7 H5 h css0_16 s1.fp.J3) (hR0_20 : A7 (VI .i64) h css0_19 s1.U3) {pc1 : List Value} {c2 : V4} (pr1 : Y9 h pc1 c2) {q_0 : H6} (H : B0I n s1 c2 = some q_0) :
    ∃ fid us vs,fnV n = .func (.func fid) us.toArray vs.toArray∧∀ L,G8 prog fid (us ++ [.pointer (some ⟨pb0,0,none⟩),.agg pc1.toArray] ++ vs) h (blk pb0 (.cells [v0_1,v0_3,v0_6,v0_9,v0_12,v0_15,v0_18,.int .i64 s1.A0j].toArray 82)::D5 54 7 v0_3 css0_4::D5 39 9 v0_6 css0_7::D5 106 3 v0_9 css0_10::D5 3 1 v0_12 css0_13::D5 42 6 v0_15 css0_16::D5 3 1 v0_18 css0_19::L) (fun v h' L'=>∃ vl0_1 vl0_3 cssl0_4 vl0_6 cssl0_7 vl0_9 cssl0_10 vl0_12 cssl0_13 vl0_15 cssl0_16 vl0_18 cssl0_19,v = .tuple #[]∧L' = blk pb0 (.cells [vl0_1,vl0_3,vl0_6,vl0_9,vl0_12,vl0_15,vl0_18,.int .i64 q_0.A0j].toArray 82)::D5 54 7 vl0_3 cssl0_4::D5 39 9 vl0_6 cssl0_7::D5 106 3 vl0_9 cssl0_10::D5 3 1 vl0_12 cssl0_13::D5 42 6 vl0_15 cssl0_16::D5 3 1 vl0_18 cssl0_19::L∧Pt P5 h' vl0_1 q_0.Q0∧A7 F7 h' cssl0_4 q_0.fp.D7∧A7 F9 h' cssl0_7 q_0.fp.A8∧A7 H7 h' cssl0_10 q_0.fp.I8∧A7 (VI .i64) h' cssl0_13 q_0.fp.I6∧A7 H5 h' cssl0_16 q_0.fp.J3∧A7 (VI .i64) h' cssl0_19 q_0.U3):=by
  unfold B0I at H
  refine rfE H (fun e H=>?_) (fun _ H=>?_)
  · subst e; exact ⟨42,[],[],rfl,C1U hP0_2 hR0_5 hR0_8 hR0_11 hR0_14 hR0_17 hR0_20 pr1 H⟩
  refine rfE H (fun e H=>?_) (fun _ H=>?_)
  · subst e; exact ⟨46,[],[],rfl,B9f hP0_2 hR0_5 hR0_8 hR0_11 hR0_14 hR0_17 hR0_20 pr1 H⟩
  refine rfE H (fun e H=>?_) (fun _ H=>?_)
  · subst e; exact ⟨50,[],[],rfl,B7N hP0_2 hR0_5 hR0_8 hR0_11 hR0_14 hR0_17 hR0_20 pr1 H⟩
  cases H
theorem B1W {h c a d} (H:A6d c = some (a,d)):∀ L,G8 prog 19 [.int .u8 c] h (L) (fun v h' L'=>v = .tuple #[.agg #[.string a.A7v,(fnV a.B5J),(fnV a.B5L),(fnV a.C6J),(fnV a.C3z)],.bool d]∧L' = L):=by
 intro L
 refine G8.enter func19 z z z<|Sr<|To (O.alloc B2P z z fun o=>Ag z<|Nt<|Sr<|Vv (V.bld (xs:=[]) (cs:=[_,_,_,_,_]) A5s A5w z F3.nil)<|Vv (V.bld (xs:=[(0,.const (.string ⟨#[108,97,116,101]⟩)),(1,.func 41),(2,.func 42),(3,.func 43),(4,.func 44)]) (cs:=[_,_,_,_,_]) A5s A5w z (F3.cons z z z (F3.cons z z z (F3.cons z z z (F3.cons z z z (F3.cons z z z F3.nil))))))<|Vv (V.bld (xs:=[(0,.const (.string ⟨#[99,97,110,99,101,108]⟩)),(1,.func 45),(2,.func 46),(3,.func 47),(4,.func 48)]) (cs:=[_,_,_,_,_]) A5s A5w z (F3.cons z z z (F3.cons z z z (F3.cons z z z (F3.cons z z z (F3.cons z z z F3.nil))))))<|Vv (V.bld (xs:=[(0,.const (.string ⟨#[113,117,97,114,114,101,108]⟩)),(1,.func 49),(2,.func 50),(3,.func 51),(4,.func 52)]) (cs:=[_,_,_,_,_]) A5s A5w z (F3.cons z z z (F3.cons z z z (F3.cons z z z (F3.cons z z z (F3.cons z z z F3.nil))))))<|Vv (V.bld (xs:=[(0,.const (.string ⟨#[99,108,111,115,101]⟩)),(1,.func 53),(2,.func 54),(3,.func 55),(4,.func 56)]) (cs:=[_,_,_,_,_]) A5s A5w z (F3.cons z z z (F3.cons z z z (F3.cons z z z (F3.cons z z z (F3.cons z z z F3.nil))))))<|Vv (V.bld (xs:=[(0,.const (.string ⟨#[100,101,109,97,110,100]⟩)),(1,.func 58),(2,.func 59),(3,.func 60),(4,.func 61)]) (cs:=[_,_,_,_,_]) A5s A5w z (F3.cons z z z (F3.cons z z z (F3.cons z z z (F3.cons z z z (F3.cons z z z F3.nil))))))<|Vv (V.D2N (xs:=[(0,.tmp 5),(1,.tmp 6),(2,.tmp 7),(3,.tmp 8),(4,.tmp 9),(5,.tmp 10)]) (cs:=[_,_,_,_,_,_,_,_,_,_,_,_,_,_,_,_,_,_,_,_,_,_,_,_,_,_,_,_,_,_]) A7W z (A6y.cons z z (A6y.cons z z (A6y.cons z z (A6y.cons z z (A6y.cons z z (A6y.cons z z A6y.nil)))))))<|To (O.alloc C3E z z fun p=>To (O.stF (vs:=[.string qe,(fnV (0:Nat)),(fnV (0:Nat)),(fnV (0:Nat)),(fnV (0:Nat)),.string (⟨#[108,97,116,101]⟩:ByteArray),(fnV (42:Nat)),(fnV (43:Nat)),(fnV (44:Nat)),(fnV (45:Nat)),.string (⟨#[99,97,110,99,101,108]⟩:ByteArray),(fnV (46:Nat)),(fnV (47:Nat)),(fnV (48:Nat)),(fnV (49:Nat)),.string (⟨#[113,117,97,114,114,101,108]⟩:ByteArray),(fnV (50:Nat)),(fnV (51:Nat)),(fnV (52:Nat)),(fnV (53:Nat)),.string (⟨#[99,108,111,115,101]⟩:ByteArray),(fnV (54:Nat)),(fnV (55:Nat)),(fnV (56:Nat)),(fnV (57:Nat)),.string (⟨#[100,101,109,97,110,100]⟩:ByteArray),(fnV (59:Nat)),(fnV (60:Nat)),(fnV (61:Nat)),(fnV (62:Nat))]) C3c z z (j:=0) z z (by (simp only [Sl.ones,Q9,Q9,Q9,Q9,Q9,Q9,Q9,Q9,Q9,Q9,Q9,Q9,Q9,Q9,Q9,Q9,Q9,Q9,Q9,Q9,Q9,Q9,Q9,Q9,Bool.and_true,Bool.true_and]) <;> rfl) z ?_)))
 refine T.freeze fun q r e=>have b:=AtC.of e; Nt<|Sq<|Sr<|Mv z<|Vv (V.eq z z)<|Mv z<|T.bH 14 H z dead fun H=>Mv z<|bE H fun s f H=>Vv (V.A4v underlying36 underlying3 z f)<|Vv (V.ge z z)<|Vv (V.R9 z z)<|Nt<|T.cH H z dead fun H=>Ks<|Sr<|Mv z ?_
 rcases C8G H with ⟨g,H⟩ | H
 ·subst g
  refine Vv (V.ixA (i:=1) A7W z z z)<|Vv (V.C2j (k:=5) A1q z b (Nat.le_of_ble_eq_true z))<|To (O.stF (vs:=[.string (⟨#[108,97,116,101]⟩:ByteArray),(fnV (42:Nat)),(fnV (43:Nat)),(fnV (44:Nat)),(fnV (45:Nat))]) A1q z z (j:=0) z z (by (simp only [Sl.ones,Q9,Q9,Q9,Q9,Bool.and_true,Bool.true_and]) <;> rfl) z ?_)
  refine Ag z<|Nt<|T.ret ?_
  cases H
  exact T.A4z (L':=L) results19 (RVs.cons (RV.cellS z (j:=0) z A1q) (Rv z)) Li (fun _ iv=>iv.drop) ⟨z,z⟩
 rcases C8G H with ⟨m,H⟩ | H
 ·subst m
  refine Vv (V.ixA (i:=2) A7W z z z)<|Vv (V.C2j (k:=10) A1q z b (Nat.le_of_ble_eq_true z))<|To (O.stF (vs:=[.string (⟨#[99,97,110,99,101,108]⟩:ByteArray),(fnV (46:Nat)),(fnV (47:Nat)),(fnV (48:Nat)),(fnV (49:Nat))]) A1q z z (j:=0) z z (by (simp only [Sl.ones,Q9,Q9,Q9,Q9,Bool.and_true,Bool.true_and]) <;> rfl) z ?_)
  refine Ag z<|Nt<|T.ret ?_
  cases H
  exact T.A4z (L':=L) results19 (RVs.cons (RV.cellS z (j:=0) z A1q) (Rv z)) Li (fun _ iv=>iv.drop) ⟨z,z⟩
 rcases C8G H with ⟨n,H⟩ | H
 ·subst n
  refine Vv (V.ixA (i:=3) A7W z z z)<|Vv (V.C2j (k:=15) A1q z b (Nat.le_of_ble_eq_true z))<|To (O.stF (vs:=[.string (⟨#[113,117,97,114,114,101,108]⟩:ByteArray),(fnV (50:Nat)),(fnV (51:Nat)),(fnV (52:Nat)),(fnV (53:Nat))]) A1q z z (j:=0) z z (by (simp only [Sl.ones,Q9,Q9,Q9,Q9,Bool.and_true,Bool.true_and]) <;> rfl) z ?_)
  refine Ag z<|Nt<|T.ret ?_
  cases H
  exact T.A4z (L':=L) results19 (RVs.cons (RV.cellS z (j:=0) z A1q) (Rv z)) Li (fun _ iv=>iv.drop) ⟨z,z⟩
 exact dead H
theorem B9O {h c d e a f} (m:Pt Q8 h c d) (n:Y9 h e a) (H:A1U d a = some f):∀ L,G8 prog 18 [c,.agg e.toArray] h (L) (fun v h' L'=>v = .int .i64 f∧L' = L):=by
 intro L
 obtain ⟨g,rfl,o⟩:=n
 refine G8.enter func18 z z z<|Sr<|To (O.Y0 z z z fun D E G i=>Ag z<|Nt<|Sr<|Vv (V.fa B5d z)<|Vv (V.I9 (k:=0) B8x z i z)<|bE H fun ⟨b,I⟩ p H=>To (O.D8 z (B1W p _) z fun J K M N q=>?_))
 obtain ⟨rfl,r⟩:=q
 refine J9 _ r<|Mv z<|Vv (V.ext z z)<|Vv (V.ext z z)<|To (O.alloc B2P z z fun P=>To (O.stF (vs:=[.string b.A7v,(fnV b.B5J),(fnV b.B5L),(fnV b.C6J),(fnV b.C3z)]) A1q z z (j:=0) z z (by (simp only [Sl.ones,Q9,Q9,Q9,Q9,Bool.and_true,Bool.true_and]) <;> rfl) z ?_))
 refine T.freeze fun s S t=>have w:=AtC.of t; Ag z<|Nt<|Sq<|Sr<|Mv z<|Vv (V.not z)<|Nt<|T.cH H z dead fun H=>Ks<|Sr<|Vv (V.fa C1F z)<|Vv (V.I9 (k:=1) C4w z w z)<|Mv z<|Vv (V.ldS z i.u (by exact A7l)) ?_
 refine bE H fun U x H=>?_
 obtain ⟨W,X,Y,y,A⟩:=C0H m.u (show Y9 s [.int .u8 a.H8,.string a.L6.F8,.string a.L6.A0k,.string a.L6.V9,qi a.L6.V3,qi a.L6.A0f,.string a.L6.Z0,.bool a.L6.A0u,.bool a.L6.U2,g,.string a.fA,.string a.fB,.string a.R6,qi a.fN,.int .u8 a.A3M.H8,qi a.A3M.Q3,.string a.A3M.fA,.string a.A3M.fB,.string a.A3M.R6,qi a.A3M.fN] a from ⟨g,rfl,o.u⟩) x
 refine To (O.A1d z y z (A _) z fun Z aa ab ac B=>?_)
 obtain ⟨rfl,C⟩:=B
 exact J9 _ C<|Ag z<|Nt<|T.ret<|E1 H
theorem A5h {h i p1 m n o a d p q} (aa:M3 h i p1) (ab:G6 (VI .i64) 1 h m n) (ac:Y9 h o a) (H:A1P p1 n a = some (d,p,q)):∀ L,G8 prog 6 [.agg i.toArray,m,.agg o.toArray] h (L) (fun v h' L'=>∃ v0_1 v0_3 v0_5 v0_7 v0_9 r s,v = .tuple #[.agg #[v0_1,v0_3,v0_5,v0_7,v0_9],r,.int .i64 q]∧L' = D5 3 1 r s::L∧G6 F7 7 h' v0_1 d.D7∧G6 F9 9 h' v0_3 d.A8∧G6 H7 3 h' v0_5 d.I8∧G6 (VI .i64) 1 h' v0_7 d.I6∧G6 H5 6 h' v0_9 d.J3∧A7 (VI .i64) h' s p):=by
 intro L
 obtain ⟨w,x,y,A,B,rfl,ad,ae,af,ag,ai⟩:=aa
 obtain ⟨f,rfl,C⟩:=ac
 refine G8.enter func6 z z z<|Sr<|To (O.Y0 z z z fun bs bt bu aj=>To (O.Y0 z z z fun bw ak bx g=>To (O.alloc A0p z z fun bA=>Ag z<|Ag z<|Nt<|Sr<|Vv (V.ldS z aj.u (by exact G9)) ?_)))
 refine Mv z<|bE H fun ⟨b,bB⟩ am H=>To (O.D8 z (A2b (show M3 ak [w,x,y,A,B] p1 from ⟨w,x,y,A,B,z,ad.u,ae.u,af.u,ag.u,ai.u⟩) ab.u am _) z fun bC bD bG bI an=>?_)
 obtain ⟨bJ,D,E,bK,G,bM,I,bN,J,bO,K,bP,M,bS,rfl,ao,N,P,S,U,W,X,Y⟩:=an
 refine J9 _ ao<|Mv z<|Vv (V.ext z z)<|Vv (V.ext z z)<|Ag z<|Ag z<|Nt<|Sq<|Sr<|Mv z<|Vv (V.ne z z)<|Nt<|T.cH H z dead fun H=>Ks<|Sq<|Sr<|Mv z<|Vv (V.ldS z g.u (by exact A7l)) ?_
 refine bE H fun c ap H=>To (O.D8 z (G8.A0W (val:=qi c) func18 z B2G fun bU bV aq=>G8.A0W (val:=qi c) func18 z V8 fun bW bX ar=>G8.A0W (val:=qi c) func18 z V8 fun bY bZ au=>G8.A0W (val:=qi c) func18 z V8 fun b0 b1 aw=>G8.A0W (val:=qi c) func18 z V8 fun b2 b3 ax=>G8.A0W (val:=qi c) func18 z V8 fun b4 b5 ay=>G8.A0W (val:=qi c) func18 z V8 fun Z b6 aA=>?_) z fun b7 aB b8 b9 aC=>?_)
 ·have aD:=A7.Z4 ar P.u
  have aE:=A7.Z4 au S.u
  have aG:=A7.Z4 aw U.u
  have aI:=A7.Z4 ax W.u
  have aJ:=A7.Z4 ay X.u
  have aK:=A7.Z4 aA Y.u
  exact B9O (Pt.mk aq.u (show Q8 Z [D,E,G,I,J,K,M,qi b.A0j] (H6.mk b.Q0 (A9.mk b.fp.D7 b.fp.A8 b.fp.I8 b.fp.I6 b.fp.J3) b.U3 b.A0j) from ⟨D,E,G,I,J,K,M,z,N.u,aD.u,aE.u,aG.u,aI.u,aJ.u,aK⟩)) (show Y9 Z [.int .u8 a.H8,.string a.L6.F8,.string a.L6.A0k,.string a.L6.V9,qi a.L6.V3,qi a.L6.A0f,.string a.L6.Z0,.bool a.L6.A0u,.bool a.L6.U2,f,.string a.fA,.string a.fB,.string a.R6,qi a.fN,.int .u8 a.A3M.H8,qi a.A3M.Q3,.string a.A3M.fA,.string a.A3M.fB,.string a.A3M.R6,qi a.A3M.fN] a from ⟨f,z,C.u⟩) ap _
 obtain ⟨rfl,aM⟩:=aC
 refine J9 _ aM<|Ag z<|Nt<|Sr<|Mv z<|Vv (V.ne z z)<|Nt<|T.cH H z (fun H=>?_) fun H=>?_
 ·refine Sr<|Vv (V.bld (xs:=[]) (cs:=[_,_,_,_,_]) B8K B8k z F3.nil)<|Mv z<|To (O.stF (vs:=[qs,qs,qs,qs,qs]) G9 z z (j:=7) z z z z<|T.fl ?_)
  refine Ag z<|Ag z<|Nt<|T.ret<|Tr<|T.U9 3 1<|have aN:A7 (VI .i64) aB [] ([]:List Int):=A7.nil; G5 2 z<|T.fl ?_
  refine T.drop<|G5 2 z<|T.fl ?_
  refine T.drop<|G5 2 z<|T.fl ?_
  refine T.drop<|G5 2 z<|T.fl ?_
  refine T.drop<|G5 2 z<|T.fl ?_
  refine T.drop<|G5 2 z<|T.fl ?_
  refine T.drop<|G5 2 z<|T.fl ?_
  refine T.drop<|G5 1 z ?_
  cases H
  exact T.A4z (L':=D5 3 1 (qs) []::L) results6 (RVs.cons (RV.cellS z (j:=0) z G9) (RVs.cons (RV.tmp z) (Rv z))) Li (fun _ iv=>iv.drop) ⟨_,_,_,_,_,_,_,z,z,G6.nil,G6.nil,G6.nil,G6.nil,G6.nil,aN⟩
 refine Ks<|Sr<|Vv (V.fa B5d z)<|Vv (V.I9 (k:=0) B8x z g.u z)<|bE H fun ⟨e,bh⟩ aO H=>To (O.D8 z (B1W aO _) z fun bl bv bz ca aP=>?_)
 obtain ⟨rfl,aS⟩:=aP
 refine J9 _ aS<|Mv z<|Vv (V.ext z z)<|Vv (V.ext z z)<|To (O.alloc B2P z z fun cb=>To (O.stF (vs:=[.string e.A7v,(fnV e.B5J),(fnV e.B5L),(fnV e.C6J),(fnV e.C3z)]) A1q z z (j:=0) z z (by (simp only [Sl.ones,Q9,Q9,Q9,Q9,Bool.and_true,Bool.true_and]) <;> rfl) z ?_))
 refine T.fl ?_
 refine T.freeze fun aU cc aV=>have aW:=AtC.of aV; Ag z<|Nt<|Sr<|Vv (V.fa C2h z)<|Vv (V.I9 (k:=2) C5g z aW z)<|Mv z<|Vv (V.ldS z g.u (by exact A7l)) ?_
 refine bE H fun cd aX H=>?_
 obtain ⟨ce,cf,cg,aY,aZ⟩:=C1c N.u P.u S.u U.u W.u X.u Y.u (show Y9 aU [.int .u8 a.H8,.string a.L6.F8,.string a.L6.A0k,.string a.L6.V9,qi a.L6.V3,qi a.L6.A0f,.string a.L6.Z0,.bool a.L6.A0u,.bool a.L6.U2,f,.string a.fA,.string a.fB,.string a.R6,qi a.fN,.int .u8 a.A3M.H8,qi a.A3M.Q3,.string a.A3M.fA,.string a.A3M.fB,.string a.A3M.R6,qi a.A3M.fN] a from ⟨f,rfl,C.u⟩) aX
 refine To (O.A1d z aY z (aZ _) z fun ci cj ck cm a0=>?_)
 obtain ⟨cn,a1,co,a2,cp,a3,cq,a4,cr,a5,ct,a6,a7,rfl,a8,cu,a9,ah,al,av,az,ba⟩:=a0
 refine J9 _ a8<|Nt<|Sq<|T.norm [6,9] z<|T.fl ?_
 refine G5 7 z<|T.fl ?_
 refine G5 1 z<|T.fl ?_
 refine T.O1 (t:=(.vs [0,1,2,3,4,5,6,7] (.alt 8 (.alt 9 (.alt 10 .done .no) .no) .no))) 8 2 1 z z I4 (by kernel_rfl) ?_
 refine Tm z z<|Tv z (V.S9 z)<|Tv z (V.fa L8 z)<|Tv z (Val.XA fun _ _ _=>V.D1K (k:=1) G9 z (j:=0) z (Nat.le_of_ble_eq_true z))<|Tm z z<|Tv z (V.S9 z)<|Tv z (V.fa Y8 z)<|Tv z (Val.XA fun _ _ _=>V.ldO (k:=6) E5 z (j:=0) z z)<|T.J7 2 z fun bb cw=>T.J7 3 z fun bc cx=>T.J7 4 z fun bd cy=>T.J7 5 z fun be cA=>T.J7 6 z fun bf cB=>Tp z z (SX.two (XA.fr [0] Lr z) (XA.fr [1,1] Lr z)) (O.stF (vs:=[a1,a2,a3,a4,a5]) G9 z z (j:=1) z z (by (simp only [Sl.ones,bb,bc,bd,be,bf,Bool.and_true,Bool.true_and]) <;> rfl) z ?_) T.O9
 refine T.fl ?_
 refine Ts z z (SX.one (XA.fr [1] Lr z) z) (V.asg z) z ?_ T.O9
 refine Ts z z (SX.one (XA.fr [1] Lr z) z) (V.asg z) z ?_ T.O9
 refine T.R7 (SX.one (XA.fr [1] Lr z) z)<|Th<|T.ret<|G5 2 z<|T.fl ?_
 refine T.J5 fun cC cD bg=>have bi:=A7.Z4 bg a9.u; G5 2 z<|T.fl ?_
 refine T.J5 fun cE cG bj=>have bk:=A7.Z4 bj ah.u; G5 2 z<|T.fl ?_
 refine T.J5 fun cI cJ bm=>have bn:=A7.Z4 bm al.u; G5 2 z<|T.fl ?_
 refine T.J5 fun cK cM bo=>have bp:=A7.Z4 bo av.u; G5 2 z<|T.fl ?_
 refine T.J5 fun cN cO bq=>have br:=A7.Z4 bq az.u; G5 1 z<|T.fl ?_
 refine T.drop ?_
 cases H
 exact T.A4z (L':=D5 3 1 a6 a7::L) results6 (RVs.cons (RV.cellS z (j:=0) z G9) (RVs.cons (RV.tmp z) (Rv z))) Li (fun _ iv=>iv.drop) ⟨_,_,_,_,_,_,_,z,z,bi.u,bk.u,bn.u,bp.u,br,ba.u⟩
end Go.Proofs.X
open Go Go.Proofs Go.Proofs.Tryz Go.Sl Go.Dm
namespace Go.Proofs.X
theorem C2v : A4f prog 190 = some ([.slice none 0 0,.int .i64 (0)],[(0,1),(1,1)]):=by kernel_rfl
theorem A8b : A4f prog 44 = some ([.int .u8 (0),.string ⟨#[]⟩,.string ⟨#[]⟩,.string ⟨#[]⟩,.int .i64 (0),.int .i64 (0),.string ⟨#[]⟩,.bool false,.bool false,.slice none 0 0,.string ⟨#[]⟩,.string ⟨#[]⟩,.string ⟨#[]⟩,.int .i64 (0),.int .u8 (0),.int .i64 (0),.string ⟨#[]⟩,.string ⟨#[]⟩,.string ⟨#[]⟩,.int .i64 (0)],[(0,1),(1,9),(10,1),(11,1),(12,1),(13,1),(14,6)]):=by kernel_rfl
theorem B6i : A4f prog 86 = some ([.slice none 0 0,.slice none 0 0,.slice none 0 0,.slice none 0 0,.slice none 0 0,.slice none 0 0,.int .i64 (0),.int .i64 (0)],[(0,5),(5,1),(6,1),(7,1)]):=by kernel_rfl
theorem C1J : A0q prog 190 = true:=by kernel_rfl
theorem A8i : A0q prog 44 = true:=by kernel_rfl
theorem B6h : A0q prog 86 = true:=by kernel_rfl
theorem B8V : N8 prog 190 0 = some 0:=by kernel_rfl
theorem B1R : N8 prog 190 1 = some 1:=by kernel_rfl
theorem A2Y : N8 prog 82 0 = some 0:=by kernel_rfl
theorem A5X : N8 prog 86 1 = some 5:=by kernel_rfl
theorem A8A : N8 prog 86 2 = some 6:=by kernel_rfl
theorem A4G : X9 prog 190 = some (true,2):=by kernel_rfl
theorem A6L : X9 prog 275 = some (false,1):=by kernel_rfl
theorem A2p : X9 prog 68 = some (false,1):=by kernel_rfl
theorem A0y : X9 prog 86 = some (true,8):=by kernel_rfl
theorem A9P : zer prog 190 = some (.agg #[.slice none 0 0,.int .i64 (0)]):=by kernel_rfl
theorem C2c : zer prog 275 = some (.nilFunc):=by kernel_rfl
theorem A3l : zer prog 86 = some (.agg #[.slice none 0 0,.slice none 0 0,.slice none 0 0,.slice none 0 0,.slice none 0 0,.slice none 0 0,.int .i64 (0),.int .i64 (0)]):=by kernel_rfl
theorem B1J {h g e i} (f:G6 (VI .i64) 1 h g e) (H:B1o e = some i):∀ L,G8 prog 141 [g] h (L) (fun v h' L'=>v = .int .i64 i∧L' = L):=by
 intro L
 refine G8.enter func141 z z z<|Sr<|Ag z<|Nt<|Sr<|Ag z<|Nt<|Sq<|Sr<|Mv z<|Vv (V.P9 C9 z f)<|Mv z<|Nt ?_
 obtain ⟨j,n,o⟩:=M5 H
 refine T.M7 (α:=Int) [] z (fun d=>[(3,qi d)]) (fun d=>L) (fun d hh=>j = d) ?_ ?_
 ·have H:=n
  refine Bl<|T.M8 (α:=Nat×Int×Int) [6,7] z (fun ⟨b,a,c⟩=>[(3,qi a),(8,qi c)]) (fun ⟨b,a,c⟩=>L) (fun ⟨b,a,c⟩ hh=>iter (B1Y e) b (a,c) = some j) (fun ⟨b,a,c⟩=>b) (FUEL,(1:Int),(0:Int)) ⟨z,z,trivial⟩ z H ?_
  rintro ⟨b,a,c⟩ A B p
  obtain ⟨q,C,rfl,H,k⟩:=I1 p
  refine T.norm [3,8,6,7] z<|T.fl ?_
  refine Sr<|Vv (V.lt z z)<|Nt<|Sq<|T.cH H z (fun H=>?_) fun H=>?_
  ·refine Ks<|Sq<|Bl<|Sr<|bE H fun D m H=>?_
   obtain ⟨E,r,rfl⟩:=G6.at f m
   refine Vv (V.ix C9 z z f (G7 m))<|Vv (V.ld0 E8 z r.u z)<|Ag z<|Nt<|Rg<|Mv z<|Mv z<|bE H fun s t H=>Vv (V.B1u z z t)<|Vv (V.min2 z z)<|Ag z<|Ni<|Bn<|Th<|Rg<|bE H fun w x H=>Vv (V.J2 z z x)<|Mv z<|Nt<|T.ag (q,(min s (20001:Int)),w) (F4 H k)
  refine T.exit<|Te<|Te<|have H:=D9 H k; Be<|Th<|T.mt a H
 rintro d G I y
 have H:=J8 y o
 refine T.norm [3] z<|T.fl ?_
 exact Sr<|Mv z<|Ag z<|Nt<|T.ret<|E1 H
theorem C0W {h k m p} (H:B8m k m = some p):∀ L,G8 prog 143 [.int .i64 k,.int .i64 m] h (L) (fun v h' L'=>v = .int .i64 p∧L' = L):=by
 intro L
 refine G8.enter func143 z z z<|Sr<|Ag z<|Nt<|Sr<|Ag z<|Nt<|Sq<|Sr<|Mv z<|Mv z<|Nt ?_
 obtain ⟨q,x,y⟩:=M5 H
 refine T.M7 (α:=(List Int)×Value×(List (List Value))) [] z (fun ⟨f,g,i⟩=>[(5,g)]) (fun ⟨f,g,i⟩=>D5 3 1 g i::L) (fun ⟨f,g,i⟩ hh=>q = f∧A7 (VI .i64) hh i f) ?_ ?_
 ·have H:=x
  refine Bl<|T.U9 3 1<|have A:A7 (VI .i64) h [] ([]:List Int):=A7.nil; T.M8 (α:=Nat×(List Int)×Int×Value×(List (List Value))) [0,7] z (fun ⟨d,b,e,c,a⟩=>[(5,c),(8,qi e)]) (fun ⟨d,b,e,c,a⟩=>D5 3 1 c a::L) (fun ⟨d,b,e,c,a⟩ hh=>iter (B2I k m) d (b,e) = some q∧A7 (VI .i64) hh a b) (fun ⟨d,b,e,c,a⟩=>d) (FUEL,([]:List Int),(0:Int),(qs),[]) ⟨z,z,trivial⟩ z ⟨H,A⟩ ?_
  rintro ⟨d,b,e,c,a⟩ B Z ⟨C,n⟩
  obtain ⟨D,aa,rfl,H,r⟩:=I1 C
  refine T.norm [5,8,0,7] z<|T.fl ?_
  refine Sr<|Vv (V.lt z z)<|Nt<|Sq<|T.cH H z (fun H=>?_) fun H=>?_
  ·refine Ks<|Sq<|Bl<|Sr<|Mv z<|Ag z<|Nt<|Rg<|Mv z<|Mv z<|Mv z<|bE H fun s G H=>Vv (V.A1s z z G)<|To (O.b1 (E:=VI .i64) C9 M9 z z z z z fun ab o=>bE H fun t w H=>To (O.apX C9 C9 M9 z z z (j:=1) z (Src.row (j:=0) z) (O4.of z) (A7.ones VI.plain o) n o w z fun I ac ad=>have J:A7 (VI .i64) B (a ++ [[qi s]]) t:=A7.ap n o w; G5 1 z<|T.drop<|Ag z<|Ni<|Bn<|Th<|Rg<|bE H fun K M H=>Vv (V.J2 z z M)<|Mv z<|Nt<|T.ag (D,t,K,I,(a ++ [[qi s]])) ⟨(F4 H r),J⟩))
  refine T.exit<|Te<|Te<|have H:=D9 H r; Be<|Th<|T.mt (b,c,a) ⟨H,n⟩
 rintro ⟨f,g,i⟩ ae af ⟨N,P⟩
 have H:=J8 N y
 refine T.norm [5] z<|T.fl ?_
 refine Sr<|Mv z<|T.J5 fun ai aj S=>have U:=A7.Z4 S P.u; bE H fun ak W H=>To (O.D8 z (B1J U W _) z fun am an ao aq X=>?_)
 obtain ⟨rfl,Y⟩:=X
 exact J9 _ Y<|Ag z<|Nt<|T.ret<|E1 H
theorem B9G {h e f g} (H:B8A e f = some g):∀ L,G8 prog 142 [.int .i64 e,.int .i64 f] h (L) (fun v h' L'=>v = .int .i64 g∧L' = L):=by
 intro L
 refine G8.enter func142 z z z<|Sr<|Ag z<|Nt<|Sr<|Ag z<|Nt<|Sq<|Sr<|Mv z<|Mv z<|Nt ?_
 obtain ⟨i,k,m⟩:=M5 H
 refine T.M7 (α:=Int) [] z (fun d=>[(5,qi d)]) (fun d=>L) (fun d hh=>i = d) ?_ ?_
 ·have H:=k
  refine Bl<|T.M8 (α:=Nat×Int×Int) [0,7] z (fun ⟨b,a,c⟩=>[(5,qi a),(8,qi c)]) (fun ⟨b,a,c⟩=>L) (fun ⟨b,a,c⟩ hh=>iter (B3s e f) b (a,c) = some i) (fun ⟨b,a,c⟩=>b) (FUEL,(1:Int),(0:Int)) ⟨z,z,trivial⟩ z H ?_
  rintro ⟨b,a,c⟩ y A n
  obtain ⟨o,B,rfl,H,j⟩:=I1 n
  refine T.norm [5,8,0,7] z<|T.fl ?_
  refine Sr<|Vv (V.lt z z)<|Nt<|Sq<|T.cH H z (fun H=>?_) fun H=>?_
  ·refine Ks<|Sq<|Bl<|Sr<|Mv z<|Ag z<|Nt<|Sr<|Mv z<|Mv z<|Mv z<|bE H fun C p H=>Vv (V.A1s z z p)<|bE H fun D q H=>Vv (V.B1u z z q)<|Mv z<|bE H fun E r H=>Vv (V.J2 z z r)<|bE H fun s t H=>Vv (V.B2e z z t)<|Ag z<|Nt<|Sr<|Mv z<|Vv (V.gt z z)<|Nt<|T.cH H z dead fun H=>T.skip<|Bn<|Th<|Rg<|bE H fun u w H=>Vv (V.J2 z z w)<|Mv z<|Nt<|T.ag (o,s,u) (F4 H j)
  refine T.exit<|Te<|Te<|have H:=D9 H j; Be<|Th<|T.mt a H
 rintro d G I x
 have H:=J8 x m
 refine T.norm [5] z<|T.fl ?_
 exact Sr<|Mv z<|Ag z<|Nt<|T.ret<|E1 H
theorem B2u {h w o q x} (I:Pt Q8 h w o) (H:B3M o q = some x):∀ L,G8 prog 77 [w,.int .i64 q] h (L) (fun v h' L'=>v = .int .i64 x∧L' = L):=by
 intro L
 refine G8.enter func77 z z z<|Sr<|Ag z<|Nt<|Sr<|Ag z<|Nt<|Sq<|Sr<|Mv z<|have J:=I; ?_
 obtain ⟨aS,_,rfl,r,⟨aU,aV,aW,aX,aY,aZ,a0,rfl,a1,a2,a3,a4,a5,a6,p⟩⟩:=J
 refine Vv (V.S9 z)<|Vv (V.fa Y8 z)<|Vv (V.I9 (k:=6) E5 z r z)<|Vv (V.P9 C9 z p)<|Mv z<|Nt ?_
 obtain ⟨y,K,M⟩:=M5 H
 refine T.M7 (α:=Int) [0,1] z (fun c=>[(5,qi c)]) (fun c=>L) (fun c hh=>y = c) ?_ ?_
 ·have H:=K
  refine Bl<|T.M8 (α:=Nat×Int×Int) [0,1,13,14] z (fun ⟨d,f,a⟩=>[(15,qi f),(5,qi a)]) (fun ⟨d,f,a⟩=>L) (fun ⟨d,f,a⟩ hh=>iter (B3b o) d (f,a) = some y) (fun ⟨d,f,a⟩=>d) (FUEL,(0:Int),(0:Int)) ⟨z,z,trivial⟩ z H ?_
  rintro ⟨d,f,a⟩ a7 a8 N
  obtain ⟨A,a9,rfl,H,s⟩:=I1 N
  refine T.norm [15,5,0,1,13,14] z<|T.fl ?_
  refine Sr<|Vv (V.lt z z)<|Nt<|Sq<|T.cH H z (fun H=>?_) fun H=>?_
  ·refine Ks<|Sq<|Bl<|Sr<|bE H fun ah B H=>?_
   obtain ⟨al,P,rfl⟩:=G6.at p B
   refine Vv (V.ix C9 z z p (G7 B))<|Vv (V.ld0 E8 z P.u z)<|Ag z<|Nt<|Sr<|Mv z<|Vv (V.ge z z)<|Nt<|T.cH H z (fun H=>?_) fun H=>?_
   ·refine Rg<|Mv z<|bE H fun S U H=>Vv (V.J2 z z U)<|Ag z<|Ni<|Bn<|Th<|Rg<|bE H fun W X H=>Vv (V.J2 z z X)<|Mv z<|Nt<|T.ag (A,W,S) (F4 H s)
   refine T.skip<|Bn<|Th<|Rg<|bE H fun Y Z H=>Vv (V.J2 z z Z)<|Mv z<|Nt<|T.ag (A,Y,a) (F4 H s)
  refine T.exit<|Te<|Te<|have H:=D9 H s; Be<|Th<|T.mt a H
 rintro c av az aa
 have H:=J8 aa M
 refine T.norm [5,0,1] z<|T.fl ?_
 refine Sr<|Ag z<|Nt<|Sq<|Sr<|Ag z<|Nt ?_
 obtain ⟨C,ab,ac⟩:=M5 H
 refine T.M7 (α:=Int) [] z (fun m=>[(8,qi m)]) (fun m=>L) (fun m hh=>C = m) ?_ ?_
 ·have H:=ab
  refine Bl<|T.M8 (α:=Nat×Int×Int) [0,1,5] z (fun ⟨i,b,j⟩=>[(8,qi b),(9,qi j)]) (fun ⟨i,b,j⟩=>L) (fun ⟨i,b,j⟩ hh=>iter (B3a o q c) i (b,j) = some C) (fun ⟨i,b,j⟩=>i) (FUEL,(0:Int),(0:Int)) ⟨z,z,trivial⟩ z H ?_
  rintro ⟨i,b,j⟩ ba bb ad
  obtain ⟨ae,bc,rfl,H,D⟩:=I1 ad
  refine T.norm [8,9,0,1,5] z<|T.fl ?_
  refine Sq<|Sq ?_
  obtain ⟨af,ai,aj⟩:=M5 H
  refine T.M7 (α:=Bool) [0,1,5,8,9] z (fun n=>[(33,.bool n)]) (fun n=>L) (fun n hh=>af = n) ?_ ?_
  ·have H:=ai
   refine Rg<|Mv z<|Mv z<|Vv (V.max2 z z)<|Mv z<|Vv (V.min2 z z)<|Vv (V.le z z)<|Mv z<|T.bH 30 H z (fun H=>?_) fun H=>?_
   ·refine Mv z<|Vv (V.le z z)<|Vv (V.R8 z z)<|Nt<|T.mt (decide (b≤(20000:Int))) (O5 H)
   refine Sk<|Sk<|Vv (V.R9 z z)<|Nt<|T.mt false (O5 H)
  rintro n bd be ak
  have H:=J8 ak aj
  refine T.norm [33,0,1,5,8,9] z<|T.fl ?_
  refine T.cH H z (fun H=>?_) fun H=>?_
  ·refine Ks<|Sq<|Bl<|T.O1 (t:=(.vs [0,1,2,3,4,5,6,8,9,10,11,12,13,14,15,16,17,18,19,20,21,22,23,24] (.alt 7 (.g (.alt 25 (.g (.alt 26 (.alt 27 (.g (.v 28 (.alt 29 .done .no))) .no) .no)) .no)) .no))) 31 0 0 z z I4 (by kernel_rfl) ?_
   refine Tm z z<|Tm z z<|Tm z z<|Tm z z<|Tm z z<|bE H fun bf am H=>Tv z (V.A1s z z am)<|Tv z (V.min2 z z)<|Tm z z<|Tv z (V.S9 z)<|Tv z (V.fa B0d z)<|Tv z (V.I9 (k:=7) E8 z r.u z)<|Tm z z<|bE H fun bg an H=>Tv z (V.A1s z z an)<|Tm z z<|bE H fun bi ao H=>Tv z (V.J2 z z ao)<|Tm z z<|Tv z (V.S9 z)<|Tv z (V.fa Y8 z)<|Tv z (V.I9 (k:=6) E5 z r.u z)<|Tv z (V.P9 C9 z p)<|Tm z z<|bE H fun bj ap H=>Tv z (V.A1s z z ap)<|Tm z z<|bE H fun bk aq H=>Tv z (V.J2 z z aq)<|bE H fun E ar H=>Tp z z (SX.two (XA.fr [] Lr z) (XA.fr [] Lr z)) (O.D8 z (B9G ar _) z fun bm bn bo bp au=>?_) T.O9
   obtain ⟨rfl,aw⟩:=au
   refine J9 _ aw<|T.O3 Li<|bE H fun G ax H=>Tp z z (SX.two (XA.fr [] Lr z) (XA.fr [] Lr z)) (O.D8 z (C0W ax _) z fun bq ay br bt aA=>?_) T.O9
   obtain ⟨rfl,aB⟩:=aA
   refine J9 _ aB<|T.O3 Li<|Tp z z (SX.two (XA.fr [] Lr z) (XA.fr [] Lr z)) (O.bs C9 M9 z (e:=z) (hk:=z) (xs:=[.tmp 43,.tmp 61]) (hv:=CO.eq (CO.cons z (CO.cons z CO.nil))) (hw:=O4.of z) (hd:=z) fun bu=>?_) T.O9
   have aC:A7 (VI .i64) ay [[qi E],[qi G]] ([E,G]:List Int):=(A7.cons z (A7.cons z A7.nil))
   refine T.J5 fun bw bx aD=>have aE:=A7.Z4 aD aC.u; bE H fun bA aG H=>Tp z z (SX.two (XA.fr [] Li z) (XA.fr [] Li z)) (O.D8 z (B1J aE aG _) z fun bB bC bD bG aI=>?_) T.O9
   obtain ⟨rfl,aJ⟩:=aI
   refine J9 _ aJ<|T.O3 Li<|bE H fun aK aM H=>Tv z (V.J2 z z aM)<|Ts z z (SX.two (XA.fr [] Lr z) (XA.fr [] Lr z)) (V.asg z) z ?_ T.O9
   refine T.R7 (SX.two (XA.fr [] Lr z) (XA.fr [] Lr z))<|Bn<|Th<|Rg<|Mv z<|bE H fun aN aO H=>Vv (V.J2 z z aO)<|Ag z<|Nt<|T.ag (ae,aK,aN) (F4 H D)
  refine T.exit<|Te<|Te<|have H:=D9 H D; Be<|Th<|T.mt b H
 rintro m bI bJ aP
 have H:=J8 aP ac
 refine T.norm [8] z<|T.fl ?_
 exact Sr<|Mv z<|Vv (V.min2 z z)<|Ag z<|Nt<|T.ret<|E1 H
theorem B1M {h b p1 c d e f} (g:M3 h b p1) (i:G6 (VI .i64) 1 h c d) (H:B1l p1 d e = some f):∀ L,G8 prog 28 [.agg b.toArray,c,.int .i64 e] h (L) (fun v h' L'=>v = .int .i64 f∧L' = L):=by
 intro L
 obtain ⟨j,k,m,n,o,rfl,p,q,r,s,t⟩:=g
 refine G8.enter func28 z z z<|Sr<|To (O.Y0 z z z fun ap aq ar w=>Ag z<|Nt<|Sr<|Vv (V.ldS z w (by exact G9)) ?_)
 refine Mv z<|bE H fun ⟨au,aw⟩ x H=>To (O.D8 z (A2b ⟨j,k,m,n,o,z,p.u,q.u,r.u,s.u,t.u⟩ i.u x _) z fun ax ay aA aB y=>?_)
 obtain ⟨aC,A,B,aD,C,aE,D,aG,E,aI,G,aJ,I,aK,rfl,J,K,M,N,P,S,U,W⟩:=y
 refine J9 _ J<|Mv z<|Vv (V.ext z z)<|Vv (V.ext z z)<|Ag z<|Ag z<|Nt<|Sq<|Sr<|Mv z<|Vv (V.ne z z)<|Nt<|T.cH H z dead fun H=>Ks<|Sr<|Mv z<|Mv z<|bE H fun a X H=>To (O.D8 z (G8.A0W (val:=qi a) func77 z B2G fun aM aN Y=>G8.A0W (val:=qi a) func77 z V8 fun aO aP Z=>G8.A0W (val:=qi a) func77 z V8 fun aS aU aa=>G8.A0W (val:=qi a) func77 z V8 fun aV aW ab=>G8.A0W (val:=qi a) func77 z V8 fun aX aY ac=>G8.A0W (val:=qi a) func77 z V8 fun aZ a0 ad=>G8.A0W (val:=qi a) func77 z V8 fun a1 a2 ae=>?_) z fun a3 a4 a5 a6 af=>?_)
 ·have ag:=A7.Z4 Z M.u
  have ai:=A7.Z4 aa N.u
  have aj:=A7.Z4 ab P.u
  have ak:=A7.Z4 ac S.u
  have am:=A7.Z4 ad U.u
  have an:=A7.Z4 ae W.u
  exact B2u (Pt.mk Y.u ⟨A,B,C,D,E,G,I,z,K.u,ag.u,ai.u,aj.u,ak.u,am.u,an⟩) X _
 obtain ⟨rfl,ao⟩:=af
 exact J9 _ ao<|Ag z<|Nt<|T.ret<|T.drop<|T.drop<|T.drop<|T.drop<|T.drop<|T.drop<|T.drop<|E1 H
theorem B8Z (n:Nat):∀ {h:PH} {g1:Int} {left2:Int} {pp2:Addr} {pc2:List Value} {t3:H6} (pa2:AtC h pp2 pc2) (pr2:(VPt Q8) h pc2 t3) {pb3:Nat} {t6:List Int} {v3_1:Value} {css3_2:List (List Value)} (hR3_3:A7 (VI .i64) h css3_2 t6) {pb4:Nat} {t8:Bool}  {pb5:Nat} {t9:Z9} {v5_1:Value} {css5_2:List (List Value)} (hR5_3:A7 (VI .i64) h css5_2 t9.A3K) {pp6:Addr} {pc6:List Value} {t11:Int} (pa6:AtC h pp6 pc6) (pr6:(VI .i64) h pc6 t11) {pp7:Addr} (pa7:AtC h pp7 [.func (.func 210) #[] #[.pointer (some pp2),.pointer (some ⟨pb3,0,none⟩),.pointer (some ⟨pb4,0,none⟩),.pointer (some ⟨pb5,0,none⟩),.pointer (some pp6),.pointer (some pp7)]]) {q_3:List Int} {q_4:Bool} {q_5:Z9} (H:A7V n g1 left2 t3 t6 t8 t9 t11 = some (q_3,q_4,q_5)) (L:List E9),G8 prog 210 [.int .i64 g1,.int .i64 left2,.pointer (some pp2),.pointer (some ⟨pb3,0,none⟩),.pointer (some ⟨pb4,0,none⟩),.pointer (some ⟨pb5,0,none⟩),.pointer (some pp6),.pointer (some pp7)] h (blk pb3 (.cells [v3_1].toArray 27)::D5 3 1 v3_1 css3_2::blk pb4 (.cells [.bool t8].toArray 4)::blk pb5 (.cells [v5_1,.int .i64 t9.A1N].toArray 190)::D5 3 1 v5_1 css5_2::L) (fun v h' L'=>∃ vl0_1 cssl0_2 vl2_1 cssl2_2,v = .tuple #[]∧L' = blk pb3 (.cells [vl0_1].toArray 27)::D5 3 1 vl0_1 cssl0_2::blk pb4 (.cells [.bool q_4].toArray 4)::blk pb5 (.cells [vl2_1,.int .i64 q_5.A1N].toArray 190)::D5 3 1 vl2_1 cssl2_2::L∧A7 (VI .i64) h' cssl0_2 q_3∧A7 (VI .i64) h' cssl2_2 q_5.A3K):=by
  induction n with
  | zero=>intros; rename_i H _; cases H
  | succ n self=>
    intro h g1 left2 pp2 pc2 t3 pa2 pr2 pb3 t6 v3_1 css3_2 hR3_3 pb4 t8 pb5 t9 v5_1 css5_2 hR5_3 pp6 pc6 t11 pa6 pr6 pp7 pa7 q_3 q_4 q_5 H L
    obtain ⟨cV,rfl,ah⟩:=pr2
    obtain rfl:=pr6
    refine G8.enter func210 z z z<|T.scope<|Sq<|Sq<|T.O1 (t:=(.vs [0,1,2,3,4] (.alt 5 (.g (.vs [6,7,8] (.alt 9 (.alt 10 .done .no) .no))) .no))) 12 2 2 z z I4 (by kernel_rfl) ?_
    refine Tv z (V.ld0 A2p z pa2 z)<|have al:=ah; ?_
    obtain ⟨aj,_,rfl,r,⟨aw,ax,ay,aA,aB,aC,aD,rfl,ak,aE,aG,aI,aJ,aK,m⟩⟩:=al
    refine Tv z (V.S9 z)<|Tv z (V.fa A2Y z)<|Tv z (V.I9 (k:=0) R3 z r z)<|Tv z (Val.XA fun _ _ _=>V.A8c E5 z (j:=0) z z)<|G5 1 z<|T.fl ?_
    refine bE H fun ⟨av,az⟩ ba H=>Tp z z (SX.two (XA.fr [0,1] Lr z) (XA.fr [0,1] Lr z)) (O.D8 z (G8.A0W (val:=.tuple #[qi av,.bool az]) func211 z V8 fun cW cX bb=>?_) z fun cY cZ c0 c1 bc=>?_) T.O9
    ·have be:=A7.Z4 bb hR3_3.u
     exact B5x ak.u be ba _
    obtain ⟨rfl,bf⟩:=bc
    refine J9 _ bf<|T.O3 Li<|Tm z z<|Tv z (V.ext z z)<|Tv z (V.ext z z)<|Ts z z (SX.two (XA.fr [0,1] Lr z) (XA.fr [0,1] Lr z)) (V.asg z) z ?_ T.O9
    refine Ts z z (SX.two (XA.fr [0,1] Lr z) (XA.fr [0,1] Lr z)) (V.asg z) z ?_ T.O9
    refine T.R7 (SX.two (XA.fr [0,1] Lr z) (XA.fr [0,1] Lr z))<|Th<|Sr<|Mv z<|Nt<|T.cH H z (fun H=>?_) fun H=>?_
    ·refine T.ret<|Tr<|T.sgR<|G5 4 z<|T.fl ?_
     refine G5 4 z<|T.fl ?_
     refine G5 4 z<|T.fl ?_
     refine G5 3 z<|T.fl ?_
     refine G5 4 z<|T.fl ?_
     cases H
     exact T.C5S results210 Li ⟨_,_,_,_,z,z,hR3_3.u,hR5_3.u⟩
    refine Ks<|Sq<|Sr<|Mv z<|Vv (V.A8c E5 z (j:=1) z z)<|Vv (V.A2a C9 z (j:=0) z hR3_3.len)<|Vv (V.eq z z)<|Nt<|T.cH H z (fun H=>?_) fun H=>?_
    ·refine Sq<|Sq<|T.O1 (t:=(.vs [0,1,2,3,4] (.alt 5 (.alt 6 .done .no) .no))) 8 2 2 z z I4 (by kernel_rfl) ?_
     refine Tv z (V.ld0 A2p z pa2.u z)<|Tv z (V.S9 z)<|Tv z (V.fa A2Y z)<|Tv z (V.I9 (k:=0) R3 z r.u z)<|Tv z (Val.XA fun _ _ _=>V.A8c E5 z (j:=1) z z)<|bE H fun am bg H=>Tp z z (SX.two (XA.fr [1,1] Lr z) (XA.fr [1,1] Lr z)) (O.D8 z (G8.A0W (val:=qi am) func212 z V8 fun c2 c3 bi=>?_) z fun c4 c5 c6 c7 bj=>?_) T.O9
     ·have bk:=A7.Z4 bi hR3_3.u
      exact C1V ak.u bk bg _
     obtain ⟨rfl,bm⟩:=bj
     refine J9 _ bm<|Ts z z (SX.two (XA.fr [1,1] Li z) (XA.fr [1,1] Li z)) (V.asg z) z ?_ T.O9
     refine T.R7 (SX.two (XA.fr [1,1] Li z) (XA.fr [1,1] Li z))<|Th<|Sq ?_
     obtain ⟨bn,bo,bp⟩:=M5 H
     refine T.M7 (α:=Bool) [3,4,5,12] z (fun K=>[(48,.bool K)]) (fun K=>D5 3 1 v3_1 css3_2::blk pb3 (.cells [v3_1].toArray 27)::blk pb4 (.cells [.bool t8].toArray 4)::blk pb5 (.cells [v5_1,qi t9.A1N].toArray 190)::D5 3 1 v5_1 css5_2::L) (fun K hh=>bn = K) ?_ ?_
     ·have H:=bo
      refine Rg<|Mv z<|Vv (V.eq z z)<|Mv z<|T.bH 39 H z (fun H=>?_) fun H=>?_
      ·refine Vv (V.A8c U5 z (j:=2) z z)<|Vv (V.not z)<|Mv z<|T.bH 42 H z (fun H=>?_) fun H=>?_
       ·refine Sk<|Sk<|Sk<|Sk<|Vv (V.R8 z z)<|Vv (V.R8 z z)<|Nt<|T.mt true (O5 H)
       refine Mv z<|Vv (V.fa B1R z)<|Vv (V.ldO (k:=1) E8 z (j:=3) z z)<|Vv (V.lt z z)<|Vv (V.R9 z z)<|Vv (V.R8 z z)<|Nt<|T.mt (decide (am < t9.A1N)) (O5 H)
      exact dead H
     rintro K c8 c9 bq
     have H:=J8 bq bp
     refine T.norm [48,3,4,5,12] z<|T.fl ?_
     obtain ⟨br,bs,bt⟩:=M5 H
     refine T.M7 (α:=Bool×(List Int)×Int×Value×(List (List Value))) [3,4,5] z (fun ⟨M,N,P,S,U⟩=>[]) (fun ⟨M,N,P,S,U⟩=>D5 3 1 v3_1 css3_2::blk pb3 (.cells [v3_1].toArray 27)::blk pb4 (.cells [.bool M].toArray 4)::blk pb5 (.cells [S,qi P].toArray 190)::D5 3 1 S U::L) (fun ⟨M,N,P,S,U⟩ hh=>br = (M,N,P)∧A7 (VI .i64) hh U N) ?_ ?_
     ·have H:=bs
      refine T.cH H z (fun H=>?_) fun H=>?_
      ·refine Rg<|Vv (V.A8c E5 z (j:=1) z z)<|bE H fun aM bu H=>To (O.D8 z (G8.A3u (R:=fun v h' L'=>∃ (aN:List (List Value)),L' = D5 3 1 v aN::blk pb3 (.cells [v3_1].toArray 27)::blk pb4 (.cells [.bool t8].toArray 4)::blk pb5 (.cells [v5_1,qi t9.A1N].toArray 190)::D5 3 1 v5_1 css5_2::L∧A7 (VI .i64) h' aN aM) func39 z (fun _ _ _ _ ⟨e_0,l_,f_0⟩=>⟨e_0,l_,(A7.free VI.free f_0)⟩) V8 fun ch cl bw=>?_) z fun aO cv cz da bx=>?_)
       ·have bA:=A7.Z4 bw hR3_3.u
        exact A2N bA bu _
       obtain ⟨_,rfl,⟨bB,rfl,bC⟩⟩:=bx
       refine T.fl ?_
       refine Mv z<|T.J7 1 z fun db bD=>Vv (V.bld (xs:=[(0,.tmp 50),(1,.tmp 51)]) (cs:=[_,_]) C2v C1J z (F3.cons z bD z (F3.cons z z z F3.nil)))<|T.J7 1 z fun bG dc=>To (O.stF (vs:=[aO,qi am]) A4G z z (j:=4) z z (by (simp only [Sl.ones,bG,Bool.and_true,Bool.true_and]) <;> rfl) z ?_)
       refine T.fl ?_
       refine To (O.stF (vs:=[.bool true]) U5 z z (j:=4) z z z z<|T.fl ?_)
       refine Nt<|G5 5 z<|T.fl ?_
       refine T.drop<|G5 3 z<|T.fl ?_
       refine G5 2 z<|T.fl ?_
       refine G5 2 z<|T.fl ?_
       refine G5 4 z<|T.fl ?_
       refine G5 4 z<|T.fl ?_
       exact T.mt (true,aM,am,aO,bB) ⟨(O5 H),bC⟩
      refine Ks<|T.mt (t8,t9.A3K,t9.A1N,v5_1,css5_2) ⟨(O5 H),hR5_3.u⟩
     rintro ⟨M,N,P,S,U⟩ dd de ⟨bI,bJ⟩
     have H:=J8 bI bt
     refine T.norm [3,4,5] z<|T.fl ?_
     refine T.ret<|Tr<|T.sgR<|G5 4 z<|T.fl ?_
     refine G5 4 z<|T.fl ?_
     refine G5 4 z<|T.fl ?_
     refine G5 3 z<|T.fl ?_
     refine G5 4 z<|T.fl ?_
     cases H
     exact T.C5S results210 Li ⟨_,_,_,_,z,z,hR3_3.u,bJ⟩
    refine Ks<|Sq<|T.label<|Th<|Sr<|Vv (V.ld0 A2p z pa2.u z)<|Vv (V.S9 z)<|Vv (V.fa B0d z)<|Vv (V.I9 (k:=7) E8 z r.u z)<|Mv z<|Nt<|T.A5G ?_
    obtain ⟨aP,bK,bM⟩:=M5 H
    refine T.M7 (α:=(List Int)×Bool×(List Int)×Int×Value×(List (List Value))×Value×(List (List Value))) [3,4,5] z (fun ⟨W,X,Y,Z,aa,ab,ac,ad⟩=>[]) (fun ⟨W,X,Y,Z,aa,ab,ac,ad⟩=>blk pb3 (.cells [aa].toArray 27)::blk pb4 (.cells [.bool X].toArray 4)::blk pb5 (.cells [ac,qi Z].toArray 190)::D5 3 1 aa ab::D5 3 1 ac ad::L) (fun ⟨W,X,Y,Z,aa,ab,ac,ad⟩ hh=>aP = (W,X,Y,Z)∧A7 (VI .i64) hh ab W∧A7 (VI .i64) hh ad Y) ?_ ?_
    ·have H:=bK
     refine Bl<|G5 4 z<|T.fl ?_
     refine G5 1 z<|T.fl ?_
     refine G5 4 z<|T.fl ?_
     refine G5 4 z<|T.fl ?_
     refine G5 4 z<|T.fl ?_
     refine T.M8 (α:=Nat×(List Int)×Bool×(List Int)×Int×Int×Value×(List (List Value))×Value×(List (List Value))) [0,1,2,3,4,5,6,7,56] z (fun ⟨s,o,c,p,d,f,a,e,b,i⟩=>[(57,qi f)]) (fun ⟨s,o,c,p,d,f,a,e,b,i⟩=>blk pb3 (.cells [a].toArray 27)::blk pb4 (.cells [.bool c].toArray 4)::blk pb5 (.cells [b,qi d].toArray 190)::D5 3 1 a e::D5 3 1 b i::L) (fun ⟨s,o,c,p,d,f,a,e,b,i⟩ hh=>iter (B1V (A7V n) g1 left2 t3 t11) s (o,c,p,d,f) = some aP∧A7 (VI .i64) hh e o∧A7 (VI .i64) hh i p) (fun ⟨s,o,c,p,d,f,a,e,b,i⟩=>s) (FUEL,t6,t8,t9.A3K,t9.A1N,(0:Int),v3_1,css3_2,v5_1,css5_2) ⟨z,trivial⟩ z ⟨H,hR3_3.u,hR5_3.u⟩ ?_
     rintro ⟨s,o,c,p,d,f,a,e,b,i⟩ df dg ⟨bN,q,ae⟩
     obtain ⟨bO,di,rfl,H,aS⟩:=I1 bN
     refine T.norm [57,0,1,2,3,4,5,6,7,56] z<|T.fl ?_
     refine Sr<|Vv (V.lt z z)<|Nt<|Sq<|T.cH H z (fun H=>?_) fun H=>?_
     ·refine Ks<|Sq ?_
      obtain ⟨bP,bS,bU⟩:=M5 H
      refine T.M7 (α:=(List Int)×Bool×(List Int)×Int×Value×(List (List Value))×Value×(List (List Value))) [0,1,2,3,4,5,6,7,56,57] z (fun ⟨w,x,y,A,B,C,D,E⟩=>[]) (fun ⟨w,x,y,A,B,C,D,E⟩=>blk pb3 (.cells [B].toArray 27)::blk pb4 (.cells [.bool x].toArray 4)::blk pb5 (.cells [D,qi A].toArray 190)::D5 3 1 B C::D5 3 1 D E::L) (fun ⟨w,x,y,A,B,C,D,E⟩ hh=>bP = (w,x,y,A)∧A7 (VI .i64) hh C w∧A7 (VI .i64) hh E y) ?_ ?_
      ·have H:=bS
       refine Bl<|Sr<|Mv z<|Ag z<|Nt<|Sq ?_
       obtain ⟨bV,bW,bX⟩:=M5 H
       refine T.M7 (α:=Bool) [0,1,2,3,4,5,6,7,13,56,57] z (fun af=>[(14,.bool af)]) (fun af=>blk pb3 (.cells [a].toArray 27)::blk pb4 (.cells [.bool c].toArray 4)::blk pb5 (.cells [b,qi d].toArray 190)::D5 3 1 a e::D5 3 1 b i::L) (fun af hh=>bV = af) ?_ ?_
       ·have H:=bW
        refine Rg<|Vv (V.ld0 A2p z pa2.u z)<|Vv (V.S9 z)<|Vv (V.fa Y8 z)<|Vv (V.I9 (k:=6) E5 z r.u z)<|Mv z<|bE H fun dj aU H=>?_
        obtain ⟨dk,bY,rfl⟩:=G6.at m aU
        refine Vv (V.ix C9 z z m (G7 aU))<|Vv (V.ld0 E8 z bY.u z)<|Vv (V.ge z z)<|Mv z<|T.bH 68 H z (fun H=>?_) fun H=>?_
        ·refine Vv (V.ld0 A2p z pa2.u z)<|Vv (V.S9 z)<|Vv (V.fa Y8 z)<|Vv (V.I9 (k:=6) E5 z r.u z)<|Mv z<|bE H fun bZ aV H=>?_
         obtain ⟨dm,b0,rfl⟩:=G6.at m aV
         refine Vv (V.ix C9 z z m (G7 aV))<|Vv (V.ld0 E8 z b0.u z)<|Mv z<|Vv (V.ne z z)<|Vv (V.R8 z z)<|Ag z<|Nt<|T.mt (!decide (bZ = f)) (O5 H)
        refine Sk<|Sk<|Sk<|Sk<|Sk<|Sk<|Sk<|Sk<|Sk<|Vv (V.R9 z z)<|Ag z<|Nt<|T.mt false (O5 H)
       rintro af dn dp b1
       have H:=J8 b1 bX
       refine T.norm [14,0,1,2,3,4,5,6,7,13,56,57] z<|T.fl ?_
       refine Sq<|Sq ?_
       obtain ⟨b2,b3,b4⟩:=M5 H
       refine T.M7 (α:=Bool) [0,1,2,3,4,5,6,7,13,14,56,57] z (fun ai=>[(99,.bool ai)]) (fun ai=>blk pb3 (.cells [a].toArray 27)::blk pb4 (.cells [.bool c].toArray 4)::blk pb5 (.cells [b,qi d].toArray 190)::D5 3 1 a e::D5 3 1 b i::L) (fun ai hh=>b2 = ai) ?_ ?_
       ·have H:=b3
        refine Rg<|Mv z<|Mv z<|T.bH 80 H z (fun H=>?_) fun H=>?_
        ·refine Mv z<|Vv (V.eq z z)<|Vv (V.R8 z z)<|Mv z<|T.bH 84 H z (fun H=>?_) fun H=>?_
         ·refine Sk<|Sk<|Sk<|Sk<|Sk<|Sk<|Sk<|Sk<|Sk<|Sk<|Sk<|Sk<|Sk<|Sk<|Vv (V.R8 z z)<|Nt<|T.mt true (O5 H)
         refine Mv z<|Vv (V.ld0 E8 z pa6.u z)<|Vv (V.eq z z)<|Mv z<|T.bH 88 H z (fun H=>?_) fun H=>?_
         ·refine Vv (V.ld0 A2p z pa2.u z)<|Vv (V.S9 z)<|Vv (V.fa Y8 z)<|Vv (V.I9 (k:=6) E5 z r.u z)<|Mv z<|bE H fun b5 aW H=>?_
          obtain ⟨dq,b6,rfl⟩:=G6.at m aW
          refine Vv (V.ix C9 z z m (G7 aW))<|Vv (V.ld0 E8 z b6.u z)<|Mv z<|Vv (V.eq z z)<|Vv (V.R8 z z)<|Vv (V.R9 z z)<|Nt<|T.mt (decide (b5 = f)) (O5 H)
         refine Sk<|Sk<|Sk<|Sk<|Sk<|Sk<|Sk<|Sk<|Sk<|Vv (V.R9 z z)<|Vv (V.R9 z z)<|Nt<|T.mt false (O5 H)
        refine Sk<|Sk<|Vv (V.R9 z z)<|Mv z<|Mv z<|Vv (V.ld0 E8 z pa6.u z)<|Vv (V.eq z z)<|Mv z<|T.bH 88 H z (fun H=>?_) fun H=>?_
        ·refine Vv (V.ld0 A2p z pa2.u z)<|Vv (V.S9 z)<|Vv (V.fa Y8 z)<|Vv (V.I9 (k:=6) E5 z r.u z)<|Mv z<|bE H fun b7 aX H=>?_
         obtain ⟨dr,b8,rfl⟩:=G6.at m aX
         refine Vv (V.ix C9 z z m (G7 aX))<|Vv (V.ld0 E8 z b8.u z)<|Mv z<|Vv (V.eq z z)<|Vv (V.R8 z z)<|Vv (V.R9 z z)<|Nt<|T.mt (decide (b7 = f)) (O5 H)
        refine Sk<|Sk<|Sk<|Sk<|Sk<|Sk<|Sk<|Sk<|Sk<|Vv (V.R9 z z)<|Vv (V.R9 z z)<|Nt<|T.mt false (O5 H)
       rintro ai ds dt b9
       have H:=J8 b9 b4
       refine T.norm [99,0,1,2,3,4,5,6,7,13,14,56,57] z<|T.fl ?_
       refine T.cH H z (fun H=>?_) fun H=>?_
       ·refine T.exit<|Te<|Be<|Th<|T.mt (o,c,p,d,a,e,b,i) ⟨(O5 H),q.u,ae.u⟩
       refine Ks<|Sq<|Sr<|Vv (V.A8c E5 z (j:=0) z z)<|Vv (V.A2a C9 z (j:=3) z q.len)<|Mv z<|Nt ?_
       obtain ⟨aY,bh,aZ⟩:=M5 H
       refine T.M7 (α:=Unit) [0,1,2,3,4,5,6,7,13,14,56,57] z (fun _u=>[]) (fun _u=>blk pb3 (.cells [a].toArray 27)::blk pb4 (.cells [.bool c].toArray 4)::blk pb5 (.cells [b,qi d].toArray 190)::D5 3 1 a e::D5 3 1 b i::L) (fun _u hh=>aY = (Sum.inl ())) ?_ ?_
       ·have H:=bh
        refine Bl<|T.M8 (α:=Nat×Int) [0,1,2,3,4,5,6,7,13,14,56,57,100,101] z (fun ⟨G,I⟩=>[(102,qi I)]) (fun ⟨G,I⟩=>blk pb3 (.cells [a].toArray 27)::blk pb4 (.cells [.bool c].toArray 4)::blk pb5 (.cells [b,qi d].toArray 190)::D5 3 1 a e::D5 3 1 b i::L) (fun ⟨G,I⟩ hh=>iter (B2a o c p d f) G I = some aY) (fun ⟨G,I⟩=>G) (FUEL,(0:Int)) ⟨z,trivial⟩ z H ?_
        rintro ⟨G,I⟩ du dw bl
        obtain ⟨bv,dx,rfl,H,ap⟩:=I1 bl
        refine T.norm [102,0,1,2,3,4,5,6,7,13,14,56,57,100,101] z<|T.fl ?_
        refine Sr<|Vv (V.lt z z)<|Nt<|Sq<|T.cH H z (fun H=>?_) fun H=>?_
        ·refine Ks<|Sq<|Bl<|Sr<|bE H fun dy a0 H=>?_
         obtain ⟨dA,bz,rfl⟩:=A7.get q a0
         refine Vv (V.ixR C9 z z (j:=3) z (A7.bd q a0))<|Vv (V.ldR E8 z (j:=3) z bz z)<|Ag z<|Nt<|Sr<|Mv z<|Mv z<|Vv (V.eq z z)<|Nt<|T.cH H z (fun H=>?_) fun H=>?_
         ·refine T.exit<|T.blX z<|Te<|Te<|have H:=D9 H ap; T.blX z<|Te<|have H:=J8 H aZ; Be<|Th<|T.mt (o,c,p,d,a,e,b,i) ⟨(O5 H),q.u,ae.u⟩
         refine T.skip<|Bn<|Th<|Rg<|bE H fun ca cb H=>Vv (V.J2 z z cb)<|Mv z<|Nt<|T.ag (bv,ca) (F4 H ap)
        refine T.exit<|Te<|Te<|have H:=D9 H ap; Be<|Th<|T.mt () H
       rintro _ J dB cc
       have H:=J8 cc aZ
       refine T.norm [0,1,2,3,4,5,6,7,13,14,56,57] z<|T.fl ?_
       refine Sr<|Vv (V.A8c E5 z (j:=0) z z)<|Mv z<|Mv z<|bE H fun dC aq H=>?_
       obtain ⟨dD,dE,rfl⟩:=A7.get q aq
       refine Vv (V.ixR C9 z z (j:=3) z (A7.bd q aq))<|bE H fun cd ce H=>To (O.stR E8 z z (j:=3) z (A7.bdN q aq) z<|have a1:A7 (VI .i64) J (e.set g1.toNat [qi f]) cd:=A7.set q.u (show (VI .i64) J [qi f] f from z) ce; Nt<|Sq<|Sr<|Mv z<|Nt<|T.cH H z (fun H=>?_) fun H=>?_)
       ·refine Rg<|Vv (V.ld0 A6L z pa7.u z)<|Mv z<|bE H fun dG cf H=>Vv (V.J2 z z cf)<|Mv z<|bE H fun dI cg H=>Vv (V.A1s z z cg)<|G5 4 z<|T.fl ?_
        refine G5 4 z<|T.fl ?_
        refine G5 4 z<|T.fl ?_
        refine G5 3 z<|T.fl ?_
        refine G5 4 z<|T.fl ?_
        refine bE H fun ⟨dJ,ci,a2⟩ cj H=>To (O.C3B z z (self pa2.u (show (VPt Q8) J [.pointer (some aj)] t3 from ⟨(.pointer (some aj)),z,(Pt.mk r.u ⟨aw,ax,ay,aA,aB,aC,aD,z,ak.u,aE.u,aG.u,aI.u,aJ.u,aK.u,m.u⟩)⟩) a1 ae.u pa6.u (show (VI .i64) J [qi t11] t11 from z) pa7.u cj _) z fun dK a3 dM dN ck=>?_)
        obtain ⟨cm,a4,cn,co,rfl,cp,an,cq⟩:=ck
        refine J9 _ cp<|Nt<|Rg<|Vv (V.A8c E5 z (j:=0) z z)<|Mv z<|bE H fun dO ar H=>?_
        obtain ⟨dP,dS,rfl⟩:=A7.get an ar
        refine Vv (V.ixR C9 z z (j:=1) z (A7.bd an ar))<|bE H fun a5 cr H=>To (O.stR E8 z z (j:=1) z (A7.bdN an ar) z<|have ct:A7 (VI .i64) a3 (a4.set g1.toNat [qi (-1)]) a5:=A7.set an (show (VI .i64) a3 [qi (-1)] (-1:Int) from z) cr; Ni<|Bn<|Th<|G5 4 z<|T.fl ?_)
        refine G5 1 z<|T.fl ?_
        refine G5 4 z<|T.fl ?_
        refine G5 4 z<|T.fl ?_
        refine G5 4 z<|T.fl ?_
        exact T.mt (a5,ci,a2.A3K,a2.A1N,cm,(a4.set g1.toNat [qi (-1)]),cn,co) ⟨(O5 H),ct,cq⟩
       refine Rg<|Vv (V.ld0 A6L z pa7.u z)<|Mv z<|bE H fun dU cu H=>Vv (V.J2 z z cu)<|Mv z<|G5 4 z<|T.fl ?_
       refine G5 4 z<|T.fl ?_
       refine G5 4 z<|T.fl ?_
       refine G5 3 z<|T.fl ?_
       refine G5 4 z<|T.fl ?_
       refine bE H fun ⟨dV,cw,a6⟩ cx H=>To (O.C3B z z (self pa2.u (show (VPt Q8) J [.pointer (some aj)] t3 from ⟨(.pointer (some aj)),z,(Pt.mk r.u ⟨aw,ax,ay,aA,aB,aC,aD,z,ak.u,aE.u,aG.u,aI.u,aJ.u,aK.u,m.u⟩)⟩) a1 ae.u pa6.u (show (VI .i64) J [qi t11] t11 from z) pa7.u cx _) z fun dW a7 dX dY cy=>?_)
       obtain ⟨cA,a8,cB,cC,rfl,cD,ao,cE⟩:=cy
       refine J9 _ cD<|Nt<|Rg<|Vv (V.A8c E5 z (j:=0) z z)<|Mv z<|bE H fun dZ au H=>?_
       obtain ⟨d0,d1,rfl⟩:=A7.get ao au
       refine Vv (V.ixR C9 z z (j:=1) z (A7.bd ao au))<|bE H fun a9 cG H=>To (O.stR E8 z z (j:=1) z (A7.bdN ao au) z<|have cI:A7 (VI .i64) a7 (a8.set g1.toNat [qi (-1)]) a9:=A7.set ao (show (VI .i64) a7 [qi (-1)] (-1:Int) from z) cG; Ni<|Bn<|Th<|G5 4 z<|T.fl ?_)
       refine G5 1 z<|T.fl ?_
       refine G5 4 z<|T.fl ?_
       refine G5 4 z<|T.fl ?_
       refine G5 4 z<|T.fl ?_
       exact T.mt (a9,cw,a6.A3K,a6.A1N,cA,(a8.set g1.toNat [qi (-1)]),cB,cC) ⟨(O5 H),cI,cE⟩
      rintro ⟨w,x,y,A,B,C,D,E⟩ d2 d3 ⟨cJ,cK,cM⟩
      have H:=J8 cJ bU
      refine T.norm [0,1,2,3,4,5,6,7,56,57] z<|T.fl ?_
      refine Rg<|bE H fun cN cO H=>Vv (V.J2 z z cO)<|Mv z<|Nt<|T.ag (bO,w,x,y,A,cN,B,C,D,E) ⟨(F4 H aS),cK,cM⟩
     refine T.exit<|Te<|Te<|have H:=D9 H aS; Be<|Th<|T.mt (o,c,p,d,a,e,b,i) ⟨H,q,ae⟩
    rintro ⟨W,X,Y,Z,aa,ab,ac,ad⟩ d4 d5 ⟨cP,cS,cU⟩
    have H:=J8 cP bM
    refine T.norm [3,4,5] z<|T.fl ?_
    refine T.sgN<|G5 4 z<|T.fl ?_
    refine G5 3 z<|T.fl ?_
    refine G5 3 z<|T.fl ?_
    refine G5 4 z<|T.fl ?_
    refine G5 4 z<|T.fl ?_
    cases H
    exact T.B2y results210 Li ⟨_,_,_,_,z,z,cS,cU⟩
theorem C1C {h e b f a c g} (i:Pt Q8 h e b) (H:B9B b f a = some (c,g)):∀ L,G8 prog 124 [e,.int .i64 f,.int .i64 a] h (L) (fun v h' L'=>∃ v0_1,v = .tuple #[.agg #[v0_1,.int .i64 c.A1N],.bool g]∧L' = L∧G6 (VI .i64) 1 h' v0_1 c.A3K):=by
 intro L
 refine G8.enter func124 z z z<|Sr<|To (O.Y0 z (Pt.cells i) z fun s aB aC m=>To (O.Y0 z z z fun w aD aE x=>To (O.alloc A9P z z fun aG=>Ag z<|Nt<|Sr<|To (O.b1 (E:=VI .i64) C9 M9 z z z z z fun aI y=>Vv (V.ld0 A2p z m.u z)<|have A:=i; ?_))))
 obtain ⟨n,_,rfl,o,⟨B,C,D,G,I,J,K,rfl,M,N,P,S,U,W,p⟩⟩:=A
 refine Vv (V.S9 z)<|Vv (V.fa Y8 z)<|Vv (V.I9 (k:=6) E5 z o.u z)<|Vv (V.P9 C9 z p)<|T.J5 fun aJ aK X=>have Y:=A7.Z4 X y.u; bE H fun aM Z H=>To (O.D8 z (A6e Y Z _) z fun aa aN aO aP ab=>?_)
 obtain ⟨aS,ac,ad⟩:=ab
 refine J9 _ ac<|To (O.alloc A3z z z fun ae=>T.J7 1 z fun af ag=>To (O.stF (vs:=[aa]) E5 z z (j:=0) z ag (by (simp only [Sl.ones,af,Bool.and_true,Bool.true_and]) <;> rfl) z ?_))
 refine T.fl ?_
 refine Nt<|Sr<|To (O.alloc A9P z z fun ai=>Nt<|Sr<|To (O.alloc A6l z z fun aj=>To (O.stF (vs:=[.bool false]) U5 z z (j:=0) z z z z<|T.fl ?_)))
 refine Nt<|Sr<|To (O.alloc C2c z z fun ak=>Nt<|Sr<|Vv (V.mkf z z)<|To (O.stF (vs:=[.func (.func 210) #[] #[qp s,qp ae,qp aj,qp ai,qp w,qp ak]]) A6L z z (j:=0) z z z z<|T.fl ?_))
 refine T.freeze fun d aU am=>have q:=AtC.of am; Nt<|Sr<|Vv (V.ld0 A6L z q z)<|Mv z<|T.U9 3 1<|have an:A7 (VI .i64) d [] ([]:List Int):=A7.nil; G5 2 z<|T.fl ?_
 refine G5 2 z<|T.fl ?_
 refine G5 4 z<|T.fl ?_
 refine G5 4 z<|T.fl ?_
 refine bE H fun ⟨aV,aW,ao⟩ ap H=>To (O.C3B z z (B8Z _ m.u (show (VPt Q8) d [.pointer (some n)] b from ⟨(.pointer (some n)),z,(Pt.mk o.u ⟨B,C,D,G,I,J,K,z,M.u,N.u,P.u,S.u,U.u,W.u,p.u⟩)⟩) ad.u an x.u (show (VI .i64) d [qi a] a from z) q ap _) z fun aX aY aZ a0 aq=>?_)
 obtain ⟨a1,a2,ar,a3,rfl,au,a4,aw⟩:=aq
 refine J9 _ au<|Nt<|Sq<|G5 4 z<|T.fl ?_
 refine T.J5 fun a5 a6 ax=>have r:=A7.Z4 ax aw.u; G5 4 z<|T.fl ?_
 refine G5 4 z<|T.fl ?_
 refine G5 4 z<|T.fl ?_
 refine T.O1 (t:=(.v 0 (.v 1 (.alt 2 (.alt 3 .done .no) .no)))) 2 3 2 z z I4 (by kernel_rfl) ?_
 refine Tv z (Val.XA fun _ _ _=>V.A3T (j:=1) (by exact A4G) z z) ?_
 refine Tv z (Val.XA fun _ _ _=>V.A8c U5 z (j:=0) z z)<|Tp z z (SX.two (XA.fr [1,1] Lr z) (XA.fr [2,2,2] Lr z)) (O.stF (vs:=[ar,qi ao.A1N]) A4G z z (j:=2) z z (by (simp only [Sl.ones,G6.one r,Bool.and_true,Bool.true_and]) <;> rfl) z ?_) T.O9
 refine T.fl ?_
 refine T.freeze fun a7 a8 ay=>have aA:=AtC.of ay; Ts z z (SX.one (XA.fr [1,1] Li z) z) (V.asg z) z ?_ T.O9
 refine T.R7 (SX.one (XA.fr [1,1] Li z) z)<|Th<|T.ret<|T.drop<|T.drop<|T.drop<|T.drop ?_
 cases H
 exact T.rl z (RVs.cons (RV.B0y z aA A4G) (Rv z)) ⟨_,z,z,r.u⟩
theorem B3A {h o e f i a p} (q:Pt Q8 h o e) (H:B2D e f i = some (a,p)):∀ L,G8 prog 62 [o,.int .i64 f,.int .i64 i] h (L) (fun v h' L'=>∃ v0_1 v0_3 v0_5 v0_7 v0_9 v0_11,v = .tuple #[.agg #[v0_1,v0_3,v0_5,v0_7,v0_9,v0_11,.int .i64 a.A6A,.int .i64 a.A1N],.int .i64 p]∧L' = L∧G6 F7 7 h' v0_1 a.A0J.D7∧G6 F9 9 h' v0_3 a.A0J.A8∧G6 H7 3 h' v0_5 a.A0J.I8∧G6 (VI .i64) 1 h' v0_7 a.A0J.I6∧G6 H5 6 h' v0_9 a.A0J.J3∧G6 (VI .i64) 1 h' v0_11 a.A3K):=by
 intro L
 refine G8.enter func62 z z z<|Sr<|To (O.alloc A3l z z fun r=>Ag z<|Nt<|Sq<|Sr<|Mv z<|Mv z<|bE H fun aG K H=>To (O.D8 z (B2u q K _) z fun aI aJ aK aM M=>?_))
 obtain ⟨rfl,N⟩:=M
 refine J9 _ N<|Vv (V.gt z z)<|Nt<|T.cH H z dead fun H=>Ks<|Sq<|Sr<|Ag z<|Nt ?_
 obtain ⟨s,P,w⟩:=M5 H
 refine T.M7 (α:=Unit) [6] z (fun _u=>[]) (fun _u=>blk r (.cells [qs,qs,qs,qs,qs,qs,qi 0,qi 0].toArray 86)::L) (fun _u hh=>s = (Sum.inl ())) ?_ ?_
 ·have H:=P
  refine Bl<|T.M8 (α:=Nat×Int) [0,1,2,6] z (fun ⟨c,b⟩=>[(8,qi b)]) (fun ⟨c,b⟩=>blk r (.cells [qs,qs,qs,qs,qs,qs,qi 0,qi 0].toArray 86)::L) (fun ⟨c,b⟩ hh=>iter (B3N e f i) c b = some s) (fun ⟨c,b⟩=>c) (FUEL,(0:Int)) ⟨z,trivial⟩ z H ?_
  rintro ⟨c,b⟩ aN aO S
  obtain ⟨U,aP,rfl,H,m⟩:=I1 S
  refine T.norm [8,0,1,2,6] z<|T.fl ?_
  refine Sq<|Sr<|Mv z<|Mv z<|Mv z<|have W:=q; ?_
  obtain ⟨aS,_,rfl,n,⟨X,Y,Z,aa,ab,ac,ad,rfl,x,ae,af,ai,aj,ak,y⟩⟩:=W
  refine Vv (V.S9 z)<|Vv (V.fa Y8 z)<|Vv (V.I9 (k:=6) E5 z n.u z)<|Vv (V.P9 C9 z y)<|Vv (V.min2 z z)<|Vv (V.le z z)<|Nt<|T.cH H z (fun H=>?_) fun H=>?_
  ·refine Ks<|Sq<|Bl<|Sr<|Mv z<|Mv z<|Mv z<|bE H fun ⟨A,aU⟩ am H=>To (O.D8 z (C1C (Pt.mk n.u ⟨X,Y,Z,aa,ab,ac,ad,z,x.u,ae.u,af.u,ai.u,aj.u,ak.u,y.u⟩) am _) z fun aV aW aX aY an=>?_)
   obtain ⟨B,rfl,ao,d⟩:=an
   refine J9 _ ao<|Mv z<|Vv (V.ext z z)<|Vv (V.ext z z)<|To (O.alloc A9P z z fun aZ=>To (O.stF (vs:=[B,qi A.A1N]) A4G z z (j:=0) z z (by (simp only [Sl.ones,G6.one d,Bool.and_true,Bool.true_and]) <;> rfl) z ?_))
   refine T.freeze fun a0 a1 ap=>have C:=AtC.of ap; Ag z<|Nt<|Sr<|Mv z<|Nt<|T.cH H z (fun H=>?_) fun H=>?_
   ·refine Sq<|T.O1 (t:=(.vs [0,1,2,3,5,6,7,8,9] (.alt 4 (.g (.v 10 (.alt 11 (.alt 12 .done .no) .no))) .no))) 11 1 0 z z I4 (by kernel_rfl) ?_
    refine Tm z z<|Tv z (V.S9 z)<|Tv z (V.fa A2Y z)<|Tv z (V.I9 (k:=0) R3 z n.u z)<|Tv z (V.fa B8V z)<|Tv z (V.I9 (k:=0) E5 z C z)<|Tm z z<|Tv z (V.fa B1R z)<|Tv z (V.I9 (k:=1) E8 z C z)<|bE H fun a2 aq H=>Tp z z (SX.two (XA.fr [] Lr z) (XA.fr [0] Lr z)) (O.D8 z (B0w x.u aq _) z fun a3 a4 a5 a6 ar=>?_) T.O9
    obtain ⟨au,aw,ax,ay,aA,rfl,aB,D,E,G,I,J⟩:=ar
    refine J9 _ aB<|T.O3 Li<|Tv z (V.bld (xs:=[(0,.tmp 39),(1,.tmp 41),(2,.tmp 42),(3,.tmp 44)]) (cs:=[_,_,_,_,_,_,_,_]) B6i B6h z (F3.cons z z z (F3.cons z (G6.cells d) z (F3.cons z z z (F3.cons z z z F3.nil)))))<|Tp z z (SX.two (XA.fr [] Lr z) (XA.fr [0] Lr z)) (O.stF (vs:=[au,aw,ax,ay,aA,B,qi b,qi A.A1N]) A0y z z (j:=0) z z (by (simp only [Sl.ones,G6.one D,G6.one E,G6.one G,G6.one I,G6.one J,G6.one d,Bool.and_true,Bool.true_and]) <;> rfl) z ?_) T.O9
    refine Ts z z (SX.one (XA.fr [] Lr z) z) (V.asg z) z ?_ T.O9
    refine T.R7 (SX.one (XA.fr [] Lr z) z)<|Th<|T.ret<|Br<|Tr<|Tr<|have H:=D9 H m; Br<|Tr<|have H:=J8 H w; ?_
    cases H
    exact T.A4z (L':=L) results62 (RVs.cons (RV.cellS z (j:=0) z A0y) (Rv z)) Li (fun _ iv=>iv.drop) ⟨_,_,_,_,_,_,z,z,D,E,G,I,J,d.u⟩
   refine T.skip<|Bn<|Th<|Rg<|Mv z<|bE H fun aC aD H=>Vv (V.J2 z z aD)<|Ag z<|Nt<|T.ag (U,aC) (F4 H m)
  refine T.exit<|Te<|Te<|have H:=D9 H m; Be<|Th<|T.mt () H
 rintro _ a7 a8 aE
 have H:=J8 aE w
 refine T.norm [6] z<|T.fl ?_
 refine Sr<|Vv (V.bld (xs:=[]) (cs:=[_,_,_,_,_,_,_,_]) B6i B6h z F3.nil)<|To (O.stF (vs:=[qs,qs,qs,qs,qs,qs,qi 0,qi 0]) A0y z z (j:=0) z z z z<|Ag z<|Nt<|T.ret ?_)
 cases H
 exact T.A4z (L':=L) results62 (RVs.cons (RV.cellS z (j:=0) z A0y) (Rv z)) Li (fun _ iv=>iv.drop) ⟨_,_,_,_,_,_,z,z,G6.nil,G6.nil,G6.nil,G6.nil,G6.nil,G6.nil⟩
theorem A6H {h b p1 c d e a f} (q:M3 h b p1) (r:G6 (VI .i64) 1 h c d) (H:A8L p1 d e = some (a,f)):∀ L,G8 prog 22 [.agg b.toArray,c,.int .i64 e] h (L) (fun v h' L'=>∃ v0_1 v0_3 v0_5 v0_7 v0_9 v0_11,v = .tuple #[.agg #[v0_1,v0_3,v0_5,v0_7,v0_9,v0_11,.int .i64 a.A6A,.int .i64 a.A1N],.int .i64 f]∧L' = L∧G6 F7 7 h' v0_1 a.A0J.D7∧G6 F9 9 h' v0_3 a.A0J.A8∧G6 H7 3 h' v0_5 a.A0J.I8∧G6 (VI .i64) 1 h' v0_7 a.A0J.I6∧G6 H5 6 h' v0_9 a.A0J.J3∧G6 (VI .i64) 1 h' v0_11 a.A3K):=by
 intro L
 obtain ⟨s,t,w,x,y,rfl,A,B,C,D,E⟩:=q
 refine G8.enter func22 z z z<|Sr<|To (O.Y0 z z z fun aJ aK aM G=>To (O.alloc A3l z z fun aN=>Ag z<|Nt<|Sr<|Vv (V.ldS z G (by exact G9)) ?_))
 refine Mv z<|bE H fun ⟨aO,aP⟩ I H=>To (O.D8 z (A2b ⟨s,t,w,x,y,z,A.u,B.u,C.u,D.u,E.u⟩ r.u I _) z fun aS aU aV aW J=>?_)
 obtain ⟨aX,K,M,aY,N,aZ,P,a0,S,a1,U,a2,W,a3,rfl,X,Y,Z,aa,ab,ac,ad,ae⟩:=J
 refine J9 _ X<|Mv z<|Vv (V.ext z z)<|Vv (V.ext z z)<|Ag z<|Ag z<|Nt<|Sq<|Sr<|Mv z<|Vv (V.ne z z)<|Nt<|T.cH H z dead fun H=>Ks<|Sr<|Mv z<|Mv z<|Vv (V.max2 z z)<|G5 1 z<|T.fl ?_
 refine T.J5 fun a4 a5 af=>have ag:=A7.Z4 af Z.u; G5 1 z<|T.fl ?_
 refine T.J5 fun a6 a7 ai=>have aj:=A7.Z4 ai aa.u; G5 1 z<|T.fl ?_
 refine T.J5 fun a8 a9 ak=>have am:=A7.Z4 ak ab.u; G5 1 z<|T.fl ?_
 refine T.J5 fun ah al an=>have ao:=A7.Z4 an ac.u; G5 1 z<|T.fl ?_
 refine T.J5 fun av az ap=>have aq:=A7.Z4 ap ad.u; G5 1 z<|T.fl ?_
 refine T.J5 fun ba bb ar=>have au:=A7.Z4 ar ae.u; T.B5P fun bc bd aw=>bE H fun ⟨g,be⟩ ax H=>To (O.D8 z (B3A (Pt.mk aw ⟨K,M,N,P,S,U,W,z,Y.u,ag.u,aj.u,am.u,ao.u,aq.u,au.u⟩) ax _) z fun bf bg bi bj ay=>?_)
 obtain ⟨aA,aB,aC,aD,aE,aG,rfl,aI,i,k,m,n,o,p⟩:=ay
 refine J9 _ aI<|Vv (V.ext z z)<|Vv (V.ext z z)<|To (O.stF (vs:=[aA,aB,aC,aD,aE,aG,qi g.A6A,qi g.A1N]) A0y z z (j:=0) z z (by (simp only [Sl.ones,G6.one i,G6.one k,G6.one m,G6.one n,G6.one o,G6.one p,Bool.and_true,Bool.true_and]) <;> rfl) z ?_)
 refine Ag z<|Nt<|T.ret ?_
 cases H
 exact T.A4z (L':=L) results22 (RVs.cons (RV.cellS z (j:=0) z A0y) (Rv z)) Li (fun _ iv=>iv.drop) ⟨_,_,_,_,_,_,z,z,i,k,m,n,o,p⟩
theorem B9N {h c p1 d e f g a i} (t:M3 h c p1) (b:G6 (VI .i64) 1 h d e) (H:B8y p1 e f g = some (a,i)):∀ L,G8 prog 29 [.agg c.toArray,d,.int .i64 f,.int .i64 g] h (L) (fun v h' L'=>∃ v0_1 v0_3 v0_5 v0_7 v0_9 v0_11,v = .tuple #[.agg #[v0_1,v0_3,v0_5,v0_7,v0_9,v0_11,.int .i64 a.A6A,.int .i64 a.A1N],.int .i64 i]∧L' = L∧G6 F7 7 h' v0_1 a.A0J.D7∧G6 F9 9 h' v0_3 a.A0J.A8∧G6 H7 3 h' v0_5 a.A0J.I8∧G6 (VI .i64) 1 h' v0_7 a.A0J.I6∧G6 H5 6 h' v0_9 a.A0J.J3∧G6 (VI .i64) 1 h' v0_11 a.A3K):=by
 intro L
 obtain ⟨w,x,y,A,B,rfl,C,D,E,G,I⟩:=t
 refine G8.enter func29 z z z<|Sr<|To (O.Y0 z z z fun aN aO aP J=>To (O.alloc A3l z z fun aS=>Ag z<|Nt<|Sr<|Vv (V.ldS z J (by exact G9)) ?_))
 refine Mv z<|bE H fun ⟨aU,aV⟩ K H=>To (O.D8 z (A2b ⟨w,x,y,A,B,z,C.u,D.u,E.u,G.u,I.u⟩ b.u K _) z fun aW aX aY aZ M=>?_)
 obtain ⟨a0,N,P,a1,S,a2,U,a3,W,a4,X,a5,Y,a6,rfl,Z,aa,ab,ac,ad,ae,af,ag⟩:=M
 refine J9 _ Z<|Mv z<|Vv (V.ext z z)<|Vv (V.ext z z)<|Ag z<|Ag z<|Nt<|Sq<|Sr<|Mv z<|Vv (V.ne z z)<|Nt<|T.cH H z dead fun H=>Ks<|Sq<|Sr<|Mv z<|Vv (V.lt z z)<|Mv z<|T.bH 24 H z dead fun H=>Mv z<|Mv z<|Vv (V.P9 C9 z b)<|Vv (V.ge z z)<|Vv (V.R9 z z)<|Mv z<|T.bH 30 H z dead fun H=>Mv z<|Mv z<|bE H fun a7 k H=>?_
 obtain ⟨a8,ai,rfl⟩:=G6.at b k
 refine Vv (V.ix C9 z z b (G7 k))<|Vv (V.ld0 E8 z ai.u z)<|Vv (V.lt z z)<|Vv (V.R9 z z)<|Nt<|T.cH H z dead fun H=>Ks<|Sr<|Mv z<|Mv z<|Vv (V.max2 z z)<|Mv z<|G5 1 z<|T.fl ?_
 refine T.J5 fun a9 ah aj=>have ak:=A7.Z4 aj ab.u; G5 1 z<|T.fl ?_
 refine T.J5 fun al av am=>have an:=A7.Z4 am ac.u; G5 1 z<|T.fl ?_
 refine T.J5 fun az ba ao=>have ap:=A7.Z4 ao ad.u; G5 1 z<|T.fl ?_
 refine T.J5 fun bb bc aq=>have ar:=A7.Z4 aq ae.u; G5 1 z<|T.fl ?_
 refine T.J5 fun bd be au=>have aw:=A7.Z4 au af.u; G5 1 z<|T.fl ?_
 refine T.J5 fun bf bg ax=>have ay:=A7.Z4 ax ag.u; T.B5P fun bi bj aA=>bE H fun ⟨m,bk⟩ aB H=>To (O.D8 z (B3A (Pt.mk aA ⟨N,P,S,U,W,X,Y,z,aa.u,ak.u,an.u,ap.u,ar.u,aw.u,ay.u⟩) aB _) z fun bm bn bo bp aC=>?_)
 obtain ⟨aD,aE,aG,aI,aJ,aK,rfl,aM,n,o,p,q,r,s⟩:=aC
 refine J9 _ aM<|Vv (V.ext z z)<|Vv (V.ext z z)<|To (O.stF (vs:=[aD,aE,aG,aI,aJ,aK,qi m.A6A,qi m.A1N]) A0y z z (j:=0) z z (by (simp only [Sl.ones,G6.one n,G6.one o,G6.one p,G6.one q,G6.one r,G6.one s,Bool.and_true,Bool.true_and]) <;> rfl) z ?_)
 refine Ag z<|Nt<|T.ret ?_
 cases H
 exact T.A4z (L':=L) results29 (RVs.cons (RV.cellS z (j:=0) z A0y) (Rv z)) Li (fun _ iv=>iv.drop) ⟨_,_,_,_,_,_,z,z,n,o,p,q,r,s⟩
theorem B7F {h a r1 b} (c:H5 h a r1) (H:B0e r1 = some b):∀ L,G8 prog 65 [.agg a.toArray] h (L) (fun v h' L'=>v = .bool b∧L' = L):=by
 intro L
 obtain rfl:=c
 refine G8.enter func65 z z z<|Sr<|To (O.Y0 z z z fun e f g d=>Ag z<|Nt<|Sr<|Vv (V.fa A1Q z)<|Vv (V.I9 (k:=1) E8 z d z)<|Vv (V.gt z z)<|Ag z<|Nt<|T.ret ?_)
 exact E1 H
theorem B2R {h M p1 N G d P} (ao:M3 h M p1) (y:G6 (VI .i64) 1 h N G) (H:B3J p1 G = some (d,P)):∀ L,G8 prog 24 [.agg M.toArray,N] h (L) (fun v h' L'=>∃ v0_1 v0_3 v0_5 v0_7 v0_9,v = .tuple #[.agg #[v0_1,v0_3,v0_5,v0_7,v0_9],.int .i64 P]∧L' = L∧G6 F7 7 h' v0_1 d.D7∧G6 F9 9 h' v0_3 d.A8∧G6 H7 3 h' v0_5 d.I8∧G6 (VI .i64) 1 h' v0_7 d.I6∧G6 H5 6 h' v0_9 d.J3):=by
 intro L
 obtain ⟨aq,ar,au,aw,ax,rfl,A,I,ay,aA,aB⟩:=ao
 refine G8.enter func24 z z z<|Sr<|To (O.Y0 z z z fun bN bO bP B=>To (O.alloc A0p z z fun S=>Ag z<|Nt<|Sr<|Vv (V.ldS z B (by exact G9)) ?_))
 refine Mv z<|bE H fun ⟨bS,bU⟩ aC H=>To (O.D8 z (A2b ⟨aq,ar,au,aw,ax,z,A.u,I.u,ay.u,aA.u,aB.u⟩ y.u aC _) z fun bV bW bX bY aD=>?_)
 obtain ⟨bZ,b0,b1,b2,b3,b4,b5,b6,b7,b8,b9,bh,bl,bv,rfl,aE,aG,bz,ca,cb,cc,cd,ce⟩:=aD
 refine J9 _ aE<|Mv z<|Vv (V.ext z z)<|Vv (V.ext z z)<|Ag z<|Ag z<|Nt<|Sq<|Sr<|Mv z<|Vv (V.ne z z)<|Nt<|T.cH H z dead fun H=>Ks<|Sr<|Mv z<|Vv (V.S9 z)<|Vv (V.fa A2Y z)<|Vv (V.ldO (k:=0) R3 z (j:=0) z z)<|bE H fun cf aI H=>To (O.D8 z (A9u aG aI _) z fun cg aJ ci cj aK=>?_)
 obtain ⟨f,U,m,W,n,X,o,Y,aM,ck,rfl,aN,aO,aP,aS,aU,aV⟩:=aK
 refine J9 _ aN<|To (O.alloc A0p z z fun Z=>T.J7 1 z fun aW cm=>T.J7 2 z fun aX cn=>T.J7 3 z fun aY co=>T.J7 4 z fun aZ cp=>T.J7 5 z fun a0 cq=>To (O.stF (vs:=[f,m,n,o,aM]) G9 z z (j:=0) z z (by (simp only [Sl.ones,aW,aX,aY,aZ,a0,Bool.and_true,Bool.true_and]) <;> rfl) z ?_))
 refine T.fl ?_
 refine Nt<|Sr<|Vv (V.fa P6 z)<|Vv (V.ldO (k:=4) O7 z (j:=0) z z)<|G5 5 z<|T.fl ?_
 refine bE H fun a1 a2 H=>To (O.D8 z (A7m aV (show A9o aJ (.func (.func 65) #[] #[]) B0e from ⟨⟨z,z⟩,.inr ⟨65,[],[],z,fun cr ct cu cw a3 cx a4 a5=>B7F a3 a4 a5⟩⟩) a2 _) z fun aa cy cA cB a6=>?_)
 obtain ⟨a7,a8,a9⟩:=a6
 refine J9 _ a8<|Vv (V.fa P6 z)<|T.J7 0 z fun ah al=>To (O.st (vs:=[aa]) (k:=4) O7 z z (j:=1) z al (by (simp only [Sl.ones,ah,Bool.and_true,Bool.true_and]) <;> rfl) ?_)
 refine T.fl ?_
 refine Nt<|Sq<|Sr<|Mv z<|Vv (V.P9 C9 z y)<|Mv z<|Nt ?_
 obtain ⟨ab,av,az⟩:=M5 H
 refine T.M7 (α:=(List F6)×Value×(List (List Value))) [4,8] z (fun ⟨s,p,w⟩=>[]) (fun ⟨s,p,w⟩=>blk Z (.cells [f,m,n,o,p].toArray 33)::D5 54 7 f U::D5 39 9 m W::D5 106 3 n X::D5 3 1 o Y::blk S (.cells [qs,qs,qs,qs,qs].toArray 33)::D5 42 6 p w::L) (fun ⟨s,p,w⟩ hh=>ab = s∧A7 H5 hh w s) ?_ ?_
 ·have H:=av
  refine Bl<|G5 6 z<|T.fl ?_
  refine T.drop<|G5 6 z<|T.fl ?_
  refine T.drop<|G5 6 z<|T.fl ?_
  refine T.drop<|G5 6 z<|T.fl ?_
  refine T.drop<|G5 6 z<|T.fl ?_
  refine T.drop<|G5 6 z<|T.fl ?_
  refine T.drop<|G5 6 z<|T.fl ?_
  refine T.drop<|G5 1 z<|T.fl ?_
  refine G5 6 z<|T.fl ?_
  refine G5 6 z<|T.fl ?_
  refine G5 6 z<|T.fl ?_
  refine G5 6 z<|T.fl ?_
  refine G5 6 z<|T.fl ?_
  refine G5 6 z<|T.fl ?_
  refine T.M8 (α:=Nat×(List F6)×Int×Value×(List (List Value))) [2,4,8,33,34] z (fun ⟨q,b,r,c,a⟩=>[(35,qi r)]) (fun ⟨q,b,r,c,a⟩=>blk Z (.cells [f,m,n,o,c].toArray 33)::D5 54 7 f U::D5 39 9 m W::D5 106 3 n X::D5 3 1 o Y::blk S (.cells [qs,qs,qs,qs,qs].toArray 33)::D5 42 6 c a::L) (fun ⟨q,b,r,c,a⟩ hh=>iter (B3O p1 G) q (b,r) = some ab∧A7 H5 hh a b) (fun ⟨q,b,r,c,a⟩=>q) (FUEL,a1,(0:Int),aa,a7) ⟨z,trivial⟩ z ⟨H,a9⟩ ?_
  rintro ⟨q,b,r,c,a⟩ cC cD ⟨ba,J⟩
  obtain ⟨bb,cE,rfl,H,ac⟩:=I1 ba
  refine T.norm [35,2,4,8,33,34] z<|T.fl ?_
  refine Sr<|Vv (V.lt z z)<|Nt<|Sq<|T.cH H z (fun H=>?_) fun H=>?_
  ·refine Ks<|Sq<|Bl<|Sr<|Mv z<|bE H fun cG ad H=>?_
   obtain ⟨cI,bc,rfl⟩:=G6.at y ad
   refine Vv (V.ix C9 z z y (G7 ad))<|Vv (V.ld0 E8 z bc.u z)<|Ag z<|Ag z<|Nt<|Sr<|Mv z<|Vv (V.ge z z)<|Nt<|T.cH H z (fun H=>?_) fun H=>?_
   ·refine Sr<|Vv (V.fa J4 z)<|Vv (V.I9 (k:=0) M0 z B.u z)<|Mv z<|bE H fun ⟨cJ,C,cK⟩ bd H=>To (O.D8 z (A4N A.u bd _) z fun cM ae cN cO be=>?_)
    obtain ⟨rfl,bf⟩:=be
    refine J9 _ bf<|Mv z<|Vv (V.ext z z)<|Vv (V.ext z z)<|Vv (V.ext z z)<|Ag z<|Ag z<|Ag z<|Nt<|G5 6 z<|T.fl ?_
    refine G5 1 z<|T.fl ?_
    refine T.O1 (t:=(.v 0 (.x 1 (.vs [2,3,4,5,6,7,8,9,10,11,12,13,14,15] (.alt 16 (.alt 17 (.g (.v 18 (.alt 19 .done .no))) .no) .no))))) 17 2 0 z z I4 (by kernel_rfl) ?_
    refine Tv z (V.fa P6 z)<|T.tx z z (Val.XA fun _ _ _=>V.ldO (k:=4) O7 z (j:=0) z z) z Calm.i<|Tv z (V.fa K3 z)<|Tv z (V.I9 (k:=1) I7 z B.u z)<|Tm z z<|bE H fun D af H=>?_
    obtain ⟨cP,bg,⟨cS,rfl,cU⟩⟩:=G6.at I af
    refine Tv z (V.ix K8 z z I (G7 af))<|Tv z (V.fa X4 z)<|Tv z (V.I9 (k:=0) H9 z bg.u z)<|Tv z (V.fa J4 z)<|Tv z (V.I9 (k:=0) M0 z B.u z)<|Tm z z<|bE H fun E ai H=>?_
    obtain ⟨cV,bi,⟨cW,rfl,cX⟩⟩:=G6.at A ai
    refine Tv z (V.ix N9 z z A (G7 ai))<|Tv z (V.fa A0K z)<|Tv z (V.I9 (k:=0) H9 z bi.u z)<|Tm z z<|Tv z (V.bld (xs:=[(0,.const (.int .u8 (7))),(1,.const (qi (1))),(2,.tmp 57),(4,.tmp 63),(5,.tmp 64)]) (cs:=[_,_,_,_,_,_]) A7k A7A z (F3.cons z z z (F3.cons z z z (F3.cons z z z (F3.cons z z z (F3.cons z z z F3.nil))))))<|Tp z z (SX.two (XA.fr [] Lr z) (XA.fr [1,1] Lr z)) (O.bs Q5 A1x z (e:=z) (hk:=z) (xs:=[.tmp 65]) (hv:=CO.eq (CO.cons z CO.nil)) (hw:=O4.of z) (hd:=z) fun cY=>?_) T.O9
    have K:A7 H5 ae [[.int .u8 7,qi 1,.string D.F8,.string qe,.string E.F8,qi C]] ([(F6.mk (7:Int) (1:Int) D.F8 qe E.F8 C)]:List F6):=(A7.cons z A7.nil)
    refine bE H fun aj ak H=>Tp z z (SX.two (XA.fr [] Lr z) (XA.fr [2,2] Lr z)) (O.apX Q5 Q5 A1x z z z (j:=2) z (Src.row (j:=0) z) (O4.of z) (A7.ones H5.plain K) J.u K ak z fun am cZ c0=>?_) T.O9
    have bj:A7 H5 ae (a ++ [[.int .u8 7,qi 1,.string D.F8,.string qe,.string E.F8,qi C]]) aj:=A7.ap J.u K ak
    refine T.fl ?_
    refine G5 1 z<|T.fl ?_
    refine T.drop<|T.O3 Lr<|Tv z (V.fa P6 z)<|T.J7 0 z fun bk bm=>Tp z z (SX.one (XA.fr [] Lr z) z) (O.st (vs:=[am]) (k:=4) O7 z z (j:=1) z bm (by (simp only [Sl.ones,bk,Bool.and_true,Bool.true_and]) <;> rfl) ?_) T.O9
    refine T.fl ?_
    refine T.R7 (SX.one (XA.fr [] Lr z) z)<|Bn<|Th<|T.norm [2,4,8,33,34,35] z<|T.fl ?_
    refine Rg<|bE H fun bn bo H=>Vv (V.J2 z z bo)<|Mv z<|Nt<|G5 1 z<|T.fl ?_
    refine G5 6 z<|T.fl ?_
    refine G5 6 z<|T.fl ?_
    refine G5 6 z<|T.fl ?_
    refine G5 6 z<|T.fl ?_
    refine G5 6 z<|T.fl ?_
    refine G5 6 z<|T.fl ?_
    exact T.ag (bb,aj,bn,am,(a ++ [[.int .u8 7,qi 1,.string D.F8,.string qe,.string E.F8,qi C]])) ⟨(F4 H ac),bj⟩
   exact dead H
  refine T.exit<|Te<|Te<|have H:=D9 H ac; Be<|Th<|T.mt (b,c,a) ⟨H,J⟩
 rintro ⟨s,p,w⟩ c1 c2 ⟨bp,an⟩
 have H:=J8 bp az
 refine T.norm [4,8] z<|T.fl ?_
 refine Sq<|Sr<|Vv (V.fa P6 z)<|Vv (V.ldO (k:=4) O7 z (j:=0) z z)<|Vv (V.A2a Q5 z (j:=6) z an.len)<|Vv (V.gt z z)<|Nt<|T.cH H z dead fun H=>Ks<|Sr<|Vv (V.A3T (j:=0) (by exact G9) z z) ?_
 refine T.J7 1 z fun bq c3=>T.J7 2 z fun br c4=>T.J7 3 z fun bt c5=>T.J7 4 z fun bu c6=>T.J7 6 z fun bw c7=>To (O.stF (vs:=[f,m,n,o,p]) G9 z z (j:=5) z z (by (simp only [Sl.ones,bq,br,bt,bu,bw,Bool.and_true,Bool.true_and]) <;> rfl) z ?_)
 refine T.fl ?_
 refine Ag z<|Nt<|T.ret<|G5 2 z<|T.fl ?_
 refine T.J5 fun c8 c9 bx=>have bA:=A7.Z4 bx aO.u; G5 2 z<|T.fl ?_
 refine T.J5 fun ch cl bB=>have bC:=A7.Z4 bB aP.u; G5 2 z<|T.fl ?_
 refine T.J5 fun cv cz bD=>have bG:=A7.Z4 bD aS.u; G5 2 z<|T.fl ?_
 refine T.J5 fun da db bI=>have bJ:=A7.Z4 bI aU.u; G5 2 z<|T.fl ?_
 refine T.J5 fun dc dd bK=>have bM:=A7.Z4 bK an.u; G5 1 z<|T.drop ?_
 cases H
 exact T.A4z (L':=L) results24 (RVs.cons (RV.cellS z (j:=0) z G9) (Rv z)) Li (fun _ iv=>iv.drop) ⟨_,_,_,_,_,z,z,bA.u,bC.u,bG.u,bJ.u,bM⟩
theorem B2b {h a p1 b c d e f} (x:M3 h a p1) (y:G6 (VI .i64) 1 h b c) (H:B1i p1 c d = some (e,f)):∀ L,G8 prog 23 [.agg a.toArray,b,.int .i64 d] h (L) (fun v h' L'=>∃ g i,v = .tuple #[g,.int .i64 f]∧L' = D5 205 2 g i::L∧A7 A0c h' i e):=by
 intro L
 obtain ⟨A,B,C,D,E,rfl,G,I,J,K,M⟩:=x
 refine G8.enter func23 z z z<|Sr<|To (O.Y0 z z z fun ac ad ae N=>Ag z<|Ag z<|Nt<|Sr<|Vv (V.ldS z N (by exact G9)) ?_)
 refine Mv z<|bE H fun ⟨af,ag⟩ P H=>To (O.D8 z (B2R ⟨A,B,C,D,E,z,G.u,I.u,J.u,K.u,M.u⟩ y.u P _) z fun ai aj ak am S=>?_)
 obtain ⟨k,m,n,o,p,rfl,U,q,r,s,t,w⟩:=S
 refine J9 _ U<|Mv z<|Vv (V.ext z z)<|Vv (V.ext z z)<|To (O.alloc A0p z z fun an=>To (O.stF (vs:=[k,m,n,o,p]) G9 z z (j:=0) z z (by (simp only [Sl.ones,G6.one q,G6.one r,G6.one s,G6.one t,G6.one w,Bool.and_true,Bool.true_and]) <;> rfl) z ?_))
 refine T.freeze fun ao ap W=>have X:=AtC.of W; Ag z<|Nt<|Sq<|Sr<|Mv z<|Vv (V.ne z z)<|Nt<|T.cH H z dead fun H=>Ks<|Sr<|Vv (V.ldS z X (by exact G9)) ?_
 refine Mv z<|bE H fun ⟨aq,ar⟩ Y H=>To (O.D8 z (B8W ⟨k,m,n,o,p,z,q.u,r.u,s.u,t.u,w.u⟩ Y _) z fun au aw ax ay Z=>?_)
 obtain ⟨aA,aB,rfl,aa,ab⟩:=Z
 refine J9 _ aa<|Vv (V.ext z z)<|Vv (V.ext z z)<|Ag z<|Ag z<|Nt<|T.ret ?_
 cases H
 exact T.rl z (RVs.cons (RV.tmp z) (Rv z)) ⟨_,_,z,z,ab⟩
theorem B3D {h w o x} (I:Pt Q8 h w o) (H:B3Z o = some x):∀ L,G8 prog 72 [w] h (L) (fun v h' L'=>∃ y,L' = D5 3 1 v y::L∧A7 (VI .i64) h' y x):=by
 intro L
 refine G8.enter func72 z z z<|Sr<|Ag z<|Nt<|Sr<|Ag z<|Nt<|Sq<|Sr<|Mv z<|have J:=I; ?_
 obtain ⟨an,_,rfl,p,⟨ao,aq,ar,au,aw,ax,ay,rfl,K,aA,aB,aC,aD,q,M⟩⟩:=J
 refine Vv (V.S9 z)<|Vv (V.fa L8 z)<|Vv (V.fa P6 z)<|Vv (V.I9 (k:=5) O7 z p z)<|Vv (V.P9 Q5 z q)<|Mv z<|Nt ?_
 obtain ⟨A,N,P⟩:=M5 H
 refine T.M7 (α:=(List Int)×Value×(List (List Value))) [] z (fun ⟨i,m,n⟩=>[(3,m)]) (fun ⟨i,m,n⟩=>D5 3 1 m n::L) (fun ⟨i,m,n⟩ hh=>A = i∧A7 (VI .i64) hh n i) ?_ ?_
 ·have H:=N
  refine Bl<|T.U9 3 1<|have S:A7 (VI .i64) h [] ([]:List Int):=A7.nil; T.M8 (α:=Nat×Int×(List Int)×Value×(List (List Value))) [0,10,11] z (fun ⟨e,b,c,d,a⟩=>[(12,qi b),(3,d)]) (fun ⟨e,b,c,d,a⟩=>D5 3 1 d a::L) (fun ⟨e,b,c,d,a⟩ hh=>iter (B3g o) e (b,c) = some A∧A7 (VI .i64) hh a c) (fun ⟨e,b,c,d,a⟩=>e) (FUEL,(0:Int),([]:List Int),(qs),[]) ⟨z,z,trivial⟩ z ⟨H,S⟩ ?_
  rintro ⟨e,b,c,d,a⟩ aE aG ⟨U,r⟩
  obtain ⟨W,aI,rfl,H,B⟩:=I1 U
  refine T.norm [12,3,0,10,11] z<|T.fl ?_
  refine Sr<|Vv (V.lt z z)<|Nt<|Sq<|T.cH H z (fun H=>?_) fun H=>?_
  ·refine Ks<|Sq<|Bl<|Sr<|Mv z<|bE H fun f C H=>?_
   obtain ⟨aJ,X,rfl⟩:=G6.at q C
   refine Vv (V.ix Q5 z z q (G7 C))<|Vv (V.ldS z X.u (by exact K7)) ?_
   refine To (O.alloc A1x z z fun aK=>Ag z<|To (O.stF (vs:=[.int .u8 f.H8,qi f.Q3,.string f.fA,.string f.fB,.string f.R6,qi f.fN]) K7 z z (j:=0) z z z z<|T.freeze fun aM aN Y=>have Z:=AtC.of Y; Nt<|Sq<|T.O1 (t:=(.vs [0,1,2,3,4,5,6,7,8,9,10,11,12] (.alt 13 (.g (.v 14 (.v 15 .done))) .no))) 17 0 0 z z I4 (by kernel_rfl) ?_))
   refine Tv z (V.fa A1Q z)<|Tv z (V.I9 (k:=1) E8 z Z z)<|Tv z (V.eq z z)<|Tm z z<|T.bH 20 H z (fun H=>?_) fun H=>?_
   ·refine Tm z z<|Tv z (V.S9 z)<|Tv z (V.fa A2Y z)<|Tv z (V.I9 (k:=0) R3 z p.u z)<|Tm z z<|Tv z (V.S9 z)<|Tv z (V.fa Y8 z)<|Tv z (V.I9 (k:=6) E5 z p.u z)<|Tm z z<|bE H fun aO aa H=>Tp z z (SX.two (XA.fr [] Lr z) (XA.fr [] Lr z)) (O.D8 z (B3i K.u M.u aa _) z fun aP ab aS aU ac=>?_) T.O9
    obtain ⟨rfl,ad⟩:=ac
    refine J9 _ ad<|T.O3 Li<|Tv z (V.gt z z)<|Tv z (V.R8 z z)<|T.R7 (SX.two (XA.fr [] Lr z) (XA.fr [] Lr z))<|Th<|T.cH H z (fun H=>?_) fun H=>?_
    ·refine Rg<|Mv z<|Mv z<|To (O.b1 (E:=VI .i64) C9 M9 z z z z z fun aV s=>bE H fun D G H=>To (O.apX C9 C9 M9 z z z (j:=1) z (Src.row (j:=0) z) (O4.of z) (A7.ones VI.plain s) r.u s G z fun ae aW aX=>have af:A7 (VI .i64) ab (a ++ [[qi b]]) D:=A7.ap r.u s G; G5 1 z<|T.drop<|Ag z<|Ni<|Bn<|Th<|Rg<|bE H fun ai aj H=>Vv (V.J2 z z aj)<|Mv z<|Nt<|T.ag (W,ai,D,ae,(a ++ [[qi b]])) ⟨(F4 H B),af⟩))
    exact dead H
   exact dead H
  refine T.exit<|Te<|Te<|have H:=D9 H B; Be<|Th<|T.mt (c,d,a) ⟨H,r⟩
 rintro ⟨i,m,n⟩ aY aZ ⟨ak,am⟩
 have H:=J8 ak P
 refine T.norm [3] z<|T.fl ?_
 refine Sr<|Mv z<|Ag z<|Nt<|T.ret ?_
 cases H
 exact T.rl z (Rv z) ⟨_,z,am⟩
theorem B8R {h n p1 o p q} (t:M3 h n p1) (w:G6 (VI .i64) 1 h o p) (H:B7e p1 p = some q):∀ L,G8 prog 27 [.agg n.toArray,o] h (L) (fun v h' L'=>∃ a,L' = D5 3 1 v a::L∧A7 (VI .i64) h' a q):=by
 intro L
 obtain ⟨x,y,A,B,C,rfl,D,E,G,I,J⟩:=t
 refine G8.enter func27 z z z<|Sr<|To (O.Y0 z z z fun ay aA aB K=>Ag z<|Nt<|Sr<|Vv (V.ldS z K (by exact G9)) ?_)
 refine Mv z<|bE H fun ⟨aC,aD⟩ M H=>To (O.D8 z (A2b ⟨x,y,A,B,C,z,D.u,E.u,G.u,I.u,J.u⟩ w.u M _) z fun aE aG aI aJ N=>?_)
 obtain ⟨aK,P,r,S,k,s,i,m,f,j,d,g,b,e,rfl,U,W,X,Y,Z,aa,ab,ac⟩:=N
 refine J9 _ U<|Mv z<|Vv (V.ext z z)<|Vv (V.ext z z)<|Ag z<|Ag z<|Nt<|Sq<|Sr<|Mv z<|Vv (V.ne z z)<|Nt<|T.cH H z dead fun H=>Ks<|Sr<|Mv z<|bE H fun c ad H=>To (O.D8 z (G8.A3u (R:=fun v h' L'=>∃ L1_,L' = D5 54 7 r S::L1_∧(∃ L2_,L1_ = D5 39 9 k s::L2_∧(∃ L3_,L2_ = D5 106 3 i m::L3_∧(∃ L4_,L3_ = D5 3 1 f j::L4_∧(∃ L5_,L4_ = D5 42 6 d g::L5_∧(∃ L6_,L5_ = D5 3 1 b e::L6_∧(∃ (a:List (List Value)),L6_ = D5 3 1 v a::L∧A7 (VI .i64) h' a c))))))) func72 z (fun _ _ _ _ ⟨a5_,b5_,⟨a4_,b4_,⟨a3_,b3_,⟨a2_,b2_,⟨a1_,b1_,⟨a0_,b0_,⟨e_0,l_,f_0⟩⟩⟩⟩⟩⟩⟩=>⟨a5_,b5_,⟨a4_,b4_,⟨a3_,b3_,⟨a2_,b2_,⟨a1_,b1_,⟨a0_,b0_,⟨e_0,l_,(A7.free VI.free f_0)⟩⟩⟩⟩⟩⟩⟩) B2G fun aM aN ae=>G8.A3u (R:=fun v h' L'=>∃ L1_,L' = D5 39 9 k s::L1_∧(∃ L2_,L1_ = D5 106 3 i m::L2_∧(∃ L3_,L2_ = D5 3 1 f j::L3_∧(∃ L4_,L3_ = D5 42 6 d g::L4_∧(∃ L5_,L4_ = D5 3 1 b e::L5_∧(∃ (a:List (List Value)),L5_ = D5 3 1 v a::L∧A7 (VI .i64) h' a c)))))) func72 z (fun _ _ _ _ ⟨a4_,b4_,⟨a3_,b3_,⟨a2_,b2_,⟨a1_,b1_,⟨a0_,b0_,⟨e_0,l_,f_0⟩⟩⟩⟩⟩⟩=>⟨a4_,b4_,⟨a3_,b3_,⟨a2_,b2_,⟨a1_,b1_,⟨a0_,b0_,⟨e_0,l_,(A7.free VI.free f_0)⟩⟩⟩⟩⟩⟩) V8 fun aO aP af=>G8.A3u (R:=fun v h' L'=>∃ L1_,L' = D5 106 3 i m::L1_∧(∃ L2_,L1_ = D5 3 1 f j::L2_∧(∃ L3_,L2_ = D5 42 6 d g::L3_∧(∃ L4_,L3_ = D5 3 1 b e::L4_∧(∃ (a:List (List Value)),L4_ = D5 3 1 v a::L∧A7 (VI .i64) h' a c))))) func72 z (fun _ _ _ _ ⟨a3_,b3_,⟨a2_,b2_,⟨a1_,b1_,⟨a0_,b0_,⟨e_0,l_,f_0⟩⟩⟩⟩⟩=>⟨a3_,b3_,⟨a2_,b2_,⟨a1_,b1_,⟨a0_,b0_,⟨e_0,l_,(A7.free VI.free f_0)⟩⟩⟩⟩⟩) V8 fun aS aU ag=>G8.A3u (R:=fun v h' L'=>∃ L1_,L' = D5 3 1 f j::L1_∧(∃ L2_,L1_ = D5 42 6 d g::L2_∧(∃ L3_,L2_ = D5 3 1 b e::L3_∧(∃ (a:List (List Value)),L3_ = D5 3 1 v a::L∧A7 (VI .i64) h' a c)))) func72 z (fun _ _ _ _ ⟨a2_,b2_,⟨a1_,b1_,⟨a0_,b0_,⟨e_0,l_,f_0⟩⟩⟩⟩=>⟨a2_,b2_,⟨a1_,b1_,⟨a0_,b0_,⟨e_0,l_,(A7.free VI.free f_0)⟩⟩⟩⟩) V8 fun aV aW ai=>G8.A3u (R:=fun v h' L'=>∃ L1_,L' = D5 42 6 d g::L1_∧(∃ L2_,L1_ = D5 3 1 b e::L2_∧(∃ (a:List (List Value)),L2_ = D5 3 1 v a::L∧A7 (VI .i64) h' a c))) func72 z (fun _ _ _ _ ⟨a1_,b1_,⟨a0_,b0_,⟨e_0,l_,f_0⟩⟩⟩=>⟨a1_,b1_,⟨a0_,b0_,⟨e_0,l_,(A7.free VI.free f_0)⟩⟩⟩) V8 fun aX aY aj=>G8.A3u (R:=fun v h' L'=>∃ L1_,L' = D5 3 1 b e::L1_∧(∃ (a:List (List Value)),L1_ = D5 3 1 v a::L∧A7 (VI .i64) h' a c)) func72 z (fun _ _ _ _ ⟨a0_,b0_,⟨e_0,l_,f_0⟩⟩=>⟨a0_,b0_,⟨e_0,l_,(A7.free VI.free f_0)⟩⟩) V8 fun aZ a0 ak=>G8.A3u (R:=fun v h' L'=>∃ (a:List (List Value)),L' = D5 3 1 v a::L∧A7 (VI .i64) h' a c) func72 z (fun _ _ _ _ ⟨e_0,l_,f_0⟩=>⟨e_0,l_,(A7.free VI.free f_0)⟩) V8 fun a1 a2 am=>?_) z fun a3 a4 a5 a6 an=>?_)
 ·have ao:=A7.Z4 af X.u
  have ap:=A7.Z4 ag Y.u
  have aq:=A7.Z4 ai Z.u
  have ar:=A7.Z4 aj aa.u
  have au:=A7.Z4 ak ab.u
  have aw:=A7.Z4 am ac.u
  exact B3D (Pt.mk ae.u ⟨P,r,k,i,f,d,b,z,W.u,ao.u,ap.u,aq.u,ar.u,au.u,aw⟩) ad _
 obtain ⟨_,rfl,⟨_,rfl,⟨_,rfl,⟨_,rfl,⟨_,rfl,⟨_,rfl,⟨_,rfl,⟨a7,rfl,ax⟩⟩⟩⟩⟩⟩⟩⟩:=an
 refine T.fl ?_
 refine Ag z<|Nt<|T.ret<|T.drop<|T.drop<|T.drop<|T.drop<|T.drop<|T.drop<|T.drop ?_
 cases H
 exact T.rl z (Rv z) ⟨_,z,ax⟩
theorem B7A {h c d e a f v2_1 css2_2 q_2} (k:G6 (VI .i64) 1 h d e) (hR2_3:A7 (VI .i64) h css2_2 f) (H:A9S c e f = some q_2):∀ L,G8 prog 136 [.int .i64 c,d,.pointer (some ⟨a,0,none⟩)] h (blk a (.cells [v2_1].toArray 27)::D5 3 1 v2_1 css2_2::L) (fun v h' L'=>∃ vl0_1 cssl0_2,v = .tuple #[]∧L' = blk a (.cells [vl0_1].toArray 27)::D5 3 1 vl0_1 cssl0_2::L∧A7 (VI .i64) h' cssl0_2 q_2):=by
 intro L
 refine G8.enter func136 z z z<|Rg<|Vv (V.A8c E5 z (j:=0) z z)<|Mv z ?_
 obtain ⟨m,g,b⟩:=G6.row k
 refine bE H fun n i H=>To (O.apX C9 C9 M9 z z z (j:=1) z (Src.fix g) g.wide (A7.ones VI.plain b) hR2_3 b i z fun o s t=>have p:A7 (VI .i64) h (css2_2 ++ m) n:=A7.ap hR2_3 b i; T.J7 0 z fun q r=>To (O.stF (vs:=[o]) E5 z z (j:=1) z r (by (simp only [Sl.ones,q,Bool.and_true,Bool.true_and]) <;> rfl) z ?_))
 refine Ni ?_
 cases H
 exact T.B2y results136 Lr ⟨_,_,z,z,p⟩
theorem B9R {h g i m n o p} (w:Pt P5 h g i) (x:G6 (VI .i64) 1 h m n) (H:B8v i n o = some p):∀ L,G8 prog 73 [g,m,.int .i64 o] h (L) (fun v h' L'=>∃ q,L' = D5 3 1 v q::L∧A7 (VI .i64) h' q p):=by
 intro L
 refine G8.enter func73 z z z<|Sr<|Ag z<|Nt<|Sr<|Mv z<|Mv z<|bE H fun a5 y H=>To (O.D8 z (A7g w x y _) z fun a6 e a7 a8 A=>?_)
 obtain ⟨B,C⟩:=A
 refine J9 _ B<|Ag z<|Nt<|Sq<|Sr<|Mv z<|have D:=C; ?_
 obtain ⟨a9,_,rfl,c,⟨ah,E,G,rfl,I,J,K⟩⟩:=D
 refine Vv (V.C7H underlying209 z)<|Mv z<|Mv z<|Vv (V.lt z z)<|Vv (V.R9 z z)<|Mv z<|T.bH 18 H z dead fun H=>Mv z<|Mv z<|Vv (V.S9 z)<|Vv (V.fa R5 z)<|Vv (V.I9 (k:=0) R3 z c z)<|have M:=I; ?_
 obtain ⟨N,_,rfl,d,⟨P,S,U,W,X,Y,Z,aa,ab,ac,ad,ae,af,ag,rfl,ai,aj,ak,am,b,r,an,ao,ap,aq,ar,au,aw,ax⟩⟩:=M
 refine Vv (V.S9 z)<|Vv (V.fa Y1 z)<|Vv (V.fa A1m z)<|Vv (V.I9 (k:=4) O7 z d z)<|Vv (V.P9 Q5 z b)<|Vv (V.ge z z)<|Vv (V.R9 z z)<|Nt<|T.cH H z dead fun H=>Ks<|Sr<|To (O.alloc A3z z z fun f=>Nt<|Sq<|T.O1 (t:=(.vs [0,1,2,3,4,5,6,7,8,9,10,11,12,13,14,15,16,17,18,19,20,21,22,23,24,25,26,27,28,29,30,31,32,33] (.alt 34 .done .no))) 34 1 0 z z I4 (by kernel_rfl) ?_)
 refine Tm z z<|Tv z (V.S9 z)<|Tv z (V.fa R5 z)<|Tv z (V.I9 (k:=0) R3 z c z)<|Tv z (V.S9 z)<|Tv z (V.fa B0i z)<|Tv z (V.I9 (k:=5) B2q z d z)<|Tm z z<|Tv z (V.S9 z)<|Tv z (V.fa R5 z)<|Tv z (V.I9 (k:=0) R3 z c z)<|Tv z (V.S9 z)<|Tv z (V.fa Y1 z)<|Tv z (V.fa A1m z)<|Tv z (V.I9 (k:=4) O7 z d z)<|Tm z z<|bE H fun al s H=>?_
 obtain ⟨av,ay,rfl⟩:=G6.at b s
 refine Tv z (V.ix Q5 z z b (G7 s))<|Tv z (V.fa A0o z)<|Tv z (V.I9 (k:=0) A1f z ay z)<|bE H fun ⟨az,ba⟩ aA H=>?_
 obtain ⟨_,aB,rfl⟩:=Mp.look (zc:=[.string qe,.int .u8 0,.bool false,.int .u8 0,.bool false,qi 0,.bool false,(fnV (0:Nat))]) (agg:=true) underlying142 (A0M.int underlying40) B3q (show K6 e [.string qe,.int .u8 0,.bool false,.int .u8 0,.bool false,qi 0,.bool false,(fnV (0:Nat))] (I5.mk qe (0:Int) false (0:Int) false (0:Int) false (0:Nat)) from rfl) r aA
 refine Tv z (V.D0x z z aB)<|Tv z (V.fld B5o B8u z z)<|Tm z z<|Tm z z<|Tv z (V.S9 z)<|Tv z (V.fa R5 z)<|Tv z (V.I9 (k:=0) R3 z c z)<|Tv z (V.S9 z)<|Tv z (V.fa Y1 z)<|Tv z (V.fa A1m z)<|Tv z (V.I9 (k:=4) O7 z d z)<|Tm z z<|bE H fun a u H=>?_
 obtain ⟨bb,aC,rfl⟩:=G6.at b u
 refine Tv z (V.ix Q5 z z b (G7 u))<|Tv z (V.ldS z aC (by exact K7)) ?_
 refine Tv z (V.mkf z z)<|T.U9 3 1<|have aD:A7 (VI .i64) e [] ([]:List Int):=A7.nil; G5 1 z<|bE H fun bc aE H=>?_
 obtain ⟨bd,be,bf,aG,aI⟩:=B2F (Pt.mk c ⟨(.pointer (some N)),E,G,rfl,(Pt.mk d ⟨P,S,U,W,X,Y,Z,aa,ab,ac,ad,ae,af,ag,rfl,ai,aj,ak,am,b,r,an,ao,ap,aq,ar,au,aw,ax⟩),J,K⟩) (show H5 e [.int .u8 a.H8,qi a.Q3,.string a.fA,.string a.fB,.string a.R6,qi a.fN] a from rfl) (show A1R (fun x_ h_ La_=>∃ v_ c_,La_ = [blk f (.cells [v_].toArray 27),D5 3 1 v_ c_]∧A7 (VI .i64) h_ c_ x_) e (.func (.func 136) #[] #[qp f]) (fun s_ aJ aK=>A9S aJ aK s_) from ⟨⟨rfl,rfl⟩,fun _ _ _ _ l_ ⟨v_,c_,e_,f_⟩=>⟨v_,c_,e_,A7.mono VI.mono f_ l_⟩,fun bg bi=>fun aM=>fun aN aO aP aS=>by obtain ⟨v_,c_,rfl,f_⟩:=aN; exact Yld.two (us:=[]) (cs:=[qp f]) (B7A aM f_ aO) (fun _ _ _ _ ⟨v_,c_,e_,k_,f_⟩=>⟨e_,_,_,k_,v_,c_,rfl,f_⟩) aP aS⟩) ⟨_,_,rfl,aD⟩ aE
 refine Tp z z (SX.two (XA.fr [] Lr z) (XA.fr [0] Lr z)) (O.A1d z aG z (aI ([]:List E9) _) z fun bj bk bm bn aU=>?_) T.O9
 obtain ⟨bo,rfl,aV,⟨bp,bq,rfl,aW⟩⟩:=aU
 refine J9 _ aV<|T.R7 (SX.one (XA.fr [] Li z) z)<|Th<|Sq<|T.norm [8] z<|T.fl ?_
 refine Rg<|Vv (V.A8c E5 z (j:=0) z z)<|G5 1 z<|bE H fun br aX H=>To (O.D8 z (B4T aW aX _) z fun bs bt bu bw aY=>?_)
 obtain ⟨bx,rfl,aZ,a0⟩:=aY
 refine J9 _ aZ<|Nt<|Sr<|Vv (V.A8c E5 z (j:=1) z z)<|bE H fun bA a1 H=>To (O.D8 z (B0Y a0 a1 _) z fun bB bC bD bG a2=>?_)
 obtain ⟨bI,a3,a4⟩:=a2
 refine J9 _ a3<|Ag z<|Nt<|T.ret<|G5 1 z<|T.drop ?_
 cases H
 exact T.rl z (Rv z) ⟨_,z,a4⟩
theorem B4A {h a b c d e} (f:AtC h b c) (g:(VSl (VI .i64) 1) h c d) (H:A6x a d = some e):∀ L,G8 prog 75 [.int .i64 a,.pointer (some b)] h (L) (fun v h' L'=>v = .bool e∧L' = L):=by
 intro L
 obtain ⟨n,rfl,i⟩:=g
 refine G8.enter func75 z z z<|Sr<|Ag z<|Nt<|Sr<|Vv (V.ld0 E5 z f z)<|Mv z<|bE H fun o j H=>To (O.D8 z (A1t i j _) z fun p q r s k=>?_)
 obtain ⟨rfl,m⟩:=k
 exact J9 _ m<|Ag z<|Nt<|T.ret<|E1 H
theorem B6F {h P p1 S U W} (an:M3 h P p1) (ao:G6 (VI .i64) 1 h S U) (H:B3l p1 U = some W):∀ L,G8 prog 26 [.agg P.toArray,S] h (L) (fun v h' L'=>v = .int .i64 W∧L' = L):=by
 intro L
 obtain ⟨aq,ar,au,aw,ax,rfl,ay,aA,aB,aC,aD⟩:=an
 refine G8.enter func26 z z z<|Sr<|To (O.Y0 z z z fun bN bO bP aE=>Ag z<|Nt<|Sr<|Vv (V.ldS z aE (by exact G9)) ?_)
 refine Mv z<|bE H fun ⟨E,bS⟩ aG H=>To (O.D8 z (A2b ⟨aq,ar,au,aw,ax,z,ay.u,aA.u,aB.u,aC.u,aD.u⟩ ao.u aG _) z fun bU bV bW bX aI=>?_)
 obtain ⟨X,G,s,I,o,C,i,A,f,w,c,p,d,q,rfl,aJ,Y,aK,aM,aN,aO,J,Z⟩:=aI
 refine J9 _ aJ<|Mv z<|Vv (V.ext z z)<|Vv (V.ext z z)<|Ag z<|Ag z<|Nt<|Sq<|Sr<|Mv z<|Vv (V.ne z z)<|Nt<|T.cH H z dead fun H=>Ks<|Sr<|Ag z<|Nt<|Sr<|To (O.alloc A3z z z fun b=>Nt<|Sq<|Sr<|Mv z<|G5 7 z<|T.fl ?_)
 refine G5 7 z<|T.fl ?_
 refine G5 7 z<|T.fl ?_
 refine G5 7 z<|T.fl ?_
 refine G5 7 z<|T.fl ?_
 refine G5 7 z<|T.fl ?_
 refine G5 7 z<|T.fl ?_
 refine bE H fun m aP H=>To (O.D8 z (G8.A3u (R:=fun v h' L'=>∃ L1_,L' = D5 54 7 s I::L1_∧(∃ L2_,L1_ = D5 39 9 o C::L2_∧(∃ L3_,L2_ = D5 106 3 i A::L3_∧(∃ L4_,L3_ = D5 3 1 f w::L4_∧(∃ L5_,L4_ = D5 42 6 c p::L5_∧(∃ L6_,L5_ = D5 3 1 d q::L6_∧(∃ (a:List (List Value)),L6_ = D5 3 1 v a::blk b (.cells [qs].toArray 27)::L∧A7 (VI .i64) h' a m))))))) func72 z (fun _ _ _ _ ⟨a5_,b5_,⟨a4_,b4_,⟨a3_,b3_,⟨a2_,b2_,⟨a1_,b1_,⟨a0_,b0_,⟨e_0,l_,f_0⟩⟩⟩⟩⟩⟩⟩=>⟨a5_,b5_,⟨a4_,b4_,⟨a3_,b3_,⟨a2_,b2_,⟨a1_,b1_,⟨a0_,b0_,⟨e_0,l_,(A7.free VI.free f_0)⟩⟩⟩⟩⟩⟩⟩) B2G fun bY bZ aS=>G8.A3u (R:=fun v h' L'=>∃ L1_,L' = D5 39 9 o C::L1_∧(∃ L2_,L1_ = D5 106 3 i A::L2_∧(∃ L3_,L2_ = D5 3 1 f w::L3_∧(∃ L4_,L3_ = D5 42 6 c p::L4_∧(∃ L5_,L4_ = D5 3 1 d q::L5_∧(∃ (a:List (List Value)),L5_ = D5 3 1 v a::blk b (.cells [qs].toArray 27)::L∧A7 (VI .i64) h' a m)))))) func72 z (fun _ _ _ _ ⟨a4_,b4_,⟨a3_,b3_,⟨a2_,b2_,⟨a1_,b1_,⟨a0_,b0_,⟨e_0,l_,f_0⟩⟩⟩⟩⟩⟩=>⟨a4_,b4_,⟨a3_,b3_,⟨a2_,b2_,⟨a1_,b1_,⟨a0_,b0_,⟨e_0,l_,(A7.free VI.free f_0)⟩⟩⟩⟩⟩⟩) V8 fun b0 b1 aU=>G8.A3u (R:=fun v h' L'=>∃ L1_,L' = D5 106 3 i A::L1_∧(∃ L2_,L1_ = D5 3 1 f w::L2_∧(∃ L3_,L2_ = D5 42 6 c p::L3_∧(∃ L4_,L3_ = D5 3 1 d q::L4_∧(∃ (a:List (List Value)),L4_ = D5 3 1 v a::blk b (.cells [qs].toArray 27)::L∧A7 (VI .i64) h' a m))))) func72 z (fun _ _ _ _ ⟨a3_,b3_,⟨a2_,b2_,⟨a1_,b1_,⟨a0_,b0_,⟨e_0,l_,f_0⟩⟩⟩⟩⟩=>⟨a3_,b3_,⟨a2_,b2_,⟨a1_,b1_,⟨a0_,b0_,⟨e_0,l_,(A7.free VI.free f_0)⟩⟩⟩⟩⟩) V8 fun b2 b3 aV=>G8.A3u (R:=fun v h' L'=>∃ L1_,L' = D5 3 1 f w::L1_∧(∃ L2_,L1_ = D5 42 6 c p::L2_∧(∃ L3_,L2_ = D5 3 1 d q::L3_∧(∃ (a:List (List Value)),L3_ = D5 3 1 v a::blk b (.cells [qs].toArray 27)::L∧A7 (VI .i64) h' a m)))) func72 z (fun _ _ _ _ ⟨a2_,b2_,⟨a1_,b1_,⟨a0_,b0_,⟨e_0,l_,f_0⟩⟩⟩⟩=>⟨a2_,b2_,⟨a1_,b1_,⟨a0_,b0_,⟨e_0,l_,(A7.free VI.free f_0)⟩⟩⟩⟩) V8 fun b4 b5 aW=>G8.A3u (R:=fun v h' L'=>∃ L1_,L' = D5 42 6 c p::L1_∧(∃ L2_,L1_ = D5 3 1 d q::L2_∧(∃ (a:List (List Value)),L2_ = D5 3 1 v a::blk b (.cells [qs].toArray 27)::L∧A7 (VI .i64) h' a m))) func72 z (fun _ _ _ _ ⟨a1_,b1_,⟨a0_,b0_,⟨e_0,l_,f_0⟩⟩⟩=>⟨a1_,b1_,⟨a0_,b0_,⟨e_0,l_,(A7.free VI.free f_0)⟩⟩⟩) V8 fun b6 b7 aX=>G8.A3u (R:=fun v h' L'=>∃ L1_,L' = D5 3 1 d q::L1_∧(∃ (a:List (List Value)),L1_ = D5 3 1 v a::blk b (.cells [qs].toArray 27)::L∧A7 (VI .i64) h' a m)) func72 z (fun _ _ _ _ ⟨a0_,b0_,⟨e_0,l_,f_0⟩⟩=>⟨a0_,b0_,⟨e_0,l_,(A7.free VI.free f_0)⟩⟩) V8 fun b8 b9 aY=>G8.A3u (R:=fun v h' L'=>∃ (a:List (List Value)),L' = D5 3 1 v a::blk b (.cells [qs].toArray 27)::L∧A7 (VI .i64) h' a m) func72 z (fun _ _ _ _ ⟨e_0,l_,f_0⟩=>⟨e_0,l_,(A7.free VI.free f_0)⟩) V8 fun bh bl aZ=>?_) z fun aa a0 bv bz a1=>?_)
 ·have a2:=A7.Z4 aU aK.u
  have a3:=A7.Z4 aV aM.u
  have a4:=A7.Z4 aW aN.u
  have a5:=A7.Z4 aX aO.u
  have a6:=A7.Z4 aY J.u
  have a7:=A7.Z4 aZ Z.u
  exact B3D (Pt.mk aS.u ⟨G,s,o,i,f,c,d,z,Y.u,a2.u,a3.u,a4.u,a5.u,a6.u,a7⟩) aP _
 obtain ⟨_,rfl,⟨_,rfl,⟨_,rfl,⟨_,rfl,⟨_,rfl,⟨_,rfl,⟨_,rfl,⟨ab,rfl,K⟩⟩⟩⟩⟩⟩⟩⟩:=a1
 refine T.fl ?_
 refine Vv (V.A2a C9 z (j:=7) z K.len)<|Mv z<|Nt ?_
 obtain ⟨ac,a8,a9⟩:=M5 H
 refine T.M7 (α:=Int) [] z (fun B=>[(7,qi B)]) (fun B=>L) (fun B hh=>ac = B) ?_ ?_
 ·have H:=a8
  refine Bl<|T.U9 3 1<|have ah:A7 (VI .i64) a0 [] ([]:List Int):=A7.nil; G5 9 z<|T.fl ?_
  refine G5 9 z<|T.fl ?_
  refine G5 9 z<|T.fl ?_
  refine G5 9 z<|T.fl ?_
  refine G5 9 z<|T.fl ?_
  refine G5 9 z<|T.fl ?_
  refine G5 9 z<|T.fl ?_
  refine G5 9 z<|T.fl ?_
  refine G5 9 z<|T.fl ?_
  refine T.M8 (α:=Nat×(List Int)×Int×Int×Value×(List (List Value))) [5,8,21,22] z (fun ⟨x,n,y,r,e,g⟩=>[(23,qi y),(7,qi r)]) (fun ⟨x,n,y,r,e,g⟩=>blk X (.cells [G,s,o,i,f,c,d,qi E.A0j].toArray 82)::D5 54 7 s I::D5 39 9 o C::D5 106 3 i A::D5 3 1 f w::D5 42 6 c p::D5 3 1 d q::D5 3 1 aa ab::blk b (.cells [e].toArray 27)::D5 3 1 e g::L) (fun ⟨x,n,y,r,e,g⟩ hh=>iter (A9p E m) x (n,y,r) = some ac∧A7 (VI .i64) hh g n) (fun ⟨x,n,y,r,e,g⟩=>x) (FUEL,([]:List Int),(0:Int),(0:Int),(qs),[]) ⟨z,z,trivial⟩ z ⟨H,ah⟩ ?_
  rintro ⟨x,n,y,r,e,g⟩ ca cb ⟨al,M⟩
  obtain ⟨av,cc,rfl,H,ad⟩:=I1 al
  refine T.norm [23,7,5,8,21,22] z<|T.fl ?_
  refine Sr<|Vv (V.lt z z)<|Nt<|Sq<|T.cH H z (fun H=>?_) fun H=>?_
  ·refine Ks<|Sq<|Bl<|Sr<|bE H fun cd ae H=>?_
   obtain ⟨ce,az,rfl⟩:=A7.get K ae
   refine Vv (V.ixR C9 z z (j:=7) z (A7.bd K ae))<|Vv (V.ldR E8 z (j:=7) z az z)<|Ag z<|Nt<|Sq<|Sr<|Mv z<|Vv (V.S9 z)<|Vv (V.fa L8 z)<|Vv (V.fa P6 z)<|Vv (V.ldO (k:=5) O7 z (j:=0) z z)<|Mv z<|bE H fun cf af H=>?_
   obtain ⟨cg,ba,rfl⟩:=A7.get J af
   refine Vv (V.ixR Q5 z z (j:=5) z (A7.bd J af))<|Vv (V.fa A0o z)<|Vv (V.C8X (k:=0) A1f z (j:=5) z ba z)<|Nt<|Bl<|Sq<|Sr<|Vv (V.eq z z)<|Ag z<|Nt<|T.cH H z dead fun H=>Sr<|Vv (V.eq z z)<|Ag z<|Nt<|T.cH H z dead fun H=>Rg<|Vv (V.eq z z)<|Ag z<|Nt<|T.cH H z dead fun H=>T.skip<|Bn<|Th<|Sq<|G5 6 z<|T.fl ?_
   refine G5 1 z<|T.fl ?_
   refine T.O1 (t:=(.vs [0,1,2,3,4,5,6,7,8] (.alt 9 (.alt 10 .done .no) .no))) 12 2 2 z z I4 (by kernel_rfl) ?_
   refine Tm z z<|Tv z (V.S9 z)<|Tv z (V.fa A2Y z)<|Tv z (Val.XA fun _ _ _=>V.ldO (k:=0) R3 z (j:=0) z z)<|Tm z z<|Tv z (V.S9 z)<|Tv z (V.fa Y8 z)<|Tv z (Val.XA fun _ _ _=>V.ldO (k:=6) E5 z (j:=0) z z)<|Tm z z<|G5 1 z<|T.fl ?_
   refine bE H fun bb bc H=>Tp z z (SX.two (XA.fr [0,1] Lr z) (XA.fr [0,1] Lr z)) (O.D8 z (G8.A3u (R:=fun v h' L'=>∃ (a:List (List Value)),L' = D5 3 1 v a::blk X (.cells [G,s,o,i,f,c,d,qi E.A0j].toArray 82)::D5 54 7 s I::D5 39 9 o C::D5 106 3 i A::D5 3 1 f w::D5 42 6 c p::D5 3 1 aa ab::blk b (.cells [e].toArray 27)::D5 3 1 e g::L∧A7 (VI .i64) h' a bb) func73 z (fun _ _ _ _ ⟨e_0,l_,f_0⟩=>⟨e_0,l_,(A7.free VI.free f_0)⟩) V8 fun ci cj be=>?_) z fun ck cm cn co bf=>?_) T.O9
   ·have bg:=A7.Z4 be Z.u
    exact B9R Y.u bg bc _
   obtain ⟨_,rfl,⟨ai,rfl,D⟩⟩:=bf
   refine T.fl ?_
   refine Ts z z (SX.two (XA.fr [0,2] Li z) (XA.fr [0,2] Li z)) (V.asg z) z ?_ T.O9
   refine T.R7 (SX.two (XA.fr [0,2] Li z) (XA.fr [0,2] Li z))<|Th<|Sr<|Mv z<|Vv (V.mkf z z)<|G5 10 z<|T.fl ?_
   refine G5 10 z<|T.fl ?_
   refine G5 3 z<|T.fl ?_
   refine bE H fun N bi H=>To (O.D8 z (G8.A0W (val:=.bool N) func74 z V8 fun cp cq bj=>G8.A0W (val:=.bool N) func74 z B2G fun cr cs bk=>G8.A0W (val:=.bool N) func74 z V8 fun bm ct bn=>?_) z fun cu bo cw cx bp=>?_)
   ·have bq:=A7.Z4 bj D.u
    have br:=A7.Z4 bn M.u
    exact A3I bq.u (show A2q bm (.func (.func 75) #[] #[qp b]) (fun bs=>A6x bs n) from ⟨⟨z,z⟩,.inr ⟨75,[],[qp b],z,fun bt cy cA cB bu bw=>B4A bk.u (show (VSl (VI .i64) 1) bt [e] n from ⟨e,z,br.u⟩) bu bw⟩⟩) bi _
   obtain ⟨rfl,bx⟩:=bp
   refine J9 _ bx<|Vv (V.not z)<|Nt<|T.cH H z (fun H=>?_) fun H=>?_
   ·refine Sq<|T.norm [5,7,8,11,21,22,23] z<|T.fl ?_
    refine Rg<|Vv (V.A8c E5 z (j:=1) z z)<|Mv z<|T.wide 0 z fun bA=>bE H fun aj ak H=>To (O.apX C9 C9 M9 z z z (j:=2) z (Src.row (j:=0) z) bA (A7.ones VI.plain D) M.u D.u ak z fun am cC cD=>have bB:A7 (VI .i64) bo (g ++ ai) aj:=A7.ap M.u D.u ak; T.fl ?_)
    refine T.J7 0 z fun bC bD=>To (O.stF (vs:=[am]) E5 z z (j:=2) z bD (by (simp only [Sl.ones,bC,Bool.and_true,Bool.true_and]) <;> rfl) z ?_)
    refine T.fl ?_
    refine Nt<|Rg<|Mv z<|bE H fun bG bI H=>Vv (V.J2 z z bI)<|Ag z<|Ni<|Bn<|Th<|Rg<|bE H fun bJ bK H=>Vv (V.J2 z z bK)<|Mv z<|Nt<|G5 2 z<|T.fl ?_
    refine T.drop<|G5 1 z<|T.fl ?_
    refine G5 1 z<|T.fl ?_
    refine G5 9 z<|T.fl ?_
    refine G5 3 z<|T.fl ?_
    refine G5 9 z<|T.fl ?_
    refine G5 9 z<|T.fl ?_
    refine G5 9 z<|T.fl ?_
    refine G5 9 z<|T.fl ?_
    refine G5 9 z<|T.fl ?_
    refine G5 9 z<|T.fl ?_
    exact T.ag (av,aj,bJ,bG,am,(g ++ ai)) ⟨(F4 H ad),bB⟩
   exact dead H
  refine T.exit<|Te<|Te<|have H:=D9 H ad; Be<|Th<|T.drop<|T.drop<|T.drop<|T.drop<|T.drop<|T.drop<|T.drop<|T.drop<|T.drop<|T.drop<|T.mt r H
 rintro B cE cG bM
 have H:=J8 bM a9
 refine T.norm [7] z<|T.fl ?_
 exact Sr<|Mv z<|Ag z<|Nt<|T.ret<|E1 H
theorem B3C {h aa} (H:A7s  = some aa):∀ L,G8 prog 7 [] h (L) (fun v h' L'=>v = .bool aa∧L' = L):=by
 intro L
 refine G8.enter func7 z z z<|Sr<|Ag z<|Nt<|Sr<|To (O.bs C9 M9 z (e:=z) (hk:=z) (xs:=[.const (qi (0)),.const (qi (1)),.const (qi (2))]) (hv:=CO.eq (CO.cons z (CO.cons z (CO.cons z CO.nil)))) (hw:=O4.of z) (hd:=z) fun ep=>have aD:A7 (VI .i64) h [[qi 0],[qi 1],[qi 2]] ([(0:Int),(1:Int),(2:Int)]:List Int):=(A7.cons z (A7.cons z (A7.cons z A7.nil))); Ag z<|Nt<|Sr<|bE H fun er aE H=>To (O.D8 z (A6Q G6.nil aE _) z fun es et eu ew aG=>?_))
 obtain ⟨aI,aJ,aK,aM,aN,rfl,aO,aP,aS,aU,aV,aW⟩:=aG
 refine J9 _ aO<|Mv z<|Vv (V.bld (xs:=[(0,.const (.int .u8 (3))),(2,.const (.string ⟨#[97,110,110,97]⟩)),(3,.const (.string ⟨#[98,111,114,105,115]⟩))]) (cs:=[_,_,_,_,_,_,_,_,_,_,_,_,_,_,_,_,_,_,_,_]) A8b A8i z (F3.cons z z z (F3.cons z z z (F3.cons z z z F3.nil))))<|T.J5 fun ex ey aX=>have r:=A7.Z4 aX aD.u; bE H fun ⟨eA,eB,eC⟩ aY H=>To (O.D8 z (A5h ⟨aI,aJ,aK,aM,aN,z,aP.u,aS.u,aU.u,aV.u,aW.u⟩ r ⟨(qs),z,G6.nil⟩ aY _) z fun eD eE eG eI aZ=>?_)
 obtain ⟨d,f,g,i,m,eJ,eK,rfl,a0,n,o,a,p,b,a1⟩:=aZ
 refine J9 _ a0<|Mv z<|Vv (V.ext z z)<|Vv (V.ext z z)<|Vv (V.ext z z)<|To (O.alloc A0p z z fun eM=>To (O.stF (vs:=[d,f,g,i,m]) G9 z z (j:=0) z z (by (simp only [Sl.ones,G6.one n,G6.one o,G6.one a,G6.one p,G6.one b,Bool.and_true,Bool.true_and]) <;> rfl) z ?_))
 refine T.freeze fun eN eO a2=>have c:=AtC.of a2; Ag z<|Ag z<|Nt<|Sq<|Sr<|Mv z<|Vv (V.ne z z)<|Mv z<|T.bH 30 H z dead fun H=>Mv z<|Mv z<|T.J5 fun eP eS a3=>have q:=A7.Z4 a3 a1.u; bE H fun eU a4 H=>To (O.D8 z (A0z q r.u a4 _) z fun eV a5 eW eX a6=>?_)
 obtain ⟨rfl,a7⟩:=a6
 refine J9 _ a7<|Vv (V.not z)<|Vv (V.R9 z z)<|Mv z<|T.bH 36 H z dead fun H=>Vv (V.fa P6 z)<|Vv (V.I9 (k:=4) O7 z c.u z)<|Vv (V.bld (xs:=[(0,.const (.int .u8 (1))),(2,.const (.string ⟨#[97,110,110,97]⟩)),(3,.const (.string ⟨#[98,111,114,105,115]⟩)),(5,.const (qi (2)))]) (cs:=[_,_,_,_,_,_]) A7k A7A z (F3.cons z z z (F3.cons z z z (F3.cons z z z (F3.cons z z z F3.nil)))))<|To (O.bs Q5 A1x z (e:=z) (hk:=z) (xs:=[.tmp 39]) (hv:=CO.eq (CO.cons z CO.nil)) (hw:=O4.of z) (hd:=z) fun eY=>have a8:A7 H5 a5 [[.int .u8 1,qi 0,.string (⟨#[97,110,110,97]⟩:ByteArray),.string (⟨#[98,111,114,105,115]⟩:ByteArray),.string qe,qi 2]] ([(F6.mk (1:Int) (0:Int) (⟨#[97,110,110,97]⟩:ByteArray) (⟨#[98,111,114,105,115]⟩:ByteArray) qe (2:Int))]:List F6):=(A7.cons z A7.nil); T.J5 fun eZ e0 a9=>have ah:=A7.Z4 a9 a8.u; bE H fun e1 al H=>To (O.D8 z (B0v b.u ah al _) z fun e2 e3 e4 e5 av=>?_))
 obtain ⟨rfl,az⟩:=av
 refine J9 _ az<|Vv (V.not z)<|Vv (V.R9 z z)<|Mv z<|T.bH 44 H z dead fun H=>Vv (V.fa Y5 z)<|Vv (V.I9 (k:=2) Q4 z c.u z)<|Vv (V.P9 X3 z a)<|Vv (V.ne z z)<|Vv (V.R9 z z)<|Nt<|T.cH H z dead fun H=>Ks<|Sq<|T.norm [1,2,3] z<|Rg<|Vv (V.ldS z c.u (by exact G9)) ?_
 refine Mv z<|bE H fun ⟨ab,e6⟩ ba H=>To (O.D8 z (A6H ⟨d,f,g,i,m,z,n.u,o.u,a.u,p.u,b.u⟩ q.u ba _) z fun e7 e8 e9 eh bb=>?_)
 obtain ⟨bc,bd,be,bf,bg,bi,rfl,bj,bk,bm,bn,bo,bp,ac⟩:=bb
 refine J9 _ bj<|Mv z<|Vv (V.ext z z)<|Vv (V.ext z z)<|To (O.alloc A3l z z fun el=>To (O.stF (vs:=[bc,bd,be,bf,bg,bi,qi ab.A6A,qi ab.A1N]) A0y z z (j:=0) z z (by (simp only [Sl.ones,G6.one bk,G6.one bm,G6.one bn,G6.one bo,G6.one bp,G6.one ac,Bool.and_true,Bool.true_and]) <;> rfl) z ?_))
 refine T.freeze fun ev ez bq=>have ad:=AtC.of bq; Ag z<|Nt<|Sr<|Vv (V.ldS z c.u (by exact G9)) ?_
 refine Mv z<|bE H fun ⟨fb,fc⟩ br H=>To (O.D8 z (B2b ⟨d,f,g,i,m,z,n.u,o.u,a.u,p.u,b.u⟩ q.u br _) z fun fd fe ff fg bt=>?_)
 obtain ⟨fi,fj,rfl,bu,bw⟩:=bt
 refine J9 _ bu<|Mv z<|Vv (V.ext z z)<|Vv (V.ext z z)<|Ag z<|Ag z<|Nt<|Sr<|Vv (V.ldS z c.u (by exact G9)) ?_
 refine Mv z<|bE H fun ⟨fk,fm⟩ bx H=>To (O.D8 z (B2R ⟨d,f,g,i,m,z,n.u,o.u,a.u,p.u,b.u⟩ q.u bx _) z fun fn fo fp fq bA=>?_)
 obtain ⟨ae,af,ag,ai,aj,rfl,bB,ak,am,an,ao,ap⟩:=bA
 refine J9 _ bB<|Mv z<|Vv (V.ext z z)<|Vv (V.ext z z)<|To (O.alloc A0p z z fun fr=>To (O.stF (vs:=[ae,af,ag,ai,aj]) G9 z z (j:=0) z z (by (simp only [Sl.ones,G6.one ak,G6.one am,G6.one an,G6.one ao,G6.one ap,Bool.and_true,Bool.true_and]) <;> rfl) z ?_))
 refine T.freeze fun fs ft bC=>have bD:=AtC.of bC; Ag z<|Nt<|Sr<|Vv (V.ldS z bD (by exact G9)) ?_
 refine Mv z<|T.J5 fun fu fw bG=>have bI:=A7.Z4 bG bw.u; bE H fun ⟨fx,fy⟩ bJ H=>To (O.D8 z (B7x ⟨ae,af,ag,ai,aj,z,ak.u,am.u,an.u,ao.u,ap.u⟩ bI bJ _) z fun fA fB fC fD bK=>?_)
 obtain ⟨rfl,bM⟩:=bK
 refine J9 _ bM<|Mv z<|Vv (V.ext z z)<|Vv (V.ext z z)<|Ag z<|Ag z<|Nt<|Sq<|T.norm [1,2,3,4,5,7,9,10,11] z<|Rg<|Vv (V.ldS z c.u (by exact G9)) ?_
 refine Mv z<|bE H fun ⟨fE,fG⟩ bN H=>To (O.D8 z (B2b ⟨d,f,g,i,m,z,n.u,o.u,a.u,p.u,b.u⟩ q.u bN _) z fun fI bO fJ fK bP=>?_)
 obtain ⟨fM,fN,rfl,bS,fO⟩:=bP
 refine J9 _ bS<|Mv z<|Vv (V.ext z z)<|Vv (V.ext z z)<|Ag z<|Ag z<|Nt<|Sq<|Sr<|Mv z<|Mv z<|bE H fun fP bU H=>Vv (V.J2 z z bU)<|Mv z<|bE H fun fS bV H=>Vv (V.J2 z z bV)<|Mv z<|bE H fun fU bW H=>Vv (V.J2 z z bW)<|Vv (V.ne z z)<|Mv z<|T.bH 88 H z dead fun H=>Mv z<|Vv (V.ne z z)<|Vv (V.R9 z z)<|Mv z<|T.bH 92 H z dead fun H=>Mv z<|Vv (V.ne z z)<|Vv (V.R9 z z)<|Mv z<|T.bH 96 H z dead fun H=>Vv (V.fa A8A z)<|Vv (V.I9 (k:=6) E8 z ad.u z)<|Vv (V.ne z z)<|Vv (V.R9 z z)<|Mv z<|T.bH 101 H z dead fun H=>Vv (V.fa A5X z)<|Vv (V.I9 (k:=5) E5 z ad.u z)<|To (O.bs C9 M9 z (e:=z) (hk:=z) (xs:=[.const (qi (0)),.const (qi (4)),.const (qi (2))]) (hv:=CO.eq (CO.cons z (CO.cons z (CO.cons z CO.nil)))) (hw:=O4.of z) (hd:=z) fun fV=>have bX:A7 (VI .i64) bO [[qi 0],[qi 4],[qi 2]] ([(0:Int),(4:Int),(2:Int)]:List Int):=(A7.cons z (A7.cons z (A7.cons z A7.nil))); T.J5 fun fW fX bY=>have bZ:=A7.Z4 bY bX.u; bE H fun fY b0 H=>To (O.D8 z (A0z ac.u bZ b0 _) z fun fZ f0 f1 f2 b2=>?_))
 obtain ⟨rfl,b3⟩:=b2
 refine J9 _ b3<|Vv (V.not z)<|Vv (V.R9 z z)<|Mv z<|T.bH 108 H z dead fun H=>Vv (V.ldS z c.u (by exact G9)) ?_
 refine Mv z<|bE H fun f3 b4 H=>To (O.D8 z (B6F ⟨d,f,g,i,m,z,n.u,o.u,a.u,p.u,b.u⟩ q.u b4 _) z fun f4 f5 f6 f7 b5=>?_)
 obtain ⟨rfl,b6⟩:=b5
 refine J9 _ b6<|Vv (V.ne z z)<|Vv (V.R9 z z)<|Mv z<|T.bH 114 H z dead fun H=>Vv (V.ldS z c.u (by exact G9)) ?_
 refine Mv z<|bE H fun f8 b7 H=>To (O.D8 z (B8R ⟨d,f,g,i,m,z,n.u,o.u,a.u,p.u,b.u⟩ q.u b7 _) z fun f9 fh fv fz b8=>?_)
 obtain ⟨ga,b9,bh⟩:=b8
 refine J9 _ b9<|To (O.b1 (E:=VI .i64) C9 M9 z z z z z fun gb bl=>G5 1 z<|T.fl ?_)
 refine T.J5 fun gc gd bv=>have bz:=A7.Z4 bv bh.u; T.J5 fun ge gf ca=>have cb:=A7.Z4 ca bl.u; bE H fun gg cc H=>To (O.D8 z (A0z bz.u cb cc _) z fun gi gj gk gm cd=>?_)
 obtain ⟨rfl,ce⟩:=cd
 refine J9 _ ce<|Vv (V.not z)<|Vv (V.R9 z z)<|Nt<|T.cH H z dead fun H=>Ks<|Sq<|T.norm [1] z<|T.fl ?_
 refine Rg<|bE H fun gn cf H=>To (O.D8 z (A6Q G6.nil cf _) z fun go gp gq gr cg=>?_)
 obtain ⟨ci,cj,ck,cm,cn,rfl,co,cp,cq,cr,ct,cu⟩:=cg
 refine J9 _ co<|Mv z<|Vv (V.bld (xs:=[(0,.const (.string ⟨#[100,111,114,97]⟩))]) (cs:=[_,_,_,_,_,_,_,_,_]) A3d A3f z (F3.cons z z z F3.nil))<|Vv (V.bld (xs:=[(0,.const (.int .u8 (1))),(1,.tmp 125)]) (cs:=[_,_,_,_,_,_,_,_,_,_,_,_,_,_,_,_,_,_,_,_]) A8b A8i z (F3.cons z z z (F3.cons z z z F3.nil)))<|bE H fun ⟨gs,gt,gu⟩ cw H=>To (O.D8 z (A5h ⟨ci,cj,ck,cm,cn,z,cp,cq,cr,ct,cu⟩ r.u ⟨(qs),z,G6.nil⟩ cw _) z fun gw gx gy gA cx=>?_)
 obtain ⟨s,t,w,x,y,gB,gC,rfl,cy,A,B,C,D,G,cA⟩:=cx
 refine J9 _ cy<|Mv z<|Vv (V.ext z z)<|Vv (V.ext z z)<|Vv (V.ext z z)<|To (O.alloc A0p z z fun gD=>To (O.stF (vs:=[s,t,w,x,y]) G9 z z (j:=0) z z (by (simp only [Sl.ones,G6.one A,G6.one B,G6.one C,G6.one D,G6.one G,Bool.and_true,Bool.true_and]) <;> rfl) z ?_))
 refine T.fl ?_
 refine T.freeze fun gE gG cB=>have I:=AtC.of cB; Ag z<|Ag z<|Nt<|Sr<|Vv (V.ldS z I (by exact G9)) ?_
 refine Mv z<|T.J5 fun gI gJ cC=>have J:=A7.Z4 cC cA.u; bE H fun ⟨aq,gK⟩ cD H=>To (O.D8 z (A6H ⟨s,t,w,x,y,z,A.u,B.u,C.u,D.u,G.u⟩ J cD _) z fun gM gN gO gP cE=>?_)
 obtain ⟨cG,cI,cJ,cK,cM,cN,rfl,cO,cP,cS,cU,cV,cW,ar⟩:=cE
 refine J9 _ cO<|Mv z<|Vv (V.ext z z)<|Vv (V.ext z z)<|To (O.alloc A3l z z fun gS=>To (O.stF (vs:=[cG,cI,cJ,cK,cM,cN,qi aq.A6A,qi aq.A1N]) A0y z z (j:=0) z z (by (simp only [Sl.ones,G6.one cP,G6.one cS,G6.one cU,G6.one cV,G6.one cW,G6.one ar,Bool.and_true,Bool.true_and]) <;> rfl) z ?_))
 refine T.freeze fun cX gU cY=>have au:=AtC.of cY; Ag z<|Nt<|Sq<|Sr<|Mv z<|Mv z<|bE H fun gV cZ H=>Vv (V.J2 z z cZ)<|Vv (V.ne z z)<|Mv z<|T.bH 141 H z dead fun H=>Vv (V.fa A5X z)<|Vv (V.I9 (k:=5) E5 z au z)<|To (O.bs C9 M9 z (e:=z) (hk:=z) (xs:=[.const (qi (0)),.const (qi (1)),.const (qi (2)),.const (qi (3))]) (hv:=CO.eq (CO.cons z (CO.cons z (CO.cons z (CO.cons z CO.nil))))) (hw:=O4.of z) (hd:=z) fun gW=>have c0:A7 (VI .i64) cX [[qi 0],[qi 1],[qi 2],[qi 3]] ([(0:Int),(1:Int),(2:Int),(3:Int)]:List Int):=(A7.cons z (A7.cons z (A7.cons z (A7.cons z A7.nil)))); T.J5 fun gX gY c1=>have c2:=A7.Z4 c1 c0.u; bE H fun gZ c3 H=>To (O.D8 z (A0z ar.u c2 c3 _) z fun g0 g1 g2 g3 c4=>?_))
 obtain ⟨rfl,c5⟩:=c4
 refine J9 _ c5<|Vv (V.not z)<|Vv (V.R9 z z)<|Mv z<|T.bH 148 H z dead fun H=>Vv (V.fa A8A z)<|Vv (V.I9 (k:=6) E8 z au.u z)<|Vv (V.ne z z)<|Vv (V.R9 z z)<|Mv z<|T.bH 153 H z dead fun H=>Vv (V.ldS z I.u (by exact G9)) ?_
 refine Mv z<|bE H fun g4 c6 H=>To (O.D8 z (B1M ⟨s,t,w,x,y,z,A.u,B.u,C.u,D.u,G.u⟩ J.u c6 _) z fun g5 g6 g7 g8 c7=>?_)
 obtain ⟨rfl,c8⟩:=c7
 refine J9 _ c8<|Vv (V.ne z z)<|Vv (V.R9 z z)<|Mv z<|T.bH 159 H z dead fun H=>Vv (V.ldS z I.u (by exact G9)) ?_
 refine Mv z<|bE H fun g9 c9 H=>To (O.D8 z (B1M ⟨s,t,w,x,y,z,A.u,B.u,C.u,D.u,G.u⟩ J.u c9 _) z fun gh ch gl gv cl=>?_)
 obtain ⟨rfl,cv⟩:=cl
 refine J9 _ cv<|Vv (V.ne z z)<|Vv (V.R9 z z)<|Nt<|T.cH H z dead fun H=>Ks<|Sq<|T.norm [1] z<|T.fl ?_
 refine Rg<|Vv (V.bld (xs:=[(0,.const (.int .u8 (7))),(2,.const (.string ⟨#[99,97,114,108]⟩)),(4,.const (.string ⟨#[114]⟩))]) (cs:=[_,_,_,_,_,_]) A7k A7A z (F3.cons z z z (F3.cons z z z (F3.cons z z z F3.nil))))<|To (O.bs Q5 A1x z (e:=z) (hk:=z) (xs:=[.tmp 165]) (hv:=CO.eq (CO.cons z CO.nil)) (hw:=O4.of z) (hd:=z) fun gz=>have cz:A7 H5 ch [[.int .u8 7,qi 0,.string (⟨#[99,97,114,108]⟩:ByteArray),.string qe,.string (⟨#[114]⟩:ByteArray),qi 0]] ([(F6.mk (7:Int) (0:Int) (⟨#[99,97,114,108]⟩:ByteArray) qe (⟨#[114]⟩:ByteArray) (0:Int))]:List F6):=(A7.cons z A7.nil); T.J5 fun ia ib da=>have db:=A7.Z4 da cz.u; bE H fun ic dc H=>To (O.D8 z (A6Q db dc _) z fun id ie ig ii dd=>?_))
 obtain ⟨K,M,N,P,S,rfl,de,U,W,X,Y,Z⟩:=dd
 refine J9 _ de<|To (O.alloc A0p z z fun ij=>To (O.stF (vs:=[K,M,N,P,S]) G9 z z (j:=0) z z (by (simp only [Sl.ones,G6.one U,G6.one W,G6.one X,G6.one Y,G6.one Z,Bool.and_true,Bool.true_and]) <;> rfl) z ?_))
 refine T.freeze fun ik im df=>have aw:=AtC.of df; Nt<|Sr<|Vv (V.ldS z aw (by exact G9)) ?_
 refine Mv z<|bE H fun ⟨io,ip⟩ dg H=>To (O.D8 z (A6H ⟨K,M,N,P,S,z,U.u,W.u,X.u,Y.u,Z.u⟩ r.u dg _) z fun iq ir it iu di=>?_)
 obtain ⟨iw,ix,iy,iA,iB,iC,rfl,dj,iD,iE,iG,iI,iJ,iK⟩:=di
 refine J9 _ dj<|Mv z<|Vv (V.ext z z)<|Vv (V.ext z z)<|Ag z<|Nt<|Sr<|Vv (V.ldS z aw.u (by exact G9)) ?_
 refine Mv z<|bE H fun ⟨ax,iM⟩ dk H=>To (O.D8 z (A6H ⟨K,M,N,P,S,z,U.u,W.u,X.u,Y.u,Z.u⟩ r.u dk _) z fun iN iO iP iS dm=>?_)
 obtain ⟨dn,dp,dq,dr,ds,dt,rfl,du,dw,dx,dy,dA,dB,ay⟩:=dm
 refine J9 _ du<|Mv z<|Vv (V.ext z z)<|Vv (V.ext z z)<|To (O.alloc A3l z z fun iU=>To (O.stF (vs:=[dn,dp,dq,dr,ds,dt,qi ax.A6A,qi ax.A1N]) A0y z z (j:=0) z z (by (simp only [Sl.ones,G6.one dw,G6.one dx,G6.one dy,G6.one dA,G6.one dB,G6.one ay,Bool.and_true,Bool.true_and]) <;> rfl) z ?_))
 refine T.freeze fun iV iW dC=>have aA:=AtC.of dC; Ag z<|Nt<|Sr<|bE H fun iX dD H=>To (O.D8 z (A6Q G6.nil dD _) z fun iY iZ i0 i1 dE=>?_)
 obtain ⟨dG,dI,dJ,dK,dM,rfl,dN,dO,dP,dS,dU,dV⟩:=dE
 refine J9 _ dN<|Mv z<|bE H fun ⟨aB,i2⟩ dW H=>To (O.D8 z (B9N ⟨dG,dI,dJ,dK,dM,z,dO,dP,dS,dU,dV⟩ r.u dW _) z fun i3 i4 i5 i6 dX=>?_)
 obtain ⟨dY,dZ,d0,d1,d2,d3,rfl,d4,d5,d6,d7,d8,d9,aC⟩:=dX
 refine J9 _ d4<|Mv z<|Vv (V.ext z z)<|Vv (V.ext z z)<|To (O.alloc A3l z z fun i7=>To (O.stF (vs:=[dY,dZ,d0,d1,d2,d3,qi aB.A6A,qi aB.A1N]) A0y z z (j:=0) z z (by (simp only [Sl.ones,G6.one d5,G6.one d6,G6.one d7,G6.one d8,G6.one d9,G6.one aC,Bool.and_true,Bool.true_and]) <;> rfl) z ?_))
 refine T.freeze fun dh i8 dl=>have dv:=AtC.of dl; Ag z<|Nt<|Sr<|Mv z<|Vv (V.eq z z)<|Mv z<|T.bH 188 H z (fun H=>?_) fun H=>?_
 ·refine Mv z<|Mv z<|bE H fun i9 dz H=>Vv (V.J2 z z dz)<|Vv (V.eq z z)<|Vv (V.R8 z z)<|Mv z<|T.bH 194 H z (fun H=>?_) fun H=>?_
  ·refine Vv (V.fa A8A z)<|Vv (V.I9 (k:=6) E8 z aA.u z)<|Vv (V.eq z z)<|Vv (V.R8 z z)<|Mv z<|T.bH 199 H z (fun H=>?_) fun H=>?_
   ·refine Vv (V.fa A5X z)<|Vv (V.I9 (k:=5) E5 z aA.u z)<|To (O.bs C9 M9 z (e:=z) (hk:=z) (xs:=[.const (qi (2)),.const (qi (1)),.const (qi (0))]) (hv:=CO.eq (CO.cons z (CO.cons z (CO.cons z CO.nil)))) (hw:=O4.of z) (hd:=z) fun ih=>have ea:A7 (VI .i64) dh [[qi 2],[qi 1],[qi 0]] ([(2:Int),(1:Int),(0:Int)]:List Int):=(A7.cons z (A7.cons z (A7.cons z A7.nil))); T.J5 fun il iv eb=>have ec:=A7.Z4 eb ea.u; bE H fun iz ed H=>To (O.D8 z (A0z ay.u ec ed _) z fun ja ee jb jc ef=>?_))
    obtain ⟨rfl,eg⟩:=ef
    refine J9 _ eg<|Vv (V.R8 z z)<|Mv z<|T.bH 205 H z (fun H=>?_) fun H=>?_
    ·refine Vv (V.fa A5X z)<|Vv (V.I9 (k:=5) E5 z dv.u z)<|To (O.bs C9 M9 z (e:=z) (hk:=z) (xs:=[.const (qi (0)),.const (qi (3)),.const (qi (2))]) (hv:=CO.eq (CO.cons z (CO.cons z (CO.cons z CO.nil)))) (hw:=O4.of z) (hd:=z) fun jd=>have ei:A7 (VI .i64) ee [[qi 0],[qi 3],[qi 2]] ([(0:Int),(3:Int),(2:Int)]:List Int):=(A7.cons z (A7.cons z (A7.cons z A7.nil))); T.J5 fun je jf ej=>have ek:=A7.Z4 ej ei.u; bE H fun jg em H=>To (O.D8 z (A0z aC.u ek em _) z fun ji jj jk jm en=>?_))
     obtain ⟨rfl,eo⟩:=en
     exact J9 _ eo<|Vv (V.R8 z z)<|Ag z<|Nt<|T.ret<|T.drop<|E1 H
    exact dead H
   exact dead H
  exact dead H
 exact dead H
end Go.Proofs.X
open Go Go.Proofs Go.Proofs.Tryz Go.Sl Go.Dm
namespace Go.Proofs.X
end Go.Proofs.X
