import Derived.Test.YthchjfilgaondaaGreatChecked
import Derived.KernelRfl
import Derived.Test.YthchjfilgaondaaGreatV
import Derived.Test.YthchjfilgaondaaGreatL12
import Derived.Test.YthchjfilgaondaaGreatDa
import Derived.Test.YthchjfilgaondaaGreatL9
import Derived.Test.YthchjfilgaondaaGreatWb
/- The walks: each function computes what its Lean function says. -/
set_option maxRecDepth 1000000
set_option maxHeartbeats 40000000
set_option linter.unusedVariables false
set_option linter.unusedSimpArgs false
set_option linter.unnecessarySimpa false
open Go Go.Proofs Go.Proofs.Tryz Go.Sl Go.Dm
namespace Go.Proofs.X
theorem C3X:A5h prog 95=some ([.pointer none,.slice none 0 0,.slice none 0 0,.slice none 0 0,.slice none 0 0,.slice none 0 0,.slice none 0 0,.slice none 0 0,.slice none 0 0],[(0,1),(1,5),(6,1),(7,1),(8,1)]):=by kernel_rfl
theorem C4S:A0B prog 95=true:=by kernel_rfl
theorem A3W:A1d prog 93=some (84,1,24):=by kernel_rfl
theorem B1f:O5 prog 95 1=some 1:=by kernel_rfl
theorem A0o:O5 prog 95 2=some 6:=by kernel_rfl
theorem A5i:O5 prog 95 3=some 7:=by kernel_rfl
theorem A5b:O5 prog 95 4=some 8:=by kernel_rfl
theorem A8r:U6 prog 93=some (false,1):=by kernel_rfl
theorem A9U {h ad G ae af ai} (aZ:O8 h ad G) (H:A5S G=some (ae,af,ai)):∀ L,J6 prog 58 [.agg ad.toArray] h (L) (fun v h' L'=>∃ aj,v=.tuple #[aj,.int .i64 af,.int .i64 ai]∧L'=L∧OPt T9 h' aj ae):=by
 intro L
 obtain ⟨ak,am,an,ao,aq,rfl,B,ar,au,aw,ax⟩:=aZ
 refine J6.enter func58 z z z<|Sr<|To (O.U5 z z z fun cm cn co C=>Ag z<|Ag z<|An z<|Sr<|Vv (V.ldS z C (by exact J4)) ?_)
 refine bE H fun ⟨cp,cq,cr⟩ a0 H=>To (O.G9 z (C4Q ⟨ak,am,an,ao,aq,z,B.u,ar.u,au.u,aw.u,ax.u⟩ a0 _) z fun ct cu cw cx a1=>?_)
 obtain ⟨I,rfl,a2,a3⟩:=a1
 refine P7 _ a2<|Mv z<|Wx z z<|Wx z z<|Wx z z<|Ag z<|Ag z<|An z<|Sq<|Sm z<|Wn z z<|Nt<|T.cH H z (fun H=>?_) fun H=>?_
 ·refine Sm z<|Mv z<|Ag z<|Ag z<|Ag z<|Nr<|Tr ?_
  cases H
  exact T.rl z (RVs.cons (RV.tmp z) (RVs.cons (RV.tmp z) (Rv z))) ⟨_,z,z,OPt.nil⟩
 refine Ks<|Sm z<|Mv z<|bE H fun cy a4 H=>have J:=OPt.get a3 a4; bE H fun cA a5 H=>To (O.G9 z (B7P J a5 _) z fun cB K cC cD a6=>?_)
 obtain ⟨M,N,P,S,U,rfl,a7,a8,a9,ah,al,av⟩:=a6
 refine P7 _ a7<|Vv (V.bld (xs:=[(0,.tmp 20),(1,.tmp 22)]) (cs:=[_,_,_,_,_,_,_,_,_]) C3X C4S z (F4.cons z (Pt.cells J) z (F4.cons z z z F4.nil)))<|To (O.box z z z fun ay=>An z<|Sq<|Sr<|Vv (V.fa N7 z)<|Vv (V.M5 (k:=0) Q0 z C.u z)<|Vv (V.Q3 O6 z B)<|Mv z<|Nt ?_)
 obtain ⟨az,ba,bb⟩:=K4 H
 have H:=ba
 refine Bl<|T.R4 3 1<|have bc:A7 (VI .i64) K [] ([]:List Int):=A7.nil; T.R4 3 1<|have bd:A7 (VI .i64) K [] ([]:List Int):=A7.nil; T.R4 84 1<|have be:A7 (VSl (VSl (VI .i64) 1) 1) K [] ([]:List (List (List Int))):=A7.nil; T.fs [1,2,3] ?_
 refine T.lk [1,8,27] (FUEL,([]:List Int),([]:List Int),([]:List (List (List Int))),(0:Int),(qs),[],(qs),[],(qs),[]) (fun ⟨p,a,q,r,b,n,c,o,d,f,m⟩=>([(28,qi b)],blk ay (.cells [I,M,N,P,S,U,n,o,f].toArray 95)::F5 3 1 n c::F5 3 1 o d::F5 84 1 f m::L,fun hh=>iter (A6A G) p (a,q,r,b)=some az∧A7 (VI .i64) hh c a∧A7 (VI .i64) hh d q∧A7 (VSl (VSl (VI .i64) 1) 1) hh m r)) ⟨H,bc,bd,be⟩ ?_
 rintro ⟨p,a,q,r,b,n,c,o,d,f,m⟩ W cE ⟨bf,s,X,Y⟩
 obtain ⟨bg,cG,rfl,H,aA⟩:=G8 bf
 refine T.norm [28,1,8,27] z<|T.fl ?_
 refine Sr<|Wl z z<|Nt<|Sq<|T.cH H z (fun H=>?_) fun H=>?_
 ·refine Ks<|Sq<|Bl<|Sm z<|An z<|Sq<|T.fs [2,1,2] ?_
  refine T.N8 (t:=(.vs [0,1,2,3] (.x 4 (.vs [5,6,7] (.alt 8 (.v 9 (.alt 10 (.alt 11 (.g (.v 12 (.v 13 (.alt 14 .done .no)))) .no) .no)) .no))))) 11 3 1 z z I5 (by kernel_rfl) ?_
  refine Tm z z<|Tm z z<|TF z z z A5i<|T.tx z z (Val.XA fun _ _ _=>V.ldO (k:=7) E5 z (j:=1) z z) z Calm.i<|Tm z z<|TF z z z A0o<|Ts z z (X3 [0] [2,2,2] z z) (V.ldO (k:=6) E5 z (j:=1) z z) z ?_ T.P5
  refine Tv z (Val.XA fun _ _ _=>V.A4x A9 z (j:=0) z s.len)<|Tp z z (X3 [0] [2,2,2] z z) (O.bs A9 K8 z (e:=z) (hk:=z) (xs:=[.tmp 40]) (hv:=CO.eq (CO.cons z CO.nil)) (hw:=O3.of z) (hd:=z) fun cI=>?_) T.P5
  have Z:A7 (VI .i64) W [[qi (a.length:Int)]] ([(a.length:Int)]:List Int):=(A7.cons z A7.nil)
  refine bE H fun aB aC H=>Tp z z (X3 [1] [3,3,3] z z) (O.apX A9 A9 K8 z z z (j:=3) z (Src.row (j:=0) z) (O3.of z) (A7.ones VI.plain Z) X Z aC z fun D cJ cK=>?_) T.P5
  have bi:A7 (VI .i64) W (d ++ [[qi (a.length:Int)]]) aB:=A7.ap X Z aC
  refine T.fl ?_
  refine T.fs [1] ?_
  refine T.drop<|T.O1 Lr<|TF z z z A5i<|T.Q9 0 z fun bj bk=>Tp z z (SX.one (XA.fr [1] Lr z) z) (O.st (vs:=[D]) (k:=7) E5 z z (j:=2) z bk (by (simp only [BT,bj]) <;> rfl) ?_) T.P5
  refine T.fl ?_
  refine T.O7 (SX.one (XA.fr [2] Lr z) z)<|Th<|Sq ?_
  obtain ⟨bm,bn,bo⟩:=K4 H
  refine T.ck (α:=(List Int)×Value×(List (List Value))) [1,8,9,27,28] (fun ⟨w,y,A⟩=>([],blk ay (.cells [I,M,N,P,S,U,y,D,f].toArray 95)::F5 3 1 D (d ++ [[qi (a.length:Int)]])::F5 84 1 f m::F5 3 1 y A::L,fun hh=>bm=w∧A7 (VI .i64) hh A w)) ?_ ?_
  ·have H:=bn
   refine T.fs [2,1] ?_
   refine T.N8 (t:=(.vs [0,1,2,3] (.x 4 (.vs [5,7,8,9,10,11] (.alt 6 (.alt 12 (.g (.alt 13 (.g (.alt 14 (.g (.v 15 (.v 16 (.alt 17 .done .no)))) .no)) .no)) .no) (.alt 12 (.g (.alt 6 (.alt 13 (.g (.alt 14 (.g (.v 15 (.v 16 (.alt 17 .done .no)))) .no)) .no) .no)) .no)))))) 14 2 0 z z I5 (by kernel_rfl) ?_
   refine Tm z z<|Tm z z<|TF z z z A0o<|T.tx z z (Val.XA fun _ _ _=>V.ldO (k:=6) E5 z (j:=0) z z) z Calm.i<|Tm z z<|Tv z (V.fa N7 z)<|Tv z (V.M5 (k:=0) Q0 z C.u z)<|Tm z z<|bE H fun cM aD H=>?_
   obtain ⟨cN,bp,⟨aE,rfl,aG⟩⟩:=F8.at B aD
   refine Tv z (V.ix O6 z z B (E9 aD))<|Tv z (V.ldS z bp.u (by exact J5)) ?_
   refine T.C2A ?_ ?_
   ·refine Tp z z (X3 [] [1,1] z z) (O.bs A9 K8 z (e:=z) (hk:=z) (xs:=[.tmp 50]) (hv:=CO.eq (CO.cons z CO.nil)) (hw:=O3.of z) (hd:=z) fun cO=>?_) T.P5
    have bq:A7 (VI .i64) W [[qi b]] ([b]:List Int):=(A7.cons z A7.nil)
    refine bE H fun cP br H=>Tp z z (X3 [] [2,2] z z) (O.G9 z (B5q ⟨aE,z,aG.u⟩ br _) z fun cS cU cV cW bt=>?_) T.P5
    obtain ⟨rfl,bu⟩:=bt
    refine P7 _ bu<|T.O1 Li<|T.K5 fun cX cY bw=>have bx:=A7.slc bw bq.u; bE H fun cZ bA H=>Tp z z (SX.two (XA.fr [] Li z) (XA.fr [1,1] Li z)) (O.G9 z (A9h bx bA _) z fun c0 bB c1 c2 bC=>?_) T.P5
    obtain ⟨aI,bD,aa⟩:=bC
    refine P7 _ bD<|T.O1 Li<|T.wide 0 z fun bG=>bE H fun aJ aK H=>Tp z z (X3 [] [2,2] z z) (O.apX A9 A9 K8 z z z (j:=2) z (Src.row (j:=0) z) bG (A7.ones VI.plain aa) s.u aa aK z fun aM c3 c4=>?_) T.P5
    have bI:A7 (VI .i64) bB (c ++ aI) aJ:=A7.ap s.u aa aK
    refine T.fl ?_
    refine T.O1 Lr<|TF z z z A0o<|T.Q9 0 z fun bJ bK=>Tp z z (SX.one (XA.fr [] Lr z) z) (O.st (vs:=[aM]) (k:=6) E5 z z (j:=2) z bK (by (simp only [BT,bJ]) <;> rfl) ?_) T.P5
    refine T.fl ?_
    refine T.O7 (SX.one (XA.fr [] Lr z) z)<|Th<|T.fs [2] ?_
    refine T.drop<|T.fs [1,3,3,3] ?_
    exact T.mt (aJ,aM,(c ++ aI)) ⟨(M7 H),bI⟩
   refine bE H fun c5 bM H=>Tp z z (X3 [] [1,1] z z) (O.G9 z (B5q ⟨aE,z,aG.u⟩ bM _) z fun c6 bN c7 c8 bO=>?_) T.P5
   obtain ⟨rfl,bP⟩:=bO
   refine P7 _ bP<|T.O1 Li<|Tp z z (X3 [] [1,1] z z) (O.bs A9 K8 z (e:=z) (hk:=z) (xs:=[.tmp 50]) (hv:=CO.eq (CO.cons z CO.nil)) (hw:=O3.of z) (hd:=z) fun c9=>?_) T.P5
   have bS:A7 (VI .i64) bN [[qi b]] ([b]:List Int):=(A7.cons z A7.nil)
   refine T.K5 fun ch cl bU=>have bV:=A7.slc bU bS.u; bE H fun cv bW H=>Tp z z (SX.two (XA.fr [] Li z) (XA.fr [1,1] Li z)) (O.G9 z (A9h bV bW _) z fun cz bX da db bY=>?_) T.P5
   obtain ⟨aN,bZ,ab⟩:=bY
   refine P7 _ bZ<|T.O1 Li<|T.wide 0 z fun b0=>bE H fun aO aP H=>Tp z z (X3 [] [2,2] z z) (O.apX A9 A9 K8 z z z (j:=2) z (Src.row (j:=0) z) b0 (A7.ones VI.plain ab) s.u ab aP z fun aS dc dd=>?_) T.P5
   have b1:A7 (VI .i64) bX (c ++ aN) aO:=A7.ap s.u ab aP
   refine T.fl ?_
   refine T.O1 Lr<|TF z z z A0o<|T.Q9 0 z fun b2 b3=>Tp z z (SX.one (XA.fr [] Lr z) z) (O.st (vs:=[aS]) (k:=6) E5 z z (j:=2) z b3 (by (simp only [BT,b2]) <;> rfl) ?_) T.P5
   refine T.fl ?_
   refine T.O7 (SX.one (XA.fr [] Lr z) z)<|Th<|T.fs [2] ?_
   refine T.drop<|T.fs [1,3,3,3] ?_
   exact T.mt (aO,aS,(c ++ aN)) ⟨(M7 H),b1⟩
  rintro ⟨w,y,A⟩ de df ⟨b4,b5⟩
  have H:=I7 b4 bo
  refine T.norm [1,8,9,27,28] z<|T.fl ?_
  refine T.fs [2,1] ?_
  refine T.N8 (t:=(.vs [0,1,2,3] (.x 4 (.v 5 (.v 6 (.alt 7 (.g (.alt 8 (.alt 9 (.g (.v 10 (.v 11 (.alt 12 .done .no)))) .no) .no)) .no)))))) 9 2 0 z z I5 (by kernel_rfl) ?_
  refine Tm z z<|Tm z z<|TF z z z A5b<|T.tx z z (Val.XA fun _ _ _=>V.ldO (k:=8) A8r z (j:=0) z z) z Calm.i<|Tv z (V.ldS z C.u (by exact J4)) ?_
  refine Tm z z<|bE H fun b6 b7 H=>Tp z z (X3 [] [1,1] z z) (O.G9 z (C1D ⟨ak,am,an,ao,aq,z,B.u,ar.u,au.u,aw.u,ax.u⟩ b7 _) z fun E dg di dj b8=>?_) T.P5
  obtain ⟨dk,b9,bh⟩:=b8
  refine P7 _ b9<|T.O1 Li<|T.K5 fun aU dm bl=>have aV:=A7.slc bl bh.u; Tp z z (SX.two (XA.fr [] Li z) (XA.fr [1,1] Li z)) (O.bs A3W A9W z (e:=z) (hk:=z) (xs:=[.tmp 69]) (hv:=CO.eq (CO.cons (F8.cells aV) CO.nil)) (hw:=O3.of z) (hd:=z) fun dn=>?_) T.P5
  have ac:A7 (VSl (VSl (VI .i64) 1) 1) aU [[E]] ([b6]:List (List (List Int))):=(A7.cons ⟨E,z,aV⟩ A7.nil)
  refine bE H fun aW aX H=>Tp z z (SX.two (XA.fr [] Li z) (XA.fr [2,2] Li z)) (O.apX A3W A3W A9W z z z (j:=2) z (Src.row (j:=0) z) (O3.of z) (A7.ones VSl.plain ac) Y.u ac aX z fun aY dp dq=>?_) T.P5
  have bv:A7 (VSl (VSl (VI .i64) 1) 1) aU (m ++ [[E]]) aW:=A7.ap Y.u ac aX
  refine T.fl ?_
  refine T.fs [1] ?_
  refine T.drop<|T.O1 Li<|TF z z z A5b<|T.Q9 0 z fun bz ca=>Tp z z (SX.one (XA.fr [] Lr z) z) (O.st (vs:=[aY]) (k:=8) A8r z z (j:=1) z ca (by (simp only [BT,bz]) <;> rfl) ?_) T.P5
  refine T.fl ?_
  refine T.O7 (SX.one (XA.fr [] Lr z) z)<|Bn<|Th<|Rg<|bE H fun cb cc H=>Vv (V.H8 z z cc)<|Mv z<|Nt<|T.fs [1,2,3,3] ?_
  exact T.ag (bg,w,aB,aW,cb,y,A,D,(d ++ [[qi (a.length:Int)]]),aY,(m ++ [[E]])) ⟨(D8 H aA),b5.u,bi.u,bv⟩
 refine T.exit<|Te<|Te<|have H:=D6 H aA; Be<|Th<|have H:=I7 H bb; Sm z<|Ag z<|Ag z<|Ag z<|Nr<|T.fs [1] ?_
 refine T.K5 fun dr ds cd=>have ce:=A7.slc cd s.u; T.fs [1] ?_
 refine T.K5 fun dt du cf=>have cg:=A7.slc cf X.u; Fr_ 1 z<|T.K5 fun dw dx ci=>have cj:=A7.slc ci Y.u; T.C0A fun dy dA ck=>?_
 cases H
 exact T.rl z (RVs.cons (RV.tmp z) (RVs.cons (RV.tmp z) (Rv z))) ⟨_,z,z,(OPt.some (Pt.mk ck ⟨I,M,N,P,S,U,n,o,f,z,J.u,a8.u,a9.u,ah.u,al.u,av.u,ce.u,cg.u,cj.u⟩))⟩
theorem A9v {h d e g} (H:A6i d e=some g):∀ L,FnW prog 60 [.int .i64 d,.int .i64 e] h L (.int .i64 g):=by
 intro L
 refine J6.enter func60 z z z<|Sr<|An z<|Sr<|An z<|Sq<|Sm z<|Mv z<|Nt ?_
 obtain ⟨j,k,i⟩:=K4 H
 have H:=k
 refine Bl<|T.lk [0,7] (FUEL,(1:Int),(0:Int)) (fun ⟨a,b,c⟩=>([(5,qi b),(8,qi c)],L,fun hh=>iter (A6r d e) a (b,c)=some j)) H ?_
 rintro ⟨a,b,c⟩ t u m
 obtain ⟨n,w,rfl,H,f⟩:=G8 m
 refine T.norm [5,8,0,7] z<|T.fl ?_
 refine Sr<|Wl z z<|Nt<|Sq<|T.cH H z (fun H=>?_) fun H=>?_
 ·refine Ks<|Sq<|Bl<|Sm z<|An z<|Sm z<|Mv z<|Mv z<|bE H fun x o H=>Vv (V.Y9 z z o)<|bE H fun p q H=>Vv (V.B0g z z q)<|An z<|Sm z<|Wg z z<|Nt<|T.cH H z (fun H=>?_) fun H=>?_
  ·exact Sm z<|Ag z<|Nr<|Br<|Tr<|Tr<|have H:=D6 H f; Br<|Tr<|have H:=I7 H i; E1 H
  refine T.skip<|Bn<|Th<|Rg<|bE H fun r s H=>Vv (V.H8 z z s)<|Mv z<|Nt<|T.ag (n,p,r) (D8 H f)
 exact T.exit<|Te<|Te<|have H:=D6 H f; Be<|Th<|have H:=I7 H i; Sm z<|Ag z<|Nr<|E1 H
theorem A3t {h a b c d} (n:O8 h a b) (H:A0R b=some (c,d)):∀ L,J6 prog 27 [.agg a.toArray] h (L) (fun v h' L'=>∃ e,v=.tuple #[e,.int .i64 d]∧L'=L∧OPt T9 h' e c):=by
 intro L
 obtain ⟨o,p,q,r,s,rfl,w,f,x,y,A⟩:=n
 refine J6.enter func27 z z z<|Sr<|To (O.U5 z z z fun am an ao i=>Ag z<|An z<|Sr<|Vv (V.ldS z i (by exact J4)) ?_)
 refine bE H fun ⟨ap,aq,ar⟩ B H=>To (O.G9 z (A9U ⟨o,p,q,r,s,z,w.u,f.u,x.u,y.u,A.u⟩ B _) z fun au aw ax ay C=>?_)
 obtain ⟨aA,rfl,D,E⟩:=C
 refine P7 _ D<|Mv z<|Wx z z<|Wx z z<|Wx z z<|Ag z<|Ag z<|An z<|Sq<|Sm z<|Wn z z<|Nt<|T.cH H z (fun H=>?_) fun H=>?_
 ·refine Sm z<|Ag z<|Ag z<|Nr<|Tr ?_
  cases H
  exact T.rl z (RVs.cons (RV.tmp z) (Rv z)) ⟨_,z,z,OPt.nil⟩
 refine Ks<|Sq<|Sq<|T.N8 (t:=(.vs [0,1,2,3,4,5,6,7] (.alt 8 (.g (.v 9 .done)) .no))) 11 0 0 z z I5 (by kernel_rfl) ?_
 refine Tm z z<|bE H fun aB G H=>have I:=OPt.get E G; have J:=I; ?_
 obtain ⟨aC,_,rfl,j,⟨K,M,N,P,S,U,W,X,Y,rfl,Z,aa,ab,ac,ad,ae,m,af,ag⟩⟩:=J
 refine TL z z z z A0o E5 j z<|Tv z (V.Q3 A9 z m)<|Tv z (V.fa U4 z)<|Tv z (V.M5 (k:=1) O0 z i.u z)<|Tv z (V.Q3 O9 z f)<|bE H fun aD ai H=>Tp z z (X2 z z) (O.G9 z (A9v ai _) z fun aE aG aI aJ aj=>?_) T.P5
 obtain ⟨rfl,ak⟩:=aj
 refine P7 _ ak<|T.O1 Li<|Tv z (V.gt z z)<|T.O7 (X2 z z)<|Th<|T.cH H z (fun H=>?_) fun H=>?_
 ·refine Sg z<|Ag z<|Nr<|Tr ?_
  cases H
  exact T.rl z (RVs.cons (RV.tmp z) (Rv z)) ⟨_,z,z,OPt.nil⟩
 refine Ks<|Sm z<|Ag z<|Ag z<|Nr ?_
 cases H
 exact T.rl z (RVs.cons (RV.tmp z) (Rv z)) ⟨_,z,z,(OPt.some (Pt.mk j.u ⟨K,M,N,P,S,U,W,X,Y,z,Z.u,aa.u,ab.u,ac.u,ad.u,ae.u,m.u,af.u,ag.u⟩))⟩
theorem A4g {h a b c} (e:Pt T9 h a b) (H:A2V b=some c):∀ L,J6 prog 29 [a] h (L) (fun v h' L'=>∃ d,L'=F5 3 1 v d::L∧A7 (VI .i64) h' d c):=by
 intro L
 refine J6.enter func29 z z z<|Sr<|An z<|Sr<|To (O.b1 (E:=VI .i64) A9 K8 z z z z z fun s f=>Mv z<|have g:=e; ?_)
 obtain ⟨t,_,rfl,i,⟨w,x,y,A,B,C,D,G,I,rfl,J,K,j,M,N,P,S,U,W⟩⟩:=g
 refine NF z B1f<|Vv (V.fa U4 z)<|Vv (V.M5 (k:=2) O0 z i z)<|Vv (V.Q3 O9 z j)<|T.K5 fun X Y m=>have n:=A7.slc m f.u; bE H fun Z o H=>To (O.G9 z (A9h n o _) z fun aa ab ac ad p=>?_)
 obtain ⟨ae,q,r⟩:=p
 refine P7 _ q<|Ag z<|Nr ?_
 cases H
 exact T.rl z (Rv z) ⟨_,z,r⟩
theorem C1R {h j m n f g o p} (M:Pt T9 h j m) (a:F8 (VI .i64) 1 h n f) (H:B9n m f g o=some p):∀ L,FnW prog 135 [j,n,.int .i64 g,.int .i64 o] h L (.bool p):=by
 intro L
 refine J6.enter func135 z z z<|Sr<|An z<|Sq<|T.N8 (t:=(.vs [0,1,2,3,4,5,6,7,8,9] (.alt 10 .done .no))) 12 0 0 z z I5 (by kernel_rfl) ?_
 refine Tm z z<|have N:=M; ?_
 obtain ⟨aq,_,rfl,d,⟨ar,au,aw,ax,ay,aA,aB,aC,aD,rfl,aE,aG,aI,aJ,aK,aM,q,r,e⟩⟩:=N
 refine TL z z z z A0o E5 d z<|Tm z z<|Tm z z<|bE H fun aN s H=>?_
 obtain ⟨aO,O,rfl⟩:=F8.at a s
 refine Tv z (V.ix A9 z z a (E9 s))<|Tv z (V.S9 D7 z O z)<|bE H fun aP w H=>?_
 obtain ⟨aS,P,rfl⟩:=F8.at q w
 refine Tv z (V.ix A9 z z q (E9 w))<|Tv z (V.S9 D7 z P z)<|Ts z z (X2 z z) (V.asg z) z ?_ T.P5
 refine T.O7 (X2 z z)<|Th<|Sq<|Sm z<|Wl z z<|Mv z<|T.bH 26 H z dead fun H=>Mv z<|Mv z<|NL z A5b A8r d z<|Mv z<|bE H fun aU x H=>?_
 obtain ⟨aV,S,⟨aW,rfl,U⟩⟩:=F8.at e x
 refine Vv (V.ix A3W z z e (E9 x))<|Vv (V.S9 U1 z S z)<|Vv (V.Q3 J9 z U)<|Vv (V.ge z z)<|Kf z<|Nt<|T.cH H z dead fun H=>Ks<|Sq<|T.N8 (t:=(.vs [0,1,2,3,4,5,6,7,8,9,10,11,12,13,14,15,16] (.alt 17 (.alt 18 .done .no) .no))) 20 0 0 z z I5 (by kernel_rfl) ?_
 refine Tm z z<|TL z z z z A5b A8r d z<|Tm z z<|bE H fun aX y H=>?_
 obtain ⟨aY,W,⟨aZ,rfl,A⟩⟩:=F8.at e y
 refine Tv z (V.ix A3W z z e (E9 y))<|Tv z (V.S9 U1 z W z)<|Tm z z<|bE H fun a0 B H=>?_
 obtain ⟨a1,X,⟨a2,rfl,C⟩⟩:=F8.at A B
 refine Tv z (V.ix J9 z z A (E9 B))<|Tv z (V.S9 E5 z X z)<|Tm z z<|TL z z z z A5i E5 d z<|Tm z z<|bE H fun a3 D H=>?_
 obtain ⟨a4,Y,rfl⟩:=F8.at r D
 refine Tv z (V.ix A9 z z r (E9 D))<|Tv z (V.S9 D7 z Y z)<|Ts z z (X2 z z) (V.asg z) z ?_ T.P5
 refine Ts z z (X2 z z) (V.asg z) z ?_ T.P5
 refine T.O7 (X2 z z)<|Th<|Sq<|Sq<|T.norm [0,1,2,9,10,11] z<|Rg<|Mv z<|Vv (V.Q3 A9 z a)<|Mv z<|Nt ?_
 obtain ⟨Z,aa,ab⟩:=K4 H
 have H:=aa
 refine Bl<|T.lk [0,1,2,9,10,11,55,56] (FUEL,(0:Int)) (fun ⟨b,c⟩=>([(57,qi c)],L,fun hh=>iter (B5k f g) b c=some Z)) H ?_
 rintro ⟨b,c⟩ a5 a6 ac
 obtain ⟨E,a7,rfl,H,i⟩:=G8 ac
 refine T.norm [57,0,1,2,9,10,11,55,56] z<|T.fl ?_
 refine Sr<|Wl z z<|Nt<|Sq<|T.cH H z (fun H=>?_) fun H=>?_
 ·refine Ks<|Sq<|Bl<|Sm z<|bE H fun a8 G H=>?_
  obtain ⟨a9,ad,rfl⟩:=F8.at a G
  refine Vv (V.ix A9 z z a (E9 G))<|Vv (V.S9 D7 z ad.u z)<|Ag z<|An z<|Sm z<|Mv z<|Wn z z<|Mv z<|T.bH 65 H z (fun H=>?_) fun H=>?_
  ·refine Mv z<|Vv (V.ge z z)<|Kt z<|Mv z<|T.bH 69 H z dead fun H=>S2<|S2<|S2<|S2<|Sk<|Kf z<|Mv z<|S2<|S2<|S2<|S2<|S2<|Kf z<|Nt<|Cf z<|T.skip<|Bn<|Th<|Rg<|bE H fun ae af H=>Vv (V.H8 z z af)<|Mv z<|Nt<|T.ag (E,ae) (D8 H i)
  refine S2<|Kf z<|Mv z<|S2<|S2<|S2<|S2<|Sk<|Kf z<|Mv z<|S2<|S2<|S2<|S2<|S2<|Kf z<|Nt<|Cf z<|T.skip<|Bn<|Th<|Rg<|bE H fun ai aj H=>Vv (V.H8 z z aj)<|Mv z<|Nt<|T.ag (E,ai) (D8 H i)
 refine T.exit<|Te<|Te<|have H:=D6 H i; Be<|Th<|have H:=I7 H ab; Sq<|T.N8 (t:=(.vs [0,1,2,3,4,5,6,7,8,9,10,11,12,13,14,15] (.alt 16 .done .no))) 18 0 0 z z I5 (by kernel_rfl) ?_
 refine Tm z z<|Tm z z<|Tm z z<|bE H fun ah I H=>?_
 obtain ⟨al,ak,rfl⟩:=F8.at a I
 refine Tv z (V.ix A9 z z a (E9 I))<|Tv z (V.S9 D7 z ak.u z)<|Tm z z<|bE H fun av am H=>Tv z (V.Y9 z z am)<|bE H fun az J H=>?_
 obtain ⟨ba,an,rfl⟩:=F8.at C J
 refine Tv z (V.ix A9 z z C (E9 J))<|Tv z (V.S9 D7 z an.u z)<|Tm z z<|Tm z z<|bE H fun bb K H=>?_
 obtain ⟨bc,ao,rfl⟩:=F8.at a K
 refine Tv z (V.ix A9 z z a (E9 K))<|Tv z (V.S9 D7 z ao.u z)<|Tm z z<|bE H fun bd ap H=>Tv z (V.Y9 z z ap)<|Tv z (V.lt z z)<|Ts z z (X2 z z) (V.asg z) z ?_ T.P5
 exact T.O7 (X2 z z)<|Th<|T.ret<|E1 H
theorem A6H {h w g x i y} (U:Pt T9 h w g) (o:F8 (VI .i64) 1 h x i) (H:A1O g i=some y):∀ L,FnW prog 30 [w,x] h L (.bool y):=by
 intro L
 refine J6.enter func30 z z z<|Sr<|An z<|Sq<|Sm z<|have W:=U; ?_
 obtain ⟨aK,_,rfl,m,⟨aM,aN,aO,aP,aS,aU,aV,aW,aX,rfl,aY,aZ,a0,a1,a2,a3,A,n,p⟩⟩:=W
 refine NL z A5b A8r m z<|Vv (V.Q3 A3W z p)<|Mv z<|Nt ?_
 obtain ⟨X,Y,B⟩:=K4 H
 have H:=Y
 refine Bl<|T.lk [0,1,15,16] (FUEL,(0:Int)) (fun ⟨b,a⟩=>([(17,qi a)],L,fun hh=>iter (A3O g i) b a=some X)) H ?_
 rintro ⟨b,a⟩ a4 a5 Z
 obtain ⟨aa,a6,rfl,H,q⟩:=G8 Z
 refine T.norm [17,0,1,15,16] z<|T.fl ?_
 refine Sr<|Wl z z<|Nt<|Sq<|T.cH H z (fun H=>?_) fun H=>?_
 ·refine Ks<|Sq<|Bl<|Sm z<|bE H fun ab C H=>?_
  obtain ⟨a7,ac,⟨a8,rfl,r⟩⟩:=F8.at p C
  refine Vv (V.ix A3W z z p (E9 C))<|Vv (V.S9 U1 z ac.u z)<|Ag z<|An z<|Sm z<|Vv (V.Q3 J9 z r)<|Mv z<|Nt<|T.A0L ?_
  obtain ⟨ad,ae,D⟩:=K4 H
  have H:=ae
  refine Bl<|T.lk [0,1,5,15,16,17,22,23] (FUEL,(0:Int)) (fun ⟨c,d⟩=>([(24,qi d)],L,fun hh=>iter (A2e g i a ab) c d=some ad)) H ?_
  rintro ⟨c,d⟩ a9 ah af
  obtain ⟨ai,al,rfl,H,s⟩:=G8 af
  refine T.norm [24,0,1,5,15,16,17,22,23] z<|T.fl ?_
  refine Sr<|Wl z z<|Nt<|Sq<|T.cH H z (fun H=>?_) fun H=>?_
  ·refine Ks<|Sq<|Bl<|Sr<|bE H fun aj E H=>?_
   obtain ⟨av,ak,⟨az,rfl,G⟩⟩:=F8.at r E
   refine Vv (V.ix J9 z z r (E9 E))<|Vv (V.S9 E5 z ak.u z)<|An z<|Sm z<|Vv (V.Q3 A9 z o)<|Mv z<|Nt<|T.A0L ?_
   obtain ⟨I,am,J⟩:=K4 H
   refine T.ck (α:=Unit) [0,1,5,15,16,17,22,23,24] (fun _=>([],L,fun hh=>I=(Sum.inl ()))) ?_ ?_
   ·have H:=am
    refine Bl<|T.lk [0,1,5,8,15,16,17,22,23,24,28,29] (FUEL,(0:Int)) (fun ⟨e,f⟩=>([(30,qi f)],L,fun hh=>iter (A2b g i a aj) e f=some I)) H ?_
    rintro ⟨e,f⟩ ba bb an
    obtain ⟨K,bc,rfl,H,j⟩:=G8 an
    refine T.norm [30,0,1,5,8,15,16,17,22,23,24,28,29] z<|T.fl ?_
    refine Sr<|Wl z z<|Nt<|Sq<|T.cH H z (fun H=>?_) fun H=>?_
    ·refine Ks<|Sq<|Bl<|Sr<|bE H fun bd M H=>?_
     obtain ⟨be,ao,rfl⟩:=F8.at o M
     refine Vv (V.ix A9 z z o (E9 M))<|Vv (V.S9 D7 z ao.u z)<|An z<|Sq<|Sm z<|NL z A0o E5 m.u z<|Mv z<|bE H fun bf N H=>?_
     obtain ⟨bg,ap,rfl⟩:=F8.at A N
     refine Vv (V.ix A9 z z A (E9 N))<|Vv (V.S9 D7 z ap.u z)<|Mv z<|Wn z z<|Nt<|T.cH H z (fun H=>?_) fun H=>?_
     ·refine T.exit<|Te<|Be<|Th<|Rg<|bE H fun aq ar H=>Vv (V.H8 z z ar)<|Mv z<|Nt<|T.ag (K,aq) (D8 H j)
     refine Ks<|Sq<|T.N8 (t:=(.vs [0,1,2,3,4,5,6,7,8,9,10,11,12,13,14,15,16,17,18,19] (.alt 20 .done .no))) 22 0 0 z z I5 (by kernel_rfl) ?_
     refine Tm z z<|TL z z z z A5i E5 m.u z<|Tm z z<|bE H fun bi O H=>?_
     obtain ⟨bj,au,rfl⟩:=F8.at n O
     refine Tv z (V.ix A9 z z n (E9 O))<|Tv z (V.S9 D7 z au.u z)<|Tm z z<|Tm z z<|Tm z z<|TL z z z z A5i E5 m.u z<|Tm z z<|bE H fun bk P H=>?_
     obtain ⟨bm,aw,rfl⟩:=F8.at n P
     refine Tv z (V.ix A9 z z n (E9 P))<|Tv z (V.S9 D7 z aw.u z)<|bE H fun bn ax H=>Tv z (V.Y9 z z ax)<|bE H fun bo S H=>?_
     obtain ⟨bp,ay,rfl⟩:=F8.at G S
     refine Tv z (V.ix A9 z z G (E9 S))<|Tv z (V.S9 D7 z ay.u z)<|bE H fun bq aA H=>Tv z (V.H8 z z aA)<|Ts z z (X2 z z) (V.asg z) z ?_ T.P5
     refine T.O7 (X2 z z)<|Th<|Sq<|Sq<|T.norm [0,1,5,8,10,11,15,16,17,22,23,24,28,29,30] z<|Rg<|Mv z<|Mv z<|Wl z z<|Nt<|T.cH H z (fun H=>?_) fun H=>?_
     ·exact Sg z<|Nr<|Tr<|Br<|Tr<|Tr<|have H:=D6 H j; Br<|Tr<|have H:=I7 H J; Br<|Tr<|Tr<|have H:=D6 H s; Br<|Tr<|have H:=I7 H D; Br<|Tr<|Tr<|have H:=D6 H q; Br<|Tr<|have H:=I7 H B; E1 H
     refine Ks<|Sm z<|Mv z<|Wg z z<|Nt<|T.cH H z (fun H=>?_) fun H=>?_
     ·refine T.exit<|T.blX z<|Te<|Te<|have H:=D6 H j; Be<|Th<|T.mt () H
     refine T.skip<|Bn<|Th<|Rg<|bE H fun aB aC H=>Vv (V.H8 z z aC)<|Mv z<|Nt<|T.ag (K,aB) (D8 H j)
    refine T.exit<|Te<|Te<|have H:=D6 H j; Be<|Th<|T.mt () H
   rintro _ br bs aD
   have H:=I7 aD J
   refine T.norm [0,1,5,15,16,17,22,23,24] z<|T.fl ?_
   refine Bn<|Th<|Rg<|bE H fun aE aG H=>Vv (V.H8 z z aG)<|Mv z<|Nt<|T.ag (ai,aE) (D8 H s)
  refine T.exit<|Te<|Te<|have H:=D6 H s; Be<|Th<|have H:=I7 H D; Bn<|Th<|Rg<|bE H fun aI aJ H=>Vv (V.H8 z z aJ)<|Mv z<|Nt<|T.ag (aa,aI) (D8 H q)
 exact T.exit<|Te<|Te<|have H:=D6 H q; Be<|Th<|have H:=I7 H B; Sg z<|Nr<|E1 H
theorem B9z {h f g i j} (r:O8 h f g) (H:B8r g=some (i,j)):∀ L,FnW prog 32 [.agg f.toArray] h L (.tuple #[.int .i64 i,.int .i64 j]):=by
 intro L
 obtain ⟨s,t,w,x,y,rfl,A,m,B,C,D⟩:=r
 refine J6.enter func32 z z z<|Sr<|To (O.U5 z z z fun aN aO aP n=>Ag z<|An z<|Sr<|Vv (V.ldS z n (by exact J4)) ?_)
 refine bE H fun ⟨E,aS⟩ G H=>To (O.G9 z (A3t ⟨s,t,w,x,y,z,A.u,m.u,B.u,C.u,D.u⟩ G _) z fun aU aV aW aX I=>?_)
 obtain ⟨J,rfl,K,M⟩:=I
 refine P7 _ K<|Mv z<|Wx z z<|Wx z z<|Ag z<|An z<|Sq<|Sm z<|Wn z z<|Nt<|T.cH H z dead fun H=>Ks<|Sr<|An z<|Sq<|Sr<|Vv (V.fa U4 z)<|Vv (V.M5 (k:=1) O0 z n.u z)<|Vv (V.Q3 O9 z m)<|bE H fun N P H=>Vv (V.H8 z z P)<|Mv z<|Nt ?_
 obtain ⟨S,U,W⟩:=K4 H
 have H:=U
 refine Bl<|T.lk [19] (FUEL,(0:Int),E,(0:Int),J) (fun ⟨a,b,c,d,e⟩=>([(20,qi b),(4,e),(6,qi d)],L,fun hh=>iter (B3q N) a (b,c,d)=some S∧OPt T9 hh e c)) ⟨H,M⟩ ?_
 rintro ⟨a,b,c,d,e⟩ aY aZ ⟨X,Y⟩
 obtain ⟨Z,a0,rfl,H,o⟩:=G8 X
 refine T.norm [20,4,6,19] z<|T.fl ?_
 refine Sr<|Wl z z<|Nt<|Sq<|T.cH H z (fun H=>?_) fun H=>?_
 ·refine Ks<|Sq<|Bl<|Sm z<|An z<|Rg<|Mv z<|Mv z<|bE H fun aa ab H=>have ac:=OPt.get Y ab; have ad:=ac; ?_
  obtain ⟨ae,_,rfl,p,⟨af,ai,aj,ak,am,an,ao,ap,aq,rfl,ar,au,aw,ax,ay,aA,q,aB,aC⟩⟩:=ad
  refine NL z A0o E5 p z<|Vv (V.Q3 A9 z q)<|Mv z<|bE H fun a1 aD H=>To (O.G9 z (A9v aD _) z fun a2 a3 a4 a5 aE=>?_)
  obtain ⟨rfl,aG⟩:=aE
  refine P7 _ aG<|bE H fun aI aJ H=>Vv (V.H8 z z aJ)<|Ag z<|Ni<|Bn<|Th<|Rg<|bE H fun aK aM H=>Vv (V.H8 z z aM)<|Mv z<|Nt<|T.ag (Z,aK,(some aa),aI,(.pointer (some ae))) ⟨(D8 H o),(OPt.some (Pt.mk p.u ⟨af,ai,aj,ak,am,an,ao,ap,aq,z,ar.u,au.u,aw.u,ax.u,ay.u,aA.u,q.u,aB.u,aC.u⟩))⟩
 exact T.exit<|Te<|Te<|have H:=D6 H o; Be<|Th<|have H:=I7 H W; Sm z<|Ag z<|Ag z<|Nr<|E1 H
end Go.Proofs.X
open Go Go.Proofs Go.Proofs.Tryz Go.Sl Go.Dm
namespace Go.Proofs.X
theorem C1T:A5h prog 150=some ([.int .i64 (0),.int .i64 (0)],[(0,1),(1,1)]):=by kernel_rfl
theorem C1v:A0B prog 150=true:=by kernel_rfl
theorem A3g:A1d prog 79=some (78,2,16):=by kernel_rfl
theorem A3x:O5 prog 153 0=some 0:=by kernel_rfl
theorem B2D:O5 prog 153 2=some 2:=by kernel_rfl
theorem A0a:O5 prog 153 3=some 3:=by kernel_rfl
theorem A1k:O5 prog 153 4=some 4:=by kernel_rfl
theorem B9E:O5 prog 78 0=some 0:=by kernel_rfl
theorem X6:O5 prog 78 1=some 1:=by kernel_rfl
theorem A6G:O5 prog 95 0=some 0:=by kernel_rfl
theorem B5r:U6 prog 150=some (true,2):=by kernel_rfl
theorem Q5:U6 prog 66=some (false,1):=by kernel_rfl
theorem C3I:U6 prog 76=some (false,1):=by kernel_rfl
theorem B6D:U6 prog 78=some (true,2):=by kernel_rfl
theorem B6s:U6 prog 79=some (false,1):=by kernel_rfl
theorem B6V:zer prog 78=some (.agg #[.int .u8 (0),.int .i64 (0)]):=by kernel_rfl
theorem B2V {h f b c g i k d q_1000} (n:Z0 h f [b]) (a:A7 (VI .i64) h c g) (o:Z0 h i k) (p:(VI .i64) h k d) (H:A6d g d=some q_1000):∀ L,FnZ prog 131 [.pointer (some f),.pointer (some i)] h (F5 3 1 b c::L) (fun v h' L'=>∃ m,v=.tuple #[]∧L'=F5 3 1 b m::L∧A7 (VI .i64) h' m q_1000):=by
 intro L
 obtain rfl:=p
 refine FnZ.enter func131 z ntmps131 z<|Rg<|Vv (V.S9 E5 z n z)<|Vv (V.S9 D7 z o z)<|bE H fun t e H=>?_
 obtain ⟨u,w,rfl⟩:=A7.get a e
 refine Vv (V.ixR A9 z z (j:=0) z (A7.bd a e))<|bE H fun q r H=>To (O.stR D7 z z (j:=0) z (A7.bdN a e) z<|have s:A7 (VI .i64) h (c.set d.toNat [qi (-1)]) q:=A7.set a (show (VI .i64) h [qi (-1)] (-1:Int) from z) r; Ni ?_)
 cases H
 exact T.A0Q results131 Lr ⟨_,z,z,s⟩
theorem C3K (n:Nat):∀ {h:PH} {σ:Type} {R:σ→PH→List D9→Prop} {pv0:Value} {h1:M0} (pr0:Pt T9 h pv0 h1) {pv1:Value} {pcs1:List (List Value)} {part2:List Int} (pr1:A7 (VI .i64) h pcs1 part2) {pv2:Value} {yield4:σ→(List Int)→Option (σ×Bool)} (pr2:A8L R h pv2 yield4) {s0:σ} {La:List D9} (hRa:R s0 h La) {r_0:Bool} {q_1:List Int} {q_s:σ} (H:A6g n h1 part2 yield4 s0=some (r_0,q_1,q_s)) (As L:List D9),J6 prog 70 [pv0,pv1,pv2] h (F5 3 1 pv1 pcs1::(As ++ (La ++ L))) (fun v h' L'=>∃ ls0 La',v=.bool r_0∧L'=F5 3 1 pv1 ls0::(As ++ (La' ++ L))∧A7 (VI .i64) h' ls0 q_1∧R q_s h' La'):=by
  induction n with
  | zero=>intros; rename_i H _ _; cases H
  | succ n self=>
    intro h σ R pv0 h1 pr0 pv1 pcs1 part2 pr1 pv2 yield4 pr2 s0 La hRa r_0 q_1 q_s H As L
    refine J6.B5X func70 z ntmps70 z<|Sr<|T.Q9 0 z fun b2 ak=>To (O.U5 z ak z fun b3 b4 B e=>An z<|T.scope<|Sq<|Sq<|T.N8 (t:=(.vs [0,1,2,3,4] (.alt 5 (.g (.vs [6,7,8] (.alt 9 (.alt 10 .done .no) .no))) .no))) 12 1 1 z z I5 (by kernel_rfl) ?_)
    refine Tm z z<|have am:=pr0; ?_
    obtain ⟨b5,_,rfl,C,⟨an,ao,ap,aq,ar,au,aw,ax,ay,rfl,S,aA,aB,aC,aD,aE,U,aG,aI⟩⟩:=am
    refine TL z z z z A6G I9 C.u z<|Tv z (V.S9 E5 z e z)<|bE H fun ⟨aJ,aK⟩ aM H=>Tp z z (X3 [0] [0] z z) (O.G9 z (J6.A6P (val:=.tuple #[qi aJ,.bool aK]) func130 z A1N fun b6 b7 aN=>?_) z fun b8 b9 bh D aO=>?_) T.P5
    ·have aP:=A7.slc aN pr1.u
     exact C1U S.u aP aM _
    obtain ⟨rfl,aS⟩:=aO
    refine P7 _ aS<|T.O1 Li<|Tm z z<|Tv z (V.ext z z)<|Tv z (V.ext z z)<|Ts z z (X3 [0] [0] z z) (V.asg z) z ?_ T.P5
    refine Ts z z (X3 [0] [0] z z) (V.asg z) z ?_ T.P5
    refine T.O7 (X3 [0] [0] z z)<|Th<|Sm z<|Nt<|T.cH H z (fun H=>?_) fun H=>?_
    ·refine Sg z<|Nr<|Tr<|T.sgR<|T.A6l<|have aU:=(B.trans D); have aV:=pr2.2.1 _ _ _ _ aU hRa; ?_
     cases H
     exact T.A1U (L':=F5 3 1 pv1 pcs1::(As ++ (La ++ L))) results70 (Rv z) Li (fun _ iv=>iv) ⟨_,La,z,z,pr1.u,aV⟩
    refine Ks<|Sr<|Vv (V.S9 E5 z e.u z)<|bE H fun c aW H=>To (O.G9 z (J6.A6P (val:=qi c) func84 z A1N fun bl bv aX=>?_) z fun bz ca cb W aY=>?_)
    ·have aZ:=A7.slc aX pr1.u
     exact B3u aZ aW _
    obtain ⟨rfl,a0⟩:=aY
    refine P7 _ a0<|To (O.alloc K8 z z fun cc=>To (O.stF (vs:=[qi c]) D7 z z (j:=0) z z z z<|T.freeze fun cd X a1=>have y:=Z0.of a1; Nt<|Sq<|Sr<|Vv (V.S9 D7 z y z)<|Wl z z<|Nt<|T.cH H z (fun H=>?_) fun H=>?_))
    ·refine Sm z<|Vv (V.S9 E5 z e.u z)<|bE H fun ⟨ce,cf⟩ a2 H=>have a3:=(((B.trans D).trans W).trans X); have a4:=pr2.2.1 _ _ _ _ a3 hRa; To (O.A3R z z (A8L.call pr2.u pr1.u a4 a2 As _) z fun cg ci cj ck a5=>?_)
     obtain ⟨E,Y,rfl,a6,a7,a8⟩:=a5
     refine P7 (F5 3 1 pv1 Y::(As ++ (E ++ L))) a6<|Ag z<|Nr<|Tr<|T.sgR<|T.A6l ?_
     cases H
     exact T.A1U (L':=F5 3 1 pv1 Y::(As ++ (E ++ L))) results70 (Rv z) Li (fun _ iv=>iv) ⟨_,E,z,z,a8,a7⟩
    refine Ks<|Sr<|Vv (V.mkf z z)<|To (T.dfr z<|Nt<|Sq<|T.label<|Th<|Sq<|Sm z<|NL z A0o E5 C.u z<|Vv (V.Q3 A9 z U)<|Mv z<|Nt ?_)
    obtain ⟨a9,ah,Z⟩:=K4 H
    have H:=ah
    refine Bl<|have al:=(((B.trans D).trans W).trans X); have av:=pr2.2.1 _ _ _ _ al hRa; T.lk [0,2,4,9,35] (FUEL,s0,part2,(0:Int),La,pcs1) (fun ⟨q,i,m,d,a,b⟩=>([(1,pv1),(36,qi d)],F5 3 1 pv1 b::(As ++ (a ++ L)),fun hh=>iter (A6N (A6g n) h1 yield4 c) q (i,m,d)=some a9∧R i hh a∧A7 (VI .i64) hh b m)) ⟨H,av,pr1.u⟩ ?_
    rintro ⟨q,i,m,d,a,b⟩ az cm ⟨ba,G,f⟩
    obtain ⟨bb,cn,rfl,H,I⟩:=G8 ba
    refine T.norm [1,36,0,2,4,9,35] z<|P7 (F5 3 1 pv1 b::(As ++ (a ++ L))) z<|Sr<|Wl z z<|Nt<|Sq<|T.cH H z (fun H=>?_) fun H=>?_
    ·refine Ks<|Sq ?_
     obtain ⟨bc,be,aa⟩:=K4 H
     refine T.ck (α:=σ×(List Int)×(List D9)×(List (List Value))) [0,2,4,9,35,36] (fun ⟨r,s,o,p⟩=>([(1,pv1)],F5 3 1 pv1 p::(As ++ (o ++ L)),fun hh=>bc=(Sum.inl (r,s))∧R r hh o∧A7 (VI .i64) hh p s)) ?_ ?_
     ·have H:=be
      refine Bl<|Sm z<|An z<|Sq<|Sr<|Vv (V.S9 E5 z e.u z)<|Vv (V.A4x A9 z (j:=0) z f.len)<|Mv z<|Nt ?_
      obtain ⟨bf,bg,ab⟩:=K4 H
      have H:=bg
      refine Bl<|T.lk [0,1,2,4,9,10,35,36,39,40] (FUEL,(0:Int)) (fun ⟨w,x⟩=>([(41,qi x)],F5 3 1 pv1 b::(As ++ (a ++ L)),fun hh=>iter (A4G i m d) w x=some bf)) H ?_
      rintro ⟨w,x⟩ ac ad bi
      obtain ⟨bj,co,rfl,H,J⟩:=G8 bi
      refine T.norm [41,0,1,2,4,9,10,35,36,39,40] z<|P7 (F5 3 1 pv1 b::(As ++ (a ++ L))) z<|Sr<|Wl z z<|Nt<|Sq<|T.cH H z (fun H=>?_) fun H=>?_
      ·refine Ks<|Sq<|Bl<|Sr<|bE H fun cp ae H=>?_
       obtain ⟨cq,bk,rfl⟩:=A7.get f ae
       refine Vv (V.ixR A9 z z (j:=0) z (A7.bd f ae))<|Vv (V.ldR D7 z (j:=0) z bk z)<|An z<|Sm z<|Mv z<|We z z<|Nt<|T.cH H z (fun H=>?_) fun H=>?_
       ·refine T.exit<|T.blX z<|Te<|Te<|have H:=D6 H J; T.blX z<|Te<|have H:=I7 H ab; Be<|Th<|have bm:=pr2.2.1 _ _ _ _ ad G; T.mt (i,m,a,b) ⟨(M7 H),bm,f.u⟩
       refine T.skip<|Bn<|Th<|Rg<|bE H fun bn bo H=>Vv (V.H8 z z bo)<|Mv z<|Nt<|T.ag (bj,bn) (D8 H J)
      refine T.exit<|Te<|Te<|have H:=D6 H J; Be<|Th<|have H:=I7 H ab; Sr<|Vv (V.S9 E5 z e.u z)<|Vv (V.S9 D7 z y.u z)<|Mv z<|bE H fun cr K H=>?_
      obtain ⟨cs,ct,rfl⟩:=A7.get f K
      refine Vv (V.ixR A9 z z (j:=0) z (A7.bd f K))<|bE H fun bp bq H=>To (O.stR D7 z z (j:=0) z (A7.bdN f K) z<|have br:A7 (VI .i64) ac (b.set c.toNat [qi d]) bp:=A7.set f.u (show (VI .i64) ac [qi d] d from z) bq; Nt<|Sq<|Sm z<|Vv (V.S9 E5 z e.u z)<|Mv z<|have bs:=pr2.2.1 _ _ _ _ ad G; bE H fun ⟨cu,cw,bt⟩ bu H=>To (O.G9 z (self (Pt.mk C.u ⟨an,ao,ap,aq,ar,au,aw,ax,ay,z,S.u,aA.u,aB.u,aC.u,aD.u,aE.u,U.u,aG.u,aI.u⟩) br pr2.u bs bu As _) z fun cx M cy cA bw=>?_))
      obtain ⟨af,N,rfl,bx,A,ai⟩:=bw
      refine P7 _ bx<|Vv (V.not z)<|Nt<|T.cH H z (fun H=>?_) fun H=>?_
      ·refine Sg z<|Nr<|Tr<|Br<|Tr<|have H:=D2W H aa; Tr<|have H:=D6 H I; Br<|Tr<|have H:=I7 H Z; T.sgR<|T.A6l<|bE H fun cB bA H=>T.lvZ (B2V e.u A y.u (show (VI .i64) M [qi c] c from z) bA _) fun cC cD cE bB bC=>?_
       obtain ⟨bD,rfl,bG,bI⟩:=bC
       refine P7 _ bG<|have bJ:=pr2.2.1 _ _ _ _ bB ai; ?_
       cases H
       exact T.A1U (L':=F5 3 1 pv1 bD::(As ++ (N ++ L))) results70 (Rv z) Li (fun _ iv=>iv) ⟨_,N,z,z,bI,bJ⟩
      refine Ks<|Rg<|Vv (V.S9 E5 z e.u z)<|Vv (V.S9 D7 z y.u z)<|bE H fun cG P H=>?_
      obtain ⟨cI,cJ,rfl⟩:=A7.get A P
      refine Vv (V.ixR A9 z z (j:=0) z (A7.bd A P))<|bE H fun aj bK H=>To (O.stR D7 z z (j:=0) z (A7.bdN A P) z<|have bM:A7 (VI .i64) M (af.set c.toNat [qi (-1)]) aj:=A7.set A (show (VI .i64) M [qi (-1)] (-1:Int) from z) bK; Ni<|Bn<|Th<|T.mt (bt,aj,N,(af.set c.toNat [qi (-1)])) ⟨(M7 H),ai,bM⟩)
     rintro ⟨r,s,o,p⟩ cK cM ⟨bN,bO,bP⟩
     have H:=I7 bN aa
     refine T.norm [1,0,2,4,9,35,36] z<|P7 (F5 3 1 pv1 p::(As ++ (o ++ L))) z<|Rg<|bE H fun bS bU H=>Vv (V.H8 z z bU)<|Mv z<|Nt<|T.ag (bb,r,s,bS,o,p) ⟨(D8 H I),bO,bP⟩
    refine T.exit<|Te<|Te<|have H:=D6 H I; Be<|Th<|have H:=I7 H Z; Sg z<|Nr<|T.sgR<|T.A6l<|bE H fun cN bV H=>T.lvZ (B2V e.u f y.u (show (VI .i64) az [qi c] c from z) bV _) fun cO cP cS bW bX=>?_
    obtain ⟨bY,rfl,bZ,b0⟩:=bX
    refine P7 _ bZ<|have b1:=pr2.2.1 _ _ _ _ bW G; ?_
    cases H
    exact T.A1U (L':=F5 3 1 pv1 bY::(As ++ (a ++ L))) results70 (Rv z) Li (fun _ iv=>iv) ⟨_,a,z,z,b0,b1⟩
theorem A3m {σ:Type} {R:σ→PH→List D9→Prop} {a:σ→(List Int)→Option (σ×Bool)} {b:σ} {q_s:σ} {h c La d e f g i j} (k:A8L R h c a) (hRa:R b h La) (m:Z0 h d e) (n:(VPt T9) h e f) (o:Z0 h g i) (p:(VSl (VI .i64) 1) h i j) (H:A2d a b f j=some q_s):∀ As L,J6 prog 69 [c,.pointer (some d),.pointer (some g)] h ((As ++ (La ++ L))) (fun v h' L'=>∃ La',v=.tuple #[]∧L'=(As ++ (La' ++ L))∧R q_s h' La'):=by
 intro As L
 obtain ⟨J,rfl,q⟩:=n
 obtain ⟨K,rfl,r⟩:=p
 refine J6.enter func69 z z z<|T.N8 (t:=(.vs [0,1,3] (.alt 2 (.alt 4 .done .no) .no))) 6 0 0 z z I5 (by kernel_rfl) ?_
 refine Tv z (V.S9 Q5 z m z)<|Tv z (V.S9 E5 z o z)<|Tm z z<|bE H fun M s H=>Tp z z (X2 z z) (O.G9 z (A1C r s _) z fun N P S w x=>?_) T.P5
 obtain ⟨U,y,A⟩:=x
 refine P7 _ y<|have B:=k.2.1 _ _ _ _ w hRa; bE H fun ⟨W,X,Y⟩ C H=>Tp z z (SX.two (XA.fr [] Li z) (XA.fr [] Li z)) (O.G9 z (C3K _ q.u A k.u B C As _) z fun Z aa ab ac D=>?_) T.P5
 obtain ⟨ad,E,rfl,G,ae,I⟩:=D
 refine P7 _ G<|T.O7 (SX.two (XA.fr [] Li z) (XA.fr [] Li z))<|T.drop ?_
 cases H
 exact T.A0Q results69 Li ⟨E,z,z,I⟩
theorem A4R {h b c d e a} (f:Pt T9 h b c) (g:F8 (VI .i64) 1 h d e) (H:A3Q c e=some a):∀ L,J6 prog 28 [b,d] h (L) (fun v h' L'=>∃ p0_1 v0_3 p0_5 v0_7,v=.func (.func 69) #[] #[.pointer (some p0_1),.pointer (some p0_5)]∧L'=L∧Z0 h' p0_1 [v0_3]∧Pt T9 h' v0_3 a.1∧Z0 h' p0_5 [v0_7]∧F8 (VI .i64) 1 h' v0_7 a.2):=by
 intro L
 refine J6.enter func28 z z z<|Sr<|To (O.U5 z (Pt.cells f) z fun k m n i=>To (O.U5 z (F8.cells g) z fun o p q j=>An z<|Sr<|Vv (V.mkf z z)<|Ag z<|Nr ?_))
 cases H
 exact T.rl z (Rv z) ⟨_,_,_,_,z,z,i.u,f.u,j,g.u⟩
theorem B3z {h a r1 v0_1 v0_3 v0_5 css0_6 b o_} (hP0_2:Pt T9 h v0_1 r1.A9E) (hS0_4:F8 A3v 2 h v0_3 r1.A2E) (hR0_7:A7 (VI .i64) h css0_6 r1.R5) (H:B2W r1 b=some o_):∀ L,FnE prog 74 [.pointer (some ⟨a,0,none⟩),.int .i64 b] h (blk a (.cells [v0_1,.int .i64 r1.A7j,v0_3,.int .i64 r1.fat,v0_5].toArray 153)::F5 3 1 v0_5 css0_6::L) (PE (fun q_0 v h' L'=>∃ vl0_1 cssl0_2,v=.tuple #[]∧L'=blk a (.cells [v0_1,.int .i64 r1.A7j,v0_3,.int .i64 q_0.1,vl0_1].toArray 153)::F5 3 1 vl0_1 cssl0_2::L∧A7 (VI .i64) h' cssl0_2 q_0.2) (fun x_=>.iface 150 (.agg #[.int .i64 x_.fat,.int .i64 x_.fe])) L o_):=by
 intro L
 refine FnE.enter func74 z ntmps74 z<|Rg<|Mv z<|NF z A0a<|Vv (V.ldO (k:=3) D7 z (j:=0) z z)<|Mv z<|Vv (V.bld (xs:=[(0,.tmp 7),(1,.tmp 8)]) (cs:=[_,_]) C1T C1v z (F4.cons z z z (F4.cons z z z F4.nil)))<|Vv (V.mki B5r z)<|To (O.panic z<|T.drop<|T.drop ?_)
 cases H
 exact T.D0E (P:=prog) (fn:=Tryz.f74) Lr (PE.pan z)
theorem B2Z (n:Nat):∀ {h:PH} {pb0:Nat} {r1:Q8} {v0_1:Value} {v0_3:Value} {v0_5:Value} {css0_6:List (List Value)} (hP0_2:Pt T9 h v0_1 r1.A9E) (hS0_4:F8 A3v 2 h v0_3 r1.A2E) (hR0_7:A7 (VI .i64) h css0_6 r1.R5) {last2:Int} {o_:(Int×(List Int))⊕Z5} (H:B0Q n r1 last2=some o_) (L:List D9),FnE prog 73 [.pointer (some ⟨pb0,0,none⟩),.int .i64 last2] h (blk pb0 (.cells [v0_1,.int .i64 r1.A7j,v0_3,.int .i64 r1.fat,v0_5].toArray 153)::F5 3 1 v0_5 css0_6::L) (PE (fun q_0 v h' L'=>∃ vl0_1 cssl0_2,v=.tuple #[]∧L'=blk pb0 (.cells [v0_1,.int .i64 r1.A7j,v0_3,.int .i64 q_0.1,vl0_1].toArray 153)::F5 3 1 vl0_1 cssl0_2::L∧A7 (VI .i64) h' cssl0_2 q_0.2) (fun x_=>.iface 150 (.agg #[.int .i64 x_.fat,.int .i64 x_.fe])) L o_):=by
  induction n with
  | zero=>intros; rename_i H _; cases H
  | succ n self=>
    intro h pb0 r1 v0_1 v0_3 v0_5 css0_6 hP0_2 hS0_4 hR0_7 last2 o_ H L
    refine FnE.enter func73 z ntmps73 z<|Sq<|Sq<|T.N8 (t:=(.vs [0,1,2,3,4,5,6,7,8,9] .done)) 11 1 1 z z I5 (by kernel_rfl) ?_
    refine Tm z z<|TF z z z A0a<|Tv z (Val.XA fun _ _ _=>V.ldO (k:=3) D7 z (j:=0) z z)<|Tm z z<|TF z z z B2D<|Tv z (Val.XA fun _ _ _=>V.ldO (k:=2) B6s z (j:=0) z z)<|Tv z (V.Q3 A3g z hS0_4)<|Tv z (V.eq z z)<|T.O7 (X3 [0] [0] z z)<|Th<|T.cH H z (fun H=>?_) fun H=>?_
    ·refine Rg<|Mv z<|bE H fun ax ay H=>?_
     rcases ax with br | bs
     rotate_left
     ·refine To (O.C6G z (B3z (r1:=(Q8.mk r1.A9E r1.A7j r1.A2E r1.fat r1.R5)) hP0_2 hS0_4 hR0_7 ay _) (fun _ _ _ q=>q) fun bt bu=>?_)
      cases H
      exact T.D0E (P:=prog) (fn:=Tryz.f73) Li (PE.pan z)
     exact dead H
    refine Ks<|Sq<|T.N8 (t:=(.vs [0,1,2,3,4,5,6,7,8,9] (.alt 10 (.alt 11 .done .no) .no))) 13 1 1 z z I5 (by kernel_rfl) ?_
    refine Tm z z<|TF z z z B2D<|Tv z (Val.XA fun _ _ _=>V.ldO (k:=2) B6s z (j:=0) z z)<|Tm z z<|TF z z z A0a<|Tv z (Val.XA fun _ _ _=>V.ldO (k:=3) D7 z (j:=0) z z)<|bE H fun o G H=>?_
    obtain ⟨bw,aA,rfl⟩:=F8.at hS0_4 G
    refine Tv z (V.ix A3g z z hS0_4 (E9 G))<|Tv z (V.ldS z aA (by exact B6D)) ?_
    refine Tp z z (X3 [0] [0] z z) (O.alloc B6V z z fun bx=>?_) T.P5
    refine Tp z z (X3 [1] [1] z z) (O.stF (vs:=[.int .u8 o.H6,qi o.fN]) B6D z z (j:=0) z z z z ?_) T.P5
    refine T.fl ?_
    refine T.freeze fun bA bB aB=>have a:=Z0.of aB; T.O7 (SX.two (XA.fr [0] Li z) (XA.fr [0] Li z))<|Th<|Sq<|Sr<|Vv (V.fa B9E z)<|Vv (V.M5 (k:=0) C3I z a z)<|Nt<|Bl<|Sr<|We z z<|An z<|T.cH H z (fun H=>?_) fun H=>?_
    ·refine Sq<|Sq<|T.N8 (t:=(.vs [0,1,2,3,4,5,6,7,8,9,10,11,12,13,14,15,16,17,18,19,20,21,22,23] .done)) 25 2 2 z z I5 (by kernel_rfl) ?_
     refine Tv z (V.fa X6 z)<|Tv z (V.M5 (k:=1) D7 z a z)<|Tv z (V.lt z z)<|Tm z z<|T.bH 37 H z dead fun H=>Tv z (V.fa X6 z)<|Tv z (V.M5 (k:=1) D7 z a z)<|Tm z z<|TF z z z A1k<|Tv z (Val.XA fun _ _ _=>V.ldO (k:=4) E5 z (j:=0) z z)<|Tv z (Val.XA fun _ _ _=>V.A4x A9 z (j:=1) z hR0_7.len)<|Tv z (V.ge z z)<|Tv z (V.pkF z z)<|Tm z z<|T.bH 47 H z dead fun H=>Tm z z<|TF z z z A1k<|Tv z (Val.XA fun _ _ _=>V.ldO (k:=4) E5 z (j:=0) z z)<|Tv z (V.fa X6 z)<|Tv z (V.M5 (k:=1) D7 z a z)<|bE H fun bC I H=>?_
     obtain ⟨bD,aC,rfl⟩:=A7.get hR0_7 I
     refine Tv z (Val.XA fun _ _ _=>V.ixR A9 z z (j:=1) z (A7.bd hR0_7 I))<|Tv z (Val.XA fun _ _ _=>V.ldR D7 z (j:=1) z aC z)<|Tv z (V.ge z z)<|Tv z (V.pkF z z)<|T.O7 (X3 [1,1] [1,1] z z)<|Th<|T.cH H z dead fun H=>Ks<|Sq<|T.norm [0,4] z<|T.fl ?_
     refine Rg<|Mv z<|NF z A0a<|Vv (V.ldO (k:=3) D7 z (j:=0) z z)<|bE H fun J aD H=>Vv (V.H8 z z aD)<|NF z A0a<|To (O.st (vs:=[qi J]) (k:=3) D7 z z (j:=0) z z z<|Nt<|Sq<|Sm z<|NF z A3x<|Vv (V.ldO (k:=0) Q5 z (j:=0) z z)<|have aE:=hP0_2; ?_)
     obtain ⟨aG,_,rfl,w,⟨K,M,N,S,U,W,X,Y,Z,rfl,aa,ab,ac,ad,ae,af,y,ai,aj⟩⟩:=aE
     refine NL z A0o E5 w.u z<|Vv (V.Q3 A9 z y)<|Mv z<|Nt ?_
     obtain ⟨aI,aJ,ak⟩:=K4 H
     have H:=aJ
     refine Bl<|T.lk [0,4,74] (FUEL,J,r1.R5,(0:Int),v0_5,css0_6) (fun ⟨p,b,e,c,f,d⟩=>([(75,qi c)],blk pb0 (.cells [.pointer (some aG),qi r1.A7j,v0_3,qi b,f].toArray 153)::F5 3 1 f d::L,fun hh=>iter (B3p (B0Q n) r1 o) p (b,e,c)=some aI∧A7 (VI .i64) hh d e)) ⟨H,hR0_7.u⟩ ?_
     rintro ⟨p,b,e,c,f,d⟩ bG bI ⟨aK,m⟩
     obtain ⟨am,bJ,rfl,H,r⟩:=G8 aK
     refine T.norm [75,0,4,74] z<|T.fl ?_
     refine Sr<|Wl z z<|Nt<|Sq<|T.cH H z (fun H=>?_) fun H=>?_
     ·refine Ks<|Sq<|Bl<|Sm z<|An z<|Sm z<|NF z A1k<|Vv (V.ldO (k:=4) E5 z (j:=0) z z)<|Mv z<|Fr_ 1 z<|bE H fun aM aN H=>To (O.G9 z (J6.A6P (val:=.bool aM) func39 z A1N fun bK bM aO=>?_) z fun bN an bO bP aP=>?_)
      ·have aS:=A7.slc aO m.u
       exact A1Z aS aN _
      obtain ⟨rfl,aU⟩:=aP
      refine P7 _ aU<|Vv (V.not z)<|Nt<|T.cH H z (fun H=>?_) fun H=>?_
      ·refine Sq<|Fr_ 1 z<|T.N8 (t:=(.vs [0,1,2,3,4,5,6] (.x 7 (.alt 8 .done .no)))) 8 2 1 z z I5 (by kernel_rfl) ?_
       refine Tm z z<|TF z z z A1k<|Tv z (Val.XA fun _ _ _=>V.ldO (k:=4) E5 z (j:=0) z z)<|Tv z (V.fa X6 z)<|Tv z (V.M5 (k:=1) D7 z a.u z)<|Tm z z<|bE H fun bS A H=>?_
       obtain ⟨bU,bV,rfl⟩:=A7.get m A
       refine T.tx z z (Val.XA fun _ _ _=>V.ixR A9 z z (j:=1) z (A7.bd m A)) z Calm.i<|bE H fun B aV H=>Tp z z (X3 [0] [1,1] z z) (O.stR D7 z z (j:=1) z (A7.bdN m A) z ?_) T.P5
       have ao:A7 (VI .i64) an (d.set o.fN.toNat [qi c]) B:=A7.set m.u (show (VI .i64) an [qi c] c from z) aV
       refine T.O7 (SX.one (XA.fr [1] Lr z) z)<|Th<|Sm z<|Vv (V.fa X6 z)<|Vv (V.M5 (k:=1) D7 z a.u z)<|Fr_ 1 z<|bE H fun aW ap H=>?_
       rcases aW with aX | bW
       rotate_left
       ·refine To (O.C6G z (self (r1:=(Q8.mk r1.A9E r1.A7j r1.A2E b B)) (Pt.mk w.u ⟨K,M,N,S,U,W,X,Y,Z,z,aa.u,ab.u,ac.u,ad.u,ae.u,af.u,y.u,ai.u,aj.u⟩) hS0_4.u ao ap _) (fun _ _ _ q=>q) fun bX bY=>have H:=D6 H r; have H:=I7 H ak; ?_)
        cases H
        exact T.D0E (P:=prog) (fn:=Tryz.f73) Li (PE.pan z)
       refine To (O.G9 z (FnE.toS (self (r1:=(Q8.mk r1.A9E r1.A7j r1.A2E b B)) (Pt.mk w.u ⟨K,M,N,S,U,W,X,Y,Z,z,aa.u,ab.u,ac.u,ad.u,ae.u,af.u,y.u,ai.u,aj.u⟩) hS0_4.u ao ap _) fun _ _ _ q=>q) z fun bZ aq b0 b1 aY=>?_)
       obtain ⟨aZ,ar,rfl,a0,s⟩:=aY
       refine P7 _ a0<|Nt<|T.N8 (t:=(.vs [0,1,2,3,4,5] (.x 6 (.alt 7 .done .no)))) 7 2 1 z z I5 (by kernel_rfl) ?_
       refine Tm z z<|TF z z z A1k<|Tv z (Val.XA fun _ _ _=>V.ldO (k:=4) E5 z (j:=0) z z)<|Tv z (V.fa X6 z)<|Tv z (V.M5 (k:=1) D7 z a.u z)<|bE H fun b2 C H=>?_
       obtain ⟨b3,b4,rfl⟩:=A7.get s C
       refine T.tx z z (Val.XA fun _ _ _=>V.ixR A9 z z (j:=1) z (A7.bd s C)) z Calm.i<|bE H fun au a1 H=>Tp z z (X3 [0] [1,1] z z) (O.stR D7 z z (j:=1) z (A7.bdN s C) z ?_) T.P5
       have a2:A7 (VI .i64) aq (ar.set o.fN.toNat [qi (-1)]) au:=A7.set s (show (VI .i64) aq [qi (-1)] (-1:Int) from z) a1
       refine T.O7 (SX.one (XA.fr [1] Lr z) z)<|Bn<|Th<|T.norm [0,4,74,75] z<|T.fl ?_
       refine Rg<|bE H fun a3 a4 H=>Vv (V.H8 z z a4)<|Mv z<|Nt<|Fr_ 1 z<|T.ag (am,aX.1,au,a3,aZ,(ar.set o.fN.toNat [qi (-1)])) ⟨(D8 H r),a2⟩
      refine T.skip<|Bn<|Th<|Rg<|bE H fun a5 a6 H=>Vv (V.H8 z z a6)<|Mv z<|Nt<|Fr_ 1 z<|T.ag (am,b,e,a5,f,d) ⟨(D8 H r),m.u⟩
     refine T.exit<|Te<|Te<|have H:=D6 H r; Be<|Th<|have H:=I7 H ak; T.ret<|Br<|Tr ?_
     cases H
     exact T.D2L results73 Li (PE.ret ⟨_,_,z,z,m⟩)
    refine Sr<|We z z<|An z<|T.cH H z (fun H=>?_) fun H=>?_
    ·refine Sq<|T.N8 (t:=(.vs [0,1,2,3,4,5,6,7,8,9,10,11,12,13,14,15,16,17,18,19,20,21,22,23,24,25,26,27,28,29,30,31,32,33,34,35,36,37,38,39,40,41,42,43,44,45,46] (.alt 47 (.g (.v 48 (.v 49 .done))) .no))) 51 2 2 z z I5 (by kernel_rfl) ?_
     refine Tv z (V.fa X6 z)<|Tv z (V.M5 (k:=1) D7 z a z)<|Tv z (V.lt z z)<|Tm z z<|T.bH 110 H z dead fun H=>Tv z (V.fa X6 z)<|Tv z (V.M5 (k:=1) D7 z a z)<|Tm z z<|TF z z z A3x<|Tv z (Val.XA fun _ _ _=>V.ldO (k:=0) Q5 z (j:=0) z z)<|have a7:=hP0_2; ?_
     obtain ⟨b5,_,rfl,D,⟨b6,b7,b8,b9,bh,bl,bv,bz,ca,rfl,a8,cb,cc,cd,ce,E,cf,cg,ci⟩⟩:=a7
     refine TF z z z B1f<|Tv z (V.fa Y3 z)<|Tv z (V.M5 (k:=5) Y4 z D.u z)<|Tv z (V.Q3 U9 z E)<|Tv z (V.ge z z)<|Tv z (V.pkF z z)<|Tm z z<|T.bH 124 H z dead fun H=>Tm z z<|TF z z z A3x<|Tv z (Val.XA fun _ _ _=>V.ldO (k:=0) Q5 z (j:=0) z z)<|TF z z z B1f<|Tv z (V.fa Y3 z)<|Tv z (V.M5 (k:=5) Y4 z D.u z)<|Tv z (V.fa X6 z)<|Tv z (V.M5 (k:=1) D7 z a z)<|bE H fun cj aw H=>?_
     obtain ⟨ck,a9,rfl⟩:=F8.at E aw
     refine Tv z (V.ix U9 z z E (E9 aw))<|Tv z (V.fa A4d z)<|Tv z (V.M5 (k:=1) D7 z a9.u z)<|Tv z (V.gt z z)<|Tv z (V.pkF z z)<|Tm z z<|T.bH 140 H z dead fun H=>Tm z z<|TF z z z A3x<|Tv z (Val.XA fun _ _ _=>V.ldO (k:=0) Q5 z (j:=0) z z)<|TL z z z z A6G I9 D.u z<|Tm z z<|TF z z z A1k<|Tv z (Val.XA fun _ _ _=>V.ldO (k:=4) E5 z (j:=0) z z)<|Tv z (V.fa X6 z)<|Tv z (V.M5 (k:=1) D7 z a z)<|Fr_ 1 z<|bE H fun ah al H=>Tp z z (X3 [0,1] [0,1] z z) (O.G9 z (J6.A6P (val:=qi ah) func133 z A1N fun cm cn av=>?_) z fun co cp cq cr az=>?_) T.P5
     ·have ba:=A7.slc av hR0_7.u
      exact C0p a8.u ba al _
     obtain ⟨rfl,bb⟩:=az
     refine P7 _ bb<|T.O1 Li<|Tv z (V.eq z z)<|Tv z (V.pkF z z)<|T.O7 (X3 [0,1] [0,1] z z)<|Th<|T.cH H z dead fun H=>T.skip<|Bn<|Th<|T.norm [0] z<|T.fl ?_
     refine Rg<|Mv z<|NF z A0a<|Vv (V.ldO (k:=3) D7 z (j:=1) z z)<|bE H fun bc be H=>Vv (V.H8 z z be)<|NF z A0a<|To (O.st (vs:=[qi bc]) (k:=3) D7 z z (j:=1) z z z<|Ni ?_)
     cases H
     exact T.D1e results73 Li (PE.ret ⟨_,_,z,z,hR0_7.u⟩)
    refine Sr<|We z z<|An z<|T.cH H z dead fun H=>Sr<|We z z<|An z<|T.cH H z (fun H=>?_) fun H=>?_
    ·refine Sq<|T.norm [0,1,4] z<|T.fl ?_
     refine T.N8 (t:=(.vs [0,1,2,3,4,5,6,7,8,9,10,11,12,13] (.alt 14 (.g (.v 15 (.v 16 .done))) .no))) 18 2 2 z z I5 (by kernel_rfl) ?_
     refine Tm z z<|Tv z (V.lt z z)<|Tm z z<|T.bH 191 H z dead fun H=>Tm z z<|TF z z z A3x<|Tv z (Val.XA fun _ _ _=>V.ldO (k:=0) Q5 z (j:=0) z z)<|Tm z z<|TF z z z A1k<|Tv z (Val.XA fun _ _ _=>V.ldO (k:=4) E5 z (j:=0) z z)<|Tm z z<|Tv z (V.fa X6 z)<|Tv z (V.M5 (k:=1) D7 z a z)<|Fr_ 1 z<|bE H fun bf bg H=>Tp z z (X3 [0,1] [0,1] z z) (O.G9 z (J6.A6P (val:=.bool bf) func135 z A1N fun cs ct bi=>?_) z fun cu cw cx cy bj=>?_) T.P5
     ·have bk:=A7.slc bi hR0_7.u
      exact C1R hP0_2.u bk bg _
     obtain ⟨rfl,bm⟩:=bj
     refine P7 _ bm<|T.O1 Li<|Tv z (V.not z)<|Tv z (V.pkF z z)<|T.O7 (X3 [0,1] [0,1] z z)<|Th<|T.cH H z (fun H=>?_) fun H=>?_
     ·refine Rg<|Mv z<|Fr_ 1 z<|bE H fun bn bo H=>?_
      rcases bn with cA | cB
      rotate_left
      ·refine To (O.C6G z (B3z (r1:=(Q8.mk r1.A9E r1.A7j r1.A2E r1.fat r1.R5)) hP0_2.u hS0_4.u hR0_7.u bo _) (fun _ _ _ q=>q) fun cC cD=>?_)
       cases H
       exact T.D0E (P:=prog) (fn:=Tryz.f73) Li (PE.pan z)
      exact dead H
     refine T.skip<|Bn<|Th<|Rg<|Mv z<|NF z A0a<|Vv (V.ldO (k:=3) D7 z (j:=1) z z)<|bE H fun bp bq H=>Vv (V.H8 z z bq)<|NF z A0a<|To (O.st (vs:=[qi bp]) (k:=3) D7 z z (j:=1) z z z<|Ni ?_)
     cases H
     exact T.D1e results73 Li (PE.ret ⟨_,_,z,z,hR0_7.u⟩)
    exact dead H
end Go.Proofs.X
open Go Go.Proofs Go.Proofs.Tryz Go.Sl Go.Dm
namespace Go.Proofs.X
theorem C0Z:A5h prog 153=some ([.pointer none,.int .i64 (0),.slice none 0 0,.int .i64 (0),.slice none 0 0],[(0,1),(1,1),(2,1),(3,1),(4,1)]):=by kernel_rfl
theorem C0X:A0B prog 153=true:=by kernel_rfl
theorem B8Z:O5 prog 150 0=some 0:=by kernel_rfl
theorem B8V:O5 prog 150 1=some 1:=by kernel_rfl
theorem R9:U6 prog 35=some (false,1):=by kernel_rfl
theorem C1e:zer prog 150=some (.agg #[.int .i64 (0),.int .i64 (0)]):=by kernel_rfl
theorem B2n:zer prog 35=some (.int .i64 (0)):=by kernel_rfl
theorem A8P:zer prog 66=some (.pointer none):=by kernel_rfl
theorem B4H {h:PH} {b0 b1:Nat} (L:List D9):FnQ prog 72 [.pointer (some ⟨b0,0,none⟩),.pointer (some ⟨b1,0,none⟩)] h L (fun _ L'=>L'=L):=by
  refine FnQ.enter func72 rfl ntmps72 results72 rfl rfl rfl ?_
  refine T.seq ?_
  refine T.region ?_
  refine T.v rfl (V.mv rfl) rfl ?_
  refine T.v rfl (V.neN underlying20 rfl) rfl ?_
  refine T.nil ?_
  refine T.thN ?_
  refine T.D1f rfl ?_
  refine T.skip ?_
  exact T.D3d (Le.refl _) rfl
theorem B5H {h:PH} {pb0:Nat} {t1:Int}  {pb1:Nat} {t2:Int}  {x_:Z5} {q_0:Int} {q_1:Int} (H:B8C t1 t2 x_=some (q_0,q_1)):∀ L,FnR prog 72 [.pointer (some ⟨pb0,0,none⟩),.pointer (some ⟨pb1,0,none⟩)] h (blk pb0 (.cells [.int .i64 t1].toArray 3)::blk pb1 (.cells [.int .i64 t2].toArray 35)::L) (.iface 150 (.agg #[.int .i64 x_.fat,.int .i64 x_.fe])) (fun h' L'=>L'=blk pb0 (.cells [.int .i64 q_0].toArray 3)::blk pb1 (.cells [.int .i64 q_1].toArray 35)::L):=by
  intro L
  refine FnR.enter func72 rfl ntmps72 results72 rfl rfl rfl ?_
  refine T.seq ?_
  refine T.region ?_
  refine T.v rfl (V.mv rfl) rfl ?_
  refine T.v rfl (V.neI underlying20 rfl) rfl ?_
  refine T.nil ?_
  refine T.thN ?_
  refine T.D1a rfl ?_
  refine T.seq ?_
  refine T.region ?_
  refine T.v rfl (V.mv rfl) rfl ?_
  refine T.v rfl (V.ta underlying150 rfl) rfl ?_
  refine T.op rfl (O.alloc C1e rfl rfl fun b3=>?_)
  refine T.op rfl (O.stF (vs:=[.int .i64 x_.fat,.int .i64 x_.fe]) B5r rfl rfl (j:=0) rfl rfl rfl rfl ?_)
  refine T.D1g (blk b3 (.cells [.int .i64 x_.fat,.int .i64 x_.fe].toArray 150)::blk pb0 (.cells [.int .i64 t1].toArray 3)::blk pb1 (.cells [.int .i64 t2].toArray 35)::L) rfl ?_
  refine T.freeze fun h4 le5 e6=>?_
  have hA7:=Z0.of e6
  refine T.nil ?_
  refine T.thN ?_
  refine T.N8 (t:=(.v 0 (.v 1 (.v 2 (.v 3 (.alt 4 (.alt 5 .done .no) .no)))))) 4 2 0 rfl rfl I5 (by kernel_rfl) ?_
  refine T.tv rfl rfl (V.fa B8Z rfl) rfl Calm.rec ?_
  refine T.tv rfl rfl (V.M5 (k:=0) D7 rfl hA7 rfl) rfl Calm.rec ?_
  refine T.tv rfl rfl (V.fa B8V rfl) rfl Calm.rec ?_
  refine T.tv rfl rfl (V.M5 (k:=1) R9 rfl hA7 rfl) rfl Calm.rec ?_
  refine T.top rfl rfl (SX.two (XA.fr [] (Le.refl _) rfl) (XA.fr [1,1] (Le.refl _) rfl)) (O.stF (vs:=[.int .i64 x_.fat]) D7 rfl rfl (j:=0) rfl rfl rfl rfl ?_) T.P5
  refine T.top rfl rfl (SX.one (XA.fr [] (Le.refl _) rfl) rfl) (O.stF (vs:=[.int .i64 x_.fe]) R9 rfl rfl (j:=1) rfl rfl rfl rfl ?_) T.P5
  refine T.O7 (SX.one (XA.fr [] (Le.refl _) rfl) rfl) ?_
  refine T.front 1 rfl ?_
  obtain ⟨rfl,rfl⟩:=inj2 H
  exact T.D3d Li rfl
theorem A7u {h e f b g c i m} (s:O8 h e f) (a:F8 A3v 2 h g c) (H:A7P f b c=some (i,m)):∀ L,FnW prog 33 [.agg e.toArray,.int .i64 b,g] h L (.tuple #[.int .i64 i,.int .i64 m]):=by
 intro L
 obtain ⟨t,w,x,y,A,rfl,B,C,D,E,G⟩:=s
 refine J6.D1t func33 z ntmps33 z<|Sr<|To (O.U5 z z z fun af ag ai I=>To (O.alloc K8 z z fun aj=>To (O.alloc B2n z z fun ak=>Nt<|Sr<|Vv (V.ldS z I (by exact J4)) ?_)))
 refine bE H fun ⟨am,an,J⟩ K H=>To (O.G9 z (A9U ⟨t,w,x,y,A,z,B.u,C.u,D.u,E.u,G.u⟩ K _) z fun ao ap aq ar M=>?_)
 obtain ⟨au,rfl,N,P⟩:=M
 refine P7 _ N<|Mv z<|Wx z z<|Wx z z<|Wx z z<|Ag z<|Ag z<|To (O.stF (vs:=[qi J]) R9 z z (j:=0) z z z z<|Nt<|Sq<|Sr<|Vv (V.A8Z R9 z (j:=0) z z)<|Wn z z<|Nt<|T.cH H z (fun H=>?_) fun H=>?_)
 ·exact dead H
 refine Ks<|Sq<|Sm z<|Vv (V.Q3 A3g z a)<|Wg z z<|Nt<|T.cH H z dead fun H=>Ks<|Sr<|Vv (V.mkf z z)<|To (T.dfr z<|Nt<|Sm z<|Mv z<|Mv z<|Mv z<|bE H fun n S H=>have d:=OPt.get P S; bE H fun o U H=>To (O.G9 z (A4g d U _) z fun aw ax ay aA W=>?_))
 obtain ⟨aB,X,p⟩:=W
 refine P7 _ X<|T.Q9 0 z fun aC Y=>Vv (V.bld (xs:=[(0,.tmp 24),(1,.tmp 25),(2,.tmp 26),(4,.tmp 28)]) (cs:=[_,_,_,_,_]) C0Z C0X z (F4.cons z (Pt.cells d) z (F4.cons z z z (F4.cons z (F8.cells a) z (F4.cons z Y z F4.nil)))))<|To (O.box z z z fun aD=>An z<|Sm z<|bE H fun Z r H=>?_)
 rcases Z with aE | aa
 rotate_left
 ·refine To (O.C6G z (B2Z _ (r1:=(Q8.mk n b c (0:Int) o)) d.u a.u p r _) (fun _ _ _ q=>q) fun aG aI=>Fr_ 1 z<|T.lvR (B5H (x_:=aa) (H:=z) _) fun aJ aK aM ab=>P7 _ ab ?_)
  cases H
  exact T.A1U (L':=L) results33 (RVs.cons (RV.cell D7 z (j:=0) z z) (RVs.cons (RV.cell R9 z (j:=1) z z) RVs.nil)) Li (fun _ iv=>iv.drop.drop) ⟨z,z⟩
 refine To (O.G9 z (FnE.toS (B2Z _ (r1:=(Q8.mk n b c (0:Int) o)) d.u a.u p r _) fun _ _ _ q=>q) z fun aN aO aP aS ac=>?_)
 obtain ⟨aU,aV,rfl,ad,aW⟩:=ac
 refine P7 _ ad<|Nt<|Sq<|Sm z<|NF z A0a<|Vv (V.ldO (k:=3) D7 z (j:=0) z z)<|Mv z<|Vv (V.Q3 A3g z a)<|Wl z z<|Nt<|T.cH H z dead fun H=>Ks<|Sq<|T.norm [6,7] z<|T.fl ?_
 refine Rg<|To (O.stF (vs:=[qi 0]) D7 z z (j:=3) z z z z<|T.fl ?_)
 refine To (O.stF (vs:=[qi 0]) R9 z z (j:=3) z z z z<|T.fl ?_)
 refine Nr<|T.D3c<|T.lvQ (B4H _) fun aX aY aZ ae=>P7 _ ae<|T.fs [2] ?_
 refine T.drop<|T.fs [2] ?_
 refine T.drop<|Fr_ 1 z ?_
 cases H
 exact T.A1U (L':=L) results33 (RVs.cons (RV.cell D7 z (j:=0) z z) (RVs.cons (RV.cell R9 z (j:=1) z z) RVs.nil)) Li (fun _ iv=>iv.drop.drop) ⟨z,z⟩
theorem A3w {h p q r s w} (E:O8 h p q) (H:A2a q=some (r,s,w)):∀ L,FnW prog 7 [.agg p.toArray] h L (.tuple #[.int .i64 r,.int .i64 s,.int .i64 w]):=by
 intro L
 obtain ⟨G,I,J,K,M,rfl,N,P,U,W,X⟩:=E
 refine J6.B5X func7 z ntmps7 z<|Sr<|To (O.U5 z z z fun aX aY aZ Y=>To (O.alloc K8 z z fun c=>To (O.alloc K8 z z fun d=>An z<|Sr<|Vv (V.ldS z Y (by exact J4)) ?_)))
 refine bE H fun ⟨a0,a1⟩ Z H=>To (O.G9 z (A3t ⟨G,I,J,K,M,z,N.u,P.u,U.u,W.u,X.u⟩ Z _) z fun a2 a3 a4 a5 aa=>?_)
 obtain ⟨ab,rfl,ac,e⟩:=aa
 refine P7 _ ac<|Mv z<|Wx z z<|Wx z z<|To (O.alloc A8P z z fun a6=>To (O.stF (vs:=[ab]) Q5 z z (j:=0) z (OPt.cells e) (by (simp only [BT,OPt.one e]) <;> rfl) z ?_))
 refine T.fl ?_
 refine T.freeze fun a7 a8 ad=>have f:=Z0.of ad; An z<|Sq<|Sm z<|Wn z z<|Nt<|T.cH H z (fun H=>?_) fun H=>?_
 ·refine Sm z<|To (O.stF (vs:=[qi 0]) D7 z z (j:=1) z z z z<|To (O.stF (vs:=[qi 0]) D7 z z (j:=1) z z z z<|Ag z<|Nr<|Tr<|Fr_ 1 z<|T.A6l ?_))
  cases H
  exact T.A1U (L':=L) results7 (RVs.cons (RV.cell D7 z (j:=0) z z) (RVs.cons (RV.cell D7 z (j:=1) z z) (Rv z))) Li (fun _ iv=>iv.drop.drop) ⟨z,z⟩
 refine Ks<|Sq<|Sq<|T.N8 (t:=(.v 0 (.v 1 (.alt 2 (.alt 3 .done .no) .no)))) 5 0 0 z z I5 (by kernel_rfl) ?_
 refine Tv z (V.S9 Q5 z f z)<|Tv z (V.S9 Q5 z f z)<|bE H fun ae af H=>have g:=OPt.get e af; bE H fun a9 ag H=>Tp z z (X2 z z) (O.G9 z (A4g g.u ag _) z fun ah al av az ai=>?_) T.P5
 obtain ⟨ba,aj,ak⟩:=ai
 refine P7 _ aj<|T.K5 fun bb bc am=>have an:=A7.slc am ak.u; bE H fun y ao H=>Tp z z (SX.two (XA.fr [] Li z) (XA.fr [] Li z)) (O.G9 z (A4R g.u an ao _) z fun bd k be bf ap=>?_) T.P5
 obtain ⟨bg,A,bi,B,rfl,aq,ar,au,aw,ax⟩:=ap
 refine P7 _ aq<|T.O7 (SX.two (XA.fr [] Li z) (XA.fr [] Li z))<|Th<|Bl ?_
 obtain ⟨bj,ay,aA⟩:=K4 H
 refine T.B8d (S:=(Int×Int)) (O:=Unit) (La0:=[blk d (.cells [qi 0].toArray 3),blk c (.cells [qi 0].toArray 3)]) (Lr:=L) (fun ⟨b,a⟩ hh aB=>aB=([blk d (.cells [qi a].toArray 3),blk c (.cells [qi b].toArray 3)]:List D9)) (fun _ _ _ _=>False) z z z (fun R_ y_=>A8L R_ k y_ (A5x ae)) (fun bk=>⟨⟨z,z⟩,RYs.mono (fun ⟨b,a⟩ _ _ _ l_ e_=>e_) (fun _ _ _ _ _ _ q_=>q_),?_⟩) (fun _ La_ aC aD aE=>J6.perm (List.Perm.refl _) (A3m aC aD ar (show (VPt T9) k [A] y.1 from ⟨A,z,au⟩) aw (show (VSl (VI .i64) 1) k [B] y.2 from ⟨B,z,ax⟩) ay [] aE) fun _ _ _ ⟨La_,_,e_,q_⟩=>⟨_,List.Perm.refl _,La_,e_,q_⟩) ?_ ?_
 ·intro bm bn bo C bp m aG bq br bs aI H As_ L_
  rcases aG with ⟨b,a⟩ | _
  rotate_left
  ·exact dead H
  obtain ⟨bt,_,rfl,n,aJ,bu,rfl⟩:=aI
  refine Yld.B9J fun L=>Yld.B7N (j:=0) z n z<|T.fl ?_
  refine Rg<|An z<|T.begin (j:=0) z aJ<|T.fl ?_
  refine Bl<|Sr<|Vv (V.A8Z D7 z (j:=2) z z)<|bE H fun o aK H=>Vv (V.H8 z z aK)<|To (O.stF (vs:=[qi o]) D7 z z (j:=2) z z z z<|T.fl ?_)
  refine Nt<|Sr<|Vv (V.S9 Q5 z f.u z)<|Mv z<|T.fs [3] ?_
  refine bE H fun aM aN H=>To (O.G9 z (J6.A6P (val:=.bool aM) func30 z A1N fun bw bx aO=>?_) z fun bA bB bC bD aP=>?_)
  ·have aS:=A7.slc aO m.u
   exact A6H g.u aS aN _
  obtain ⟨rfl,aU⟩:=aP
  refine P7 _ aU<|Nt<|T.cH H z (fun H=>?_) fun H=>?_
  ·refine Rg<|Vv (V.A8Z D7 z (j:=3) z z)<|bE H fun D aV H=>Vv (V.H8 z z aV)<|To (O.stF (vs:=[qi D]) D7 z z (j:=3) z z z z<|T.fl ?_)
   refine Ni<|Bn<|T.fs [1,2,2,3] ?_
   cases H
   exact T.B8D (j:=0) z Li ⟨_::[blk d (.cells [qi D].toArray 3),blk c (.cells [qi o].toArray 3)],C,z,z,⟨_,_,z,n.turn .ready none,z,z,z⟩,m.u⟩
  refine T.skip<|Bn<|T.fs [1,3,3] ?_
  cases H
  exact T.B8D (j:=0) z Li ⟨_::[blk d (.cells [qi a].toArray 3),blk c (.cells [qi o].toArray 3)],C,z,z,⟨_,_,z,n.turn .ready none,z,z,z⟩,m.u⟩
 ·rintro bG bI _ ⟨b,a⟩ bJ aW rfl
  have H:=I7 aW aA
  refine T.fl ?_
  refine Bn<|Th<|Sq<|T.fs [2,2] ?_
  refine T.N8 (t:=(.x 0 (.alt 1 (.alt 2 (.alt 3 (.alt 4 .done .no) .no) .no) (.alt 2 (.alt 1 (.alt 3 (.alt 4 .done .no) .no) .no) .no)))) 2 2 0 z z I5 (by kernel_rfl) ?_
  refine T.tx z z (Val.XA fun _ _ _=>V.A8Z D7 z (j:=1) z z) z Calm.i<|T.C2A ?_ ?_
  ·refine Ts z z (X3 [] [1,1] z z) (V.A8Z D7 z (j:=0) z z) z ?_ T.P5
   refine Tp z z (X3 [] [1,1] z z) (O.stF (vs:=[qi b]) D7 z z (j:=1) z z z z ?_) T.P5
   refine T.fl ?_
   refine Tp z z (SX.one (XA.fr [] Lr z) z) (O.stF (vs:=[qi a]) D7 z z (j:=1) z z z z ?_) T.P5
   refine T.fl ?_
   refine Ts z z (SX.one (XA.fr [] Lr z) z) (V.asg z) z ?_ T.P5
   refine T.O7 (SX.one (XA.fr [] Lr z) z)<|Th<|T.ret<|T.fs [1,2] ?_
   refine T.A6l<|T.B1e (j:=0) z<|T.fl ?_
   cases H
   exact T.A1U (L':=L) results7 (RVs.cons (RV.cell D7 z (j:=0) z z) (RVs.cons (RV.cell D7 z (j:=1) z z) (Rv z))) Li (fun _ iv=>iv.drop.drop) ⟨z,z⟩
  refine Tp z z (X3 [] [1,1] z z) (O.stF (vs:=[qi b]) D7 z z (j:=1) z z z z ?_) T.P5
  refine T.fl ?_
  refine Ts z z (SX.one (XA.fr [] Lr z) z) (V.A8Z D7 z (j:=1) z z) z ?_ T.P5
  refine Tp z z (SX.one (XA.fr [] Lr z) z) (O.stF (vs:=[qi a]) D7 z z (j:=1) z z z z ?_) T.P5
  refine T.fl ?_
  refine Ts z z (SX.one (XA.fr [] Lr z) z) (V.asg z) z ?_ T.P5
  refine T.O7 (SX.one (XA.fr [] Lr z) z)<|Th<|T.ret<|T.fs [1,2] ?_
  refine T.A6l<|T.B1e (j:=0) z<|T.fl ?_
  cases H
  exact T.A1U (L':=L) results7 (RVs.cons (RV.cell D7 z (j:=0) z z) (RVs.cons (RV.cell D7 z (j:=1) z z) (Rv z))) Li (fun _ iv=>iv.drop.drop) ⟨z,z⟩
 rintro _ _ _ _ _ _ _ ⟨⟩
end Go.Proofs.X
open Go Go.Proofs Go.Proofs.Tryz Go.Sl Go.Dm
namespace Go.Proofs.X
theorem A6q:A5h prog 45=some ([.slice none 0 0,.int .i64 (0)],[(0,1),(1,1)]):=by kernel_rfl
theorem A6L:A0B prog 45=true:=by kernel_rfl
theorem A6s:O5 prog 45 1=some 1:=by kernel_rfl
theorem A0c:U6 prog 45=some (true,2):=by kernel_rfl
theorem A6D:zer prog 45=some (.agg #[.slice none 0 0,.int .i64 (0)]):=by kernel_rfl
theorem A9y {h D E w G} (W:O8 h D E) (H:A2U E=some (w,G)):∀ L,J6 prog 11 [.agg D.toArray] h (L) (fun v h' L'=>∃ v0_1,v=.tuple #[.agg #[v0_1,.int .i64 w.A1T],.int .i64 G]∧L'=L∧F8 (VI .i64) 1 h' v0_1 w.C8Y):=by
 intro L
 obtain ⟨X,Y,Z,aa,ab,rfl,ac,ad,ae,af,ag⟩:=W
 refine J6.B5X func11 z ntmps11 z<|Sr<|To (O.U5 z z z fun bo bp bq ai=>To (O.alloc A6D z z fun d=>An z<|Sr<|Vv (V.ldS z ai (by exact J4)) ?_))
 refine bE H fun ⟨br,bs⟩ aj H=>To (O.G9 z (A3t ⟨X,Y,Z,aa,ab,z,ac.u,ad.u,ae.u,af.u,ag.u⟩ aj _) z fun bt bu bw bx ak=>?_)
 obtain ⟨am,rfl,an,x⟩:=ak
 refine P7 _ an<|Mv z<|Wx z z<|Wx z z<|To (O.alloc A8P z z fun bA=>To (O.stF (vs:=[am]) Q5 z z (j:=0) z (OPt.cells x) (by (simp only [BT,OPt.one x]) <;> rfl) z ?_))
 refine T.freeze fun bB bC ao=>have y:=Z0.of ao; An z<|Sq<|Sm z<|Wn z z<|Nt<|T.cH H z (fun H=>?_) fun H=>?_
 ·refine Sr<|Vv (V.bld (xs:=[]) (cs:=[_,_]) A6q A6L z F4.nil)<|Mv z<|To (O.stF (vs:=[qs,qi 0]) A0c z z (j:=0) z z z z<|Ag z<|Nr<|Tr<|T.A6l ?_)
  cases H
  exact T.A1U (L':=L) results11 (RVs.cons (RV.cellS z (j:=0) z A0c) (Rv z)) Li (fun _ iv=>iv.drop) ⟨_,z,z,F8.nil⟩
 refine Ks<|Sr<|Vv (V.bld (xs:=[]) (cs:=[_,_]) A6q A6L z F4.nil)<|To (O.alloc A6D z z fun e=>To (O.alloc A9m z z fun f=>To (O.stF (vs:=[qs,qi 0]) A0c z z (j:=1) z z z z<|T.fl ?_)))
 refine To (O.stF (vs:=[.bool false]) U8 z z (j:=1) z z z z<|T.fl ?_)
 refine Nt<|Sq<|Sq<|T.N8 (t:=(.v 0 (.v 1 (.alt 2 (.alt 3 .done .no) .no)))) 5 0 0 z z I5 (by kernel_rfl) ?_
 refine Tv z (V.S9 Q5 z y z)<|Tv z (V.S9 Q5 z y z)<|bE H fun ap aq H=>have A:=OPt.get x aq; bE H fun bD ar H=>Tp z z (X2 z z) (O.G9 z (A4g A.u ar _) z fun bG bI bJ bK au=>?_) T.P5
 obtain ⟨bM,aw,ax⟩:=au
 refine P7 _ aw<|T.K5 fun bN bO ay=>have aA:=A7.slc ay ax.u; bE H fun I aB H=>Tp z z (SX.two (XA.fr [] Li z) (XA.fr [] Li z)) (O.G9 z (A4R A.u aA aB _) z fun bP o bS bU aC=>?_) T.P5
 obtain ⟨bV,J,bW,K,rfl,aD,aE,aG,aI,aJ⟩:=aC
 refine P7 _ aD<|T.O7 (SX.two (XA.fr [] Li z) (XA.fr [] Li z))<|Th<|Bl ?_
 obtain ⟨bX,aK,aM⟩:=K4 H
 refine T.R4 3 1<|have aN:A7 (VI .i64) o [] ([]:List Int):=A7.nil; T.fs [3,3,3] ?_
 refine T.B8d (S:=((List Int)×Int×Bool)) (O:=Unit) (La0:=[blk f (.cells [.bool false].toArray 4),blk e (.cells [(qs),qi 0].toArray 45),blk d (.cells [qs,qi 0].toArray 45),F5 3 1 (qs) []]) (Lr:=L) (fun ⟨p,c,g⟩ hh aO=>∃ a:Value,∃ b:List (List Value),aO=([blk f (.cells [.bool g].toArray 4),blk e (.cells [a,qi c].toArray 45),blk d (.cells [qs,qi 0].toArray 45),F5 3 1 a b]:List D9)∧A7 (VI .i64) hh b p) (fun _ _ _ _=>False) z z ⟨(qs),[],z,aN⟩ (fun R_ y_=>A8L R_ o y_ (A6Q ap)) (fun M=>⟨⟨z,z⟩,RYs.mono (fun ⟨p,c,g⟩ _ _ _ l_ ⟨a,b,e_,f0_⟩=>⟨a,b,e_,A7.mono VI.mono f0_ l_⟩) (fun _ _ _ _ _ _ q_=>q_),?_⟩) (fun _ La_ aP aS aU=>J6.perm (List.Perm.refl _) (A3m aP aS aE (show (VPt T9) o [J] I.1 from ⟨J,z,aG⟩) aI (show (VSl (VI .i64) 1) o [K] I.2 from ⟨K,z,aJ⟩) aK [] aU) fun _ _ _ ⟨La_,_,e_,q_⟩=>⟨_,List.Perm.refl _,La_,e_,q_⟩) ?_ ?_
 ·intro bY bZ b0 B b1 i aV b2 b3 b4 aW H As_ L_
  rcases aV with ⟨p,c,g⟩ | _
  rotate_left
  ·exact dead H
  obtain ⟨N,_,rfl,q,aX,b5,a,b,rfl,C⟩:=aW
  refine Yld.B9J fun L=>Yld.B7N (j:=0) z q z<|T.fl ?_
  refine Rg<|An z<|T.begin (j:=0) z aX<|T.fl ?_
  refine Bl<|Sr<|Vv (V.S9 Q5 z y.u z)<|have aY:=A; ?_
  obtain ⟨b6,_,rfl,aZ,⟨b7,b8,b9,bh,bl,bv,bz,ca,cb,rfl,a0,cc,cd,ce,cf,cg,ci,cj,ck⟩⟩:=aY
  refine NL z A6G I9 aZ.u z<|Mv z<|T.fs [5] ?_
  refine bE H fun m a1 H=>To (O.G9 z (J6.A6P (val:=qi m) func40 z A1N fun cm cn a2=>?_) z fun co cp cq cr a3=>?_)
  ·have a4:=A7.slc a2 i.u
   exact B5v a0.u a4 a1 _
  obtain ⟨rfl,a5⟩:=a3
  refine P7 _ a5<|An z<|Sr<|Vv (V.A8Z U8 z (j:=2) z z)<|Vv (V.not z)<|Mv z<|T.bH 33 H z (fun H=>?_) fun H=>?_
  ·refine S2<|S2<|Kt z<|Nt<|Ct z<|Rg<|Mv z<|bE H fun a6 a7 H=>To (O.G9 z (J6.B1l (R:=fun v h' L'=>∃ (n:List (List Value)),L'=F5 3 1 v n::blk M (.loop { N with state:=.busy })::blk f (.cells [.bool g].toArray 4)::blk e (.cells [a,qi c].toArray 45)::blk d (.cells [qs,qi 0].toArray 45)::F5 3 1 a b::L∧A7 (VI .i64) h' n a6) func41 z (fun _ _ _ _ ⟨e_0,l_,f_0⟩=>⟨e_0,l_,(A7.free VI.free f_0)⟩) A1N fun ct cu a8=>?_) z fun r cw cx cy a9=>?_)
   ·have ah:=A7.slc a8 i.u
    exact A1C ah a7 _
   obtain ⟨_,rfl,⟨P,rfl,al⟩⟩:=a9
   refine T.fl ?_
   refine Mv z<|T.Q9 1 z fun cA av=>Vv (V.bld (xs:=[(0,.tmp 40),(1,.tmp 41)]) (cs:=[_,_]) A6q A6L z (F4.cons z av z (F4.cons z z z F4.nil)))<|T.Q9 1 z fun az cB=>To (O.stF (vs:=[r,qi m]) A0c z z (j:=4) z z (by (simp only [BT,az]) <;> rfl) z ?_)
   refine T.fl ?_
   refine To (O.stF (vs:=[.bool true]) U8 z z (j:=4) z z z z<|T.fl ?_)
   refine Ni<|Bn<|T.fs [6] ?_
   refine T.drop<|T.fs [2,3,5,4,4,5] ?_
   cases H
   exact T.B8D (j:=0) z Li ⟨_::[blk f (.cells [.bool true].toArray 4),blk e (.cells [r,qi m].toArray 45),blk d (.cells [qs,qi 0].toArray 45),F5 3 1 r P],B,z,z,⟨_,_,z,q.turn .ready none,z,z,⟨r,P,z,al⟩⟩,i.u⟩
  refine Mv z<|Vv (V.fa A6s z)<|Vv (V.ldO (k:=1) D7 z (j:=3) z z)<|Wl z z<|Kf z<|Nt<|T.cH H z (fun H=>?_) fun H=>?_
  ·refine Rg<|Mv z<|bE H fun ba bb H=>To (O.G9 z (J6.B1l (R:=fun v h' L'=>∃ (n:List (List Value)),L'=F5 3 1 v n::blk M (.loop { N with state:=.busy })::blk f (.cells [.bool g].toArray 4)::blk e (.cells [a,qi c].toArray 45)::blk d (.cells [qs,qi 0].toArray 45)::F5 3 1 a b::L∧A7 (VI .i64) h' n ba) func41 z (fun _ _ _ _ ⟨e_0,l_,f_0⟩=>⟨e_0,l_,(A7.free VI.free f_0)⟩) A1N fun cC cD bc=>?_) z fun s cE cG cI bd=>?_)
   ·have be:=A7.slc bc i.u
    exact A1C be bb _
   obtain ⟨_,rfl,⟨U,rfl,bf⟩⟩:=bd
   refine T.fl ?_
   refine Mv z<|T.Q9 1 z fun cJ bg=>Vv (V.bld (xs:=[(0,.tmp 40),(1,.tmp 41)]) (cs:=[_,_]) A6q A6L z (F4.cons z bg z (F4.cons z z z F4.nil)))<|T.Q9 1 z fun bi cK=>To (O.stF (vs:=[s,qi m]) A0c z z (j:=4) z z (by (simp only [BT,bi]) <;> rfl) z ?_)
   refine T.fl ?_
   refine To (O.stF (vs:=[.bool true]) U8 z z (j:=4) z z z z<|T.fl ?_)
   refine Ni<|Bn<|T.fs [6] ?_
   refine T.drop<|T.fs [2,3,5,4,4,5] ?_
   cases H
   exact T.B8D (j:=0) z Li ⟨_::[blk f (.cells [.bool true].toArray 4),blk e (.cells [s,qi m].toArray 45),blk d (.cells [qs,qi 0].toArray 45),F5 3 1 s U],B,z,z,⟨_,_,z,q.turn .ready none,z,z,⟨s,U,z,bf⟩⟩,i.u⟩
  refine T.skip<|Bn<|T.fs [5,5,5,5,5] ?_
  cases H
  exact T.B8D (j:=0) z Li ⟨_::[blk f (.cells [.bool g].toArray 4),blk e (.cells [a,qi c].toArray 45),blk d (.cells [qs,qi 0].toArray 45),F5 3 1 a b],B,z,z,⟨_,_,z,q.turn .ready none,z,z,⟨a,b,z,C.u⟩⟩,i.u⟩
 ·rintro cM cN _ ⟨p,c,g⟩ cO bj ⟨a,b,rfl,C⟩
  have H:=I7 bj aM
  refine T.fl ?_
  refine Bn<|Th<|Sq<|Sr<|Vv (V.A8Z U8 z (j:=1) z z)<|Vv (V.not z)<|Nt<|T.cH H z (fun H=>?_) fun H=>?_
  ·refine Sr<|Vv (V.bld (xs:=[]) (cs:=[_,_]) A6q A6L z F4.nil)<|To (O.stF (vs:=[qs,qi 0]) A0c z z (j:=3) z z z z<|T.fl ?_)
   refine Ag z<|Nr<|Tr<|T.fs [2] ?_
   refine T.drop<|T.fs [2] ?_
   refine T.drop<|T.fs [2] ?_
   refine T.drop<|Fr_ 1 z<|T.A6l<|T.B1e (j:=0) z<|T.fl ?_
   cases H
   exact T.A1U (L':=L) results11 (RVs.cons (RV.cellS z (j:=0) z A0c) (Rv z)) Li (fun _ iv=>iv.drop) ⟨_,z,z,F8.nil⟩
  refine Ks<|Sr<|Vv (V.A4O (j:=2) (by exact A0c) z z) ?_
  refine T.Q9 4 z fun bk cP=>To (O.stF (vs:=[a,qi c]) A0c z z (j:=3) z z (by (simp only [BT,bk]) <;> rfl) z ?_)
  refine T.fl ?_
  refine Ag z<|Nr<|T.fs [4] ?_
  refine T.K5 fun cS cU bm=>have bn:=A7.slc bm C.u; T.fs [2] ?_
  refine T.drop<|T.fs [2] ?_
  refine T.drop<|Fr_ 1 z<|T.A6l<|T.B1e (j:=0) z<|T.fl ?_
  cases H
  exact T.A1U (L':=L) results11 (RVs.cons (RV.cellS z (j:=0) z A0c) (Rv z)) Li (fun _ iv=>iv.drop) ⟨_,z,z,bn⟩
 rintro _ _ _ _ _ _ _ ⟨⟩
theorem B4U {h E G r I J} (ab:O8 h E G) (H:B5S G r=some (I,J)):∀ L,J6 prog 35 [.agg E.toArray,.int .i64 r] h (L) (fun v h' L'=>∃ K,v=.tuple #[K,.int .i64 J]∧L'=L∧F8 (VSl (VI .i64) 1) 1 h' K I):=by
 intro L
 obtain ⟨ac,ad,ae,af,ag,rfl,ai,aj,ak,am,an⟩:=ab
 refine J6.B5X func35 z ntmps35 z<|Sr<|To (O.U5 z z z fun bp bq br ao=>To (O.U5 z z z fun bt bu bw aq=>To (O.alloc A9W z z fun g=>To (O.alloc B2n z z fun k=>Nt<|Sr<|Vv (V.ldS z ao.u (by exact J4)) ?_))))
 refine bE H fun ⟨bx,bA⟩ ar H=>To (O.G9 z (A3t ⟨ac,ad,ae,af,ag,z,ai.u,aj.u,ak.u,am.u,an.u⟩ ar _) z fun bB bC bD bG au=>?_)
 obtain ⟨aw,rfl,ax,s⟩:=au
 refine P7 _ ax<|Mv z<|Wx z z<|Wx z z<|To (O.alloc A8P z z fun bI=>To (O.stF (vs:=[aw]) Q5 z z (j:=0) z (OPt.cells s) (by (simp only [BT,OPt.one s]) <;> rfl) z ?_))
 refine T.fl ?_
 refine T.freeze fun bJ bK ay=>have w:=Z0.of ay; An z<|Sq<|Sm z<|Wn z z<|Nt<|T.cH H z dead fun H=>Ks<|Sr<|To (O.alloc A9W z z fun m=>Nt<|Sq<|Sq<|T.N8 (t:=(.v 0 (.v 1 (.alt 2 (.alt 3 .done .no) .no)))) 5 0 0 z z I5 (by kernel_rfl) ?_)
 refine Tv z (V.S9 Q5 z w z)<|Tv z (V.S9 Q5 z w z)<|bE H fun aA aB H=>have y:=OPt.get s aB; bE H fun bM aC H=>Tp z z (X2 z z) (O.G9 z (A4g y.u aC _) z fun bN bO bP bS aD=>?_) T.P5
 obtain ⟨bU,aE,aG⟩:=aD
 refine P7 _ aE<|T.K5 fun bV bW aI=>have aJ:=A7.slc aI aG.u; bE H fun M aK H=>Tp z z (SX.two (XA.fr [] Li z) (XA.fr [] Li z)) (O.G9 z (A4R y.u aJ aK _) z fun bX p bY bZ aM=>?_) T.P5
 obtain ⟨b0,N,b1,P,rfl,aN,aO,aP,aS,aU⟩:=aM
 refine P7 _ aN<|T.O7 (SX.two (XA.fr [] Li z) (XA.fr [] Li z))<|Th<|Bl ?_
 obtain ⟨b2,aV,U⟩:=K4 H
 refine T.R4 30 1<|have aW:A7 (VSl (VI .i64) 1) p [] ([]:List (List Int)):=A7.nil; T.fs [3,3,3] ?_
 refine T.B8d (S:=(Int×(List (List Int)))) (O:=(Int×(List (List Int)))) (La0:=[blk m (.cells [(qs)].toArray 84),blk k (.cells [qi 0].toArray 35),blk g (.cells [qs].toArray 84),F5 30 1 (qs) []]) (Lr:=L) (fun ⟨c,d⟩ hh A=>∃ a:Value,∃ b:List (List Value),A=([blk m (.cells [a].toArray 84),blk k (.cells [qi c].toArray 35),blk g (.cells [qs].toArray 84),F5 30 1 a b]:List D9)∧A7 (VSl (VI .i64) 1) hh b d) (fun ⟨c,d⟩ c_ hh A=>c_=(.ret:Code)∧∃ a:Value,∃ b:List (List Value),A=([blk m (.cells [a].toArray 84),blk k (.cells [qi c].toArray 35),blk g (.cells [qs].toArray 84),F5 30 1 a b]:List D9)∧A7 (VSl (VI .i64) 1) hh b d) z z ⟨(qs),[],z,aW⟩ (fun R_ y_=>A8L R_ p y_ (B4Y r aA)) (fun aX=>⟨⟨z,z⟩,RYs.mono (fun ⟨c,d⟩ _ _ _ l_ ⟨a,b,e_,f0_⟩=>⟨a,b,e_,A7.mono (VSl.mono VI.mono) f0_ l_⟩) (fun ⟨c,d⟩ _ _ _ _ l_ ⟨c_,a,b,e_,f0_⟩=>⟨c_,a,b,e_,A7.mono (VSl.mono VI.mono) f0_ l_⟩),?_⟩) (fun _ La_ aY aZ a0=>J6.perm (List.Perm.refl _) (A3m aY aZ aO (show (VPt T9) p [N] M.1 from ⟨N,z,aP⟩) aS (show (VSl (VI .i64) 1) p [P] M.2 from ⟨P,z,aU⟩) aV [] a0) fun _ _ _ ⟨La_,_,e_,q_⟩=>⟨_,List.Perm.refl _,La_,e_,q_⟩) ?_ ?_
 ·intro b3 b4 b5 B b6 n a1 b7 b8 b9 a2 H As_ L_
  rcases a1 with ⟨c,d⟩ | _
  rotate_left
  ·exact dead H
  obtain ⟨a3,_,rfl,C,a4,bh,a,b,rfl,f⟩:=a2
  refine Yld.B9J fun L=>Yld.B7N (j:=0) z C z<|T.fl ?_
  refine Rg<|An z<|T.begin (j:=0) z a4<|T.fl ?_
  refine Bl<|Sq<|Sr<|Vv (V.S9 Q5 z w.u z)<|Mv z<|T.fs [5] ?_
  refine bE H fun a5 a6 H=>To (O.G9 z (J6.A6P (val:=.bool a5) func30 z A1N fun bl bv a7=>?_) z fun bz ca cb cc a8=>?_)
  ·have a9:=A7.slc a7 n.u
   exact A6H y.u a9 a6 _
  obtain ⟨rfl,ah⟩:=a8
  refine P7 _ ah<|Vv (V.not z)<|Nt<|T.cH H z (fun H=>?_) fun H=>?_
  ·refine T.exit<|Te<|Be<|T.fs [5,5,5,5,5] ?_
   cases H
   exact T.B8D (j:=0) z Li ⟨_::[blk m (.cells [a].toArray 84),blk k (.cells [qi c].toArray 35),blk g (.cells [qs].toArray 84),F5 30 1 a b],B,z,z,⟨_,_,z,C.turn .ready none,z,z,⟨a,b,z,f.u⟩⟩,n.u⟩
  refine Ks<|Sq<|Sr<|Vv (V.A8Z U1 z (j:=2) z z)<|Vv (V.A4x J9 z (j:=5) z f.len)<|Vv (V.S9 D7 z aq.u z)<|Vv (V.ge z z)<|Nt<|T.cH H z (fun H=>?_) fun H=>?_
  ·refine Sr<|To (O.stF (vs:=[qs]) U1 z z (j:=4) z z z z<|T.fl ?_)
   refine To (O.stF (vs:=[qi 7]) R9 z z (j:=4) z z z z<|T.fl ?_)
   refine Nr<|Tr<|Br<|T.fs [2,5,3,3,5,5] ?_
   cases H
   exact T.D2M (j:=0) z Li ⟨_::[blk m (.cells [a].toArray 84),blk k (.cells [qi 7].toArray 35),blk g (.cells [qs].toArray 84),F5 30 1 a b],B,z,z,⟨_,_,_,z,z,z,⟨z,⟨a,b,z,f.u⟩⟩⟩,n.u⟩
  refine Ks<|T.fs [5,3,2] ?_
  refine T.N8 (t:=(.x 0 (.v 1 (.alt 2 (.alt 3 (.alt 4 (.alt 5 .done .no) .no) .no) .no)))) 4 3 1 z z I5 (by kernel_rfl) ?_
  refine T.tx z z (Val.XA fun _ _ _=>V.A8Z U1 z (j:=1) z z) z Calm.i<|Tm z z<|bE H fun W al H=>Tp z z (X3 [0] [2,2,2] z z) (O.G9 z (J6.B1l (R:=fun v h' L'=>∃ (X:List (List Value)),L'=F5 3 1 v X::blk m (.cells [a].toArray 84)::F5 30 1 a b::blk aX (.loop { a3 with state:=.busy })::blk k (.cells [qi c].toArray 35)::blk g (.cells [qs].toArray 84)::L∧A7 (VI .i64) h' X W) func41 z (fun _ _ _ _ ⟨e_0,l_,f_0⟩=>⟨e_0,l_,(A7.free VI.free f_0)⟩) A1N fun cd ce av=>?_) z fun o cf cg ci az=>?_) T.P5
  ·have ba:=A7.slc av n.u
   exact A1C ba al _
  obtain ⟨_,rfl,⟨cj,rfl,bb⟩⟩:=az
  refine T.fl ?_
  refine T.fs [1] ?_
  refine T.K5 fun Y ck bc=>have Z:=A7.slc bc bb.u; Tp z z (SX.two (XA.fr [0] Li z) (XA.fr [2,2,2] Li z)) (O.bs J9 A1I z (e:=z) (hk:=z) (xs:=[.tmp 33]) (hv:=CO.eq (CO.cons (F8.cells Z) CO.nil)) (hw:=O3.of z) (hd:=z) fun cm=>?_) T.P5
  have D:A7 (VSl (VI .i64) 1) Y [[o]] ([W]:List (List Int)):=(A7.cons ⟨o,z,Z⟩ A7.nil)
  refine bE H fun bd aa H=>Tp z z (SX.two (XA.fr [1] Li z) (XA.fr [3,3,3] Li z)) (O.apX J9 J9 A1I z z z (j:=3) z (Src.row (j:=0) z) (O3.of z) (A7.ones VSl.plain D) f.u D aa z fun q cn co=>?_) T.P5
  have be:A7 (VSl (VI .i64) 1) Y (b ++ [[o]]) bd:=A7.ap f.u D aa
  refine T.fl ?_
  refine T.fs [1] ?_
  refine T.drop<|T.Q9 0 z fun bf bg=>Tp z z (SX.one (XA.fr [1] Li z) z) (O.stF (vs:=[q]) U1 z z (j:=2) z bg (by (simp only [BT,bf]) <;> rfl) z ?_) T.P5
  refine T.fl ?_
  refine T.O7 (SX.one (XA.fr [2] Li z) z)<|Bn<|T.fs [2,2,5,5,4,5] ?_
  cases H
  exact T.B8D (j:=0) z Li ⟨_::[blk m (.cells [q].toArray 84),blk k (.cells [qi c].toArray 35),blk g (.cells [qs].toArray 84),F5 30 1 q (b ++ [[o]])],B,z,z,⟨_,_,z,C.turn .ready none,z,z,⟨q,(b ++ [[o]]),z,be⟩⟩,n.u⟩
 ·rintro cp cq _ ⟨c,d⟩ cr bi ⟨a,b,rfl,f⟩
  have H:=I7 bi U
  refine T.fl ?_
  refine Bn<|Th<|Sr<|Vv (V.A8Z U1 z (j:=1) z z)<|T.Q9 4 z fun bj bk=>To (O.stF (vs:=[a]) U1 z z (j:=3) z bk (by (simp only [BT,bj]) <;> rfl) z ?_)
  refine T.fl ?_
  refine To (O.stF (vs:=[qi 0]) R9 z z (j:=3) z z z z<|T.fl ?_)
  refine Nr<|T.fs [4] ?_
  refine T.K5 fun cs ct bm=>have bn:=A7.slc bm f.u; T.fs [3] ?_
  refine T.drop<|T.fs [1,2] ?_
  refine T.A6l<|T.B1e (j:=0) z<|T.fl ?_
  cases H
  exact T.A1U (L':=L) results35 (RVs.cons (RV.cell U1 z (j:=0) z z) (RVs.cons (RV.cell R9 z (j:=1) z z) RVs.nil)) Li (fun _ iv=>iv.drop.drop) ⟨_,z,z,bn⟩
 rintro cu cw _ ⟨c,d⟩ _ cx bo ⟨rfl,a,b,rfl,f⟩
 have H:=I7 bo U
 refine T.fl ?_
 refine T.ret<|Br<|Tr<|T.fs [1] ?_
 refine T.drop<|T.fs [3] ?_
 refine T.drop<|T.fs [1,2,2] ?_
 refine T.A6l<|T.B1e (j:=0) z<|T.fl ?_
 cases H
 exact T.A1U (L':=L) results35 (RVs.cons (RV.cell U1 z (j:=0) z z) (RVs.cons (RV.cell R9 z (j:=1) z z) RVs.nil)) Li (fun _ iv=>iv.drop.drop) ⟨_,z,z,F8.nil⟩
theorem B7x {h t w x p y A} (aj:O8 h t w) (e:F8 (VI .i64) 1 h x p) (H:B4L w p=some (y,A)):∀ L,J6 prog 15 [.agg t.toArray,x] h (L) (fun v h' L'=>∃ B,v=.tuple #[B,.int .i64 A]∧L'=L∧F8 (VI .i64) 1 h' B y):=by
 intro L
 obtain ⟨C,D,E,G,I,rfl,J,K,M,N,P⟩:=aj
 refine J6.B5X func15 z ntmps15 z<|Sr<|To (O.U5 z z z fun bO bP bS U=>To (O.alloc A1I z z fun f=>To (O.alloc B2n z z fun g=>Nt<|Sr<|Vv (V.ldS z U (by exact J4)) ?_)))
 refine bE H fun ⟨bU,bV,ak⟩ am H=>To (O.G9 z (A9U ⟨C,D,E,G,I,z,J.u,K.u,M.u,N.u,P.u⟩ am _) z fun bW bX bY bZ an=>?_)
 obtain ⟨b0,rfl,ao,ap⟩:=an
 refine P7 _ ao<|Mv z<|Wx z z<|Wx z z<|Wx z z<|Ag z<|Ag z<|An z<|Sq<|Sm z<|Wn z z<|Nt<|T.cH H z (fun H=>?_) fun H=>?_
 ·refine Sm z<|To (O.stF (vs:=[qs]) E5 z z (j:=1) z z z z<|To (O.stF (vs:=[qi ak]) R9 z z (j:=1) z z z z<|Nr<|Tr<|Fr_ 1 z<|T.A6l ?_))
  cases H
  exact T.A1U (L':=L) results15 (RVs.cons (RV.cell E5 z (j:=0) z z) (RVs.cons (RV.cell R9 z (j:=1) z z) RVs.nil)) Li (fun _ iv=>iv.drop.drop) ⟨_,z,z,F8.nil⟩
 refine Ks<|Sq<|Sr<|Vv (V.ldS z U.u (by exact J4)) ?_
 refine Mv z<|bE H fun ⟨b1,aq⟩ ar H=>To (O.cs (B6P ⟨C,D,E,G,I,z,J.u,K.u,M.u,N.u,P.u⟩ e.u ar _) fun b3 b5=>Mv z<|Wx z z<|Wx z z<|Ag z<|An z<|Sm z<|Wn z z<|Nt<|T.cH H z (fun H=>?_) fun H=>?_)
 ·refine Sm z<|To (O.stF (vs:=[qs]) E5 z z (j:=1) z z z z<|To (O.stF (vs:=[qi aq]) R9 z z (j:=1) z z z z<|Nr<|Tr<|Fr_ 1 z<|T.A6l ?_))
  cases H
  exact T.A1U (L':=L) results15 (RVs.cons (RV.cell E5 z (j:=0) z z) (RVs.cons (RV.cell R9 z (j:=1) z z) RVs.nil)) Li (fun _ iv=>iv.drop.drop) ⟨_,z,z,F8.nil⟩
 refine Ks<|Sr<|An z<|Sq<|Sm z<|Vv (V.Q3 A9 z e)<|Mv z<|Nt ?_
 obtain ⟨ax,ay,aA⟩:=K4 H
 have H:=ay
 refine Bl<|T.lk [1,4,5,6,33,34] (FUEL,(0:Int),(0:Int)) (fun ⟨i,d,m⟩=>([(11,qi d),(35,qi m)],blk g (.cells [qi 0].toArray 35)::blk f (.cells [qs].toArray 30)::L,fun hh=>iter (B1r p) i (d,m)=some ax)) H ?_
 rintro ⟨i,d,m⟩ b6 b7 aB
 obtain ⟨W,b8,rfl,H,q⟩:=G8 aB
 refine T.norm [11,35,1,4,5,6,33,34] z<|T.fl ?_
 refine Sr<|Wl z z<|Nt<|Sq<|T.cH H z (fun H=>?_) fun H=>?_
 ·refine Ks<|Sq<|Bl<|Sr<|bE H fun b9 X H=>?_
  obtain ⟨bh,aC,rfl⟩:=F8.at e X
  refine Vv (V.ix A9 z z e (E9 X))<|Vv (V.S9 D7 z aC.u z)<|An z<|Sm z<|Vv (V.ge z z)<|Nt<|T.cH H z (fun H=>?_) fun H=>?_
  ·refine Rg<|Mv z<|bE H fun aD aE H=>Vv (V.H8 z z aE)<|Ag z<|Ni<|Bn<|Th<|Rg<|bE H fun aG aI H=>Vv (V.H8 z z aI)<|Mv z<|Nt<|T.ag (W,aD,aG) (D8 H q)
  refine T.skip<|Bn<|Th<|Rg<|bE H fun aJ aK H=>Vv (V.H8 z z aK)<|Mv z<|Nt<|T.ag (W,d,aJ) (D8 H q)
 refine T.exit<|Te<|Te<|have H:=D6 H q; Be<|Th<|have H:=I7 H aA; Sq<|Sm z<|bE H fun bl aM H=>have aN:=OPt.get ap aM; have aO:=aN; ?_
 obtain ⟨bv,_,rfl,Y,⟨aP,aS,aU,aV,aW,aX,aY,aZ,a0,rfl,a1,a2,a3,a4,a5,a6,Z,a7,a8⟩⟩:=aO
 refine NL z A0o E5 Y.u z<|Vv (V.Q3 A9 z Z)<|Mv z<|bE H fun bz a9 H=>Vv (V.Y9 z z a9)<|Mv z<|Vv (V.Q3 A9 z e)<|Mv z<|bE H fun ca ah H=>Vv (V.Y9 z z ah)<|bE H fun cb al H=>To (O.cs (A9v al _) fun cd cf=>Wg z z<|Nt<|T.cH H z (fun H=>?_) fun H=>?_)
 ·refine Sr<|To (O.stF (vs:=[qs]) E5 z z (j:=1) z z z z<|To (O.stF (vs:=[qi 8]) R9 z z (j:=1) z z z z<|Nr<|Tr<|Fr_ 1 z<|T.A6l ?_))
  cases H
  exact T.A1U (L':=L) results15 (RVs.cons (RV.cell E5 z (j:=0) z z) (RVs.cons (RV.cell R9 z (j:=1) z z) RVs.nil)) Li (fun _ iv=>iv.drop.drop) ⟨_,z,z,F8.nil⟩
 refine Ks<|Sq<|Sm z<|Mv z<|bE H fun aa ba H=>To (O.G9 z (A4R (Pt.mk Y.u ⟨aP,aS,aU,aV,aW,aX,aY,aZ,a0,z,a1.u,a2.u,a3.u,a4.u,a5.u,a6.u,Z.u,a7.u,a8.u⟩) e.u ba _) z fun cg n ci cj bb=>?_)
 obtain ⟨ck,ab,cm,ac,rfl,bc,bd,be,bf,bg⟩:=bb
 refine P7 _ bc<|Nt<|Bl ?_
 obtain ⟨cn,bi,ad⟩:=K4 H
 refine T.R4 3 1<|have bj:A7 (VI .i64) n [] ([]:List Int):=A7.nil; T.fs [2,2] ?_
 refine T.B8d (S:=(List Int)) (O:=(List Int)) (La0:=[blk g (.cells [qi 0].toArray 35),blk f (.cells [(qs)].toArray 30),F5 3 1 (qs) []]) (Lr:=L) (fun c hh r=>∃ a:Value,∃ b:List (List Value),r=([blk g (.cells [qi 0].toArray 35),blk f (.cells [a].toArray 30),F5 3 1 a b]:List D9)∧A7 (VI .i64) hh b c) (fun c c_ hh r=>c_=(.ret:Code)∧∃ a:Value,∃ b:List (List Value),r=([blk g (.cells [qi 0].toArray 35),blk f (.cells [a].toArray 30),F5 3 1 a b]:List D9)∧A7 (VI .i64) hh b c) z z ⟨(qs),[],z,bj⟩ (fun R_ y_=>A8L R_ n y_ B1y) (fun bk=>⟨⟨z,z⟩,RYs.mono (fun c _ _ _ l_ ⟨a,b,e_,f0_⟩=>⟨a,b,e_,A7.mono VI.mono f0_ l_⟩) (fun c _ _ _ _ l_ ⟨c_,a,b,e_,f0_⟩=>⟨c_,a,b,e_,A7.mono VI.mono f0_ l_⟩),?_⟩) (fun _ La_ bm bn bo=>J6.perm (List.Perm.refl _) (A3m bm bn bd (show (VPt T9) n [ab] aa.1 from ⟨ab,z,be⟩) bf (show (VSl (VI .i64) 1) n [ac] aa.2 from ⟨ac,z,bg⟩) bi [] bo) fun _ _ _ ⟨La_,_,e_,q_⟩=>⟨_,List.Perm.refl _,La_,e_,q_⟩) ?_ ?_
 ·intro co cp cq bp cr ae bq cs ct cu br H As_ L_
  rcases bq with c | _
  rotate_left
  ·exact dead H
  obtain ⟨bs,_,rfl,bt,bu,cw,a,b,rfl,s⟩:=br
  refine Yld.B9J fun L=>Yld.B7N (j:=0) z bt z<|T.fl ?_
  refine Rg<|An z<|T.begin (j:=0) z bu<|T.fl ?_
  refine Bl<|Sm z<|T.fs [4] ?_
  refine bE H fun bw bx H=>To (O.G9 z (J6.B1l (R:=fun v h' L'=>∃ (af:List (List Value)),L'=F5 3 1 v af::blk bk (.loop { bs with state:=.busy })::blk g (.cells [qi 0].toArray 35)::blk f (.cells [a].toArray 30)::F5 3 1 a b::L∧A7 (VI .i64) h' af bw) func41 z (fun _ _ _ _ ⟨e_0,l_,f_0⟩=>⟨e_0,l_,(A7.free VI.free f_0)⟩) A1N fun cx cy bA=>?_) z fun o cA cB cC bB=>?_)
  ·have bC:=A7.slc bA ae.u
   exact A1C bC bx _
  obtain ⟨_,rfl,⟨ai,rfl,bD⟩⟩:=bB
  refine T.fl ?_
  refine T.Q9 1 z fun bG bI=>To (O.stF (vs:=[o]) E5 z z (j:=4) z bI (by (simp only [BT,bG]) <;> rfl) z ?_)
  refine T.fl ?_
  refine To (O.stF (vs:=[qi 0]) R9 z z (j:=4) z z z z<|T.fl ?_)
  refine Nr<|Br<|T.fs [5] ?_
  refine T.drop<|T.fs [2,3,3,3,4] ?_
  cases H
  exact T.D2M (j:=0) z Li ⟨_::[blk g (.cells [qi 0].toArray 35),blk f (.cells [o].toArray 30),F5 3 1 o ai],bp,z,z,⟨_,_,_,z,z,z,⟨z,⟨o,ai,z,bD⟩⟩⟩,ae.u⟩
 ·rintro cD cE _ c cG bJ ⟨a,b,rfl,s⟩
  have H:=I7 bJ ad
  refine T.fl ?_
  refine Bn<|Th<|Sr<|To (O.stF (vs:=[qs]) E5 z z (j:=2) z z z z<|T.fl ?_)
  refine To (O.stF (vs:=[qi 9]) R9 z z (j:=2) z z z z<|T.fl ?_)
  refine Nr<|T.fs [3] ?_
  refine T.drop<|T.fs [1,2] ?_
  refine T.A6l<|T.B1e (j:=0) z<|T.fl ?_
  cases H
  exact T.A1U (L':=L) results15 (RVs.cons (RV.cell E5 z (j:=0) z z) (RVs.cons (RV.cell R9 z (j:=1) z z) RVs.nil)) Li (fun _ iv=>iv.drop.drop) ⟨_,z,z,F8.nil⟩
 rintro cI cJ _ c _ cK bK ⟨rfl,a,b,rfl,s⟩
 have H:=I7 bK ad
 refine T.fl ?_
 refine T.ret<|Br<|Tr<|T.fs [3] ?_
 refine T.K5 fun cM cN bM=>have bN:=A7.slc bM s.u; T.fs [1,2,2] ?_
 refine T.A6l<|T.B1e (j:=0) z<|T.fl ?_
 cases H
 exact T.A1U (L':=L) results15 (RVs.cons (RV.cell E5 z (j:=0) z z) (RVs.cons (RV.cell R9 z (j:=1) z z) RVs.nil)) Li (fun _ iv=>iv.drop.drop) ⟨_,z,z,bN⟩
end Go.Proofs.X
open Go Go.Proofs Go.Proofs.Tryz Go.Sl Go.Dm
namespace Go.Proofs.X
theorem A9T:O5 prog 88 0=some 0:=by kernel_rfl
theorem B2X:O5 prog 88 1=some 1:=by kernel_rfl
theorem B3J:O5 prog 88 2=some 2:=by kernel_rfl
theorem A4Q:U6 prog 156=some (false,1):=by kernel_rfl
theorem C1J:zer prog 156=some (.map none):=by kernel_rfl
theorem A6T:zer prog 88=some (.agg #[.int .i64 (0),.int .i64 (0),.int .i64 (0)]):=by kernel_rfl
theorem B6J {h a b c d e} (f:L9 h a b) (g:L9 h c d) (H:A9w b d=some e):∀ L,FnW prog 76 [.agg a.toArray,.agg c.toArray] h L (.int .i64 e):=by
 intro L
 obtain rfl:=f
 obtain rfl:=g
 refine J6.enter func76 z z z<|Sr<|To (O.U5 z z z fun n o p i=>To (O.U5 z z z fun q r s j=>An z<|Sr<|Vv (V.fa A9T z)<|Vv (V.M5 (k:=0) D7 z i.u z)<|Vv (V.fa A9T z)<|Vv (V.M5 (k:=0) D7 z j z)<|bE H fun t m H=>Vv (V.Y9 z z m)<|Ag z<|Nr ?_))
 exact E1 H
theorem B8K {h Y Z D G} (ay:O8 h Y Z) (H:B6y Z=some (D,G)):∀ L,J6 prog 34 [.agg Y.toArray] h (L) (fun v h' L'=>∃ aa ab,v=.tuple #[aa,.int .i64 G]∧L'=F5 88 3 aa ab::L∧A7 L9 h' ab D):=by
 intro L
 obtain ⟨aA,aB,aC,aD,aE,rfl,aG,aI,aJ,aK,aM⟩:=ay
 refine J6.B5X func34 z ntmps34 z<|Sr<|To (O.U5 z z z fun cr ct cu aN=>Ag z<|An z<|Sr<|Vv (V.ldS z aN (by exact J4)) ?_)
 refine bE H fun ⟨cw,cx⟩ aO H=>To (O.G9 z (A3t ⟨aA,aB,aC,aD,aE,z,aG.u,aI.u,aJ.u,aK.u,aM.u⟩ aO _) z fun cy cA cB cC aP=>?_)
 obtain ⟨aS,rfl,aU,I⟩:=aP
 refine P7 _ aU<|Mv z<|Wx z z<|Wx z z<|To (O.alloc A8P z z fun cD=>To (O.stF (vs:=[aS]) Q5 z z (j:=0) z (OPt.cells I) (by (simp only [BT,OPt.one I]) <;> rfl) z ?_))
 refine T.freeze fun aV cE aW=>have x:=Z0.of aW; An z<|Sq<|Sm z<|Wn z z<|Nt<|T.cH H z dead fun H=>Ks<|Sr<|To (O.mkM z fun y=>have aX:X7 (Value.int .i64) true L9 aV 0 ([]:List MapEntry) ([]:List (Int×I1)):=trivial; To (O.alloc C1J z z fun A=>To (O.stF (vs:=[.map (some y)]) A4Q z z (j:=0) z z z z<|Nt<|Sq<|Sq<|T.N8 (t:=(.v 0 (.v 1 (.alt 2 (.alt 3 .done .no) .no)))) 5 0 0 z z I5 (by kernel_rfl) ?_)))
 refine Tv z (V.S9 Q5 z x z)<|Tv z (V.S9 Q5 z x z)<|bE H fun aY aZ H=>have J:=OPt.get I aZ; bE H fun cG a0 H=>Tp z z (X2 z z) (O.G9 z (A4g J.u a0 _) z fun cI cJ cK cM a1=>?_) T.P5
 obtain ⟨cN,a2,a3⟩:=a1
 refine P7 _ a2<|T.K5 fun cO cP a4=>have a5:=A7.slc a4 a3.u; bE H fun ac a6 H=>Tp z z (SX.two (XA.fr [] Li z) (XA.fr [] Li z)) (O.G9 z (A4R J.u a5 a6 _) z fun cS K cU cV a7=>?_) T.P5
 obtain ⟨cW,ad,cX,ae,rfl,a8,a9,ah,al,av⟩:=a7
 refine P7 _ a8<|T.O7 (SX.two (XA.fr [] Li z) (XA.fr [] Li z))<|Th<|Bl ?_
 obtain ⟨cY,az,ba⟩:=K4 H
 refine T.B8d (S:=(List (Int×I1))) (O:=Unit) (La0:=[blk A (.cells [.map (some y)].toArray 156),blk y (.map ([]:List MapEntry).toArray ([]:List MapEntry).length)]) (Lr:=L) (fun w hh bb=>∃ a:Nat,∃ c:List MapEntry,bb=([blk A (.cells [.map (some a)].toArray 156),blk a (.map c.toArray c.length)]:List D9)∧X7 (Value.int .i64) true L9 hh 0 c w) (fun _ _ _ _=>False) z z ⟨y,([]:List MapEntry),z,aX.u⟩ (fun R_ y_=>A8L R_ K y_ (B2F aY)) (fun cZ=>⟨⟨z,z⟩,RYs.mono (fun w _ _ _ l_ ⟨a,c,e_,f0_⟩=>⟨a,c,e_,X7.mono L9.mono l_ f0_⟩) (fun _ _ _ _ _ _ q_=>q_),?_⟩) (fun _ La_ bc bd be=>J6.perm (List.Perm.refl _) (A3m bc bd a9 (show (VPt T9) K [ad] ac.1 from ⟨ad,z,ah⟩) al (show (VSl (VI .i64) 1) K [ae] ac.2 from ⟨ae,z,av⟩) az [] be) fun _ _ _ ⟨La_,_,e_,q_⟩=>⟨_,List.Perm.refl _,La_,e_,q_⟩) ?_ ?_
 ·intro c0 c1 c2 af c3 B bf c4 c5 c6 bg H As_ L_
  rcases bf with w | _
  rotate_left
  ·exact dead H
  obtain ⟨c7,_,rfl,M,bi,c8,a,c,rfl,d⟩:=bg
  refine Yld.B9J fun L=>Yld.B7N (j:=0) z M z<|T.fl ?_
  refine Rg<|An z<|T.begin (j:=0) z bi<|T.fl ?_
  refine Bl<|Sr<|Vv (V.S9 Q5 z x.u z)<|have bj:=J; ?_
  obtain ⟨c9,_,rfl,ag,⟨bk,bm,bn,bo,bp,bq,br,bt,bu,rfl,ai,bw,bx,bA,bB,bC,bD,bG,bI⟩⟩:=bj
  refine NL z A6G I9 ag.u z<|Mv z<|T.fs [3] ?_
  refine bE H fun f bJ H=>To (O.G9 z (J6.A6P (val:=qi f) func40 z A1N fun ch cl bK=>?_) z fun cv bM cz da bN=>?_)
  ·have bO:=A7.slc bK B.u
   exact B5v ai.u bO bJ _
  obtain ⟨rfl,bP⟩:=bN
  refine P7 _ bP<|An z<|Sr<|Vv (V.A8Z A4Q z (j:=2) z z)<|Mv z<|bE H fun ⟨q,db⟩ bS H=>?_
  obtain ⟨_,bU,rfl⟩:=X7.lookO (r:=a) (zc:=[qi 0,qi 0,qi 0]) (agg:=true) underlying156 (A0u.int underlying3) A6T (show L9 bM [qi 0,qi 0,qi 0] (I1.mk (0:Int) (0:Int) (0:Int)) from rfl) d.u bS
  refine Vv (V.D2X z z (j:=3) z bU)<|To (O.alloc A6T z z fun dc=>To (O.stF (vs:=[qi q.A1T,qi q.Y8,qi q.A2G]) A1y z z (j:=0) z z z z<|T.fl ?_))
  refine Nt<|Sm z<|Vv (V.fa A9T z)<|To (O.st (vs:=[qi f]) (k:=0) D7 z z (j:=0) z z z<|T.fl ?_)
  refine Nt<|Sr<|Vv (V.fa B3J z)<|Vv (V.ldO (k:=2) D7 z (j:=0) z z)<|bE H fun m bV H=>Vv (V.H8 z z bV)<|Vv (V.fa B3J z)<|To (O.st (vs:=[qi m]) (k:=2) D7 z z (j:=0) z z z<|T.fl ?_)
  refine Nt<|Sq<|Sr<|Vv (V.S9 Q5 z x.u z)<|Mv z<|T.fs [1] ?_
  refine bE H fun bW bX H=>To (O.G9 z (J6.A6P (val:=.bool bW) func30 z A1N fun dd de bY=>?_) z fun df aj dg di bZ=>?_)
  ·have b0:=A7.slc bY B.u
   exact A6H (Pt.mk ag.u ⟨bk,bm,bn,bo,bp,bq,br,bt,bu,z,ai.u,bw.u,bx.u,bA.u,bB.u,bC.u,bD.u,bG.u,bI.u⟩) b0 bX _
  obtain ⟨rfl,b1⟩:=bZ
  refine P7 _ b1<|Nt<|T.cH H z (fun H=>?_) fun H=>?_
  ·refine Rg<|Vv (V.fa B2X z)<|Vv (V.ldO (k:=1) D7 z (j:=1) z z)<|bE H fun C b2 H=>Vv (V.H8 z z b2)<|Vv (V.fa B2X z)<|To (O.st (vs:=[qi C]) (k:=1) D7 z z (j:=1) z z z<|T.fl ?_)
   refine Nt<|Rg<|Vv (V.A8Z A4Q z (j:=3) z z)<|Mv z<|Vv (V.A4O (j:=0) (by exact A1y) z z) ?_
   refine bE H fun dj b3 H=>To (O.A9R (agg:=true) (E:=L9) (cs:=[qi f,qi C,qi m]) underlying156 (A0u.int underlying3) z z z (j:=4) z d.u (show L9 aj [qi f,qi C,qi m] (I1.mk f C m) from z) _ (.inl z) fun N ak=>?_)
   rw [Option.some.inj b3] at ak
   refine T.fl ?_
   refine Ni<|Bn<|T.fs [1] ?_
   refine T.drop<|T.fs [1,1,3,3] ?_
   cases H
   exact T.B8D (j:=0) z Li ⟨_::[blk A (.cells [.map (some a)].toArray 156),blk a (.map N.toArray N.length)],af,z,z,⟨_,_,z,M.turn .ready none,z,z,⟨a,N,z,ak⟩⟩,B.u⟩
  refine Ks<|Rg<|Vv (V.A8Z A4Q z (j:=3) z z)<|Mv z<|Vv (V.A4O (j:=1) (by exact A1y) z z) ?_
  refine bE H fun dk b4 H=>To (O.A9R (agg:=true) (E:=L9) (cs:=[qi f,qi q.Y8,qi m]) underlying156 (A0u.int underlying3) z z z (j:=4) z d.u (show L9 aj [qi f,qi q.Y8,qi m] (I1.mk f q.Y8 m) from z) _ (.inl z) fun P am=>?_)
  rw [Option.some.inj b4] at am
  refine T.fl ?_
  refine Ni<|Bn<|T.fs [2] ?_
  refine T.drop<|T.fs [1,1,3,3] ?_
  cases H
  exact T.B8D (j:=0) z Li ⟨_::[blk A (.cells [.map (some a)].toArray 156),blk a (.map P.toArray P.length)],af,z,z,⟨_,_,z,M.turn .ready none,z,z,⟨a,P,z,am⟩⟩,B.u⟩
 ·rintro b5 b6 _ w dm b7 ⟨a,c,rfl,d⟩
  have H:=I7 b7 ba
  refine T.fl ?_
  refine Bn<|Th<|Sr<|An z<|Sq<|Sr<|Vv (V.A8Z A4Q z (j:=1) z z)<|To (O.range underlying156 z (j:=2) z z fun b8=>Nt<|Bl<|T.R4 88 3<|have b9:A7 L9 b6 [] ([]:List I1):=A7.nil; T.fs [3] ?_)
  refine T.drop<|T.fs [3,3,3] ?_
  have bh:=C6c H
  refine T.C2r (α:=(List (Int×I1))×(List I1)×(Array Nat)×Value×(List (List Value))) [53] z (fun ⟨n,s,o,p,i⟩=>[(10,p)]) (fun ⟨n,s,o,p,i⟩=>blk b8 (.mapIter (some a) c.length o c.length)::blk b5 (.deferred (some []))::blk a (.map c.toArray c.length)::F5 88 3 p i::L) (fun ⟨n,s,o,p,i⟩ hh=>(∀ l_,l_.Perm n→Option.bind (A0e B2K s l_) B2I=some (D,G))∧Lf (Value.int .i64) true L9 hh c o n∧A7 L9 hh i s) (fun ⟨n,s,o,p,i⟩=>n.length) (w,([]:List I1),#[],(qs),[]) ⟨z,trivial⟩ z ⟨bh,Lf.start d,b9⟩ ?_
  rintro ⟨n,s,o,p,i⟩ U dn ⟨an,ao,W⟩
  refine T.norm [10,53] z<|T.fl ?_
  refine Sr<|To (O.next z (j:=0) z (jm:=2) z (X7.hold (d.u (g:=U))) (Nat.le_refl _) z (fun bl=>?_) (fun dp aq=>?_))
  ·obtain rfl:=Lf.nil ao bl
   have H:=D0s (an [] (List.Perm.refl _))
   refine Wx z z<|Nt<|Sq<|Cf z<|T.exit<|Te<|Te<|Be<|Th<|Sm z<|T.fs [3] ?_
   refine bE H fun dq bv H=>To (O.G9 z (B6C W (show B0E U (.func (.func 76) #[] #[]) A9w from ⟨⟨z,z⟩,.inr ⟨76,[],[],z,fun dr ds dt du bz dw dx ca dy cb cc=>B6J bz ca cb cc⟩⟩) bv _) z fun dA dB dC dD cd=>?_)
   obtain ⟨ce,rfl,cf,cg⟩:=cd
   refine P7 _ cf<|Nt<|Sm z<|Ag z<|Ag z<|Nr<|T.fs [1] ?_
   refine T.drop<|T.fs [2] ?_
   refine T.drop<|Fr_ 1 z<|T.A6l<|T.B1e (j:=0) z<|T.fl ?_
   cases H
   exact T.A1U (L':=F5 88 3 p ce::L) results34 (RVs.cons (RV.tmp z) (Rv z)) Li (fun _ iv=>iv) ⟨_,_,z,z,cg⟩
  obtain ⟨dE,b,dG,ci,cj,rfl,rfl,ar,ck⟩:=Lf.step ao aq (X7.born (d.u (g:=U))).2
  obtain ⟨dI,H,cm⟩:=D0B an ar
  refine T.fl ?_
  refine Wx z z<|Nt<|Sq<|Ct z<|Ks<|Bl<|Sr<|Vv (V.entry z (j:=0) z (jm:=2) z (List.mem_filter.1 aq).1 (X7.born d).2)<|Wx z z<|To (O.alloc A6T z z fun dJ=>To (O.stF (vs:=[qi b.A1T,qi b.Y8,qi b.A2G]) A1y z z (j:=0) z z z z<|T.fl ?_))
  refine T.freeze fun au dK cn=>have co:=Z0.of cn; Nt<|Rg<|Mv z<|Vv (V.ldS z co (by exact A1y)) ?_
  refine To (O.bs A1x A6T z (e:=z) (hk:=z) (xs:=[.tmp 59]) (hv:=CO.eq (CO.cons z CO.nil)) (hw:=O3.of z) (hd:=z) fun dM=>have X:A7 L9 au [[qi b.A1T,qi b.Y8,qi b.A2G]] ([b]:List I1):=(A7.cons z A7.nil); bE H fun aw ax H=>To (O.apX A1x A1x A6T z z z (j:=4) z (Src.row (j:=0) z) (O3.of z) (A7.ones L9.plain X) W.u X ax z fun cp dN dO=>have cq:A7 L9 au (i ++ [[qi b.A1T,qi b.Y8,qi b.A2G]]) aw:=A7.ap W.u X ax; T.fl ?_))
  refine T.fs [1] ?_
  refine T.drop<|Ag z<|Ni<|Bn<|Th<|T.fs [3,3,3] ?_
  cases H
  exact T.again (ci,dI,(o.push cj),cp,(i ++ [[qi b.A1T,qi b.Y8,qi b.A2G]])) Li (Perm.lt ar) ⟨cm,ck.u,cq⟩ (A7d.app ⟨z,trivial⟩ ⟨z,trivial⟩) z
 rintro _ _ _ _ _ _ _ ⟨⟩
end Go.Proofs.X
open Go Go.Proofs Go.Proofs.Tryz Go.Sl Go.Dm
namespace Go.Proofs.X
end Go.Proofs.X
open Go Go.Proofs Go.Proofs.Tryz Go.Sl Go.Dm
namespace Go.Proofs.X
theorem A5U:A5h prog 78=some ([.int .u8 (0),.int .i64 (0)],[(0,1),(1,1)]):=by kernel_rfl
theorem C2f:A5h prog 88=some ([.int .i64 (0),.int .i64 (0),.int .i64 (0)],[(0,1),(1,1),(2,1)]):=by kernel_rfl
theorem A5T:A0B prog 78=true:=by kernel_rfl
theorem C1W:A0B prog 88=true:=by kernel_rfl
theorem C5o:O5 prog 45 0=some 0:=by kernel_rfl
theorem C2l:D0t prog 88=some [(0,.i .i64),(1,.i .i64),(2,.i .i64)]:=by kernel_rfl
theorem A8A {h i d j e k} (c:F8 (VI .i64) 1 h i d) (f:F8 (VI .i64) 1 h j e) (H:A9f d e=some k):∀ L,FnW prog 19 [i,j] h L (.bool k):=by
 intro L
 refine J6.enter func19 z z z<|Sr<|An z<|Sq<|Sm z<|Vv (V.Q3 A9 z c)<|Mv z<|Vv (V.Q3 A9 z f)<|Wn z z<|Nt<|T.cH H z (fun H=>?_) fun H=>?_
 ·exact Sg z<|Nr<|Tr<|E1 H
 refine Ks<|Sq<|Sr<|An z ?_
 obtain ⟨p,q,m⟩:=K4 H
 have H:=q
 refine Bl<|T.lk [0,1] (FUEL,(0:Int)) (fun ⟨a,b⟩=>([(5,qi b)],L,fun hh=>iter (B2L d e) a b=some p)) H ?_
 rintro ⟨a,b⟩ B C r
 obtain ⟨s,D,rfl,H,g⟩:=G8 r
 refine T.norm [5,0,1] z<|T.fl ?_
 refine Sq<|Sm z<|Mv z<|Vv (V.Q3 A9 z c)<|Wl z z<|Nt<|T.cH H z (fun H=>?_) fun H=>?_
 ·refine Ks<|Sq<|Bl<|Sq<|T.N8 (t:=(.vs [0,1,2,3,4,5,6,7,8] .done)) 10 0 0 z z I5 (by kernel_rfl) ?_
  refine Tm z z<|Tm z z<|bE H fun E n H=>?_
  obtain ⟨G,w,rfl⟩:=F8.at c n
  refine Tv z (V.ix A9 z z c (E9 n))<|Tv z (V.S9 D7 z w.u z)<|Tm z z<|Tm z z<|bE H fun I o H=>?_
  obtain ⟨J,x,rfl⟩:=F8.at f o
  refine Tv z (V.ix A9 z z f (E9 o))<|Tv z (V.S9 D7 z x.u z)<|Tv z (V.ne z z)<|T.O7 (X2 z z)<|Th<|T.cH H z (fun H=>?_) fun H=>?_
  ·exact Sg z<|Nr<|Br<|Tr<|Tr<|have H:=D6 H g; Br<|Tr<|have H:=I7 H m; E1 H
  refine T.skip<|Bn<|Th<|Rg<|Mv z<|bE H fun y A H=>Vv (V.H8 z z A)<|An z<|T.ag (s,y) (D8 H g)
 exact T.exit<|Te<|Te<|have H:=D6 H g; Be<|Th<|have H:=I7 H m; Sg z<|Nr<|E1 H
theorem B7v {h i d j e k} (c:F8 (VSl (VI .i64) 1) 1 h i d) (f:F8 (VSl (VI .i64) 1) 1 h j e) (H:B4N d e=some k):∀ L,FnW prog 36 [i,j] h L (.bool k):=by
 intro L
 refine J6.enter func36 z z z<|Sr<|An z<|Sq<|Sm z<|Vv (V.Q3 J9 z c)<|Mv z<|Vv (V.Q3 J9 z f)<|Wn z z<|Nt<|T.cH H z dead fun H=>Ks<|Sq<|Sr<|An z ?_
 obtain ⟨p,q,r⟩:=K4 H
 have H:=q
 refine Bl<|T.lk [0,1] (FUEL,(0:Int)) (fun ⟨a,b⟩=>([(5,qi b)],L,fun hh=>iter (B1p d e) a b=some p)) H ?_
 rintro ⟨a,b⟩ J K s
 obtain ⟨w,M,rfl,H,m⟩:=G8 s
 refine T.norm [5,0,1] z<|T.fl ?_
 refine Sq<|Sm z<|Mv z<|Vv (V.Q3 J9 z c)<|Wl z z<|Nt<|T.cH H z (fun H=>?_) fun H=>?_
 ·refine Ks<|Sq<|Bl<|Sq<|T.N8 (t:=(.vs [0,1,2,3,4,5,6,7] (.alt 8 (.g (.v 9 .done)) .no))) 11 0 0 z z I5 (by kernel_rfl) ?_
  refine Tm z z<|Tm z z<|bE H fun N n H=>?_
  obtain ⟨P,x,⟨S,rfl,y⟩⟩:=F8.at c n
  refine Tv z (V.ix J9 z z c (E9 n))<|Tv z (V.S9 E5 z x.u z)<|Tm z z<|Tm z z<|bE H fun U o H=>?_
  obtain ⟨W,A,⟨X,rfl,B⟩⟩:=F8.at f o
  refine Tv z (V.ix J9 z z f (E9 o))<|Tv z (V.S9 E5 z A.u z)<|bE H fun Y C H=>Tp z z (X2 z z) (O.G9 z (A8A y.u B.u C _) z fun Z aa ab ac D=>?_) T.P5
  obtain ⟨rfl,E⟩:=D
  refine P7 _ E<|T.O1 Li<|Tv z (V.not z)<|T.O7 (X2 z z)<|Th<|T.cH H z dead fun H=>T.skip<|Bn<|Th<|Rg<|Mv z<|bE H fun G I H=>Vv (V.H8 z z I)<|An z<|T.ag (w,G) (D8 H m)
 exact T.exit<|Te<|Te<|have H:=D6 H m; Be<|Th<|have H:=I7 H r; Sg z<|Nr<|E1 H
theorem A9V {h U} (H:A5P  = some U):∀ L,FnW prog 8 [] h L (.bool U):=by
 intro L
 refine J6.enter func8 z z z<|Sr<|An z<|Sr<|Vv (V.bld (xs:=[(0,.const (.int .u8 (1))),(2,.const (.string ⟨#[97,110,110,97]⟩)),(3,.const (.string ⟨#[98,111,114,105,115]⟩)),(5,.const (qi (2)))]) (cs:=[_,_,_,_,_,_]) C0c B9t z (F4.cons z z z (F4.cons z z z (F4.cons z z z (F4.cons z z z F4.nil)))))<|To (O.bs U9 A1R z (e:=z) (hk:=z) (xs:=[.tmp 20]) (hv:=CO.eq (CO.cons z CO.nil)) (hw:=O3.of z) (hd:=z) fun cD=>have ak:A7 H9 h [[.int .u8 1,qi 0,.string (⟨#[97,110,110,97]⟩:ByteArray),.string (⟨#[98,111,114,105,115]⟩:ByteArray),.string qe,qi 2]] ([(F3.mk (1:Int) (0:Int) (⟨#[97,110,110,97]⟩:ByteArray) (⟨#[98,111,114,105,115]⟩:ByteArray) qe (2:Int))]:List F3):=(A7.cons z A7.nil); T.K5 fun cE cG am=>have an:=A7.slc am ak.u; bE H fun cI ao H=>To (O.G9 z (A9O an ao _) z fun cJ cK cM cN ap=>?_))
 obtain ⟨a,b,c,d,f,rfl,aq,i,m,n,o,p⟩:=ap
 refine P7 _ aq<|To (O.alloc A3q z z fun cO=>To (O.stF (vs:=[a,b,c,d,f]) J4 z z (j:=0) z z (by (simp only [BT,F8.one i,F8.one m,F8.one n,F8.one o,F8.one p]) <;> rfl) z ?_))
 refine T.freeze fun cP cS ar=>have I:=Z0.of ar; Nt<|Sr<|Vv (V.ldS z I (by exact J4)) ?_
 refine bE H fun ⟨cU,cV,cW⟩ au H=>To (O.cs (A3w ⟨a,b,c,d,f,z,i.u,m.u,n.u,o.u,p.u⟩ au _) fun cY c0=>Mv z<|Wx z z<|Wx z z<|Wx z z<|Ag z<|Ag z<|An z<|Sr<|Vv (V.ldS z I.u (by exact J4)) ?_)
 refine bE H fun ⟨c1,c2⟩ ay H=>To (O.cs (B9z ⟨a,b,c,d,f,z,i.u,m.u,n.u,o.u,p.u⟩ ay _) fun aA c5=>Mv z<|Wx z z<|Wx z z<|Ag z<|An z<|Sr<|Vv (V.bld (xs:=[(0,.const (.int .u8 (1))),(1,.const (qi (0)))]) (cs:=[_,_]) A5U A5T z (F4.cons z z z (F4.cons z z z F4.nil)))<|Vv (V.bld (xs:=[(0,.const (.int .u8 (1))),(1,.const (qi (1)))]) (cs:=[_,_]) A5U A5T z (F4.cons z z z (F4.cons z z z F4.nil)))<|Vv (V.bld (xs:=[(0,.const (.int .u8 (2)))]) (cs:=[_,_]) A5U A5T z (F4.cons z z z F4.nil))<|Vv (V.bld (xs:=[(0,.const (.int .u8 (2)))]) (cs:=[_,_]) A5U A5T z (F4.cons z z z F4.nil))<|Vv (V.bld (xs:=[(0,.const (.int .u8 (2)))]) (cs:=[_,_]) A5U A5T z (F4.cons z z z F4.nil))<|Vv (V.bld (xs:=[(0,.const (.int .u8 (4))),(1,.const (qi (2)))]) (cs:=[_,_]) A5U A5T z (F4.cons z z z (F4.cons z z z F4.nil)))<|Vv (V.bld (xs:=[(0,.const (.int .u8 (4))),(1,.const (qi (4)))]) (cs:=[_,_]) A5U A5T z (F4.cons z z z (F4.cons z z z F4.nil)))<|Vv (V.bld (xs:=[(0,.const (.int .u8 (4))),(1,.const (qi (1)))]) (cs:=[_,_]) A5U A5T z (F4.cons z z z (F4.cons z z z F4.nil)))<|To (O.bs A3g B6V z (e:=z) (hk:=z) (xs:=[.tmp 34,.tmp 35,.tmp 36,.tmp 37,.tmp 38,.tmp 39,.tmp 40,.tmp 41]) (hv:=CO.eq (CO.cons z (CO.cons z (CO.cons z (CO.cons z (CO.cons z (CO.cons z (CO.cons z (CO.cons z CO.nil))))))))) (hw:=O3.of z) (hd:=z) fun c6=>have q:A7 A3v aA [[.int .u8 1,qi 0],[.int .u8 1,qi 1],[.int .u8 2,qi 0],[.int .u8 2,qi 0],[.int .u8 2,qi 0],[.int .u8 4,qi 2],[.int .u8 4,qi 4],[.int .u8 4,qi 1]] ([(N9.mk (1:Int) (0:Int)),(N9.mk (1:Int) (1:Int)),(N9.mk (2:Int) (0:Int)),(N9.mk (2:Int) (0:Int)),(N9.mk (2:Int) (0:Int)),(N9.mk (4:Int) (2:Int)),(N9.mk (4:Int) (4:Int)),(N9.mk (4:Int) (1:Int))]:List N9):=(A7.cons z (A7.cons z (A7.cons z (A7.cons z (A7.cons z (A7.cons z (A7.cons z (A7.cons z A7.nil)))))))); An z<|Sq<|T.norm [1,2,3,4,5,6,7] z<|T.fl ?_))
 refine Rg<|Vv (V.ldS z I.u (by exact J4)) ?_
 refine Mv z<|bE H fun ⟨aD,aE⟩ aG H=>To (O.G9 z (J6.A6P (val:=.tuple #[qi aD,qi aE]) func33 z A1N fun c7 c8 aI=>?_) z fun c9 ch cl cv aJ=>?_)
 ·have aK:=A7.slc aI q.u
  exact A7u ⟨a,b,c,d,f,z,i.u,m.u,n.u,o.u,p.u⟩ aK aG _
 obtain ⟨rfl,aM⟩:=aJ
 refine P7 _ aM<|Mv z<|Wx z z<|Wx z z<|Ag z<|An z<|Sq<|Sm z<|Mv z<|bE H fun cz aN H=>Vv (V.H8 z z aN)<|Wn z z<|Mv z<|T.bH 53 H z dead fun H=>Mv z<|Wn z z<|Kf z<|Mv z<|T.bH 57 H z dead fun H=>Mv z<|Wn z z<|Kf z<|Mv z<|T.bH 61 H z dead fun H=>Mv z<|Wn z z<|Kf z<|Mv z<|T.bH 65 H z dead fun H=>Mv z<|Wn z z<|Kf z<|Mv z<|T.bH 69 H z dead fun H=>Mv z<|Wn z z<|Kf z<|Nt<|T.cH H z dead fun H=>Ks<|Sq<|T.norm [1,7] z<|T.fl ?_
 refine T.N8 (t:=(.vs [0,1,2] (.alt 3 (.g (.vs [4,5,6] (.alt 7 (.alt 8 .done .no) .no))) .no))) 10 1 1 z z I5 (by kernel_rfl) ?_
 refine Tv z (V.ldS z I.u (by exact J4)) ?_
 refine Tm z z<|bE H fun da W H=>Tv z (Val.XA fun _ _ _=>V.C3R A3g z (j:=0) z q.len (.inl ⟨z,z⟩) (.inr ⟨_,_,z,z⟩) (A4N W))<|bE H fun ⟨aO,aP⟩ aS H=>Tp z z (X3 [0] [0] z z) (O.G9 z (J6.A6P (val:=.tuple #[qi aO,qi aP]) func33 z A1N fun db dc aU=>?_) z fun dd X de df aV=>?_) T.P5
 ·have aW:=A7.slc aU q.u
  have aX:=F8.D3o aW (A4N W)
  exact A7u ⟨a,b,c,d,f,z,i.u,m.u,n.u,o.u,p.u⟩ aX aS _
 obtain ⟨rfl,aY⟩:=aV
 refine P7 _ aY<|T.O1 Li<|Tm z z<|Tv z (V.ext z z)<|Tv z (V.ext z z)<|Ts z z (X3 [0] [0] z z) (V.asg z) z ?_ T.P5
 refine Ts z z (X3 [0] [0] z z) (V.asg z) z ?_ T.P5
 refine T.O7 (X3 [0] [0] z z)<|Th<|Sm z<|bE H fun J Y H=>?_
 obtain ⟨dg,aZ,rfl⟩:=A7.get q Y
 refine Vv (V.ixR A3g z z (j:=0) z (A7.bd q Y))<|Vv (V.fa X6 z)<|bE H fun a0 a1 H=>To (O.D2j (k:=1) D7 z z (j:=0) z z z z aZ<|have a2:A7 A3v X ([[.int .u8 1,qi 0],[.int .u8 1,qi 1],[.int .u8 2,qi 0],[.int .u8 2,qi 0],[.int .u8 2,qi 0],[.int .u8 4,qi 2],[.int .u8 4,qi 4],[.int .u8 4,qi 1]].set (5:Int).toNat (over [.int .u8 J.H6,qi J.fN] [qi 0] 1)) a0:=A7.set q.u (show A3v X (over [.int .u8 J.H6,qi J.fN] [qi 0] 1) (N9.mk J.H6 (0:Int)) from z) a1; Nt<|Sr<|Vv (V.ldS z I.u (by exact J4)) ?_)
 refine Mv z<|bE H fun ⟨a3,a4⟩ a5 H=>To (O.G9 z (J6.A6P (val:=.tuple #[qi a3,qi a4]) func33 z A1N fun di dj a6=>?_) z fun dk dm dn dp a7=>?_)
 ·have a8:=A7.slc a6 a2.u
  exact A7u ⟨a,b,c,d,f,z,i.u,m.u,n.u,o.u,p.u⟩ a8 a5 _
 obtain ⟨rfl,a9⟩:=a7
 refine P7 _ a9<|Mv z<|Wx z z<|Wx z z<|Ag z<|An z<|Sq<|Sm z<|Wn z z<|Mv z<|T.bH 91 H z dead fun H=>Mv z<|Wn z z<|Kf z<|Mv z<|T.bH 95 H z dead fun H=>Mv z<|Wn z z<|Kf z<|Mv z<|T.bH 99 H z dead fun H=>Mv z<|Wn z z<|Kf z<|Nt<|T.cH H z dead fun H=>Ks<|Sq<|T.norm [] z<|T.fl ?_
 refine Rg<|bE H fun dq ah H=>To (O.G9 z (A9O F8.nil ah _) z fun dr ds dt du al=>?_)
 obtain ⟨av,az,ba,bb,bc,rfl,be,bf,bg,bi,bj,bk⟩:=al
 refine P7 _ be<|bE H fun ⟨dw,dx,dy⟩ bm H=>To (O.cs (A3w ⟨av,az,ba,bb,bc,z,bf,bg,bi,bj,bk⟩ bm _) fun bn dC=>Mv z<|Wx z z<|Wx z z<|Wx z z<|Ag z<|Ag z<|An z<|Sq<|Sm z<|Wn z z<|Mv z<|T.bH 111 H z dead fun H=>Mv z<|Wn z z<|Kf z<|Mv z<|T.bH 115 H z dead fun H=>Mv z<|Wn z z<|Kf z<|Nt<|T.cH H z dead fun H=>Ks<|Sr<|Vv (V.bld (xs:=[(0,.const (.int .u8 (3))),(2,.const (.string ⟨#[97,110,110,97]⟩)),(3,.const (.string ⟨#[98,111,114,105,115]⟩)),(1,.const (qi (5)))]) (cs:=[_,_,_,_,_,_]) C0c B9t z (F4.cons z z z (F4.cons z z z (F4.cons z z z (F4.cons z z z F4.nil)))))<|To (O.bs U9 A1R z (e:=z) (hk:=z) (xs:=[.tmp 119]) (hv:=CO.eq (CO.cons z CO.nil)) (hw:=O3.of z) (hd:=z) fun dD=>have bq:A7 H9 bn [[.int .u8 3,qi 5,.string (⟨#[97,110,110,97]⟩:ByteArray),.string (⟨#[98,111,114,105,115]⟩:ByteArray),.string qe,qi 0]] ([(F3.mk (3:Int) (5:Int) (⟨#[97,110,110,97]⟩:ByteArray) (⟨#[98,111,114,105,115]⟩:ByteArray) qe (0:Int))]:List F3):=(A7.cons z A7.nil); T.K5 fun dE dG br=>have bt:=A7.slc br bq.u; bE H fun dI bu H=>To (O.G9 z (A9O bt bu _) z fun dJ dK dM dN bw=>?_)))
 obtain ⟨s,w,x,y,A,rfl,bx,B,C,D,E,G⟩:=bw
 refine P7 _ bx<|To (O.alloc A3q z z fun dO=>To (O.stF (vs:=[s,w,x,y,A]) J4 z z (j:=0) z z (by (simp only [BT,F8.one B,F8.one C,F8.one D,F8.one E,F8.one G]) <;> rfl) z ?_))
 refine T.freeze fun dP dS bA=>have K:=Z0.of bA; Nt<|Sr<|Vv (V.ldS z K (by exact J4)) ?_
 refine bE H fun ⟨dU,dV⟩ bB H=>To (O.G9 z (B8K ⟨s,w,x,y,A,z,B.u,C.u,D.u,E.u,G.u⟩ bB _) z fun dW dX dY dZ bC=>?_)
 obtain ⟨d0,d1,rfl,bD,M⟩:=bC
 refine P7 _ bD<|Mv z<|Wx z z<|Wx z z<|Ag z<|An z<|Sq<|T.norm [4,12,13] z<|T.fl ?_
 refine Rg<|Vv (V.ldS z K.u (by exact J4)) ?_
 refine bE H fun ⟨bG,d2⟩ bI H=>To (O.G9 z (A9y ⟨s,w,x,y,A,z,B.u,C.u,D.u,E.u,G.u⟩ bI _) z fun d3 d4 d5 d6 bJ=>?_)
 obtain ⟨bK,rfl,bM,Z⟩:=bJ
 refine P7 _ bM<|Mv z<|Wx z z<|Wx z z<|To (O.alloc A6D z z fun d7=>To (O.stF (vs:=[bK,qi bG.A1T]) A0c z z (j:=0) z z (by (simp only [BT,F8.one Z]) <;> rfl) z ?_))
 refine T.fl ?_
 refine T.freeze fun d8 d9 bN=>have aa:=Z0.of bN; An z<|Sr<|Vv (V.ldS z K.u (by exact J4)) ?_
 refine bE H fun ⟨dh,dl⟩ bO H=>To (O.G9 z (B4U ⟨s,w,x,y,A,z,B.u,C.u,D.u,E.u,G.u⟩ bO _) z fun dv dz ea eb bP=>?_)
 obtain ⟨ec,rfl,bS,bU⟩:=bP
 refine P7 _ bS<|Mv z<|Wx z z<|Wx z z<|Ag z<|An z<|Sr<|Vv (V.ldS z K.u (by exact J4)) ?_
 refine bE H fun ⟨ed,ee⟩ bV H=>To (O.G9 z (B4U ⟨s,w,x,y,A,z,B.u,C.u,D.u,E.u,G.u⟩ bV _) z fun ef bW eg ei bX=>?_)
 obtain ⟨ej,rfl,bY,ek⟩:=bX
 refine P7 _ bY<|Mv z<|Wx z z<|Wx z z<|Ag z<|An z<|Sr<|Vv (V.ldS z K.u (by exact J4)) ?_
 refine To (O.bs A9 K8 z (e:=z) (hk:=z) (xs:=[.const (qi (-1)),.const (qi (0)),.const (qi (-1))]) (hv:=CO.eq (CO.cons z (CO.cons z (CO.cons z CO.nil)))) (hw:=O3.of z) (hd:=z) fun em=>have bZ:A7 (VI .i64) bW [[qi (-1)],[qi 0],[qi (-1)]] ([(-1:Int),(0:Int),(-1:Int)]:List Int):=(A7.cons z (A7.cons z (A7.cons z A7.nil))); T.K5 fun en eo b0=>have b1:=A7.slc b0 bZ.u; bE H fun ⟨ep,er⟩ b2 H=>To (O.G9 z (B7x ⟨s,w,x,y,A,z,B.u,C.u,D.u,E.u,G.u⟩ b1 b2 _) z fun es b3 et eu b4=>?_))
 obtain ⟨ew,rfl,b5,b6⟩:=b4
 refine P7 _ b5<|Mv z<|Wx z z<|Wx z z<|Ag z<|An z<|Sm z<|Mv z<|bE H fun ex b7 H=>Vv (V.H8 z z b7)<|Mv z<|bE H fun ey b8 H=>Vv (V.H8 z z b8)<|Mv z<|bE H fun eA b9 H=>Vv (V.H8 z z b9)<|We z z<|Mv z<|T.bH 156 H z (fun H=>?_) fun H=>?_
 ·refine Mv z<|We z z<|Kt z<|Mv z<|T.bH 160 H z (fun H=>?_) fun H=>?_
  ·refine Mv z<|Vv (V.A4x A1x z (j:=0) z M.len)<|We z z<|Kt z<|Mv z<|T.bH 165 H z (fun H=>?_) fun H=>?_
   ·refine Mv z<|bE H fun N ab H=>?_
    obtain ⟨eB,bh,rfl⟩:=A7.get M ab
    refine Vv (V.ixR A1x z z (j:=0) z (A7.bd M ab))<|Vv (V.C7D z (j:=0) z bh A1y)<|Vv (V.bld (xs:=[(0,.const (qi (0))),(1,.const (qi (1))),(2,.const (qi (8)))]) (cs:=[_,_,_]) C2f C1W z (F4.cons z z z (F4.cons z z z (F4.cons z z z F4.nil))))<|Vv (V.D3r C2l z z (r:=(decide (N.A1T=(0:Int)) && (decide (N.Y8=(1:Int)) && (decide (N.A2G=(8:Int)) && true)))) z)<|Kt z<|Mv z<|T.bH 172 H z (fun H=>?_) fun H=>?_
    ·refine Mv z<|bE H fun P ac H=>?_
     obtain ⟨eC,bl,rfl⟩:=A7.get M ac
     refine Vv (V.ixR A1x z z (j:=0) z (A7.bd M ac))<|Vv (V.C7D z (j:=0) z bl A1y)<|Vv (V.bld (xs:=[(0,.const (qi (5))),(1,.const (qi (2))),(2,.const (qi (16)))]) (cs:=[_,_,_]) C2f C1W z (F4.cons z z z (F4.cons z z z (F4.cons z z z F4.nil))))<|Vv (V.D3r C2l z z (r:=(decide (P.A1T=(5:Int)) && (decide (P.Y8=(2:Int)) && (decide (P.A2G=(16:Int)) && true)))) z)<|Kt z<|Mv z<|T.bH 179 H z (fun H=>?_) fun H=>?_
     ·refine Vv (V.fa A6s z)<|Vv (V.M5 (k:=1) D7 z aa.u z)<|We z z<|Kt z<|Mv z<|T.bH 184 H z (fun H=>?_) fun H=>?_
      ·refine Vv (V.fa C5o z)<|Vv (V.M5 (k:=0) E5 z aa.u z)<|To (O.bs A9 K8 z (e:=z) (hk:=z) (xs:=[.const (qi (0)),.const (qi (2)),.const (qi (1))]) (hv:=CO.eq (CO.cons z (CO.cons z (CO.cons z CO.nil)))) (hw:=O3.of z) (hd:=z) fun eD=>have bv:A7 (VI .i64) b3 [[qi 0],[qi 2],[qi 1]] ([(0:Int),(2:Int),(1:Int)]:List Int):=(A7.cons z (A7.cons z (A7.cons z A7.nil))); T.K5 fun eE eG bz=>have ca:=A7.slc bz bv.u; bE H fun eI cb H=>To (O.cs (A8A Z.u ca cb _) fun S eM=>Kt z<|Mv z<|T.bH 190 H z (fun H=>?_) fun H=>?_))
       ·refine Mv z<|To (O.bs A9 K8 z (e:=z) (hk:=z) (xs:=[.const (qi (0)),.const (qi (1)),.const (qi (2))]) (hv:=CO.eq (CO.cons z (CO.cons z (CO.cons z CO.nil)))) (hw:=O3.of z) (hd:=z) fun ad=>have ce:A7 (VI .i64) S [[qi 0],[qi 1],[qi 2]] ([(0:Int),(1:Int),(2:Int)]:List Int):=(A7.cons z (A7.cons z (A7.cons z A7.nil))); To (O.bs A9 K8 z (e:=z) (hk:=z) (xs:=[.const (qi (0)),.const (qi (1)),.const (qi (3))]) (hv:=CO.eq (CO.cons z (CO.cons z (CO.cons z CO.nil)))) (hw:=O3.of z) (hd:=z) fun ae=>have cf:A7 (VI .i64) S [[qi 0],[qi 1],[qi 3]] ([(0:Int),(1:Int),(3:Int)]:List Int):=(A7.cons z (A7.cons z (A7.cons z A7.nil))); To (O.bs A9 K8 z (e:=z) (hk:=z) (xs:=[.const (qi (0)),.const (qi (2)),.const (qi (1))]) (hv:=CO.eq (CO.cons z (CO.cons z (CO.cons z CO.nil)))) (hw:=O3.of z) (hd:=z) fun af=>have cg:A7 (VI .i64) S [[qi 0],[qi 2],[qi 1]] ([(0:Int),(2:Int),(1:Int)]:List Int):=(A7.cons z (A7.cons z (A7.cons z A7.nil))); T.fs [2] ?_)))
        refine T.K5 fun eN eO ci=>have ag:=A7.slc ci ce.u; T.fs [1] ?_
        refine T.K5 fun eP eS cj=>have ai:=A7.slc cj cf.u; T.K5 fun ck eU cm=>have aj:=A7.slc cm cg.u; To (O.bs J9 A1I z (e:=z) (hk:=z) (xs:=[.tmp 192,.tmp 193,.tmp 194]) (hv:=CO.eq (CO.cons (F8.cells ag) (CO.cons (F8.cells ai) (CO.cons (F8.cells aj) CO.nil)))) (hw:=O3.of z) (hd:=z) fun eV=>have cn:A7 (VSl (VI .i64) 1) ck [[(.slice (some ⟨ad,0,none⟩) 3 3)],[(.slice (some ⟨ae,0,none⟩) 3 3)],[(.slice (some ⟨af,0,none⟩) 3 3)]] ([[(0:Int),(1:Int),(2:Int)],[(0:Int),(1:Int),(3:Int)],[(0:Int),(2:Int),(1:Int)]]:List (List Int)):=(A7.cons ⟨(.slice (some ⟨ad,0,none⟩) 3 3),z,ag.u⟩ (A7.cons ⟨(.slice (some ⟨ae,0,none⟩) 3 3),z,ai.u⟩ (A7.cons ⟨(.slice (some ⟨af,0,none⟩) 3 3),z,aj⟩ A7.nil))); T.K5 fun eW eX co=>have cp:=A7.slc co cn.u; bE H fun eY cq H=>To (O.cs (B7v bU.u cp cq _) fun cr e1=>Kt z<|Mv z<|T.bH 198 H z (fun H=>?_) fun H=>?_))
        ·exact Mv z<|To (O.bs A9 K8 z (e:=z) (hk:=z) (xs:=[.const (qi (1)),.const (qi (0)),.const (qi (2))]) (hv:=CO.eq (CO.cons z (CO.cons z (CO.cons z CO.nil)))) (hw:=O3.of z) (hd:=z) fun e2=>have cw:A7 (VI .i64) cr [[qi 1],[qi 0],[qi 2]] ([(1:Int),(0:Int),(2:Int)]:List Int):=(A7.cons z (A7.cons z (A7.cons z A7.nil))); T.K5 fun e3 e4 cx=>have cy:=A7.slc cx cw.u; bE H fun e5 cA H=>To (O.cs (A8A b6.u cy cA _) fun e7 e9=>Kt z<|Ag z<|Nr<|T.drop<|T.drop<|E1 H))
        exact dead H
       exact dead H
      exact dead H
     exact dead H
    exact dead H
   exact dead H
  exact dead H
 exact dead H
theorem C4B {h a b c} (H:B6n a b=some c):∀ L,FnW prog 9 [.int .i64 a,.int .i64 b] h L (.int .i64 c):=by
 intro L
 refine J6.enter func9 z z z<|Sr<|An z<|Sm z<|Mv z<|bE H fun f d H=>Vv (V.A1c z z d)<|An z<|Sq<|Sm z<|Wl z z<|Nt<|T.cH H z (fun H=>?_) fun H=>?_
 ·exact Rg<|Mv z<|Mv z<|bE H fun g e H=>Vv (V.H8 z z e)<|An z<|Sm z<|Ag z<|Nr<|E1 H
 exact Ks<|Sm z<|Ag z<|Nr<|E1 H
theorem C2V {h E o G p f} (ad:O8 h E o) (ae:F8 (VI .i64) 1 h G p) (H:B3S o p=some f):∀ L,J6 prog 10 [.agg E.toArray,G] h (L) (fun v h' L'=>∃ v0_1 v0_3 v0_5 v0_7 v0_9,v=.agg #[v0_1,v0_3,v0_5,v0_7,v0_9]∧L'=L∧F8 I6 7 h' v0_1 f.C8∧F8 I8 9 h' v0_3 f.A8∧F8 L8 3 h' v0_5 f.M9∧F8 (VI .i64) 1 h' v0_7 f.R8∧F8 H9 6 h' v0_9 f.F9):=by
 intro L
 obtain ⟨I,J,K,M,N,rfl,P,S,U,W,m⟩:=ad
 refine J6.enter func10 z z z<|Sr<|To (O.U5 z z z fun aZ a0 a1 q=>To (O.alloc A3q z z fun af=>Nt<|Sq<|Sr<|Vv (V.ldS z q (by exact J4)) ?_))
 refine bE H fun ⟨a2,a3⟩ ai H=>To (O.cs (A5j ⟨I,J,K,M,N,z,P.u,S.u,U.u,W.u,m.u⟩ ai _) fun a5 a7=>Mv z<|Wx z z<|Wx z z<|Ag z<|An z<|Sm z<|Wn z z<|Nt<|T.cH H z (fun H=>?_) fun H=>?_)
 ·refine Sr<|Vv (V.bld (xs:=[]) (cs:=[_,_,_,_,_]) C0G C0J z F4.nil)<|To (O.stF (vs:=[qs,qs,qs,qs,qs]) J4 z z (j:=0) z z z z<|Nr<|Tr ?_)
  cases H
  exact T.A9b (L':=L) results10 (RVs.cons (RV.cellS z (j:=0) z J4) RVs.nil) Li (fun _ iv=>iv.drop) ⟨_,_,_,_,_,z,z,F8.nil,F8.nil,F8.nil,F8.nil,F8.nil⟩
 refine Ks<|Sr<|Vv (V.ldS z q.u (by exact J4)) ?_
 refine bE H fun a8 am H=>To (O.G9 z (A9K ⟨I,J,K,M,N,z,P.u,S.u,U.u,W.u,m.u⟩ am _) z fun a9 an ah al ao=>?_)
 obtain ⟨r,s,t,w,aq,rfl,ar,x,y,A,B,au⟩:=ao
 refine P7 _ ar<|To (O.alloc A3q z z fun aw=>To (O.stF (vs:=[r,s,t,w,aq]) J4 z z (j:=0) z z (by (simp only [BT,F8.one x,F8.one y,F8.one A,F8.one B,F8.one au]) <;> rfl) z ?_))
 refine Nt<|Sr<|Vv (V.fa Y3 z)<|To (O.st (vs:=[qs]) (k:=4) Y4 z z (j:=0) z z z<|Nt<|Sq<|Sr<|Vv (V.fa Y3 z)<|Vv (V.M5 (k:=4) Y4 z q.u z)<|Vv (V.Q3 U9 z m)<|Mv z<|Nt ?_)
 obtain ⟨ax,ay,aA⟩:=K4 H
 have H:=ay
 refine Bl<|T.R4 43 6<|have aB:A7 H9 an [] ([]:List F3):=A7.nil; T.fs [2,2] ?_
 refine T.lk [1,4,7,22,23] (FUEL,([]:List F3),(0:Int),(qs),[]) (fun ⟨g,d,i,c,b⟩=>([(24,qi i)],blk aw (.cells [r,s,t,w,c].toArray 33)::blk af (.cells [qs,qs,qs,qs,qs].toArray 33)::F5 43 6 c b::L,fun hh=>iter (A8R o p) g (d,i)=some ax∧A7 H9 hh b d)) ⟨H,aB⟩ ?_
 rintro ⟨g,d,i,c,b⟩ av az ⟨aC,n⟩
 obtain ⟨X,ba,rfl,H,C⟩:=G8 aC
 refine T.norm [24,1,4,7,22,23] z<|T.fl ?_
 refine Sr<|Wl z z<|Nt<|Sq<|T.cH H z (fun H=>?_) fun H=>?_
 ·refine Ks<|Sq<|Bl<|Sm z<|bE H fun a Y H=>?_
  obtain ⟨bb,aD,rfl⟩:=F8.at m Y
  refine Vv (V.ix U9 z z m (E9 Y))<|Vv (V.ldS z aD.u (by exact K3)) ?_
  refine To (O.alloc A1R z z fun bc=>Ag z<|To (O.stF (vs:=[.int .u8 a.H6,qi a.J3,.string a.fA,.string a.fB,.string a.J2,qi a.fN]) K3 z z (j:=0) z z z z<|T.fl ?_))
  refine T.freeze fun bd be aE=>have aG:=Z0.of aE; Nt<|Sm z<|Mv z<|bE H fun bf aI H=>To (O.cs (A1Z ae.u aI _) fun Z bj=>Nt<|T.cH H z (fun H=>?_) fun H=>?_)
  ·refine Rg<|Vv (V.fa Y3 z)<|Vv (V.ldO (k:=4) Y4 z (j:=0) z z)<|Vv (V.ldS z aG.u (by exact K3)) ?_
   refine To (O.bs U9 A1R z (e:=z) (hk:=z) (xs:=[.tmp 34]) (hv:=CO.eq (CO.cons z CO.nil)) (hw:=O3.of z) (hd:=z) fun bk=>have D:A7 H9 Z [[.int .u8 a.H6,qi a.J3,.string a.fA,.string a.fB,.string a.J2,qi a.fN]] ([a]:List F3):=(A7.cons z A7.nil); bE H fun aa ab H=>To (O.apX U9 U9 A1R z z z (j:=3) z (Src.row (j:=0) z) (O3.of z) (A7.ones H9.plain D) n.u D ab z fun ac bm bn=>have aM:A7 H9 Z (b ++ [[.int .u8 a.H6,qi a.J3,.string a.fA,.string a.fB,.string a.J2,qi a.fN]]) aa:=A7.ap n.u D ab; T.fl ?_))
   refine T.fs [1] ?_
   refine T.drop<|Vv (V.fa Y3 z)<|T.Q9 0 z fun aN aO=>To (O.st (vs:=[ac]) (k:=4) Y4 z z (j:=1) z aO (by (simp only [BT,aN]) <;> rfl) ?_)
   refine T.fl ?_
   refine Ni<|Bn<|Th<|Rg<|bE H fun aP aS H=>Vv (V.H8 z z aS)<|Mv z<|Nt<|T.fs [1,2,2] ?_
   exact T.ag (X,aa,aP,ac,(b ++ [[.int .u8 a.H6,qi a.J3,.string a.fA,.string a.fB,.string a.J2,qi a.fN]])) ⟨(D8 H C),aM⟩
  refine T.skip<|Bn<|Th<|Rg<|bE H fun aU aV H=>Vv (V.H8 z z aV)<|Mv z<|Nt<|T.ag (X,d,aU,c,b) ⟨(D8 H C),n.u⟩
 refine T.exit<|Te<|Te<|have H:=D6 H C; Be<|Th<|have H:=I7 H aA; Sr<|Vv (V.A4O (j:=0) (by exact J4) z z) ?_
 refine T.Q9 2 z fun aW bo=>To (O.stF (vs:=[r,s,t,w,c]) J4 z z (j:=1) z z (by (simp only [BT,F8.one x,F8.one y,F8.one A,F8.one B,aW]) <;> rfl) z ?_)
 refine T.fl ?_
 refine Nr<|T.fs [2] ?_
 refine T.K5 fun bp bq aX=>have aY:=A7.slc aX n.u; Fr_ 1 z<|T.drop ?_
 cases H
 exact T.A9b (L':=L) results10 (RVs.cons (RV.cellS z (j:=0) z J4) RVs.nil) Li (fun _ iv=>iv.drop) ⟨_,_,_,_,_,z,z,x.u,y.u,A.u,B.u,aY⟩
theorem B4F {h U W X Y} (ae:A0b h U W) (H:A7w W X=some Y):∀ L,FnW prog 3 [.agg U.toArray,.int .i64 X] h L (.bool Y):=by
 intro L
 obtain ⟨af,ai,aj,ak,rfl,am,an,ao,aq⟩:=ae
 refine J6.enter func3 z z z<|Sr<|To (O.U5 z z z fun bX bY bZ ar=>An z<|Sr<|Vv (V.ldS z ar (by exact C4V)) ?_)
 refine bE H fun au aw H=>To (O.G9 z (B9r ⟨af,ai,aj,ak,z,am.u,an.u,ao.u,aq.u⟩ aw _) z fun b0 b2 b3 b4 ax=>?_)
 obtain ⟨i,m,n,o,p,rfl,ay,q,r,s,t,a⟩:=ax
 refine P7 _ ay<|To (O.alloc A3q z z fun b5=>To (O.stF (vs:=[i,m,n,o,p]) J4 z z (j:=0) z z (by (simp only [BT,F8.one q,F8.one r,F8.one s,F8.one t,F8.one a]) <;> rfl) z ?_))
 refine T.freeze fun b6 b7 aA=>have c:=Z0.of aA; Nt<|Sq<|Sr<|Vv (V.fa Y3 z)<|Vv (V.M5 (k:=4) Y4 z c z)<|Vv (V.Q3 U9 z a)<|We z z<|Nt<|T.cH H z (fun H=>?_) fun H=>?_
 ·refine Sr<|Vv (V.ldS z c (by exact J4)) ?_
  refine bE H fun ⟨b8,b9,bh⟩ aB H=>To (O.cs (A3w ⟨i,m,n,o,p,z,q.u,r.u,s.u,t.u,a.u⟩ aB _) fun bv ca=>Mv z<|Wx z z<|Wx z z<|Wx z z<|Ag z<|Ag z<|An z<|Sq ?_)
  obtain ⟨aE,aG,aI⟩:=K4 H
  refine T.ck (α:=Bool) [] (fun w=>([(4,.bool w)],L,fun hh=>aE=w)) ?_ ?_
  ·have H:=aG
   refine Rg<|Mv z<|Wg z z<|Mv z<|T.bH 35 H z (fun H=>?_) fun H=>?_
   ·refine Mv z<|We z z<|Kt z<|Mv z<|T.bH 39 H z (fun H=>?_) fun H=>?_
    ·refine bE H fun aJ aK H=>To (O.G9 z (A9V aK _) z fun cb cc cd ce aM=>?_)
     obtain ⟨rfl,aN⟩:=aM
     refine P7 _ aN<|Kt z<|An z<|T.mt aJ (M7 H)
    refine Sk<|Kf z<|An z<|T.mt false (M7 H)
   refine S2<|Kf z<|Mv z<|Sk<|Kf z<|An z<|T.mt false (M7 H)
  rintro w cf cg aO
  have H:=I7 aO aI
  refine T.norm [4] z<|T.fl ?_
  exact T.ret<|Tr<|E1 H
 refine Ks<|Sm z<|Vv (V.fa Y3 z)<|Vv (V.M5 (k:=4) Y4 z c z)<|Vv (V.Q3 U9 z a)<|bE H fun aP aS H=>To (O.cs (C4B aS _) fun aU ck=>An z<|Sr<|An z<|Sq<|Sr<|An z ?_)
 obtain ⟨aX,aY,aZ⟩:=K4 H
 have H:=aY
 refine Bl<|T.R4 3 1<|have a0:A7 (VI .i64) aU [] ([]:List Int):=A7.nil; T.lk [5,9] (FUEL,([]:List Int),(0:Int),(qs),[]) (fun ⟨g,e,d,f,b⟩=>([(10,f),(11,qi d)],F5 3 1 f b::L,fun hh=>iter (A2B au aP) g (e,d)=some aX∧A7 (VI .i64) hh b e)) ⟨H,a0⟩ ?_
 rintro ⟨g,e,d,f,b⟩ a1 cm ⟨a2,y⟩
 obtain ⟨Z,cn,rfl,H,A⟩:=G8 a2
 refine T.norm [10,11,5,9] z<|T.fl ?_
 refine Sq<|Sm z<|Vv (V.fa Y3 z)<|Vv (V.M5 (k:=4) Y4 z c.u z)<|Vv (V.Q3 U9 z a)<|Wl z z<|Nt<|T.cH H z (fun H=>?_) fun H=>?_
 ·refine Ks<|Sq<|Bl<|Sm z<|Mv z<|Wn z z<|Nt<|T.cH H z (fun H=>?_) fun H=>?_
  ·refine Rg<|Mv z<|Mv z<|To (O.b1 (E:=VI .i64) A9 K8 z z z z z fun co B=>bE H fun aa ab H=>To (O.apX A9 A9 K8 z z z (j:=1) z (Src.row (j:=0) z) (O3.of z) (A7.ones VI.plain B) y B ab z fun a3 cp cq=>have a4:A7 (VI .i64) a1 (b ++ [[qi d]]) aa:=A7.ap y B ab; Fr_ 1 z<|T.drop<|Ag z<|Ni<|Bn<|Th<|Rg<|Mv z<|bE H fun a5 a6 H=>Vv (V.H8 z z a6)<|An z<|T.ag (Z,aa,a5,a3,(b ++ [[qi d]])) ⟨(D8 H A),a4⟩))
  refine T.skip<|Bn<|Th<|Rg<|Mv z<|bE H fun a7 a8 H=>Vv (V.H8 z z a8)<|An z<|T.ag (Z,e,a7,f,b) ⟨(D8 H A),y⟩
 refine T.exit<|Te<|Te<|have H:=D6 H A; Be<|Th<|have H:=I7 H aZ; Sr<|Vv (V.ldS z c.u (by exact J4)) ?_
 refine Mv z<|T.K5 fun cr cs a9=>have ah:=A7.slc a9 y.u; bE H fun ct al H=>To (O.G9 z (C2V ⟨i,m,n,o,p,z,q.u,r.u,s.u,t.u,a.u⟩ ah al _) z fun cu cw cx cy av=>?_)
 obtain ⟨C,D,G,I,J,rfl,az,K,M,N,P,S⟩:=av
 refine P7 _ az<|To (O.alloc A3q z z fun cA=>To (O.stF (vs:=[C,D,G,I,J]) J4 z z (j:=0) z z (by (simp only [BT,F8.one K,F8.one M,F8.one N,F8.one P,F8.one S]) <;> rfl) z ?_))
 refine T.freeze fun cB cC ba=>have ac:=Z0.of ba; Nt<|Sr<|Vv (V.ldS z c.u (by exact J4)) ?_
 refine bE H fun ⟨bb,cD,cE⟩ bc H=>To (O.cs (A3w ⟨i,m,n,o,p,z,q.u,r.u,s.u,t.u,a.u⟩ bc _) fun cI cK=>Mv z<|Wx z z<|Wx z z<|Wx z z<|Ag z<|Ag z<|An z<|Sr<|Vv (V.ldS z ac.u (by exact J4)) ?_)
 refine bE H fun ⟨bf,cM,cN⟩ bg H=>To (O.cs (A3w ⟨C,D,G,I,J,z,K.u,M.u,N.u,P.u,S.u⟩ bg _) fun cP cU=>Mv z<|Wx z z<|Wx z z<|Wx z z<|Ag z<|Ag z<|An z<|Sq<|Sq ?_)
 obtain ⟨bk,bm,bn⟩:=K4 H
 refine T.ck (α:=Bool) [5,12,16] (fun x=>([(98,.bool x)],L,fun hh=>bk=x)) ?_ ?_
 ·have H:=bm
  refine Rg<|Mv z<|Mv z<|bE H fun cV bo H=>Vv (V.H8 z z bo)<|Wn z z<|Mv z<|T.bH 80 H z (fun H=>?_) fun H=>?_
  ·refine S2<|Sk<|Kt z<|Mv z<|S2<|S2<|S2<|S2<|S2<|S2<|Kt z<|Nt<|T.mt true (M7 H)
  refine Mv z<|Mv z<|Wg z z<|Kf z<|Mv z<|T.bH 85 H z (fun H=>?_) fun H=>?_
  ·refine S2<|S2<|S2<|S2<|S2<|S2<|Kt z<|Nt<|T.mt true (M7 H)
  refine Vv (V.fa Y3 z)<|Vv (V.M5 (k:=4) Y4 z c.u z)<|Mv z<|bE H fun cW ad H=>?_
  obtain ⟨cX,bp,rfl⟩:=F8.at a ad
  refine Vv (V.ix U9 z z a (E9 ad))<|Vv (V.fa A4d z)<|Vv (V.M5 (k:=1) D7 z bp.u z)<|Wg z z<|Mv z<|T.bH 93 H z (fun H=>?_) fun H=>?_
  ·refine Mv z<|Mv z<|Wn z z<|Kt z<|Kf z<|Nt<|T.mt (!decide (bb=bf)) (M7 H)
  refine S2<|Sk<|Kf z<|Kf z<|Nt<|T.mt false (M7 H)
 rintro x cY cZ bq
 have H:=I7 bq bn
 refine T.norm [98,5,12,16] z<|T.fl ?_
 refine T.cH H z (fun H=>?_) fun H=>?_
 ·exact Sg z<|Nr<|Tr<|E1 H
 refine Ks<|Sr<|Vv (V.ldS z c.u (by exact J4)) ?_
 refine bE H fun ⟨br,c0⟩ bs H=>To (O.G9 z (A9y ⟨i,m,n,o,p,z,q.u,r.u,s.u,t.u,a.u⟩ bs _) z fun c1 c2 c3 c4 bt=>?_)
 obtain ⟨bu,rfl,bw,bx⟩:=bt
 refine P7 _ bw<|Mv z<|Wx z z<|Wx z z<|To (O.alloc A6D z z fun c5=>To (O.stF (vs:=[bu,qi br.A1T]) A0c z z (j:=0) z z (by (simp only [BT,F8.one bx]) <;> rfl) z ?_))
 refine T.freeze fun c6 c7 bA=>have bB:=Z0.of bA; An z<|Sr<|Vv (V.ldS z ac.u (by exact J4)) ?_
 refine bE H fun ⟨bC,c8⟩ bD H=>To (O.G9 z (A9y ⟨C,D,G,I,J,z,K.u,M.u,N.u,P.u,S.u⟩ bD _) z fun c9 ch cl cv bG=>?_)
 obtain ⟨bI,rfl,bJ,bK⟩:=bG
 refine P7 _ bJ<|Mv z<|Wx z z<|Wx z z<|To (O.alloc A6D z z fun cz=>To (O.stF (vs:=[bI,qi bC.A1T]) A0c z z (j:=0) z z (by (simp only [BT,F8.one bK]) <;> rfl) z ?_))
 refine T.freeze fun da db bM=>have bN:=Z0.of bM; An z<|Sq<|Sm z<|We z z<|Nt<|T.cH H z (fun H=>?_) fun H=>?_
 ·refine Sm z<|We z z<|Mv z<|T.bH 113 H z (fun H=>?_) fun H=>?_
  ·refine Vv (V.fa A6s z)<|Vv (V.M5 (k:=1) D7 z bN z)<|Vv (V.fa A6s z)<|Vv (V.M5 (k:=1) D7 z bB.u z)<|Vv (V.le z z)<|Kt z<|Mv z<|T.bH 120 H z (fun H=>?_) fun H=>?_
   ·exact bE H fun dc bO H=>To (O.cs (A9V bO _) fun de dg=>Kt z<|Ag z<|Nr<|Tr<|E1 H)
   exact Sk<|Kf z<|Ag z<|Nr<|Tr<|E1 H
  exact S2<|S2<|Sk<|Kf z<|Mv z<|Sk<|Kf z<|Ag z<|Nr<|Tr<|E1 H
 refine Ks<|Sm z<|We z z<|Mv z<|T.bH 125 H z (fun H=>?_) fun H=>?_
 ·refine Mv z<|We z z<|Mv z<|Wg z z<|Vv (V.beq underlying4 z z)<|Kt z<|Mv z<|T.bH 132 H z (fun H=>?_) fun H=>?_
  ·exact bE H fun di bU H=>To (O.cs (A9V bU _) fun dk dn=>Kt z<|Ag z<|Nr<|E1 H)
  exact Sk<|Kf z<|Ag z<|Nr<|E1 H
 exact S2<|S2<|Sk<|Kf z<|Mv z<|Sk<|Kf z<|Ag z<|Nr<|E1 H
end Go.Proofs.X
