import Derived.Test.YthchjfilgaondaaGreatChecked
import Derived.KernelRfl
import Derived.Test.YthchjfilgaondaaGreatV
import Derived.Test.YthchjfilgaondaaGreatL12
import Derived.Test.YthchjfilgaondaaGreatDa
import Derived.Test.YthchjfilgaondaaGreatL9
import Derived.Test.YthchjfilgaondaaGreatWb
/- Walks. -/
set_option maxRecDepth 1000000
set_option maxHeartbeats 40000000
set_option linter.unusedVariables false
set_option linter.unusedSimpArgs false
set_option linter.unusedSectionVars false
set_option linter.unnecessarySimpa false
open Go Go.Proofs Go.Proofs.Tryz Go.Sl Go.Dm
namespace Go.Proofs.X
theorem C5b:A5p prog 95=some ([.pointer none,.slice none 0 0,.slice none 0 0,.slice none 0 0,.slice none 0 0,.slice none 0 0,.slice none 0 0,.slice none 0 0,.slice none 0 0],[(0,1),(1,5),(6,1),(7,1),(8,1)]):=by kernel_rfl
theorem C5O:A0E prog 95=true:=by kernel_rfl
theorem A4b:A1j prog 93=some (84,1,24):=by kernel_rfl
theorem B1s:O8 prog 95 1=some 1:=by kernel_rfl
theorem A0s:O8 prog 95 2=some 6:=by kernel_rfl
theorem A5w:O8 prog 95 3=some 7:=by kernel_rfl
theorem A5u:O8 prog 95 4=some 8:=by kernel_rfl
theorem A8L:U7 prog 93=some (false,1):=by kernel_rfl
theorem B0j {h ad G ae af ai} (aZ:N8 h ad G) (H:A3f G=some (ae,af,ai)):∀ L,J2 prog 58 [.agg ad.toArray] h (L) (λv h' L'=>∃ aj,v=.tuple #[aj,.int .i64 af,.int .i64 ai]∧L'=L∧OPt R6 h' aj ae):=by
 intro L
 obtain ⟨ak,am,an,ao,aq,rfl,B,ar,au,aw,ax⟩:=aZ
 refine J2.enter func58 z z z<|Sr<|To (O.U4 z z z λcm cn co C=>Ag z<|Ag z<|An z<|Sr<|Vv (V.ldS z C (by exact J9)) ?_)
 refine bE H λ⟨cp,cq,cr⟩ a0 H=>To (O.G5 z (B8M ⟨ak,am,an,ao,aq,z,B.u,ar.u,au.u,aw.u,ax.u⟩ a0 _) z λct cu cw cx a1=>?_)
 obtain ⟨I,rfl,a2,a3⟩:=a1
 refine P8 _ a2<|Mv z<|Wx z z<|Wx z z<|Wx z z<|Ag z<|Ag z<|An z<|Sq<|Sm z<|Wn z z<|Nt<|T.cH H z (λH=>?_) λH=>?_
 ·refine Sm z<|Mv z<|Ag z<|Ag z<|Ag z<|Nr<|Tr ?_
  cases H
  exact T.rl z (RVs.cons (RV.tmp z) (RVs.cons (RV.tmp z) (Rv z))) ⟨_,z,z,OPt.nil⟩
 refine Ks<|Sm z<|Mv z<|bE H λcy a4 H=>have J:=OPt.get a3 a4; bE H λcA a5 H=>To (O.G5 z (B8u J a5 _) z λcB K cC cD a6=>?_)
 obtain ⟨M,N,P,S,U,rfl,a7,a8,a9,ah,al,av⟩:=a6
 refine P8 _ a7<|Vv (V.bld (xs:=[(0,.tmp 20),(1,.tmp 22)]) (cs:=[_,_,_,_,_,_,_,_,_]) C5b C5O z (F6.cons z (Pt.cells J) z (F6.cons z z z F6.nil)))<|To (O.box z z z λay=>An z<|Sq<|Sr<|Vv (V.fa M6 z)<|Vv (V.M8 (k:=0) Q0 z C.u z)<|Vv (V.Q3 O5 z B)<|Mv z<|Nt ?_)
 obtain ⟨az,ba,bb⟩:=J6 H
 have H:=ba
 refine Bl<|T.Q8 3 1<|have bc:A7 (VI .i64) K [] ([]:List Int):=A7.nil; T.Q8 3 1<|have bd:A7 (VI .i64) K [] ([]:List Int):=A7.nil; T.Q8 84 1<|have be:A7 (VSl (VSl (VI .i64) 1) 1) K [] ([]:List (List (List Int))):=A7.nil; T.fs [1,2,3] ?_
 refine T.lk [1,8,27] (FUEL,([]:List Int),([]:List Int),([]:List (List (List Int))),(0:Int),(qs),[],(qs),[],(qs),[]) (λ⟨p,a,q,r,b,n,c,o,d,f,m⟩=>([(28,qi b)],blk ay (.cells [I,M,N,P,S,U,n,o,f].toArray 95)::F3 3 1 n c::F3 3 1 o d::F3 84 1 f m::L,λhh=>iter (A6X G) p (a,q,r,b)=some az∧A7 (VI .i64) hh c a∧A7 (VI .i64) hh d q∧A7 (VSl (VSl (VI .i64) 1) 1) hh m r)) ⟨H,bc,bd,be⟩ ?_
 rintro ⟨p,a,q,r,b,n,c,o,d,f,m⟩ W cE ⟨bf,s,X,Y⟩
 obtain ⟨bg,cG,rfl,H,aA⟩:=G7 bf
 refine T.norm [28,1,8,27] z<|T.fl ?_
 refine Sr<|Wl z z<|Nt<|Sq<|T.cH H z (λH=>?_) λH=>?_
 ·refine Ks<|Sq<|Bl<|Sm z<|An z<|Sq<|T.fs [2,1,2] ?_
  refine T.N7 (t:=(.vs [0,1,2,3] (.x 4 (.vs [5,6,7] (.alt 8 (.v 9 (.alt 10 (.alt 11 (.g (.v 12 (.v 13 (.alt 14 .done .no)))) .no) .no)) .no))))) 11 3 1 z z H9 (by kernel_rfl) ?_
  refine Tm z z<|Tm z z<|TF z z z A5w<|T.tx z z (Val.XA λ_ _ _=>V.ldO (k:=7) D9 z (j:=1) z z) z Calm.i<|Tm z z<|TF z z z A0s<|Ts z z (X3 [0] [2,2,2] z z) (V.ldO (k:=6) D9 z (j:=1) z z) z ?_ T.P6
  refine Tv z (Val.XA λ_ _ _=>V.A4a A9 z (j:=0) z s.len)<|Tp z z (X3 [0] [2,2,2] z z) (O.bs A9 J7 z (e:=z) (hk:=z) (xs:=[.tmp 40]) (hv:=CO.eq (CO.cons z CO.nil)) (hw:=O4.of z) (hd:=z) λcI=>?_) T.P6
  have Z:A7 (VI .i64) W [[qi (a.length:Int)]] ([(a.length:Int)]:List Int):=(A7.cons z A7.nil)
  refine bE H λaB aC H=>Tp z z (X3 [1] [3,3,3] z z) (O.apX A9 A9 J7 z z z (j:=3) z (Src.row (j:=0) z) (O4.of z) (A7.ones VI.plain Z) X Z aC z λD cJ cK=>?_) T.P6
  have bi:A7 (VI .i64) W (d++[[qi (a.length:Int)]]) aB:=A7.ap X Z aC
  refine T.fl ?_
  refine T.fs [1] ?_
  refine T.drop<|T.O1 Lr<|TF z z z A5w<|T.R8 0 z λbj bk=>Tp z z (SX.one (XA.fr [1] Lr z) z) (O.st (vs:=[D]) (k:=7) D9 z z (j:=2) z bk (by (simp only [BT,bj]) <;> rfl) ?_) T.P6
  refine T.fl ?_
  refine T.O6 (SX.one (XA.fr [2] Lr z) z)<|Th<|Sq ?_
  obtain ⟨bm,bn,bo⟩:=J6 H
  refine T.ck (α:=(List Int)×Value×(List (List Value))) [1,8,9,27,28] (λ⟨w,y,A⟩=>([],blk ay (.cells [I,M,N,P,S,U,y,D,f].toArray 95)::F3 3 1 D (d++[[qi (a.length:Int)]])::F3 84 1 f m::F3 3 1 y A::L,λhh=>bm=w∧A7 (VI .i64) hh A w)) ?_ ?_
  ·have H:=bn
   refine T.fs [2,1] ?_
   refine T.N7 (t:=(.vs [0,1,2,3] (.x 4 (.vs [5,7,8,9,10,11] (.alt 6 (.alt 12 (.g (.alt 13 (.g (.alt 14 (.g (.v 15 (.v 16 (.alt 17 .done .no)))) .no)) .no)) .no) (.alt 12 (.g (.alt 6 (.alt 13 (.g (.alt 14 (.g (.v 15 (.v 16 (.alt 17 .done .no)))) .no)) .no) .no)) .no)))))) 14 2 0 z z H9 (by kernel_rfl) ?_
   refine Tm z z<|Tm z z<|TF z z z A0s<|T.tx z z (Val.XA λ_ _ _=>V.ldO (k:=6) D9 z (j:=0) z z) z Calm.i<|Tm z z<|Tv z (V.fa M6 z)<|Tv z (V.M8 (k:=0) Q0 z C.u z)<|Tm z z<|bE H λcM aD H=>?_
   obtain ⟨cN,bp,⟨aE,rfl,aG⟩⟩:=G6.at B aD
   refine Tv z (V.ix O5 z z B (E8 aD))<|Tv z (V.ldS z bp.u (by exact J3)) ?_
   refine T.C3b ?_ ?_
   ·refine Tp z z (X3 [] [1,1] z z) (O.bs A9 J7 z (e:=z) (hk:=z) (xs:=[.tmp 50]) (hv:=CO.eq (CO.cons z CO.nil)) (hw:=O4.of z) (hd:=z) λcO=>?_) T.P6
    have bq:A7 (VI .i64) W [[qi b]] ([b]:List Int):=(A7.cons z A7.nil)
    refine bE H λcP br H=>Tp z z (X3 [] [2,2] z z) (O.G5 z (B5r ⟨aE,z,aG.u⟩ br _) z λcS cU cV cW bt=>?_) T.P6
    obtain ⟨rfl,bu⟩:=bt
    refine P8 _ bu<|T.O1 Li<|T.K3 λcX cY bw=>have bx:=A7.slc bw bq.u; bE H λcZ bA H=>Tp z z (SX.two (XA.fr [] Li z) (XA.fr [1,1] Li z)) (O.G5 z (A9o bx bA _) z λc0 bB c1 c2 bC=>?_) T.P6
    obtain ⟨aI,bD,aa⟩:=bC
    refine P8 _ bD<|T.O1 Li<|T.wide 0 z λbG=>bE H λaJ aK H=>Tp z z (X3 [] [2,2] z z) (O.apX A9 A9 J7 z z z (j:=2) z (Src.row (j:=0) z) bG (A7.ones VI.plain aa) s.u aa aK z λaM c3 c4=>?_) T.P6
    have bI:A7 (VI .i64) bB (c++aI) aJ:=A7.ap s.u aa aK
    refine T.fl ?_
    refine T.O1 Lr<|TF z z z A0s<|T.R8 0 z λbJ bK=>Tp z z (SX.one (XA.fr [] Lr z) z) (O.st (vs:=[aM]) (k:=6) D9 z z (j:=2) z bK (by (simp only [BT,bJ]) <;> rfl) ?_) T.P6
    refine T.fl ?_
    refine T.O6 (SX.one (XA.fr [] Lr z) z)<|Th<|T.fs [2] ?_
    refine T.drop<|T.fs [1,3,3,3] ?_
    exact T.mt (aJ,aM,(c++aI)) ⟨(M0 H),bI⟩
   refine bE H λc5 bM H=>Tp z z (X3 [] [1,1] z z) (O.G5 z (B5r ⟨aE,z,aG.u⟩ bM _) z λc6 bN c7 c8 bO=>?_) T.P6
   obtain ⟨rfl,bP⟩:=bO
   refine P8 _ bP<|T.O1 Li<|Tp z z (X3 [] [1,1] z z) (O.bs A9 J7 z (e:=z) (hk:=z) (xs:=[.tmp 50]) (hv:=CO.eq (CO.cons z CO.nil)) (hw:=O4.of z) (hd:=z) λc9=>?_) T.P6
   have bS:A7 (VI .i64) bN [[qi b]] ([b]:List Int):=(A7.cons z A7.nil)
   refine T.K3 λch cl bU=>have bV:=A7.slc bU bS.u; bE H λcv bW H=>Tp z z (SX.two (XA.fr [] Li z) (XA.fr [1,1] Li z)) (O.G5 z (A9o bV bW _) z λcz bX da db bY=>?_) T.P6
   obtain ⟨aN,bZ,ab⟩:=bY
   refine P8 _ bZ<|T.O1 Li<|T.wide 0 z λb0=>bE H λaO aP H=>Tp z z (X3 [] [2,2] z z) (O.apX A9 A9 J7 z z z (j:=2) z (Src.row (j:=0) z) b0 (A7.ones VI.plain ab) s.u ab aP z λaS dc dd=>?_) T.P6
   have b1:A7 (VI .i64) bX (c++aN) aO:=A7.ap s.u ab aP
   refine T.fl ?_
   refine T.O1 Lr<|TF z z z A0s<|T.R8 0 z λb2 b3=>Tp z z (SX.one (XA.fr [] Lr z) z) (O.st (vs:=[aS]) (k:=6) D9 z z (j:=2) z b3 (by (simp only [BT,b2]) <;> rfl) ?_) T.P6
   refine T.fl ?_
   refine T.O6 (SX.one (XA.fr [] Lr z) z)<|Th<|T.fs [2] ?_
   refine T.drop<|T.fs [1,3,3,3] ?_
   exact T.mt (aO,aS,(c++aN)) ⟨(M0 H),b1⟩
  rintro ⟨w,y,A⟩ de df ⟨b4,b5⟩
  have H:=I4 b4 bo
  refine T.norm [1,8,9,27,28] z<|T.fl ?_
  refine T.fs [2,1] ?_
  refine T.N7 (t:=(.vs [0,1,2,3] (.x 4 (.v 5 (.v 6 (.alt 7 (.g (.alt 8 (.alt 9 (.g (.v 10 (.v 11 (.alt 12 .done .no)))) .no) .no)) .no)))))) 9 2 0 z z H9 (by kernel_rfl) ?_
  refine Tm z z<|Tm z z<|TF z z z A5u<|T.tx z z (Val.XA λ_ _ _=>V.ldO (k:=8) A8L z (j:=0) z z) z Calm.i<|Tv z (V.ldS z C.u (by exact J9)) ?_
  refine Tm z z<|bE H λb6 b7 H=>Tp z z (X3 [] [1,1] z z) (O.G5 z (C2C ⟨ak,am,an,ao,aq,z,B.u,ar.u,au.u,aw.u,ax.u⟩ b7 _) z λE dg di dj b8=>?_) T.P6
  obtain ⟨dk,b9,bh⟩:=b8
  refine P8 _ b9<|T.O1 Li<|T.K3 λaU dm bl=>have aV:=A7.slc bl bh.u; Tp z z (SX.two (XA.fr [] Li z) (XA.fr [1,1] Li z)) (O.bs A4b A9I z (e:=z) (hk:=z) (xs:=[.tmp 69]) (hv:=CO.eq (CO.cons (G6.cells aV) CO.nil)) (hw:=O4.of z) (hd:=z) λdn=>?_) T.P6
  have ac:A7 (VSl (VSl (VI .i64) 1) 1) aU [[E]] ([b6]:List (List (List Int))):=(A7.cons ⟨E,z,aV⟩ A7.nil)
  refine bE H λaW aX H=>Tp z z (SX.two (XA.fr [] Li z) (XA.fr [2,2] Li z)) (O.apX A4b A4b A9I z z z (j:=2) z (Src.row (j:=0) z) (O4.of z) (A7.ones VSl.plain ac) Y.u ac aX z λaY dp dq=>?_) T.P6
  have bv:A7 (VSl (VSl (VI .i64) 1) 1) aU (m++[[E]]) aW:=A7.ap Y.u ac aX
  refine T.fl ?_
  refine T.fs [1] ?_
  refine T.drop<|T.O1 Li<|TF z z z A5u<|T.R8 0 z λbz ca=>Tp z z (SX.one (XA.fr [] Lr z) z) (O.st (vs:=[aY]) (k:=8) A8L z z (j:=1) z ca (by (simp only [BT,bz]) <;> rfl) ?_) T.P6
  refine T.fl ?_
  refine T.O6 (SX.one (XA.fr [] Lr z) z)<|Bn<|Th<|Rg<|bE H λcb cc H=>Vv (V.H5 z z cc)<|Mv z<|Nt<|T.fs [1,2,3,3] ?_
  exact T.ag (bg,w,aB,aW,cb,y,A,D,(d++[[qi (a.length:Int)]]),aY,(m++[[E]])) ⟨(D8 H aA),b5.u,bi.u,bv⟩
 refine T.exit<|Te<|Te<|have H:=D6 H aA; Be<|Th<|have H:=I4 H bb; Sm z<|Ag z<|Ag z<|Ag z<|Nr<|T.fs [1] ?_
 refine T.K3 λdr ds cd=>have ce:=A7.slc cd s.u; T.fs [1] ?_
 refine T.K3 λdt du cf=>have cg:=A7.slc cf X.u; Fr_ 1 z<|T.K3 λdw dx ci=>have cj:=A7.slc ci Y.u; T.C0I λdy dA ck=>?_
 cases H
 exact T.rl z (RVs.cons (RV.tmp z) (RVs.cons (RV.tmp z) (Rv z))) ⟨_,z,z,(OPt.some (Pt.mk ck ⟨I,M,N,P,S,U,n,o,f,z,J.u,a8.u,a9.u,ah.u,al.u,av.u,ce.u,cg.u,cj.u⟩))⟩
theorem B0t {h d e g} (H:A4i d e=some g):∀ L,FnW prog 60 [.int .i64 d,.int .i64 e] h L (.int .i64 g):=by
 intro L
 refine J2.enter func60 z z z<|Sr<|An z<|Sr<|An z<|Sq<|Sm z<|Mv z<|Nt ?_
 obtain ⟨j,k,i⟩:=J6 H
 have H:=k
 refine Bl<|T.lk [0,7] (FUEL,(1:Int),(0:Int)) (λ⟨a,b,c⟩=>([(5,qi b),(8,qi c)],L,λhh=>iter (A6P d e) a (b,c)=some j)) H ?_
 rintro ⟨a,b,c⟩ t u m
 obtain ⟨n,w,rfl,H,f⟩:=G7 m
 refine T.norm [5,8,0,7] z<|T.fl ?_
 refine Sr<|Wl z z<|Nt<|Sq<|T.cH H z (λH=>?_) λH=>?_
 ·refine Ks<|Sq<|Bl<|Sm z<|An z<|Sm z<|Mv z<|Mv z<|bE H λx o H=>Vv (V.Z4 z z o)<|bE H λp q H=>Vv (V.A9L z z q)<|An z<|Sm z<|Wg z z<|Nt<|T.cH H z (λH=>?_) λH=>?_
  ·exact Sm z<|Ag z<|Nr<|Br<|Tr<|Tr<|have H:=D6 H f; Br<|Tr<|have H:=I4 H i; E1 H
  refine T.skip<|Bn<|Th<|Rg<|bE H λr s H=>Vv (V.H5 z z s)<|Mv z<|Nt<|T.ag (n,p,r) (D8 H f)
 exact T.exit<|Te<|Te<|have H:=D6 H f; Be<|Th<|have H:=I4 H i; Sm z<|Ag z<|Nr<|E1 H
theorem A2c {h a b c d} (n:N8 h a b) (H:A1b b=some (c,d)):∀ L,J2 prog 27 [.agg a.toArray] h (L) (λv h' L'=>∃ e,v=.tuple #[e,.int .i64 d]∧L'=L∧OPt R6 h' e c):=by
 intro L
 obtain ⟨o,p,q,r,s,rfl,w,f,x,y,A⟩:=n
 refine J2.enter func27 z z z<|Sr<|To (O.U4 z z z λam an ao i=>Ag z<|An z<|Sr<|Vv (V.ldS z i (by exact J9)) ?_)
 refine bE H λ⟨ap,aq,ar⟩ B H=>To (O.G5 z (B0j ⟨o,p,q,r,s,z,w.u,f.u,x.u,y.u,A.u⟩ B _) z λau aw ax ay C=>?_)
 obtain ⟨aA,rfl,D,E⟩:=C
 refine P8 _ D<|Mv z<|Wx z z<|Wx z z<|Wx z z<|Ag z<|Ag z<|An z<|Sq<|Sm z<|Wn z z<|Nt<|T.cH H z (λH=>?_) λH=>?_
 ·refine Sm z<|Ag z<|Ag z<|Nr<|Tr ?_
  cases H
  exact T.rl z (RVs.cons (RV.tmp z) (Rv z)) ⟨_,z,z,OPt.nil⟩
 refine Ks<|Sq<|Sq<|T.N7 (t:=(.vs [0,1,2,3,4,5,6,7] (.alt 8 (.g (.v 9 .done)) .no))) 11 0 0 z z H9 (by kernel_rfl) ?_
 refine Tm z z<|bE H λaB G H=>have I:=OPt.get E G; have J:=I; ?_
 obtain ⟨aC,_,rfl,j,⟨K,M,N,P,S,U,W,X,Y,rfl,Z,aa,ab,ac,ad,ae,m,af,ag⟩⟩:=J
 refine TL z z z z A0s D9 j z<|Tv z (V.Q3 A9 z m)<|Tv z (V.fa U0 z)<|Tv z (V.M8 (k:=1) N9 z i.u z)<|Tv z (V.Q3 O7 z f)<|bE H λaD ai H=>Tp z z (X2 z z) (O.G5 z (B0t ai _) z λaE aG aI aJ aj=>?_) T.P6
 obtain ⟨rfl,ak⟩:=aj
 refine P8 _ ak<|T.O1 Li<|Tv z (V.gt z z)<|T.O6 (X2 z z)<|Th<|T.cH H z (λH=>?_) λH=>?_
 ·refine Sg z<|Ag z<|Nr<|Tr ?_
  cases H
  exact T.rl z (RVs.cons (RV.tmp z) (Rv z)) ⟨_,z,z,OPt.nil⟩
 refine Ks<|Sm z<|Ag z<|Ag z<|Nr ?_
 cases H
 exact T.rl z (RVs.cons (RV.tmp z) (Rv z)) ⟨_,z,z,(OPt.some (Pt.mk j.u ⟨K,M,N,P,S,U,W,X,Y,z,Z.u,aa.u,ab.u,ac.u,ad.u,ae.u,m.u,af.u,ag.u⟩))⟩
theorem A2S {h a b c} (e:Pt R6 h a b) (H:A2k b=some c):∀ L,J2 prog 29 [a] h (L) (λv h' L'=>∃ d,L'=F3 3 1 v d::L∧A7 (VI .i64) h' d c):=by
 intro L
 refine J2.enter func29 z z z<|Sr<|An z<|Sr<|To (O.b1 (E:=VI .i64) A9 J7 z z z z z λs f=>Mv z<|have g:=e; ?_)
 obtain ⟨t,_,rfl,i,⟨w,x,y,A,B,C,D,G,I,rfl,J,K,j,M,N,P,S,U,W⟩⟩:=g
 refine NF z B1s<|Vv (V.fa U0 z)<|Vv (V.M8 (k:=2) N9 z i z)<|Vv (V.Q3 O7 z j)<|T.K3 λX Y m=>have n:=A7.slc m f.u; bE H λZ o H=>To (O.G5 z (A9o n o _) z λaa ab ac ad p=>?_)
 obtain ⟨ae,q,r⟩:=p
 refine P8 _ q<|Ag z<|Nr ?_
 cases H
 exact T.rl z (Rv z) ⟨_,z,r⟩
theorem C2u {h j m n f g o p} (M:Pt R6 h j m) (a:G6 (VI .i64) 1 h n f) (H:C0e m f g o=some p):∀ L,FnW prog 135 [j,n,.int .i64 g,.int .i64 o] h L (.bool p):=by
 intro L
 refine J2.enter func135 z z z<|Sr<|An z<|Sq<|T.N7 (t:=(.vs [0,1,2,3,4,5,6,7,8,9] (.alt 10 .done .no))) 12 0 0 z z H9 (by kernel_rfl) ?_
 refine Tm z z<|have N:=M; ?_
 obtain ⟨aq,_,rfl,d,⟨ar,au,aw,ax,ay,aA,aB,aC,aD,rfl,aE,aG,aI,aJ,aK,aM,q,r,e⟩⟩:=N
 refine TL z z z z A0s D9 d z<|Tm z z<|Tm z z<|bE H λaN s H=>?_
 obtain ⟨aO,O,rfl⟩:=G6.at a s
 refine Tv z (V.ix A9 z z a (E8 s))<|Tv z (V.R5 D7 z O z)<|bE H λaP w H=>?_
 obtain ⟨aS,P,rfl⟩:=G6.at q w
 refine Tv z (V.ix A9 z z q (E8 w))<|Tv z (V.R5 D7 z P z)<|Ts z z (X2 z z) (V.asg z) z ?_ T.P6
 refine T.O6 (X2 z z)<|Th<|Sq<|Sm z<|Wl z z<|Mv z<|T.bH 26 H z dead λH=>Mv z<|Mv z<|NL z A5u A8L d z<|Mv z<|bE H λaU x H=>?_
 obtain ⟨aV,S,⟨aW,rfl,U⟩⟩:=G6.at e x
 refine Vv (V.ix A4b z z e (E8 x))<|Vv (V.R5 U3 z S z)<|Vv (V.Q3 K4 z U)<|Vv (V.ge z z)<|Kf z<|Nt<|T.cH H z dead λH=>Ks<|Sq<|T.N7 (t:=(.vs [0,1,2,3,4,5,6,7,8,9,10,11,12,13,14,15,16] (.alt 17 (.alt 18 .done .no) .no))) 20 0 0 z z H9 (by kernel_rfl) ?_
 refine Tm z z<|TL z z z z A5u A8L d z<|Tm z z<|bE H λaX y H=>?_
 obtain ⟨aY,W,⟨aZ,rfl,A⟩⟩:=G6.at e y
 refine Tv z (V.ix A4b z z e (E8 y))<|Tv z (V.R5 U3 z W z)<|Tm z z<|bE H λa0 B H=>?_
 obtain ⟨a1,X,⟨a2,rfl,C⟩⟩:=G6.at A B
 refine Tv z (V.ix K4 z z A (E8 B))<|Tv z (V.R5 D9 z X z)<|Tm z z<|TL z z z z A5w D9 d z<|Tm z z<|bE H λa3 D H=>?_
 obtain ⟨a4,Y,rfl⟩:=G6.at r D
 refine Tv z (V.ix A9 z z r (E8 D))<|Tv z (V.R5 D7 z Y z)<|Ts z z (X2 z z) (V.asg z) z ?_ T.P6
 refine Ts z z (X2 z z) (V.asg z) z ?_ T.P6
 refine T.O6 (X2 z z)<|Th<|Sq<|Sq<|T.norm [0,1,2,9,10,11] z<|Rg<|Mv z<|Vv (V.Q3 A9 z a)<|Mv z<|Nt ?_
 obtain ⟨Z,aa,ab⟩:=J6 H
 have H:=aa
 refine Bl<|T.lk [0,1,2,9,10,11,55,56] (FUEL,(0:Int)) (λ⟨b,c⟩=>([(57,qi c)],L,λhh=>iter (B5x f g) b c=some Z)) H ?_
 rintro ⟨b,c⟩ a5 a6 ac
 obtain ⟨E,a7,rfl,H,i⟩:=G7 ac
 refine T.norm [57,0,1,2,9,10,11,55,56] z<|T.fl ?_
 refine Sr<|Wl z z<|Nt<|Sq<|T.cH H z (λH=>?_) λH=>?_
 ·refine Ks<|Sq<|Bl<|Sm z<|bE H λa8 G H=>?_
  obtain ⟨a9,ad,rfl⟩:=G6.at a G
  refine Vv (V.ix A9 z z a (E8 G))<|Vv (V.R5 D7 z ad.u z)<|Ag z<|An z<|Sm z<|Mv z<|Wn z z<|Mv z<|T.bH 65 H z (λH=>?_) λH=>?_
  ·refine Mv z<|Vv (V.ge z z)<|Kt z<|Mv z<|T.bH 69 H z dead λH=>S2<|S2<|S2<|S2<|Sk<|Kf z<|Mv z<|S2<|S2<|S2<|S2<|S2<|Kf z<|Nt<|Cf z<|T.skip<|Bn<|Th<|Rg<|bE H λae af H=>Vv (V.H5 z z af)<|Mv z<|Nt<|T.ag (E,ae) (D8 H i)
  refine S2<|Kf z<|Mv z<|S2<|S2<|S2<|S2<|Sk<|Kf z<|Mv z<|S2<|S2<|S2<|S2<|S2<|Kf z<|Nt<|Cf z<|T.skip<|Bn<|Th<|Rg<|bE H λai aj H=>Vv (V.H5 z z aj)<|Mv z<|Nt<|T.ag (E,ai) (D8 H i)
 refine T.exit<|Te<|Te<|have H:=D6 H i; Be<|Th<|have H:=I4 H ab; Sq<|T.N7 (t:=(.vs [0,1,2,3,4,5,6,7,8,9,10,11,12,13,14,15] (.alt 16 .done .no))) 18 0 0 z z H9 (by kernel_rfl) ?_
 refine Tm z z<|Tm z z<|Tm z z<|bE H λah I H=>?_
 obtain ⟨al,ak,rfl⟩:=G6.at a I
 refine Tv z (V.ix A9 z z a (E8 I))<|Tv z (V.R5 D7 z ak.u z)<|Tm z z<|bE H λav am H=>Tv z (V.Z4 z z am)<|bE H λaz J H=>?_
 obtain ⟨ba,an,rfl⟩:=G6.at C J
 refine Tv z (V.ix A9 z z C (E8 J))<|Tv z (V.R5 D7 z an.u z)<|Tm z z<|Tm z z<|bE H λbb K H=>?_
 obtain ⟨bc,ao,rfl⟩:=G6.at a K
 refine Tv z (V.ix A9 z z a (E8 K))<|Tv z (V.R5 D7 z ao.u z)<|Tm z z<|bE H λbd ap H=>Tv z (V.Z4 z z ap)<|Tv z (V.lt z z)<|Ts z z (X2 z z) (V.asg z) z ?_ T.P6
 exact T.O6 (X2 z z)<|Th<|T.ret<|E1 H
theorem A7d {h w g x i y} (U:Pt R6 h w g) (o:G6 (VI .i64) 1 h x i) (H:A6G g i=some y):∀ L,FnW prog 30 [w,x] h L (.bool y):=by
 intro L
 refine J2.enter func30 z z z<|Sr<|An z<|Sq<|Sm z<|have W:=U; ?_
 obtain ⟨aK,_,rfl,m,⟨aM,aN,aO,aP,aS,aU,aV,aW,aX,rfl,aY,aZ,a0,a1,a2,a3,A,n,p⟩⟩:=W
 refine NL z A5u A8L m z<|Vv (V.Q3 A4b z p)<|Mv z<|Nt ?_
 obtain ⟨X,Y,B⟩:=J6 H
 have H:=Y
 refine Bl<|T.lk [0,1,15,16] (FUEL,(0:Int)) (λ⟨b,a⟩=>([(17,qi a)],L,λhh=>iter (B1f g i) b a=some X)) H ?_
 rintro ⟨b,a⟩ a4 a5 Z
 obtain ⟨aa,a6,rfl,H,q⟩:=G7 Z
 refine T.norm [17,0,1,15,16] z<|T.fl ?_
 refine Sr<|Wl z z<|Nt<|Sq<|T.cH H z (λH=>?_) λH=>?_
 ·refine Ks<|Sq<|Bl<|Sm z<|bE H λab C H=>?_
  obtain ⟨a7,ac,⟨a8,rfl,r⟩⟩:=G6.at p C
  refine Vv (V.ix A4b z z p (E8 C))<|Vv (V.R5 U3 z ac.u z)<|Ag z<|An z<|Sm z<|Vv (V.Q3 K4 z r)<|Mv z<|Nt<|T.A0S ?_
  obtain ⟨ad,ae,D⟩:=J6 H
  have H:=ae
  refine Bl<|T.lk [0,1,5,15,16,17,22,23] (FUEL,(0:Int)) (λ⟨c,d⟩=>([(24,qi d)],L,λhh=>iter (B1e g i a ab) c d=some ad)) H ?_
  rintro ⟨c,d⟩ a9 ah af
  obtain ⟨ai,al,rfl,H,s⟩:=G7 af
  refine T.norm [24,0,1,5,15,16,17,22,23] z<|T.fl ?_
  refine Sr<|Wl z z<|Nt<|Sq<|T.cH H z (λH=>?_) λH=>?_
  ·refine Ks<|Sq<|Bl<|Sr<|bE H λaj E H=>?_
   obtain ⟨av,ak,⟨az,rfl,G⟩⟩:=G6.at r E
   refine Vv (V.ix K4 z z r (E8 E))<|Vv (V.R5 D9 z ak.u z)<|An z<|Sm z<|Vv (V.Q3 A9 z o)<|Mv z<|Nt<|T.A0S ?_
   obtain ⟨I,am,J⟩:=J6 H
   refine T.ck (α:=Unit) [0,1,5,15,16,17,22,23,24] (λ_=>([],L,λhh=>I=(Sum.inl ()))) ?_ ?_
   ·have H:=am
    refine Bl<|T.lk [0,1,5,8,15,16,17,22,23,24,28,29] (FUEL,(0:Int)) (λ⟨e,f⟩=>([(30,qi f)],L,λhh=>iter (B1a g i a aj) e f=some I)) H ?_
    rintro ⟨e,f⟩ ba bb an
    obtain ⟨K,bc,rfl,H,j⟩:=G7 an
    refine T.norm [30,0,1,5,8,15,16,17,22,23,24,28,29] z<|T.fl ?_
    refine Sr<|Wl z z<|Nt<|Sq<|T.cH H z (λH=>?_) λH=>?_
    ·refine Ks<|Sq<|Bl<|Sr<|bE H λbd M H=>?_
     obtain ⟨be,ao,rfl⟩:=G6.at o M
     refine Vv (V.ix A9 z z o (E8 M))<|Vv (V.R5 D7 z ao.u z)<|An z<|Sq<|Sm z<|NL z A0s D9 m.u z<|Mv z<|bE H λbf N H=>?_
     obtain ⟨bg,ap,rfl⟩:=G6.at A N
     refine Vv (V.ix A9 z z A (E8 N))<|Vv (V.R5 D7 z ap.u z)<|Mv z<|Wn z z<|Nt<|T.cH H z (λH=>?_) λH=>?_
     ·refine T.exit<|Te<|Be<|Th<|Rg<|bE H λaq ar H=>Vv (V.H5 z z ar)<|Mv z<|Nt<|T.ag (K,aq) (D8 H j)
     refine Ks<|Sq<|T.N7 (t:=(.vs [0,1,2,3,4,5,6,7,8,9,10,11,12,13,14,15,16,17,18,19] (.alt 20 .done .no))) 22 0 0 z z H9 (by kernel_rfl) ?_
     refine Tm z z<|TL z z z z A5w D9 m.u z<|Tm z z<|bE H λbi O H=>?_
     obtain ⟨bj,au,rfl⟩:=G6.at n O
     refine Tv z (V.ix A9 z z n (E8 O))<|Tv z (V.R5 D7 z au.u z)<|Tm z z<|Tm z z<|Tm z z<|TL z z z z A5w D9 m.u z<|Tm z z<|bE H λbk P H=>?_
     obtain ⟨bm,aw,rfl⟩:=G6.at n P
     refine Tv z (V.ix A9 z z n (E8 P))<|Tv z (V.R5 D7 z aw.u z)<|bE H λbn ax H=>Tv z (V.Z4 z z ax)<|bE H λbo S H=>?_
     obtain ⟨bp,ay,rfl⟩:=G6.at G S
     refine Tv z (V.ix A9 z z G (E8 S))<|Tv z (V.R5 D7 z ay.u z)<|bE H λbq aA H=>Tv z (V.H5 z z aA)<|Ts z z (X2 z z) (V.asg z) z ?_ T.P6
     refine T.O6 (X2 z z)<|Th<|Sq<|Sq<|T.norm [0,1,5,8,10,11,15,16,17,22,23,24,28,29,30] z<|Rg<|Mv z<|Mv z<|Wl z z<|Nt<|T.cH H z (λH=>?_) λH=>?_
     ·exact Sg z<|Nr<|Tr<|Br<|Tr<|Tr<|have H:=D6 H j; Br<|Tr<|have H:=I4 H J; Br<|Tr<|Tr<|have H:=D6 H s; Br<|Tr<|have H:=I4 H D; Br<|Tr<|Tr<|have H:=D6 H q; Br<|Tr<|have H:=I4 H B; E1 H
     refine Ks<|Sm z<|Mv z<|Wg z z<|Nt<|T.cH H z (λH=>?_) λH=>?_
     ·refine T.exit<|T.blX z<|Te<|Te<|have H:=D6 H j; Be<|Th<|T.mt () H
     refine T.skip<|Bn<|Th<|Rg<|bE H λaB aC H=>Vv (V.H5 z z aC)<|Mv z<|Nt<|T.ag (K,aB) (D8 H j)
    refine T.exit<|Te<|Te<|have H:=D6 H j; Be<|Th<|T.mt () H
   rintro _ br bs aD
   have H:=I4 aD J
   refine T.norm [0,1,5,15,16,17,22,23,24] z<|T.fl ?_
   refine Bn<|Th<|Rg<|bE H λaE aG H=>Vv (V.H5 z z aG)<|Mv z<|Nt<|T.ag (ai,aE) (D8 H s)
  refine T.exit<|Te<|Te<|have H:=D6 H s; Be<|Th<|have H:=I4 H D; Bn<|Th<|Rg<|bE H λaI aJ H=>Vv (V.H5 z z aJ)<|Mv z<|Nt<|T.ag (aa,aI) (D8 H q)
 exact T.exit<|Te<|Te<|have H:=D6 H q; Be<|Th<|have H:=I4 H B; Sg z<|Nr<|E1 H
theorem C1e {h f g i j} (r:N8 h f g) (H:B8N g=some (i,j)):∀ L,FnW prog 32 [.agg f.toArray] h L (.tuple #[.int .i64 i,.int .i64 j]):=by
 intro L
 obtain ⟨s,t,w,x,y,rfl,A,m,B,C,D⟩:=r
 refine J2.enter func32 z z z<|Sr<|To (O.U4 z z z λaN aO aP n=>Ag z<|An z<|Sr<|Vv (V.ldS z n (by exact J9)) ?_)
 refine bE H λ⟨E,aS⟩ G H=>To (O.G5 z (A2c ⟨s,t,w,x,y,z,A.u,m.u,B.u,C.u,D.u⟩ G _) z λaU aV aW aX I=>?_)
 obtain ⟨J,rfl,K,M⟩:=I
 refine P8 _ K<|Mv z<|Wx z z<|Wx z z<|Ag z<|An z<|Sq<|Sm z<|Wn z z<|Nt<|T.cH H z dead λH=>Ks<|Sr<|An z<|Sq<|Sr<|Vv (V.fa U0 z)<|Vv (V.M8 (k:=1) N9 z n.u z)<|Vv (V.Q3 O7 z m)<|bE H λN P H=>Vv (V.H5 z z P)<|Mv z<|Nt ?_
 obtain ⟨S,U,W⟩:=J6 H
 have H:=U
 refine Bl<|T.lk [19] (FUEL,(0:Int),E,(0:Int),J) (λ⟨a,b,c,d,e⟩=>([(20,qi b),(4,e),(6,qi d)],L,λhh=>iter (B3R N) a (b,c,d)=some S∧OPt R6 hh e c)) ⟨H,M⟩ ?_
 rintro ⟨a,b,c,d,e⟩ aY aZ ⟨X,Y⟩
 obtain ⟨Z,a0,rfl,H,o⟩:=G7 X
 refine T.norm [20,4,6,19] z<|T.fl ?_
 refine Sr<|Wl z z<|Nt<|Sq<|T.cH H z (λH=>?_) λH=>?_
 ·refine Ks<|Sq<|Bl<|Sm z<|An z<|Rg<|Mv z<|Mv z<|bE H λaa ab H=>have ac:=OPt.get Y ab; have ad:=ac; ?_
  obtain ⟨ae,_,rfl,p,⟨af,ai,aj,ak,am,an,ao,ap,aq,rfl,ar,au,aw,ax,ay,aA,q,aB,aC⟩⟩:=ad
  refine NL z A0s D9 p z<|Vv (V.Q3 A9 z q)<|Mv z<|bE H λa1 aD H=>To (O.G5 z (B0t aD _) z λa2 a3 a4 a5 aE=>?_)
  obtain ⟨rfl,aG⟩:=aE
  refine P8 _ aG<|bE H λaI aJ H=>Vv (V.H5 z z aJ)<|Ag z<|Ni<|Bn<|Th<|Rg<|bE H λaK aM H=>Vv (V.H5 z z aM)<|Mv z<|Nt<|T.ag (Z,aK,(some aa),aI,(.pointer (some ae))) ⟨(D8 H o),(OPt.some (Pt.mk p.u ⟨af,ai,aj,ak,am,an,ao,ap,aq,z,ar.u,au.u,aw.u,ax.u,ay.u,aA.u,q.u,aB.u,aC.u⟩))⟩
 exact T.exit<|Te<|Te<|have H:=D6 H o; Be<|Th<|have H:=I4 H W; Sm z<|Ag z<|Ag z<|Nr<|E1 H
end Go.Proofs.X
open Go Go.Proofs Go.Proofs.Tryz Go.Sl Go.Dm
namespace Go.Proofs.X
theorem C2H:A5p prog 150=some ([.int .i64 (0),.int .i64 (0)],[(0,1),(1,1)]):=by kernel_rfl
theorem C1P:A0E prog 150=true:=by kernel_rfl
theorem A3l:A1j prog 79=some (78,2,16):=by kernel_rfl
theorem A3J:O8 prog 153 0=some 0:=by kernel_rfl
theorem B3j:O8 prog 153 2=some 2:=by kernel_rfl
theorem A0e:O8 prog 153 3=some 3:=by kernel_rfl
theorem A1s:O8 prog 153 4=some 4:=by kernel_rfl
theorem C1x:O8 prog 78 0=some 0:=by kernel_rfl
theorem Y0:O8 prog 78 1=some 1:=by kernel_rfl
theorem A6y:O8 prog 95 0=some 0:=by kernel_rfl
theorem B5W:U7 prog 150=some (true,2):=by kernel_rfl
theorem Q7:U7 prog 66=some (false,1):=by kernel_rfl
theorem C3D:U7 prog 76=some (false,1):=by kernel_rfl
theorem B7y:U7 prog 78=some (true,2):=by kernel_rfl
theorem B7r:U7 prog 79=some (false,1):=by kernel_rfl
theorem B7G:zer prog 78=some (.agg #[.int .u8 (0),.int .i64 (0)]):=by kernel_rfl
theorem B4a {h f b c g i k d q_1000} (n:Z8 h f [b]) (a:A7 (VI .i64) h c g) (o:Z8 h i k) (p:(VI .i64) h k d) (H:A6j g d=some q_1000):∀ L,FnZ prog 131 [.pointer (some f),.pointer (some i)] h (F3 3 1 b c::L) (λv h' L'=>∃ m,v=.tuple #[]∧L'=F3 3 1 b m::L∧A7 (VI .i64) h' m q_1000):=by
 intro L
 obtain rfl:=p
 refine FnZ.enter func131 z ntmps131 z<|Rg<|Vv (V.R5 D9 z n z)<|Vv (V.R5 D7 z o z)<|bE H λt e H=>?_
 obtain ⟨u,w,rfl⟩:=A7.get a e
 refine Vv (V.ixR A9 z z (j:=0) z (A7.bd a e))<|bE H λq r H=>To (O.stR D7 z z (j:=0) z (A7.bdN a e) z<|have s:A7 (VI .i64) h (c.set d.toNat [qi (-1)]) q:=A7.set a (show (VI .i64) h [qi (-1)] (-1:Int) from z) r; Ni ?_)
 cases H
 exact T.A0V results131 Lr ⟨_,z,z,s⟩
theorem C3L (n:Nat):∀ {h:PH} {σ:Type} {R:σ→PH→List E5→Prop} {pv0:Value} {h1:M7} (pr0:Pt R6 h pv0 h1) {pv1:Value} {pcs1:List (List Value)} {part2:List Int} (pr1:A7 (VI .i64) h pcs1 part2) {pv2:Value} {yield4:σ→(List Int)→Option (σ×Bool)} (pr2:A8F R h pv2 yield4) {s0:σ} {La:List E5} (hRa:R s0 h La) {r_0:Bool} {q_1:List Int} {q_s:σ} (H:A6s n h1 part2 yield4 s0=some (r_0,q_1,q_s)) (As L:List E5),J2 prog 70 [pv0,pv1,pv2] h (F3 3 1 pv1 pcs1::(As++(La++L))) (λv h' L'=>∃ ls0 La',v=.bool r_0∧L'=F3 3 1 pv1 ls0::(As++(La'++L))∧A7 (VI .i64) h' ls0 q_1∧R q_s h' La'):=by
  induction n with
  | zero=>intros; rename_i H _ _; cases H
  | succ n self=>
    intro h σ R pv0 h1 pr0 pv1 pcs1 part2 pr1 pv2 yield4 pr2 s0 La hRa r_0 q_1 q_s H As L
    refine J2.B3w func70 z ntmps70 z<|Sr<|T.R8 0 z λb2 ak=>To (O.U4 z ak z λb3 b4 B e=>An z<|T.scope<|Sq<|Sq<|T.N7 (t:=(.vs [0,1,2,3,4] (.alt 5 (.g (.vs [6,7,8] (.alt 9 (.alt 10 .done .no) .no))) .no))) 12 1 1 z z H9 (by kernel_rfl) ?_)
    refine Tm z z<|have am:=pr0; ?_
    obtain ⟨b5,_,rfl,C,⟨an,ao,ap,aq,ar,au,aw,ax,ay,rfl,S,aA,aB,aC,aD,aE,U,aG,aI⟩⟩:=am
    refine TL z z z z A6y I8 C.u z<|Tv z (V.R5 D9 z e z)<|bE H λ⟨aJ,aK⟩ aM H=>Tp z z (X3 [0] [0] z z) (O.G5 z (J2.A6F (val:=.tuple #[qi aJ,.bool aK]) func130 z A1C λb6 b7 aN=>?_) z λb8 b9 bh D aO=>?_) T.P6
    ·have aP:=A7.slc aN pr1.u
     exact C2K S.u aP aM _
    obtain ⟨rfl,aS⟩:=aO
    refine P8 _ aS<|T.O1 Li<|Tm z z<|Tv z (V.ext z z)<|Tv z (V.ext z z)<|Ts z z (X3 [0] [0] z z) (V.asg z) z ?_ T.P6
    refine Ts z z (X3 [0] [0] z z) (V.asg z) z ?_ T.P6
    refine T.O6 (X3 [0] [0] z z)<|Th<|Sm z<|Nt<|T.cH H z (λH=>?_) λH=>?_
    ·refine Sg z<|Nr<|Tr<|T.sgR<|T.A4u<|have aU:=(B.trans D); have aV:=pr2.2.1 _ _ _ _ aU hRa; ?_
     cases H
     exact T.A1q (L':=F3 3 1 pv1 pcs1::(As++(La++L))) results70 (Rv z) Li (λ_ iv=>iv) ⟨_,La,z,z,pr1.u,aV⟩
    refine Ks<|Sr<|Vv (V.R5 D9 z e.u z)<|bE H λc aW H=>To (O.G5 z (J2.A6F (val:=qi c) func84 z A1C λbl bv aX=>?_) z λbz ca cb W aY=>?_)
    ·have aZ:=A7.slc aX pr1.u
     exact B3Y aZ aW _
    obtain ⟨rfl,a0⟩:=aY
    refine P8 _ a0<|To (O.alloc J7 z z λcc=>To (O.stF (vs:=[qi c]) D7 z z (j:=0) z z z z<|T.freeze λcd X a1=>have y:=Z8.of a1; Nt<|Sq<|Sr<|Vv (V.R5 D7 z y z)<|Wl z z<|Nt<|T.cH H z (λH=>?_) λH=>?_))
    ·refine Sm z<|Vv (V.R5 D9 z e.u z)<|bE H λ⟨ce,cf⟩ a2 H=>have a3:=(((B.trans D).trans W).trans X); have a4:=pr2.2.1 _ _ _ _ a3 hRa; To (O.A4c z z (A8F.call pr2.u pr1.u a4 a2 As _) z λcg ci cj ck a5=>?_)
     obtain ⟨E,Y,rfl,a6,a7,a8⟩:=a5
     refine P8 (F3 3 1 pv1 Y::(As++(E++L))) a6<|Ag z<|Nr<|Tr<|T.sgR<|T.A4u ?_
     cases H
     exact T.A1q (L':=F3 3 1 pv1 Y::(As++(E++L))) results70 (Rv z) Li (λ_ iv=>iv) ⟨_,E,z,z,a8,a7⟩
    refine Ks<|Sr<|Vv (V.mkf z z)<|To (T.dfr z<|Nt<|Sq<|T.label<|Th<|Sq<|Sm z<|NL z A0s D9 C.u z<|Vv (V.Q3 A9 z U)<|Mv z<|Nt ?_)
    obtain ⟨a9,ah,Z⟩:=J6 H
    have H:=ah
    refine Bl<|have al:=(((B.trans D).trans W).trans X); have av:=pr2.2.1 _ _ _ _ al hRa; T.lk [0,2,4,9,35] (FUEL,s0,part2,(0:Int),La,pcs1) (λ⟨q,i,m,d,a,b⟩=>([(1,pv1),(36,qi d)],F3 3 1 pv1 b::(As++(a++L)),λhh=>iter (A6Z (A6s n) h1 yield4 c) q (i,m,d)=some a9∧R i hh a∧A7 (VI .i64) hh b m)) ⟨H,av,pr1.u⟩ ?_
    rintro ⟨q,i,m,d,a,b⟩ az cm ⟨ba,G,f⟩
    obtain ⟨bb,cn,rfl,H,I⟩:=G7 ba
    refine T.norm [1,36,0,2,4,9,35] z<|P8 (F3 3 1 pv1 b::(As++(a++L))) z<|Sr<|Wl z z<|Nt<|Sq<|T.cH H z (λH=>?_) λH=>?_
    ·refine Ks<|Sq ?_
     obtain ⟨bc,be,aa⟩:=J6 H
     refine T.ck (α:=σ×(List Int)×(List E5)×(List (List Value))) [0,2,4,9,35,36] (λ⟨r,s,o,p⟩=>([(1,pv1)],F3 3 1 pv1 p::(As++(o++L)),λhh=>bc=(Sum.inl (r,s))∧R r hh o∧A7 (VI .i64) hh p s)) ?_ ?_
     ·have H:=be
      refine Bl<|Sm z<|An z<|Sq<|Sr<|Vv (V.R5 D9 z e.u z)<|Vv (V.A4a A9 z (j:=0) z f.len)<|Mv z<|Nt ?_
      obtain ⟨bf,bg,ab⟩:=J6 H
      have H:=bg
      refine Bl<|T.lk [0,1,2,4,9,10,35,36,39,40] (FUEL,(0:Int)) (λ⟨w,x⟩=>([(41,qi x)],F3 3 1 pv1 b::(As++(a++L)),λhh=>iter (A4W i m d) w x=some bf)) H ?_
      rintro ⟨w,x⟩ ac ad bi
      obtain ⟨bj,co,rfl,H,J⟩:=G7 bi
      refine T.norm [41,0,1,2,4,9,10,35,36,39,40] z<|P8 (F3 3 1 pv1 b::(As++(a++L))) z<|Sr<|Wl z z<|Nt<|Sq<|T.cH H z (λH=>?_) λH=>?_
      ·refine Ks<|Sq<|Bl<|Sr<|bE H λcp ae H=>?_
       obtain ⟨cq,bk,rfl⟩:=A7.get f ae
       refine Vv (V.ixR A9 z z (j:=0) z (A7.bd f ae))<|Vv (V.ldR D7 z (j:=0) z bk z)<|An z<|Sm z<|Mv z<|We z z<|Nt<|T.cH H z (λH=>?_) λH=>?_
       ·refine T.exit<|T.blX z<|Te<|Te<|have H:=D6 H J; T.blX z<|Te<|have H:=I4 H ab; Be<|Th<|have bm:=pr2.2.1 _ _ _ _ ad G; T.mt (i,m,a,b) ⟨(M0 H),bm,f.u⟩
       refine T.skip<|Bn<|Th<|Rg<|bE H λbn bo H=>Vv (V.H5 z z bo)<|Mv z<|Nt<|T.ag (bj,bn) (D8 H J)
      refine T.exit<|Te<|Te<|have H:=D6 H J; Be<|Th<|have H:=I4 H ab; Sr<|Vv (V.R5 D9 z e.u z)<|Vv (V.R5 D7 z y.u z)<|Mv z<|bE H λcr K H=>?_
      obtain ⟨cs,ct,rfl⟩:=A7.get f K
      refine Vv (V.ixR A9 z z (j:=0) z (A7.bd f K))<|bE H λbp bq H=>To (O.stR D7 z z (j:=0) z (A7.bdN f K) z<|have br:A7 (VI .i64) ac (b.set c.toNat [qi d]) bp:=A7.set f.u (show (VI .i64) ac [qi d] d from z) bq; Nt<|Sq<|Sm z<|Vv (V.R5 D9 z e.u z)<|Mv z<|have bs:=pr2.2.1 _ _ _ _ ad G; bE H λ⟨cu,cw,bt⟩ bu H=>To (O.G5 z (self (Pt.mk C.u ⟨an,ao,ap,aq,ar,au,aw,ax,ay,z,S.u,aA.u,aB.u,aC.u,aD.u,aE.u,U.u,aG.u,aI.u⟩) br pr2.u bs bu As _) z λcx M cy cA bw=>?_))
      obtain ⟨af,N,rfl,bx,A,ai⟩:=bw
      refine P8 _ bx<|Vv (V.not z)<|Nt<|T.cH H z (λH=>?_) λH=>?_
      ·refine Sg z<|Nr<|Tr<|Br<|Tr<|have H:=D3M H aa; Tr<|have H:=D6 H I; Br<|Tr<|have H:=I4 H Z; T.sgR<|T.A4u<|bE H λcB bA H=>T.lvZ (B4a e.u A y.u (show (VI .i64) M [qi c] c from z) bA _) λcC cD cE bB bC=>?_
       obtain ⟨bD,rfl,bG,bI⟩:=bC
       refine P8 _ bG<|have bJ:=pr2.2.1 _ _ _ _ bB ai; ?_
       cases H
       exact T.A1q (L':=F3 3 1 pv1 bD::(As++(N++L))) results70 (Rv z) Li (λ_ iv=>iv) ⟨_,N,z,z,bI,bJ⟩
      refine Ks<|Rg<|Vv (V.R5 D9 z e.u z)<|Vv (V.R5 D7 z y.u z)<|bE H λcG P H=>?_
      obtain ⟨cI,cJ,rfl⟩:=A7.get A P
      refine Vv (V.ixR A9 z z (j:=0) z (A7.bd A P))<|bE H λaj bK H=>To (O.stR D7 z z (j:=0) z (A7.bdN A P) z<|have bM:A7 (VI .i64) M (af.set c.toNat [qi (-1)]) aj:=A7.set A (show (VI .i64) M [qi (-1)] (-1:Int) from z) bK; Ni<|Bn<|Th<|T.mt (bt,aj,N,(af.set c.toNat [qi (-1)])) ⟨(M0 H),ai,bM⟩)
     rintro ⟨r,s,o,p⟩ cK cM ⟨bN,bO,bP⟩
     have H:=I4 bN aa
     refine T.norm [1,0,2,4,9,35,36] z<|P8 (F3 3 1 pv1 p::(As++(o++L))) z<|Rg<|bE H λbS bU H=>Vv (V.H5 z z bU)<|Mv z<|Nt<|T.ag (bb,r,s,bS,o,p) ⟨(D8 H I),bO,bP⟩
    refine T.exit<|Te<|Te<|have H:=D6 H I; Be<|Th<|have H:=I4 H Z; Sg z<|Nr<|T.sgR<|T.A4u<|bE H λcN bV H=>T.lvZ (B4a e.u f y.u (show (VI .i64) az [qi c] c from z) bV _) λcO cP cS bW bX=>?_
    obtain ⟨bY,rfl,bZ,b0⟩:=bX
    refine P8 _ bZ<|have b1:=pr2.2.1 _ _ _ _ bW G; ?_
    cases H
    exact T.A1q (L':=F3 3 1 pv1 bY::(As++(a++L))) results70 (Rv z) Li (λ_ iv=>iv) ⟨_,a,z,z,b0,b1⟩
theorem A2b {σ:Type} {R:σ→PH→List E5→Prop} {a:σ→(List Int)→Option (σ×Bool)} {b:σ} {q_s:σ} {h c La d e f g i j} (k:A8F R h c a) (hRa:R b h La) (m:Z8 h d e) (n:(VPt R6) h e f) (o:Z8 h g i) (p:(VSl (VI .i64) 1) h i j) (H:A1y a b f j=some q_s):∀ As L,J2 prog 69 [c,.pointer (some d),.pointer (some g)] h ((As++(La++L))) (λv h' L'=>∃ La',v=.tuple #[]∧L'=(As++(La'++L))∧R q_s h' La'):=by
 intro As L
 obtain ⟨J,rfl,q⟩:=n
 obtain ⟨K,rfl,r⟩:=p
 refine J2.enter func69 z z z<|T.N7 (t:=(.vs [0,1,3] (.alt 2 (.alt 4 .done .no) .no))) 6 0 0 z z H9 (by kernel_rfl) ?_
 refine Tv z (V.R5 Q7 z m z)<|Tv z (V.R5 D9 z o z)<|Tm z z<|bE H λM s H=>Tp z z (X2 z z) (O.G5 z (A1h r s _) z λN P S w x=>?_) T.P6
 obtain ⟨U,y,A⟩:=x
 refine P8 _ y<|have B:=k.2.1 _ _ _ _ w hRa; bE H λ⟨W,X,Y⟩ C H=>Tp z z (SX.two (XA.fr [] Li z) (XA.fr [] Li z)) (O.G5 z (C3L _ q.u A k.u B C As _) z λZ aa ab ac D=>?_) T.P6
 obtain ⟨ad,E,rfl,G,ae,I⟩:=D
 refine P8 _ G<|T.O6 (SX.two (XA.fr [] Li z) (XA.fr [] Li z))<|T.drop ?_
 cases H
 exact T.A0V results69 Li ⟨E,z,z,I⟩
theorem A3S {h b c d e a} (f:Pt R6 h b c) (g:G6 (VI .i64) 1 h d e) (H:A3p c e=some a):∀ L,J2 prog 28 [b,d] h (L) (λv h' L'=>∃ p0_1 v0_3 p0_5 v0_7,v=.func (.func 69) #[] #[.pointer (some p0_1),.pointer (some p0_5)]∧L'=L∧Z8 h' p0_1 [v0_3]∧Pt R6 h' v0_3 a.1∧Z8 h' p0_5 [v0_7]∧G6 (VI .i64) 1 h' v0_7 a.2):=by
 intro L
 refine J2.enter func28 z z z<|Sr<|To (O.U4 z (Pt.cells f) z λk m n i=>To (O.U4 z (G6.cells g) z λo p q j=>An z<|Sr<|Vv (V.mkf z z)<|Ag z<|Nr ?_))
 cases H
 exact T.rl z (Rv z) ⟨_,_,_,_,z,z,i.u,f.u,j,g.u⟩
theorem B4r {h a r1 v0_1 v0_3 v0_5 css0_6 b o_} (hP0_2:Pt R6 h v0_1 r1.A9V) (hS0_4:G6 A3I 2 h v0_3 r1.A3q) (hR0_7:A7 (VI .i64) h css0_6 r1.Q9) (H:B4s r1 b=some o_):∀ L,FnE prog 74 [.pointer (some ⟨a,0,none⟩),.int .i64 b] h (blk a (.cells [v0_1,.int .i64 r1.A7x,v0_3,.int .i64 r1.fat,v0_5].toArray 153)::F3 3 1 v0_5 css0_6::L) (PE (λq_0 v h' L'=>∃ vl0_1 cssl0_2,v=.tuple #[]∧L'=blk a (.cells [v0_1,.int .i64 r1.A7x,v0_3,.int .i64 q_0.1,vl0_1].toArray 153)::F3 3 1 vl0_1 cssl0_2::L∧A7 (VI .i64) h' cssl0_2 q_0.2) (λx_=>.iface 150 (.agg #[.int .i64 x_.fat,.int .i64 x_.fe])) L o_):=by
 intro L
 refine FnE.enter func74 z ntmps74 z<|Rg<|Mv z<|NF z A0e<|Vv (V.ldO (k:=3) D7 z (j:=0) z z)<|Mv z<|Vv (V.bld (xs:=[(0,.tmp 7),(1,.tmp 8)]) (cs:=[_,_]) C2H C1P z (F6.cons z z z (F6.cons z z z F6.nil)))<|Vv (V.mki B5W z)<|To (O.panic z<|T.drop<|T.drop ?_)
 cases H
 exact T.D1o (P:=prog) (fn:=Tryz.f74) Lr (PE.pan z)
theorem B3Q (n:Nat):∀ {h:PH} {pb0:Nat} {r1:R3} {v0_1:Value} {v0_3:Value} {v0_5:Value} {css0_6:List (List Value)} (hP0_2:Pt R6 h v0_1 r1.A9V) (hS0_4:G6 A3I 2 h v0_3 r1.A3q) (hR0_7:A7 (VI .i64) h css0_6 r1.Q9) {last2:Int} {o_:(Int×(List Int))⊕A0c} (H:B0P n r1 last2=some o_) (L:List E5),FnE prog 73 [.pointer (some ⟨pb0,0,none⟩),.int .i64 last2] h (blk pb0 (.cells [v0_1,.int .i64 r1.A7x,v0_3,.int .i64 r1.fat,v0_5].toArray 153)::F3 3 1 v0_5 css0_6::L) (PE (λq_0 v h' L'=>∃ vl0_1 cssl0_2,v=.tuple #[]∧L'=blk pb0 (.cells [v0_1,.int .i64 r1.A7x,v0_3,.int .i64 q_0.1,vl0_1].toArray 153)::F3 3 1 vl0_1 cssl0_2::L∧A7 (VI .i64) h' cssl0_2 q_0.2) (λx_=>.iface 150 (.agg #[.int .i64 x_.fat,.int .i64 x_.fe])) L o_):=by
  induction n with
  | zero=>intros; rename_i H _; cases H
  | succ n self=>
    intro h pb0 r1 v0_1 v0_3 v0_5 css0_6 hP0_2 hS0_4 hR0_7 last2 o_ H L
    refine FnE.enter func73 z ntmps73 z<|Sq<|Sq<|T.N7 (t:=(.vs [0,1,2,3,4,5,6,7,8,9] .done)) 11 1 1 z z H9 (by kernel_rfl) ?_
    refine Tm z z<|TF z z z A0e<|Tv z (Val.XA λ_ _ _=>V.ldO (k:=3) D7 z (j:=0) z z)<|Tm z z<|TF z z z B3j<|Tv z (Val.XA λ_ _ _=>V.ldO (k:=2) B7r z (j:=0) z z)<|Tv z (V.Q3 A3l z hS0_4)<|Tv z (V.eq z z)<|T.O6 (X3 [0] [0] z z)<|Th<|T.cH H z (λH=>?_) λH=>?_
    ·refine Rg<|Mv z<|bE H λax ay H=>?_
     rcases ax with br | bs
     rotate_left
     ·refine To (O.C7j z (B4r (r1:=(R3.mk r1.A9V r1.A7x r1.A3q r1.fat r1.Q9)) hP0_2 hS0_4 hR0_7 ay _) (λ_ _ _ q=>q) λbt bu=>?_)
      cases H
      exact T.D1o (P:=prog) (fn:=Tryz.f73) Li (PE.pan z)
     exact dead H
    refine Ks<|Sq<|T.N7 (t:=(.vs [0,1,2,3,4,5,6,7,8,9] (.alt 10 (.alt 11 .done .no) .no))) 13 1 1 z z H9 (by kernel_rfl) ?_
    refine Tm z z<|TF z z z B3j<|Tv z (Val.XA λ_ _ _=>V.ldO (k:=2) B7r z (j:=0) z z)<|Tm z z<|TF z z z A0e<|Tv z (Val.XA λ_ _ _=>V.ldO (k:=3) D7 z (j:=0) z z)<|bE H λo G H=>?_
    obtain ⟨bw,aA,rfl⟩:=G6.at hS0_4 G
    refine Tv z (V.ix A3l z z hS0_4 (E8 G))<|Tv z (V.ldS z aA (by exact B7y)) ?_
    refine Tp z z (X3 [0] [0] z z) (O.alloc B7G z z λbx=>?_) T.P6
    refine Tp z z (X3 [1] [1] z z) (O.stF (vs:=[.int .u8 o.F9,qi o.fN]) B7y z z (j:=0) z z z z ?_) T.P6
    refine T.fl ?_
    refine T.freeze λbA bB aB=>have a:=Z8.of aB; T.O6 (SX.two (XA.fr [0] Li z) (XA.fr [0] Li z))<|Th<|Sq<|Sr<|Vv (V.fa C1x z)<|Vv (V.M8 (k:=0) C3D z a z)<|Nt<|Bl<|Sr<|We z z<|An z<|T.cH H z (λH=>?_) λH=>?_
    ·refine Sq<|Sq<|T.N7 (t:=(.vs [0,1,2,3,4,5,6,7,8,9,10,11,12,13,14,15,16,17,18,19,20,21,22,23] .done)) 25 2 2 z z H9 (by kernel_rfl) ?_
     refine Tv z (V.fa Y0 z)<|Tv z (V.M8 (k:=1) D7 z a z)<|Tv z (V.lt z z)<|Tm z z<|T.bH 37 H z dead λH=>Tv z (V.fa Y0 z)<|Tv z (V.M8 (k:=1) D7 z a z)<|Tm z z<|TF z z z A1s<|Tv z (Val.XA λ_ _ _=>V.ldO (k:=4) D9 z (j:=0) z z)<|Tv z (Val.XA λ_ _ _=>V.A4a A9 z (j:=1) z hR0_7.len)<|Tv z (V.ge z z)<|Tv z (V.pkF z z)<|Tm z z<|T.bH 47 H z dead λH=>Tm z z<|TF z z z A1s<|Tv z (Val.XA λ_ _ _=>V.ldO (k:=4) D9 z (j:=0) z z)<|Tv z (V.fa Y0 z)<|Tv z (V.M8 (k:=1) D7 z a z)<|bE H λbC I H=>?_
     obtain ⟨bD,aC,rfl⟩:=A7.get hR0_7 I
     refine Tv z (Val.XA λ_ _ _=>V.ixR A9 z z (j:=1) z (A7.bd hR0_7 I))<|Tv z (Val.XA λ_ _ _=>V.ldR D7 z (j:=1) z aC z)<|Tv z (V.ge z z)<|Tv z (V.pkF z z)<|T.O6 (X3 [1,1] [1,1] z z)<|Th<|T.cH H z dead λH=>Ks<|Sq<|T.norm [0,4] z<|T.fl ?_
     refine Rg<|Mv z<|NF z A0e<|Vv (V.ldO (k:=3) D7 z (j:=0) z z)<|bE H λJ aD H=>Vv (V.H5 z z aD)<|NF z A0e<|To (O.st (vs:=[qi J]) (k:=3) D7 z z (j:=0) z z z<|Nt<|Sq<|Sm z<|NF z A3J<|Vv (V.ldO (k:=0) Q7 z (j:=0) z z)<|have aE:=hP0_2; ?_)
     obtain ⟨aG,_,rfl,w,⟨K,M,N,S,U,W,X,Y,Z,rfl,aa,ab,ac,ad,ae,af,y,ai,aj⟩⟩:=aE
     refine NL z A0s D9 w.u z<|Vv (V.Q3 A9 z y)<|Mv z<|Nt ?_
     obtain ⟨aI,aJ,ak⟩:=J6 H
     have H:=aJ
     refine Bl<|T.lk [0,4,74] (FUEL,J,r1.Q9,(0:Int),v0_5,css0_6) (λ⟨p,b,e,c,f,d⟩=>([(75,qi c)],blk pb0 (.cells [.pointer (some aG),qi r1.A7x,v0_3,qi b,f].toArray 153)::F3 3 1 f d::L,λhh=>iter (B3B (B0P n) r1 o) p (b,e,c)=some aI∧A7 (VI .i64) hh d e)) ⟨H,hR0_7.u⟩ ?_
     rintro ⟨p,b,e,c,f,d⟩ bG bI ⟨aK,m⟩
     obtain ⟨am,bJ,rfl,H,r⟩:=G7 aK
     refine T.norm [75,0,4,74] z<|T.fl ?_
     refine Sr<|Wl z z<|Nt<|Sq<|T.cH H z (λH=>?_) λH=>?_
     ·refine Ks<|Sq<|Bl<|Sm z<|An z<|Sm z<|NF z A1s<|Vv (V.ldO (k:=4) D9 z (j:=0) z z)<|Mv z<|Fr_ 1 z<|bE H λaM aN H=>To (O.G5 z (J2.A6F (val:=.bool aM) func39 z A1C λbK bM aO=>?_) z λbN an bO bP aP=>?_)
      ·have aS:=A7.slc aO m.u
       exact A2m aS aN _
      obtain ⟨rfl,aU⟩:=aP
      refine P8 _ aU<|Vv (V.not z)<|Nt<|T.cH H z (λH=>?_) λH=>?_
      ·refine Sq<|Fr_ 1 z<|T.N7 (t:=(.vs [0,1,2,3,4,5,6] (.x 7 (.alt 8 .done .no)))) 8 2 1 z z H9 (by kernel_rfl) ?_
       refine Tm z z<|TF z z z A1s<|Tv z (Val.XA λ_ _ _=>V.ldO (k:=4) D9 z (j:=0) z z)<|Tv z (V.fa Y0 z)<|Tv z (V.M8 (k:=1) D7 z a.u z)<|Tm z z<|bE H λbS A H=>?_
       obtain ⟨bU,bV,rfl⟩:=A7.get m A
       refine T.tx z z (Val.XA λ_ _ _=>V.ixR A9 z z (j:=1) z (A7.bd m A)) z Calm.i<|bE H λB aV H=>Tp z z (X3 [0] [1,1] z z) (O.stR D7 z z (j:=1) z (A7.bdN m A) z ?_) T.P6
       have ao:A7 (VI .i64) an (d.set o.fN.toNat [qi c]) B:=A7.set m.u (show (VI .i64) an [qi c] c from z) aV
       refine T.O6 (SX.one (XA.fr [1] Lr z) z)<|Th<|Sm z<|Vv (V.fa Y0 z)<|Vv (V.M8 (k:=1) D7 z a.u z)<|Fr_ 1 z<|bE H λaW ap H=>?_
       rcases aW with aX | bW
       rotate_left
       ·refine To (O.C7j z (self (r1:=(R3.mk r1.A9V r1.A7x r1.A3q b B)) (Pt.mk w.u ⟨K,M,N,S,U,W,X,Y,Z,z,aa.u,ab.u,ac.u,ad.u,ae.u,af.u,y.u,ai.u,aj.u⟩) hS0_4.u ao ap _) (λ_ _ _ q=>q) λbX bY=>have H:=D6 H r; have H:=I4 H ak; ?_)
        cases H
        exact T.D1o (P:=prog) (fn:=Tryz.f73) Li (PE.pan z)
       refine To (O.G5 z (FnE.toS (self (r1:=(R3.mk r1.A9V r1.A7x r1.A3q b B)) (Pt.mk w.u ⟨K,M,N,S,U,W,X,Y,Z,z,aa.u,ab.u,ac.u,ad.u,ae.u,af.u,y.u,ai.u,aj.u⟩) hS0_4.u ao ap _) λ_ _ _ q=>q) z λbZ aq b0 b1 aY=>?_)
       obtain ⟨aZ,ar,rfl,a0,s⟩:=aY
       refine P8 _ a0<|Nt<|T.N7 (t:=(.vs [0,1,2,3,4,5] (.x 6 (.alt 7 .done .no)))) 7 2 1 z z H9 (by kernel_rfl) ?_
       refine Tm z z<|TF z z z A1s<|Tv z (Val.XA λ_ _ _=>V.ldO (k:=4) D9 z (j:=0) z z)<|Tv z (V.fa Y0 z)<|Tv z (V.M8 (k:=1) D7 z a.u z)<|bE H λb2 C H=>?_
       obtain ⟨b3,b4,rfl⟩:=A7.get s C
       refine T.tx z z (Val.XA λ_ _ _=>V.ixR A9 z z (j:=1) z (A7.bd s C)) z Calm.i<|bE H λau a1 H=>Tp z z (X3 [0] [1,1] z z) (O.stR D7 z z (j:=1) z (A7.bdN s C) z ?_) T.P6
       have a2:A7 (VI .i64) aq (ar.set o.fN.toNat [qi (-1)]) au:=A7.set s (show (VI .i64) aq [qi (-1)] (-1:Int) from z) a1
       refine T.O6 (SX.one (XA.fr [1] Lr z) z)<|Bn<|Th<|T.norm [0,4,74,75] z<|T.fl ?_
       refine Rg<|bE H λa3 a4 H=>Vv (V.H5 z z a4)<|Mv z<|Nt<|Fr_ 1 z<|T.ag (am,aX.1,au,a3,aZ,(ar.set o.fN.toNat [qi (-1)])) ⟨(D8 H r),a2⟩
      refine T.skip<|Bn<|Th<|Rg<|bE H λa5 a6 H=>Vv (V.H5 z z a6)<|Mv z<|Nt<|Fr_ 1 z<|T.ag (am,b,e,a5,f,d) ⟨(D8 H r),m.u⟩
     refine T.exit<|Te<|Te<|have H:=D6 H r; Be<|Th<|have H:=I4 H ak; T.ret<|Br<|Tr ?_
     cases H
     exact T.D3u results73 Li (PE.ret ⟨_,_,z,z,m⟩)
    refine Sr<|We z z<|An z<|T.cH H z (λH=>?_) λH=>?_
    ·refine Sq<|T.N7 (t:=(.vs [0,1,2,3,4,5,6,7,8,9,10,11,12,13,14,15,16,17,18,19,20,21,22,23,24,25,26,27,28,29,30,31,32,33,34,35,36,37,38,39,40,41,42,43,44,45,46] (.alt 47 (.g (.v 48 (.v 49 .done))) .no))) 51 2 2 z z H9 (by kernel_rfl) ?_
     refine Tv z (V.fa Y0 z)<|Tv z (V.M8 (k:=1) D7 z a z)<|Tv z (V.lt z z)<|Tm z z<|T.bH 110 H z dead λH=>Tv z (V.fa Y0 z)<|Tv z (V.M8 (k:=1) D7 z a z)<|Tm z z<|TF z z z A3J<|Tv z (Val.XA λ_ _ _=>V.ldO (k:=0) Q7 z (j:=0) z z)<|have a7:=hP0_2; ?_
     obtain ⟨b5,_,rfl,D,⟨b6,b7,b8,b9,bh,bl,bv,bz,ca,rfl,a8,cb,cc,cd,ce,E,cf,cg,ci⟩⟩:=a7
     refine TF z z z B1s<|Tv z (V.fa A2x z)<|Tv z (V.M8 (k:=5) A1k z D.u z)<|Tv z (V.Q3 Z6 z E)<|Tv z (V.ge z z)<|Tv z (V.pkF z z)<|Tm z z<|T.bH 124 H z dead λH=>Tm z z<|TF z z z A3J<|Tv z (Val.XA λ_ _ _=>V.ldO (k:=0) Q7 z (j:=0) z z)<|TF z z z B1s<|Tv z (V.fa A2x z)<|Tv z (V.M8 (k:=5) A1k z D.u z)<|Tv z (V.fa Y0 z)<|Tv z (V.M8 (k:=1) D7 z a z)<|bE H λcj aw H=>?_
     obtain ⟨ck,a9,rfl⟩:=G6.at E aw
     refine Tv z (V.ix Z6 z z E (E8 aw))<|Tv z (V.fa A4n z)<|Tv z (V.M8 (k:=1) D7 z a9.u z)<|Tv z (V.gt z z)<|Tv z (V.pkF z z)<|Tm z z<|T.bH 140 H z dead λH=>Tm z z<|TF z z z A3J<|Tv z (Val.XA λ_ _ _=>V.ldO (k:=0) Q7 z (j:=0) z z)<|TL z z z z A6y I8 D.u z<|Tm z z<|TF z z z A1s<|Tv z (Val.XA λ_ _ _=>V.ldO (k:=4) D9 z (j:=0) z z)<|Tv z (V.fa Y0 z)<|Tv z (V.M8 (k:=1) D7 z a z)<|Fr_ 1 z<|bE H λah al H=>Tp z z (X3 [0,1] [0,1] z z) (O.G5 z (J2.A6F (val:=qi ah) func133 z A1C λcm cn av=>?_) z λco cp cq cr az=>?_) T.P6
     ·have ba:=A7.slc av hR0_7.u
      exact C1F a8.u ba al _
     obtain ⟨rfl,bb⟩:=az
     refine P8 _ bb<|T.O1 Li<|Tv z (V.eq z z)<|Tv z (V.pkF z z)<|T.O6 (X3 [0,1] [0,1] z z)<|Th<|T.cH H z dead λH=>T.skip<|Bn<|Th<|T.norm [0] z<|T.fl ?_
     refine Rg<|Mv z<|NF z A0e<|Vv (V.ldO (k:=3) D7 z (j:=1) z z)<|bE H λbc be H=>Vv (V.H5 z z be)<|NF z A0e<|To (O.st (vs:=[qi bc]) (k:=3) D7 z z (j:=1) z z z<|Ni ?_)
     cases H
     exact T.D1S results73 Li (PE.ret ⟨_,_,z,z,hR0_7.u⟩)
    refine Sr<|We z z<|An z<|T.cH H z dead λH=>Sr<|We z z<|An z<|T.cH H z (λH=>?_) λH=>?_
    ·refine Sq<|T.norm [0,1,4] z<|T.fl ?_
     refine T.N7 (t:=(.vs [0,1,2,3,4,5,6,7,8,9,10,11,12,13] (.alt 14 (.g (.v 15 (.v 16 .done))) .no))) 18 2 2 z z H9 (by kernel_rfl) ?_
     refine Tm z z<|Tv z (V.lt z z)<|Tm z z<|T.bH 191 H z dead λH=>Tm z z<|TF z z z A3J<|Tv z (Val.XA λ_ _ _=>V.ldO (k:=0) Q7 z (j:=0) z z)<|Tm z z<|TF z z z A1s<|Tv z (Val.XA λ_ _ _=>V.ldO (k:=4) D9 z (j:=0) z z)<|Tm z z<|Tv z (V.fa Y0 z)<|Tv z (V.M8 (k:=1) D7 z a z)<|Fr_ 1 z<|bE H λbf bg H=>Tp z z (X3 [0,1] [0,1] z z) (O.G5 z (J2.A6F (val:=.bool bf) func135 z A1C λcs ct bi=>?_) z λcu cw cx cy bj=>?_) T.P6
     ·have bk:=A7.slc bi hR0_7.u
      exact C2u hP0_2.u bk bg _
     obtain ⟨rfl,bm⟩:=bj
     refine P8 _ bm<|T.O1 Li<|Tv z (V.not z)<|Tv z (V.pkF z z)<|T.O6 (X3 [0,1] [0,1] z z)<|Th<|T.cH H z (λH=>?_) λH=>?_
     ·refine Rg<|Mv z<|Fr_ 1 z<|bE H λbn bo H=>?_
      rcases bn with cA | cB
      rotate_left
      ·refine To (O.C7j z (B4r (r1:=(R3.mk r1.A9V r1.A7x r1.A3q r1.fat r1.Q9)) hP0_2.u hS0_4.u hR0_7.u bo _) (λ_ _ _ q=>q) λcC cD=>?_)
       cases H
       exact T.D1o (P:=prog) (fn:=Tryz.f73) Li (PE.pan z)
      exact dead H
     refine T.skip<|Bn<|Th<|Rg<|Mv z<|NF z A0e<|Vv (V.ldO (k:=3) D7 z (j:=1) z z)<|bE H λbp bq H=>Vv (V.H5 z z bq)<|NF z A0e<|To (O.st (vs:=[qi bp]) (k:=3) D7 z z (j:=1) z z z<|Ni ?_)
     cases H
     exact T.D1S results73 Li (PE.ret ⟨_,_,z,z,hR0_7.u⟩)
    exact dead H
end Go.Proofs.X
open Go Go.Proofs Go.Proofs.Tryz Go.Sl Go.Dm
namespace Go.Proofs.X
theorem C1V:A5p prog 153=some ([.pointer none,.int .i64 (0),.slice none 0 0,.int .i64 (0),.slice none 0 0],[(0,1),(1,1),(2,1),(3,1),(4,1)]):=by kernel_rfl
theorem C2d:A0E prog 153=true:=by kernel_rfl
theorem B9K:O8 prog 150 0=some 0:=by kernel_rfl
theorem B9k:O8 prog 150 1=some 1:=by kernel_rfl
theorem P5:U7 prog 35=some (false,1):=by kernel_rfl
theorem C1M:zer prog 150=some (.agg #[.int .i64 (0),.int .i64 (0)]):=by kernel_rfl
theorem A9u:zer prog 35=some (.int .i64 (0)):=by kernel_rfl
theorem A9g:zer prog 66=some (.pointer none):=by kernel_rfl
theorem B5f {h:PH} {b0 b1:Nat} (L:List E5):FnQ prog 72 [.pointer (some ⟨b0,0,none⟩),.pointer (some ⟨b1,0,none⟩)] h L (λ_ L'=>L'=L):=by
  refine FnQ.enter func72 rfl ntmps72 results72 rfl rfl rfl ?_
  refine T.seq ?_
  refine T.region ?_
  refine T.v rfl (V.mv rfl) rfl ?_
  refine T.v rfl (V.neN underlying20 rfl) rfl ?_
  refine T.nil ?_
  refine T.thN ?_
  refine T.D1U rfl ?_
  refine T.skip ?_
  exact T.D3O (Le.refl _) rfl
theorem B6h {h:PH} {pb0:Nat} {t1:Int}  {pb1:Nat} {t2:Int}  {x_:A0c} {q_0:Int} {q_1:Int} (H:B9t t1 t2 x_=some (q_0,q_1)):∀ L,FnR prog 72 [.pointer (some ⟨pb0,0,none⟩),.pointer (some ⟨pb1,0,none⟩)] h (blk pb0 (.cells [.int .i64 t1].toArray 3)::blk pb1 (.cells [.int .i64 t2].toArray 35)::L) (.iface 150 (.agg #[.int .i64 x_.fat,.int .i64 x_.fe])) (λh' L'=>L'=blk pb0 (.cells [.int .i64 q_0].toArray 3)::blk pb1 (.cells [.int .i64 q_1].toArray 35)::L):=by
  intro L
  refine FnR.enter func72 rfl ntmps72 results72 rfl rfl rfl ?_
  refine T.seq ?_
  refine T.region ?_
  refine T.v rfl (V.mv rfl) rfl ?_
  refine T.v rfl (V.neI underlying20 rfl) rfl ?_
  refine T.nil ?_
  refine T.thN ?_
  refine T.D1T rfl ?_
  refine T.seq ?_
  refine T.region ?_
  refine T.v rfl (V.mv rfl) rfl ?_
  refine T.v rfl (V.ta underlying150 rfl) rfl ?_
  refine T.op rfl (O.alloc C1M rfl rfl λb3=>?_)
  refine T.op rfl (O.stF (vs:=[.int .i64 x_.fat,.int .i64 x_.fe]) B5W rfl rfl (j:=0) rfl rfl rfl rfl ?_)
  refine T.D1Z (blk b3 (.cells [.int .i64 x_.fat,.int .i64 x_.fe].toArray 150)::blk pb0 (.cells [.int .i64 t1].toArray 3)::blk pb1 (.cells [.int .i64 t2].toArray 35)::L) rfl ?_
  refine T.freeze λh4 le5 e6=>?_
  have hA7:=Z8.of e6
  refine T.nil ?_
  refine T.thN ?_
  refine T.N7 (t:=(.v 0 (.v 1 (.v 2 (.v 3 (.alt 4 (.alt 5 .done .no) .no)))))) 4 2 0 rfl rfl H9 (by kernel_rfl) ?_
  refine T.tv rfl rfl (V.fa B9K rfl) rfl Calm.rec ?_
  refine T.tv rfl rfl (V.M8 (k:=0) D7 rfl hA7 rfl) rfl Calm.rec ?_
  refine T.tv rfl rfl (V.fa B9k rfl) rfl Calm.rec ?_
  refine T.tv rfl rfl (V.M8 (k:=1) P5 rfl hA7 rfl) rfl Calm.rec ?_
  refine T.top rfl rfl (SX.two (XA.fr [] (Le.refl _) rfl) (XA.fr [1,1] (Le.refl _) rfl)) (O.stF (vs:=[.int .i64 x_.fat]) D7 rfl rfl (j:=0) rfl rfl rfl rfl ?_) T.P6
  refine T.top rfl rfl (SX.one (XA.fr [] (Le.refl _) rfl) rfl) (O.stF (vs:=[.int .i64 x_.fe]) P5 rfl rfl (j:=1) rfl rfl rfl rfl ?_) T.P6
  refine T.O6 (SX.one (XA.fr [] (Le.refl _) rfl) rfl) ?_
  refine T.front 1 rfl ?_
  obtain ⟨rfl,rfl⟩:=inj2 H
  exact T.D3O Li rfl
theorem A7t {h e f b g c i m} (s:N8 h e f) (a:G6 A3I 2 h g c) (H:A8n f b c=some (i,m)):∀ L,FnW prog 33 [.agg e.toArray,.int .i64 b,g] h L (.tuple #[.int .i64 i,.int .i64 m]):=by
 intro L
 obtain ⟨t,w,x,y,A,rfl,B,C,D,E,G⟩:=s
 refine J2.D2J func33 z ntmps33 z<|Sr<|To (O.U4 z z z λaf ag ai I=>To (O.alloc J7 z z λaj=>To (O.alloc A9u z z λak=>Nt<|Sr<|Vv (V.ldS z I (by exact J9)) ?_)))
 refine bE H λ⟨am,an,J⟩ K H=>To (O.G5 z (B0j ⟨t,w,x,y,A,z,B.u,C.u,D.u,E.u,G.u⟩ K _) z λao ap aq ar M=>?_)
 obtain ⟨au,rfl,N,P⟩:=M
 refine P8 _ N<|Mv z<|Wx z z<|Wx z z<|Wx z z<|Ag z<|Ag z<|To (O.stF (vs:=[qi J]) P5 z z (j:=0) z z z z<|Nt<|Sq<|Sr<|Vv (V.A9y P5 z (j:=0) z z)<|Wn z z<|Nt<|T.cH H z (λH=>?_) λH=>?_)
 ·exact dead H
 refine Ks<|Sq<|Sm z<|Vv (V.Q3 A3l z a)<|Wg z z<|Nt<|T.cH H z dead λH=>Ks<|Sr<|Vv (V.mkf z z)<|To (T.dfr z<|Nt<|Sm z<|Mv z<|Mv z<|Mv z<|bE H λn S H=>have d:=OPt.get P S; bE H λo U H=>To (O.G5 z (A2S d U _) z λaw ax ay aA W=>?_))
 obtain ⟨aB,X,p⟩:=W
 refine P8 _ X<|T.R8 0 z λaC Y=>Vv (V.bld (xs:=[(0,.tmp 24),(1,.tmp 25),(2,.tmp 26),(4,.tmp 28)]) (cs:=[_,_,_,_,_]) C1V C2d z (F6.cons z (Pt.cells d) z (F6.cons z z z (F6.cons z (G6.cells a) z (F6.cons z Y z F6.nil)))))<|To (O.box z z z λaD=>An z<|Sm z<|bE H λZ r H=>?_)
 rcases Z with aE | aa
 rotate_left
 ·refine To (O.C7j z (B3Q _ (r1:=(R3.mk n b c (0:Int) o)) d.u a.u p r _) (λ_ _ _ q=>q) λaG aI=>Fr_ 1 z<|T.lvR (B6h (x_:=aa) (H:=z) _) λaJ aK aM ab=>P8 _ ab ?_)
  cases H
  exact T.A1q (L':=L) results33 (RVs.cons (RV.cell D7 z (j:=0) z z) (RVs.cons (RV.cell P5 z (j:=1) z z) RVs.nil)) Li (λ_ iv=>iv.drop.drop) ⟨z,z⟩
 refine To (O.G5 z (FnE.toS (B3Q _ (r1:=(R3.mk n b c (0:Int) o)) d.u a.u p r _) λ_ _ _ q=>q) z λaN aO aP aS ac=>?_)
 obtain ⟨aU,aV,rfl,ad,aW⟩:=ac
 refine P8 _ ad<|Nt<|Sq<|Sm z<|NF z A0e<|Vv (V.ldO (k:=3) D7 z (j:=0) z z)<|Mv z<|Vv (V.Q3 A3l z a)<|Wl z z<|Nt<|T.cH H z dead λH=>Ks<|Sq<|T.norm [6,7] z<|T.fl ?_
 refine Rg<|To (O.stF (vs:=[qi 0]) D7 z z (j:=3) z z z z<|T.fl ?_)
 refine To (O.stF (vs:=[qi 0]) P5 z z (j:=3) z z z z<|T.fl ?_)
 refine Nr<|T.D3V<|T.lvQ (B5f _) λaX aY aZ ae=>P8 _ ae<|T.fs [2] ?_
 refine T.drop<|T.fs [2] ?_
 refine T.drop<|Fr_ 1 z ?_
 cases H
 exact T.A1q (L':=L) results33 (RVs.cons (RV.cell D7 z (j:=0) z z) (RVs.cons (RV.cell P5 z (j:=1) z z) RVs.nil)) Li (λ_ iv=>iv.drop.drop) ⟨z,z⟩
theorem B3i {h p q r s w} (E:N8 h p q) (H:B2N q=some (r,s,w)):∀ L,FnW prog 7 [.agg p.toArray] h L (.tuple #[.int .i64 r,.int .i64 s,.int .i64 w]):=by
 intro L
 obtain ⟨G,I,J,K,M,rfl,N,P,U,W,X⟩:=E
 refine J2.B3w func7 z ntmps7 z<|Sr<|To (O.U4 z z z λaX aY aZ Y=>To (O.alloc J7 z z λc=>To (O.alloc J7 z z λd=>An z<|Sr<|Vv (V.ldS z Y (by exact J9)) ?_)))
 refine bE H λ⟨a0,a1⟩ Z H=>To (O.G5 z (A2c ⟨G,I,J,K,M,z,N.u,P.u,U.u,W.u,X.u⟩ Z _) z λa2 a3 a4 a5 aa=>?_)
 obtain ⟨ab,rfl,ac,e⟩:=aa
 refine P8 _ ac<|Mv z<|Wx z z<|Wx z z<|To (O.alloc A9g z z λa6=>To (O.stF (vs:=[ab]) Q7 z z (j:=0) z (OPt.cells e) (by (simp only [BT,OPt.one e]) <;> rfl) z ?_))
 refine T.fl ?_
 refine T.freeze λa7 a8 ad=>have f:=Z8.of ad; An z<|Sq<|Sm z<|Wn z z<|Nt<|T.cH H z (λH=>?_) λH=>?_
 ·refine Sm z<|To (O.stF (vs:=[qi 0]) D7 z z (j:=1) z z z z<|To (O.stF (vs:=[qi 0]) D7 z z (j:=1) z z z z<|Ag z<|Nr<|Tr<|Fr_ 1 z<|T.A4u ?_))
  cases H
  exact T.A1q (L':=L) results7 (RVs.cons (RV.cell D7 z (j:=0) z z) (RVs.cons (RV.cell D7 z (j:=1) z z) (Rv z))) Li (λ_ iv=>iv.drop.drop) ⟨z,z⟩
 refine Ks<|Sq<|Sq<|T.N7 (t:=(.v 0 (.v 1 (.alt 2 (.alt 3 .done .no) .no)))) 5 0 0 z z H9 (by kernel_rfl) ?_
 refine Tv z (V.R5 Q7 z f z)<|Tv z (V.R5 Q7 z f z)<|bE H λae af H=>have g:=OPt.get e af; bE H λa9 ag H=>Tp z z (X2 z z) (O.G5 z (A2S g.u ag _) z λah al av az ai=>?_) T.P6
 obtain ⟨ba,aj,ak⟩:=ai
 refine P8 _ aj<|T.K3 λbb bc am=>have an:=A7.slc am ak.u; bE H λy ao H=>Tp z z (SX.two (XA.fr [] Li z) (XA.fr [] Li z)) (O.G5 z (A3S g.u an ao _) z λbd k be bf ap=>?_) T.P6
 obtain ⟨bg,A,bi,B,rfl,aq,ar,au,aw,ax⟩:=ap
 refine P8 _ aq<|T.O6 (SX.two (XA.fr [] Li z) (XA.fr [] Li z))<|Th<|Bl ?_
 obtain ⟨bj,ay,aA⟩:=J6 H
 refine T.B6M (S:=(Int×Int)) (O:=Unit) (La0:=[blk d (.cells [qi 0].toArray 3),blk c (.cells [qi 0].toArray 3)]) (Lr:=L) (λ⟨b,a⟩ hh aB=>aB=([blk d (.cells [qi a].toArray 3),blk c (.cells [qi b].toArray 3)]:List E5)) (λ_ _ _ _=>False) z z z (λR_ y_=>A8F R_ k y_ (B3q ae)) (λbk=>⟨⟨z,z⟩,RYs.mono (λ⟨b,a⟩ _ _ _ l_ e_=>e_) (λ_ _ _ _ _ _ q_=>q_),?_⟩) (λ_ La_ aC aD aE=>J2.perm (List.Perm.refl _) (A2b aC aD ar (show (VPt R6) k [A] y.1 from ⟨A,z,au⟩) aw (show (VSl (VI .i64) 1) k [B] y.2 from ⟨B,z,ax⟩) ay [] aE) λ_ _ _ ⟨La_,_,e_,q_⟩=>⟨_,List.Perm.refl _,La_,e_,q_⟩) ?_ ?_
 ·intro bm bn bo C bp m aG bq br bs aI H As_ L_
  rcases aG with ⟨b,a⟩ | _
  rotate_left
  ·exact dead H
  obtain ⟨bt,_,rfl,n,aJ,bu,rfl⟩:=aI
  refine Yld.B8g λL=>Yld.B6D (j:=0) z n z<|T.fl ?_
  refine Rg<|An z<|T.begin (j:=0) z aJ<|T.fl ?_
  refine Bl<|Sr<|Vv (V.A9y D7 z (j:=2) z z)<|bE H λo aK H=>Vv (V.H5 z z aK)<|To (O.stF (vs:=[qi o]) D7 z z (j:=2) z z z z<|T.fl ?_)
  refine Nt<|Sr<|Vv (V.R5 Q7 z f.u z)<|Mv z<|T.fs [3] ?_
  refine bE H λaM aN H=>To (O.G5 z (J2.A6F (val:=.bool aM) func30 z A1C λbw bx aO=>?_) z λbA bB bC bD aP=>?_)
  ·have aS:=A7.slc aO m.u
   exact A7d g.u aS aN _
  obtain ⟨rfl,aU⟩:=aP
  refine P8 _ aU<|Nt<|T.cH H z (λH=>?_) λH=>?_
  ·refine Rg<|Vv (V.A9y D7 z (j:=3) z z)<|bE H λD aV H=>Vv (V.H5 z z aV)<|To (O.stF (vs:=[qi D]) D7 z z (j:=3) z z z z<|T.fl ?_)
   refine Ni<|Bn<|T.fs [1,2,2,3] ?_
   cases H
   exact T.B9G (j:=0) z Li ⟨_::[blk d (.cells [qi D].toArray 3),blk c (.cells [qi o].toArray 3)],C,z,z,⟨_,_,z,n.turn .ready none,z,z,z⟩,m.u⟩
  refine T.skip<|Bn<|T.fs [1,3,3] ?_
  cases H
  exact T.B9G (j:=0) z Li ⟨_::[blk d (.cells [qi a].toArray 3),blk c (.cells [qi o].toArray 3)],C,z,z,⟨_,_,z,n.turn .ready none,z,z,z⟩,m.u⟩
 ·rintro bG bI _ ⟨b,a⟩ bJ aW rfl
  have H:=I4 aW aA
  refine T.fl ?_
  refine Bn<|Th<|Sq<|T.fs [2,2] ?_
  refine T.N7 (t:=(.x 0 (.alt 1 (.alt 2 (.alt 3 (.alt 4 .done .no) .no) .no) (.alt 2 (.alt 1 (.alt 3 (.alt 4 .done .no) .no) .no) .no)))) 2 2 0 z z H9 (by kernel_rfl) ?_
  refine T.tx z z (Val.XA λ_ _ _=>V.A9y D7 z (j:=1) z z) z Calm.i<|T.C3b ?_ ?_
  ·refine Ts z z (X3 [] [1,1] z z) (V.A9y D7 z (j:=0) z z) z ?_ T.P6
   refine Tp z z (X3 [] [1,1] z z) (O.stF (vs:=[qi b]) D7 z z (j:=1) z z z z ?_) T.P6
   refine T.fl ?_
   refine Tp z z (SX.one (XA.fr [] Lr z) z) (O.stF (vs:=[qi a]) D7 z z (j:=1) z z z z ?_) T.P6
   refine T.fl ?_
   refine Ts z z (SX.one (XA.fr [] Lr z) z) (V.asg z) z ?_ T.P6
   refine T.O6 (SX.one (XA.fr [] Lr z) z)<|Th<|T.ret<|T.fs [1,2] ?_
   refine T.A4u<|T.A8W (j:=0) z<|T.fl ?_
   cases H
   exact T.A1q (L':=L) results7 (RVs.cons (RV.cell D7 z (j:=0) z z) (RVs.cons (RV.cell D7 z (j:=1) z z) (Rv z))) Li (λ_ iv=>iv.drop.drop) ⟨z,z⟩
  refine Tp z z (X3 [] [1,1] z z) (O.stF (vs:=[qi b]) D7 z z (j:=1) z z z z ?_) T.P6
  refine T.fl ?_
  refine Ts z z (SX.one (XA.fr [] Lr z) z) (V.A9y D7 z (j:=1) z z) z ?_ T.P6
  refine Tp z z (SX.one (XA.fr [] Lr z) z) (O.stF (vs:=[qi a]) D7 z z (j:=1) z z z z ?_) T.P6
  refine T.fl ?_
  refine Ts z z (SX.one (XA.fr [] Lr z) z) (V.asg z) z ?_ T.P6
  refine T.O6 (SX.one (XA.fr [] Lr z) z)<|Th<|T.ret<|T.fs [1,2] ?_
  refine T.A4u<|T.A8W (j:=0) z<|T.fl ?_
  cases H
  exact T.A1q (L':=L) results7 (RVs.cons (RV.cell D7 z (j:=0) z z) (RVs.cons (RV.cell D7 z (j:=1) z z) (Rv z))) Li (λ_ iv=>iv.drop.drop) ⟨z,z⟩
 rintro _ _ _ _ _ _ _ ⟨⟩
end Go.Proofs.X
open Go Go.Proofs Go.Proofs.Tryz Go.Sl Go.Dm
namespace Go.Proofs.X
theorem A6S:A5p prog 45=some ([.slice none 0 0,.int .i64 (0)],[(0,1),(1,1)]):=by kernel_rfl
theorem A7a:A0E prog 45=true:=by kernel_rfl
theorem B3O:O8 prog 45 1=some 1:=by kernel_rfl
theorem A0J:U7 prog 45=some (true,2):=by kernel_rfl
theorem B2i:zer prog 45=some (.agg #[.slice none 0 0,.int .i64 (0)]):=by kernel_rfl
theorem C1u {h D E w G} (W:N8 h D E) (H:B8R E=some (w,G)):∀ L,J2 prog 11 [.agg D.toArray] h (L) (λv h' L'=>∃ v0_1,v=.tuple #[.agg #[v0_1,.int .i64 w.A3e],.int .i64 G]∧L'=L∧G6 (VI .i64) 1 h' v0_1 w.D0m):=by
 intro L
 obtain ⟨X,Y,Z,aa,ab,rfl,ac,ad,ae,af,ag⟩:=W
 refine J2.B3w func11 z ntmps11 z<|Sr<|To (O.U4 z z z λbo bp bq ai=>To (O.alloc B2i z z λd=>An z<|Sr<|Vv (V.ldS z ai (by exact J9)) ?_))
 refine bE H λ⟨br,bs⟩ aj H=>To (O.G5 z (A2c ⟨X,Y,Z,aa,ab,z,ac.u,ad.u,ae.u,af.u,ag.u⟩ aj _) z λbt bu bw bx ak=>?_)
 obtain ⟨am,rfl,an,x⟩:=ak
 refine P8 _ an<|Mv z<|Wx z z<|Wx z z<|To (O.alloc A9g z z λbA=>To (O.stF (vs:=[am]) Q7 z z (j:=0) z (OPt.cells x) (by (simp only [BT,OPt.one x]) <;> rfl) z ?_))
 refine T.freeze λbB bC ao=>have y:=Z8.of ao; An z<|Sq<|Sm z<|Wn z z<|Nt<|T.cH H z (λH=>?_) λH=>?_
 ·refine Sr<|Vv (V.bld (xs:=[]) (cs:=[_,_]) A6S A7a z F6.nil)<|Mv z<|To (O.stF (vs:=[qs,qi 0]) A0J z z (j:=0) z z z z<|Ag z<|Nr<|Tr<|T.A4u ?_)
  cases H
  exact T.A1q (L':=L) results11 (RVs.cons (RV.cellS z (j:=0) z A0J) (Rv z)) Li (λ_ iv=>iv.drop) ⟨_,z,z,G6.nil⟩
 refine Ks<|Sr<|Vv (V.bld (xs:=[]) (cs:=[_,_]) A6S A7a z F6.nil)<|To (O.alloc B2i z z λe=>To (O.alloc A6p z z λf=>To (O.stF (vs:=[qs,qi 0]) A0J z z (j:=1) z z z z<|T.fl ?_)))
 refine To (O.stF (vs:=[.bool false]) U6 z z (j:=1) z z z z<|T.fl ?_)
 refine Nt<|Sq<|Sq<|T.N7 (t:=(.v 0 (.v 1 (.alt 2 (.alt 3 .done .no) .no)))) 5 0 0 z z H9 (by kernel_rfl) ?_
 refine Tv z (V.R5 Q7 z y z)<|Tv z (V.R5 Q7 z y z)<|bE H λap aq H=>have A:=OPt.get x aq; bE H λbD ar H=>Tp z z (X2 z z) (O.G5 z (A2S A.u ar _) z λbG bI bJ bK au=>?_) T.P6
 obtain ⟨bM,aw,ax⟩:=au
 refine P8 _ aw<|T.K3 λbN bO ay=>have aA:=A7.slc ay ax.u; bE H λI aB H=>Tp z z (SX.two (XA.fr [] Li z) (XA.fr [] Li z)) (O.G5 z (A3S A.u aA aB _) z λbP o bS bU aC=>?_) T.P6
 obtain ⟨bV,J,bW,K,rfl,aD,aE,aG,aI,aJ⟩:=aC
 refine P8 _ aD<|T.O6 (SX.two (XA.fr [] Li z) (XA.fr [] Li z))<|Th<|Bl ?_
 obtain ⟨bX,aK,aM⟩:=J6 H
 refine T.Q8 3 1<|have aN:A7 (VI .i64) o [] ([]:List Int):=A7.nil; T.fs [3,3,3] ?_
 refine T.B6M (S:=((List Int)×Int×Bool)) (O:=Unit) (La0:=[blk f (.cells [.bool false].toArray 4),blk e (.cells [(qs),qi 0].toArray 45),blk d (.cells [qs,qi 0].toArray 45),F3 3 1 (qs) []]) (Lr:=L) (λ⟨p,c,g⟩ hh aO=>∃ a:Value,∃ b:List (List Value),aO=([blk f (.cells [.bool g].toArray 4),blk e (.cells [a,qi c].toArray 45),blk d (.cells [qs,qi 0].toArray 45),F3 3 1 a b]:List E5)∧A7 (VI .i64) hh b p) (λ_ _ _ _=>False) z z ⟨(qs),[],z,aN⟩ (λR_ y_=>A8F R_ o y_ (B3z ap)) (λM=>⟨⟨z,z⟩,RYs.mono (λ⟨p,c,g⟩ _ _ _ l_ ⟨a,b,e_,f0_⟩=>⟨a,b,e_,A7.mono VI.mono f0_ l_⟩) (λ_ _ _ _ _ _ q_=>q_),?_⟩) (λ_ La_ aP aS aU=>J2.perm (List.Perm.refl _) (A2b aP aS aE (show (VPt R6) o [J] I.1 from ⟨J,z,aG⟩) aI (show (VSl (VI .i64) 1) o [K] I.2 from ⟨K,z,aJ⟩) aK [] aU) λ_ _ _ ⟨La_,_,e_,q_⟩=>⟨_,List.Perm.refl _,La_,e_,q_⟩) ?_ ?_
 ·intro bY bZ b0 B b1 i aV b2 b3 b4 aW H As_ L_
  rcases aV with ⟨p,c,g⟩ | _
  rotate_left
  ·exact dead H
  obtain ⟨N,_,rfl,q,aX,b5,a,b,rfl,C⟩:=aW
  refine Yld.B8g λL=>Yld.B6D (j:=0) z q z<|T.fl ?_
  refine Rg<|An z<|T.begin (j:=0) z aX<|T.fl ?_
  refine Bl<|Sr<|Vv (V.R5 Q7 z y.u z)<|have aY:=A; ?_
  obtain ⟨b6,_,rfl,aZ,⟨b7,b8,b9,bh,bl,bv,bz,ca,cb,rfl,a0,cc,cd,ce,cf,cg,ci,cj,ck⟩⟩:=aY
  refine NL z A6y I8 aZ.u z<|Mv z<|T.fs [5] ?_
  refine bE H λm a1 H=>To (O.G5 z (J2.A6F (val:=qi m) func40 z A1C λcm cn a2=>?_) z λco cp cq cr a3=>?_)
  ·have a4:=A7.slc a2 i.u
   exact B5k a0.u a4 a1 _
  obtain ⟨rfl,a5⟩:=a3
  refine P8 _ a5<|An z<|Sr<|Vv (V.A9y U6 z (j:=2) z z)<|Vv (V.not z)<|Mv z<|T.bH 33 H z (λH=>?_) λH=>?_
  ·refine S2<|S2<|Kt z<|Nt<|Ct z<|Rg<|Mv z<|bE H λa6 a7 H=>To (O.G5 z (J2.B0R (R:=λv h' L'=>∃ (n:List (List Value)),L'=F3 3 1 v n::blk M (.loop { N with state:=.busy })::blk f (.cells [.bool g].toArray 4)::blk e (.cells [a,qi c].toArray 45)::blk d (.cells [qs,qi 0].toArray 45)::F3 3 1 a b::L∧A7 (VI .i64) h' n a6) func41 z (λ_ _ _ _ ⟨e_0,l_,f_0⟩=>⟨e_0,l_,(A7.free VI.free f_0)⟩) A1C λct cu a8=>?_) z λr cw cx cy a9=>?_)
   ·have ah:=A7.slc a8 i.u
    exact A1h ah a7 _
   obtain ⟨_,rfl,⟨P,rfl,al⟩⟩:=a9
   refine T.fl ?_
   refine Mv z<|T.R8 1 z λcA av=>Vv (V.bld (xs:=[(0,.tmp 40),(1,.tmp 41)]) (cs:=[_,_]) A6S A7a z (F6.cons z av z (F6.cons z z z F6.nil)))<|T.R8 1 z λaz cB=>To (O.stF (vs:=[r,qi m]) A0J z z (j:=4) z z (by (simp only [BT,az]) <;> rfl) z ?_)
   refine T.fl ?_
   refine To (O.stF (vs:=[.bool true]) U6 z z (j:=4) z z z z<|T.fl ?_)
   refine Ni<|Bn<|T.fs [6] ?_
   refine T.drop<|T.fs [2,3,5,4,4,5] ?_
   cases H
   exact T.B9G (j:=0) z Li ⟨_::[blk f (.cells [.bool true].toArray 4),blk e (.cells [r,qi m].toArray 45),blk d (.cells [qs,qi 0].toArray 45),F3 3 1 r P],B,z,z,⟨_,_,z,q.turn .ready none,z,z,⟨r,P,z,al⟩⟩,i.u⟩
  refine Mv z<|Vv (V.fa B3O z)<|Vv (V.ldO (k:=1) D7 z (j:=3) z z)<|Wl z z<|Kf z<|Nt<|T.cH H z (λH=>?_) λH=>?_
  ·refine Rg<|Mv z<|bE H λba bb H=>To (O.G5 z (J2.B0R (R:=λv h' L'=>∃ (n:List (List Value)),L'=F3 3 1 v n::blk M (.loop { N with state:=.busy })::blk f (.cells [.bool g].toArray 4)::blk e (.cells [a,qi c].toArray 45)::blk d (.cells [qs,qi 0].toArray 45)::F3 3 1 a b::L∧A7 (VI .i64) h' n ba) func41 z (λ_ _ _ _ ⟨e_0,l_,f_0⟩=>⟨e_0,l_,(A7.free VI.free f_0)⟩) A1C λcC cD bc=>?_) z λs cE cG cI bd=>?_)
   ·have be:=A7.slc bc i.u
    exact A1h be bb _
   obtain ⟨_,rfl,⟨U,rfl,bf⟩⟩:=bd
   refine T.fl ?_
   refine Mv z<|T.R8 1 z λcJ bg=>Vv (V.bld (xs:=[(0,.tmp 40),(1,.tmp 41)]) (cs:=[_,_]) A6S A7a z (F6.cons z bg z (F6.cons z z z F6.nil)))<|T.R8 1 z λbi cK=>To (O.stF (vs:=[s,qi m]) A0J z z (j:=4) z z (by (simp only [BT,bi]) <;> rfl) z ?_)
   refine T.fl ?_
   refine To (O.stF (vs:=[.bool true]) U6 z z (j:=4) z z z z<|T.fl ?_)
   refine Ni<|Bn<|T.fs [6] ?_
   refine T.drop<|T.fs [2,3,5,4,4,5] ?_
   cases H
   exact T.B9G (j:=0) z Li ⟨_::[blk f (.cells [.bool true].toArray 4),blk e (.cells [s,qi m].toArray 45),blk d (.cells [qs,qi 0].toArray 45),F3 3 1 s U],B,z,z,⟨_,_,z,q.turn .ready none,z,z,⟨s,U,z,bf⟩⟩,i.u⟩
  refine T.skip<|Bn<|T.fs [5,5,5,5,5] ?_
  cases H
  exact T.B9G (j:=0) z Li ⟨_::[blk f (.cells [.bool g].toArray 4),blk e (.cells [a,qi c].toArray 45),blk d (.cells [qs,qi 0].toArray 45),F3 3 1 a b],B,z,z,⟨_,_,z,q.turn .ready none,z,z,⟨a,b,z,C.u⟩⟩,i.u⟩
 ·rintro cM cN _ ⟨p,c,g⟩ cO bj ⟨a,b,rfl,C⟩
  have H:=I4 bj aM
  refine T.fl ?_
  refine Bn<|Th<|Sq<|Sr<|Vv (V.A9y U6 z (j:=1) z z)<|Vv (V.not z)<|Nt<|T.cH H z (λH=>?_) λH=>?_
  ·refine Sr<|Vv (V.bld (xs:=[]) (cs:=[_,_]) A6S A7a z F6.nil)<|To (O.stF (vs:=[qs,qi 0]) A0J z z (j:=3) z z z z<|T.fl ?_)
   refine Ag z<|Nr<|Tr<|T.fs [2] ?_
   refine T.drop<|T.fs [2] ?_
   refine T.drop<|T.fs [2] ?_
   refine T.drop<|Fr_ 1 z<|T.A4u<|T.A8W (j:=0) z<|T.fl ?_
   cases H
   exact T.A1q (L':=L) results11 (RVs.cons (RV.cellS z (j:=0) z A0J) (Rv z)) Li (λ_ iv=>iv.drop) ⟨_,z,z,G6.nil⟩
  refine Ks<|Sr<|Vv (V.A5C (j:=2) (by exact A0J) z z) ?_
  refine T.R8 4 z λbk cP=>To (O.stF (vs:=[a,qi c]) A0J z z (j:=3) z z (by (simp only [BT,bk]) <;> rfl) z ?_)
  refine T.fl ?_
  refine Ag z<|Nr<|T.fs [4] ?_
  refine T.K3 λcS cU bm=>have bn:=A7.slc bm C.u; T.fs [2] ?_
  refine T.drop<|T.fs [2] ?_
  refine T.drop<|Fr_ 1 z<|T.A4u<|T.A8W (j:=0) z<|T.fl ?_
  cases H
  exact T.A1q (L':=L) results11 (RVs.cons (RV.cellS z (j:=0) z A0J) (Rv z)) Li (λ_ iv=>iv.drop) ⟨_,z,z,bn⟩
 rintro _ _ _ _ _ _ _ ⟨⟩
theorem B5S {h E G r I J} (ab:N8 h E G) (H:B6l G r=some (I,J)):∀ L,J2 prog 35 [.agg E.toArray,.int .i64 r] h (L) (λv h' L'=>∃ K,v=.tuple #[K,.int .i64 J]∧L'=L∧G6 (VSl (VI .i64) 1) 1 h' K I):=by
 intro L
 obtain ⟨ac,ad,ae,af,ag,rfl,ai,aj,ak,am,an⟩:=ab
 refine J2.B3w func35 z ntmps35 z<|Sr<|To (O.U4 z z z λbp bq br ao=>To (O.U4 z z z λbt bu bw aq=>To (O.alloc A9I z z λg=>To (O.alloc A9u z z λk=>Nt<|Sr<|Vv (V.ldS z ao.u (by exact J9)) ?_))))
 refine bE H λ⟨bx,bA⟩ ar H=>To (O.G5 z (A2c ⟨ac,ad,ae,af,ag,z,ai.u,aj.u,ak.u,am.u,an.u⟩ ar _) z λbB bC bD bG au=>?_)
 obtain ⟨aw,rfl,ax,s⟩:=au
 refine P8 _ ax<|Mv z<|Wx z z<|Wx z z<|To (O.alloc A9g z z λbI=>To (O.stF (vs:=[aw]) Q7 z z (j:=0) z (OPt.cells s) (by (simp only [BT,OPt.one s]) <;> rfl) z ?_))
 refine T.fl ?_
 refine T.freeze λbJ bK ay=>have w:=Z8.of ay; An z<|Sq<|Sm z<|Wn z z<|Nt<|T.cH H z dead λH=>Ks<|Sr<|To (O.alloc A9I z z λm=>Nt<|Sq<|Sq<|T.N7 (t:=(.v 0 (.v 1 (.alt 2 (.alt 3 .done .no) .no)))) 5 0 0 z z H9 (by kernel_rfl) ?_)
 refine Tv z (V.R5 Q7 z w z)<|Tv z (V.R5 Q7 z w z)<|bE H λaA aB H=>have y:=OPt.get s aB; bE H λbM aC H=>Tp z z (X2 z z) (O.G5 z (A2S y.u aC _) z λbN bO bP bS aD=>?_) T.P6
 obtain ⟨bU,aE,aG⟩:=aD
 refine P8 _ aE<|T.K3 λbV bW aI=>have aJ:=A7.slc aI aG.u; bE H λM aK H=>Tp z z (SX.two (XA.fr [] Li z) (XA.fr [] Li z)) (O.G5 z (A3S y.u aJ aK _) z λbX p bY bZ aM=>?_) T.P6
 obtain ⟨b0,N,b1,P,rfl,aN,aO,aP,aS,aU⟩:=aM
 refine P8 _ aN<|T.O6 (SX.two (XA.fr [] Li z) (XA.fr [] Li z))<|Th<|Bl ?_
 obtain ⟨b2,aV,U⟩:=J6 H
 refine T.Q8 30 1<|have aW:A7 (VSl (VI .i64) 1) p [] ([]:List (List Int)):=A7.nil; T.fs [3,3,3] ?_
 refine T.B6M (S:=(Int×(List (List Int)))) (O:=(Int×(List (List Int)))) (La0:=[blk m (.cells [(qs)].toArray 84),blk k (.cells [qi 0].toArray 35),blk g (.cells [qs].toArray 84),F3 30 1 (qs) []]) (Lr:=L) (λ⟨c,d⟩ hh A=>∃ a:Value,∃ b:List (List Value),A=([blk m (.cells [a].toArray 84),blk k (.cells [qi c].toArray 35),blk g (.cells [qs].toArray 84),F3 30 1 a b]:List E5)∧A7 (VSl (VI .i64) 1) hh b d) (λ⟨c,d⟩ c_ hh A=>c_=(.ret:Code)∧∃ a:Value,∃ b:List (List Value),A=([blk m (.cells [a].toArray 84),blk k (.cells [qi c].toArray 35),blk g (.cells [qs].toArray 84),F3 30 1 a b]:List E5)∧A7 (VSl (VI .i64) 1) hh b d) z z ⟨(qs),[],z,aW⟩ (λR_ y_=>A8F R_ p y_ (B5j r aA)) (λaX=>⟨⟨z,z⟩,RYs.mono (λ⟨c,d⟩ _ _ _ l_ ⟨a,b,e_,f0_⟩=>⟨a,b,e_,A7.mono (VSl.mono VI.mono) f0_ l_⟩) (λ⟨c,d⟩ _ _ _ _ l_ ⟨c_,a,b,e_,f0_⟩=>⟨c_,a,b,e_,A7.mono (VSl.mono VI.mono) f0_ l_⟩),?_⟩) (λ_ La_ aY aZ a0=>J2.perm (List.Perm.refl _) (A2b aY aZ aO (show (VPt R6) p [N] M.1 from ⟨N,z,aP⟩) aS (show (VSl (VI .i64) 1) p [P] M.2 from ⟨P,z,aU⟩) aV [] a0) λ_ _ _ ⟨La_,_,e_,q_⟩=>⟨_,List.Perm.refl _,La_,e_,q_⟩) ?_ ?_
 ·intro b3 b4 b5 B b6 n a1 b7 b8 b9 a2 H As_ L_
  rcases a1 with ⟨c,d⟩ | _
  rotate_left
  ·exact dead H
  obtain ⟨a3,_,rfl,C,a4,bh,a,b,rfl,f⟩:=a2
  refine Yld.B8g λL=>Yld.B6D (j:=0) z C z<|T.fl ?_
  refine Rg<|An z<|T.begin (j:=0) z a4<|T.fl ?_
  refine Bl<|Sq<|Sr<|Vv (V.R5 Q7 z w.u z)<|Mv z<|T.fs [5] ?_
  refine bE H λa5 a6 H=>To (O.G5 z (J2.A6F (val:=.bool a5) func30 z A1C λbl bv a7=>?_) z λbz ca cb cc a8=>?_)
  ·have a9:=A7.slc a7 n.u
   exact A7d y.u a9 a6 _
  obtain ⟨rfl,ah⟩:=a8
  refine P8 _ ah<|Vv (V.not z)<|Nt<|T.cH H z (λH=>?_) λH=>?_
  ·refine T.exit<|Te<|Be<|T.fs [5,5,5,5,5] ?_
   cases H
   exact T.B9G (j:=0) z Li ⟨_::[blk m (.cells [a].toArray 84),blk k (.cells [qi c].toArray 35),blk g (.cells [qs].toArray 84),F3 30 1 a b],B,z,z,⟨_,_,z,C.turn .ready none,z,z,⟨a,b,z,f.u⟩⟩,n.u⟩
  refine Ks<|Sq<|Sr<|Vv (V.A9y U3 z (j:=2) z z)<|Vv (V.A4a K4 z (j:=5) z f.len)<|Vv (V.R5 D7 z aq.u z)<|Vv (V.ge z z)<|Nt<|T.cH H z (λH=>?_) λH=>?_
  ·refine Sr<|To (O.stF (vs:=[qs]) U3 z z (j:=4) z z z z<|T.fl ?_)
   refine To (O.stF (vs:=[qi 7]) P5 z z (j:=4) z z z z<|T.fl ?_)
   refine Nr<|Tr<|Br<|T.fs [2,5,3,3,5,5] ?_
   cases H
   exact T.D2X (j:=0) z Li ⟨_::[blk m (.cells [a].toArray 84),blk k (.cells [qi 7].toArray 35),blk g (.cells [qs].toArray 84),F3 30 1 a b],B,z,z,⟨_,_,_,z,z,z,⟨z,⟨a,b,z,f.u⟩⟩⟩,n.u⟩
  refine Ks<|T.fs [5,3,2] ?_
  refine T.N7 (t:=(.x 0 (.v 1 (.alt 2 (.alt 3 (.alt 4 (.alt 5 .done .no) .no) .no) .no)))) 4 3 1 z z H9 (by kernel_rfl) ?_
  refine T.tx z z (Val.XA λ_ _ _=>V.A9y U3 z (j:=1) z z) z Calm.i<|Tm z z<|bE H λW al H=>Tp z z (X3 [0] [2,2,2] z z) (O.G5 z (J2.B0R (R:=λv h' L'=>∃ (X:List (List Value)),L'=F3 3 1 v X::blk m (.cells [a].toArray 84)::F3 30 1 a b::blk aX (.loop { a3 with state:=.busy })::blk k (.cells [qi c].toArray 35)::blk g (.cells [qs].toArray 84)::L∧A7 (VI .i64) h' X W) func41 z (λ_ _ _ _ ⟨e_0,l_,f_0⟩=>⟨e_0,l_,(A7.free VI.free f_0)⟩) A1C λcd ce av=>?_) z λo cf cg ci az=>?_) T.P6
  ·have ba:=A7.slc av n.u
   exact A1h ba al _
  obtain ⟨_,rfl,⟨cj,rfl,bb⟩⟩:=az
  refine T.fl ?_
  refine T.fs [1] ?_
  refine T.K3 λY ck bc=>have Z:=A7.slc bc bb.u; Tp z z (SX.two (XA.fr [0] Li z) (XA.fr [2,2,2] Li z)) (O.bs K4 A1w z (e:=z) (hk:=z) (xs:=[.tmp 33]) (hv:=CO.eq (CO.cons (G6.cells Z) CO.nil)) (hw:=O4.of z) (hd:=z) λcm=>?_) T.P6
  have D:A7 (VSl (VI .i64) 1) Y [[o]] ([W]:List (List Int)):=(A7.cons ⟨o,z,Z⟩ A7.nil)
  refine bE H λbd aa H=>Tp z z (SX.two (XA.fr [1] Li z) (XA.fr [3,3,3] Li z)) (O.apX K4 K4 A1w z z z (j:=3) z (Src.row (j:=0) z) (O4.of z) (A7.ones VSl.plain D) f.u D aa z λq cn co=>?_) T.P6
  have be:A7 (VSl (VI .i64) 1) Y (b++[[o]]) bd:=A7.ap f.u D aa
  refine T.fl ?_
  refine T.fs [1] ?_
  refine T.drop<|T.R8 0 z λbf bg=>Tp z z (SX.one (XA.fr [1] Li z) z) (O.stF (vs:=[q]) U3 z z (j:=2) z bg (by (simp only [BT,bf]) <;> rfl) z ?_) T.P6
  refine T.fl ?_
  refine T.O6 (SX.one (XA.fr [2] Li z) z)<|Bn<|T.fs [2,2,5,5,4,5] ?_
  cases H
  exact T.B9G (j:=0) z Li ⟨_::[blk m (.cells [q].toArray 84),blk k (.cells [qi c].toArray 35),blk g (.cells [qs].toArray 84),F3 30 1 q (b++[[o]])],B,z,z,⟨_,_,z,C.turn .ready none,z,z,⟨q,(b++[[o]]),z,be⟩⟩,n.u⟩
 ·rintro cp cq _ ⟨c,d⟩ cr bi ⟨a,b,rfl,f⟩
  have H:=I4 bi U
  refine T.fl ?_
  refine Bn<|Th<|Sr<|Vv (V.A9y U3 z (j:=1) z z)<|T.R8 4 z λbj bk=>To (O.stF (vs:=[a]) U3 z z (j:=3) z bk (by (simp only [BT,bj]) <;> rfl) z ?_)
  refine T.fl ?_
  refine To (O.stF (vs:=[qi 0]) P5 z z (j:=3) z z z z<|T.fl ?_)
  refine Nr<|T.fs [4] ?_
  refine T.K3 λcs ct bm=>have bn:=A7.slc bm f.u; T.fs [3] ?_
  refine T.drop<|T.fs [1,2] ?_
  refine T.A4u<|T.A8W (j:=0) z<|T.fl ?_
  cases H
  exact T.A1q (L':=L) results35 (RVs.cons (RV.cell U3 z (j:=0) z z) (RVs.cons (RV.cell P5 z (j:=1) z z) RVs.nil)) Li (λ_ iv=>iv.drop.drop) ⟨_,z,z,bn⟩
 rintro cu cw _ ⟨c,d⟩ _ cx bo ⟨rfl,a,b,rfl,f⟩
 have H:=I4 bo U
 refine T.fl ?_
 refine T.ret<|Br<|Tr<|T.fs [1] ?_
 refine T.drop<|T.fs [3] ?_
 refine T.drop<|T.fs [1,2,2] ?_
 refine T.A4u<|T.A8W (j:=0) z<|T.fl ?_
 cases H
 exact T.A1q (L':=L) results35 (RVs.cons (RV.cell U3 z (j:=0) z z) (RVs.cons (RV.cell P5 z (j:=1) z z) RVs.nil)) Li (λ_ iv=>iv.drop.drop) ⟨_,z,z,G6.nil⟩
theorem A7z {h t w x p y A} (aj:N8 h t w) (e:G6 (VI .i64) 1 h x p) (H:A1c w p=some (y,A)):∀ L,J2 prog 15 [.agg t.toArray,x] h (L) (λv h' L'=>∃ B,v=.tuple #[B,.int .i64 A]∧L'=L∧G6 (VI .i64) 1 h' B y):=by
 intro L
 obtain ⟨C,D,E,G,I,rfl,J,K,M,N,P⟩:=aj
 refine J2.B3w func15 z ntmps15 z<|Sr<|To (O.U4 z z z λbO bP bS U=>To (O.alloc A1w z z λf=>To (O.alloc A9u z z λg=>Nt<|Sr<|Vv (V.ldS z U (by exact J9)) ?_)))
 refine bE H λ⟨bU,bV,ak⟩ am H=>To (O.G5 z (B0j ⟨C,D,E,G,I,z,J.u,K.u,M.u,N.u,P.u⟩ am _) z λbW bX bY bZ an=>?_)
 obtain ⟨b0,rfl,ao,ap⟩:=an
 refine P8 _ ao<|Mv z<|Wx z z<|Wx z z<|Wx z z<|Ag z<|Ag z<|An z<|Sq<|Sm z<|Wn z z<|Nt<|T.cH H z (λH=>?_) λH=>?_
 ·refine Sm z<|To (O.stF (vs:=[qs]) D9 z z (j:=1) z z z z<|To (O.stF (vs:=[qi ak]) P5 z z (j:=1) z z z z<|Nr<|Tr<|Fr_ 1 z<|T.A4u ?_))
  cases H
  exact T.A1q (L':=L) results15 (RVs.cons (RV.cell D9 z (j:=0) z z) (RVs.cons (RV.cell P5 z (j:=1) z z) RVs.nil)) Li (λ_ iv=>iv.drop.drop) ⟨_,z,z,G6.nil⟩
 refine Ks<|Sq<|Sr<|Vv (V.ldS z U.u (by exact J9)) ?_
 refine Mv z<|bE H λ⟨b1,aq⟩ ar H=>To (O.cs (B7o ⟨C,D,E,G,I,z,J.u,K.u,M.u,N.u,P.u⟩ e.u ar _) λb3 b5=>Mv z<|Wx z z<|Wx z z<|Ag z<|An z<|Sm z<|Wn z z<|Nt<|T.cH H z (λH=>?_) λH=>?_)
 ·refine Sm z<|To (O.stF (vs:=[qs]) D9 z z (j:=1) z z z z<|To (O.stF (vs:=[qi aq]) P5 z z (j:=1) z z z z<|Nr<|Tr<|Fr_ 1 z<|T.A4u ?_))
  cases H
  exact T.A1q (L':=L) results15 (RVs.cons (RV.cell D9 z (j:=0) z z) (RVs.cons (RV.cell P5 z (j:=1) z z) RVs.nil)) Li (λ_ iv=>iv.drop.drop) ⟨_,z,z,G6.nil⟩
 refine Ks<|Sr<|An z<|Sq<|Sm z<|Vv (V.Q3 A9 z e)<|Mv z<|Nt ?_
 obtain ⟨ax,ay,aA⟩:=J6 H
 have H:=ay
 refine Bl<|T.lk [1,4,5,6,33,34] (FUEL,(0:Int),(0:Int)) (λ⟨i,d,m⟩=>([(11,qi d),(35,qi m)],blk g (.cells [qi 0].toArray 35)::blk f (.cells [qs].toArray 30)::L,λhh=>iter (A2K p) i (d,m)=some ax)) H ?_
 rintro ⟨i,d,m⟩ b6 b7 aB
 obtain ⟨W,b8,rfl,H,q⟩:=G7 aB
 refine T.norm [11,35,1,4,5,6,33,34] z<|T.fl ?_
 refine Sr<|Wl z z<|Nt<|Sq<|T.cH H z (λH=>?_) λH=>?_
 ·refine Ks<|Sq<|Bl<|Sr<|bE H λb9 X H=>?_
  obtain ⟨bh,aC,rfl⟩:=G6.at e X
  refine Vv (V.ix A9 z z e (E8 X))<|Vv (V.R5 D7 z aC.u z)<|An z<|Sm z<|Vv (V.ge z z)<|Nt<|T.cH H z (λH=>?_) λH=>?_
  ·refine Rg<|Mv z<|bE H λaD aE H=>Vv (V.H5 z z aE)<|Ag z<|Ni<|Bn<|Th<|Rg<|bE H λaG aI H=>Vv (V.H5 z z aI)<|Mv z<|Nt<|T.ag (W,aD,aG) (D8 H q)
  refine T.skip<|Bn<|Th<|Rg<|bE H λaJ aK H=>Vv (V.H5 z z aK)<|Mv z<|Nt<|T.ag (W,d,aJ) (D8 H q)
 refine T.exit<|Te<|Te<|have H:=D6 H q; Be<|Th<|have H:=I4 H aA; Sq<|Sm z<|bE H λbl aM H=>have aN:=OPt.get ap aM; have aO:=aN; ?_
 obtain ⟨bv,_,rfl,Y,⟨aP,aS,aU,aV,aW,aX,aY,aZ,a0,rfl,a1,a2,a3,a4,a5,a6,Z,a7,a8⟩⟩:=aO
 refine NL z A0s D9 Y.u z<|Vv (V.Q3 A9 z Z)<|Mv z<|bE H λbz a9 H=>Vv (V.Z4 z z a9)<|Mv z<|Vv (V.Q3 A9 z e)<|Mv z<|bE H λca ah H=>Vv (V.Z4 z z ah)<|bE H λcb al H=>To (O.cs (B0t al _) λcd cf=>Wg z z<|Nt<|T.cH H z (λH=>?_) λH=>?_)
 ·refine Sr<|To (O.stF (vs:=[qs]) D9 z z (j:=1) z z z z<|To (O.stF (vs:=[qi 8]) P5 z z (j:=1) z z z z<|Nr<|Tr<|Fr_ 1 z<|T.A4u ?_))
  cases H
  exact T.A1q (L':=L) results15 (RVs.cons (RV.cell D9 z (j:=0) z z) (RVs.cons (RV.cell P5 z (j:=1) z z) RVs.nil)) Li (λ_ iv=>iv.drop.drop) ⟨_,z,z,G6.nil⟩
 refine Ks<|Sq<|Sm z<|Mv z<|bE H λaa ba H=>To (O.G5 z (A3S (Pt.mk Y.u ⟨aP,aS,aU,aV,aW,aX,aY,aZ,a0,z,a1.u,a2.u,a3.u,a4.u,a5.u,a6.u,Z.u,a7.u,a8.u⟩) e.u ba _) z λcg n ci cj bb=>?_)
 obtain ⟨ck,ab,cm,ac,rfl,bc,bd,be,bf,bg⟩:=bb
 refine P8 _ bc<|Nt<|Bl ?_
 obtain ⟨cn,bi,ad⟩:=J6 H
 refine T.Q8 3 1<|have bj:A7 (VI .i64) n [] ([]:List Int):=A7.nil; T.fs [2,2] ?_
 refine T.B6M (S:=(List Int)) (O:=(List Int)) (La0:=[blk g (.cells [qi 0].toArray 35),blk f (.cells [(qs)].toArray 30),F3 3 1 (qs) []]) (Lr:=L) (λc hh r=>∃ a:Value,∃ b:List (List Value),r=([blk g (.cells [qi 0].toArray 35),blk f (.cells [a].toArray 30),F3 3 1 a b]:List E5)∧A7 (VI .i64) hh b c) (λc c_ hh r=>c_=(.ret:Code)∧∃ a:Value,∃ b:List (List Value),r=([blk g (.cells [qi 0].toArray 35),blk f (.cells [a].toArray 30),F3 3 1 a b]:List E5)∧A7 (VI .i64) hh b c) z z ⟨(qs),[],z,bj⟩ (λR_ y_=>A8F R_ n y_ A4M) (λbk=>⟨⟨z,z⟩,RYs.mono (λc _ _ _ l_ ⟨a,b,e_,f0_⟩=>⟨a,b,e_,A7.mono VI.mono f0_ l_⟩) (λc _ _ _ _ l_ ⟨c_,a,b,e_,f0_⟩=>⟨c_,a,b,e_,A7.mono VI.mono f0_ l_⟩),?_⟩) (λ_ La_ bm bn bo=>J2.perm (List.Perm.refl _) (A2b bm bn bd (show (VPt R6) n [ab] aa.1 from ⟨ab,z,be⟩) bf (show (VSl (VI .i64) 1) n [ac] aa.2 from ⟨ac,z,bg⟩) bi [] bo) λ_ _ _ ⟨La_,_,e_,q_⟩=>⟨_,List.Perm.refl _,La_,e_,q_⟩) ?_ ?_
 ·intro co cp cq bp cr ae bq cs ct cu br H As_ L_
  rcases bq with c | _
  rotate_left
  ·exact dead H
  obtain ⟨bs,_,rfl,bt,bu,cw,a,b,rfl,s⟩:=br
  refine Yld.B8g λL=>Yld.B6D (j:=0) z bt z<|T.fl ?_
  refine Rg<|An z<|T.begin (j:=0) z bu<|T.fl ?_
  refine Bl<|Sm z<|T.fs [4] ?_
  refine bE H λbw bx H=>To (O.G5 z (J2.B0R (R:=λv h' L'=>∃ (af:List (List Value)),L'=F3 3 1 v af::blk bk (.loop { bs with state:=.busy })::blk g (.cells [qi 0].toArray 35)::blk f (.cells [a].toArray 30)::F3 3 1 a b::L∧A7 (VI .i64) h' af bw) func41 z (λ_ _ _ _ ⟨e_0,l_,f_0⟩=>⟨e_0,l_,(A7.free VI.free f_0)⟩) A1C λcx cy bA=>?_) z λo cA cB cC bB=>?_)
  ·have bC:=A7.slc bA ae.u
   exact A1h bC bx _
  obtain ⟨_,rfl,⟨ai,rfl,bD⟩⟩:=bB
  refine T.fl ?_
  refine T.R8 1 z λbG bI=>To (O.stF (vs:=[o]) D9 z z (j:=4) z bI (by (simp only [BT,bG]) <;> rfl) z ?_)
  refine T.fl ?_
  refine To (O.stF (vs:=[qi 0]) P5 z z (j:=4) z z z z<|T.fl ?_)
  refine Nr<|Br<|T.fs [5] ?_
  refine T.drop<|T.fs [2,3,3,3,4] ?_
  cases H
  exact T.D2X (j:=0) z Li ⟨_::[blk g (.cells [qi 0].toArray 35),blk f (.cells [o].toArray 30),F3 3 1 o ai],bp,z,z,⟨_,_,_,z,z,z,⟨z,⟨o,ai,z,bD⟩⟩⟩,ae.u⟩
 ·rintro cD cE _ c cG bJ ⟨a,b,rfl,s⟩
  have H:=I4 bJ ad
  refine T.fl ?_
  refine Bn<|Th<|Sr<|To (O.stF (vs:=[qs]) D9 z z (j:=2) z z z z<|T.fl ?_)
  refine To (O.stF (vs:=[qi 9]) P5 z z (j:=2) z z z z<|T.fl ?_)
  refine Nr<|T.fs [3] ?_
  refine T.drop<|T.fs [1,2] ?_
  refine T.A4u<|T.A8W (j:=0) z<|T.fl ?_
  cases H
  exact T.A1q (L':=L) results15 (RVs.cons (RV.cell D9 z (j:=0) z z) (RVs.cons (RV.cell P5 z (j:=1) z z) RVs.nil)) Li (λ_ iv=>iv.drop.drop) ⟨_,z,z,G6.nil⟩
 rintro cI cJ _ c _ cK bK ⟨rfl,a,b,rfl,s⟩
 have H:=I4 bK ad
 refine T.fl ?_
 refine T.ret<|Br<|Tr<|T.fs [3] ?_
 refine T.K3 λcM cN bM=>have bN:=A7.slc bM s.u; T.fs [1,2,2] ?_
 refine T.A4u<|T.A8W (j:=0) z<|T.fl ?_
 cases H
 exact T.A1q (L':=L) results15 (RVs.cons (RV.cell D9 z (j:=0) z z) (RVs.cons (RV.cell P5 z (j:=1) z z) RVs.nil)) Li (λ_ iv=>iv.drop.drop) ⟨_,z,z,bN⟩
end Go.Proofs.X
open Go Go.Proofs Go.Proofs.Tryz Go.Sl Go.Dm
namespace Go.Proofs.X
theorem B0b:O8 prog 88 0=some 0:=by kernel_rfl
theorem B3E:O8 prog 88 1=some 1:=by kernel_rfl
theorem B4c:O8 prog 88 2=some 2:=by kernel_rfl
theorem A5v:U7 prog 156=some (false,1):=by kernel_rfl
theorem C1S:zer prog 156=some (.map none):=by kernel_rfl
theorem A6Y:zer prog 88=some (.agg #[.int .i64 (0),.int .i64 (0),.int .i64 (0)]):=by kernel_rfl
theorem B7B {h a b c d e} (f:M4 h a b) (g:M4 h c d) (H:B0r b d=some e):∀ L,FnW prog 76 [.agg a.toArray,.agg c.toArray] h L (.int .i64 e):=by
 intro L
 obtain rfl:=f
 obtain rfl:=g
 refine J2.enter func76 z z z<|Sr<|To (O.U4 z z z λn o p i=>To (O.U4 z z z λq r s j=>An z<|Sr<|Vv (V.fa B0b z)<|Vv (V.M8 (k:=0) D7 z i.u z)<|Vv (V.fa B0b z)<|Vv (V.M8 (k:=0) D7 z j z)<|bE H λt m H=>Vv (V.Z4 z z m)<|Ag z<|Nr ?_))
 exact E1 H
theorem B9H {h Y Z D G} (ay:N8 h Y Z) (H:B7M Z=some (D,G)):∀ L,J2 prog 34 [.agg Y.toArray] h (L) (λv h' L'=>∃ aa ab,v=.tuple #[aa,.int .i64 G]∧L'=F3 88 3 aa ab::L∧A7 M4 h' ab D):=by
 intro L
 obtain ⟨aA,aB,aC,aD,aE,rfl,aG,aI,aJ,aK,aM⟩:=ay
 refine J2.B3w func34 z ntmps34 z<|Sr<|To (O.U4 z z z λcr ct cu aN=>Ag z<|An z<|Sr<|Vv (V.ldS z aN (by exact J9)) ?_)
 refine bE H λ⟨cw,cx⟩ aO H=>To (O.G5 z (A2c ⟨aA,aB,aC,aD,aE,z,aG.u,aI.u,aJ.u,aK.u,aM.u⟩ aO _) z λcy cA cB cC aP=>?_)
 obtain ⟨aS,rfl,aU,I⟩:=aP
 refine P8 _ aU<|Mv z<|Wx z z<|Wx z z<|To (O.alloc A9g z z λcD=>To (O.stF (vs:=[aS]) Q7 z z (j:=0) z (OPt.cells I) (by (simp only [BT,OPt.one I]) <;> rfl) z ?_))
 refine T.freeze λaV cE aW=>have x:=Z8.of aW; An z<|Sq<|Sm z<|Wn z z<|Nt<|T.cH H z dead λH=>Ks<|Sr<|To (O.mkM z λy=>have aX:X8 (Value.int .i64) true M4 aV 0 ([]:List MapEntry) ([]:List (Int×H8)):=trivial; To (O.alloc C1S z z λA=>To (O.stF (vs:=[.map (some y)]) A5v z z (j:=0) z z z z<|Nt<|Sq<|Sq<|T.N7 (t:=(.v 0 (.v 1 (.alt 2 (.alt 3 .done .no) .no)))) 5 0 0 z z H9 (by kernel_rfl) ?_)))
 refine Tv z (V.R5 Q7 z x z)<|Tv z (V.R5 Q7 z x z)<|bE H λaY aZ H=>have J:=OPt.get I aZ; bE H λcG a0 H=>Tp z z (X2 z z) (O.G5 z (A2S J.u a0 _) z λcI cJ cK cM a1=>?_) T.P6
 obtain ⟨cN,a2,a3⟩:=a1
 refine P8 _ a2<|T.K3 λcO cP a4=>have a5:=A7.slc a4 a3.u; bE H λac a6 H=>Tp z z (SX.two (XA.fr [] Li z) (XA.fr [] Li z)) (O.G5 z (A3S J.u a5 a6 _) z λcS K cU cV a7=>?_) T.P6
 obtain ⟨cW,ad,cX,ae,rfl,a8,a9,ah,al,av⟩:=a7
 refine P8 _ a8<|T.O6 (SX.two (XA.fr [] Li z) (XA.fr [] Li z))<|Th<|Bl ?_
 obtain ⟨cY,az,ba⟩:=J6 H
 refine T.B6M (S:=(List (Int×H8))) (O:=Unit) (La0:=[blk A (.cells [.map (some y)].toArray 156),blk y (.map ([]:List MapEntry).toArray ([]:List MapEntry).length)]) (Lr:=L) (λw hh bb=>∃ a:Nat,∃ c:List MapEntry,bb=([blk A (.cells [.map (some a)].toArray 156),blk a (.map c.toArray c.length)]:List E5)∧X8 (Value.int .i64) true M4 hh 0 c w) (λ_ _ _ _=>False) z z ⟨y,([]:List MapEntry),z,aX.u⟩ (λR_ y_=>A8F R_ K y_ (B3k aY)) (λcZ=>⟨⟨z,z⟩,RYs.mono (λw _ _ _ l_ ⟨a,c,e_,f0_⟩=>⟨a,c,e_,X8.mono M4.mono l_ f0_⟩) (λ_ _ _ _ _ _ q_=>q_),?_⟩) (λ_ La_ bc bd be=>J2.perm (List.Perm.refl _) (A2b bc bd a9 (show (VPt R6) K [ad] ac.1 from ⟨ad,z,ah⟩) al (show (VSl (VI .i64) 1) K [ae] ac.2 from ⟨ae,z,av⟩) az [] be) λ_ _ _ ⟨La_,_,e_,q_⟩=>⟨_,List.Perm.refl _,La_,e_,q_⟩) ?_ ?_
 ·intro c0 c1 c2 af c3 B bf c4 c5 c6 bg H As_ L_
  rcases bf with w | _
  rotate_left
  ·exact dead H
  obtain ⟨c7,_,rfl,M,bi,c8,a,c,rfl,d⟩:=bg
  refine Yld.B8g λL=>Yld.B6D (j:=0) z M z<|T.fl ?_
  refine Rg<|An z<|T.begin (j:=0) z bi<|T.fl ?_
  refine Bl<|Sr<|Vv (V.R5 Q7 z x.u z)<|have bj:=J; ?_
  obtain ⟨c9,_,rfl,ag,⟨bk,bm,bn,bo,bp,bq,br,bt,bu,rfl,ai,bw,bx,bA,bB,bC,bD,bG,bI⟩⟩:=bj
  refine NL z A6y I8 ag.u z<|Mv z<|T.fs [3] ?_
  refine bE H λf bJ H=>To (O.G5 z (J2.A6F (val:=qi f) func40 z A1C λch cl bK=>?_) z λcv bM cz da bN=>?_)
  ·have bO:=A7.slc bK B.u
   exact B5k ai.u bO bJ _
  obtain ⟨rfl,bP⟩:=bN
  refine P8 _ bP<|An z<|Sr<|Vv (V.A9y A5v z (j:=2) z z)<|Mv z<|bE H λ⟨q,db⟩ bS H=>?_
  obtain ⟨_,bU,rfl⟩:=X8.lookO (r:=a) (zc:=[qi 0,qi 0,qi 0]) (agg:=true) underlying156 (A0z.int underlying3) A6Y (show M4 bM [qi 0,qi 0,qi 0] (H8.mk (0:Int) (0:Int) (0:Int)) from rfl) d.u bS
  refine Vv (V.D4i z z (j:=3) z bU)<|To (O.alloc A6Y z z λdc=>To (O.stF (vs:=[qi q.A3e,qi q.Y9,qi q.A2L]) A1K z z (j:=0) z z z z<|T.fl ?_))
  refine Nt<|Sm z<|Vv (V.fa B0b z)<|To (O.st (vs:=[qi f]) (k:=0) D7 z z (j:=0) z z z<|T.fl ?_)
  refine Nt<|Sr<|Vv (V.fa B4c z)<|Vv (V.ldO (k:=2) D7 z (j:=0) z z)<|bE H λm bV H=>Vv (V.H5 z z bV)<|Vv (V.fa B4c z)<|To (O.st (vs:=[qi m]) (k:=2) D7 z z (j:=0) z z z<|T.fl ?_)
  refine Nt<|Sq<|Sr<|Vv (V.R5 Q7 z x.u z)<|Mv z<|T.fs [1] ?_
  refine bE H λbW bX H=>To (O.G5 z (J2.A6F (val:=.bool bW) func30 z A1C λdd de bY=>?_) z λdf aj dg di bZ=>?_)
  ·have b0:=A7.slc bY B.u
   exact A7d (Pt.mk ag.u ⟨bk,bm,bn,bo,bp,bq,br,bt,bu,z,ai.u,bw.u,bx.u,bA.u,bB.u,bC.u,bD.u,bG.u,bI.u⟩) b0 bX _
  obtain ⟨rfl,b1⟩:=bZ
  refine P8 _ b1<|Nt<|T.cH H z (λH=>?_) λH=>?_
  ·refine Rg<|Vv (V.fa B3E z)<|Vv (V.ldO (k:=1) D7 z (j:=1) z z)<|bE H λC b2 H=>Vv (V.H5 z z b2)<|Vv (V.fa B3E z)<|To (O.st (vs:=[qi C]) (k:=1) D7 z z (j:=1) z z z<|T.fl ?_)
   refine Nt<|Rg<|Vv (V.A9y A5v z (j:=3) z z)<|Mv z<|Vv (V.A5C (j:=0) (by exact A1K) z z) ?_
   refine bE H λdj b3 H=>To (O.A9O (agg:=true) (E:=M4) (cs:=[qi f,qi C,qi m]) underlying156 (A0z.int underlying3) z z z (j:=4) z d.u (show M4 aj [qi f,qi C,qi m] (H8.mk f C m) from z) _ (.inl z) λN ak=>?_)
   rw [Option.some.inj b3] at ak
   refine T.fl ?_
   refine Ni<|Bn<|T.fs [1] ?_
   refine T.drop<|T.fs [1,1,3,3] ?_
   cases H
   exact T.B9G (j:=0) z Li ⟨_::[blk A (.cells [.map (some a)].toArray 156),blk a (.map N.toArray N.length)],af,z,z,⟨_,_,z,M.turn .ready none,z,z,⟨a,N,z,ak⟩⟩,B.u⟩
  refine Ks<|Rg<|Vv (V.A9y A5v z (j:=3) z z)<|Mv z<|Vv (V.A5C (j:=1) (by exact A1K) z z) ?_
  refine bE H λdk b4 H=>To (O.A9O (agg:=true) (E:=M4) (cs:=[qi f,qi q.Y9,qi m]) underlying156 (A0z.int underlying3) z z z (j:=4) z d.u (show M4 aj [qi f,qi q.Y9,qi m] (H8.mk f q.Y9 m) from z) _ (.inl z) λP am=>?_)
  rw [Option.some.inj b4] at am
  refine T.fl ?_
  refine Ni<|Bn<|T.fs [2] ?_
  refine T.drop<|T.fs [1,1,3,3] ?_
  cases H
  exact T.B9G (j:=0) z Li ⟨_::[blk A (.cells [.map (some a)].toArray 156),blk a (.map P.toArray P.length)],af,z,z,⟨_,_,z,M.turn .ready none,z,z,⟨a,P,z,am⟩⟩,B.u⟩
 ·rintro b5 b6 _ w dm b7 ⟨a,c,rfl,d⟩
  have H:=I4 b7 ba
  refine T.fl ?_
  refine Bn<|Th<|Sr<|An z<|Sq<|Sr<|Vv (V.A9y A5v z (j:=1) z z)<|To (O.range underlying156 z (j:=2) z z λb8=>Nt<|Bl<|T.Q8 88 3<|have b9:A7 M4 b6 [] ([]:List H8):=A7.nil; T.fs [3] ?_)
  refine T.drop<|T.fs [3,3,3] ?_
  have bh:=C6M H
  refine T.C2O (α:=(List (Int×H8))×(List H8)×(Array Nat)×Value×(List (List Value))) [53] z (λ⟨n,s,o,p,i⟩=>[(10,p)]) (λ⟨n,s,o,p,i⟩=>blk b8 (.mapIter (some a) c.length o c.length)::blk b5 (.deferred (some []))::blk a (.map c.toArray c.length)::F3 88 3 p i::L) (λ⟨n,s,o,p,i⟩ hh=>(∀ l_,l_.Perm n→Option.bind (A0h B3r s l_) B3b=some (D,G))∧Lf (Value.int .i64) true M4 hh c o n∧A7 M4 hh i s) (λ⟨n,s,o,p,i⟩=>n.length) (w,([]:List H8),#[],(qs),[]) ⟨z,trivial⟩ z ⟨bh,Lf.start d,b9⟩ ?_
  rintro ⟨n,s,o,p,i⟩ U dn ⟨an,ao,W⟩
  refine T.norm [10,53] z<|T.fl ?_
  refine Sr<|To (O.next z (j:=0) z (jm:=2) z (X8.hold (d.u (g:=U))) (Nat.le_refl _) z (λbl=>?_) (λdp aq=>?_))
  ·obtain rfl:=Lf.nil ao bl
   have H:=D0T (an [] (List.Perm.refl _))
   refine Wx z z<|Nt<|Sq<|Cf z<|T.exit<|Te<|Te<|Be<|Th<|Sm z<|T.fs [3] ?_
   refine bE H λdq bv H=>To (O.G5 z (B6O W (show B1b U (.func (.func 76) #[] #[]) B0r from ⟨⟨z,z⟩,.inr ⟨76,[],[],z,λdr ds dt du bz dw dx ca dy cb cc=>B7B bz ca cb cc⟩⟩) bv _) z λdA dB dC dD cd=>?_)
   obtain ⟨ce,rfl,cf,cg⟩:=cd
   refine P8 _ cf<|Nt<|Sm z<|Ag z<|Ag z<|Nr<|T.fs [1] ?_
   refine T.drop<|T.fs [2] ?_
   refine T.drop<|Fr_ 1 z<|T.A4u<|T.A8W (j:=0) z<|T.fl ?_
   cases H
   exact T.A1q (L':=F3 88 3 p ce::L) results34 (RVs.cons (RV.tmp z) (Rv z)) Li (λ_ iv=>iv) ⟨_,_,z,z,cg⟩
  obtain ⟨dE,b,dG,ci,cj,rfl,rfl,ar,ck⟩:=Lf.step ao aq (X8.born (d.u (g:=U))).2
  obtain ⟨dI,H,cm⟩:=D0K an ar
  refine T.fl ?_
  refine Wx z z<|Nt<|Sq<|Ct z<|Ks<|Bl<|Sr<|Vv (V.entry z (j:=0) z (jm:=2) z (List.mem_filter.1 aq).1 (X8.born d).2)<|Wx z z<|To (O.alloc A6Y z z λdJ=>To (O.stF (vs:=[qi b.A3e,qi b.Y9,qi b.A2L]) A1K z z (j:=0) z z z z<|T.fl ?_))
  refine T.freeze λau dK cn=>have co:=Z8.of cn; Nt<|Rg<|Mv z<|Vv (V.ldS z co (by exact A1K)) ?_
  refine To (O.bs A1G A6Y z (e:=z) (hk:=z) (xs:=[.tmp 59]) (hv:=CO.eq (CO.cons z CO.nil)) (hw:=O4.of z) (hd:=z) λdM=>have X:A7 M4 au [[qi b.A3e,qi b.Y9,qi b.A2L]] ([b]:List H8):=(A7.cons z A7.nil); bE H λaw ax H=>To (O.apX A1G A1G A6Y z z z (j:=4) z (Src.row (j:=0) z) (O4.of z) (A7.ones M4.plain X) W.u X ax z λcp dN dO=>have cq:A7 M4 au (i++[[qi b.A3e,qi b.Y9,qi b.A2L]]) aw:=A7.ap W.u X ax; T.fl ?_))
  refine T.fs [1] ?_
  refine T.drop<|Ag z<|Ni<|Bn<|Th<|T.fs [3,3,3] ?_
  cases H
  exact T.again (ci,dI,(o.push cj),cp,(i++[[qi b.A3e,qi b.Y9,qi b.A2L]])) Li (Perm.lt ar) ⟨cm,ck.u,cq⟩ (A7m.app ⟨z,trivial⟩ ⟨z,trivial⟩) z
 rintro _ _ _ _ _ _ _ ⟨⟩
end Go.Proofs.X
open Go Go.Proofs Go.Proofs.Tryz Go.Sl Go.Dm
namespace Go.Proofs.X
theorem B9l {h m n o p} (C:N8 h m n) (H:A9n n=some (o,p)):∀ L,J2 prog 17 [.agg m.toArray] h (L) (λv h' L'=>∃ q,v=.tuple #[q,.int .i64 p]∧L'=L∧G6 (VI .i64) 1 h' q o):=by
 intro L
 obtain ⟨D,E,G,I,J,rfl,K,M,N,P,U⟩:=C
 refine J2.B3w func17 z ntmps17 z<|Sr<|To (O.U4 z z z λa0 a1 a2 W=>To (O.alloc A1w z z λd=>To (O.alloc A9u z z λe=>Nt<|Sr<|Vv (V.ldS z W (by exact J9)) ?_)))
 refine bE H λ⟨a3,X⟩ Y H=>To (O.G5 z (A2c ⟨D,E,G,I,J,z,K.u,M.u,N.u,P.u,U.u⟩ Y _) z λa4 a5 a6 a7 Z=>?_)
 obtain ⟨a8,rfl,aa,ab⟩:=Z
 refine P8 _ aa<|Mv z<|Wx z z<|Wx z z<|Ag z<|An z<|Sq<|Sm z<|Wn z z<|Nt<|T.cH H z (λH=>?_) λH=>?_
 ·refine Sm z<|To (O.stF (vs:=[qs]) D9 z z (j:=1) z z z z<|To (O.stF (vs:=[qi X]) P5 z z (j:=1) z z z z<|Nr<|Tr<|Fr_ 1 z<|T.A4u ?_))
  cases H
  exact T.A1q (L':=L) results17 (RVs.cons (RV.cell D9 z (j:=0) z z) (RVs.cons (RV.cell P5 z (j:=1) z z) RVs.nil)) Li (λ_ iv=>iv.drop.drop) ⟨_,z,z,G6.nil⟩
 refine Ks<|Sq<|Sm z<|Mv z<|bE H λa9 ac H=>have r:=OPt.get ab ac; bE H λah ad H=>To (O.G5 z (A2S r ad _) z λal av az ba ae=>?_)
 obtain ⟨bb,af,ag⟩:=ae
 refine P8 _ af<|T.K3 λbc bd ai=>have aj:=A7.slc ai ag.u; bE H λs ak H=>To (O.G5 z (A3S r.u aj ak _) z λbe f bf bg am=>?_)
 obtain ⟨bi,t,bj,w,rfl,an,ao,ap,aq,ar⟩:=am
 refine P8 _ an<|Nt<|Bl ?_
 obtain ⟨bk,au,x⟩:=J6 H
 refine T.Q8 3 1<|have aw:A7 (VI .i64) f [] ([]:List Int):=A7.nil; T.fs [2,2] ?_
 refine T.B6M (S:=(List Int)) (O:=(List Int)) (La0:=[blk e (.cells [qi 0].toArray 35),blk d (.cells [(qs)].toArray 30),F3 3 1 (qs) []]) (Lr:=L) (λc hh i=>∃ a:Value,∃ b:List (List Value),i=([blk e (.cells [qi 0].toArray 35),blk d (.cells [a].toArray 30),F3 3 1 a b]:List E5)∧A7 (VI .i64) hh b c) (λc c_ hh i=>c_=(.ret:Code)∧∃ a:Value,∃ b:List (List Value),i=([blk e (.cells [qi 0].toArray 35),blk d (.cells [a].toArray 30),F3 3 1 a b]:List E5)∧A7 (VI .i64) hh b c) z z ⟨(qs),[],z,aw⟩ (λR_ y_=>A8F R_ f y_ A5Q) (λax=>⟨⟨z,z⟩,RYs.mono (λc _ _ _ l_ ⟨a,b,e_,f0_⟩=>⟨a,b,e_,A7.mono VI.mono f0_ l_⟩) (λc _ _ _ _ l_ ⟨c_,a,b,e_,f0_⟩=>⟨c_,a,b,e_,A7.mono VI.mono f0_ l_⟩),?_⟩) (λ_ La_ ay aA aB=>J2.perm (List.Perm.refl _) (A2b ay aA ao (show (VPt R6) f [t] s.1 from ⟨t,z,ap⟩) aq (show (VSl (VI .i64) 1) f [w] s.2 from ⟨w,z,ar⟩) au [] aB) λ_ _ _ ⟨La_,_,e_,q_⟩=>⟨_,List.Perm.refl _,La_,e_,q_⟩) ?_ ?_
 ·intro bm bn bo aC bp y aD bq br bs aE H As_ L_
  rcases aD with c | _
  rotate_left
  ·exact dead H
  obtain ⟨aG,_,rfl,aI,aJ,bt,a,b,rfl,k⟩:=aE
  refine Yld.B8g λL=>Yld.B6D (j:=0) z aI z<|T.fl ?_
  refine Rg<|An z<|T.begin (j:=0) z aJ<|T.fl ?_
  refine Bl<|Sm z<|T.fs [4] ?_
  refine bE H λaK aM H=>To (O.G5 z (J2.B0R (R:=λv h' L'=>∃ (A:List (List Value)),L'=F3 3 1 v A::blk ax (.loop { aG with state:=.busy })::blk e (.cells [qi 0].toArray 35)::blk d (.cells [a].toArray 30)::F3 3 1 a b::L∧A7 (VI .i64) h' A aK) func41 z (λ_ _ _ _ ⟨e_0,l_,f_0⟩=>⟨e_0,l_,(A7.free VI.free f_0)⟩) A1C λbu bw aN=>?_) z λg bx bA bB aO=>?_)
  ·have aP:=A7.slc aN y.u
   exact A1h aP aM _
  obtain ⟨_,rfl,⟨B,rfl,aS⟩⟩:=aO
  refine T.fl ?_
  refine T.R8 1 z λaU aV=>To (O.stF (vs:=[g]) D9 z z (j:=4) z aV (by (simp only [BT,aU]) <;> rfl) z ?_)
  refine T.fl ?_
  refine To (O.stF (vs:=[qi 0]) P5 z z (j:=4) z z z z<|T.fl ?_)
  refine Nr<|Br<|T.fs [5] ?_
  refine T.drop<|T.fs [2,3,3,3,4] ?_
  cases H
  exact T.D2X (j:=0) z Li ⟨_::[blk e (.cells [qi 0].toArray 35),blk d (.cells [g].toArray 30),F3 3 1 g B],aC,z,z,⟨_,_,_,z,z,z,⟨z,⟨g,B,z,aS⟩⟩⟩,y.u⟩
 ·rintro bC bD _ c bG aW ⟨a,b,rfl,k⟩
  have H:=I4 aW x
  refine T.fl ?_
  refine Bn<|Th<|Sr<|To (O.stF (vs:=[qs]) D9 z z (j:=2) z z z z<|T.fl ?_)
  refine To (O.stF (vs:=[qi 9]) P5 z z (j:=2) z z z z<|T.fl ?_)
  refine Nr<|T.fs [3] ?_
  refine T.drop<|T.fs [1,2] ?_
  refine T.A4u<|T.A8W (j:=0) z<|T.fl ?_
  cases H
  exact T.A1q (L':=L) results17 (RVs.cons (RV.cell D9 z (j:=0) z z) (RVs.cons (RV.cell P5 z (j:=1) z z) RVs.nil)) Li (λ_ iv=>iv.drop.drop) ⟨_,z,z,G6.nil⟩
 rintro bI bJ _ c _ bK aX ⟨rfl,a,b,rfl,k⟩
 have H:=I4 aX x
 refine T.fl ?_
 refine T.ret<|Br<|Tr<|T.fs [3] ?_
 refine T.K3 λbM bN aY=>have aZ:=A7.slc aY k.u; T.fs [1,2,2] ?_
 refine T.A4u<|T.A8W (j:=0) z<|T.fl ?_
 cases H
 exact T.A1q (L':=L) results17 (RVs.cons (RV.cell D9 z (j:=0) z z) (RVs.cons (RV.cell P5 z (j:=1) z z) RVs.nil)) Li (λ_ iv=>iv.drop.drop) ⟨_,z,z,aZ⟩
end Go.Proofs.X
open Go Go.Proofs Go.Proofs.Tryz Go.Sl Go.Dm
namespace Go.Proofs.X
theorem A6g:A5p prog 78=some ([.int .u8 (0),.int .i64 (0)],[(0,1),(1,1)]):=by kernel_rfl
theorem C3q:A5p prog 88=some ([.int .i64 (0),.int .i64 (0),.int .i64 (0)],[(0,1),(1,1),(2,1)]):=by kernel_rfl
theorem A6h:A0E prog 78=true:=by kernel_rfl
theorem C3g:A0E prog 88=true:=by kernel_rfl
theorem C5v:O8 prog 45 0=some 0:=by kernel_rfl
theorem C2X:D1F prog 88=some [(0,.i .i64),(1,.i .i64),(2,.i .i64)]:=by kernel_rfl
theorem A5O {h i d j e k} (c:G6 (VI .i64) 1 h i d) (f:G6 (VI .i64) 1 h j e) (H:A3j d e=some k):∀ L,FnW prog 19 [i,j] h L (.bool k):=by
 intro L
 refine J2.enter func19 z z z<|Sr<|An z<|Sq<|Sm z<|Vv (V.Q3 A9 z c)<|Mv z<|Vv (V.Q3 A9 z f)<|Wn z z<|Nt<|T.cH H z (λH=>?_) λH=>?_
 ·exact Sg z<|Nr<|Tr<|E1 H
 refine Ks<|Sq<|Sr<|An z ?_
 obtain ⟨p,q,m⟩:=J6 H
 have H:=q
 refine Bl<|T.lk [0,1] (FUEL,(0:Int)) (λ⟨a,b⟩=>([(5,qi b)],L,λhh=>iter (A5M d e) a b=some p)) H ?_
 rintro ⟨a,b⟩ B C r
 obtain ⟨s,D,rfl,H,g⟩:=G7 r
 refine T.norm [5,0,1] z<|T.fl ?_
 refine Sq<|Sm z<|Mv z<|Vv (V.Q3 A9 z c)<|Wl z z<|Nt<|T.cH H z (λH=>?_) λH=>?_
 ·refine Ks<|Sq<|Bl<|Sq<|T.N7 (t:=(.vs [0,1,2,3,4,5,6,7,8] .done)) 10 0 0 z z H9 (by kernel_rfl) ?_
  refine Tm z z<|Tm z z<|bE H λE n H=>?_
  obtain ⟨G,w,rfl⟩:=G6.at c n
  refine Tv z (V.ix A9 z z c (E8 n))<|Tv z (V.R5 D7 z w.u z)<|Tm z z<|Tm z z<|bE H λI o H=>?_
  obtain ⟨J,x,rfl⟩:=G6.at f o
  refine Tv z (V.ix A9 z z f (E8 o))<|Tv z (V.R5 D7 z x.u z)<|Tv z (V.ne z z)<|T.O6 (X2 z z)<|Th<|T.cH H z (λH=>?_) λH=>?_
  ·exact Sg z<|Nr<|Br<|Tr<|Tr<|have H:=D6 H g; Br<|Tr<|have H:=I4 H m; E1 H
  refine T.skip<|Bn<|Th<|Rg<|Mv z<|bE H λy A H=>Vv (V.H5 z z A)<|An z<|T.ag (s,y) (D8 H g)
 exact T.exit<|Te<|Te<|have H:=D6 H g; Be<|Th<|have H:=I4 H m; Sg z<|Nr<|E1 H
theorem B7S {h i d j e k} (c:G6 (VSl (VI .i64) 1) 1 h i d) (f:G6 (VSl (VI .i64) 1) 1 h j e) (H:B5v d e=some k):∀ L,FnW prog 36 [i,j] h L (.bool k):=by
 intro L
 refine J2.enter func36 z z z<|Sr<|An z<|Sq<|Sm z<|Vv (V.Q3 K4 z c)<|Mv z<|Vv (V.Q3 K4 z f)<|Wn z z<|Nt<|T.cH H z dead λH=>Ks<|Sq<|Sr<|An z ?_
 obtain ⟨p,q,r⟩:=J6 H
 have H:=q
 refine Bl<|T.lk [0,1] (FUEL,(0:Int)) (λ⟨a,b⟩=>([(5,qi b)],L,λhh=>iter (B1T d e) a b=some p)) H ?_
 rintro ⟨a,b⟩ J K s
 obtain ⟨w,M,rfl,H,m⟩:=G7 s
 refine T.norm [5,0,1] z<|T.fl ?_
 refine Sq<|Sm z<|Mv z<|Vv (V.Q3 K4 z c)<|Wl z z<|Nt<|T.cH H z (λH=>?_) λH=>?_
 ·refine Ks<|Sq<|Bl<|Sq<|T.N7 (t:=(.vs [0,1,2,3,4,5,6,7] (.alt 8 (.g (.v 9 .done)) .no))) 11 0 0 z z H9 (by kernel_rfl) ?_
  refine Tm z z<|Tm z z<|bE H λN n H=>?_
  obtain ⟨P,x,⟨S,rfl,y⟩⟩:=G6.at c n
  refine Tv z (V.ix K4 z z c (E8 n))<|Tv z (V.R5 D9 z x.u z)<|Tm z z<|Tm z z<|bE H λU o H=>?_
  obtain ⟨W,A,⟨X,rfl,B⟩⟩:=G6.at f o
  refine Tv z (V.ix K4 z z f (E8 o))<|Tv z (V.R5 D9 z A.u z)<|bE H λY C H=>Tp z z (X2 z z) (O.G5 z (A5O y.u B.u C _) z λZ aa ab ac D=>?_) T.P6
  obtain ⟨rfl,E⟩:=D
  refine P8 _ E<|T.O1 Li<|Tv z (V.not z)<|T.O6 (X2 z z)<|Th<|T.cH H z dead λH=>T.skip<|Bn<|Th<|Rg<|Mv z<|bE H λG I H=>Vv (V.H5 z z I)<|An z<|T.ag (w,G) (D8 H m)
 exact T.exit<|Te<|Te<|have H:=D6 H m; Be<|Th<|have H:=I4 H r; Sg z<|Nr<|E1 H
theorem B0h {h U} (H:A4d  = some U):∀ L,FnW prog 8 [] h L (.bool U):=by
 intro L
 refine J2.enter func8 z z z<|Sr<|An z<|Sr<|Vv (V.bld (xs:=[(0,.const (.int .u8 (1))),(2,.const (.string ⟨#[97,110,110,97]⟩)),(3,.const (.string ⟨#[98,111,114,105,115]⟩)),(5,.const (qi (2)))]) (cs:=[_,_,_,_,_,_]) C0M C0F z (F6.cons z z z (F6.cons z z z (F6.cons z z z (F6.cons z z z F6.nil)))))<|To (O.bs Z6 A2G z (e:=z) (hk:=z) (xs:=[.tmp 20]) (hv:=CO.eq (CO.cons z CO.nil)) (hw:=O4.of z) (hd:=z) λcD=>have ak:A7 I5 h [[.int .u8 1,qi 0,.string (⟨#[97,110,110,97]⟩:ByteArray),.string (⟨#[98,111,114,105,115]⟩:ByteArray),.string qe,qi 2]] ([(F4.mk (1:Int) (0:Int) (⟨#[97,110,110,97]⟩:ByteArray) (⟨#[98,111,114,105,115]⟩:ByteArray) qe (2:Int))]:List F4):=(A7.cons z A7.nil); T.K3 λcE cG am=>have an:=A7.slc am ak.u; bE H λcI ao H=>To (O.G5 z (A9T an ao _) z λcJ cK cM cN ap=>?_))
 obtain ⟨a,b,c,d,f,rfl,aq,i,m,n,o,p⟩:=ap
 refine P8 _ aq<|To (O.alloc A6Q z z λcO=>To (O.stF (vs:=[a,b,c,d,f]) J9 z z (j:=0) z z (by (simp only [BT,G6.one i,G6.one m,G6.one n,G6.one o,G6.one p]) <;> rfl) z ?_))
 refine T.freeze λcP cS ar=>have I:=Z8.of ar; Nt<|Sr<|Vv (V.ldS z I (by exact J9)) ?_
 refine bE H λ⟨cU,cV,cW⟩ au H=>To (O.cs (B3i ⟨a,b,c,d,f,z,i.u,m.u,n.u,o.u,p.u⟩ au _) λcY c0=>Mv z<|Wx z z<|Wx z z<|Wx z z<|Ag z<|Ag z<|An z<|Sr<|Vv (V.ldS z I.u (by exact J9)) ?_)
 refine bE H λ⟨c1,c2⟩ ay H=>To (O.cs (C1e ⟨a,b,c,d,f,z,i.u,m.u,n.u,o.u,p.u⟩ ay _) λaA c5=>Mv z<|Wx z z<|Wx z z<|Ag z<|An z<|Sr<|Vv (V.bld (xs:=[(0,.const (.int .u8 (1))),(1,.const (qi (0)))]) (cs:=[_,_]) A6g A6h z (F6.cons z z z (F6.cons z z z F6.nil)))<|Vv (V.bld (xs:=[(0,.const (.int .u8 (1))),(1,.const (qi (1)))]) (cs:=[_,_]) A6g A6h z (F6.cons z z z (F6.cons z z z F6.nil)))<|Vv (V.bld (xs:=[(0,.const (.int .u8 (2)))]) (cs:=[_,_]) A6g A6h z (F6.cons z z z F6.nil))<|Vv (V.bld (xs:=[(0,.const (.int .u8 (2)))]) (cs:=[_,_]) A6g A6h z (F6.cons z z z F6.nil))<|Vv (V.bld (xs:=[(0,.const (.int .u8 (2)))]) (cs:=[_,_]) A6g A6h z (F6.cons z z z F6.nil))<|Vv (V.bld (xs:=[(0,.const (.int .u8 (4))),(1,.const (qi (2)))]) (cs:=[_,_]) A6g A6h z (F6.cons z z z (F6.cons z z z F6.nil)))<|Vv (V.bld (xs:=[(0,.const (.int .u8 (4))),(1,.const (qi (4)))]) (cs:=[_,_]) A6g A6h z (F6.cons z z z (F6.cons z z z F6.nil)))<|Vv (V.bld (xs:=[(0,.const (.int .u8 (4))),(1,.const (qi (1)))]) (cs:=[_,_]) A6g A6h z (F6.cons z z z (F6.cons z z z F6.nil)))<|To (O.bs A3l B7G z (e:=z) (hk:=z) (xs:=[.tmp 34,.tmp 35,.tmp 36,.tmp 37,.tmp 38,.tmp 39,.tmp 40,.tmp 41]) (hv:=CO.eq (CO.cons z (CO.cons z (CO.cons z (CO.cons z (CO.cons z (CO.cons z (CO.cons z (CO.cons z CO.nil))))))))) (hw:=O4.of z) (hd:=z) λc6=>have q:A7 A3I aA [[.int .u8 1,qi 0],[.int .u8 1,qi 1],[.int .u8 2,qi 0],[.int .u8 2,qi 0],[.int .u8 2,qi 0],[.int .u8 4,qi 2],[.int .u8 4,qi 4],[.int .u8 4,qi 1]] ([(O3.mk (1:Int) (0:Int)),(O3.mk (1:Int) (1:Int)),(O3.mk (2:Int) (0:Int)),(O3.mk (2:Int) (0:Int)),(O3.mk (2:Int) (0:Int)),(O3.mk (4:Int) (2:Int)),(O3.mk (4:Int) (4:Int)),(O3.mk (4:Int) (1:Int))]:List O3):=(A7.cons z (A7.cons z (A7.cons z (A7.cons z (A7.cons z (A7.cons z (A7.cons z (A7.cons z A7.nil)))))))); An z<|Sq<|T.norm [1,2,3,4,5,6,7] z<|T.fl ?_))
 refine Rg<|Vv (V.ldS z I.u (by exact J9)) ?_
 refine Mv z<|bE H λ⟨aD,aE⟩ aG H=>To (O.G5 z (J2.A6F (val:=.tuple #[qi aD,qi aE]) func33 z A1C λc7 c8 aI=>?_) z λc9 ch cl cv aJ=>?_)
 ·have aK:=A7.slc aI q.u
  exact A7t ⟨a,b,c,d,f,z,i.u,m.u,n.u,o.u,p.u⟩ aK aG _
 obtain ⟨rfl,aM⟩:=aJ
 refine P8 _ aM<|Mv z<|Wx z z<|Wx z z<|Ag z<|An z<|Sq<|Sm z<|Mv z<|bE H λcz aN H=>Vv (V.H5 z z aN)<|Wn z z<|Mv z<|T.bH 53 H z dead λH=>Mv z<|Wn z z<|Kf z<|Mv z<|T.bH 57 H z dead λH=>Mv z<|Wn z z<|Kf z<|Mv z<|T.bH 61 H z dead λH=>Mv z<|Wn z z<|Kf z<|Mv z<|T.bH 65 H z dead λH=>Mv z<|Wn z z<|Kf z<|Mv z<|T.bH 69 H z dead λH=>Mv z<|Wn z z<|Kf z<|Nt<|T.cH H z dead λH=>Ks<|Sq<|T.norm [1,7] z<|T.fl ?_
 refine T.N7 (t:=(.vs [0,1,2] (.alt 3 (.g (.vs [4,5,6] (.alt 7 (.alt 8 .done .no) .no))) .no))) 10 1 1 z z H9 (by kernel_rfl) ?_
 refine Tv z (V.ldS z I.u (by exact J9)) ?_
 refine Tm z z<|bE H λda W H=>Tv z (Val.XA λ_ _ _=>V.C3T A3l z (j:=0) z q.len (.inl ⟨z,z⟩) (.inr ⟨_,_,z,z⟩) (A5a W))<|bE H λ⟨aO,aP⟩ aS H=>Tp z z (X3 [0] [0] z z) (O.G5 z (J2.A6F (val:=.tuple #[qi aO,qi aP]) func33 z A1C λdb dc aU=>?_) z λdd X de df aV=>?_) T.P6
 ·have aW:=A7.slc aU q.u
  have aX:=G6.D3x aW (A5a W)
  exact A7t ⟨a,b,c,d,f,z,i.u,m.u,n.u,o.u,p.u⟩ aX aS _
 obtain ⟨rfl,aY⟩:=aV
 refine P8 _ aY<|T.O1 Li<|Tm z z<|Tv z (V.ext z z)<|Tv z (V.ext z z)<|Ts z z (X3 [0] [0] z z) (V.asg z) z ?_ T.P6
 refine Ts z z (X3 [0] [0] z z) (V.asg z) z ?_ T.P6
 refine T.O6 (X3 [0] [0] z z)<|Th<|Sm z<|bE H λJ Y H=>?_
 obtain ⟨dg,aZ,rfl⟩:=A7.get q Y
 refine Vv (V.ixR A3l z z (j:=0) z (A7.bd q Y))<|Vv (V.fa Y0 z)<|bE H λa0 a1 H=>To (O.D2H (k:=1) D7 z z (j:=0) z z z z aZ<|have a2:A7 A3I X ([[.int .u8 1,qi 0],[.int .u8 1,qi 1],[.int .u8 2,qi 0],[.int .u8 2,qi 0],[.int .u8 2,qi 0],[.int .u8 4,qi 2],[.int .u8 4,qi 4],[.int .u8 4,qi 1]].set (5:Int).toNat (over [.int .u8 J.F9,qi J.fN] [qi 0] 1)) a0:=A7.set q.u (show A3I X (over [.int .u8 J.F9,qi J.fN] [qi 0] 1) (O3.mk J.F9 (0:Int)) from z) a1; Nt<|Sr<|Vv (V.ldS z I.u (by exact J9)) ?_)
 refine Mv z<|bE H λ⟨a3,a4⟩ a5 H=>To (O.G5 z (J2.A6F (val:=.tuple #[qi a3,qi a4]) func33 z A1C λdi dj a6=>?_) z λdk dm dn dp a7=>?_)
 ·have a8:=A7.slc a6 a2.u
  exact A7t ⟨a,b,c,d,f,z,i.u,m.u,n.u,o.u,p.u⟩ a8 a5 _
 obtain ⟨rfl,a9⟩:=a7
 refine P8 _ a9<|Mv z<|Wx z z<|Wx z z<|Ag z<|An z<|Sq<|Sm z<|Wn z z<|Mv z<|T.bH 91 H z dead λH=>Mv z<|Wn z z<|Kf z<|Mv z<|T.bH 95 H z dead λH=>Mv z<|Wn z z<|Kf z<|Mv z<|T.bH 99 H z dead λH=>Mv z<|Wn z z<|Kf z<|Nt<|T.cH H z dead λH=>Ks<|Sq<|T.norm [] z<|T.fl ?_
 refine Rg<|bE H λdq ah H=>To (O.G5 z (A9T G6.nil ah _) z λdr ds dt du al=>?_)
 obtain ⟨av,az,ba,bb,bc,rfl,be,bf,bg,bi,bj,bk⟩:=al
 refine P8 _ be<|bE H λ⟨dw,dx,dy⟩ bm H=>To (O.cs (B3i ⟨av,az,ba,bb,bc,z,bf,bg,bi,bj,bk⟩ bm _) λbn dC=>Mv z<|Wx z z<|Wx z z<|Wx z z<|Ag z<|Ag z<|An z<|Sq<|Sm z<|Wn z z<|Mv z<|T.bH 111 H z dead λH=>Mv z<|Wn z z<|Kf z<|Mv z<|T.bH 115 H z dead λH=>Mv z<|Wn z z<|Kf z<|Nt<|T.cH H z dead λH=>Ks<|Sr<|Vv (V.bld (xs:=[(0,.const (.int .u8 (3))),(2,.const (.string ⟨#[97,110,110,97]⟩)),(3,.const (.string ⟨#[98,111,114,105,115]⟩)),(1,.const (qi (5)))]) (cs:=[_,_,_,_,_,_]) C0M C0F z (F6.cons z z z (F6.cons z z z (F6.cons z z z (F6.cons z z z F6.nil)))))<|To (O.bs Z6 A2G z (e:=z) (hk:=z) (xs:=[.tmp 119]) (hv:=CO.eq (CO.cons z CO.nil)) (hw:=O4.of z) (hd:=z) λdD=>have bq:A7 I5 bn [[.int .u8 3,qi 5,.string (⟨#[97,110,110,97]⟩:ByteArray),.string (⟨#[98,111,114,105,115]⟩:ByteArray),.string qe,qi 0]] ([(F4.mk (3:Int) (5:Int) (⟨#[97,110,110,97]⟩:ByteArray) (⟨#[98,111,114,105,115]⟩:ByteArray) qe (0:Int))]:List F4):=(A7.cons z A7.nil); T.K3 λdE dG br=>have bt:=A7.slc br bq.u; bE H λdI bu H=>To (O.G5 z (A9T bt bu _) z λdJ dK dM dN bw=>?_)))
 obtain ⟨s,w,x,y,A,rfl,bx,B,C,D,E,G⟩:=bw
 refine P8 _ bx<|To (O.alloc A6Q z z λdO=>To (O.stF (vs:=[s,w,x,y,A]) J9 z z (j:=0) z z (by (simp only [BT,G6.one B,G6.one C,G6.one D,G6.one E,G6.one G]) <;> rfl) z ?_))
 refine T.freeze λdP dS bA=>have K:=Z8.of bA; Nt<|Sr<|Vv (V.ldS z K (by exact J9)) ?_
 refine bE H λ⟨dU,dV⟩ bB H=>To (O.G5 z (B9H ⟨s,w,x,y,A,z,B.u,C.u,D.u,E.u,G.u⟩ bB _) z λdW dX dY dZ bC=>?_)
 obtain ⟨d0,d1,rfl,bD,M⟩:=bC
 refine P8 _ bD<|Mv z<|Wx z z<|Wx z z<|Ag z<|An z<|Sq<|T.norm [4,12,13] z<|T.fl ?_
 refine Rg<|Vv (V.ldS z K.u (by exact J9)) ?_
 refine bE H λ⟨bG,d2⟩ bI H=>To (O.G5 z (C1u ⟨s,w,x,y,A,z,B.u,C.u,D.u,E.u,G.u⟩ bI _) z λd3 d4 d5 d6 bJ=>?_)
 obtain ⟨bK,rfl,bM,Z⟩:=bJ
 refine P8 _ bM<|Mv z<|Wx z z<|Wx z z<|To (O.alloc B2i z z λd7=>To (O.stF (vs:=[bK,qi bG.A3e]) A0J z z (j:=0) z z (by (simp only [BT,G6.one Z]) <;> rfl) z ?_))
 refine T.fl ?_
 refine T.freeze λd8 d9 bN=>have aa:=Z8.of bN; An z<|Sr<|Vv (V.ldS z K.u (by exact J9)) ?_
 refine bE H λ⟨dh,dl⟩ bO H=>To (O.G5 z (B5S ⟨s,w,x,y,A,z,B.u,C.u,D.u,E.u,G.u⟩ bO _) z λdv dz ea eb bP=>?_)
 obtain ⟨ec,rfl,bS,bU⟩:=bP
 refine P8 _ bS<|Mv z<|Wx z z<|Wx z z<|Ag z<|An z<|Sr<|Vv (V.ldS z K.u (by exact J9)) ?_
 refine bE H λ⟨ed,ee⟩ bV H=>To (O.G5 z (B5S ⟨s,w,x,y,A,z,B.u,C.u,D.u,E.u,G.u⟩ bV _) z λef bW eg ei bX=>?_)
 obtain ⟨ej,rfl,bY,ek⟩:=bX
 refine P8 _ bY<|Mv z<|Wx z z<|Wx z z<|Ag z<|An z<|Sr<|Vv (V.ldS z K.u (by exact J9)) ?_
 refine To (O.bs A9 J7 z (e:=z) (hk:=z) (xs:=[.const (qi (-1)),.const (qi (0)),.const (qi (-1))]) (hv:=CO.eq (CO.cons z (CO.cons z (CO.cons z CO.nil)))) (hw:=O4.of z) (hd:=z) λem=>have bZ:A7 (VI .i64) bW [[qi (-1)],[qi 0],[qi (-1)]] ([(-1:Int),(0:Int),(-1:Int)]:List Int):=(A7.cons z (A7.cons z (A7.cons z A7.nil))); T.K3 λen eo b0=>have b1:=A7.slc b0 bZ.u; bE H λ⟨ep,er⟩ b2 H=>To (O.G5 z (A7z ⟨s,w,x,y,A,z,B.u,C.u,D.u,E.u,G.u⟩ b1 b2 _) z λes b3 et eu b4=>?_))
 obtain ⟨ew,rfl,b5,b6⟩:=b4
 refine P8 _ b5<|Mv z<|Wx z z<|Wx z z<|Ag z<|An z<|Sm z<|Mv z<|bE H λex b7 H=>Vv (V.H5 z z b7)<|Mv z<|bE H λey b8 H=>Vv (V.H5 z z b8)<|Mv z<|bE H λeA b9 H=>Vv (V.H5 z z b9)<|We z z<|Mv z<|T.bH 156 H z (λH=>?_) λH=>?_
 ·refine Mv z<|We z z<|Kt z<|Mv z<|T.bH 160 H z (λH=>?_) λH=>?_
  ·refine Mv z<|Vv (V.A4a A1G z (j:=0) z M.len)<|We z z<|Kt z<|Mv z<|T.bH 165 H z (λH=>?_) λH=>?_
   ·refine Mv z<|bE H λN ab H=>?_
    obtain ⟨eB,bh,rfl⟩:=A7.get M ab
    refine Vv (V.ixR A1G z z (j:=0) z (A7.bd M ab))<|Vv (V.C8m z (j:=0) z bh A1K)<|Vv (V.bld (xs:=[(0,.const (qi (0))),(1,.const (qi (1))),(2,.const (qi (8)))]) (cs:=[_,_,_]) C3q C3g z (F6.cons z z z (F6.cons z z z (F6.cons z z z F6.nil))))<|Vv (V.D3J C2X z z (r:=(decide (N.A3e=(0:Int)) && (decide (N.Y9=(1:Int)) && (decide (N.A2L=(8:Int)) && true)))) z)<|Kt z<|Mv z<|T.bH 172 H z (λH=>?_) λH=>?_
    ·refine Mv z<|bE H λP ac H=>?_
     obtain ⟨eC,bl,rfl⟩:=A7.get M ac
     refine Vv (V.ixR A1G z z (j:=0) z (A7.bd M ac))<|Vv (V.C8m z (j:=0) z bl A1K)<|Vv (V.bld (xs:=[(0,.const (qi (5))),(1,.const (qi (2))),(2,.const (qi (16)))]) (cs:=[_,_,_]) C3q C3g z (F6.cons z z z (F6.cons z z z (F6.cons z z z F6.nil))))<|Vv (V.D3J C2X z z (r:=(decide (P.A3e=(5:Int)) && (decide (P.Y9=(2:Int)) && (decide (P.A2L=(16:Int)) && true)))) z)<|Kt z<|Mv z<|T.bH 179 H z (λH=>?_) λH=>?_
     ·refine Vv (V.fa B3O z)<|Vv (V.M8 (k:=1) D7 z aa.u z)<|We z z<|Kt z<|Mv z<|T.bH 184 H z (λH=>?_) λH=>?_
      ·refine Vv (V.fa C5v z)<|Vv (V.M8 (k:=0) D9 z aa.u z)<|To (O.bs A9 J7 z (e:=z) (hk:=z) (xs:=[.const (qi (0)),.const (qi (2)),.const (qi (1))]) (hv:=CO.eq (CO.cons z (CO.cons z (CO.cons z CO.nil)))) (hw:=O4.of z) (hd:=z) λeD=>have bv:A7 (VI .i64) b3 [[qi 0],[qi 2],[qi 1]] ([(0:Int),(2:Int),(1:Int)]:List Int):=(A7.cons z (A7.cons z (A7.cons z A7.nil))); T.K3 λeE eG bz=>have ca:=A7.slc bz bv.u; bE H λeI cb H=>To (O.cs (A5O Z.u ca cb _) λS eM=>Kt z<|Mv z<|T.bH 190 H z (λH=>?_) λH=>?_))
       ·refine Mv z<|To (O.bs A9 J7 z (e:=z) (hk:=z) (xs:=[.const (qi (0)),.const (qi (1)),.const (qi (2))]) (hv:=CO.eq (CO.cons z (CO.cons z (CO.cons z CO.nil)))) (hw:=O4.of z) (hd:=z) λad=>have ce:A7 (VI .i64) S [[qi 0],[qi 1],[qi 2]] ([(0:Int),(1:Int),(2:Int)]:List Int):=(A7.cons z (A7.cons z (A7.cons z A7.nil))); To (O.bs A9 J7 z (e:=z) (hk:=z) (xs:=[.const (qi (0)),.const (qi (1)),.const (qi (3))]) (hv:=CO.eq (CO.cons z (CO.cons z (CO.cons z CO.nil)))) (hw:=O4.of z) (hd:=z) λae=>have cf:A7 (VI .i64) S [[qi 0],[qi 1],[qi 3]] ([(0:Int),(1:Int),(3:Int)]:List Int):=(A7.cons z (A7.cons z (A7.cons z A7.nil))); To (O.bs A9 J7 z (e:=z) (hk:=z) (xs:=[.const (qi (0)),.const (qi (2)),.const (qi (1))]) (hv:=CO.eq (CO.cons z (CO.cons z (CO.cons z CO.nil)))) (hw:=O4.of z) (hd:=z) λaf=>have cg:A7 (VI .i64) S [[qi 0],[qi 2],[qi 1]] ([(0:Int),(2:Int),(1:Int)]:List Int):=(A7.cons z (A7.cons z (A7.cons z A7.nil))); T.fs [2] ?_)))
        refine T.K3 λeN eO ci=>have ag:=A7.slc ci ce.u; T.fs [1] ?_
        refine T.K3 λeP eS cj=>have ai:=A7.slc cj cf.u; T.K3 λck eU cm=>have aj:=A7.slc cm cg.u; To (O.bs K4 A1w z (e:=z) (hk:=z) (xs:=[.tmp 192,.tmp 193,.tmp 194]) (hv:=CO.eq (CO.cons (G6.cells ag) (CO.cons (G6.cells ai) (CO.cons (G6.cells aj) CO.nil)))) (hw:=O4.of z) (hd:=z) λeV=>have cn:A7 (VSl (VI .i64) 1) ck [[(.slice (some ⟨ad,0,none⟩) 3 3)],[(.slice (some ⟨ae,0,none⟩) 3 3)],[(.slice (some ⟨af,0,none⟩) 3 3)]] ([[(0:Int),(1:Int),(2:Int)],[(0:Int),(1:Int),(3:Int)],[(0:Int),(2:Int),(1:Int)]]:List (List Int)):=(A7.cons ⟨(.slice (some ⟨ad,0,none⟩) 3 3),z,ag.u⟩ (A7.cons ⟨(.slice (some ⟨ae,0,none⟩) 3 3),z,ai.u⟩ (A7.cons ⟨(.slice (some ⟨af,0,none⟩) 3 3),z,aj⟩ A7.nil))); T.K3 λeW eX co=>have cp:=A7.slc co cn.u; bE H λeY cq H=>To (O.cs (B7S bU.u cp cq _) λcr e1=>Kt z<|Mv z<|T.bH 198 H z (λH=>?_) λH=>?_))
        ·exact Mv z<|To (O.bs A9 J7 z (e:=z) (hk:=z) (xs:=[.const (qi (1)),.const (qi (0)),.const (qi (2))]) (hv:=CO.eq (CO.cons z (CO.cons z (CO.cons z CO.nil)))) (hw:=O4.of z) (hd:=z) λe2=>have cw:A7 (VI .i64) cr [[qi 1],[qi 0],[qi 2]] ([(1:Int),(0:Int),(2:Int)]:List Int):=(A7.cons z (A7.cons z (A7.cons z A7.nil))); T.K3 λe3 e4 cx=>have cy:=A7.slc cx cw.u; bE H λe5 cA H=>To (O.cs (A5O b6.u cy cA _) λe7 e9=>Kt z<|Ag z<|Nr<|T.drop<|T.drop<|E1 H))
        exact dead H
       exact dead H
      exact dead H
     exact dead H
    exact dead H
   exact dead H
  exact dead H
 exact dead H
theorem B9f {h a b c} (H:B1J a b=some c):∀ L,FnW prog 9 [.int .i64 a,.int .i64 b] h L (.int .i64 c):=by
 intro L
 refine J2.enter func9 z z z<|Sr<|An z<|Sm z<|Mv z<|bE H λf d H=>Vv (V.A1d z z d)<|An z<|Sq<|Sm z<|Wl z z<|Nt<|T.cH H z (λH=>?_) λH=>?_
 ·exact Rg<|Mv z<|Mv z<|bE H λg e H=>Vv (V.H5 z z e)<|An z<|Sm z<|Ag z<|Nr<|E1 H
 exact Ks<|Sm z<|Ag z<|Nr<|E1 H
theorem B1P {h f d g} (n:N8 h f d) (H:A5d d=some g):∀ L,FnW prog 56 [.agg f.toArray] h L (.int .i64 g):=by
 intro L
 obtain ⟨G,I,J,K,M,rfl,e,N,P,S,U⟩:=n
 refine J2.enter func56 z z z<|Sr<|To (O.U4 z z z λW X Y i=>An z<|Sr<|An z<|Sq<|Sr<|An z ?_)
 obtain ⟨o,p,q⟩:=J6 H
 have H:=p
 refine Bl<|T.lk [1] (FUEL,(0:Int),(0:Int)) (λ⟨a,b,c⟩=>([(3,qi b),(4,qi c)],L,λhh=>iter (A2I d) a (b,c)=some o)) H ?_
 rintro ⟨a,b,c⟩ Z aa r
 obtain ⟨s,ab,rfl,H,j⟩:=G7 r
 refine T.norm [3,4,1] z<|T.fl ?_
 refine Sq<|Sm z<|Vv (V.fa M6 z)<|Vv (V.M8 (k:=0) Q0 z i.u z)<|Vv (V.Q3 O5 z e)<|Wl z z<|Nt<|T.cH H z (λH=>?_) λH=>?_
 ·refine Ks<|Sq<|Bl<|Rg<|Mv z<|Vv (V.fa M6 z)<|Vv (V.M8 (k:=0) Q0 z i.u z)<|Mv z<|bE H λac m H=>?_
  obtain ⟨ad,t,⟨w,rfl,ae⟩⟩:=G6.at e m
  refine Vv (V.ix O5 z z e (E8 m))<|Vv (V.ldS z t.u (by exact J3)) ?_
  refine bE H λaf x H=>To (O.G5 z (A1F ⟨w,z⟩ x _) z λai aj ak am y=>?_)
  obtain ⟨rfl,A⟩:=y
  refine P8 _ A<|bE H λB C H=>Vv (V.H5 z z C)<|Ag z<|Ni<|Bn<|Th<|Rg<|Mv z<|bE H λD E H=>Vv (V.H5 z z E)<|An z<|T.ag (s,B,D) (D8 H j)
 exact T.exit<|Te<|Te<|have H:=D6 H j; Be<|Th<|have H:=I4 H q; Sm z<|Ag z<|Nr<|E1 H
theorem B0x {h d e f g m q_0} (a:A7 VB h e f) (H:A1z f g=some (m,q_0)):∀ L,J2 prog 57 [d,.int .i64 g] h (F3 4 1 d e::L) (λv h' L'=>∃ n,v=.int .i64 m∧L'=F3 4 1 d n::L∧A7 VB h' n q_0):=by
 intro L
 refine J2.enter func57 z z z<|Sr<|An z<|Sq<|Sr<|An z ?_
 obtain ⟨r,s,o⟩:=J6 H
 have H:=s
 refine Bl<|T.lk [0,1] (FUEL,(0:Int)) (λ⟨b,c⟩=>([(5,qi c)],F3 4 1 d e::L,λhh=>iter (A2R f g) b c=some r)) H ?_
 rintro ⟨b,c⟩ p J t
 obtain ⟨w,K,rfl,H,i⟩:=G7 t
 refine T.norm [5,0,1] z<|T.fl ?_
 refine Sq<|Sm z<|Mv z<|Vv (V.A4a X5 z (j:=0) z a.len)<|Wl z z<|Nt<|T.cH H z (λH=>?_) λH=>?_
 ·refine Ks<|Sq<|Bl<|Sm z<|Mv z<|bE H λM x H=>Vv (V.H5 z z x)<|Mv z<|Vv (V.A4a X5 z (j:=0) z a.len)<|bE H λy A H=>Vv (V.A1d z z A)<|An z<|Sm z<|Mv z<|bE H λN q H=>?_
  obtain ⟨P,B,rfl⟩:=A7.get a q
  refine Vv (V.ixR X5 z z (j:=0) z (A7.bd a q))<|Vv (V.ldR U6 z (j:=0) z B z)<|Vv (V.not z)<|Nt<|T.cH H z (λH=>?_) λH=>?_
  ·refine Sm z<|Mv z<|bE H λS k H=>?_
   obtain ⟨U,W,rfl⟩:=A7.get a k
   refine Vv (V.ixR X5 z z (j:=0) z (A7.bd a k))<|bE H λC D H=>To (O.stR U6 z z (j:=0) z (A7.bdN a k) z<|have E:A7 VB p (e.set y.toNat [.bool true]) C:=A7.set a.u (show VB p [.bool true] true from z) D; Nt<|Sm z<|Ag z<|Nr<|Br<|Tr<|Tr<|have H:=D6 H i; Br<|Tr<|have H:=I4 H o; ?_)
   cases H
   exact T.rl z (Rv z) ⟨_,z,z,E⟩
  refine T.skip<|Bn<|Th<|Rg<|Mv z<|bE H λG I H=>Vv (V.H5 z z I)<|An z<|T.ag (w,G) (D8 H i)
 refine T.exit<|Te<|Te<|have H:=D6 H i; Be<|Th<|have H:=I4 H o; Sg z<|Nr ?_
 cases H
 exact T.rl z (Rv z) ⟨_,z,z,a.u⟩
theorem B9p {h x n y o A} (Y:N8 h x n) (p:G6 (VI .i64) 1 h y o) (H:A9t n o=some A):∀ L,J2 prog 13 [.agg x.toArray,y] h (L) (λv h' L'=>∃ B,L'=F3 3 1 v B::L∧A7 (VI .i64) h' B A):=by
 intro L
 obtain ⟨Z,aa,ab,ac,ad,rfl,ae,C,af,ai,aj⟩:=Y
 refine J2.enter func13 z z z<|Sr<|To (O.U4 z z z λa5 a6 a7 D=>An z<|Sr<|Vv (V.ldS z D (by exact J9)) ?_)
 refine bE H λq ak H=>To (O.cs (B1P ⟨Z,aa,ab,ac,ad,z,ae.u,C.u,af.u,ai.u,aj.u⟩ ak _) λG ah=>An z<|Sm z<|bE H λI J H=>To (O.mkX X5 A6p z z z z J z λr al av=>have ao:A7 VB G _ I:=A7.rep z J; An z<|Sr<|An z<|Sq<|Sr<|An z ?_))
 obtain ⟨aq,ar,au⟩:=J6 H
 have H:=ar
 refine Bl<|T.Q8 3 1<|have aw:A7 (VI .i64) G [] ([]:List Int):=A7.nil; Fr_ 1 z<|T.lk [1,2,5] (FUEL,I,([]:List Int),(0:Int),(List.replicate q.toNat [.bool false]),(qs),[]) (λ⟨e,c,f,g,b,d,a⟩=>([(6,r),(7,d),(8,qi g)],F3 4 1 r b::F3 3 1 d a::L,λhh=>iter (A5K n o q) e (c,f,g)=some aq∧A7 VB hh b c∧A7 (VI .i64) hh a f)) ⟨H,ao,aw⟩ ?_
 rintro ⟨e,c,f,g,b,d,a⟩ az ba ⟨ax,K,i⟩
 obtain ⟨M,bb,rfl,H,s⟩:=G7 ax
 refine T.norm [6,7,8,1,2,5] z<|T.fl ?_
 refine Sq<|Sm z<|Vv (V.fa U0 z)<|Vv (V.M8 (k:=1) N9 z D.u z)<|Vv (V.Q3 O7 z C)<|Wl z z<|Nt<|T.cH H z (λH=>?_) λH=>?_
 ·refine Ks<|Sq<|Bl<|Sm z<|An z<|Sq<|Sm z<|Mv z<|Vv (V.Q3 A9 z p)<|Wl z z<|Nt ?_
  obtain ⟨ay,aA,aB⟩:=J6 H
  refine T.ck (α:=Int) [1,2,5,6,7,8] (λm=>([(9,qi m)],F3 4 1 r b::F3 3 1 d a::L,λhh=>ay=m)) ?_ ?_
  ·have H:=aA
   refine T.cH H z (λH=>?_) λH=>?_
   ·refine Rg<|Mv z<|Mv z<|bE H λbc N H=>?_
    obtain ⟨bd,aC,rfl⟩:=G6.at p N
    refine Vv (V.ix A9 z z p (E8 N))<|Vv (V.R5 D7 z aC.u z)<|Mv z<|bE H λbe aD H=>Vv (V.H5 z z aD)<|bE H λaE aG H=>To (O.G5 z (B9f aG _) z λbf bg bi bj aI=>?_)
    obtain ⟨rfl,aJ⟩:=aI
    refine P8 _ aJ<|An z<|T.mt aE (M0 H)
   refine Ks<|T.mt q (M0 H)
  rintro m aK bk aM
  have H:=I4 aM aB
  refine T.norm [9,1,2,5,6,7,8] z<|T.fl ?_
  refine Sm z<|Mv z<|We z z<|Nt<|T.cH H z (λH=>?_) λH=>?_
  ·refine Rg<|Mv z<|To (O.b1 (E:=VI .i64) A9 J7 z z z z z λbm t=>bE H λP S H=>To (O.apX A9 A9 J7 z z z (j:=2) z (Src.row (j:=0) z) (O4.of z) (A7.ones VI.plain t) i.u t S z λaN bn bo=>have aO:A7 (VI .i64) aK (a++[[qi (-1)]]) P:=A7.ap i.u t S; T.fl ?_))
   refine T.fs [1] ?_
   refine T.drop<|Ag z<|Ni<|Bn<|Th<|Rg<|Mv z<|bE H λaP aS H=>Vv (V.H5 z z aS)<|An z<|Fr_ 1 z<|T.ag (M,c,P,aP,b,aN,(a++[[qi (-1)]])) ⟨(D8 H s),K.u,aO⟩
  refine Rg<|Mv z<|Mv z<|Mv z<|bE H λ⟨U,aU⟩ aV H=>To (O.G5 z (B0x K.u aV _) z λbp aW bq br aX=>?_)
  obtain ⟨aY,rfl,aZ,a0⟩:=aX
  refine P8 _ aZ<|To (O.b1 (E:=VI .i64) A9 J7 z z z z z λbs w=>bE H λW X H=>To (O.apX A9 A9 J7 z z z (j:=2) z (Src.row (j:=0) z) (O4.of z) (A7.ones VI.plain w) i.u w X z λa1 bt bu=>have a2:A7 (VI .i64) aW (a++[[qi U]]) W:=A7.ap i.u w X; T.fl ?_))
  refine T.fs [1] ?_
  refine T.drop<|Ag z<|Ni<|Bn<|Th<|Rg<|Mv z<|bE H λa3 a4 H=>Vv (V.H5 z z a4)<|An z<|Fr_ 1 z<|T.ag (M,aU,W,a3,aY,a1,(a++[[qi U]])) ⟨(D8 H s),a0,a2⟩
 refine T.exit<|Te<|Te<|have H:=D6 H s; Be<|Th<|have H:=I4 H au; Sm z<|Ag z<|Nr<|T.drop ?_
 cases H
 exact T.rl z (Rv z) ⟨_,z,i⟩
theorem C2D {h K M N r P w S} (aw:N8 h K M) (c:G6 (VI .i64) 1 h N r) (x:G6 (VI .i64) 1 h P w) (H:B2V M r w=some S):∀ L,J2 prog 14 [.agg K.toArray,N,P] h (L) (λv h' L'=>∃ U,L'=F3 3 1 v U::L∧A7 (VI .i64) h' U S):=by
 intro L
 obtain ⟨ax,ay,aA,aB,aC,rfl,aD,aE,aG,aI,aJ⟩:=aw
 refine J2.enter func14 z z z<|Sr<|To (O.U4 z z z λbN bO bP aK=>An z<|Sr<|Vv (V.ldS z aK (by exact J9)) ?_)
 refine bE H λW aM H=>To (O.cs (B1P ⟨ax,ay,aA,aB,aC,z,aD.u,aE.u,aG.u,aI.u,aJ.u⟩ aM _) λaN bV=>An z<|Sm z<|bE H λX Y H=>To (O.mkX X5 A6p z z z z Y z λs bW bX=>have aS:A7 VB aN _ X:=A7.rep z Y; An z<|Sq<|Sr<|An z ?_))
 obtain ⟨aU,aV,aW⟩:=J6 H
 have H:=aV
 refine Bl<|T.lk [1,2,7] (FUEL,X,(0:Int),(List.replicate W.toNat [.bool false])) (λ⟨i,d,k,b⟩=>([(8,s),(9,qi k)],F3 4 1 s b::L,λhh=>iter (A7O r) i (d,k)=some aU∧A7 VB hh b d)) ⟨H,aS⟩ ?_
 rintro ⟨i,d,k,b⟩ y bY ⟨aX,m⟩
 obtain ⟨Z,bZ,rfl,H,A⟩:=G7 aX
 refine T.norm [8,9,1,2,7] z<|T.fl ?_
 refine Sq<|Sm z<|Mv z<|Vv (V.Q3 A9 z c)<|Wl z z<|Nt<|T.cH H z (λH=>?_) λH=>?_
 ·refine Ks<|Sq<|Bl<|Sm z<|Mv z<|bE H λb0 aa H=>?_
  obtain ⟨b2,aY,rfl⟩:=G6.at c aa
  refine Vv (V.ix A9 z z c (E8 aa))<|Vv (V.R5 D7 z aY.u z)<|Vv (V.ge z z)<|Nt<|T.cH H z (λH=>?_) λH=>?_
  ·refine Rg<|Mv z<|Mv z<|Mv z<|bE H λab ac H=>?_
   obtain ⟨b3,aZ,rfl⟩:=G6.at c ac
   refine Vv (V.ix A9 z z c (E8 ac))<|Vv (V.R5 D7 z aZ.u z)<|bE H λb4 B H=>?_
   obtain ⟨b5,b6,rfl⟩:=A7.get m B
   refine Vv (V.ixR X5 z z (j:=0) z (A7.bd m B))<|bE H λad a0 H=>To (O.stR U6 z z (j:=0) z (A7.bdN m B) z<|have a1:A7 VB y (b.set ab.toNat [.bool true]) ad:=A7.set m (show VB y [.bool true] true from z) a0; Ni<|Bn<|Th<|Rg<|Mv z<|bE H λa2 a3 H=>Vv (V.H5 z z a3)<|An z<|T.ag (Z,ad,a2,(b.set ab.toNat [.bool true])) ⟨(D8 H A),a1⟩)
  refine T.skip<|Bn<|Th<|Rg<|Mv z<|bE H λa4 a5 H=>Vv (V.H5 z z a5)<|An z<|T.ag (Z,d,a4,b) ⟨(D8 H A),m⟩
 refine T.exit<|Te<|Te<|have H:=D6 H A; Be<|Th<|have H:=I4 H aW; Sr<|An z<|Sq<|Sr<|An z ?_
 obtain ⟨a6,a7,a8⟩:=J6 H
 have H:=a7
 refine Bl<|T.Q8 3 1<|have a9:A7 (VI .i64) y [] ([]:List Int):=A7.nil; T.lk [1,2,7] (FUEL,([]:List Int),(0:Int),d,(qs),[],b) (λ⟨n,o,p,e,q,a,f⟩=>([(10,q),(11,qi p),(8,s)],F3 3 1 q a::F3 4 1 s f::L,λhh=>iter (A7Y r w W) n (o,p,e)=some a6∧A7 (VI .i64) hh a o∧A7 VB hh f e)) ⟨H,a9,m⟩ ?_
 rintro ⟨n,o,p,e,q,a,f⟩ ah b7 ⟨al,g,C⟩
 obtain ⟨D,b8,rfl,H,t⟩:=G7 al
 refine T.norm [10,11,8,1,2,7] z<|T.fl ?_
 refine Sq<|Sm z<|Mv z<|Vv (V.Q3 A9 z c)<|Wl z z<|Nt<|T.cH H z (λH=>?_) λH=>?_
 ·refine Ks<|Sq<|Bl<|Sm z<|Mv z<|bE H λae af H=>?_
  obtain ⟨b9,av,rfl⟩:=G6.at c af
  refine Vv (V.ix A9 z z c (E8 af))<|Vv (V.R5 D7 z av.u z)<|An z<|Sq<|Sm z<|Wl z z<|Nt<|T.cH H z (λH=>?_) λH=>?_
  ·refine Sr<|An z<|Sq<|Sm z<|Mv z<|Vv (V.Q3 A9 z x)<|Wl z z<|Nt<|T.cH H z (λH=>?_) λH=>?_
   ·refine Rg<|Mv z<|Mv z<|bE H λbh ai H=>?_
    obtain ⟨bl,az,rfl⟩:=G6.at x ai
    refine Vv (V.ix A9 z z x (E8 ai))<|Vv (V.R5 D7 z az.u z)<|Mv z<|bE H λbv ba H=>To (O.cs (B9f ba _) λca cc=>An z<|Rg<|Mv z<|Mv z<|Fr_ 1 z<|bE H λ⟨aj,be⟩ bf H=>To (O.G5 z (B0x C.u bf _) z λcd bg ce cf bi=>?_))
    obtain ⟨bj,rfl,bk,bm⟩:=bi
    refine P8 _ bk<|An z<|Rg<|Mv z<|Mv z<|To (O.b1 (E:=VI .i64) A9 J7 z z z z z λcg G=>bE H λak am H=>To (O.apX A9 A9 J7 z z z (j:=2) z (Src.row (j:=0) z) (O4.of z) (A7.ones VI.plain G) g.u G am z λbn ci cj=>have bo:A7 (VI .i64) bg (a++[[qi aj]]) ak:=A7.ap g.u G am; T.fl ?_))
    refine T.fs [1] ?_
    refine T.drop<|Ag z<|Ni<|Bn<|Th<|T.norm [1,2,7,8,10,11] z<|T.fl ?_
    refine Rg<|Mv z<|bE H λbp bq H=>Vv (V.H5 z z bq)<|An z<|T.ag (D,ak,bp,be,bn,(a++[[qi aj]]),bj) ⟨(D8 H t),bo,bm⟩
   refine Ks<|Rg<|Mv z<|Mv z<|Fr_ 1 z<|bE H λ⟨an,br⟩ bs H=>To (O.G5 z (B0x C bs _) z λck bt cm cn bu=>?_)
   obtain ⟨bw,rfl,bx,bA⟩:=bu
   refine P8 _ bx<|An z<|Rg<|Mv z<|Mv z<|To (O.b1 (E:=VI .i64) A9 J7 z z z z z λco I=>bE H λao aq H=>To (O.apX A9 A9 J7 z z z (j:=2) z (Src.row (j:=0) z) (O4.of z) (A7.ones VI.plain I) g.u I aq z λbB cp cq=>have bC:A7 (VI .i64) bt (a++[[qi an]]) ao:=A7.ap g.u I aq; T.fl ?_))
   refine T.fs [1] ?_
   refine T.drop<|Ag z<|Ni<|Bn<|Th<|Rg<|Mv z<|bE H λbD bG H=>Vv (V.H5 z z bG)<|An z<|T.ag (D,ao,bD,br,bB,(a++[[qi an]]),bw) ⟨(D8 H t),bC,bA⟩
  refine Ks<|Rg<|Mv z<|Mv z<|To (O.b1 (E:=VI .i64) A9 J7 z z z z z λcr J=>bE H λar au H=>To (O.apX A9 A9 J7 z z z (j:=1) z (Src.row (j:=0) z) (O4.of z) (A7.ones VI.plain J) g J au z λbI cs ct=>have bJ:A7 (VI .i64) ah (a++[[qi ae]]) ar:=A7.ap g J au; T.fl ?_))
  refine T.fs [1] ?_
  refine T.drop<|Ag z<|Ni<|Bn<|Th<|Rg<|Mv z<|bE H λbK bM H=>Vv (V.H5 z z bM)<|An z<|T.ag (D,ar,bK,e,bI,(a++[[qi ae]]),f) ⟨(D8 H t),bJ,C⟩
 refine T.exit<|Te<|Te<|have H:=D6 H t; Be<|Th<|have H:=I4 H a8; Sm z<|Ag z<|Nr<|Fr_ 1 z<|T.drop ?_
 cases H
 exact T.rl z (Rv z) ⟨_,z,g⟩
theorem A9J {h g i m n o} (y:Pt W9 h g i) (p:G6 (VI .i64) 1 h m n) (H:A4w i n=some o):∀ L,FnW prog 16 [g,m] h L (.bool o):=by
 intro L
 refine J2.enter func16 z z z<|Sr<|An z<|Sm z<|Mv z<|bE H λa5 A H=>To (O.G5 z (A8b y p A _) z λa6 a7 a8 a9 B=>?_)
 obtain ⟨C,q⟩:=B
 refine P8 _ C<|An z<|Sq<|Sq ?_
 obtain ⟨D,E,G⟩:=J6 H
 refine T.ck (α:=Bool) [5] (λd=>([(16,.bool d)],L,λhh=>D=d)) ?_ ?_
 ·have H:=E
  refine Rg<|Mv z<|Vv (V.C8L underlying131 z q)<|Mv z<|T.bH 13 H z (λH=>?_) λH=>?_
  ·refine S2<|Kt z<|Nt<|T.mt true (M0 H)
  refine Mv z<|bE H λI J H=>To (O.G5 z (A2m p.u J _) z λah al av az K=>?_)
  obtain ⟨rfl,M⟩:=K
  refine P8 _ M<|Kf z<|Nt<|T.mt I (M0 H)
 rintro d ba bb N
 have H:=I4 N G
 refine T.norm [16,5] z<|T.fl ?_
 refine T.cH H z (λH=>?_) λH=>?_
 ·exact Sg z<|Nr<|Tr<|E1 H
 refine Ks<|Sq<|Sm z<|bE H λP S H=>have U:=OPt.get q S; have W:=U; ?_
 obtain ⟨bc,_,rfl,r,⟨bd,X,Y,rfl,Z,aa,ab⟩⟩:=W
 refine NL z G8 I8 r.u z<|have ac:=Z; ?_
 obtain ⟨ad,_,rfl,s,⟨ae,af,ai,aj,ak,am,an,ao,ap,aq,ar,au,aw,ax,rfl,ay,aA,aB,aC,e,aD,aE,aG,aI,aJ,aK,aM,aN,aO⟩⟩:=ac
 refine NF z M3<|Vv (V.fa A3i z)<|Vv (V.M8 (k:=4) A1k z s.u z)<|Vv (V.Q3 Z6 z e)<|Mv z<|Nt ?_
 obtain ⟨aP,aS,t⟩:=J6 H
 have H:=aS
 refine Bl<|T.lk [5,24,25] (FUEL,(0:Int)) (λ⟨a,b⟩=>([(26,qi b)],L,λhh=>iter (A4h P) a b=some aP)) H ?_
 rintro ⟨a,b⟩ be bf aU
 obtain ⟨w,bg,rfl,H,f⟩:=G7 aU
 refine T.norm [26,5,24,25] z<|T.fl ?_
 refine Sr<|Wl z z<|Nt<|Sq<|T.cH H z (λH=>?_) λH=>?_
 ·refine Ks<|Sq<|Bl<|Sm z<|bE H λc x H=>?_
  obtain ⟨bi,aV,rfl⟩:=G6.at e x
  refine Vv (V.ix Z6 z z e (E8 x))<|Vv (V.ldS z aV.u (by exact K6)) ?_
  refine To (O.alloc A2G z z λbj=>Ag z<|To (O.stF (vs:=[.int .u8 c.F9,qi c.K8,.string c.fA,.string c.fB,.string c.I7,qi c.fN]) K6 z z (j:=0) z z z z<|T.freeze λbk bm aW=>have aX:=Z8.of aW; Nt<|Sr<|Vv (V.fa A4n z)<|Vv (V.M8 (k:=1) D7 z aX z)<|We z z<|Mv z<|T.bH 34 H z (λH=>?_) λH=>?_))
  ·refine Mv z<|Mv z<|bE H λbn aY H=>To (O.cs (B0o (Pt.mk r.u ⟨(.pointer (some ad)),X,Y,z,(Pt.mk s.u ⟨ae,af,ai,aj,ak,am,an,ao,ap,aq,ar,au,aw,ax,z,ay.u,aA.u,aB.u,aC.u,e.u,aD.u,aE.u,aG.u,aI.u,aJ.u,aK.u,aM.u,aN.u,aO.u⟩),aa.u,ab.u⟩) aY _) λbp br=>Wg z z<|Kt z<|Nt<|T.cH H z (λH=>?_) λH=>?_)
   ·exact Sg z<|Nr<|Br<|Tr<|Tr<|have H:=D6 H f; Br<|Tr<|have H:=I4 H t; E1 H
   refine T.skip<|Bn<|Th<|Rg<|bE H λa1 a2 H=>Vv (V.H5 z z a2)<|Mv z<|Nt<|T.ag (w,a1) (D8 H f)
  refine S2<|S2<|Kf z<|Nt<|Cf z<|T.skip<|Bn<|Th<|Rg<|bE H λa3 a4 H=>Vv (V.H5 z z a4)<|Mv z<|Nt<|T.ag (w,a3) (D8 H f)
 exact T.exit<|Te<|Te<|have H:=D6 H f; Be<|Th<|have H:=I4 H t; Sg z<|Nr<|E1 H
theorem B9q {h m f n} (s:N8 h m f) (H:A6I f=some n):∀ L,J2 prog 18 [.agg m.toArray] h (L) (λv h' L'=>∃ o,L'=F3 3 1 v o::L∧A7 (VI .i64) h' o n):=by
 intro L
 obtain ⟨P,S,U,W,X,rfl,Y,t,Z,aa,ab⟩:=s
 refine J2.enter func18 z z z<|Sr<|To (O.U4 z z z λac w ad x=>An z<|Sr<|An z<|Sq<|Sr<|An z ?_)
 obtain ⟨y,A,B⟩:=J6 H
 have H:=A
 refine Bl<|T.Q8 3 1<|have C:A7 (VI .i64) w [] ([]:List Int):=A7.nil; T.lk [1] (FUEL,([]:List Int),(0:Int),(qs),[]) (λ⟨b,c,d,e,a⟩=>([(3,e),(4,qi d)],F3 3 1 e a::L,λhh=>iter (A5R f) b (c,d)=some y∧A7 (VI .i64) hh a c)) ⟨H,C⟩ ?_
 rintro ⟨b,c,d,e,a⟩ D ae ⟨G,g⟩
 obtain ⟨I,af,rfl,H,p⟩:=G7 G
 refine T.norm [3,4,1] z<|T.fl ?_
 refine Sq<|Sm z<|Vv (V.fa U0 z)<|Vv (V.M8 (k:=1) N9 z x.u z)<|Vv (V.Q3 O7 z t)<|Wl z z<|Nt<|T.cH H z (λH=>?_) λH=>?_
 ·refine Ks<|Sq<|Bl<|Rg<|Mv z<|To (O.b1 (E:=VI .i64) A9 J7 z z z z z λai i=>bE H λq r H=>To (O.apX A9 A9 J7 z z z (j:=1) z (Src.row (j:=0) z) (O4.of z) (A7.ones VI.plain i) g i r z λJ aj ak=>have K:A7 (VI .i64) D (a++[[qi (-1)]]) q:=A7.ap g i r; Fr_ 1 z<|T.drop<|Ag z<|Ni<|Bn<|Th<|Rg<|Mv z<|bE H λM N H=>Vv (V.H5 z z N)<|An z<|T.ag (I,q,M,J,(a++[[qi (-1)]])) ⟨(D8 H p),K⟩))
 refine T.exit<|Te<|Te<|have H:=D6 H p; Be<|Th<|have H:=I4 H B; Sm z<|Ag z<|Nr ?_
 cases H
 exact T.rl z (Rv z) ⟨_,z,g⟩
theorem B9w {h j g k f m} (c:G6 (VI .i64) 1 h j g) (d:G6 (VI .i64) 1 h k f) (H:A9z g f=some m):∀ L,FnW prog 20 [j,k] h L (.bool m):=by
 intro L
 refine J2.enter func20 z z z<|Sr<|An z<|Sq<|Sr<|An z ?_
 obtain ⟨s,w,n⟩:=J6 H
 have H:=w
 refine Bl<|T.lk [0,1] (FUEL,(0:Int)) (λ⟨b,a⟩=>([(5,qi a)],L,λhh=>iter (A5J g f) b a=some s)) H ?_
 rintro ⟨b,a⟩ N O x
 obtain ⟨y,P,rfl,H,i⟩:=G7 x
 refine T.norm [5,0,1] z<|T.fl ?_
 refine Sq<|Sq ?_
 obtain ⟨A,B,C⟩:=J6 H
 refine T.ck (α:=Bool) [0,1,5] (λe=>([(15,.bool e)],L,λhh=>A=e)) ?_ ?_
 ·have H:=B
  refine Rg<|Mv z<|Mv z<|Vv (V.Q3 A9 z c)<|Wl z z<|Mv z<|T.bH 10 H z (λH=>?_) λH=>?_
  ·refine Mv z<|Mv z<|Vv (V.Q3 A9 z d)<|Wl z z<|Kt z<|Nt<|T.mt (decide (a<(f.length:Int))) (M0 H)
  refine S2<|S2<|Kf z<|Nt<|T.mt false (M0 H)
 rintro e S U D
 have H:=I4 D C
 refine T.norm [15,0,1,5] z<|T.fl ?_
 refine T.cH H z (λH=>?_) λH=>?_
 ·refine Ks<|Sq<|Bl<|Sq<|T.N7 (t:=(.vs [0,1,2,3,4,5,6,7,8] .done)) 10 0 0 z z H9 (by kernel_rfl) ?_
  refine Tm z z<|Tm z z<|bE H λW o H=>?_
  obtain ⟨X,E,rfl⟩:=G6.at c o
  refine Tv z (V.ix A9 z z c (E8 o))<|Tv z (V.R5 D7 z E.u z)<|Tm z z<|Tm z z<|bE H λY p H=>?_
  obtain ⟨Z,G,rfl⟩:=G6.at d p
  refine Tv z (V.ix A9 z z d (E8 p))<|Tv z (V.R5 D7 z G.u z)<|Tv z (V.ne z z)<|T.O6 (X2 z z)<|Th<|T.cH H z (λH=>?_) λH=>?_
  ·refine Sq<|T.N7 (t:=(.vs [0,1,2,3,4,5,6,7,8] (.alt 9 .done .no))) 11 0 0 z z H9 (by kernel_rfl) ?_
   refine Tm z z<|Tm z z<|bE H λaa q H=>?_
   obtain ⟨ab,I,rfl⟩:=G6.at c q
   refine Tv z (V.ix A9 z z c (E8 q))<|Tv z (V.R5 D7 z I.u z)<|Tm z z<|Tm z z<|bE H λac r H=>?_
   obtain ⟨ad,J,rfl⟩:=G6.at d r
   refine Tv z (V.ix A9 z z d (E8 r))<|Tv z (V.R5 D7 z J.u z)<|Tv z (V.lt z z)<|Ts z z (X2 z z) (V.asg z) z ?_ T.P6
   exact T.O6 (X2 z z)<|Th<|T.ret<|Br<|Tr<|Tr<|have H:=D6 H i; Br<|Tr<|have H:=I4 H n; E1 H
  refine T.skip<|Bn<|Th<|Rg<|Mv z<|bE H λK M H=>Vv (V.H5 z z M)<|An z<|T.ag (y,K) (D8 H i)
 exact T.exit<|Te<|Te<|have H:=D6 H i; Be<|Th<|have H:=I4 H n; Sg z<|Nr<|E1 H
theorem B2j {h I J K M N P S} (aj:A0d h I J) (ak:G6 (VI .i64) 1 h K M) (am:G6 (VI .i64) 1 h N P) (H:A4X J M P=some S):∀ L,FnW prog 4 [.agg I.toArray,K,N] h L (.bool S):=by
 intro L
 obtain ⟨an,ao,ap,aq,rfl,ar,au,aw,ax⟩:=aj
 refine J2.enter func4 z z z<|Sr<|To (O.U4 z z z λcd ce cf ay=>An z<|Sr<|Vv (V.ldS z ay (by exact C4G)) ?_)
 refine bE H λcg aA H=>To (O.G5 z (C1p ⟨an,ao,ap,aq,z,ar.u,au.u,aw.u,ax.u⟩ aA _) z λci cj ck cm aB=>?_)
 obtain ⟨a,b,c,d,e,rfl,aC,f,i,k,m,n⟩:=aB
 refine P8 _ aC<|To (O.alloc A6Q z z λcn=>To (O.stF (vs:=[a,b,c,d,e]) J9 z z (j:=0) z z (by (simp only [BT,G6.one f,G6.one i,G6.one k,G6.one m,G6.one n]) <;> rfl) z ?_))
 refine T.freeze λco cp aD=>have p:=Z8.of aD; Nt<|Sr<|Vv (V.ldS z p (by exact J9)) ?_
 refine bE H λ⟨aE,cq,aG⟩ aI H=>To (O.G5 z (B8M ⟨a,b,c,d,e,z,f.u,i.u,k.u,m.u,n.u⟩ aI _) z λcr cs ct cu aJ=>?_)
 obtain ⟨E,rfl,aK,C⟩:=aJ
 refine P8 _ aK<|Mv z<|Wx z z<|Wx z z<|Wx z z<|Ag z<|Ag z<|An z<|Sq<|Sq ?_
 obtain ⟨aM,aN,aO⟩:=J6 H
 refine T.ck (α:=Bool) [1,2,7,8] (λw=>([(32,.bool w)],L,λhh=>aM=w)) ?_ ?_
 ·have H:=aN
  refine Rg<|Mv z<|Vv (V.C8L underlying49 z C)<|Mv z<|T.bH 29 H z (λH=>?_) λH=>?_
  ·refine S2<|Kt z<|Nt<|T.mt true (M0 H)
  refine Mv z<|Wn z z<|Kf z<|Nt<|T.mt (!decide (aG=(0:Int))) (M0 H)
 rintro w cw cx aP
 have H:=I4 aP aO
 refine T.norm [32,1,2,7,8] z<|T.fl ?_
 refine T.cH H z (λH=>?_) λH=>?_
 ·exact Sg z<|Nr<|Tr<|E1 H
 refine Ks<|Sr<|Vv (V.ldS z p.u (by exact J9)) ?_
 refine Mv z<|bE H λU aS H=>To (O.G5 z (B9p ⟨a,b,c,d,e,z,f.u,i.u,k.u,m.u,n.u⟩ ak.u aS _) z λcy cA cB cC aU=>?_)
 obtain ⟨cD,aV,aW⟩:=aU
 refine P8 _ aV<|An z<|Sr<|Vv (V.ldS z p.u (by exact J9)) ?_
 refine Mv z<|Mv z<|T.K3 λcE cG aX=>have o:=A7.slc aX aW.u; bE H λcI aY H=>To (O.G5 z (C2D ⟨a,b,c,d,e,z,f.u,i.u,k.u,m.u,n.u⟩ o am.u aY _) z λW cJ cK cM aZ=>?_)
 obtain ⟨X,a0,Y⟩:=aZ
 refine P8 _ a0<|An z<|Sr<|Vv (V.ldS z p.u (by exact J9)) ?_
 refine Mv z<|bE H λ⟨Z,cN⟩ a1 H=>To (O.G5 z (A7z ⟨a,b,c,d,e,z,f.u,i.u,k.u,m.u,n.u⟩ o.u a1 _) z λcO cP cS cU a2=>?_)
 obtain ⟨cV,rfl,a3,q⟩:=a2
 refine P8 _ a3<|Mv z<|Wx z z<|Wx z z<|Ag z<|An z<|Sq<|Sm z<|We z z<|Nt<|T.cH H z (λH=>?_) λH=>?_
 ·refine Sq ?_
  obtain ⟨a4,a5,a6⟩:=J6 H
  refine T.ck (α:=Bool) [] (λx=>([(6,.bool x)],L,λhh=>a4=x)) ?_ ?_
  ·have H:=a5
   refine Rg<|Mv z<|Vv (V.Q3 A9 z q)<|We z z<|Mv z<|T.bH 51 H z (λH=>?_) λH=>?_
   ·refine Mv z<|Mv z<|bE H λcW a7 H=>have a8:=OPt.get C a7; T.K3 λcX cY a9=>have ah:=A7.slc a9 Y.u; bE H λcZ al H=>To (O.cs (A9J a8.u ah al _) λc1 c3=>Vv (V.not z)<|Kt z<|Mv z<|T.bH 57 H z (λH=>?_) λH=>?_)
    ·refine bE H λba bb H=>To (O.G5 z (B0h bb _) z λc4 c5 c6 c7 bc=>?_)
     obtain ⟨rfl,bd⟩:=bc
     refine P8 _ bd<|Kt z<|An z<|T.mt ba (M0 H)
    refine Sk<|Kf z<|An z<|T.mt false (M0 H)
   refine S2<|S2<|Kf z<|Mv z<|Sk<|Kf z<|An z<|T.drop<|T.mt false (M0 H)
  rintro x c8 c9 be
  have H:=I4 be a6
  refine T.norm [6] z<|T.fl ?_
  exact T.ret<|Tr<|E1 H
 refine Ks<|Sq<|Sq ?_
 obtain ⟨bf,bg,bi⟩:=J6 H
 refine T.ck (α:=(Option Q5)×Bool×Value) [7,11,12,13] (λ⟨y,A,B⟩=>([(8,B),(74,.bool A)],F3 3 1 W X::L,λhh=>bf=(y,A)∧OPt W9 hh B y)) ?_ ?_
 ·have H:=bg
  refine Rg<|Mv z<|Wn z z<|Mv z<|T.bH 62 H z (λH=>?_) λH=>?_
  ·refine S2<|S2<|Kt z<|Mv z<|S2<|S2<|Sk<|Kt z<|Nt<|T.mt (aE,true,E) ⟨(M0 H),C.u⟩
  refine Mv z<|Mv z<|bE H λaa bj H=>have G:=OPt.get C bj; bE H λch bk H=>To (O.cs (A9J G.u q bk _) λcv da=>Vv (V.not z)<|Kf z<|Mv z<|T.bH 68 H z (λH=>?_) λH=>?_)
  ·refine S2<|S2<|Sk<|Kt z<|Nt<|T.mt ((some aa),true,E) ⟨(M0 H),(OPt.some G.u)⟩
  refine Mv z<|Vv (V.Q3 A9 z q)<|Mv z<|Vv (V.Q3 A9 z o)<|Wn z z<|Kf z<|Nt<|T.mt ((some aa),!decide ((Z.length:Int)=(U.length:Int)),E) ⟨(M0 H),(OPt.some G.u)⟩
 rintro ⟨y,A,B⟩ db dc ⟨bo,bp⟩
 have H:=I4 bo bi
 refine T.norm [8,74,7,11,12,13] z<|T.fl ?_
 refine T.cH H z (λH=>?_) λH=>?_
 ·exact Sg z<|Nr<|Tr<|T.drop<|E1 H
 refine Ks<|Sq<|Sr<|An z ?_
 obtain ⟨bq,br,ab⟩:=J6 H
 have H:=br
 refine Bl<|T.lk [7,8,11,12,13] (FUEL,(0:Int)) (λ⟨r,s⟩=>([(14,qi s)],F3 3 1 W X::L,λhh=>iter (A0I U Z) r s=some bq)) H ?_
 rintro ⟨r,s⟩ dd de bs
 obtain ⟨ac,df,rfl,H,D⟩:=G7 bs
 refine T.norm [14,7,8,11,12,13] z<|T.fl ?_
 refine Sq<|Sm z<|Mv z<|Vv (V.Q3 A9 z o)<|Wl z z<|Nt<|T.cH H z (λH=>?_) λH=>?_
 ·refine Ks<|Sq<|Bl<|Sq<|T.N7 (t:=(.vs [0,1,2,3,4,5,6,7,8,9,10,11,12,13,14,15] .done)) 17 0 0 z z H9 (by kernel_rfl) ?_
  refine Tm z z<|Tm z z<|bE H λdg ad H=>?_
  obtain ⟨di,bt,rfl⟩:=G6.at o ad
  refine Tv z (V.ix A9 z z o (E8 ad))<|Tv z (V.R5 D7 z bt.u z)<|Tv z (V.ge z z)<|Tm z z<|T.bH 86 H z (λH=>?_) λH=>?_
  ·refine Tm z z<|Tm z z<|bE H λdj ae H=>?_
   obtain ⟨dk,bu,rfl⟩:=G6.at q ae
   refine Tv z (V.ix A9 z z q (E8 ae))<|Tv z (V.R5 D7 z bu.u z)<|Tm z z<|Tm z z<|bE H λdm af H=>?_
   obtain ⟨dn,bw,rfl⟩:=G6.at o af
   refine Tv z (V.ix A9 z z o (E8 af))<|Tv z (V.R5 D7 z bw.u z)<|Tv z (V.ne z z)<|Tv z (V.pkT z z)<|T.O6 (X2 z z)<|Th<|T.cH H z (λH=>?_) λH=>?_
   ·exact Sg z<|Nr<|Br<|Tr<|Tr<|have H:=D6 H D; Br<|Tr<|have H:=I4 H ab; T.drop<|E1 H
   refine T.skip<|Bn<|Th<|Rg<|Mv z<|bE H λbx bA H=>Vv (V.H5 z z bA)<|An z<|T.ag (ac,bx) (D8 H D)
  refine T2 z z<|T2 z z<|T2 z z<|T2 z z<|Tk z<|Tv z (V.pkF z z)<|T.O6 (X2 z z)<|Th<|Cf z<|T.skip<|Bn<|Th<|Rg<|Mv z<|bE H λbB bC H=>Vv (V.H5 z z bC)<|An z<|T.ag (ac,bB) (D8 H D)
 refine T.exit<|Te<|Te<|have H:=D6 H D; Be<|Th<|have H:=I4 H ab; Sr<|Vv (V.ldS z p.u (by exact J9)) ?_
 refine bE H λ⟨dp,dq⟩ bD H=>To (O.G5 z (B9l ⟨a,b,c,d,e,z,f.u,i.u,k.u,m.u,n.u⟩ bD _) z λdr ds dt du bG=>?_)
 obtain ⟨dw,rfl,bI,bJ⟩:=bG
 refine P8 _ bI<|Mv z<|Wx z z<|Wx z z<|Ag z<|An z<|Sq<|T.N7 (t:=(.v 0 (.v 1 (.alt 2 (.g (.alt 3 (.g (.vs [4,5,6] (.alt 7 (.alt 8 .done .no) .no))) .no)) .no)))) 10 0 0 z z H9 (by kernel_rfl) ?_
 refine Tv z (V.ldS z p.u (by exact J9)) ?_
 refine Tv z (V.ldS z p.u (by exact J9)) ?_
 refine bE H λdx bK H=>Tp z z (X2 z z) (O.G5 z (B9q ⟨a,b,c,d,e,z,f.u,i.u,k.u,m.u,n.u⟩ bK _) z λdy dA dB dC bM=>?_) T.P6
 obtain ⟨dD,bN,bO⟩:=bM
 refine P8 _ bN<|T.O1 Li<|T.K3 λdE dG bP=>have bS:=A7.slc bP bO.u; bE H λ⟨dI,dJ⟩ bU H=>Tp z z (SX.two (XA.fr [] Li z) (XA.fr [] Li z)) (O.G5 z (A7z ⟨a,b,c,d,e,z,f.u,i.u,k.u,m.u,n.u⟩ bS bU _) z λdK dM dN dO bV=>?_) T.P6
 obtain ⟨dP,rfl,bW,bX⟩:=bV
 refine P8 _ bW<|T.O1 Li<|Tm z z<|Tv z (V.ext z z)<|Tv z (V.ext z z)<|Ts z z (X2 z z) (V.asg z) z ?_ T.P6
 refine Ts z z (X2 z z) (V.asg z) z ?_ T.P6
 refine T.O6 (X2 z z)<|Th<|Sm z<|Mv z<|bE H λdS bY H=>Vv (V.H5 z z bY)<|We z z<|Mv z<|T.bH 113 H z (λH=>?_) λH=>?_
 ·refine Mv z<|Mv z<|bE H λdU bZ H=>To (O.cs (A5O bJ.u bX bZ _) λdW dY=>Kt z<|Mv z<|T.bH 118 H z (λH=>?_) λH=>?_)
  ·refine Mv z<|Mv z<|bE H λdZ b2 H=>have b3:=OPt.get bp b2; T.K3 λd0 d1 b4=>have ai:=A7.slc b4 Y.u; bE H λd2 b5 H=>To (O.cs (A9J b3.u ai b5 _) λd4 d6=>Mv z<|T.bH 122 H z (λH=>?_) λH=>?_)
   ·refine Mv z<|Mv z<|bE H λd7 b8 H=>To (O.cs (B9w ai.u q.u b8 _) λd9 dl=>Kt z<|Vv (V.not z)<|Kt z<|Mv z<|T.bH 129 H z (λH=>?_) λH=>?_)
    ·exact bE H λdv bl H=>To (O.cs (B0h bl _) λea ec=>Kt z<|Ag z<|Nr<|E1 H)
    exact Sk<|Kf z<|Ag z<|Nr<|E1 H
   exact S2<|Sk<|Kf z<|Vv (V.not z)<|Kt z<|Mv z<|bE H λed ca H=>To (O.cs (B0h ca _) λef ei=>Kt z<|Ag z<|Nr<|E1 H)
  exact S2<|S2<|S2<|S2<|Sk<|Kf z<|Mv z<|Sk<|Kf z<|Ag z<|Nr<|T.drop<|E1 H
 exact S2<|Sk<|Kf z<|Mv z<|S2<|S2<|S2<|S2<|Sk<|Kf z<|Mv z<|Sk<|Kf z<|Ag z<|Nr<|T.drop<|E1 H
end Go.Proofs.X
