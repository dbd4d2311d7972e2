import Derived.Test.YthchjfilgaondaaGreatChecked
import Derived.KernelRfl
import Derived.Test.YthchjfilgaondaaGreatV
import Derived.Test.YthchjfilgaondaaGreatL13
import Derived.Test.YthchjfilgaondaaGreatDa
import Derived.Test.YthchjfilgaondaaGreatWa
/- Walks. -/
set_option maxRecDepth 1000000
set_option maxHeartbeats 40000000
set_option linter.unusedVariables false
set_option linter.unusedSimpArgs false
set_option linter.unusedSectionVars false
set_option linter.unnecessarySimpa false
open Go Go.Proofs Go.Proofs.Tryz Go.Sl Go.Dm
namespace Go.Proofs.X
theorem A0b:A0T prog 100=some (4,1,1):=by kernel_rfl
theorem B6z:A0T prog 101=some (112,1,8):=by kernel_rfl
theorem A5I:A0T prog 102=some (100,1,24):=by kernel_rfl
theorem A2t:A0T prog 103=some (122,1,24):=by kernel_rfl
theorem B2f:A0T prog 122=some (124,1,1):=by kernel_rfl
theorem L8:O5 prog 105 0=some 0:=by kernel_rfl
theorem U2:O5 prog 105 2=some 6:=by kernel_rfl
theorem A9g:O5 prog 105 3=some 7:=by kernel_rfl
theorem B2y:O5 prog 105 4=some 8:=by kernel_rfl
theorem A2e:O5 prog 105 5=some 9:=by kernel_rfl
theorem A4G:O5 prog 105 6=some 10:=by kernel_rfl
theorem B2k:O5 prog 105 7=some 11:=by kernel_rfl
theorem A6z:O5 prog 105 8=some 12:=by kernel_rfl
theorem A4L:O5 prog 105 9=some 13:=by kernel_rfl
theorem B7o:O5 prog 121 6=some 6:=by kernel_rfl
theorem C3G:O5 prog 121 7=some 7:=by kernel_rfl
theorem G8:O5 prog 134 0=some 0:=by kernel_rfl
theorem P6:O5 prog 134 1=some 1:=by kernel_rfl
theorem B1Y:O5 prog 134 2=some 2:=by kernel_rfl
theorem B0L:O5 prog 97 0=some 0:=by kernel_rfl
theorem A0J:O5 prog 97 1=some 1:=by kernel_rfl
theorem A8A:O5 prog 97 3=some 3:=by kernel_rfl
theorem B2l:U1 prog 100=some (false,1):=by kernel_rfl
theorem B6o:U1 prog 101=some (false,1):=by kernel_rfl
theorem B0m:U1 prog 102=some (false,1):=by kernel_rfl
theorem A7u:U1 prog 103=some (false,1):=by kernel_rfl
theorem C6w:U1 prog 112=some (false,1):=by kernel_rfl
theorem C0l:U1 prog 122=some (false,1):=by kernel_rfl
theorem Q8:U1 prog 131=some (false,1):=by kernel_rfl
theorem B5Y:U1 prog 218=some (false,1):=by kernel_rfl
theorem R3:U1 prog 4=some (false,1):=by kernel_rfl
theorem I6:U1 prog 49=some (false,1):=by kernel_rfl
theorem S9:U1 prog 84=some (false,1):=by kernel_rfl
theorem B1J:U1 prog 97=some (true,5):=by kernel_rfl
theorem C3M {h d g} (H:A9s d=some g):∀ L,FnW prog 141 [.string d] h L (.bool g):=by
 intro L
 refine I7.enter func141 z z z<|Sr<|An z<|Sq<|Sq ?_
 obtain ⟨i,j,k⟩:=J4 H
 refine T.ck (α:=Bool) [0] (λc=>([(11,.bool c)],L,λhh=>i=c)) ?_ ?_
 ·have H:=j
  refine Rg<|Mv z<|Vv (V.B2w underlying9 z)<|We z z<|Mv z<|T.bH 7 H z (λH=>?_) λH=>?_
  ·refine S2<|Sk<|Kt z<|Nt<|T.mt true (K9 H)
  refine Mv z<|Vv (V.B2w underlying9 z)<|Wg z z<|Kf z<|Nt<|T.mt (decide ((12:Int)<(d.size:Int))) (K9 H)
 rintro c w x m
 have H:=H7 m k
 refine T.norm [11,0] z<|T.fl ?_
 refine T.cH H z (λH=>?_) λH=>?_
 ·exact Sg z<|Nr<|Tr<|E1 H
 refine Ks<|Sq<|Sm z<|Vv (V.B2w underlying9 z)<|Mv z<|Nt ?_
 obtain ⟨n,o,f⟩:=J4 H
 have H:=o
 refine Bl<|T.lk [0,13] (FUEL,(0:Int)) (λ⟨a,b⟩=>([(14,qi b)],L,λhh=>iter (B6R d) a b=some n)) H ?_
 rintro ⟨a,b⟩ y A p
 obtain ⟨q,B,rfl,H,e⟩:=G5 p
 refine T.norm [14,0,13] z<|T.fl ?_
 refine Sr<|Wl z z<|Nt<|Sq<|T.cH H z (λH=>?_) λH=>?_
 ·refine Ks<|Sq<|Bl<|Sm z<|An z<|Sm z<|Mv z<|bE H λC r H=>Vv (V.C5P underlying9 z z r)<|Wl z z<|Mv z<|T.bH 21 H z (λH=>?_) λH=>?_
  ·exact S2<|S2<|Kt z<|Nt<|Ct z<|Sg z<|Nr<|Br<|Tr<|Tr<|have H:=D5 H e; Br<|Tr<|have H:=H7 H f; E1 H
  refine Mv z<|Mv z<|bE H λD s H=>Vv (V.C5P underlying9 z z s)<|Wg z z<|Kf z<|Nt<|T.cH H z (λH=>?_) λH=>?_
  ·exact Sg z<|Nr<|Br<|Tr<|Tr<|have H:=D5 H e; Br<|Tr<|have H:=H7 H f; E1 H
  refine T.skip<|Bn<|Th<|Rg<|bE H λt u H=>Ws z z u<|Mv z<|Nt<|T.ag (q,t) (D8 H e)
 exact Xt<|have H:=D5 H e; Be<|Th<|have H:=H7 H f; Sg z<|Nr<|E1 H
theorem C2B {h a b c d e f} (g:I9 h a b) (i:Y2 h c d) (j:VS h d e) (H:B2p b e=some f):∀ L,FnW prog 205 [.agg a.toArray,.pointer (some c)] h L (.bool f):=by
 intro L
 obtain ⟨n,rfl,o⟩:=g
 obtain rfl:=j
 refine I7.enter func205 z z z<|Sr<|To (O.T9 z z z λp q r m=>An z<|Sr<|Vv (V.fa A0g z)<|Wd 0 J3 z m z<|Vv (V.Q9 J3 z i.u z)<|Vv (V.seq z z)<|Ag z<|Nr ?_)
 exact E1 H
theorem A2j {h b c a d} (f:M7 h b c) (H:A0P c a=some d):∀ L,FnW prog 140 [.agg b.toArray,.string a] h L (.int .i64 d):=by
 intro L
 obtain ⟨x,y,A,B,C,rfl,D,g,E,G,I⟩:=f
 exact I7.enter func140 z z z<|Sr<|To (O.T9 z z z λJ K M i=>To (O.T9 z z z λe j N m=>An z<|Sr<|Vv (V.fa Q3 z)<|Wd 1 M8 z i.u z<|Vv (V.mkf z z)<|bE H λP n H=>To (O.cs (B3V g.u (show B2T j (.func (.func 205) #[] #[qp e]) (λo=>B2p o a) from ⟨⟨z,z⟩,.inr ⟨205,[],[qp e],z,λp S U W q X r s=>C2B q m.u (show VS p [.string a] a from z) r s⟩⟩) n _) λZ ab=>Ag z<|Nr<|E1 H)))
theorem B5N {h f k p m q} (x:A2D h p m) (H:A9K f k m=some q):∀ L,I7 prog 47 [.int .i64 f,.int .i64 k,p] h (L) (λv h' L'=>∃ r,L'=F3 3 1 v r::L∧A8 (VI .i64) h' r q):=by
 intro L
 refine I7.enter func47 z z z<|Sr<|An z<|Sr<|An z<|Sq<|Sm z<|An z ?_
 obtain ⟨y,A,B⟩:=J4 H
 have H:=A
 refine Bl<|T.rn (VI .i64) 3 1 λC=>T.lk [0,1,2] (FUEL,([]:List Int),f,(qs),[]) (λ⟨e,c,b,d,a⟩=>([(7,d),(8,qi b)],F3 3 1 d a::L,λhh=>iter (A8g f k m) e (c,b)=some y∧A8 (VI .i64) hh a c)) ⟨H,C⟩ ?_
 rintro ⟨e,c,b,d,a⟩ D ab ⟨G,i⟩
 obtain ⟨s,ac,rfl,H,n⟩:=G5 G
 refine T.norm [7,8,0,1,2] z<|T.fl ?_
 refine Sq<|Sm z<|Mv z<|Mv z<|bE H λad I H=>Ws z z I<|Wl z z<|Nt<|T.cH H z (λH=>?_) λH=>?_
 ·refine Ks<|Sq<|Bl<|Sm z<|Mv z<|bE H λae J H=>?_
  obtain ⟨af,ai,aj,K,M⟩:=A2D.call (x.u (g:=D)) J
  refine To (O.A1b z K z (M _) z λak N am an P=>?_)
  obtain ⟨rfl,S⟩:=P
  refine O8 _ S<|Nt<|T.cH H z (λH=>?_) λH=>?_
  ·refine Rg<|Mv z<|Mv z<|To (O.b1 (E:=VI .i64) A9 J6 z z z z z λao o=>bE H λt w H=>To (O.ax A9 J6 1 i.u o w VI.plain λU W=>Fr_ 1 z<|T.drop<|Ag z<|Ni<|Bn<|Th<|Rg<|Mv z<|bE H λX Y H=>Ws z z Y<|An z<|T.ag (s,t,X,U,(a++[[qi b]])) ⟨(D8 H n),W⟩))
  refine T.skip<|Bn<|Th<|Rg<|Mv z<|bE H λZ aa H=>Ws z z aa<|An z<|T.ag (s,c,Z,d,a) ⟨(D8 H n),i.u⟩
 refine Xt<|have H:=D5 H n; Be<|Th<|have H:=H7 H B; Sm z<|Ag z<|Nr ?_
 cases H
 exact T.rl z (Rv z) ⟨_,z,i⟩
theorem B4i {h I J m} (ax:M7 h I J) (H:A8D J=some m):∀ L,I7 prog 38 [.agg I.toArray] h (L) (λv h' L'=>∃ v0_1 v0_3 v0_5 v0_7 v0_9,v=.agg #[v0_1,v0_3,v0_5,v0_7,v0_9]∧L'=L∧G9 I1 7 h' v0_1 m.C8∧G9 I9 9 h' v0_3 m.A7∧G9 L9 3 h' v0_5 m.N7∧G9 (VI .i64) 1 h' v0_7 m.R7∧G9 I4 6 h' v0_9 m.J9):=by
 intro L
 obtain ⟨b5,ay,K,M,N,rfl,aA,aB,aC,aD,aE⟩:=ax
 refine I7.enter func38 z z z<|Sr<|To (O.box z z z λP=>To (O.alloc A6Y z z λS=>Nt<|Sr<|Vv (V.fa M0 z)<|Vv (V.ldO (k:=0) O7 z (j:=1) z z)<|bE H λU aG H=>To (O.G6 z (B7Q aA aG _) z λn b6 b7 b8 aI=>?_)))
 obtain ⟨aJ,aK,W⟩:=aI
 refine O8 _ aK<|Vv (V.fa M0 z)<|T.Q7 0 z λaM aN=>To (O.st (vs:=[n]) (k:=0) O7 z z (j:=2) z aN (by (simp only [BT,aM]) <;> rfl) ?_)
 refine T.fl ?_
 refine Nt<|Sq<|Sr<|Vv (V.fa M0 z)<|Vv (V.ldO (k:=0) O7 z (j:=0) z z)<|Vv (V.A2p O1 z (j:=1) z W.len)<|Mv z<|Nt ?_
 obtain ⟨aO,aP,aS⟩:=J4 H
 have H:=aP
 refine Bl<|T.fs [1,2,2] ?_
 refine T.lk [1,2,11] (FUEL,U,(0:Int),aJ) (λ⟨o,p,d,c⟩=>([(12,qi d)],blk P (.cells [n,ay,K,M,N].toArray 33)::blk S (.cells [qs,qs,qs,qs,qs].toArray 33)::F3 139 7 n c::L,λhh=>iter (A2L U) o (p,d)=some aO∧A8 I1 hh c p)) ⟨H,W⟩ ?_
 rintro ⟨o,p,d,c⟩ b9 bh ⟨aU,q⟩
 obtain ⟨aV,bl,rfl,H,X⟩:=G5 aU
 refine T.norm [12,1,2,11] z<|T.fl ?_
 refine Sr<|Wl z z<|Nt<|Sq<|T.cH H z (λH=>?_) λH=>?_
 ·refine Ks<|Sq<|Bl<|Sm z<|An z<|T.fs [2,1] ?_
  refine T.dw (.vs [0,1,2,3,4,5] (.x 6 (.v 7 (.x 8 (.alt 9 (.g (.alt 10 (.v 11 (.alt 12 .done .no)) .no)) .no))))) 12 2 1 ?_
  refine Tv z (V.fa M0 z)<|Tv z (Val.XA λ_ _ _=>V.ldO (k:=0) O7 z (j:=0) z z)<|Tm z z<|Tv z (V.fa M0 z)<|Tv z (Val.XA λ_ _ _=>V.ldO (k:=0) O7 z (j:=0) z z)<|Tm z z<|bE H λbv Y H=>?_
  obtain ⟨bz,aW,⟨ca,rfl,aX⟩⟩:=A8.get q Y
  refine T.tx z z (Val.XA λ_ _ _=>V.ixR O1 z z (j:=1) z (A8.bd q Y)) z Calm.i<|Tv z (V.fa X8 z)<|T.tx z z (Val.XA λ_ _ _=>V.D3W (k:=4) D9 z (j:=1) z aW z) z Calm.i<|bE H λaY aZ H=>Tp z z (X3 [0] [1,1] z z) (O.G6 z (A1f aX aZ _) z λy cb cc cd a0=>?_) T.O4
  obtain ⟨ce,a1,a2⟩:=a0
  refine O8 _ a1<|T.N8 Li<|bE H λb Z H=>?_
  obtain ⟨cf,a3,⟨C,rfl,cg⟩⟩:=A8.get q Z
  refine Ts z z (X3 [1] [2,2] z z) (V.ixR O1 z z (j:=2) z (A8.bd q Z)) z ?_ T.O4
  refine Tv z (V.fa X8 z)<|T.J8 λaa ci a4=>have D:=A8.slc a4 a2.u; bE H λab a5 H=>Tp z z (SX.two (XA.fr [0] Li z) (XA.fr [1,1] Li z)) (O.D2N (k:=4) D9 z z (j:=1) z (G9.cells D) (by (simp only [BT,G9.one D]) <;> rfl) z a3 ?_) T.O4
  have a6:A8 I1 aa (c.set d.toNat (over [.string b.F8,.int .u8 b.P8,qi b.fA,qi b.fB,C,qi b.fX,qi b.fY] [y] 4)) ab:=A8.set q.u (show I1 aa (over [.string b.F8,.int .u8 b.P8,qi b.fA,qi b.fB,C,qi b.fX,qi b.fY] [y] 4) (D7.mk b.F8 b.P8 b.fA b.fB aY b.fX b.fY) from ⟨y,z,D⟩) a5
  refine T.M9 (SX.one (XA.fr [1] Li z) z)<|Bn<|Th<|Rg<|bE H λa7 a8 H=>Ws z z a8<|Mv z<|Nt<|T.fs [2,2] ?_
  exact T.ag (aV,ab,a7,(c.set d.toNat (over [.string b.F8,.int .u8 b.P8,qi b.fA,qi b.fB,C,qi b.fX,qi b.fY] [y] 4))) ⟨(D8 H X),a6⟩
 refine Xt<|have H:=D5 H X; Be<|Th<|have H:=H7 H aS; Sr<|Vv (V.fa Q3 z)<|Vv (V.ldO (k:=1) M8 z (j:=0) z z)<|bE H λac a9 H=>To (O.G6 z (B8B aB.u a9 _) z λA cj ck cm ah=>?_)
 obtain ⟨al,av,ad⟩:=ah
 refine O8 _ av<|Vv (V.fa Q3 z)<|T.Q7 0 z λaz ba=>To (O.st (vs:=[A]) (k:=1) M8 z z (j:=1) z ba (by (simp only [BT,az]) <;> rfl) ?_)
 refine T.fl ?_
 refine Nt<|Sq<|Sr<|Vv (V.fa Q3 z)<|Vv (V.ldO (k:=1) M8 z (j:=0) z z)<|Vv (V.A2p O3 z (j:=1) z ad.len)<|Mv z<|Nt ?_
 obtain ⟨bb,bc,be⟩:=J4 H
 have H:=bc
 refine Bl<|T.fs [1,3,3,3] ?_
 refine T.lk [1,2,34] (FUEL,ac,(0:Int),al) (λ⟨r,s,e,f⟩=>([(35,qi e)],blk P (.cells [n,A,K,M,N].toArray 33)::blk S (.cells [qs,qs,qs,qs,qs].toArray 33)::F3 139 7 n c::F3 121 9 A f::L,λhh=>iter (A2P ac) r (s,e)=some bb∧A8 I9 hh f s)) ⟨H,ad⟩ ?_
 rintro ⟨r,s,e,f⟩ cn co ⟨bf,w⟩
 obtain ⟨bg,cp,rfl,H,ae⟩:=G5 bf
 refine T.norm [35,1,2,34] z<|T.fl ?_
 refine Sr<|Wl z z<|Nt<|Sq<|T.cH H z (λH=>?_) λH=>?_
 ·refine Ks<|Sq<|Bl<|Sm z<|An z<|T.fs [3,1] ?_
  refine T.dw (.vs [0,1,2,3,4,5] (.x 6 (.v 7 (.x 8 (.alt 9 (.g (.alt 10 (.v 11 (.alt 12 .done .no)) .no)) .no))))) 12 2 1 ?_
  refine Tv z (V.fa Q3 z)<|Tv z (Val.XA λ_ _ _=>V.ldO (k:=1) M8 z (j:=0) z z)<|Tm z z<|Tv z (V.fa Q3 z)<|Tv z (Val.XA λ_ _ _=>V.ldO (k:=1) M8 z (j:=0) z z)<|Tm z z<|bE H λcq af H=>?_
  obtain ⟨cr,bi,⟨cs,rfl,bj⟩⟩:=A8.get w af
  refine T.tx z z (Val.XA λ_ _ _=>V.ixR O3 z z (j:=1) z (A8.bd w af)) z Calm.i<|Tv z (V.fa A0x z)<|T.tx z z (Val.XA λ_ _ _=>V.D3W (k:=8) A1F z (j:=1) z bi z) z Calm.i<|bE H λbk bm H=>Tp z z (X3 [0] [1,1] z z) (O.G6 z (B0i bj bm _) z λB ct cu cw bn=>?_) T.O4
  obtain ⟨cx,bo,bp⟩:=bn
  refine O8 _ bo<|T.N8 Li<|bE H λa ai H=>?_
  obtain ⟨cy,bq,⟨E,rfl,cA⟩⟩:=A8.get w ai
  refine Ts z z (X3 [1] [2,2] z z) (V.ixR O3 z z (j:=2) z (A8.bd w ai)) z ?_ T.O4
  refine Tv z (V.fa A0x z)<|T.J8 λaj cB br=>have G:=A8.slc br bp.u; bE H λak bs H=>Tp z z (SX.two (XA.fr [0] Li z) (XA.fr [1,1] Li z)) (O.D2N (k:=8) A1F z z (j:=1) z (G9.cells G) (by (simp only [BT,G9.one G]) <;> rfl) z bq ?_) T.O4
  have bt:A8 I9 aj (f.set e.toNat (over [.string a.F8,.string a.A2b,.string a.V6,qi a.A0o,qi a.A0y,.string a.A0z,.bool a.X7,.bool a.Y4,E] [B] 8)) ak:=A8.set w.u (show I9 aj (over [.string a.F8,.string a.A2b,.string a.V6,qi a.A0o,qi a.A0y,.string a.A0z,.bool a.X7,.bool a.Y4,E] [B] 8) (E9.mk a.F8 a.A2b a.V6 a.A0o a.A0y a.A0z a.X7 a.Y4 bk) from ⟨B,z,G⟩) bs
  refine T.M9 (SX.one (XA.fr [1] Li z) z)<|Bn<|Th<|Rg<|bE H λbu bw H=>Ws z z bw<|Mv z<|Nt<|T.fs [3,3,3] ?_
  exact T.ag (bg,ak,bu,(f.set e.toNat (over [.string a.F8,.string a.A2b,.string a.V6,qi a.A0o,qi a.A0y,.string a.A0z,.bool a.X7,.bool a.Y4,E] [B] 8))) ⟨(D8 H ae),bt⟩
 refine Xt<|have H:=D5 H ae; Be<|Th<|have H:=H7 H be; Sq<|T.dw (.v 0 (.x 1 (.v 3 (.x 4 (.v 6 (.x 7 (.alt 2 (.g (.v 9 (.alt 5 (.g (.alt 8 (.g (.alt 10 (.g (.v 11 (.alt 12 (.g (.v 13 (.alt 14 .done .no))) .no))) .no)) .no)) .no))) .no))))))) 10 1 0 ?_
 refine Tv z (V.fa A9C z)<|T.tx z z (Val.XA λ_ _ _=>V.ldO (k:=2) A1R z (j:=0) z z) z Calm.i<|Tv z (V.fa A5O z)<|T.tx z z (Val.XA λ_ _ _=>V.ldO (k:=3) D9 z (j:=0) z z) z Calm.i<|Tv z (V.fa A2v z)<|T.tx z z (Val.XA λ_ _ _=>V.ldO (k:=4) A1h z (j:=0) z z) z Calm.i<|bE H λcC bx H=>Tp z z (X3 [] [0] z z) (O.G6 z (C0M aC.u bx _) z λam cD cE cG bA=>?_) T.O4
 obtain ⟨cI,bB,bC⟩:=bA
 refine O8 _ bB<|T.N8 Li<|Tv z (V.fa A9C z)<|bE H λcJ bD H=>Tp z z (X3 [] [1] z z) (O.G6 z (A1f aD.u bD _) z λan cK cM cN bG=>?_) T.O4
 obtain ⟨cO,bI,bJ⟩:=bG
 refine O8 _ bI<|T.N8 Li<|bE H λcP bK H=>Tp z z (X3 [] [2] z z) (O.G6 z (B9z aE.u bK _) z λao cS cU cV bM=>?_) T.O4
 obtain ⟨cW,bN,bO⟩:=bM
 refine O8 _ bN<|T.N8 Li<|T.Q7 2 z λbP bS=>Tp z z (X3 [] [3] z z) (O.st (vs:=[am]) (k:=2) A1R z z (j:=3) z bS (by (simp only [BT,bP]) <;> rfl) ?_) T.O4
 refine T.fl ?_
 refine T.N8 Lr<|Tv z (V.fa A5O z)<|T.Q7 2 z λbU bV=>Tp z z (SX.one (XA.fr [] Lr z) z) (O.st (vs:=[an]) (k:=3) D9 z z (j:=0) z bV (by (simp only [BT,bU]) <;> rfl) ?_) T.O4
 refine T.fl ?_
 refine T.N8 Lr<|Tv z (V.fa A2v z)<|T.Q7 1 z λbW bX=>Tp z z (SX.one (XA.fr [] Lr z) z) (O.st (vs:=[ao]) (k:=4) A1h z z (j:=0) z bX (by (simp only [BT,bW]) <;> rfl) ?_) T.O4
 refine T.fl ?_
 refine T.M9 (SX.one (XA.fr [] Lr z) z)<|Th<|Sr<|Vv (V.A5r (j:=0) (by exact J7) z z) ?_
 refine T.fs [5] ?_
 refine T.J8 λcX cY bY=>have ap:=A8.slc bY q.u; T.fs [5] ?_
 refine T.J8 λcZ c0 bZ=>have aq:=A8.slc bZ w.u; T.fs [3] ?_
 refine T.J8 λc1 c2 b0=>have ar:=A8.slc b0 bC.u; T.fs [2] ?_
 refine T.J8 λc3 c4 b1=>have au:=A8.slc b1 bJ.u; T.fs [1] ?_
 refine T.J8 λc5 c6 b2=>have aw:=A8.slc b2 bO.u; To (O.stF (vs:=[n,A,am,an,ao]) J7 z z (j:=1) z z (by (simp only [BT,G9.one ap,G9.one aq,G9.one ar,G9.one au,G9.one aw]) <;> rfl) z ?_)
 refine T.freeze λc7 c8 b3=>have b4:=Y2.of b3; Nr<|T.drop ?_
 cases H
 exact T.rl z (RVs.cons (RV.B2Y z b4 J7) RVs.nil) ⟨_,_,_,_,_,z,z,ap.u,aq.u,ar.u,au.u,aw.u⟩
theorem A6U {h c d e f g i j} (E:Pt M4 h c d) (G:I4 h e f) (H:A6k d f=some (g,i,j)):∀ L,FnW prog 143 [c,.agg e.toArray] h L (.tuple #[.int .i64 g,.int .i64 i,.bool j]):=by
 intro L
 obtain rfl:=G
 refine I7.enter func143 z z z<|Sr<|To (O.T9 z z z λZ aa ab m=>Ag z<|Ag z<|An z<|Sq<|T.dw (.vs [0,1,2,3,4,5,6,7,8,10,11,12,13,14,15,16,17,18] (.alt 9 (.alt 19 (.alt 20 (.alt 21 .done .no) .no) .no) .no)) 23 0 0 ?_)
 refine Tm z z<|have I:=E; ?_
 obtain ⟨ac,_,rfl,a,⟨ad,ae,af,rfl,J,b,ag⟩⟩:=I
 refine TL z z z z G8 I6 a.u z<|have K:=J; ?_
 obtain ⟨ai,_,rfl,n,⟨o,p,q,r,s,aj,ak,am,an,ao,ap,aq,ar,au,rfl,w,x,y,A,B,aw,ax,ay,aA,aB,aC,aD,aE,aG⟩⟩:=K
 refine TF z z z L8<|Tv z (V.C8Y (k:=0) B1J z n.u (Nat.le_of_ble_eq_true z))<|Tv z (V.fa Y8 z)<|Td z 2 J3 z m z<|Tm z z<|TL z z z z G8 I6 a.u z<|TF z z z L8<|Tv z (V.C8Y (k:=0) B1J z n.u (Nat.le_of_ble_eq_true z))<|Tv z (V.fa A4b z)<|Td z 3 J3 z m z<|bE H λaI M H=>Tp z z (X2 z z) (O.G6 z (A2j ⟨o,p,q,r,s,z,w.u,x.u,y.u,A.u,B.u⟩ M _) z λaJ aK aM aN N=>?_) T.O4
 obtain ⟨rfl,P⟩:=N
 refine O8 _ P<|bE H λaO S H=>Tp z z (SX.two (XA.fr [] Li z) (XA.fr [] Li z)) (O.G6 z (A2j ⟨o,p,q,r,s,z,w.u,x.u,y.u,A.u,B.u⟩ S _) z λaP aS aU aV U=>?_) T.O4
 obtain ⟨rfl,W⟩:=U
 refine O8 _ W<|Ts z z (SX.two (XA.fr [] Li z) (XA.fr [] Li z)) (V.asg z) z ?_ T.O4
 refine Ts z z (SX.two (XA.fr [] Li z) (XA.fr [] Li z)) (V.asg z) z ?_ T.O4
 refine T.M9 (SX.two (XA.fr [] Li z) (XA.fr [] Li z))<|Th<|Sq<|T.dw (.vs [0,1,2,3,4,5,6,7,8,9,10,11,12,13,14,15,16,17,18,19] (.alt 20 (.alt 21 (.alt 22 .done .no) .no) .no)) 24 0 0 ?_
 refine Tm z z<|Tm z z<|Tm z z<|TL z z z z P6 D9 a.u z<|Tm z z<|bE H λaW C H=>?_
 obtain ⟨aX,X,rfl⟩:=G9.at b C
 refine Tv z (V.ix A9 z z b (E8 C))<|Tv z (V.Q9 D6 z X.u z)<|Tv z (V.ge z z)<|Tm z z<|T.bH 39 H z (λH=>?_) λH=>?_
 ·refine Tm z z<|TL z z z z P6 D9 a.u z<|Tm z z<|bE H λaY D H=>?_
  obtain ⟨aZ,Y,rfl⟩:=G9.at b D
  refine Tv z (V.ix A9 z z b (E8 D))<|Tv z (V.Q9 D6 z Y.u z)<|Tv z (V.ge z z)<|Tv z (V.pkT z z)<|Ts z z (X2 z z) (V.asg z) z ?_ T.O4
  refine Ts z z (X2 z z) (V.asg z) z ?_ T.O4
  refine Ts z z (X2 z z) (V.asg z) z ?_ T.O4
  exact T.M9 (X2 z z)<|Th<|T.ret<|E1 H
 refine T2 z z<|T2 z z<|T2 z z<|T2 z z<|Tv z (V.pkF z z)<|Ts z z (X2 z z) (V.asg z) z ?_ T.O4
 refine Ts z z (X2 z z) (V.asg z) z ?_ T.O4
 refine Ts z z (X2 z z) (V.asg z) z ?_ T.O4
 exact T.M9 (X2 z z)<|Th<|T.ret<|E1 H
theorem B9k {h c d e f g i} (p:Pt M4 h c d) (H:B3w d e f=some (g,i)):∀ L,FnW prog 144 [c,.int .i64 e,.int .i64 f] h L (.tuple #[.int .i64 g,.bool i]):=by
 intro L
 refine I7.enter func144 z z z<|Sg z<|An z<|Sq<|T.dw (.vs [0,1,2,3,4,5,6,7,8,9,10,11,12,13,14,15,16,17,18,19,20,21,22,23,24,25,26] (.alt 27 (.alt 28 .done .no) .no)) 30 0 0 ?_
 refine Tm z z<|have q:=p; ?_
 obtain ⟨D,_,rfl,b,⟨E,G,I,rfl,r,a,J⟩⟩:=q
 refine TL z z z z G8 I6 b z<|have s:=r; ?_
 obtain ⟨K,_,rfl,u,⟨M,N,O,P,S,U,W,X,Y,Z,aa,ab,ac,ad,rfl,ae,af,ag,ai,aj,ak,am,an,ao,ap,aq,j,ar,au⟩⟩:=s
 refine TL z z z z B2k B6o u z<|Tm z z<|TL z z z z P6 D9 b z<|Tm z z<|bE H λaw m H=>?_
 obtain ⟨ax,w,rfl⟩:=G9.at a m
 refine Tv z (V.ix A9 z z a (E8 m))<|Tv z (V.Q9 D6 z w z)<|bE H λay n H=>?_
 obtain ⟨aA,x,⟨aB,rfl,y⟩⟩:=G9.at j n
 refine Tv z (V.ix B6z z z j (E8 n))<|Tv z (V.Q9 C6w z x z)<|Tm z z<|TL z z z z P6 D9 b z<|Tm z z<|bE H λaC o H=>?_
 obtain ⟨aD,A,rfl⟩:=G9.at a o
 refine Tv z (V.ix A9 z z a (E8 o))<|Tv z (V.Q9 D6 z A z)<|bE H λ⟨aE,aG⟩ B H=>?_
 obtain ⟨_,C,rfl⟩:=Mp.look (zc:=[qi 0]) (agg:=false) underlying112 (A0t.int underlying3) J6 (show (VI .i64) h [qi 0] (0:Int) from rfl) y B
 refine Tv z (V.lkF z z C)<|Tm z z<|Tv z (V.ext z z)<|Tv z (V.ext z z)<|Ts z z (X2 z z) (V.asg z) z ?_ T.O4
 refine Ts z z (X2 z z) (V.asg z) z ?_ T.O4
 exact T.M9 (X2 z z)<|Th<|Sq<|T.norm [8,9] z<|Rg<|Mv z<|Mv z<|Ag z<|Ag z<|Nr<|E1 H
theorem A3E {h i d j m n e o} (y:Pt M4 h i d) (p:G9 (VSl (VI .i64) 1) 1 h j m) (H:A1Q d m n e=some o):∀ L,FnW prog 145 [i,j,.int .i64 n,.int .i64 e] h L (.bool o):=by
 intro L
 refine I7.enter func145 z z z<|Sr<|An z<|Sq<|Sm z<|Mv z<|have A:=y; ?_
 obtain ⟨P,_,rfl,q,⟨S,U,W,rfl,X,c,Y⟩⟩:=A
 refine NL z P6 D9 q z<|Mv z<|bE H λZ r H=>?_
 obtain ⟨aa,B,rfl⟩:=G9.at c r
 refine Vv (V.ix A9 z z c (E8 r))<|Vv (V.Q9 D6 z B z)<|bE H λC s H=>?_
 obtain ⟨ab,D,⟨ac,rfl,f⟩⟩:=G9.at p s
 refine Vv (V.ix K7 z z p (E8 s))<|Vv (V.Q9 D9 z D z)<|Vv (V.P7 A9 z f)<|Mv z<|Nt ?_
 obtain ⟨E,G,t⟩:=J4 H
 have H:=G
 refine Bl<|T.lk [0,3,20,21] (FUEL,(0:Int)) (λ⟨a,b⟩=>([(22,qi b)],L,λhh=>iter (A5v d e C) a b=some E)) H ?_
 rintro ⟨a,b⟩ ad ae I
 obtain ⟨J,af,rfl,H,g⟩:=G5 I
 refine T.norm [22,0,3,20,21] z<|T.fl ?_
 refine Sr<|Wl z z<|Nt<|Sq<|T.cH H z (λH=>?_) λH=>?_
 ·refine Ks<|Sq<|Bl<|Sr<|bE H λai w H=>?_
  obtain ⟨aj,K,rfl⟩:=G9.at f w
  refine Vv (V.ix A9 z z f (E8 w))<|Vv (V.Q9 D6 z K.u z)<|An z<|Sm z<|Mv z<|NL z P6 D9 q.u z<|Mv z<|bE H λak x H=>?_
  obtain ⟨am,M,rfl⟩:=G9.at c x
  refine Vv (V.ix A9 z z c (E8 x))<|Vv (V.Q9 D6 z M.u z)<|We z z<|Nt<|T.cH H z (λH=>?_) λH=>?_
  ·exact Sg z<|Nr<|Br<|Tr<|Tr<|have H:=D5 H g; Br<|Tr<|have H:=H7 H t; E1 H
  refine T.skip<|Bn<|Th<|Rg<|bE H λN O H=>Ws z z O<|Mv z<|Nt<|T.ag (J,N) (D8 H g)
 exact Xt<|have H:=D5 H g; Be<|Th<|have H:=H7 H t; Sg z<|Nr<|E1 H
theorem A9T {h e f g i j} (ac:Pt M4 h e f) (H:A5Z f g i=some j):∀ L,FnW prog 152 [e,.int .i64 g,.int .i64 i] h L (.bool j):=by
 intro L
 refine I7.enter func152 z z z<|Sr<|An z<|Sm z<|Mv z<|have ad:=ac; ?_
 obtain ⟨ao,_,rfl,a,⟨ap,m,n,rfl,ae,o,p⟩⟩:=ad
 refine NL z G8 I6 a z<|have af:=ae; ?_
 obtain ⟨q,_,rfl,b,⟨r,s,t,w,x,y,A,B,C,D,E,G,I,J,rfl,K,M,N,P,S,U,W,X,Y,c,d,Z,aa,ab⟩⟩:=af
 refine NL z A2e S9 b z<|Mv z<|Mv z<|bE H λaq ag H=>To (O.cs (A3E (Pt.mk a ⟨(.pointer (some q)),m,n,z,(Pt.mk b ⟨r,s,t,w,x,y,A,B,C,D,E,G,I,J,z,K,M,N,P,S,U,W,X,Y,c,d,Z,aa,ab⟩),o,p⟩) c ag _) λau ax=>Mv z<|T.bH 18 H z (λH=>?_) λH=>?_)
 ·exact S2<|S2<|S2<|S2<|S2<|Sk<|Kt z<|Ag z<|Nr<|E1 H
 exact Mv z<|Mv z<|NL z G8 I6 a.u z<|NL z A4G S9 b.u z<|Mv z<|Mv z<|bE H λay ak H=>To (O.cs (A3E (Pt.mk a.u ⟨(.pointer (some q)),m,n,z,(Pt.mk b.u ⟨r,s,t,w,x,y,A,B,C,D,E,G,I,J,z,K.u,M.u,N.u,P.u,S.u,U.u,W.u,X.u,Y.u,c.u,d.u,Z.u,aa.u,ab.u⟩),o.u,p.u⟩) d.u ak _) λaB aD=>Kf z<|Ag z<|Nr<|E1 H)
theorem A5f {h a b c d e f} (q:Pt M4 h a b) (r:I4 h c d) (H:A4j b d e=some f):∀ L,FnW prog 150 [a,.agg c.toArray,.int .i64 e] h L (.bool f):=by
 intro L
 obtain rfl:=r
 refine I7.enter func150 z z z<|Sr<|To (O.T9 z z z λB C D g=>An z<|Sq<|T.dw (.vs [0,1,2,3,4,5,6,7,8,9,10,11,12,13,14,15,16,17,18,19,20,21,22,23,24,25,26,27,28] (.alt 29 .done .no)) 31 0 0 ?_)
 refine Tv z (V.fa U8 z)<|Td z 4 J3 z g z<|Tv z (V.seq z z)<|Tm z z<|T.bH 10 H z (λH=>?_) λH=>?_
 ·refine T2 z z<|T2 z z<|T2 z z<|T2 z z<|T2 z z<|T2 z z<|T2 z z<|T2 z z<|T2 z z<|T2 z z<|T2 z z<|T2 z z<|Tv z (V.pkT z z)<|Ts z z (X2 z z) (V.asg z) z ?_ T.O4
  exact T.M9 (X2 z z)<|Th<|T.ret<|E1 H
 refine Tv z (V.fa U8 z)<|Td z 4 J3 z g z<|Tm z z<|have s:=q; ?_
 obtain ⟨E,_,rfl,i,⟨G,I,J,rfl,w,K,M⟩⟩:=s
 refine TL z z z z G8 I6 i.u z<|have x:=w; ?_
 obtain ⟨N,_,rfl,j,⟨P,S,U,W,X,Y,Z,aa,ab,ac,ad,ae,af,ag,rfl,m,ai,aj,ak,am,an,n,ao,ap,aq,ar,au,aw,ax⟩⟩:=x
 refine TF z z z L8<|Tv z (V.fa B0L z)<|Td z 0 O7 z j.u z<|Tm z z<|TL z z z z G8 I6 i.u z<|TL z z z z U2 D9 j.u z<|Tm z z<|bE H λay o H=>?_
 obtain ⟨aA,y,rfl⟩:=G9.at n o
 refine Tv z (V.ix A9 z z n (E8 o))<|Tv z (V.Q9 D6 z y.u z)<|bE H λaB p H=>?_
 obtain ⟨aC,A,⟨aD,rfl,aE⟩⟩:=G9.at m p
 refine Tv z (V.ix O1 z z m (E8 p))<|Tv z (V.fa A0i z)<|Td z 0 J3 z A.u z<|Tv z (V.seq z z)<|Tv z (V.pkF z z)<|Ts z z (X2 z z) (V.asg z) z ?_ T.O4
 exact T.M9 (X2 z z)<|Th<|T.ret<|E1 H
theorem C2q {σ:Type} {R:σ→PH→List E5→Prop} {s:σ→Int→(List Int)→Option σ} {w:σ} {q_s:σ} {h x y A a B La} (q:Pt M4 h x y) (N:I4 h A a) (b:V5 R h B s) (hRa:R w h La) (H:B2E y a s w=some q_s):∀ As L,I7 prog 86 [x,.agg A.toArray,B] h ((As++(La++L))) (λv h' L'=>∃ La',v=.tuple #[]∧L'=(As++(La'++L))∧R q_s h' La'):=by
 intro As L
 obtain rfl:=N
 refine I7.enter func86 z z z<|Sr<|To (O.T9 z z z λaZ P c r=>Nt<|Sm z<|Vv (V.ldS z r (by exact K3)) ?_)
 refine bE H λ⟨i,j,a0⟩ S H=>To (O.cs (A6U q.u (show I4 P [.int .u8 a.F9,qi a.K6,.string a.fA,.string a.fB,.string a.I5,qi a.fN] a from z) S _) λa2 d=>Mv z<|Wx z z<|Wx z z<|Wx z z<|Ag z<|Ag z<|An z<|Sq<|Sq ?_)
 obtain ⟨X,Y,Z⟩:=J4 H
 refine T.ck (α:=Bool) [0,2,4,6,7] (λf=>([(54,.bool f)],(As++(La++L)),λhh=>X=f)) ?_ ?_
 ·have H:=Y
  refine T.dw (.vs [0,1,2,3,4,5,6,7,8,9,10,11,12,13,14,15,16,17,18,19,20,21,22,23,24,25,26,27,28,29,30,31,32,33,34,35,36] .done) 38 0 0 ?_
  refine Tm z z<|Tv z (V.not z)<|Tm z z<|T.bH 20 H z (λH=>?_) λH=>?_
  ·refine T2 z z<|T2 z z<|T2 z z<|T2 z z<|T2 z z<|T2 z z<|T2 z z<|T2 z z<|T2 z z<|T2 z z<|T2 z z<|T2 z z<|T2 z z<|T2 z z<|T2 z z<|T2 z z<|Tk z<|Tv z (V.pkT z z)<|T.M9 (X2 z z)<|Th<|T.mt true (K9 H)
  refine Tm z z<|have aa:=q; ?_
  obtain ⟨a4,_,rfl,m,⟨a5,a6,a7,rfl,ab,n,a8⟩⟩:=aa
  refine TL z z z z G8 I6 m.u z<|have ac:=ab; ?_
  obtain ⟨a9,_,rfl,C,⟨ah,al,av,az,ba,bb,bc,bd,be,bf,bg,bi,bj,bk,rfl,bm,bn,bo,bp,bq,br,o,bt,bu,bw,bx,bA,bB,bC⟩⟩:=ac
  refine TL z z z z U2 D9 C.u z<|Tm z z<|TL z z z z P6 D9 m.u z<|Tm z z<|bE H λbD D H=>?_
  obtain ⟨bG,ad,rfl⟩:=G9.at n D
  refine Tv z (V.ix A9 z z n (E8 D))<|Tv z (V.Q9 D6 z ad.u z)<|bE H λae E H=>?_
  obtain ⟨bI,af,rfl⟩:=G9.at o E
  refine Tv z (V.ix A9 z z o (E8 E))<|Tv z (V.Q9 D6 z af.u z)<|Tm z z<|TL z z z z G8 I6 m.u z<|TL z z z z U2 D9 C.u z<|Tm z z<|TL z z z z P6 D9 m.u z<|Tm z z<|bE H λbJ G H=>?_
  obtain ⟨bK,ag,rfl⟩:=G9.at n G
  refine Tv z (V.ix A9 z z n (E8 G))<|Tv z (V.Q9 D6 z ag.u z)<|bE H λai I H=>?_
  obtain ⟨bM,aj,rfl⟩:=G9.at o I
  refine Tv z (V.ix A9 z z o (E8 I))<|Tv z (V.Q9 D6 z aj.u z)<|Tv z (V.ne z z)<|Tv z (V.pkF z z)<|T.M9 (X2 z z)<|Th<|T.mt (!decide (ae=ai)) (K9 H)
 rintro f bN g ak
 have H:=H7 ak Z
 refine T.norm [54,0,2,4,6,7] z<|O8 ((As++(La++L))) z<|T.cH H z (λH=>?_) λH=>?_
 ·refine T.ret<|Tr<|have am:=((c.trans d).trans g); have an:=b.2.1 _ _ _ _ am hRa; ?_
  cases H
  exact T.C4Q results86 Li ⟨La,z,z,an⟩
 refine Ks<|Sm z<|Mv z<|Mv z<|bE H λ⟨bO,bP⟩ ao H=>To (O.cs (B9k q.u ao _) λJ p=>Mv z<|Wx z z<|Wx z z<|Ag z<|An z<|Sr<|Vv (V.fa U0 z)<|Wd 5 D6 z r.u z<|We z z<|Mv z<|T.bH 65 H z (λH=>?_) λH=>?_)
 ·refine S2<|S2<|S2<|Sk<|Kt z<|Nt<|Ct z<|Rg<|Mv z<|Mv z<|Mv z<|To (O.bq A9 J6 [.tmp 75,.tmp 76] (VI .i64) [[qi i],[qi j]] [i,j] λbV ar=>T.J8 λbW au aw=>have ax:=A8.slc aw ar.u; bE H λbX ay H=>have aA:=((((c.trans d).trans g).trans p).trans au); have aB:=b.2.1 _ _ _ _ aA hRa; To (O.A4f z z (V5.call b.u ax aB ay As _) z λbY bZ b0 b1 aC=>?_))
  obtain ⟨K,rfl,aD,aE⟩:=aC
  refine O8 ((As++(K++L))) aD<|Ni ?_
  cases H
  exact T.A0R results86 Li ⟨K,z,z,aE⟩
 refine Mv z<|Mv z<|T.bH 67 H z (λH=>?_) λH=>?_
 ·refine Mv z<|Vv (V.fa U0 z)<|Wd 5 D6 z r.u z<|Wl z z<|Kt z<|Kf z<|Nt<|T.cH H z (λH=>?_) λH=>?_
  ·refine Rg<|Mv z<|Mv z<|Mv z<|To (O.bq A9 J6 [.tmp 75,.tmp 76] (VI .i64) [[qi i],[qi j]] [i,j] λb2 aG=>T.J8 λb3 aI aJ=>have aK:=A8.slc aJ aG.u; bE H λb4 aM H=>have aN:=((((c.trans d).trans g).trans p).trans aI); have aO:=b.2.1 _ _ _ _ aN hRa; To (O.A4f z z (V5.call b.u aK aO aM As _) z λb5 b6 b7 b8 aP=>?_))
   obtain ⟨M,rfl,aS,aU⟩:=aP
   refine O8 ((As++(M++L))) aS<|Ni ?_
   cases H
   exact T.A0R results86 Li ⟨M,z,z,aU⟩
  refine T.skip<|have aV:=(((c.trans d).trans g).trans p); have aW:=b.2.1 _ _ _ _ aV hRa; ?_
  cases H
  exact T.A0R results86 Li ⟨La,z,z,aW⟩
 refine S2<|S2<|Kf z<|Kf z<|Nt<|Cf z<|T.skip<|have aX:=(((c.trans d).trans g).trans p); have aY:=b.2.1 _ _ _ _ aX hRa; ?_
 cases H
 exact T.A0R results86 Li ⟨La,z,z,aY⟩
theorem B6w {σ:Type} {R:σ→PH→List E5→Prop} {f:σ→Int→(List Int)→Option σ} {g:σ} {q_s:σ} {h i j m a n La} (o:Pt M4 h i j) (y:I4 h m a) (b:V5 R h n f) (hRa:R g h La) (H:A5C j a f g=some q_s):∀ As L,I7 prog 87 [i,.agg m.toArray,n] h ((As++(La++L))) (λv h' L'=>∃ La',v=.tuple #[]∧L'=(As++(La'++L))∧R q_s h' La'):=by
 intro As L
 obtain rfl:=y
 refine I7.enter func87 z z z<|Sr<|To (O.T9 z z z λa0 A c B=>Nt<|Sm z<|Vv (V.ldS z B (by exact K3)) ?_)
 refine bE H λ⟨p,q,a1⟩ C H=>To (O.cs (A6U o.u (show I4 A [.int .u8 a.F9,qi a.K6,.string a.fA,.string a.fB,.string a.I5,qi a.fN] a from z) C _) λa3 d=>Mv z<|Wx z z<|Wx z z<|Wx z z<|Ag z<|Ag z<|An z<|Sm z<|Mv z<|T.bH 17 H z (λH=>?_) λH=>?_)
 ·refine Mv z<|Mv z<|have G:=o; ?_
  obtain ⟨a5,_,rfl,r,⟨a6,I,J,rfl,K,M,N⟩⟩:=G
  refine NL z G8 I6 r.u z<|have P:=K; ?_
  obtain ⟨S,_,rfl,s,⟨U,W,X,Y,Z,aa,ab,ac,ad,ae,af,ag,ai,aj,rfl,ak,am,an,ao,ap,aq,ar,au,aw,t,ax,ay,aA,aB⟩⟩:=P
  refine NL z A2e S9 s.u z<|Mv z<|Mv z<|bE H λa7 aC H=>To (O.cs (A3E (Pt.mk r.u ⟨(.pointer (some S)),I,J,z,(Pt.mk s.u ⟨U,W,X,Y,Z,aa,ab,ac,ad,ae,af,ag,ai,aj,z,ak.u,am.u,an.u,ao.u,ap.u,aq.u,ar.u,au.u,aw.u,t.u,ax.u,ay.u,aA.u,aB.u⟩),M.u,N.u⟩) t.u aC _) λaD w=>Vv (V.not z)<|Kt z<|Nt<|T.cH H z (λH=>?_) λH=>?_)
  ·refine Rg<|Mv z<|Mv z<|Mv z<|To (O.bq A9 J6 [.tmp 32,.tmp 33] (VI .i64) [[qi p],[qi q]] [p,q] λah aI=>T.J8 λal aJ aK=>have aM:=A8.slc aK aI.u; bE H λav aN H=>have aO:=(((c.trans d).trans w).trans aJ); have aP:=b.2.1 _ _ _ _ aO hRa; To (O.A4f z z (V5.call b.u aM aP aN As _) z λaz ba bb bc aS=>?_))
   obtain ⟨x,rfl,aU,aV⟩:=aS
   refine O8 ((As++(x++L))) aU<|Ni ?_
   cases H
   exact T.A0R results87 Li ⟨x,z,z,aV⟩
  refine T.skip<|have aW:=((c.trans d).trans w); have aX:=b.2.1 _ _ _ _ aW hRa; ?_
  cases H
  exact T.A0R results87 Li ⟨La,z,z,aX⟩
 refine S2<|S2<|S2<|S2<|S2<|S2<|Kf z<|Nt<|Cf z<|T.skip<|have aY:=(c.trans d); have aZ:=b.2.1 _ _ _ _ aY hRa; ?_
 cases H
 exact T.A0R results87 Li ⟨La,z,z,aZ⟩
theorem B6A {σ:Type} {R:σ→PH→List E5→Prop} {f:σ→Int→(List Int)→Option σ} {g:σ} {q_s:σ} {h i j m a n La} (o:Pt M4 h i j) (y:I4 h m a) (b:V5 R h n f) (hRa:R g h La) (H:A5G j a f g=some q_s):∀ As L,I7 prog 88 [i,.agg m.toArray,n] h ((As++(La++L))) (λv h' L'=>∃ La',v=.tuple #[]∧L'=(As++(La'++L))∧R q_s h' La'):=by
 intro As L
 obtain rfl:=y
 refine I7.enter func88 z z z<|Sr<|To (O.T9 z z z λa0 A c B=>Nt<|Sm z<|Vv (V.ldS z B (by exact K3)) ?_)
 refine bE H λ⟨p,q,a1⟩ C H=>To (O.cs (A6U o.u (show I4 A [.int .u8 a.F9,qi a.K6,.string a.fA,.string a.fB,.string a.I5,qi a.fN] a from z) C _) λa3 d=>Mv z<|Wx z z<|Wx z z<|Wx z z<|Ag z<|Ag z<|An z<|Sm z<|Mv z<|T.bH 17 H z (λH=>?_) λH=>?_)
 ·refine Mv z<|Mv z<|have G:=o; ?_
  obtain ⟨a5,_,rfl,r,⟨a6,I,J,rfl,K,M,N⟩⟩:=G
  refine NL z G8 I6 r.u z<|have P:=K; ?_
  obtain ⟨S,_,rfl,s,⟨U,W,X,Y,Z,aa,ab,ac,ad,ae,af,ag,ai,aj,rfl,ak,am,an,ao,ap,aq,ar,au,aw,ax,t,ay,aA,aB⟩⟩:=P
  refine NL z A4G S9 s.u z<|Mv z<|Mv z<|bE H λa7 aC H=>To (O.cs (A3E (Pt.mk r.u ⟨(.pointer (some S)),I,J,z,(Pt.mk s.u ⟨U,W,X,Y,Z,aa,ab,ac,ad,ae,af,ag,ai,aj,z,ak.u,am.u,an.u,ao.u,ap.u,aq.u,ar.u,au.u,aw.u,ax.u,t.u,ay.u,aA.u,aB.u⟩),M.u,N.u⟩) t.u aC _) λaD w=>Vv (V.not z)<|Kt z<|Nt<|T.cH H z (λH=>?_) λH=>?_)
  ·refine Rg<|Mv z<|Mv z<|Mv z<|To (O.bq A9 J6 [.tmp 32,.tmp 33] (VI .i64) [[qi p],[qi q]] [p,q] λah aI=>T.J8 λal aJ aK=>have aM:=A8.slc aK aI.u; bE H λav aN H=>have aO:=(((c.trans d).trans w).trans aJ); have aP:=b.2.1 _ _ _ _ aO hRa; To (O.A4f z z (V5.call b.u aM aP aN As _) z λaz ba bb bc aS=>?_))
   obtain ⟨x,rfl,aU,aV⟩:=aS
   refine O8 ((As++(x++L))) aU<|Ni ?_
   cases H
   exact T.A0R results88 Li ⟨x,z,z,aV⟩
  refine T.skip<|have aW:=((c.trans d).trans w); have aX:=b.2.1 _ _ _ _ aW hRa; ?_
  cases H
  exact T.A0R results88 Li ⟨La,z,z,aX⟩
 refine S2<|S2<|S2<|S2<|S2<|S2<|Kf z<|Nt<|Cf z<|T.skip<|have aY:=(c.trans d); have aZ:=b.2.1 _ _ _ _ aY hRa; ?_
 cases H
 exact T.A0R results88 Li ⟨La,z,z,aZ⟩
theorem C0y {σ:Type} {R:σ→PH→List E5→Prop} {j:σ→Int→(List Int)→Option σ} {m:σ} {q_s:σ} {h n o p a q La} (r:Pt M4 h n o) (y:I4 h p a) (b:V5 R h q j) (hRa:R m h La) (H:B0V o a j m=some q_s):∀ As L,I7 prog 89 [n,.agg p.toArray,q] h ((As++(La++L))) (λv h' L'=>∃ La',v=.tuple #[]∧L'=(As++(La'++L))∧R q_s h' La'):=by
 intro As L
 obtain rfl:=y
 refine I7.enter func89 z z z<|Sr<|To (O.T9 z z z λap A c s=>Nt<|Sm z<|Vv (V.ldS z s (by exact K3)) ?_)
 refine bE H λ⟨d,f,aq⟩ B H=>To (O.cs (A6U r.u (show I4 A [.int .u8 a.F9,qi a.K6,.string a.fA,.string a.fB,.string a.I5,qi a.fN] a from z) B _) λau g=>Mv z<|Wx z z<|Wx z z<|Wx z z<|Ag z<|Ag z<|An z<|Sm z<|Nt<|T.cH H z (λH=>?_) λH=>?_)
 ·refine Sm z<|Mv z<|Mv z<|bE H λ⟨ax,ay⟩ E H=>To (O.cs (B9k r.u E _) λt i=>Mv z<|Wx z z<|Wx z z<|Ag z<|An z<|Sm z<|Vv (V.not z)<|Mv z<|T.bH 28 H z (λH=>?_) λH=>?_)
  ·refine S2<|S2<|Kt z<|Nt<|Ct z<|Rg<|Mv z<|Mv z<|Mv z<|To (O.bq A9 J6 [.tmp 35,.tmp 36] (VI .i64) [[qi d],[qi f]] [d,f] λaC J=>T.J8 λaD K M=>have N:=A8.slc M J.u; bE H λaE P H=>have S:=(((c.trans g).trans i).trans K); have U:=b.2.1 _ _ _ _ S hRa; To (O.A4f z z (V5.call b.u N U P As _) z λaG aI aJ aK W=>?_))
   obtain ⟨w,rfl,X,Y⟩:=W
   refine O8 ((As++(w++L))) X<|Ni ?_
   cases H
   exact T.A0R results89 Li ⟨w,z,z,Y⟩
  refine Mv z<|Vv (V.fa U0 z)<|Wd 5 D6 z s.u z<|Wg z z<|Kf z<|Nt<|T.cH H z (λH=>?_) λH=>?_
  ·refine Rg<|Mv z<|Mv z<|Mv z<|To (O.bq A9 J6 [.tmp 35,.tmp 36] (VI .i64) [[qi d],[qi f]] [d,f] λaM Z=>T.J8 λaN aa ab=>have ac:=A8.slc ab Z.u; bE H λaO ad H=>have ae:=(((c.trans g).trans i).trans aa); have af:=b.2.1 _ _ _ _ ae hRa; To (O.A4f z z (V5.call b.u ac af ad As _) z λaP aS aU aV ag=>?_))
   obtain ⟨x,rfl,ai,aj⟩:=ag
   refine O8 ((As++(x++L))) ai<|Ni ?_
   cases H
   exact T.A0R results89 Li ⟨x,z,z,aj⟩
  refine T.skip<|have ak:=((c.trans g).trans i); have am:=b.2.1 _ _ _ _ ak hRa; ?_
  cases H
  exact T.A0R results89 Li ⟨La,z,z,am⟩
 refine T.skip<|have an:=(c.trans g); have ao:=b.2.1 _ _ _ _ an hRa; ?_
 cases H
 exact T.A0R results89 Li ⟨La,z,z,ao⟩
theorem B7U {σ:Type} {R:σ→PH→List E5→Prop} {j:σ→Int→(List Int)→Option σ} {m:σ} {q_s:σ} {h n o p a q La} (r:Pt M4 h n o) (E:I4 h p a) (b:V5 R h q j) (hRa:R m h La) (H:A8d o a j m=some q_s):∀ As L,I7 prog 90 [n,.agg p.toArray,q] h ((As++(La++L))) (λv h' L'=>∃ La',v=.tuple #[]∧L'=(As++(La'++L))∧R q_s h' La'):=by
 intro As L
 obtain rfl:=E
 refine I7.enter func90 z z z<|Sr<|To (O.T9 z z z λaq G g I=>Nt<|Sm z<|Vv (V.ldS z I (by exact K3)) ?_)
 refine bE H λ⟨s,w,ar⟩ J H=>To (O.cs (A6U r.u (show I4 G [.int .u8 a.F9,qi a.K6,.string a.fA,.string a.fB,.string a.I5,qi a.fN] a from z) J _) λK i=>Mv z<|Wx z z<|Wx z z<|Wx z z<|Ag z<|Ag z<|An z<|Sq<|T.dw (.vs [0,1,2,3,4,5,6,7,8,9,10,11,12,13,14,15,16,17,18,19,20,21,22,23,24,25,26,27,28,29,30,31,32,33,34,35] .done) 37 0 0 ?_)
 refine Tm z z<|Tm z z<|T.bH 17 H z (λH=>?_) λH=>?_
 ·refine Tm z z<|have P:=r; ?_
  obtain ⟨ax,_,rfl,c,⟨ay,aA,aB,rfl,S,d,aC⟩⟩:=P
  refine TL z z z z G8 I6 c.u z<|have U:=S; ?_
  obtain ⟨aD,_,rfl,x,⟨aE,aG,aI,aJ,aK,aM,aN,aO,aP,aS,aU,aV,aW,aX,rfl,aY,aZ,a0,a1,a2,a3,f,a4,a5,a6,a7,a8,a9,ah⟩⟩:=U
  refine TL z z z z U2 D9 x.u z<|Tm z z<|TL z z z z P6 D9 c.u z<|Tm z z<|bE H λal y H=>?_
  obtain ⟨av,W,rfl⟩:=G9.at d y
  refine Tv z (V.ix A9 z z d (E8 y))<|Tv z (V.Q9 D6 z W.u z)<|bE H λaz A H=>?_
  obtain ⟨ba,X,rfl⟩:=G9.at f A
  refine Tv z (V.ix A9 z z f (E8 A))<|Tv z (V.Q9 D6 z X.u z)<|Tm z z<|TL z z z z G8 I6 c.u z<|TL z z z z U2 D9 x.u z<|Tm z z<|TL z z z z P6 D9 c.u z<|Tm z z<|bE H λbb B H=>?_
  obtain ⟨bc,Y,rfl⟩:=G9.at d B
  refine Tv z (V.ix A9 z z d (E8 B))<|Tv z (V.Q9 D6 z Y.u z)<|bE H λbd C H=>?_
  obtain ⟨be,Z,rfl⟩:=G9.at f C
  refine Tv z (V.ix A9 z z f (E8 C))<|Tv z (V.Q9 D6 z Z.u z)<|Tv z (V.ne z z)<|Tv z (V.pkT z z)<|T.M9 (X2 z z)<|Th<|T.cH H z (λH=>?_) λH=>?_
  ·refine T.norm [2,6,7] z<|Rg<|Mv z<|Mv z<|Mv z<|To (O.bq A9 J6 [.tmp 53,.tmp 54] (VI .i64) [[qi s],[qi w]] [s,w] λbf aa=>T.J8 λbg ab ac=>have ad:=A8.slc ac aa.u; bE H λbi ae H=>have af:=((g.trans i).trans ab); have ag:=b.2.1 _ _ _ _ af hRa; To (O.A4f z z (V5.call b.u ad ag ae As _) z λbj bk bm bn ai=>?_))
   obtain ⟨D,rfl,aj,ak⟩:=ai
   refine O8 ((As++(D++L))) aj<|Ni ?_
   cases H
   exact T.A0R results90 Li ⟨D,z,z,ak⟩
  refine T.skip<|have am:=(g.trans i); have an:=b.2.1 _ _ _ _ am hRa; ?_
  cases H
  exact T.A0R results90 Li ⟨La,z,z,an⟩
 refine T2 z z<|T2 z z<|T2 z z<|T2 z z<|T2 z z<|T2 z z<|T2 z z<|T2 z z<|T2 z z<|T2 z z<|T2 z z<|T2 z z<|T2 z z<|T2 z z<|T2 z z<|T2 z z<|Tk z<|Tv z (V.pkF z z)<|T.M9 (X2 z z)<|Th<|Cf z<|T.skip<|have ao:=(g.trans i); have ap:=b.2.1 _ _ _ _ ao hRa; ?_
 cases H
 exact T.A0R results90 Li ⟨La,z,z,ap⟩
theorem C6j {σ:Type} {R:σ→PH→List E5→Prop} {g:σ→Int→(List Int)→Option σ} {i:σ} {q_s:σ} {h j m n o p La} (B:Pt M4 h j m) (C:I4 h n o) (a:V5 R h p g) (hRa:R i h La) (H:B9S m o g i=some q_s):∀ As L,I7 prog 91 [j,.agg n.toArray,p] h ((As++(La++L))) (λv h' L'=>∃ La',v=.tuple #[]∧L'=(As++(La'++L))∧R q_s h' La'):=by
 intro As L
 obtain rfl:=C
 refine I7.enter func91 z z z<|Sr<|To (O.T9 z z z λax ay c q=>Nt<|Sq<|T.dw (.vs [0,1,2,3,4,5,6,7,8] (.alt 9 (.alt 10 .done .no) .no)) 12 0 0 ?_)
 refine Tm z z<|have D:=B; ?_
 obtain ⟨aA,_,rfl,b,⟨aB,aC,aD,rfl,G,r,aE⟩⟩:=D
 refine TL z z z z G8 I6 b.u z<|have I:=G; ?_
 obtain ⟨aG,_,rfl,d,⟨J,K,M,N,P,aI,aJ,aK,aM,aN,aO,aP,aS,aU,rfl,e,S,U,W,X,aV,s,aW,aX,aY,aZ,a0,a1,a2⟩⟩:=I
 refine TF z z z L8<|Tv z (V.C8Y (k:=0) B1J z d.u (Nat.le_of_ble_eq_true z))<|Tv z (V.fa Y8 z)<|Td z 2 J3 z q z<|bE H λa3 Y H=>Tp z z (X2 z z) (O.G6 z (A2j ⟨J,K,M,N,P,z,e.u,S.u,U.u,W.u,X.u⟩ Y _) z λa4 a5 a6 f Z=>?_) T.O4
 obtain ⟨rfl,aa⟩:=Z
 refine O8 _ aa<|Ts z z (SX.two (XA.fr [] Li z) (XA.fr [] Li z)) (V.asg z) z ?_ T.O4
 refine T.M9 (SX.two (XA.fr [] Li z) (XA.fr [] Li z))<|Th<|Sm z<|NL z P6 D9 b.u z<|Mv z<|bE H λa7 w H=>?_
 obtain ⟨a8,ab,rfl⟩:=G9.at r w
 refine Vv (V.ix A9 z z r (E8 w))<|Vv (V.Q9 D6 z ab.u z)<|An z<|Sq<|T.dw (.vs [0,1,2,3,4,5,6,7,8,9,10,11,12,13,14,15,16,17,18,19,20,21,22,23,24,25,26,27] .done) 29 0 0 ?_
 refine Tm z z<|Tv z (V.ge z z)<|Tm z z<|T.bH 27 H z (λH=>?_) λH=>?_
 ·refine Tm z z<|TL z z z z G8 I6 b.u z<|TF z z z L8<|Tv z (V.fa B0L z)<|Td z 0 O7 z d.u z<|Tm z z<|TL z z z z G8 I6 b.u z<|TL z z z z U2 D9 d.u z<|Tm z z<|bE H λa9 x H=>?_
  obtain ⟨ah,ac,rfl⟩:=G9.at s x
  refine Tv z (V.ix A9 z z s (E8 x))<|Tv z (V.Q9 D6 z ac.u z)<|bE H λal y H=>?_
  obtain ⟨av,ad,⟨az,rfl,ba⟩⟩:=G9.at e y
  refine Tv z (V.ix O1 z z e (E8 y))<|Tv z (V.fa A0i z)<|Td z 0 J3 z ad.u z<|Tv z (V.fa U8 z)<|Td z 4 J3 z q.u z<|Tv z (V.sne z z)<|Tv z (V.pkT z z)<|T.M9 (X2 z z)<|Th<|T.cH H z (λH=>?_) λH=>?_
  ·refine T.norm [2,6] z<|Rg<|Mv z<|Mv z<|To (O.b1 (E:=VI .i64) A9 J6 z z z z z λbb ae=>T.J8 λbc af ag=>have ai:=A8.slc ag ae.u; bE H λbd aj H=>have ak:=((c.trans f).trans af); have am:=a.2.1 _ _ _ _ ak hRa; To (O.A4f z z (V5.call a.u ai am aj As _) z λbe bf bg bi an=>?_))
   obtain ⟨A,rfl,ao,ap⟩:=an
   refine O8 ((As++(A++L))) ao<|Ni ?_
   cases H
   exact T.A0R results91 Li ⟨A,z,z,ap⟩
  refine T.skip<|have aq:=(c.trans f); have ar:=a.2.1 _ _ _ _ aq hRa; ?_
  cases H
  exact T.A0R results91 Li ⟨La,z,z,ar⟩
 refine T2 z z<|T2 z z<|T2 z z<|T2 z z<|T2 z z<|T2 z z<|T2 z z<|T2 z z<|T2 z z<|T2 z z<|T2 z z<|T2 z z<|Tv z (V.pkF z z)<|T.M9 (X2 z z)<|Th<|Cf z<|T.skip<|have au:=(c.trans f); have aw:=a.2.1 _ _ _ _ au hRa; ?_
 cases H
 exact T.A0R results91 Li ⟨La,z,z,aw⟩
theorem C3X {σ:Type} {R:σ→PH→List E5→Prop} {r:σ→Int→(List Int)→Option σ} {s:σ} {q_s:σ} {h w m x y A La} (S:Pt M4 h w m) (U:I4 h x y) (b:V5 R h A r) (hRa:R s h La) (H:B4r m y r s=some q_s):∀ As L,I7 prog 92 [w,.agg x.toArray,A] h ((As++(La++L))) (λv h' L'=>∃ La',v=.tuple #[]∧L'=(As++(La'++L))∧R q_s h' La'):=by
 intro As L
 obtain rfl:=U
 refine I7.enter func92 z z z<|Sr<|To (O.T9 z z z λah al i n=>Nt<|Sq<|T.dw (.vs [0,1,2,3,4,5,6,7,8] (.alt 9 (.alt 10 .done .no) .no)) 12 0 0 ?_)
 refine Tm z z<|have W:=S; ?_
 obtain ⟨av,_,rfl,c,⟨az,ba,bb,rfl,X,B,bc⟩⟩:=W
 refine TL z z z z G8 I6 c.u z<|have Y:=X; ?_
 obtain ⟨bd,_,rfl,f,⟨Z,aa,ab,ac,ad,be,bf,bg,bi,bj,bk,bm,bn,bo,rfl,o,ae,af,ai,aj,bp,d,bq,br,bs,bt,bu,bw,bx⟩⟩:=Y
 refine TF z z z L8<|Tv z (V.C8Y (k:=0) B1J z f.u (Nat.le_of_ble_eq_true z))<|Tv z (V.fa Y8 z)<|Td z 2 J3 z n z<|bE H λbA ak H=>Tp z z (X2 z z) (O.G6 z (A2j ⟨Z,aa,ab,ac,ad,z,o.u,ae.u,af.u,ai.u,aj.u⟩ ak _) z λbB bC bD j am=>?_) T.O4
 obtain ⟨rfl,an⟩:=am
 refine O8 _ an<|Ts z z (SX.two (XA.fr [] Li z) (XA.fr [] Li z)) (V.asg z) z ?_ T.O4
 refine T.M9 (SX.two (XA.fr [] Li z) (XA.fr [] Li z))<|Th<|Sm z<|NL z P6 D9 c.u z<|Mv z<|bE H λC D H=>?_
 obtain ⟨bG,ao,rfl⟩:=G9.at B D
 refine Vv (V.ix A9 z z B (E8 D))<|Vv (V.Q9 D6 z ao.u z)<|An z<|Sq<|Sm z<|Wl z z<|Nt<|T.cH H z (λH=>?_) λH=>?_
 ·refine T.ret<|Tr<|have ap:=(i.trans j); have aq:=b.2.1 _ _ _ _ ap hRa; ?_
  cases H
  exact T.C4Q results92 Li ⟨La,z,z,aq⟩
 refine Ks<|Sm z<|An z<|Sq ?_
 obtain ⟨G,ar,au⟩:=J4 H
 refine T.ck (α:=Int) [0,2,4,6,7] (λg=>([(8,qi g)],(As++(La++L)),λhh=>G=g)) ?_ ?_
 ·have H:=ar
  refine Bl<|T.lk [0,2,4,6,7] (FUEL,C) (λ⟨e,a⟩=>([(8,qi a)],(As++(La++L)),λhh=>iter (A9l m C) e a=some G)) H ?_
  rintro ⟨e,a⟩ bI bJ aw
  obtain ⟨ax,bK,rfl,H,p⟩:=G5 aw
  refine T.norm [8,0,2,4,6,7] z<|O8 ((As++(La++L))) z<|Sq<|Sq<|T.dw (.vs [0,1,2,3,4,5,6,7,8,9,10,11,12,13,14,15,16,17,18,19,20,21,22,23,24,25] .done) 27 0 0 ?_
  refine Tm z z<|Tv z (V.gt z z)<|Tm z z<|T.bH 31 H z (λH=>?_) λH=>?_
  ·refine Tm z z<|TL z z z z G8 I6 c.u z<|TL z z z z U2 D9 f.u z<|Tm z z<|bE H λbM ay H=>Tv z (V.X9 z z ay)<|bE H λbN I H=>?_
   obtain ⟨bO,aA,rfl⟩:=G9.at d I
   refine Tv z (V.ix A9 z z d (E8 I))<|Tv z (V.Q9 D6 z aA.u z)<|Tm z z<|TL z z z z G8 I6 c.u z<|TL z z z z U2 D9 f.u z<|Tm z z<|bE H λbP J H=>?_
   obtain ⟨bS,aB,rfl⟩:=G9.at d J
   refine Tv z (V.ix A9 z z d (E8 J))<|Tv z (V.Q9 D6 z aB.u z)<|Tv z (V.eq z z)<|Tv z (V.pkT z z)<|T.M9 (X2 z z)<|Th<|T.cH H z (λH=>?_) λH=>?_
   ·refine Ks<|Bl<|Rg<|Mv z<|bE H λaC aD H=>Vv (V.X9 z z aD)<|Ag z<|Ni<|Bn<|Th<|T.ag (ax,aC) (D8 H p)
   refine Xt<|have H:=D5 H p; Be<|Th<|T.mt a H
  refine T2 z z<|T2 z z<|T2 z z<|T2 z z<|T2 z z<|T2 z z<|T2 z z<|T2 z z<|T2 z z<|T2 z z<|T2 z z<|Tv z (V.pkF z z)<|T.M9 (X2 z z)<|Th<|Cf z<|Xt<|have H:=D5 H p; Be<|Th<|T.mt a H
 rintro g bU q aE
 have H:=H7 aE au
 refine T.norm [8,0,2,4,6,7] z<|O8 ((As++(La++L))) z<|Sq<|T.dw (.vs [0,1,2,3,4,5,6,7,8,9,10,11,12,13,14,15,16,17,18,19,20,21,22,23,24,25,26,27,28,29,30,31] .done) 33 0 0 ?_
 refine Tm z z<|TL z z z z G8 I6 c.u z<|TF z z z L8<|Tv z (V.fa B0L z)<|Td z 0 O7 z f.u z<|Tm z z<|TL z z z z G8 I6 c.u z<|TL z z z z U2 D9 f.u z<|Tm z z<|bE H λbV K H=>?_
 obtain ⟨bW,aG,rfl⟩:=G9.at d K
 refine Tv z (V.ix A9 z z d (E8 K))<|Tv z (V.Q9 D6 z aG.u z)<|bE H λbX M H=>?_
 obtain ⟨bY,aI,⟨bZ,rfl,b0⟩⟩:=G9.at o M
 refine Tv z (V.ix O1 z z o (E8 M))<|Tv z (V.fa A0i z)<|Td z 0 J3 z aI.u z<|Tv z (V.fa U8 z)<|Td z 4 J3 z n.u z<|Tv z (V.sne z z)<|Tm z z<|T.bH 81 H z (λH=>?_) λH=>?_
 ·refine T2 z z<|T2 z z<|T2 z z<|Tv z (V.pkT z z)<|T.M9 (X2 z z)<|Th<|Ct z<|Rg<|Mv z<|Mv z<|To (O.b1 (E:=VI .i64) A9 J6 z z z z z λb2 aJ=>T.J8 λb3 aK aM=>have aN:=A8.slc aM aJ.u; bE H λb4 aO H=>have aP:=(((i.trans j).trans q).trans aK); have aS:=b.2.1 _ _ _ _ aP hRa; To (O.A4f z z (V5.call b.u aN aS aO As _) z λb5 b6 b7 b8 aU=>?_))
  obtain ⟨N,rfl,aV,aW⟩:=aU
  refine O8 ((As++(N++L))) aV<|Ni ?_
  cases H
  exact T.A0R results92 Li ⟨N,z,z,aW⟩
 refine Tm z z<|Tm z z<|bE H λb9 aX H=>Tv z (V.X9 z z aX)<|Tv z (V.fa U0 z)<|Td z 5 D6 z n.u z<|Tv z (V.ne z z)<|Tv z (V.pkF z z)<|T.M9 (X2 z z)<|Th<|T.cH H z (λH=>?_) λH=>?_
 ·refine T.norm [2,6] z<|Rg<|Mv z<|Mv z<|To (O.b1 (E:=VI .i64) A9 J6 z z z z z λbh aY=>T.J8 λbl aZ a0=>have a1:=A8.slc a0 aY.u; bE H λbv a2 H=>have a3:=(((i.trans j).trans q).trans aZ); have a4:=b.2.1 _ _ _ _ a3 hRa; To (O.A4f z z (V5.call b.u a1 a4 a2 As _) z λbz ca cb cc a5=>?_))
  obtain ⟨P,rfl,a6,a7⟩:=a5
  refine O8 ((As++(P++L))) a6<|Ni ?_
  cases H
  exact T.A0R results92 Li ⟨P,z,z,a7⟩
 refine T.skip<|have a8:=((i.trans j).trans q); have a9:=b.2.1 _ _ _ _ a8 hRa; ?_
 cases H
 exact T.A0R results92 Li ⟨La,z,z,a9⟩
theorem C2J {σ:Type} {R:σ→PH→List E5→Prop} {n:σ→Int→(List Int)→Option σ} {o:σ} {q_s:σ} {h w p x q y La} (M:Pt M4 h w p) (N:I4 h x q) (i:V5 R h y n) (hRa:R o h La) (H:B2n p q n o=some q_s):∀ As L,I7 prog 95 [w,.agg x.toArray,y] h ((As++(La++L))) (λv h' L'=>∃ La',v=.tuple #[]∧L'=(As++(La'++L))∧R q_s h' La'):=by
 intro As L
 obtain rfl:=N
 refine I7.enter func95 z z z<|Sr<|To (O.T9 z z z λaZ a0 P A=>Nt<|Sm z<|have S:=M; ?_)
 obtain ⟨a1,_,rfl,j,⟨a2,a3,a4,rfl,U,r,a5⟩⟩:=S
 refine NL z P6 D9 j.u z<|Vv (V.P7 A9 z r)<|Mv z<|Nt<|T.A0G ?_
 obtain ⟨W,X,Y⟩:=J4 H
 have H:=X
 refine Bl<|have Z:=i.2.1 _ _ _ _ P hRa; T.lk [0,2,4,11,12] (FUEL,o,(0:Int),La) (λ⟨e,b,f,a⟩=>([(13,qi f)],(As++(a++L)),λhh=>iter (A5o p q n) e (b,f)=some W∧R b hh a)) ⟨H,Z⟩ ?_
 rintro ⟨e,b,f,a⟩ a6 a7 ⟨aa,c⟩
 obtain ⟨g,a8,rfl,H,d⟩:=G5 aa
 refine T.norm [13,0,2,4,11,12] z<|O8 ((As++(a++L))) z<|Sr<|Wl z z<|Nt<|Sq<|T.cH H z (λH=>?_) λH=>?_
 ·refine Ks<|Sq<|Bl<|Sm z<|bE H λa9 B H=>?_
  obtain ⟨ah,ab,rfl⟩:=G9.at r B
  refine Vv (V.ix A9 z z r (E8 B))<|Vv (V.Q9 D6 z ab.u z)<|Ag z<|An z<|Sq<|T.dw (.vs [0,1,2,3,4,5,6,7,8,9,10,11,12,13,14,15,16,17,18,19,20,21,22,23,24,25,26,27,28,29,30,31,32,33,34,35,36,37,38,39,40,41,42,43,44,45,46,47,48,49,50] .done) 52 0 0 ?_
  refine Tm z z<|Tv z (V.ge z z)<|Tm z z<|T.bH 20 H z (λH=>?_) λH=>?_
  ·refine Tm z z<|TL z z z z G8 I6 j.u z<|have ac:=U; ?_
   obtain ⟨al,_,rfl,s,⟨av,az,ba,bb,bc,bd,be,bf,bg,bi,bj,bk,bm,bn,rfl,bo,m,bp,bq,br,bs,bt,bu,C,bw,bx,bA,bB,bC⟩⟩:=ac
   refine TL z z z z B2y B2l s.u z<|Tm z z<|bE H λbD D H=>?_
   obtain ⟨bG,ad,rfl⟩:=G9.at C D
   refine Tv z (V.ix A0b z z C (E8 D))<|Tv z (V.Q9 R3 z ad.u z)<|Tv z (V.not z)<|Tv z (V.pkT z z)<|Tm z z<|T.bH 33 H z (λH=>?_) λH=>?_
   ·refine Tv z (V.fa Y8 z)<|Td z 2 J3 z A.u z<|Tm z z<|TL z z z z G8 I6 j.u z<|TF z z z L8<|Tv z (V.fa A0J z)<|Td z 1 M8 z s.u z<|Tm z z<|bE H λbI G H=>?_
    obtain ⟨bJ,ae,⟨bK,rfl,bM⟩⟩:=G9.at m G
    refine Tv z (V.ix O3 z z m (E8 G))<|Tv z (V.fa A0g z)<|Td z 0 J3 z ae.u z<|Tv z (V.seq z z)<|Tm z z<|T.bH 49 H z (λH=>?_) λH=>?_
    ·refine T2 z z<|T2 z z<|T2 z z<|T2 z z<|T2 z z<|T2 z z<|T2 z z<|T2 z z<|Tk z<|Tv z (V.pkT z z)<|Tv z (V.pkT z z)<|T.M9 (X2 z z)<|Th<|Ct z<|T.norm [0,2,4,6,11,12,13] z<|Rg<|Mv z<|Mv z<|To (O.b1 (E:=VI .i64) A9 J6 z z z z z λbN af=>T.J8 λbO ai aj=>have ak:=A8.slc aj af.u; bE H λam an H=>have ao:=i.2.1 _ _ _ _ ai c; To (O.A4f z z (V5.call i.u ak ao an As _) z λbP bS bU bV ap=>?_))
     obtain ⟨I,rfl,aq,ar⟩:=ap
     refine O8 ((As++(I++L))) aq<|Ni<|Bn<|Th<|Rg<|bE H λau aw H=>Ws z z aw<|Mv z<|Nt<|T.ag (g,am,au,I) ⟨(D8 H d),ar⟩
    refine Tv z (V.fa Y8 z)<|Td z 2 J3 z A.u z<|Tv z (V.seq z z)<|Tm z z<|T.bH 53 H z (λH=>?_) λH=>?_
    ·refine Tm z z<|TL z z z z G8 I6 j.u z<|TF z z z L8<|Tv z (V.fa A0J z)<|Td z 1 M8 z s.u z<|Tm z z<|bE H λbW J H=>?_
     obtain ⟨bX,ax,⟨bY,rfl,bZ⟩⟩:=G9.at m J
     refine Tv z (V.ix O3 z z m (E8 J))<|Tv z (V.fa C3G z)<|Td z 7 R3 z ax.u z<|Tv z (V.pkT z z)<|Tv z (V.pkF z z)<|Tv z (V.pkT z z)<|T.M9 (X2 z z)<|Th<|T.cH H z (λH=>?_) λH=>?_
     ·refine T.norm [0,2,4,6,11,12,13] z<|Rg<|Mv z<|Mv z<|To (O.b1 (E:=VI .i64) A9 J6 z z z z z λb0 ay=>T.J8 λb2 aA aB=>have aC:=A8.slc aB ay.u; bE H λaD aE H=>have aG:=i.2.1 _ _ _ _ aA c; To (O.A4f z z (V5.call i.u aC aG aE As _) z λb3 b4 b5 b6 aI=>?_))
      obtain ⟨K,rfl,aJ,aK⟩:=aI
      refine O8 ((As++(K++L))) aJ<|Ni<|Bn<|Th<|Rg<|bE H λaM aN H=>Ws z z aN<|Mv z<|Nt<|T.ag (g,aD,aM,K) ⟨(D8 H d),aK⟩
     refine T.skip<|Bn<|Th<|T.norm [0,2,4,11,12,13] z<|Rg<|bE H λaO aP H=>Ws z z aP<|Mv z<|Nt<|T.ag (g,b,aO,a) ⟨(D8 H d),c⟩
    refine T2 z z<|T2 z z<|T2 z z<|T2 z z<|T2 z z<|T2 z z<|Tv z (V.pkF z z)<|Tv z (V.pkF z z)<|Tv z (V.pkT z z)<|T.M9 (X2 z z)<|Th<|Cf z<|T.skip<|Bn<|Th<|T.norm [0,2,4,11,12,13] z<|Rg<|bE H λaS aU H=>Ws z z aU<|Mv z<|Nt<|T.ag (g,b,aS,a) ⟨(D8 H d),c⟩
   refine T2 z z<|T2 z z<|T2 z z<|T2 z z<|T2 z z<|T2 z z<|T2 z z<|T2 z z<|T2 z z<|T2 z z<|T2 z z<|T2 z z<|T2 z z<|T2 z z<|T2 z z<|T2 z z<|T2 z z<|Tv z (V.pkF z z)<|T.M9 (X2 z z)<|Th<|Cf z<|T.skip<|Bn<|Th<|Rg<|bE H λaV aW H=>Ws z z aW<|Mv z<|Nt<|T.ag (g,b,aV,a) ⟨(D8 H d),c⟩
  refine T2 z z<|T2 z z<|T2 z z<|T2 z z<|T2 z z<|Tk z<|Tv z (V.pkF z z)<|Tm z z<|T2 z z<|T2 z z<|T2 z z<|T2 z z<|T2 z z<|T2 z z<|T2 z z<|T2 z z<|T2 z z<|T2 z z<|T2 z z<|T2 z z<|T2 z z<|T2 z z<|T2 z z<|T2 z z<|T2 z z<|Tv z (V.pkF z z)<|T.M9 (X2 z z)<|Th<|Cf z<|T.skip<|Bn<|Th<|Rg<|bE H λaX aY H=>Ws z z aY<|Mv z<|Nt<|T.ag (g,b,aX,a) ⟨(D8 H d),c⟩
 refine Xt<|have H:=D5 H d; Be<|Th<|have H:=H7 H Y; ?_
 cases H
 exact T.A0R results95 Li ⟨a,z,z,c⟩
theorem C1V {σ:Type} {R:σ→PH→List E5→Prop} {J:σ→Int→(List Int)→Option σ} {K:σ} {q_s:σ} {h Y x Z b aa La} (aD:Pt M4 h Y x) (aE:I4 h Z b) (n:V5 R h aa J) (hRa:R K h La) (H:B2C x b J K=some q_s):∀ As L,I7 prog 96 [Y,.agg Z.toArray,aa] h ((As++(La++L))) (λv h' L'=>∃ La',v=.tuple #[]∧L'=(As++(La'++L))∧R q_s h' La'):=by
 intro As L
 obtain rfl:=aE
 refine I7.enter func96 z z z<|Sr<|To (O.T9 z z z λb8 b9 aG aI=>Nt<|Sm z<|have aJ:=aD; ?_)
 obtain ⟨bh,_,rfl,o,⟨aK,aM,aN,rfl,ab,C,M⟩⟩:=aJ
 refine NL z P6 D9 o.u z<|Vv (V.P7 A9 z C)<|Mv z<|Nt<|T.A0G ?_
 obtain ⟨aO,aP,aS⟩:=J4 H
 have H:=aP
 refine Bl<|have aU:=n.2.1 _ _ _ _ aG hRa; T.lk [0,2,4,18,19] (FUEL,K,(0:Int),La) (λ⟨p,c,d,a⟩=>([(20,qi d)],(As++(a++L)),λhh=>iter (A5a x b J) p (c,d)=some aO∧R c hh a)) ⟨H,aU⟩ ?_
 rintro ⟨p,c,d,a⟩ aV bl ⟨aW,y⟩
 obtain ⟨D,bv,rfl,H,A⟩:=G5 aW
 refine T.norm [20,0,2,4,18,19] z<|O8 ((As++(a++L))) z<|Sr<|Wl z z<|Nt<|Sq<|T.cH H z (λH=>?_) λH=>?_
 ·refine Ks<|Sq<|Bl<|Sm z<|bE H λbz ac H=>?_
  obtain ⟨ca,aX,rfl⟩:=G9.at C ac
  refine Vv (V.ix A9 z z C (E8 ac))<|Vv (V.Q9 D6 z aX.u z)<|Ag z<|An z<|Sq<|Sq ?_
  obtain ⟨aY,aZ,a0⟩:=J4 H
  refine T.ck (α:=Bool) [0,2,4,6,7,18,19,20] (λB=>([(33,.bool B)],(As++(a++L)),λhh=>aY=B)) ?_ ?_
  ·have H:=aZ
   refine Rg<|Mv z<|Wl z z<|Mv z<|T.bH 27 H z (λH=>?_) λH=>?_
   ·refine S2<|S2<|Sk<|Kt z<|Nt<|T.mt true (K9 H)
   refine Mv z<|Vv (V.ldS z aI.u (by exact K3)) ?_
   refine Mv z<|bE H λa1 a2 H=>To (O.G6 z (A5f (Pt.mk o.u ⟨aK,aM,aN,z,ab.u,C.u,M.u⟩) (show I4 aV [.int .u8 b.F9,qi b.K6,.string b.fA,.string b.fB,.string b.I5,qi b.fN] b from z) a2 _) z λcb cc cd ce a3=>?_)
   obtain ⟨rfl,a4⟩:=a3
   refine O8 _ a4<|Vv (V.not z)<|Kf z<|Nt<|T.mt (!a1) (K9 H)
  rintro B a5 G a6
  have H:=H7 a6 a0
  refine T.norm [33,0,2,4,6,7,18,19,20] z<|O8 ((As++(a++L))) z<|T.cH H z (λH=>?_) λH=>?_
  ·refine T.exit<|Te<|Be<|Th<|Rg<|bE H λa7 a8 H=>Ws z z a8<|Mv z<|Nt<|have a9:=n.2.1 _ _ _ _ G y; T.ag (D,c,a7,a) ⟨(D8 H A),a9⟩
  refine Ks<|Sg z<|An z<|Sq<|Sq<|T.dw (.vs [0,1,2,3,4,5,6,7,8,9,10,11,12,13,14,15,16,17,18,19,22] (.alt 20 (.g (.v 21 .done)) .no)) 24 0 0 ?_
  refine Tm z z<|TL z z z z G8 I6 o.u z<|have ah:=ab; ?_
  obtain ⟨cf,_,rfl,N,⟨cg,ci,cj,ck,cm,cn,co,cp,cq,cr,cs,ct,cu,cw,rfl,cx,cy,cA,cB,cC,cD,cE,cG,cI,ad,ae,cJ,af,cK⟩⟩:=ah
  refine TL z z z z A2e S9 N.u z<|Tm z z<|bE H λai aj H=>?_
  obtain ⟨cM,al,⟨ak,rfl,am⟩⟩:=G9.at ad aj
  refine Tv z (V.ix K7 z z ad (E8 aj))<|Tv z (V.Q9 D9 z al.u z)<|Tm z z<|TL z z z z G8 I6 o.u z<|TL z z z z A4G S9 N.u z<|Tm z z<|bE H λan ao H=>?_
  obtain ⟨cN,av,⟨ap,rfl,aq⟩⟩:=G9.at ae ao
  refine Tv z (V.ix K7 z z ae (E8 ao))<|Tv z (V.Q9 D9 z av.u z)<|Tm z z<|Tp z z (X2 z z) (O.bq K7 A1d [.tmp 43,.tmp 53] (VSl (VI .i64) 1) [[ak],[ap]] [ai,an] (hE:=(A8.cons ⟨ak,z,am.u⟩ (A8.cons ⟨ap,z,aq.u⟩ A8.nil))) λcO az=>?_) T.O4
  refine T.J8 λcP P ba=>have S:=A8.slc ba az.u; T.N8 Li<|Tv z (V.P7 K7 z S)<|T.M9 (X2 z z)<|Th ?_
  obtain ⟨bb,bc,bd⟩:=J4 H
  have H:=bc
  refine Bl<|T.lk [0,2,4,6,18,19,20,54,55] (FUEL,(0:Int),false,true) (λ⟨q,r,j,m⟩=>([(56,qi r),(8,.bool j),(9,.bool m)],(As++(a++L)),λhh=>iter (A1A x d ai an) q (r,j,m)=some bb)) H ?_
  rintro ⟨q,r,j,m⟩ cS U be
  obtain ⟨bf,cU,rfl,H,ar⟩:=G5 be
  refine T.norm [56,8,9,0,2,4,6,18,19,20,54,55] z<|O8 ((As++(a++L))) z<|Sr<|Wl z z<|Nt<|Sq<|T.cH H z (λH=>?_) λH=>?_
  ·refine Ks<|Sq<|Bl<|Sr<|bE H λbg au H=>?_
   obtain ⟨cV,bi,⟨cW,rfl,W⟩⟩:=G9.at S au
   refine Vv (V.ix K7 z z S (E8 au))<|Vv (V.Q9 D9 z bi.u z)<|An z<|Sm z<|Vv (V.P7 A9 z W)<|Mv z<|Nt<|T.A0G ?_
   obtain ⟨bj,bk,bm⟩:=J4 H
   have H:=bk
   refine Bl<|T.lk [0,2,4,6,18,19,20,54,55,56,60,61] (FUEL,(0:Int),j,m) (λ⟨s,w,f,i⟩=>([(62,qi w),(8,.bool f),(9,.bool i)],(As++(a++L)),λhh=>iter (A2C x d bg) s (w,f,i)=some bj)) H ?_
   rintro ⟨s,w,f,i⟩ cX cY bn
   obtain ⟨X,cZ,rfl,H,I⟩:=G5 bn
   refine T.norm [62,8,9,0,2,4,6,18,19,20,54,55,56,60,61] z<|O8 ((As++(a++L))) z<|Sr<|Wl z z<|Nt<|Sq<|T.cH H z (λH=>?_) λH=>?_
   ·refine Ks<|Sq<|Bl<|Sr<|bE H λc0 aw H=>?_
    obtain ⟨c1,bo,rfl⟩:=G9.at W aw
    refine Vv (V.ix A9 z z W (E8 aw))<|Vv (V.Q9 D6 z bo.u z)<|An z<|Sm z<|NL z B1Y D9 o.u z<|Mv z<|bE H λc2 ax H=>?_
    obtain ⟨c3,bp,rfl⟩:=G9.at M ax
    refine Vv (V.ix A9 z z M (E8 ax))<|Vv (V.Q9 D6 z bp.u z)<|An z<|Sm z<|Vv (V.ge z z)<|Nt<|T.cH H z (λH=>?_) λH=>?_
    ·refine Sr<|An z<|Rg<|Mv z<|Mv z<|T.bH 76 H z (λH=>?_) λH=>?_
     ·refine Mv z<|NL z G8 I6 o.u z<|NL z A6z B0m N.u z<|Mv z<|bE H λc4 ay H=>?_
      obtain ⟨c5,bq,⟨c6,rfl,aA⟩⟩:=G9.at af ay
      refine Vv (V.ix A5I z z af (E8 ay))<|Vv (V.Q9 B2l z bq.u z)<|Mv z<|bE H λbr aB H=>?_
      obtain ⟨c7,bt,rfl⟩:=G9.at aA aB
      refine Vv (V.ix A0b z z aA (E8 aB))<|Vv (V.Q9 R3 z bt.u z)<|Vv (V.not z)<|Kt z<|Ag z<|Ni<|Bn<|Th<|T.norm [0,2,4,6,8,9,18,19,20,54,55,56,60,61,62] z<|Rg<|bE H λbu bw H=>Ws z z bw<|Mv z<|Nt<|T.ag (X,bu,true,!br) (D8 H I)
     refine S2<|S2<|S2<|S2<|S2<|S2<|S2<|Kf z<|Ag z<|Ni<|Bn<|Th<|Rg<|bE H λbx bA H=>Ws z z bA<|Mv z<|Nt<|T.ag (X,bx,true,false) (D8 H I)
    refine T.skip<|Bn<|Th<|Rg<|bE H λbB bC H=>Ws z z bC<|Mv z<|Nt<|T.ag (X,bB,f,i) (D8 H I)
   refine Xt<|have H:=D5 H I; Be<|Th<|have H:=H7 H bm; Bn<|Th<|Rg<|bE H λbD bG H=>Ws z z bG<|Mv z<|Nt<|T.ag (bf,bD,f,i) (D8 H ar)
  refine Xt<|have H:=D5 H ar; Be<|Th<|have H:=H7 H bd; Sm z<|Mv z<|T.bH 95 H z (λH=>?_) λH=>?_
  ·refine Mv z<|Kt z<|Nt<|T.cH H z (λH=>?_) λH=>?_
   ·refine Rg<|Mv z<|Mv z<|To (O.b1 (E:=VI .i64) A9 J6 z z z z z λc8 bI=>T.J8 λc9 bJ bK=>have bM:=A8.slc bK bI.u; bE H λbN bO H=>have bP:=(((G.trans P).trans U).trans bJ); have bS:=n.2.1 _ _ _ _ bP y; To (O.A4f z z (V5.call n.u bM bS bO As _) z λch cl cv cz bU=>?_))
    obtain ⟨aC,rfl,bV,bW⟩:=bU
    refine O8 ((As++(aC++L))) bV<|Ni<|Bn<|Th<|Rg<|bE H λbX bY H=>Ws z z bY<|Mv z<|Nt<|T.ag (D,bN,bX,aC) ⟨(D8 H A),bW⟩
   refine T.skip<|Bn<|Th<|Rg<|bE H λbZ b0 H=>Ws z z b0<|Mv z<|Nt<|have b2:=((G.trans P).trans U); have b3:=n.2.1 _ _ _ _ b2 y; T.ag (D,c,bZ,a) ⟨(D8 H A),b3⟩
  refine Sk<|Kf z<|Nt<|Cf z<|T.skip<|Bn<|Th<|Rg<|bE H λb4 b5 H=>Ws z z b5<|Mv z<|Nt<|have b6:=((G.trans P).trans U); have b7:=n.2.1 _ _ _ _ b6 y; T.ag (D,c,b4,a) ⟨(D8 H A),b7⟩
 refine Xt<|have H:=D5 H A; Be<|Th<|have H:=H7 H aS; ?_
 cases H
 exact T.A0R results96 Li ⟨a,z,z,y⟩
theorem B9F {σ:Type} {R:σ→PH→List E5→Prop} {y:σ→Int→(List Int)→Option σ} {ar:σ} {q_s:σ} {h aw A ax a ay La} (aP:Pt M4 h aw A) (aS:I4 h ax a) (n:V5 R h ay y) (hRa:R ar h La) (H:A9m A a y ar=some q_s):∀ As L,I7 prog 98 [aw,.agg ax.toArray,ay] h ((As++(La++L))) (λv h' L'=>∃ La',v=.tuple #[]∧L'=(As++(La'++L))∧R q_s h' La'):=by
 intro As L
 obtain rfl:=aS
 refine I7.enter func98 z z z<|Sr<|To (O.T9 z z z λcm cn aU aA=>Nt<|Sm z<|have aV:=aP; ?_)
 obtain ⟨co,_,rfl,o,⟨cp,B,C,rfl,aW,f,D⟩⟩:=aV
 refine NL z P6 D9 o.u z<|Vv (V.P7 A9 z f)<|Mv z<|Nt<|T.A0G ?_
 obtain ⟨aX,aY,aZ⟩:=J4 H
 have H:=aY
 refine Bl<|have a0:=n.2.1 _ _ _ _ aU hRa; T.lk [0,2,4,13,14] (FUEL,ar,(0:Int),La) (λ⟨r,q,d,i⟩=>([(15,qi d)],(As++(i++L)),λhh=>iter (A3y A a y) r (q,d)=some aX∧R q hh i)) ⟨H,a0⟩ ?_
 rintro ⟨r,q,d,i⟩ cq cr ⟨a1,aB⟩
 obtain ⟨a2,cs,rfl,H,aC⟩:=G5 a1
 refine T.norm [15,0,2,4,13,14] z<|O8 ((As++(i++L))) z<|Sr<|Wl z z<|Nt<|Sq<|T.cH H z (λH=>?_) λH=>?_
 ·refine Ks<|Sq<|Bl<|Sm z<|bE H λa3 aD H=>?_
  obtain ⟨ct,a4,rfl⟩:=G9.at f aD
  refine Vv (V.ix A9 z z f (E8 aD))<|Vv (V.Q9 D6 z a4.u z)<|Ag z<|An z<|Sm z<|bE H λa5 a6 H=>Ws z z a6<|An z<|T.A0G ?_
  obtain ⟨a7,a8,a9⟩:=J4 H
  have H:=a8
  refine Bl<|T.lk [0,2,4,6,7,13,14,15] (FUEL,q,a5,i) (λ⟨s,c,g,b⟩=>([(8,qi g)],(As++(b++L)),λhh=>iter (A3s A a y d a3) s (c,g)=some a7∧R c hh b)) ⟨H,aB⟩ ?_
  rintro ⟨s,c,g,b⟩ ah cu ⟨al,j⟩
  obtain ⟨p,cw,rfl,H,m⟩:=G5 al
  refine T.norm [8,0,2,4,6,7,13,14,15] z<|O8 ((As++(b++L))) z<|Sq<|Sm z<|Mv z<|NL z P6 D9 o.u z<|Vv (V.P7 A9 z f)<|Wl z z<|Nt<|T.cH H z (λH=>?_) λH=>?_
  ·refine Ks<|Sq<|Bl<|Sm z<|NL z P6 D9 o.u z<|Mv z<|bE H λcx aE H=>?_
   obtain ⟨cy,av,rfl⟩:=G9.at f aE
   refine Vv (V.ix A9 z z f (E8 aE))<|Vv (V.Q9 D6 z av.u z)<|An z<|Sm z<|Vv (V.ge z z)<|Mv z<|T.bH 40 H z (λH=>?_) λH=>?_
   ·refine Mv z<|Vv (V.ge z z)<|Kt z<|Mv z<|T.bH 44 H z (λH=>?_) λH=>?_
    ·refine Mv z<|NL z G8 I6 o.u z<|have az:=aW; ?_
     obtain ⟨E,_,rfl,w,⟨G,I,J,K,M,N,P,S,U,W,X,Y,Z,aa,rfl,ab,ac,ad,ae,af,ai,aj,ak,am,an,ao,ap,aq,t⟩⟩:=az
     refine NL z A4L A7u w.u z<|Mv z<|bE H λcA aG H=>?_
     obtain ⟨cB,ba,⟨cC,rfl,aI⟩⟩:=G9.at t aG
     refine Vv (V.ix A2t z z t (E8 aG))<|Vv (V.Q9 C0l z ba.u z)<|Mv z<|bE H λcD aJ H=>?_
     obtain ⟨cE,bb,rfl⟩:=G9.at aI aJ
     refine Vv (V.ix B2f z z aI (E8 aJ))<|Vv (V.Q9 B0Z z bb.u z)<|We z z<|Kt z<|Mv z<|T.bH 60 H z (λH=>?_) λH=>?_
     ·refine Mv z<|Vv (V.ldS z aA.u (by exact K3)) ?_
      refine Mv z<|bE H λcG bc H=>To (O.cs (A5f (Pt.mk o.u ⟨(.pointer (some E)),B,C,z,(Pt.mk w.u ⟨G,I,J,K,M,N,P,S,U,W,X,Y,Z,aa,z,ab.u,ac.u,ad.u,ae.u,af.u,ai.u,aj.u,ak.u,am.u,an.u,ao.u,ap.u,aq.u,t.u⟩),f.u,D.u⟩) (show I4 ah [.int .u8 a.F9,qi a.K6,.string a.fA,.string a.fB,.string a.I5,qi a.fN] a from z) bc _) λbd x=>Mv z<|T.bH 65 H z (λH=>?_) λH=>?_)
      ·refine S2<|S2<|Kt z<|Kt z<|Mv z<|Mv z<|Mv z<|Mv z<|bE H λcK bg H=>To (O.cs (A9T (Pt.mk o.u ⟨(.pointer (some E)),B,C,z,(Pt.mk w.u ⟨G,I,J,K,M,N,P,S,U,W,X,Y,Z,aa,z,ab.u,ac.u,ad.u,ae.u,af.u,ai.u,aj.u,ak.u,am.u,an.u,ao.u,ap.u,aq.u,t.u⟩),f.u,D.u⟩) bg _) λbi aK=>Vv (V.not z)<|Kt z<|Nt<|T.cH H z (λH=>?_) λH=>?_)
       ·refine T.norm [0,2,4,6,7,8,13,14,15] z<|Rg<|Mv z<|Mv z<|Mv z<|To (O.bq A9 J6 [.tmp 80,.tmp 81] (VI .i64) [[qi d],[qi g]] [d,g] λcO bm=>T.J8 λcP bn bo=>have bp:=A8.slc bo bm.u; bE H λbq br H=>have bt:=((x.trans aK).trans bn); have bu:=n.2.1 _ _ _ _ bt j; To (O.A4f z z (V5.call n.u bp bu br As _) z λcS cU cV cW bw=>?_))
        obtain ⟨aM,rfl,bx,bA⟩:=bw
        refine O8 ((As++(aM++L))) bx<|Ni<|Bn<|Th<|Rg<|Mv z<|bE H λbB bC H=>Ws z z bC<|An z<|T.ag (p,bq,bB,aM) ⟨(D8 H m),bA⟩
       refine T.skip<|Bn<|Th<|T.norm [0,2,4,6,7,8,13,14,15] z<|Rg<|Mv z<|bE H λbD bG H=>Ws z z bG<|An z<|have bI:=(x.trans aK); have bJ:=n.2.1 _ _ _ _ bI j; T.ag (p,c,bD,b) ⟨(D8 H m),bJ⟩
      refine Mv z<|Vv (V.ldS z aA.u (by exact K3)) ?_
      refine Mv z<|bE H λcX bK H=>To (O.cs (A5f (Pt.mk o.u ⟨(.pointer (some E)),B,C,z,(Pt.mk w.u ⟨G,I,J,K,M,N,P,S,U,W,X,Y,Z,aa,z,ab.u,ac.u,ad.u,ae.u,af.u,ai.u,aj.u,ak.u,am.u,an.u,ao.u,ap.u,aq.u,t.u⟩),f.u,D.u⟩) (show I4 bd [.int .u8 a.F9,qi a.K6,.string a.fA,.string a.fB,.string a.I5,qi a.fN] a from z) bK _) λcZ au=>Kf z<|Kt z<|Mv z<|T.bH 72 H z (λH=>?_) λH=>?_)
      ·refine Mv z<|Mv z<|Mv z<|bE H λc1 bO H=>To (O.cs (A9T (Pt.mk o.u ⟨(.pointer (some E)),B,C,z,(Pt.mk w.u ⟨G,I,J,K,M,N,P,S,U,W,X,Y,Z,aa,z,ab.u,ac.u,ad.u,ae.u,af.u,ai.u,aj.u,ak.u,am.u,an.u,ao.u,ap.u,aq.u,t.u⟩),f.u,D.u⟩) bO _) λbP aN=>Vv (V.not z)<|Kt z<|Nt<|T.cH H z (λH=>?_) λH=>?_)
       ·refine T.norm [0,2,4,6,7,8,13,14,15] z<|Rg<|Mv z<|Mv z<|Mv z<|To (O.bq A9 J6 [.tmp 80,.tmp 81] (VI .i64) [[qi d],[qi g]] [d,g] λc4 bV=>T.J8 λc5 bW bX=>have bY:=A8.slc bX bV.u; bE H λbZ b0 H=>have b1:=(((x.trans au).trans aN).trans bW); have b2:=n.2.1 _ _ _ _ b1 j; To (O.A4f z z (V5.call n.u bY b2 b0 As _) z λc6 c7 c8 c9 b3=>?_))
        obtain ⟨aO,rfl,b4,b5⟩:=b3
        refine O8 ((As++(aO++L))) b4<|Ni<|Bn<|Th<|Rg<|Mv z<|bE H λb6 b7 H=>Ws z z b7<|An z<|T.ag (p,bZ,b6,aO) ⟨(D8 H m),b5⟩
       refine T.skip<|Bn<|Th<|T.norm [0,2,4,6,7,8,13,14,15] z<|Rg<|Mv z<|bE H λb8 b9 H=>Ws z z b9<|An z<|have bh:=((x.trans au).trans aN); have bl:=n.2.1 _ _ _ _ bh j; T.ag (p,c,b8,b) ⟨(D8 H m),bl⟩
      refine S2<|S2<|Sk<|Kf z<|Nt<|Cf z<|T.skip<|Bn<|Th<|T.norm [0,2,4,6,7,8,13,14,15] z<|Rg<|Mv z<|bE H λbv bz H=>Ws z z bz<|An z<|have ca:=(x.trans au); have cb:=n.2.1 _ _ _ _ ca j; T.ag (p,c,bv,b) ⟨(D8 H m),cb⟩
     refine S2<|S2<|S2<|S2<|S2<|Kf z<|Mv z<|S2<|S2<|Sk<|Kf z<|Nt<|Cf z<|T.skip<|Bn<|Th<|T.norm [0,2,4,6,7,8,13,14,15] z<|Rg<|Mv z<|bE H λcc cd H=>Ws z z cd<|An z<|T.ag (p,c,cc,b) ⟨(D8 H m),j⟩
    refine S2<|S2<|S2<|S2<|S2<|S2<|S2<|Kf z<|Mv z<|S2<|S2<|S2<|S2<|S2<|Kf z<|Mv z<|S2<|S2<|Sk<|Kf z<|Nt<|Cf z<|T.skip<|Bn<|Th<|Rg<|Mv z<|bE H λce cf H=>Ws z z cf<|An z<|T.ag (p,c,ce,b) ⟨(D8 H m),j⟩
   refine S2<|Kf z<|Mv z<|S2<|S2<|S2<|S2<|S2<|S2<|S2<|Kf z<|Mv z<|S2<|S2<|S2<|S2<|S2<|Kf z<|Mv z<|S2<|S2<|Sk<|Kf z<|Nt<|Cf z<|T.skip<|Bn<|Th<|Rg<|Mv z<|bE H λcg ci H=>Ws z z ci<|An z<|T.ag (p,c,cg,b) ⟨(D8 H m),j⟩
  refine Xt<|have H:=D5 H m; Be<|Th<|have H:=H7 H a9; Bn<|Th<|Rg<|bE H λcj ck H=>Ws z z ck<|Mv z<|Nt<|T.ag (a2,c,cj,b) ⟨(D8 H aC),j⟩
 refine Xt<|have H:=D5 H aC; Be<|Th<|have H:=H7 H aZ; ?_
 cases H
 exact T.A0R results98 Li ⟨i,z,z,aB⟩
theorem B9w {σ:Type} {R:σ→PH→List E5→Prop} {o:σ→Int→(List Int)→Option σ} {p:σ} {q_s:σ} {h w q x b y La} (J:Pt M4 h w q) (K:I4 h x b) (j:V5 R h y o) (hRa:R p h La) (H:A9i q b o p=some q_s):∀ As L,I7 prog 102 [w,.agg x.toArray,y] h ((As++(La++L))) (λv h' L'=>∃ La',v=.tuple #[]∧L'=(As++(La'++L))∧R q_s h' La'):=by
 intro As L
 obtain rfl:=K
 refine I7.enter func102 z z z<|Sr<|To (O.T9 z z z λbe bf M A=>Nt<|Sm z<|have N:=J; ?_)
 obtain ⟨bg,_,rfl,r,⟨bi,P,S,rfl,U,m,W⟩⟩:=N
 refine NL z P6 D9 r.u z<|Vv (V.P7 A9 z m)<|Mv z<|Nt<|T.A0G ?_
 obtain ⟨X,Y,Z⟩:=J4 H
 have H:=Y
 refine Bl<|have aa:=j.2.1 _ _ _ _ M hRa; T.lk [0,2,4,11,12] (FUEL,p,(0:Int),La) (λ⟨d,c,e,a⟩=>([(13,qi e)],(As++(a++L)),λhh=>iter (A3r q b o) d (c,e)=some X∧R c hh a)) ⟨H,aa⟩ ?_
 rintro ⟨d,c,e,a⟩ ab bj ⟨ac,f⟩
 obtain ⟨n,bk,rfl,H,i⟩:=G5 ac
 refine T.norm [13,0,2,4,11,12] z<|O8 ((As++(a++L))) z<|Sr<|Wl z z<|Nt<|Sq<|T.cH H z (λH=>?_) λH=>?_
 ·refine Ks<|Sq<|Bl<|Sm z<|bE H λbm B H=>?_
  obtain ⟨bn,ad,rfl⟩:=G9.at m B
  refine Vv (V.ix A9 z z m (E8 B))<|Vv (V.Q9 D6 z ad.u z)<|Ag z<|An z<|Sq<|T.dw (.vs [0,1,2,3,4,5,6,7,8,9,10,11,12,13,14,15,16,17,18,19,20,21,22] (.alt 23 (.g (.v 24 (.v 25 .done))) .no)) 27 0 0 ?_
  refine Tm z z<|Tv z (V.ge z z)<|Tm z z<|T.bH 20 H z (λH=>?_) λH=>?_
  ·refine Tm z z<|TL z z z z G8 I6 r.u z<|have ae:=U; ?_
   obtain ⟨af,_,rfl,C,⟨ai,aj,ak,am,an,ao,ap,aq,ar,au,aw,ax,ay,aA,rfl,aB,s,aC,aD,aE,aG,aI,aJ,aK,aM,aN,aO,aP,aS⟩⟩:=ae
   refine TF z z z L8<|Tv z (V.fa A0J z)<|Td z 1 M8 z C.u z<|Tm z z<|bE H λbo D H=>?_
   obtain ⟨bp,aU,⟨bq,rfl,br⟩⟩:=G9.at s D
   refine Tv z (V.ix O3 z z s (E8 D))<|Tv z (V.fa B1a z)<|Td z 5 J3 z aU.u z<|Tv z (V.fa Y8 z)<|Td z 2 J3 z A.u z<|Tv z (V.seq z z)<|Tv z (V.pkT z z)<|Tm z z<|T.bH 37 H z (λH=>?_) λH=>?_
   ·refine Tm z z<|Tv z (V.ldS z A.u (by exact K3)) ?_
    refine Tm z z<|bE H λbs aV H=>Tp z z (X2 z z) (O.G6 z (A5f (Pt.mk r.u ⟨(.pointer (some af)),P,S,z,(Pt.mk C.u ⟨ai,aj,ak,am,an,ao,ap,aq,ar,au,aw,ax,ay,aA,z,aB.u,s.u,aC.u,aD.u,aE.u,aG.u,aI.u,aJ.u,aK.u,aM.u,aN.u,aO.u,aP.u,aS.u⟩),m.u,W.u⟩) (show I4 ab [.int .u8 b.F9,qi b.K6,.string b.fA,.string b.fB,.string b.I5,qi b.fN] b from z) aV _) z λbt bu bw G aW=>?_) T.O4
    obtain ⟨rfl,aX⟩:=aW
    refine O8 _ aX<|T.N8 Li<|Tv z (V.not z)<|Tv z (V.pkT z z)<|T.M9 (X2 z z)<|Th<|T.cH H z (λH=>?_) λH=>?_
    ·refine T.norm [0,2,4,6,11,12,13] z<|Rg<|Mv z<|Mv z<|To (O.b1 (E:=VI .i64) A9 J6 z z z z z λbx aY=>T.J8 λbA aZ a0=>have a1:=A8.slc a0 aY.u; bE H λa2 a3 H=>have a4:=(G.trans aZ); have a5:=j.2.1 _ _ _ _ a4 f; To (O.A4f z z (V5.call j.u a1 a5 a3 As _) z λbB bC bD bG a6=>?_))
     obtain ⟨I,rfl,a7,a8⟩:=a6
     refine O8 ((As++(I++L))) a7<|Ni<|Bn<|Th<|Rg<|bE H λa9 ah H=>Ws z z ah<|Mv z<|Nt<|T.ag (n,a2,a9,I) ⟨(D8 H i),a8⟩
    refine T.skip<|Bn<|Th<|T.norm [0,2,4,11,12,13] z<|Rg<|bE H λal av H=>Ws z z av<|Mv z<|Nt<|have az:=j.2.1 _ _ _ _ G f; T.ag (n,c,al,a) ⟨(D8 H i),az⟩
   refine T2 z z<|Tk z<|T.A3Y z z (X2 z z) z ?_ T.O4
   refine T.N8 Lr<|Tk z<|Tv z (V.pkF z z)<|T.M9 (X2 z z)<|Th<|Cf z<|T.skip<|Bn<|Th<|Rg<|bE H λba bb H=>Ws z z bb<|Mv z<|Nt<|T.ag (n,c,ba,a) ⟨(D8 H i),f⟩
  refine T2 z z<|T2 z z<|T2 z z<|T2 z z<|T2 z z<|T2 z z<|T2 z z<|Tk z<|Tv z (V.pkF z z)<|Tm z z<|T2 z z<|Tk z<|T.A3Y z z (X2 z z) z ?_ T.O4
  refine T.N8 Lr<|Tk z<|Tv z (V.pkF z z)<|T.M9 (X2 z z)<|Th<|Cf z<|T.skip<|Bn<|Th<|Rg<|bE H λbc bd H=>Ws z z bd<|Mv z<|Nt<|T.ag (n,c,bc,a) ⟨(D8 H i),f⟩
 refine Xt<|have H:=D5 H i; Be<|Th<|have H:=H7 H Z; ?_
 cases H
 exact T.A0R results102 Li ⟨a,z,z,f⟩
theorem A7O {σ:Type} {R:σ→PH→List E5→Prop} {x:σ→Int→(List Int)→Option σ} {D:σ} {q_s:σ} {h I y J c K A M La} (ac:Pt M4 h I y) (ad:I4 h J c) (ae:B0c h K A) (n:V5 R h M x) (hRa:R D h La) (H:A5J y c A x D=some q_s):∀ As L,I7 prog 146 [I,.agg J.toArray,K,M] h ((As++(La++L))) (λv h' L'=>∃ La',v=.tuple #[]∧L'=(As++(La'++L))∧R q_s h' La'):=by
 intro As L
 obtain rfl:=ad
 refine I7.enter func146 z z z<|Sr<|To (O.T9 z z z λbw bx af ai=>Nt<|Sm z<|have aj:=ac; ?_)
 obtain ⟨bA,_,rfl,o,⟨ak,am,an,rfl,N,m,ao⟩⟩:=aj
 refine NL z P6 D9 o.u z<|Vv (V.P7 A9 z m)<|Mv z<|Nt<|T.A0G ?_
 obtain ⟨ap,aq,ar⟩:=J4 H
 have H:=aq
 refine Bl<|have au:=n.2.1 _ _ _ _ af hRa; T.lk [0,2,3,5,15,16] (FUEL,D,(0:Int),La) (λ⟨p,i,f,a⟩=>([(17,qi f)],(As++(a++L)),λhh=>iter (A4X y c A x) p (i,f)=some ap∧R i hh a)) ⟨H,au⟩ ?_
 rintro ⟨p,i,f,a⟩ aw bB ⟨ax,E⟩
 obtain ⟨P,bC,rfl,H,G⟩:=G5 ax
 refine T.norm [17,0,2,3,5,15,16] z<|O8 ((As++(a++L))) z<|Sr<|Wl z z<|Nt<|Sq<|T.cH H z (λH=>?_) λH=>?_
 ·refine Ks<|Sq<|Bl<|Sm z<|bE H λay S H=>?_
  obtain ⟨bD,aA,rfl⟩:=G9.at m S
  refine Vv (V.ix A9 z z m (E8 S))<|Vv (V.Q9 D6 z aA.u z)<|Ag z<|An z<|Sq<|Sq ?_
  obtain ⟨aB,aC,aD⟩:=J4 H
  refine T.ck (α:=Bool) [0,2,3,5,8,9,15,16,17] (λr=>([(30,.bool r)],(As++(a++L)),λhh=>aB=r)) ?_ ?_
  ·have H:=aC
   refine Rg<|Mv z<|Wl z z<|Mv z<|T.bH 24 H z (λH=>?_) λH=>?_
   ·refine S2<|S2<|Sk<|Kt z<|Nt<|T.mt true (K9 H)
   refine Mv z<|Vv (V.ldS z ai.u (by exact K3)) ?_
   refine Mv z<|bE H λaE aG H=>To (O.G6 z (A5f (Pt.mk o.u ⟨ak,am,an,z,N.u,m.u,ao.u⟩) (show I4 aw [.int .u8 c.F9,qi c.K6,.string c.fA,.string c.fB,.string c.I5,qi c.fN] c from z) aG _) z λbG bI bJ bK aI=>?_)
   obtain ⟨rfl,aJ⟩:=aI
   refine O8 _ aJ<|Vv (V.not z)<|Kf z<|Nt<|T.mt (!aE) (K9 H)
  rintro r bM U aK
  have H:=H7 aK aD
  refine T.norm [30,0,2,3,5,8,9,15,16,17] z<|O8 ((As++(a++L))) z<|T.cH H z (λH=>?_) λH=>?_
  ·refine T.exit<|Te<|Be<|Th<|Rg<|bE H λaM aN H=>Ws z z aN<|Mv z<|Nt<|have aO:=n.2.1 _ _ _ _ U E; T.ag (P,i,aM,a) ⟨(D8 H G),aO⟩
  refine Ks<|Sm z<|bE H λaP aS H=>Ws z z aS<|An z<|T.A0G ?_
  obtain ⟨aU,aV,aW⟩:=J4 H
  have H:=aV
  refine Bl<|have aX:=n.2.1 _ _ _ _ U E; T.lk [0,2,3,5,8,9,15,16,17] (FUEL,i,aP,a) (λ⟨q,d,j,b⟩=>([(10,qi j)],(As++(b++L)),λhh=>iter (A5k y A x f ay) q (d,j)=some aU∧R d hh b)) ⟨H,aX⟩ ?_
  rintro ⟨q,d,j,b⟩ aY bN ⟨aZ,s⟩
  obtain ⟨B,bO,rfl,H,w⟩:=G5 aZ
  refine T.norm [10,0,2,3,5,8,9,15,16,17] z<|O8 ((As++(b++L))) z<|Sq<|Sm z<|Mv z<|NL z P6 D9 o.u z<|Vv (V.P7 A9 z m)<|Wl z z<|Nt<|T.cH H z (λH=>?_) λH=>?_
  ·refine Ks<|Sq<|Bl<|Sm z<|NL z P6 D9 o.u z<|Mv z<|bE H λbP W H=>?_
   obtain ⟨bS,a0,rfl⟩:=G9.at m W
   refine Vv (V.ix A9 z z m (E8 W))<|Vv (V.Q9 D6 z a0.u z)<|An z<|Sq<|T.dw (.vs [0,1,2,3,4,5,6,7,8,9,10,11,12,13,14,15,16,17,18,19,20,21,22,23,24,25,26,27,28] (.alt 29 (.g (.v 30 .done)) .no)) 32 0 0 ?_
   refine Tm z z<|Tv z (V.ge z z)<|Tm z z<|T.bH 51 H z (λH=>?_) λH=>?_
   ·refine Tm z z<|TL z z z z G8 I6 o.u z<|have a1:=N; ?_
    obtain ⟨bU,_,rfl,X,⟨bV,bW,bX,bY,bZ,b0,b1,b2,b3,b4,b5,b6,b7,b8,rfl,b9,bh,bl,bv,bz,ca,C,cb,cc,cd,ce,cf,cg,ci⟩⟩:=a1
    refine TL z z z z U2 D9 X.u z<|Tm z z<|bE H λcj Y H=>?_
    obtain ⟨ck,a2,rfl⟩:=G9.at C Y
    refine Tv z (V.ix A9 z z C (E8 Y))<|Tv z (V.Q9 D6 z a2.u z)<|Tm z z<|TL z z z z G8 I6 o.u z<|TL z z z z U2 D9 X.u z<|Tm z z<|bE H λcm Z H=>?_
    obtain ⟨cn,a3,rfl⟩:=G9.at C Z
    refine Tv z (V.ix A9 z z C (E8 Z))<|Tv z (V.Q9 D6 z a3.u z)<|Tv z (V.eq z z)<|Tv z (V.pkT z z)<|Tm z z<|T.bH 74 H z (λH=>?_) λH=>?_
    ·refine Tm z z<|Tm z z<|Tm z z<|bE H λco a4 H=>?_
     obtain ⟨cp,cq,cr,a5,a6⟩:=B0c.call (ae.u (g:=aY)) a4
     refine Tp z z (X2 z z) (O.A1b z a5 z (a6 _) z λcs a7 ct aa a8=>?_) T.O4
     obtain ⟨rfl,a9⟩:=a8
     refine O8 _ a9<|T.N8 Li<|Tv z (V.pkT z z)<|T.M9 (X2 z z)<|Th<|T.cH H z (λH=>?_) λH=>?_
     ·refine T.norm [0,2,3,5,8,9,10,15,16,17] z<|Rg<|Mv z<|Mv z<|Mv z<|To (O.bq A9 J6 [.tmp 81,.tmp 82] (VI .i64) [[qi f],[qi j]] [f,j] λcu ah=>T.J8 λcw al av=>have az:=A8.slc av ah.u; bE H λba bb H=>have bc:=(aa.trans al); have bd:=n.2.1 _ _ _ _ bc s; To (O.A4f z z (V5.call n.u az bd bb As _) z λcx cy cA cB be=>?_))
      obtain ⟨ab,rfl,bf,bg⟩:=be
      refine O8 ((As++(ab++L))) bf<|Ni<|Bn<|Th<|Rg<|Mv z<|bE H λbi bj H=>Ws z z bj<|An z<|T.ag (B,ba,bi,ab) ⟨(D8 H w),bg⟩
     refine T.skip<|Bn<|Th<|T.norm [0,2,3,5,8,9,10,15,16,17] z<|Rg<|Mv z<|bE H λbk bm H=>Ws z z bm<|An z<|have bn:=n.2.1 _ _ _ _ aa s; T.ag (B,d,bk,b) ⟨(D8 H w),bn⟩
    refine T2 z z<|Tk z<|T.A3Y z z (X2 z z) z ?_ T.O4
    refine T.N8 Lr<|Tv z (V.pkF z z)<|T.M9 (X2 z z)<|Th<|Cf z<|T.skip<|Bn<|Th<|T.norm [0,2,3,5,8,9,10,15,16,17] z<|Rg<|Mv z<|bE H λbo bp H=>Ws z z bp<|An z<|T.ag (B,d,bo,b) ⟨(D8 H w),s⟩
   refine T2 z z<|T2 z z<|T2 z z<|T2 z z<|T2 z z<|T2 z z<|T2 z z<|T2 z z<|T2 z z<|T2 z z<|Tk z<|Tv z (V.pkF z z)<|Tm z z<|T2 z z<|Tk z<|T.A3Y z z (X2 z z) z ?_ T.O4
   refine T.N8 Lr<|Tv z (V.pkF z z)<|T.M9 (X2 z z)<|Th<|Cf z<|T.skip<|Bn<|Th<|Rg<|Mv z<|bE H λbq br H=>Ws z z br<|An z<|T.ag (B,d,bq,b) ⟨(D8 H w),s⟩
  refine Xt<|have H:=D5 H w; Be<|Th<|have H:=H7 H aW; Bn<|Th<|Rg<|bE H λbt bu H=>Ws z z bu<|Mv z<|Nt<|T.ag (P,d,bt,b) ⟨(D8 H G),s⟩
 refine Xt<|have H:=D5 H G; Be<|Th<|have H:=H7 H ar; ?_
 cases H
 exact T.A0R results146 Li ⟨a,z,z,E⟩
theorem B2r {σ:Type} {R:σ→PH→List E5→Prop} {w:σ→(List Int)→Option σ} {x:σ} {q_s:σ} {h J q K r M La} (ae:Pt M4 h J q) (af:I4 h K r) (s:B1A R h M w) (hRa:R x h La) (H:A9u q r w x=some q_s):∀ As L,I7 prog 148 [J,.agg K.toArray,M] h ((As++(La++L))) (λv h' L'=>∃ La',v=.tuple #[]∧L'=(As++(La'++L))∧R q_s h' La'):=by
 intro As L
 obtain rfl:=af
 refine I7.enter func148 z z z<|Sr<|To (O.T9 z z z λbg bi ai N=>Nt<|Sm z<|have aj:=ae; ?_)
 obtain ⟨bj,_,rfl,y,⟨bk,bm,bn,rfl,ak,A,bo⟩⟩:=aj
 refine NL z G8 I6 y.u z<|have am:=ak; ?_
 obtain ⟨bp,_,rfl,P,⟨bq,br,bs,bt,bu,bw,bx,bA,bB,bC,bD,bG,bI,bJ,rfl,B,bK,bM,bN,bO,bP,S,bS,bU,bV,bW,bX,bY,bZ⟩⟩:=am
 refine NF z L8<|Vv (V.fa B0L z)<|Wd 0 O7 z P.u z<|Vv (V.P7 O1 z B)<|Mv z<|Nt<|T.A0G ?_
 obtain ⟨an,ao,aq⟩:=J4 H
 have H:=ao
 refine Bl<|have ar:=s.2.1 _ _ _ _ ai hRa; T.lk [0,2,4,18,19] (FUEL,x,(0:Int),La) (λ⟨m,f,g,a⟩=>([(20,qi g)],(As++(a++L)),λhh=>iter (A4z q r w) m (f,g)=some an∧R f hh a)) ⟨H,ar⟩ ?_
 rintro ⟨m,f,g,a⟩ b0 b2 ⟨au,C⟩
 obtain ⟨U,b3,rfl,H,D⟩:=G5 au
 refine T.norm [20,0,2,4,18,19] z<|O8 ((As++(a++L))) z<|Sr<|Wl z z<|Nt<|Sq<|T.cH H z (λH=>?_) λH=>?_
 ·refine Ks<|Sq<|Bl<|Sm z<|bE H λi W H=>?_
  obtain ⟨b4,aw,⟨ax,rfl,ay⟩⟩:=G9.at B W
  refine Vv (V.ix O1 z z B (E8 W))<|Vv (V.ldS z aw.u (by exact I8)) ?_
  refine To (O.alloc A1O z z λb5=>Ag z<|To (O.stF (vs:=[.string i.F8,.int .u8 i.P8,qi i.fA,qi i.fB,ax,qi i.fX,qi i.fY]) I8 z z (j:=0) z z (by (simp only [BT,G9.one ay]) <;> rfl) z ?_))
  refine T.freeze λb6 X aA=>have aB:=Y2.of aA; Nt<|Sq<|Sq ?_
  obtain ⟨aC,aD,aE⟩:=J4 H
  refine T.ck (α:=Bool) [0,2,4,6,18,19,20] (λo=>([(34,.bool o)],(As++(a++L)),λhh=>aC=o)) ?_ ?_
  ·have H:=aD
   refine Rg<|Vv (V.fa U8 z)<|Wd 4 J3 z N.u z<|Vv (V.sne z z)<|Mv z<|T.bH 28 H z (λH=>?_) λH=>?_
   ·refine Vv (V.fa U8 z)<|Wd 4 J3 z N.u z<|Vv (V.fa A0i z)<|Wd 0 J3 z aB z<|Vv (V.sne z z)<|Kt z<|Nt<|T.mt (!decide (r.I5=i.F8)) (K9 H)
   refine S2<|S2<|Sk<|Kf z<|Nt<|T.mt false (K9 H)
  rintro o aG Y aI
  have H:=H7 aI aE
  refine T.norm [34,0,2,4,6,18,19,20] z<|O8 ((As++(a++L))) z<|T.cH H z (λH=>?_) λH=>?_
  ·refine T.exit<|Te<|Be<|Th<|Rg<|bE H λaJ aK H=>Ws z z aK<|Mv z<|Nt<|have aM:=(X.trans Y); have aN:=s.2.1 _ _ _ _ aM C; T.ag (U,f,aJ,a) ⟨(D8 H D),aN⟩
  refine Ks<|Sr<|An z<|Sq<|Sm z<|NL z P6 D9 y.u z<|Vv (V.P7 A9 z A)<|Mv z<|Nt ?_
  obtain ⟨aO,aP,aS⟩:=J4 H
  have H:=aP
  refine Bl<|T.rn (VI .i64) 3 1 λaU=>T.lk [0,2,4,6,18,19,20,38,39] (FUEL,(0:Int),([]:List Int),(qs),[]) (λ⟨n,d,e,c,b⟩=>([(40,qi d),(8,c)],F3 3 1 c b::(As++(a++L)),λhh=>iter (A3k q g) n (d,e)=some aO∧A8 (VI .i64) hh b e)) ⟨H,aU⟩ ?_
  rintro ⟨n,d,e,c,b⟩ aV aW ⟨aX,p⟩
  obtain ⟨G,b7,rfl,H,t⟩:=G5 aX
  refine T.norm [40,8,0,2,4,6,18,19,20,38,39] z<|O8 (F3 3 1 c b::(As++(a++L))) z<|Sr<|Wl z z<|Nt<|Sq<|T.cH H z (λH=>?_) λH=>?_
  ·refine Ks<|Sq<|Bl<|Sm z<|bE H λb8 Z H=>?_
   obtain ⟨b9,aY,rfl⟩:=G9.at A Z
   refine Vv (V.ix A9 z z A (E8 Z))<|Vv (V.Q9 D6 z aY.u z)<|Ag z<|An z<|Sm z<|Vv (V.ge z z)<|Mv z<|T.bH 47 H z (λH=>?_) λH=>?_
   ·refine Mv z<|NL z G8 I6 y.u z<|NL z U2 D9 P.u z<|Mv z<|bE H λbh aa H=>?_
    obtain ⟨bl,aZ,rfl⟩:=G9.at S aa
    refine Vv (V.ix A9 z z S (E8 aa))<|Vv (V.Q9 D6 z aZ.u z)<|Mv z<|We z z<|Kt z<|Nt<|T.cH H z (λH=>?_) λH=>?_
    ·refine Rg<|Mv z<|Mv z<|To (O.b1 (E:=VI .i64) A9 J6 z z z z z λbv I=>bE H λab ac H=>To (O.ax A9 J6 1 p I ac VI.plain λa0 a1=>Fr_ 1 z<|T.drop<|Ag z<|Ni<|Bn<|Th<|Rg<|bE H λa2 a3 H=>Ws z z a3<|Mv z<|Nt<|T.ag (G,a2,ab,a0,(b++[[qi d]])) ⟨(D8 H t),a1⟩))
    refine T.skip<|Bn<|Th<|Rg<|bE H λa4 a5 H=>Ws z z a5<|Mv z<|Nt<|T.ag (G,a4,e,c,b) ⟨(D8 H t),p⟩
   refine S2<|S2<|S2<|S2<|S2<|S2<|Kf z<|Nt<|Cf z<|T.skip<|Bn<|Th<|Rg<|bE H λa6 a7 H=>Ws z z a7<|Mv z<|Nt<|T.ag (G,a6,e,c,b) ⟨(D8 H t),p⟩
  refine Xt<|have H:=D5 H t; Be<|Th<|have H:=H7 H aS; Rg<|Mv z<|Mv z<|T.J8 λcb a8 a9=>have ah:=A8.slc a9 p.u; bE H λal av H=>have az:=(((X.trans Y).trans aW).trans a8); have ba:=s.2.1 _ _ _ _ az C; To (O.A4f z z (B1A.call s.u ah ba av As _) z λcc cd ce cf bb=>?_)
  obtain ⟨ad,rfl,bc,bd⟩:=bb
  refine O8 ((As++(ad++L))) bc<|Ni<|Bn<|Th<|Rg<|bE H λbe bf H=>Ws z z bf<|Mv z<|Nt<|T.ag (U,al,be,ad) ⟨(D8 H D),bd⟩
 refine Xt<|have H:=D5 H D; Be<|Th<|have H:=H7 H aq; ?_
 cases H
 exact T.A0R results148 Li ⟨a,z,z,C⟩
theorem B4U {h e f i j m n} (b:Y2 h i j) (s:(VPt M4) h j m) (H:A4u e f m=some n):∀ L,FnW prog 147 [.int .i64 e,.int .i64 f,.pointer (some i)] h L (.bool n):=by
 intro L
 obtain ⟨ay,rfl,u⟩:=s
 refine I7.enter func147 z z z<|Sr<|An z<|Sq<|T.dw (.vs [0,1,2,3,4,5,6,7,8,9,10,11,12,13,14,15,16,17,18,19,20,21,22,23,24,25,26,27,28,29,30,31,32,33,34,35,36,37,38,39,40,41,42,43,44,45,46,47,48,49,50] (.alt 51 (.g (.v 52 (.alt 53 .done .no))) .no)) 55 0 0 ?_
 refine Tv z (V.Q9 Q8 z b z)<|have w:=u; ?_
 obtain ⟨aA,_,rfl,c,⟨aB,x,y,rfl,A,B,C⟩⟩:=w
 refine TL z z z z G8 I6 c z<|have D:=A; ?_
 obtain ⟨E,_,rfl,d,⟨G,I,J,K,M,N,P,S,U,W,X,Y,Z,aa,rfl,ab,a,ac,ad,ae,af,ag,ai,aj,o,ak,am,an,ao⟩⟩:=D
 refine TF z z z L8<|Tv z (V.fa A0J z)<|Td z 1 M8 z d z<|Tm z z<|bE H λaC p H=>?_
 obtain ⟨aD,ap,⟨aE,rfl,aG⟩⟩:=G9.at a p
 refine Tv z (V.ix O3 z z a (E8 p))<|Tv z (V.fa A5p z)<|Td z 4 D6 z ap z<|Tv z (V.gt z z)<|Tm z z<|T.bH 19 H z (λH=>?_) λH=>?_
 ·refine Tv z (V.Q9 Q8 z b z)<|TL z z z z G8 I6 c z<|TF z z z L8<|Tv z (V.fa A0J z)<|Td z 1 M8 z d z<|Tm z z<|bE H λaI q H=>?_
  obtain ⟨aJ,aq,⟨aK,rfl,aM⟩⟩:=G9.at a q
  refine Tv z (V.ix O3 z z a (E8 q))<|Tv z (V.fa A5p z)<|Td z 4 D6 z aq z<|Tv z (V.Q9 Q8 z b z)<|TL z z z z G8 I6 c z<|TF z z z L8<|Tv z (V.fa A0J z)<|Td z 1 M8 z d z<|Tm z z<|bE H λaN r H=>?_
  obtain ⟨aO,ar,⟨aP,rfl,aS⟩⟩:=G9.at a r
  refine Tv z (V.ix O3 z z a (E8 r))<|Tv z (V.fa A5p z)<|Td z 4 D6 z ar z<|Tv z (V.eq z z)<|Tv z (V.pkT z z)<|Tm z z<|T.bH 46 H z (λH=>?_) λH=>?_
  ·refine Tv z (V.Q9 Q8 z b z)<|Tv z (V.Q9 Q8 z b z)<|TL z z z z G8 I6 c z<|TL z z z z A2e S9 d z<|Tm z z<|Tm z z<|bE H λaU au H=>Tp z z (X2 z z) (O.G6 z (A3E (Pt.mk c ⟨(.pointer (some E)),x,y,z,(Pt.mk d ⟨G,I,J,K,M,N,P,S,U,W,X,Y,Z,aa,z,ab,a,ac,ad,ae,af,ag,ai,aj,o,ak,am,an,ao⟩),B,C⟩) o au _) z λaV aW aX aY aw=>?_) T.O4
   obtain ⟨rfl,ax⟩:=aw
   refine O8 _ ax<|T.N8 Li<|Tv z (V.pkT z z)<|Ts z z (X2 z z) (V.asg z) z ?_ T.O4
   exact T.M9 (X2 z z)<|Th<|T.ret<|E1 H
  refine T2 z z<|T2 z z<|T2 z z<|T2 z z<|T2 z z<|T.A3Y z z (X2 z z) z ?_ T.O4
  refine T.N8 Lr<|Tv z (V.pkF z z)<|Ts z z (X2 z z) (V.asg z) z ?_ T.O4
  exact T.M9 (X2 z z)<|Th<|T.ret<|E1 H
 refine T2 z z<|T2 z z<|T2 z z<|T2 z z<|T2 z z<|T2 z z<|T2 z z<|T2 z z<|T2 z z<|T2 z z<|T2 z z<|T2 z z<|Tk z<|Tv z (V.pkF z z)<|Tm z z<|T2 z z<|T2 z z<|T2 z z<|T2 z z<|T2 z z<|T.A3Y z z (X2 z z) z ?_ T.O4
 refine T.N8 Lr<|Tv z (V.pkF z z)<|Ts z z (X2 z z) (V.asg z) z ?_ T.O4
 exact T.M9 (X2 z z)<|Th<|T.ret<|E1 H
theorem B7A {σ:Type} {R:σ→PH→List E5→Prop} {e:σ→Int→(List Int)→Option σ} {f:σ} {q_s:σ} {h b c g a i La} (d:Pt M4 h b c) (o:I4 h g a) (j:V5 R h i e) (hRa:R f h La) (H:A6V c a e f=some q_s):∀ As L,I7 prog 93 [b,.agg g.toArray,i] h ((As++(La++L))) (λv h' L'=>∃ La',v=.tuple #[]∧L'=(As++(La'++L))∧R q_s h' La'):=by
 intro As L
 obtain rfl:=o
 refine I7.enter func93 z z z<|Sr<|To (O.T9 z (Pt.cells d) z λk J p m=>To (O.T9 z z z λK n q r=>Nt<|Rg<|Vv (V.Q9 Q8 z m.u z)<|Vv (V.ldS z r (by exact K3)) ?_))
 refine Vv (V.mkf z z)<|Mv z<|have s:=(p.trans q); have t:=j.2.1 _ _ _ _ s hRa; bE H λM w H=>To (O.G6 z (A7O d.u (show I4 n [.int .u8 a.F9,qi a.K6,.string a.fA,.string a.fB,.string a.I5,qi a.fN] a from z) (show B0c n (.func (.func 147) #[] #[qp k]) (λx y=>A4u x y c) from ⟨⟨z,z⟩,.inr ⟨147,[],[qp k],z,λA N P S U B C=>B4U m.u (show (VPt M4) A [b] c from ⟨b,z,d.u⟩) B C⟩⟩) j.u t w As _) z λW X Y Z D=>?_)
 obtain ⟨E,rfl,G,I⟩:=D
 refine O8 _ G<|Ni ?_
 cases H
 exact T.A0R results93 Li ⟨E,z,z,I⟩
theorem C1R {h e f i j m n} (b:Y2 h i j) (s:(VPt M4) h j m) (H:B2i e f m=some n):∀ L,FnW prog 156 [.int .i64 e,.int .i64 f,.pointer (some i)] h L (.bool n):=by
 intro L
 obtain ⟨ay,rfl,u⟩:=s
 refine I7.enter func156 z z z<|Sr<|An z<|Sq<|T.dw (.vs [0,1,2,3,4,5,6,7,8,9,10,11,12,13,14,15,16,17,18,19,20,21,22,23,24,25,26,27,28,29,30,31,32,33,34,35,36,37,38,39,40,41,42,43,44,45,46,47,48,49,50] (.alt 51 (.g (.v 52 (.alt 53 .done .no))) .no)) 55 0 0 ?_
 refine Tv z (V.Q9 Q8 z b z)<|have w:=u; ?_
 obtain ⟨aA,_,rfl,c,⟨aB,x,y,rfl,A,B,C⟩⟩:=w
 refine TL z z z z G8 I6 c z<|have D:=A; ?_
 obtain ⟨E,_,rfl,d,⟨G,I,J,K,M,N,P,S,U,W,X,Y,Z,aa,rfl,ab,a,ac,ad,ae,af,ag,ai,aj,o,ak,am,an,ao⟩⟩:=D
 refine TF z z z L8<|Tv z (V.fa A0J z)<|Td z 1 M8 z d z<|Tm z z<|bE H λaC p H=>?_
 obtain ⟨aD,ap,⟨aE,rfl,aG⟩⟩:=G9.at a p
 refine Tv z (V.ix O3 z z a (E8 p))<|Tv z (V.fa A8J z)<|Td z 2 J3 z ap z<|Tv z (V.sne z z)<|Tm z z<|T.bH 19 H z (λH=>?_) λH=>?_
 ·refine Tv z (V.Q9 Q8 z b z)<|TL z z z z G8 I6 c z<|TF z z z L8<|Tv z (V.fa A0J z)<|Td z 1 M8 z d z<|Tm z z<|bE H λaI q H=>?_
  obtain ⟨aJ,aq,⟨aK,rfl,aM⟩⟩:=G9.at a q
  refine Tv z (V.ix O3 z z a (E8 q))<|Tv z (V.fa A8J z)<|Td z 2 J3 z aq z<|Tv z (V.Q9 Q8 z b z)<|TL z z z z G8 I6 c z<|TF z z z L8<|Tv z (V.fa A0J z)<|Td z 1 M8 z d z<|Tm z z<|bE H λaN r H=>?_
  obtain ⟨aO,ar,⟨aP,rfl,aS⟩⟩:=G9.at a r
  refine Tv z (V.ix O3 z z a (E8 r))<|Tv z (V.fa A8J z)<|Td z 2 J3 z ar z<|Tv z (V.seq z z)<|Tv z (V.pkT z z)<|Tm z z<|T.bH 46 H z (λH=>?_) λH=>?_
  ·refine Tv z (V.Q9 Q8 z b z)<|Tv z (V.Q9 Q8 z b z)<|TL z z z z G8 I6 c z<|TL z z z z A2e S9 d z<|Tm z z<|Tm z z<|bE H λaU au H=>Tp z z (X2 z z) (O.G6 z (A3E (Pt.mk c ⟨(.pointer (some E)),x,y,z,(Pt.mk d ⟨G,I,J,K,M,N,P,S,U,W,X,Y,Z,aa,z,ab,a,ac,ad,ae,af,ag,ai,aj,o,ak,am,an,ao⟩),B,C⟩) o au _) z λaV aW aX aY aw=>?_) T.O4
   obtain ⟨rfl,ax⟩:=aw
   refine O8 _ ax<|T.N8 Li<|Tv z (V.pkT z z)<|Ts z z (X2 z z) (V.asg z) z ?_ T.O4
   exact T.M9 (X2 z z)<|Th<|T.ret<|E1 H
  refine T2 z z<|T2 z z<|T2 z z<|T2 z z<|T2 z z<|T.A3Y z z (X2 z z) z ?_ T.O4
  refine T.N8 Lr<|Tv z (V.pkF z z)<|Ts z z (X2 z z) (V.asg z) z ?_ T.O4
  exact T.M9 (X2 z z)<|Th<|T.ret<|E1 H
 refine T2 z z<|T2 z z<|T2 z z<|T2 z z<|T2 z z<|T2 z z<|T2 z z<|T2 z z<|T2 z z<|T2 z z<|T2 z z<|T2 z z<|Tk z<|Tv z (V.pkF z z)<|Tm z z<|T2 z z<|T2 z z<|T2 z z<|T2 z z<|T2 z z<|T.A3Y z z (X2 z z) z ?_ T.O4
 refine T.N8 Lr<|Tv z (V.pkF z z)<|Ts z z (X2 z z) (V.asg z) z ?_ T.O4
 exact T.M9 (X2 z z)<|Th<|T.ret<|E1 H
theorem C5W {σ:Type} {R:σ→PH→List E5→Prop} {e:σ→Int→(List Int)→Option σ} {f:σ} {q_s:σ} {h b c g a i La} (d:Pt M4 h b c) (o:I4 h g a) (j:V5 R h i e) (hRa:R f h La) (H:B7B c a e f=some q_s):∀ As L,I7 prog 103 [b,.agg g.toArray,i] h ((As++(La++L))) (λv h' L'=>∃ La',v=.tuple #[]∧L'=(As++(La'++L))∧R q_s h' La'):=by
 intro As L
 obtain rfl:=o
 refine I7.enter func103 z z z<|Sr<|To (O.T9 z (Pt.cells d) z λk J p m=>To (O.T9 z z z λK n q r=>Nt<|Rg<|Vv (V.Q9 Q8 z m.u z)<|Vv (V.ldS z r (by exact K3)) ?_))
 refine Vv (V.mkf z z)<|Mv z<|have s:=(p.trans q); have t:=j.2.1 _ _ _ _ s hRa; bE H λM w H=>To (O.G6 z (A7O d.u (show I4 n [.int .u8 a.F9,qi a.K6,.string a.fA,.string a.fB,.string a.I5,qi a.fN] a from z) (show B0c n (.func (.func 156) #[] #[qp k]) (λx y=>B2i x y c) from ⟨⟨z,z⟩,.inr ⟨156,[],[qp k],z,λA N P S U B C=>C1R m.u (show (VPt M4) A [b] c from ⟨b,z,d.u⟩) B C⟩⟩) j.u t w As _) z λW X Y Z D=>?_)
 obtain ⟨E,rfl,G,I⟩:=D
 refine O8 _ G<|Ni ?_
 cases H
 exact T.A0R results103 Li ⟨E,z,z,I⟩
theorem B9G {h b c d e f g} (i:Y2 h d e) (q:(VPt M4) h e f) (H:A9e b c f=some g):∀ L,FnW prog 151 [.int .i64 b,.int .i64 c,.pointer (some d)] h L (.bool g):=by
 intro L
 obtain ⟨au,rfl,r⟩:=q
 refine I7.enter func151 z z z<|Sr<|An z<|Sr<|Vv (V.Q9 Q8 z i z)<|have s:=r; ?_
 obtain ⟨aw,_,rfl,j,⟨ax,t,u,rfl,w,x,y⟩⟩:=s
 refine NL z G8 I6 j z<|have A:=w; ?_
 obtain ⟨B,_,rfl,m,⟨C,D,E,G,I,J,K,M,N,P,S,U,W,X,rfl,Y,Z,aa,ab,ac,ad,ae,af,ag,ai,aj,ak,am,a⟩⟩:=A
 refine NL z A4L A7u m z<|Mv z<|bE H λay n H=>?_
 obtain ⟨aA,an,⟨aB,rfl,o⟩⟩:=G9.at a n
 refine Vv (V.ix A2t z z a (E8 n))<|Vv (V.Q9 C0l z an z)<|Mv z<|bE H λaC p H=>?_
 obtain ⟨aD,ao,rfl⟩:=G9.at o p
 refine Vv (V.ix B2f z z o (E8 p))<|Vv (V.Q9 B0Z z ao z)<|We z z<|Mv z<|T.bH 20 H z (λH=>?_) λH=>?_
 ·exact Vv (V.Q9 Q8 z i z)<|Mv z<|Mv z<|bE H λaE ap H=>To (O.cs (A9T (Pt.mk j ⟨(.pointer (some B)),t,u,z,(Pt.mk m ⟨C,D,E,G,I,J,K,M,N,P,S,U,W,X,z,Y,Z,aa,ab,ac,ad,ae,af,ag,ai,aj,ak,am,a⟩),x,y⟩) ap _) λaI aK=>Kt z<|Ag z<|Nr<|E1 H)
 exact S2<|S2<|Kf z<|Ag z<|Nr<|E1 H
theorem C2o {σ:Type} {R:σ→PH→List E5→Prop} {e:σ→Int→(List Int)→Option σ} {f:σ} {q_s:σ} {h b c g a i La} (d:Pt M4 h b c) (o:I4 h g a) (j:V5 R h i e) (hRa:R f h La) (H:B2B c a e f=some q_s):∀ As L,I7 prog 97 [b,.agg g.toArray,i] h ((As++(La++L))) (λv h' L'=>∃ La',v=.tuple #[]∧L'=(As++(La'++L))∧R q_s h' La'):=by
 intro As L
 obtain rfl:=o
 refine I7.enter func97 z z z<|Sr<|To (O.T9 z (Pt.cells d) z λk J p m=>To (O.T9 z z z λK n q r=>Nt<|Rg<|Vv (V.Q9 Q8 z m.u z)<|Vv (V.ldS z r (by exact K3)) ?_))
 refine Vv (V.mkf z z)<|Mv z<|have s:=(p.trans q); have t:=j.2.1 _ _ _ _ s hRa; bE H λM w H=>To (O.G6 z (A7O d.u (show I4 n [.int .u8 a.F9,qi a.K6,.string a.fA,.string a.fB,.string a.I5,qi a.fN] a from z) (show B0c n (.func (.func 151) #[] #[qp k]) (λx y=>A9e x y c) from ⟨⟨z,z⟩,.inr ⟨151,[],[qp k],z,λA N P S U B C=>B9G m.u (show (VPt M4) A [b] c from ⟨b,z,d.u⟩) B C⟩⟩) j.u t w As _) z λW X Y Z D=>?_)
 obtain ⟨E,rfl,G,I⟩:=D
 refine O8 _ G<|Ni ?_
 cases H
 exact T.A0R results97 Li ⟨E,z,z,I⟩
theorem B7V {h g i n o p q} (a:Y2 h n o) (D:(VPt M4) h o p) (H:A7V g i p=some q):∀ L,FnW prog 153 [.int .i64 g,.int .i64 i,.pointer (some n)] h L (.bool q):=by
 intro L
 obtain ⟨ab,rfl,E⟩:=D
 refine I7.enter func153 z z z<|Sr<|An z<|Sq<|Sq<|T.dw (.vs [0,1,2,3,4,5,6,7,8,9,10,11,12,13,14,15,16,17,18,19,20,21,22] .done) 24 0 0 ?_
 refine Tv z (V.Q9 Q8 z a z)<|have G:=E; ?_
 obtain ⟨ac,_,rfl,b,⟨ad,ae,af,rfl,I,j,ag⟩⟩:=G
 refine TL z z z z G8 I6 b z<|have J:=I; ?_
 obtain ⟨ai,_,rfl,d,⟨aj,ak,am,an,ao,ap,aq,ar,au,aw,ax,ay,aA,aB,rfl,aC,aD,aE,c,aG,aI,aJ,m,aK,aM,aN,aO,aP,aS⟩⟩:=J
 refine TF z z z L8<|Tv z (V.fa A8A z)<|Td z 3 D9 z d z<|Tm z z<|bE H λaU r H=>?_
 obtain ⟨aV,K,rfl⟩:=G9.at c r
 refine Tv z (V.ix A9 z z c (E8 r))<|Tv z (V.Q9 D6 z K z)<|Tv z (V.Q9 Q8 z a z)<|TL z z z z G8 I6 b z<|TF z z z L8<|Tv z (V.fa A8A z)<|Td z 3 D9 z d z<|Tm z z<|bE H λaW s H=>?_
 obtain ⟨aX,M,rfl⟩:=G9.at c s
 refine Tv z (V.ix A9 z z c (E8 s))<|Tv z (V.Q9 D6 z M z)<|Tv z (V.gt z z)<|T.M9 (X2 z z)<|Th ?_
 obtain ⟨N,O,P⟩:=J4 H
 refine T.ck (α:=Int×Int) [2] (λ⟨e,f⟩=>([(0,qi e),(1,qi f)],L,λhh=>N=(e,f))) ?_ ?_
 ·have H:=O
  refine T.cH H z (λH=>?_) λH=>?_
  ·refine Rg<|Mv z<|Mv z<|Ag z<|An z<|T.mt (i,g) (K9 H)
  refine Ks<|T.mt (g,i) (K9 H)
 rintro ⟨e,f⟩ aY aZ S
 have H:=H7 S P
 refine T.norm [0,1,2] z<|T.fl ?_
 refine Sq<|T.dw (.vs [0,1,2,3,4,5,6,7,8,9,10,11,12,13,14,15,16,17,18,19,20,21,22,23,24,25,26,27,28,29,30,31,32,33,34,35,36,37,38,39,40,41,42,43,44,45,46,47,48,49,50,51,52,53,54,55,56,57] (.alt 58 .done .no)) 60 0 0 ?_
 refine Tv z (V.Q9 Q8 z a.u z)<|TL z z z z G8 I6 b.u z<|TF z z z L8<|Tv z (V.fa A8A z)<|Td z 3 D9 z d.u z<|Tm z z<|bE H λa0 w H=>?_
 obtain ⟨a1,U,rfl⟩:=G9.at c w
 refine Tv z (V.ix A9 z z c (E8 w))<|Tv z (V.Q9 D6 z U.u z)<|Tv z (V.Q9 Q8 z a.u z)<|TL z z z z G8 I6 b.u z<|TF z z z L8<|Tv z (V.fa A8A z)<|Td z 3 D9 z d.u z<|Tm z z<|bE H λa2 x H=>?_
 obtain ⟨a3,W,rfl⟩:=G9.at c x
 refine Tv z (V.ix A9 z z c (E8 x))<|Tv z (V.Q9 D6 z W.u z)<|Tv z (V.lt z z)<|Tm z z<|T.bH 54 H z (λH=>?_) λH=>?_
 ·refine Tv z (V.Q9 Q8 z a.u z)<|TL z z z z G8 I6 b.u z<|TL z z z z A9g D9 d.u z<|Tv z (V.Q9 Q8 z a.u z)<|TL z z z z P6 D9 b.u z<|Tm z z<|bE H λa4 y H=>?_
  obtain ⟨a5,X,rfl⟩:=G9.at j y
  refine Tv z (V.ix A9 z z j (E8 y))<|Tv z (V.Q9 D6 z X.u z)<|bE H λa6 A H=>?_
  obtain ⟨a7,Y,rfl⟩:=G9.at m A
  refine Tv z (V.ix A9 z z m (E8 A))<|Tv z (V.Q9 D6 z Y.u z)<|Tv z (V.Q9 Q8 z a.u z)<|TL z z z z G8 I6 b.u z<|TL z z z z A9g D9 d.u z<|Tv z (V.Q9 Q8 z a.u z)<|TL z z z z P6 D9 b.u z<|Tm z z<|bE H λa8 B H=>?_
  obtain ⟨a9,Z,rfl⟩:=G9.at j B
  refine Tv z (V.ix A9 z z j (E8 B))<|Tv z (V.Q9 D6 z Z.u z)<|bE H λah C H=>?_
  obtain ⟨al,aa,rfl⟩:=G9.at m C
  refine Tv z (V.ix A9 z z m (E8 C))<|Tv z (V.Q9 D6 z aa.u z)<|Tv z (V.gt z z)<|Tv z (V.pkT z z)<|Ts z z (X2 z z) (V.asg z) z ?_ T.O4
  exact T.M9 (X2 z z)<|Th<|T.ret<|E1 H
 refine T2 z z<|T2 z z<|T2 z z<|T2 z z<|T2 z z<|T2 z z<|T2 z z<|T2 z z<|T2 z z<|T2 z z<|T2 z z<|T2 z z<|T2 z z<|T2 z z<|T2 z z<|T2 z z<|Tk z<|Tv z (V.pkF z z)<|Ts z z (X2 z z) (V.asg z) z ?_ T.O4
 exact T.M9 (X2 z z)<|Th<|T.ret<|E1 H
theorem C1j {σ:Type} {R:σ→PH→List E5→Prop} {i:σ→Int→(List Int)→Option σ} {j:σ} {q_s:σ} {h m b n a o La} (p:Pt M4 h m b) (ao:I4 h n a) (c:V5 R h o i) (hRa:R j h La) (H:B0E b a i j=some q_s):∀ As L,I7 prog 99 [m,.agg n.toArray,o] h ((As++(La++L))) (λv h' L'=>∃ La',v=.tuple #[]∧L'=(As++(La'++L))∧R q_s h' La'):=by
 intro As L
 obtain rfl:=ao
 refine I7.enter func99 z z z<|Sr<|To (O.T9 z (Pt.cells p) z λq aP r d=>To (O.T9 z z z λaS s t ap=>Nt<|Sq<|Sr<|Vv (V.Q9 Q8 z d.u z)<|have aq:=p; ?_))
 obtain ⟨w,_,rfl,e,⟨aU,x,y,rfl,ar,A,B⟩⟩:=aq
 refine NL z G8 I6 e.u z<|have au:=ar; ?_
 obtain ⟨C,_,rfl,f,⟨D,E,G,I,J,K,M,N,P,S,U,W,X,Y,rfl,Z,aa,ab,g,ac,ad,ae,af,ag,ai,aj,ak,am,an⟩⟩:=au
 refine NF z L8<|Vv (V.fa A8A z)<|Wd 3 D9 z f.u z<|Vv (V.P7 A9 z g)<|We z z<|Nt<|T.cH H z (λH=>?_) λH=>?_
 ·refine T.ret<|Tr<|have aw:=(r.trans t); have ax:=c.2.1 _ _ _ _ aw hRa; ?_
  cases H
  exact T.C4Q results99 Li ⟨La,z,z,ax⟩
 refine Ks<|Rg<|Vv (V.Q9 Q8 z d.u z)<|Vv (V.ldS z ap (by exact K3)) ?_
 refine Vv (V.mkf z z)<|Mv z<|have ay:=(r.trans t); have aA:=c.2.1 _ _ _ _ ay hRa; bE H λaV aB H=>To (O.G6 z (A7O (Pt.mk e.u ⟨(.pointer (some C)),x,y,z,(Pt.mk f.u ⟨D,E,G,I,J,K,M,N,P,S,U,W,X,Y,z,Z.u,aa.u,ab.u,g.u,ac.u,ad.u,ae.u,af.u,ag.u,ai.u,aj.u,ak.u,am.u,an.u⟩),A.u,B.u⟩) (show I4 s [.int .u8 a.F9,qi a.K6,.string a.fA,.string a.fB,.string a.I5,qi a.fN] a from z) (show B0c s (.func (.func 153) #[] #[qp q]) (λaC aD=>A7V aC aD b) from ⟨⟨z,z⟩,.inr ⟨153,[],[qp q],z,λaE aG aW aX aY aI aJ=>B7V d.u (show (VPt M4) aE [.pointer (some w)] b from ⟨(.pointer (some w)),z,(Pt.mono M4.mono (Pt.mk e.u ⟨(.pointer (some C)),x,y,z,(Pt.mk f.u ⟨D,E,G,I,J,K,M,N,P,S,U,W,X,Y,z,Z.u,aa.u,ab.u,g.u,ac.u,ad.u,ae.u,af.u,ag.u,ai.u,aj.u,ak.u,am.u,an.u⟩),A.u,B.u⟩) aG)⟩) aI aJ⟩⟩) c.u aA aB As _) z λaZ a0 a1 a2 aK=>?_)
 obtain ⟨aM,rfl,aN,aO⟩:=aK
 refine O8 _ aN<|Ni ?_
 cases H
 exact T.A0R results99 Li ⟨aM,z,z,aO⟩
theorem C1g {σ:Type} {R:σ→PH→List E5→Prop} {m:σ→Int→(List Int)→Option σ} {e:σ} {q_s:σ} {h n f o p g q r La} (c:G9 (VI .i64) 1 h n f) (A:Y2 h o p) (B:(VPt M4) h p g) (C:Y2 h q [r]) (d:V5 R h r m) (hRa:R e h La) (H:B0J f g m e=some q_s):∀ As L,I7 prog 149 [n,.pointer (some o),.pointer (some q)] h ((As++(La++L))) (λv h' L'=>∃ La',v=.tuple #[]∧L'=(As++(La'++L))∧R q_s h' La'):=by
 intro As L
 obtain ⟨ai,rfl,D⟩:=B
 refine I7.enter func149 z z z<|Sq<|Sm z<|Vv (V.P7 A9 z c)<|Mv z<|Nt ?_
 obtain ⟨E,G,s⟩:=J4 H
 have H:=G
 refine Bl<|T.lk [0,1,2,6,7] (FUEL,(0:Int)) (λ⟨a,b⟩=>([(8,qi b)],(As++(La++L)),λhh=>iter (A4k f g e) a b=some E)) H ?_
 rintro ⟨a,b⟩ aj i I
 obtain ⟨J,ak,rfl,H,j⟩:=G5 I
 refine T.norm [8,0,1,2,6,7] z<|O8 ((As++(La++L))) z<|Sr<|Wl z z<|Nt<|Sq<|T.cH H z (λH=>?_) λH=>?_
 ·refine Ks<|Sq<|Bl<|Sr<|bE H λam t H=>?_
  obtain ⟨an,K,rfl⟩:=G9.at c t
  refine Vv (V.ix A9 z z c (E8 t))<|Vv (V.Q9 D6 z K.u z)<|An z<|Sr<|Vv (V.Q9 Q8 z A.u z)<|have M:=D; ?_
  obtain ⟨ao,_,rfl,N,⟨ap,aq,ar,rfl,P,au,aw⟩⟩:=M
  refine NL z G8 I6 N.u z<|have S:=P; ?_
  obtain ⟨ax,_,rfl,U,⟨ay,aA,aB,aC,aD,aE,aG,aI,aJ,aK,aM,aN,aO,aP,rfl,aS,w,aU,aV,aW,aX,aY,aZ,a0,a1,a2,a3,a4,a5⟩⟩:=S
  refine NF z L8<|Vv (V.fa A0J z)<|Wd 1 M8 z U.u z<|Mv z<|bE H λa6 x H=>?_
  obtain ⟨a7,W,⟨a8,rfl,a9⟩⟩:=G9.at w x
  refine Vv (V.ix O3 z z w (E8 x))<|Vv (V.fa B7o z)<|Wd 6 R3 z W.u z<|Nt<|T.cH H z (λH=>?_) λH=>?_
  ·refine T.ret<|Br<|Tr<|Tr<|have H:=D5 H j; Br<|Tr<|have H:=H7 H s; have X:=d.2.1 _ _ _ _ i hRa; ?_
   cases H
   exact T.C4Q results149 Li ⟨La,z,z,X⟩
  refine T.skip<|Bn<|Th<|Rg<|bE H λY Z H=>Ws z z Z<|Mv z<|Nt<|T.ag (J,Y) (D8 H j)
 refine Xt<|have H:=D5 H j; Be<|Th<|have H:=H7 H s; Sm z<|Vv (V.P7 A9 z c)<|Wg z z<|Nt<|T.cH H z (λH=>?_) λH=>?_
 ·refine Rg<|Vv (V.Q9 B5Y z C.u z)<|Mv z<|bE H λah aa H=>have ab:=d.2.1 _ _ _ _ i hRa; To (O.A4f z z (V5.call d.u c.u ab aa As _) z λal av az ba ac=>?_)
  obtain ⟨y,rfl,ad,ae⟩:=ac
  refine O8 ((As++(y++L))) ad<|Ni ?_
  cases H
  exact T.A0R results149 Li ⟨y,z,z,ae⟩
 refine T.skip<|have af:=d.2.1 _ _ _ _ i hRa; ?_
 cases H
 exact T.A0R results149 Li ⟨La,z,z,af⟩
theorem C3x {σ:Type} {R:σ→PH→List E5→Prop} {e:σ→Int→(List Int)→Option σ} {g:σ} {q_s:σ} {h b c i a j La} (f:Pt M4 h b c) (p:I4 h i a) (d:V5 R h j e) (hRa:R g h La) (H:B4u c a e g=some q_s):∀ As L,I7 prog 94 [b,.agg i.toArray,j] h ((As++(La++L))) (λv h' L'=>∃ La',v=.tuple #[]∧L'=(As++(La'++L))∧R q_s h' La'):=by
 intro As L
 obtain rfl:=p
 refine I7.enter func94 z z z<|Sr<|To (O.T9 z (Pt.cells f) z λk S q m=>To (O.T9 z z z λU W r s=>To (O.T9 z d.1.2 z λn o t w=>Nt<|Rg<|Vv (V.Q9 Q8 z m.u z)<|Vv (V.ldS z s.u (by exact K3)) ?_)))
 refine Vv (V.mkf z z)<|have x:=((q.trans r).trans t); have y:=d.2.1 _ _ _ _ x hRa; bE H λX A H=>To (O.G6 z (B2r f.u (show I4 o [.int .u8 a.F9,qi a.K6,.string a.fA,.string a.fB,.string a.I5,qi a.fN] a from z) (show B1A R o (.func (.func 149) #[] #[qp k,qp n]) (λs_ B=>B0J B c e s_) from ⟨⟨z,z⟩,d.2.1,λC Y=>λD=>λE G I J=>Yld.fn (us:=[]) (cs:=[qp k,qp n]) (C1g D m.u (show (VPt M4) C [b] c from ⟨b,z,f.u⟩) w.u d.u E G I J)⟩) y A As _) z λZ aa ab ac K=>?_)
 obtain ⟨M,rfl,N,P⟩:=K
 refine O8 _ N<|Ni ?_
 cases H
 exact T.A0R results94 Li ⟨M,z,z,P⟩
theorem C0Q {σ:Type} {R:σ→PH→List E5→Prop} {b:σ→Int→(List Int)→Option σ} {c:σ} {q_s:σ} {h d e f g i j m La} (a:G9 (VI .i64) 1 h d e) (n:Y2 h f g) (p:I4 h g i) (q:Y2 h j [m]) (r:V5 R h m b) (hRa:R c h La) (H:B0N e i b c=some q_s):∀ As L,I7 prog 154 [d,.pointer (some f),.pointer (some j)] h ((As++(La++L))) (λv h' L'=>∃ La',v=.tuple #[]∧L'=(As++(La'++L))∧R q_s h' La'):=by
 intro As L
 obtain rfl:=p
 refine I7.enter func154 z z z<|Sm z<|Vv (V.P7 A9 z a)<|Vv (V.fa U0 z)<|Wd 5 D6 z n z<|Wl z z<|Nt<|T.cH H z (λH=>?_) λH=>?_
 ·refine Rg<|Vv (V.Q9 B5Y z q z)<|Vv (V.fa U0 z)<|Wd 5 D6 z n z<|Mv z<|Vv (V.P7 A9 z a)<|bE H λy s H=>Vv (V.X9 z z s)<|Mv z<|bE H λA t H=>To (O.A4f z z (V5.call r a hRa t As _) z λB C D E u=>?_)
  obtain ⟨o,rfl,w,x⟩:=u
  refine O8 ((As++(o++L))) w<|Ni ?_
  cases H
  exact T.A0R results154 Li ⟨o,z,z,x⟩
 refine T.skip ?_
 cases H
 exact T.A0R results154 Lr ⟨La,z,z,hRa⟩
theorem C3u {σ:Type} {R:σ→PH→List E5→Prop} {c:σ→Int→(List Int)→Option σ} {d:σ} {q_s:σ} {h e f g a i La} (o:Pt M4 h e f) (p:I4 h g a) (b:V5 R h i c) (hRa:R d h La) (H:B4H f a c d=some q_s):∀ As L,I7 prog 100 [e,.agg g.toArray,i] h ((As++(La++L))) (λv h' L'=>∃ La',v=.tuple #[]∧L'=(As++(La'++L))∧R q_s h' La'):=by
 intro As L
 obtain rfl:=p
 refine I7.enter func100 z z z<|Sr<|To (O.T9 z z z λj N q k=>To (O.T9 z b.1.2 z λm n r s=>Nt<|Rg<|Mv z<|Vv (V.ldS z k.u (by exact K3)) ?_))
 refine Vv (V.mkf z z)<|have t:=(q.trans r); have w:=b.2.1 _ _ _ _ t hRa; bE H λP x H=>To (O.G6 z (B2r o.u (show I4 n [.int .u8 a.F9,qi a.K6,.string a.fA,.string a.fB,.string a.I5,qi a.fN] a from z) (show B1A R n (.func (.func 154) #[] #[qp j,qp m]) (λs_ y=>B0N y a c s_) from ⟨⟨z,z⟩,b.2.1,λA S=>λB=>λC D E G=>Yld.fn (us:=[]) (cs:=[qp j,qp m]) (C0Q B k.u (show I4 A [.int .u8 a.F9,qi a.K6,.string a.fA,.string a.fB,.string a.I5,qi a.fN] a from z) s.u b.u C D E G)⟩) w x As _) z λU W X Y I=>?_)
 obtain ⟨J,rfl,K,M⟩:=I
 refine O8 _ K<|Ni ?_
 cases H
 exact T.A0R results100 Li ⟨J,z,z,M⟩
theorem B9r {σ:Type} {R:σ→PH→List E5→Prop} {b:σ→Int→(List Int)→Option σ} {c:σ} {q_s:σ} {h d e f g i j m La} (a:G9 (VI .i64) 1 h d e) (n:Y2 h f g) (p:I4 h g i) (q:Y2 h j [m]) (r:V5 R h m b) (hRa:R c h La) (H:A8Z e i b c=some q_s):∀ As L,I7 prog 155 [d,.pointer (some f),.pointer (some j)] h ((As++(La++L))) (λv h' L'=>∃ La',v=.tuple #[]∧L'=(As++(La'++L))∧R q_s h' La'):=by
 intro As L
 obtain rfl:=p
 refine I7.enter func155 z z z<|Sm z<|Vv (V.P7 A9 z a)<|Vv (V.fa U0 z)<|Wd 5 D6 z n z<|Wg z z<|Nt<|T.cH H z (λH=>?_) λH=>?_
 ·refine Rg<|Vv (V.Q9 B5Y z q z)<|Mv z<|Vv (V.P7 A9 z a)<|Vv (V.fa U0 z)<|Wd 5 D6 z n z<|bE H λy s H=>Vv (V.X9 z z s)<|Mv z<|bE H λA t H=>To (O.A4f z z (V5.call r a hRa t As _) z λB C D E u=>?_)
  obtain ⟨o,rfl,w,x⟩:=u
  refine O8 ((As++(o++L))) w<|Ni ?_
  cases H
  exact T.A0R results155 Li ⟨o,z,z,x⟩
 refine T.skip ?_
 cases H
 exact T.A0R results155 Lr ⟨La,z,z,hRa⟩
theorem C2n {σ:Type} {R:σ→PH→List E5→Prop} {c:σ→Int→(List Int)→Option σ} {d:σ} {q_s:σ} {h e f g a i La} (o:Pt M4 h e f) (p:I4 h g a) (b:V5 R h i c) (hRa:R d h La) (H:B2d f a c d=some q_s):∀ As L,I7 prog 101 [e,.agg g.toArray,i] h ((As++(La++L))) (λv h' L'=>∃ La',v=.tuple #[]∧L'=(As++(La'++L))∧R q_s h' La'):=by
 intro As L
 obtain rfl:=p
 refine I7.enter func101 z z z<|Sr<|To (O.T9 z z z λj N q k=>To (O.T9 z b.1.2 z λm n r s=>Nt<|Rg<|Mv z<|Vv (V.ldS z k.u (by exact K3)) ?_))
 refine Vv (V.mkf z z)<|have t:=(q.trans r); have w:=b.2.1 _ _ _ _ t hRa; bE H λP x H=>To (O.G6 z (B2r o.u (show I4 n [.int .u8 a.F9,qi a.K6,.string a.fA,.string a.fB,.string a.I5,qi a.fN] a from z) (show B1A R n (.func (.func 155) #[] #[qp j,qp m]) (λs_ y=>A8Z y a c s_) from ⟨⟨z,z⟩,b.2.1,λA S=>λB=>λC D E G=>Yld.fn (us:=[]) (cs:=[qp j,qp m]) (B9r B k.u (show I4 A [.int .u8 a.F9,qi a.K6,.string a.fA,.string a.fB,.string a.I5,qi a.fN] a from z) s.u b.u C D E G)⟩) w x As _) z λU W X Y I=>?_)
 obtain ⟨J,rfl,K,M⟩:=I
 refine O8 _ K<|Ni ?_
 cases H
 exact T.A0R results101 Li ⟨J,z,z,M⟩
end Go.Proofs.X
open Go Go.Proofs Go.Proofs.Tryz Go.Sl Go.Dm
namespace Go.Proofs.X
theorem C5H:A5A prog 105=some ([.slice none 0 0,.slice none 0 0,.slice none 0 0,.slice none 0 0,.slice none 0 0,.map none,.slice none 0 0,.slice none 0 0,.slice none 0 0,.slice none 0 0,.slice none 0 0,.slice none 0 0,.slice none 0 0,.slice none 0 0],[(0,5),(5,1),(6,1),(7,1),(8,1),(9,1),(10,1),(11,1),(12,1),(13,1)]):=by kernel_rfl
theorem B9g:A5A prog 118=some ([.slice none 0 0,.slice none 0 0],[(0,1),(1,1)]):=by kernel_rfl
theorem C5A:A5A prog 134=some ([.pointer none,.slice none 0 0,.slice none 0 0],[(0,1),(1,1),(2,1)]):=by kernel_rfl
theorem U5:A5A prog 161=some ([.string ⟨#[]⟩,.int .u8 (0),.bool false,.int .u8 (0),.bool false,.int .i64 (0),.bool false,.nilFunc],[(0,1),(1,1),(2,1),(3,1),(4,1),(5,1),(6,1),(7,1)]):=by kernel_rfl
theorem C5L:A0B prog 105=true:=by kernel_rfl
theorem B9o:A0B prog 118=true:=by kernel_rfl
theorem C4U:A0B prog 134=true:=by kernel_rfl
theorem U4:A0B prog 161=true:=by kernel_rfl
theorem B5m:O5 prog 105 1=some 5:=by kernel_rfl
theorem C1U:O5 prog 161 0=some 0:=by kernel_rfl
theorem A8j:O5 prog 161 1=some 1:=by kernel_rfl
theorem A3G:O5 prog 161 2=some 2:=by kernel_rfl
theorem A2q:O5 prog 161 3=some 3:=by kernel_rfl
theorem A0Y:O5 prog 161 4=some 4:=by kernel_rfl
theorem C2p:O5 prog 161 5=some 5:=by kernel_rfl
theorem C2v:O5 prog 161 6=some 6:=by kernel_rfl
theorem A3p:O5 prog 97 4=some 4:=by kernel_rfl
theorem C5K:U1 prog 159=some (false,1):=by kernel_rfl
theorem C5m:U1 prog 161=some (true,8):=by kernel_rfl
theorem C1C:U1 prog 98=some (false,1):=by kernel_rfl
theorem A8F:zer prog 100=some (.slice none 0 0):=by kernel_rfl
theorem B9l:zer prog 112=some (.map none):=by kernel_rfl
theorem A6a:zer prog 122=some (.slice none 0 0):=by kernel_rfl
theorem B9m:zer prog 124=some (.int .u8 (0)):=by kernel_rfl
theorem B8W:zer prog 161=some (.agg #[.string ⟨#[]⟩,.int .u8 (0),.bool false,.int .u8 (0),.bool false,.int .i64 (0),.bool false,.nilFunc]):=by kernel_rfl
theorem A5V:zer prog 4=some (.bool false):=by kernel_rfl
theorem C2y:D3a prog 161 7=some (7,159):=by kernel_rfl
theorem rfE {c:Prop} [Decidable c] {α:Type} {a b r:α} {P:Prop} (H:(if c then a else b)=r) (x:c→a=r→P) (y:¬c→b=r→P):P:=by
  by_cases h:c
  · rw [if_pos h] at H; exact x h H
  · rw [if_neg h] at H; exact y h H
theorem C1p {σ:Type} {R:σ→PH→List E5→Prop} {h:PH} {n:Nat} {pv1:Value} {v:F5} (pr1:Pt M4 h pv1 v) {pc2:List Value} {r:F7} (pr2:I4 h pc2 r) {pv3:Value} {f:σ→Int→(List Int)→Option σ} (pr3:V5 R h pv3 f) {s0:σ} {La:List E5} (hRa:R s0 h La) {q_s:σ} (H:B4s n v r f s0=some q_s) :
    ∃ fid us vs,fnV n=.func (.func fid) us.toArray vs.toArray∧∀ As L,I7 prog fid (us++[pv1,.agg pc2.toArray,pv3]++vs) h (As++(La++L)) (λv h' L'=>∃ La',v=.tuple #[]∧L'=(As++(La'++L))∧R q_s h' La'):=by
  unfold B4s at H
  refine rfE H (λe H=>?_) (λ_ H=>?_)
  · subst e; exact ⟨86,[],[],rfl,C2q pr1 pr2 pr3 hRa H⟩
  refine rfE H (λe H=>?_) (λ_ H=>?_)
  · subst e; exact ⟨87,[],[],rfl,B6w pr1 pr2 pr3 hRa H⟩
  refine rfE H (λe H=>?_) (λ_ H=>?_)
  · subst e; exact ⟨88,[],[],rfl,B6A pr1 pr2 pr3 hRa H⟩
  refine rfE H (λe H=>?_) (λ_ H=>?_)
  · subst e; exact ⟨89,[],[],rfl,C0y pr1 pr2 pr3 hRa H⟩
  refine rfE H (λe H=>?_) (λ_ H=>?_)
  · subst e; exact ⟨90,[],[],rfl,B7U pr1 pr2 pr3 hRa H⟩
  refine rfE H (λe H=>?_) (λ_ H=>?_)
  · subst e; exact ⟨91,[],[],rfl,C6j pr1 pr2 pr3 hRa H⟩
  refine rfE H (λe H=>?_) (λ_ H=>?_)
  · subst e; exact ⟨92,[],[],rfl,C3X pr1 pr2 pr3 hRa H⟩
  refine rfE H (λe H=>?_) (λ_ H=>?_)
  · subst e; exact ⟨93,[],[],rfl,B7A pr1 pr2 pr3 hRa H⟩
  refine rfE H (λe H=>?_) (λ_ H=>?_)
  · subst e; exact ⟨94,[],[],rfl,C3x pr1 pr2 pr3 hRa H⟩
  refine rfE H (λe H=>?_) (λ_ H=>?_)
  · subst e; exact ⟨95,[],[],rfl,C2J pr1 pr2 pr3 hRa H⟩
  refine rfE H (λe H=>?_) (λ_ H=>?_)
  · subst e; exact ⟨96,[],[],rfl,C1V pr1 pr2 pr3 hRa H⟩
  refine rfE H (λe H=>?_) (λ_ H=>?_)
  · subst e; exact ⟨97,[],[],rfl,C2o pr1 pr2 pr3 hRa H⟩
  refine rfE H (λe H=>?_) (λ_ H=>?_)
  · subst e; exact ⟨98,[],[],rfl,B9F pr1 pr2 pr3 hRa H⟩
  refine rfE H (λe H=>?_) (λ_ H=>?_)
  · subst e; exact ⟨99,[],[],rfl,C1j pr1 pr2 pr3 hRa H⟩
  refine rfE H (λe H=>?_) (λ_ H=>?_)
  · subst e; exact ⟨100,[],[],rfl,C3u pr1 pr2 pr3 hRa H⟩
  refine rfE H (λe H=>?_) (λ_ H=>?_)
  · subst e; exact ⟨101,[],[],rfl,C2n pr1 pr2 pr3 hRa H⟩
  refine rfE H (λe H=>?_) (λ_ H=>?_)
  · subst e; exact ⟨102,[],[],rfl,B9w pr1 pr2 pr3 hRa H⟩
  refine rfE H (λe H=>?_) (λ_ H=>?_)
  · subst e; exact ⟨103,[],[],rfl,C5W pr1 pr2 pr3 hRa H⟩
  cases H
theorem B8I {h b c d a e q_2} (i:G9 (VI .i64) 1 h c d)  (H:A0X b d e=some q_2):∀ L,I7 prog 124 [.int .i64 b,c,.pointer (some ⟨a,0,none⟩)] h (blk a (.cells [.int .i64 e].toArray 3)::L) (λv h' L'=>v=.tuple #[]∧L'=blk a (.cells [.int .i64 q_2].toArray 3)::L):=by
 intro L
 refine I7.enter func124 z z z<|Rg<|Vv (V.A4V D6 z (j:=0) z z)<|Mv z<|bE H λf g H=>Ws z z g<|To (O.stF (vs:=[qi f]) D6 z z (j:=0) z z z z<|Ni ?_)
 cases H
 exact T.A0R results124 Lr ⟨z,z⟩
theorem B0f {h g i m n} (r:Pt M4 h g i) (H:A4q i m=some n):∀ L,FnW prog 62 [g,.int .i64 m] h L (.int .i64 n):=by
 intro L
 refine I7.enter func62 z z z<|Sr<|An z<|Sr<|To (O.alloc J6 z z λf=>To (O.stF (vs:=[qi 0]) D6 z z (j:=0) z z z z<|Nt<|Sq<|T.dw (.vs [0,1,2,3,4,5,6,7,8,9,10,11,12,13,14,15,16,17,18,19,20,21,22,23,24,25,26,27,28,29,30,31,32,33] (.alt 34 .done .no)) 34 1 0 ?_))
 refine Tm z z<|have s:=r; ?_
 obtain ⟨aJ,_,rfl,c,⟨aK,u,w,rfl,x,y,A⟩⟩:=s
 refine TL z z z z G8 I6 c z<|have B:=x; ?_
 obtain ⟨C,_,rfl,d,⟨D,E,G,I,J,K,M,N,P,S,U,W,X,Y,rfl,Z,aa,ab,ac,b,o,ad,ae,af,ag,ai,aj,ak,am⟩⟩:=B
 refine TL z z z z B5m C1C d z<|Tm z z<|TL z z z z G8 I6 c z<|TF z z z L8<|Tv z (V.fa A3p z)<|Td z 4 A1h z d z<|Tm z z<|bE H λaM p H=>?_
 obtain ⟨aN,an,rfl⟩:=G9.at b p
 refine Tv z (V.ix A0f z z b (E8 p))<|Tv z (V.fa A2s z)<|Td z 0 A5h z an z<|bE H λ⟨aO,aP⟩ ao H=>?_
 obtain ⟨_,ap,rfl⟩:=Mp.look (zc:=[.string qe,.int .u8 0,.bool false,.int .u8 0,.bool false,qi 0,.bool false,(fnV (0:Nat))]) (agg:=true) underlying98 (A0t.int underlying41) B8W (show K5 h [.string qe,.int .u8 0,.bool false,.int .u8 0,.bool false,qi 0,.bool false,(fnV (0:Nat))] (H5.mk qe (0:Int) false (0:Int) false (0:Int) false (0:Nat)) from rfl) o ao
 refine Tv z (V.D3V z z ap)<|Tv z (V.fld C2y C5K z z)<|Tm z z<|Tm z z<|TL z z z z G8 I6 c z<|TF z z z L8<|Tv z (V.fa A3p z)<|Td z 4 A1h z d z<|Tm z z<|bE H λa q H=>?_
 obtain ⟨aS,aq,rfl⟩:=G9.at b q
 refine Tv z (V.ix A0f z z b (E8 q))<|Tv z (V.ldS z aq (by exact K3)) ?_
 refine Tv z (V.mkf z z)<|bE H λaU ar H=>?_
 obtain ⟨aV,aW,aX,au,aw⟩:=C1p (Pt.mk c ⟨(.pointer (some C)),u,w,rfl,(Pt.mk d ⟨D,E,G,I,J,K,M,N,P,S,U,W,X,Y,rfl,Z,aa,ab,ac,b,o,ad,ae,af,ag,ai,aj,ak,am⟩),y,A⟩) (show I4 h [.int .u8 a.F9,qi a.K6,.string a.fA,.string a.fB,.string a.I5,qi a.fN] a from rfl) (show V5 (λx_ _ La_=>La_=[blk f (.cells [qi x_].toArray 3)]) h (.func (.func 124) #[] #[qp f]) (λs_ ax ay=>A0X ax ay s_) from ⟨⟨rfl,rfl⟩,λ_ _ _ _ _ e=>e,λaY aZ=>λaA=>λaB aC aD aE=>by subst aB; exact Yld.one (us:=[]) (cs:=[qp f]) (B8I aA aC) aD aE⟩) rfl ar
 refine Tp z z (X3 [] [0] z z) (O.A1b z au z (aw ([]:List E5) _) z λa0 a1 a2 a3 aG=>?_) T.O4
 obtain ⟨a4,rfl,aI,rfl⟩:=aG
 refine O8 _ aI<|T.M9 (SX.one (XA.fr [] Li z) z)<|Th<|Sq<|T.norm [5] z<|T.fl ?_
 exact Rg<|Vv (V.A4V D6 z (j:=0) z z)<|Ag z<|Nr<|T.drop<|E1 H
theorem B5d {h m f n o} (p:Pt M4 h m f) (H:A9S f n=some o):∀ L,FnW prog 191 [m,.int .i64 n] h L (.int .i64 o):=by
 intro L
 refine I7.enter func191 z z z<|Sr<|An z<|Sm z<|Mv z<|bE H λak A H=>To (O.cs (B0f p A _) λan ap=>An z<|Sg z<|An z<|Sq<|Sm z<|have D:=p; ?_)
 obtain ⟨aq,_,rfl,g,⟨ar,au,aw,rfl,q,i,ax⟩⟩:=D
 refine NL z P6 D9 g.u z<|Vv (V.P7 A9 z i)<|Mv z<|Nt ?_
 obtain ⟨E,G,I⟩:=J4 H
 have H:=G
 refine Bl<|T.lk [0,1,5,16,17] (FUEL,(0:Int),(0:Int),(0:Int)) (λ⟨c,d,b,a⟩=>([(18,qi d),(6,qi b),(7,qi a)],L,λhh=>iter (A2x f) c (d,b,a)=some E)) H ?_
 rintro ⟨c,d,b,a⟩ ay aA J
 obtain ⟨j,aB,rfl,H,e⟩:=G5 J
 refine T.norm [18,6,7,0,1,5,16,17] z<|T.fl ?_
 refine Sr<|Wl z z<|Nt<|Sq<|T.cH H z (λH=>?_) λH=>?_
 ·refine Ks<|Sq<|Bl<|Sm z<|bE H λaC r H=>?_
  obtain ⟨aD,K,rfl⟩:=G9.at i r
  refine Vv (V.ix A9 z z i (E8 r))<|Vv (V.Q9 D6 z K.u z)<|Ag z<|An z<|Sm z<|Wl z z<|Nt<|T.cH H z (λH=>?_) λH=>?_
  ·refine Sm z<|bE H λs M H=>Ws z z M<|An z<|Sm z<|NL z G8 I6 g.u z<|have N:=q; ?_
   obtain ⟨aE,_,rfl,P,⟨aG,aI,aJ,aK,aM,aN,aO,aP,aS,aU,aV,aW,aX,aY,rfl,aZ,t,a0,a1,a2,a3,a4,a5,a6,a7,a8,a9,ah,al⟩⟩:=N
   refine NF z L8<|Vv (V.fa A0J z)<|Wd 1 M8 z P.u z<|Mv z<|bE H λav w H=>?_
   obtain ⟨az,S,⟨ba,rfl,bb⟩⟩:=G9.at t w
   refine Vv (V.ix O3 z z t (E8 w))<|Vv (V.fa B7o z)<|Wd 6 R3 z S.u z<|Nt<|T.cH H z (λH=>?_) λH=>?_
   ·refine Rg<|Mv z<|bE H λU W H=>Ws z z W<|Ag z<|Ni<|Bn<|Th<|Rg<|bE H λX Y H=>Ws z z Y<|Mv z<|Nt<|T.ag (j,X,s,U) (D8 H e)
   refine T.skip<|Bn<|Th<|Rg<|bE H λZ aa H=>Ws z z aa<|Mv z<|Nt<|T.ag (j,Z,s,a) (D8 H e)
  refine T.skip<|Bn<|Th<|Rg<|bE H λab ac H=>Ws z z ac<|Mv z<|Nt<|T.ag (j,ab,b,a) (D8 H e)
 refine Xt<|have H:=D5 H e; Be<|Th<|have H:=H7 H I; Sq<|Sm z<|NL z G8 I6 g.u z<|have ad:=q; ?_
 obtain ⟨bc,_,rfl,ae,⟨bd,be,bf,bg,bi,bj,bk,bm,bn,bo,bp,bq,br,bs,rfl,bt,bu,bw,bx,x,bA,bB,bC,bD,bG,bI,bJ,bK,bM⟩⟩:=ad
 refine NF z L8<|Vv (V.fa A3p z)<|Wd 4 A1h z ae.u z<|Mv z<|bE H λbN y H=>?_
 obtain ⟨bO,af,rfl⟩:=G9.at x y
 refine Vv (V.ix A0f z z x (E8 y))<|Vv (V.fa A2s z)<|Wd 0 A5h z af.u z<|Nt<|Bl<|Sr<|We z z<|An z<|T.cH H z (λH=>?_) λH=>?_
 ·exact Rg<|Mv z<|Mv z<|bE H λbP ai H=>Vv (V.X9 z z ai)<|Ag z<|Ni<|Bn<|Th<|Sm z<|Vv (V.max2 z z)<|Ag z<|Nr<|E1 H
 refine Sr<|We z z<|An z<|T.cH H z (λH=>?_) λH=>?_
 ·exact Rg<|Mv z<|Mv z<|bE H λbS aj H=>Vv (V.X9 z z aj)<|Ag z<|Ni<|Bn<|Th<|Sm z<|Vv (V.max2 z z)<|Ag z<|Nr<|E1 H
 refine Sr<|We z z<|An z<|T.cH H z (λH=>?_) λH=>?_
 ·refine Sm z<|Wg z z<|Nt<|T.cH H z (λH=>?_) λH=>?_
  ·exact Rg<|Ag z<|Ni<|Bn<|Th<|Sm z<|Vv (V.max2 z z)<|Ag z<|Nr<|E1 H
  exact T.skip<|Bn<|Th<|Sm z<|Vv (V.max2 z z)<|Ag z<|Nr<|E1 H
 exact T.skip<|Bn<|Th<|Sm z<|Vv (V.max2 z z)<|Ag z<|Nr<|E1 H
theorem B5x {h a} (H:A9z  = some a):∀ L,I7 prog 42 [] h (L) (λv h' L'=>L'=L∧Mp (Value.int .u8) true K5 h' v a):=by
 intro L
 refine I7.enter func42 z z z<|Sr<|An z<|Sr<|To (O.mkM z λab=>have x:V7 (Value.int .u8) true K5 h 0 ([]:List MapEntry) ([]:List (Int×H5)):=trivial; Vv (V.bld (xs:=[(0,.const (.string ⟨#[97,112,97,114,116]⟩)),(1,.const (.int .u8 (103))),(2,.const (.bool true)),(4,.const (.bool true)),(7,.func 86)]) (cs:=[_,_,_,_,_,_,_,_]) U5 U4 z (F6.cons z z z (F6.cons z z z (F6.cons z z z (F6.cons z z z (F6.cons z z z F6.nil))))))<|bE H λac y H=>To (O.B0n (agg:=true) (E:=K5) (cs:=[.string (⟨#[97,112,97,114,116]⟩:ByteArray),.int .u8 103,.bool true,.int .u8 0,.bool true,qi 0,.bool false,(fnV (87:Nat))]) underlying98 (A0t.int underlying41) z z z (j:=0) z x (show K5 h [.string (⟨#[97,112,97,114,116]⟩:ByteArray),.int .u8 103,.bool true,.int .u8 0,.bool true,qi 0,.bool false,(fnV (87:Nat))] (H5.mk (⟨#[97,112,97,114,116]⟩:ByteArray) (103:Int) true (0:Int) true (0:Int) false (87:Nat)) from z) _ (.inr z) λad b=>?_))
 rw [Option.some.inj y] at b
 refine Vv (V.bld (xs:=[(0,.const (.string ⟨#[98,101,115,105,100,101]⟩)),(1,.const (.int .u8 (103))),(2,.const (.bool true)),(7,.func 87)]) (cs:=[_,_,_,_,_,_,_,_]) U5 U4 z (F6.cons z z z (F6.cons z z z (F6.cons z z z (F6.cons z z z F6.nil)))))<|bE H λae A H=>To (O.B0n (agg:=true) (E:=K5) (cs:=[.string (⟨#[98,101,115,105,100,101]⟩:ByteArray),.int .u8 103,.bool true,.int .u8 0,.bool false,qi 0,.bool false,(fnV (88:Nat))]) underlying98 (A0t.int underlying41) z z z (j:=0) z b (show K5 h [.string (⟨#[98,101,115,105,100,101]⟩:ByteArray),.int .u8 103,.bool true,.int .u8 0,.bool false,qi 0,.bool false,(fnV (88:Nat))] (H5.mk (⟨#[98,101,115,105,100,101]⟩:ByteArray) (103:Int) true (0:Int) false (0:Int) false (88:Nat)) from z) _ (.inr z) λaf c=>?_)
 rw [Option.some.inj A] at c
 refine Vv (V.bld (xs:=[(0,.const (.string ⟨#[97,99,114,111,115,115]⟩)),(1,.const (.int .u8 (103))),(2,.const (.bool true)),(7,.func 88)]) (cs:=[_,_,_,_,_,_,_,_]) U5 U4 z (F6.cons z z z (F6.cons z z z (F6.cons z z z (F6.cons z z z F6.nil)))))<|bE H λag B H=>To (O.B0n (agg:=true) (E:=K5) (cs:=[.string (⟨#[97,99,114,111,115,115]⟩:ByteArray),.int .u8 103,.bool true,.int .u8 0,.bool false,qi 0,.bool false,(fnV (89:Nat))]) underlying98 (A0t.int underlying41) z z z (j:=0) z c (show K5 h [.string (⟨#[97,99,114,111,115,115]⟩:ByteArray),.int .u8 103,.bool true,.int .u8 0,.bool false,qi 0,.bool false,(fnV (89:Nat))] (H5.mk (⟨#[97,99,114,111,115,115]⟩:ByteArray) (103:Int) true (0:Int) false (0:Int) false (89:Nat)) from z) _ (.inr z) λai d=>?_)
 rw [Option.some.inj B] at d
 refine Vv (V.bld (xs:=[(0,.const (.string ⟨#[110,101,97,114]⟩)),(1,.const (.int .u8 (103))),(2,.const (.bool true)),(4,.const (.bool true)),(5,.const (qi (1))),(7,.func 89)]) (cs:=[_,_,_,_,_,_,_,_]) U5 U4 z (F6.cons z z z (F6.cons z z z (F6.cons z z z (F6.cons z z z (F6.cons z z z (F6.cons z z z F6.nil)))))))<|bE H λaj C H=>To (O.B0n (agg:=true) (E:=K5) (cs:=[.string (⟨#[110,101,97,114]⟩:ByteArray),.int .u8 103,.bool true,.int .u8 0,.bool true,qi 1,.bool false,(fnV (90:Nat))]) underlying98 (A0t.int underlying41) z z z (j:=0) z d (show K5 h [.string (⟨#[110,101,97,114]⟩:ByteArray),.int .u8 103,.bool true,.int .u8 0,.bool true,qi 1,.bool false,(fnV (90:Nat))] (H5.mk (⟨#[110,101,97,114]⟩:ByteArray) (103:Int) true (0:Int) true (1:Int) false (90:Nat)) from z) _ (.inr z) λak e=>?_)
 rw [Option.some.inj C] at e
 refine Vv (V.bld (xs:=[(0,.const (.string ⟨#[116,111,103,101,116,104,101,114]⟩)),(1,.const (.int .u8 (103))),(2,.const (.bool true)),(7,.func 90)]) (cs:=[_,_,_,_,_,_,_,_]) U5 U4 z (F6.cons z z z (F6.cons z z z (F6.cons z z z (F6.cons z z z F6.nil)))))<|bE H λam D H=>To (O.B0n (agg:=true) (E:=K5) (cs:=[.string (⟨#[116,111,103,101,116,104,101,114]⟩:ByteArray),.int .u8 103,.bool true,.int .u8 0,.bool false,qi 0,.bool false,(fnV (91:Nat))]) underlying98 (A0t.int underlying41) z z z (j:=0) z e (show K5 h [.string (⟨#[116,111,103,101,116,104,101,114]⟩:ByteArray),.int .u8 103,.bool true,.int .u8 0,.bool false,qi 0,.bool false,(fnV (91:Nat))] (H5.mk (⟨#[116,111,103,101,116,104,101,114]⟩:ByteArray) (103:Int) true (0:Int) false (0:Int) false (91:Nat)) from z) _ (.inr z) λan f=>?_)
 rw [Option.some.inj D] at f
 refine Vv (V.bld (xs:=[(0,.const (.string ⟨#[97,116]⟩)),(1,.const (.int .u8 (103))),(3,.const (.int .u8 (116))),(7,.func 91)]) (cs:=[_,_,_,_,_,_,_,_]) U5 U4 z (F6.cons z z z (F6.cons z z z (F6.cons z z z (F6.cons z z z F6.nil)))))<|bE H λao G H=>To (O.B0n (agg:=true) (E:=K5) (cs:=[.string (⟨#[97,116]⟩:ByteArray),.int .u8 103,.bool false,.int .u8 116,.bool false,qi 0,.bool false,(fnV (92:Nat))]) underlying98 (A0t.int underlying41) z z z (j:=0) z f (show K5 h [.string (⟨#[97,116]⟩:ByteArray),.int .u8 103,.bool false,.int .u8 116,.bool false,qi 0,.bool false,(fnV (92:Nat))] (H5.mk (⟨#[97,116]⟩:ByteArray) (103:Int) false (116:Int) false (0:Int) false (92:Nat)) from z) _ (.inr z) λap g=>?_)
 rw [Option.some.inj G] at g
 refine Vv (V.bld (xs:=[(0,.const (.string ⟨#[115,101,97,116]⟩)),(1,.const (.int .u8 (103))),(3,.const (.int .u8 (116))),(4,.const (.bool true)),(6,.const (.bool true)),(7,.func 92)]) (cs:=[_,_,_,_,_,_,_,_]) U5 U4 z (F6.cons z z z (F6.cons z z z (F6.cons z z z (F6.cons z z z (F6.cons z z z (F6.cons z z z F6.nil)))))))<|bE H λaq I H=>To (O.B0n (agg:=true) (E:=K5) (cs:=[.string (⟨#[115,101,97,116]⟩:ByteArray),.int .u8 103,.bool false,.int .u8 116,.bool true,qi 0,.bool true,(fnV (93:Nat))]) underlying98 (A0t.int underlying41) z z z (j:=0) z g (show K5 h [.string (⟨#[115,101,97,116]⟩:ByteArray),.int .u8 103,.bool false,.int .u8 116,.bool true,qi 0,.bool true,(fnV (93:Nat))] (H5.mk (⟨#[115,101,97,116]⟩:ByteArray) (103:Int) false (116:Int) true (0:Int) true (93:Nat)) from z) _ (.inr z) λar i=>?_)
 rw [Option.some.inj I] at i
 refine Vv (V.bld (xs:=[(0,.const (.string ⟨#[97,108,116,101,114,110,97,116,101]⟩)),(3,.const (.int .u8 (101))),(7,.func 93)]) (cs:=[_,_,_,_,_,_,_,_]) U5 U4 z (F6.cons z z z (F6.cons z z z (F6.cons z z z F6.nil))))<|bE H λau J H=>To (O.B0n (agg:=true) (E:=K5) (cs:=[.string (⟨#[97,108,116,101,114,110,97,116,101]⟩:ByteArray),.int .u8 0,.bool false,.int .u8 101,.bool false,qi 0,.bool false,(fnV (94:Nat))]) underlying98 (A0t.int underlying41) z z z (j:=0) z i (show K5 h [.string (⟨#[97,108,116,101,114,110,97,116,101]⟩:ByteArray),.int .u8 0,.bool false,.int .u8 101,.bool false,qi 0,.bool false,(fnV (94:Nat))] (H5.mk (⟨#[97,108,116,101,114,110,97,116,101]⟩:ByteArray) (0:Int) false (101:Int) false (0:Int) false (94:Nat)) from z) _ (.inr z) λaw k=>?_)
 rw [Option.some.inj J] at k
 refine Vv (V.bld (xs:=[(0,.const (.string ⟨#[104,111,115,116]⟩)),(3,.const (.int .u8 (101))),(7,.func 94)]) (cs:=[_,_,_,_,_,_,_,_]) U5 U4 z (F6.cons z z z (F6.cons z z z (F6.cons z z z F6.nil))))<|bE H λax K H=>To (O.B0n (agg:=true) (E:=K5) (cs:=[.string (⟨#[104,111,115,116]⟩:ByteArray),.int .u8 0,.bool false,.int .u8 101,.bool false,qi 0,.bool false,(fnV (95:Nat))]) underlying98 (A0t.int underlying41) z z z (j:=0) z k (show K5 h [.string (⟨#[104,111,115,116]⟩:ByteArray),.int .u8 0,.bool false,.int .u8 101,.bool false,qi 0,.bool false,(fnV (95:Nat))] (H5.mk (⟨#[104,111,115,116]⟩:ByteArray) (0:Int) false (101:Int) false (0:Int) false (95:Nat)) from z) _ (.inr z) λay m=>?_)
 rw [Option.some.inj K] at m
 refine Vv (V.bld (xs:=[(0,.const (.string ⟨#[114,101,97,99,104]⟩)),(1,.const (.int .u8 (101))),(7,.func 95)]) (cs:=[_,_,_,_,_,_,_,_]) U5 U4 z (F6.cons z z z (F6.cons z z z (F6.cons z z z F6.nil))))<|bE H λaA M H=>To (O.B0n (agg:=true) (E:=K5) (cs:=[.string (⟨#[114,101,97,99,104]⟩:ByteArray),.int .u8 101,.bool false,.int .u8 0,.bool false,qi 0,.bool false,(fnV (96:Nat))]) underlying98 (A0t.int underlying41) z z z (j:=0) z m (show K5 h [.string (⟨#[114,101,97,99,104]⟩:ByteArray),.int .u8 101,.bool false,.int .u8 0,.bool false,qi 0,.bool false,(fnV (96:Nat))] (H5.mk (⟨#[114,101,97,99,104]⟩:ByteArray) (101:Int) false (0:Int) false (0:Int) false (96:Nat)) from z) _ (.inr z) λaB n=>?_)
 rw [Option.some.inj M] at n
 refine Vv (V.bld (xs:=[(0,.const (.string ⟨#[115,112,101,97,107]⟩)),(3,.const (.int .u8 (101))),(7,.func 96)]) (cs:=[_,_,_,_,_,_,_,_]) U5 U4 z (F6.cons z z z (F6.cons z z z (F6.cons z z z F6.nil))))<|bE H λaC N H=>To (O.B0n (agg:=true) (E:=K5) (cs:=[.string (⟨#[115,112,101,97,107]⟩:ByteArray),.int .u8 0,.bool false,.int .u8 101,.bool false,qi 0,.bool false,(fnV (97:Nat))]) underlying98 (A0t.int underlying41) z z z (j:=0) z n (show K5 h [.string (⟨#[115,112,101,97,107]⟩:ByteArray),.int .u8 0,.bool false,.int .u8 101,.bool false,qi 0,.bool false,(fnV (97:Nat))] (H5.mk (⟨#[115,112,101,97,107]⟩:ByteArray) (0:Int) false (101:Int) false (0:Int) false (97:Nat)) from z) _ (.inr z) λaD o=>?_)
 rw [Option.some.inj N] at o
 refine Vv (V.bld (xs:=[(0,.const (.string ⟨#[112,101,97,99,101]⟩)),(3,.const (.int .u8 (101))),(7,.func 97)]) (cs:=[_,_,_,_,_,_,_,_]) U5 U4 z (F6.cons z z z (F6.cons z z z (F6.cons z z z F6.nil))))<|bE H λaE P H=>To (O.B0n (agg:=true) (E:=K5) (cs:=[.string (⟨#[112,101,97,99,101]⟩:ByteArray),.int .u8 0,.bool false,.int .u8 101,.bool false,qi 0,.bool false,(fnV (98:Nat))]) underlying98 (A0t.int underlying41) z z z (j:=0) z o (show K5 h [.string (⟨#[112,101,97,99,101]⟩:ByteArray),.int .u8 0,.bool false,.int .u8 101,.bool false,qi 0,.bool false,(fnV (98:Nat))] (H5.mk (⟨#[112,101,97,99,101]⟩:ByteArray) (0:Int) false (101:Int) false (0:Int) false (98:Nat)) from z) _ (.inr z) λaG p=>?_)
 rw [Option.some.inj P] at p
 refine Vv (V.bld (xs:=[(0,.const (.string ⟨#[99,111,109,112,97,110,121]⟩)),(3,.const (.int .u8 (101))),(7,.func 98)]) (cs:=[_,_,_,_,_,_,_,_]) U5 U4 z (F6.cons z z z (F6.cons z z z (F6.cons z z z F6.nil))))<|bE H λaI S H=>To (O.B0n (agg:=true) (E:=K5) (cs:=[.string (⟨#[99,111,109,112,97,110,121]⟩:ByteArray),.int .u8 0,.bool false,.int .u8 101,.bool false,qi 0,.bool false,(fnV (99:Nat))]) underlying98 (A0t.int underlying41) z z z (j:=0) z p (show K5 h [.string (⟨#[99,111,109,112,97,110,121]⟩:ByteArray),.int .u8 0,.bool false,.int .u8 101,.bool false,qi 0,.bool false,(fnV (99:Nat))] (H5.mk (⟨#[99,111,109,112,97,110,121]⟩:ByteArray) (0:Int) false (101:Int) false (0:Int) false (99:Nat)) from z) _ (.inr z) λaJ q=>?_)
 rw [Option.some.inj S] at q
 refine Vv (V.bld (xs:=[(0,.const (.string ⟨#[104,111,110,111,117,114]⟩)),(3,.const (.int .u8 (101))),(7,.func 99)]) (cs:=[_,_,_,_,_,_,_,_]) U5 U4 z (F6.cons z z z (F6.cons z z z (F6.cons z z z F6.nil))))<|bE H λaK U H=>To (O.B0n (agg:=true) (E:=K5) (cs:=[.string (⟨#[104,111,110,111,117,114]⟩:ByteArray),.int .u8 0,.bool false,.int .u8 101,.bool false,qi 0,.bool false,(fnV (100:Nat))]) underlying98 (A0t.int underlying41) z z z (j:=0) z q (show K5 h [.string (⟨#[104,111,110,111,117,114]⟩:ByteArray),.int .u8 0,.bool false,.int .u8 101,.bool false,qi 0,.bool false,(fnV (100:Nat))] (H5.mk (⟨#[104,111,110,111,117,114]⟩:ByteArray) (0:Int) false (101:Int) false (0:Int) false (100:Nat)) from z) _ (.inr z) λaM r=>?_)
 rw [Option.some.inj U] at r
 refine Vv (V.bld (xs:=[(0,.const (.string ⟨#[102,105,108,108]⟩)),(3,.const (.int .u8 (101))),(4,.const (.bool true)),(7,.func 100)]) (cs:=[_,_,_,_,_,_,_,_]) U5 U4 z (F6.cons z z z (F6.cons z z z (F6.cons z z z (F6.cons z z z F6.nil)))))<|bE H λaN W H=>To (O.B0n (agg:=true) (E:=K5) (cs:=[.string (⟨#[102,105,108,108]⟩:ByteArray),.int .u8 0,.bool false,.int .u8 101,.bool true,qi 0,.bool false,(fnV (101:Nat))]) underlying98 (A0t.int underlying41) z z z (j:=0) z r (show K5 h [.string (⟨#[102,105,108,108]⟩:ByteArray),.int .u8 0,.bool false,.int .u8 101,.bool true,qi 0,.bool false,(fnV (101:Nat))] (H5.mk (⟨#[102,105,108,108]⟩:ByteArray) (0:Int) false (101:Int) true (0:Int) false (101:Nat)) from z) _ (.inr z) λaO s=>?_)
 rw [Option.some.inj W] at s
 refine Vv (V.bld (xs:=[(0,.const (.string ⟨#[108,105,109,105,116]⟩)),(3,.const (.int .u8 (101))),(4,.const (.bool true)),(7,.func 101)]) (cs:=[_,_,_,_,_,_,_,_]) U5 U4 z (F6.cons z z z (F6.cons z z z (F6.cons z z z (F6.cons z z z F6.nil)))))<|bE H λaP X H=>To (O.B0n (agg:=true) (E:=K5) (cs:=[.string (⟨#[108,105,109,105,116]⟩:ByteArray),.int .u8 0,.bool false,.int .u8 101,.bool true,qi 0,.bool false,(fnV (102:Nat))]) underlying98 (A0t.int underlying41) z z z (j:=0) z s (show K5 h [.string (⟨#[108,105,109,105,116]⟩:ByteArray),.int .u8 0,.bool false,.int .u8 101,.bool true,qi 0,.bool false,(fnV (102:Nat))] (H5.mk (⟨#[108,105,109,105,116]⟩:ByteArray) (0:Int) false (101:Int) true (0:Int) false (102:Nat)) from z) _ (.inr z) λaS t=>?_)
 rw [Option.some.inj X] at t
 refine Vv (V.bld (xs:=[(0,.const (.string ⟨#[107,105,116,99,104,101,110]⟩)),(1,.const (.int .u8 (100))),(3,.const (.int .u8 (116))),(7,.func 102)]) (cs:=[_,_,_,_,_,_,_,_]) U5 U4 z (F6.cons z z z (F6.cons z z z (F6.cons z z z (F6.cons z z z F6.nil)))))<|bE H λaU Y H=>To (O.B0n (agg:=true) (E:=K5) (cs:=[.string (⟨#[107,105,116,99,104,101,110]⟩:ByteArray),.int .u8 100,.bool false,.int .u8 116,.bool false,qi 0,.bool false,(fnV (103:Nat))]) underlying98 (A0t.int underlying41) z z z (j:=0) z t (show K5 h [.string (⟨#[107,105,116,99,104,101,110]⟩:ByteArray),.int .u8 100,.bool false,.int .u8 116,.bool false,qi 0,.bool false,(fnV (103:Nat))] (H5.mk (⟨#[107,105,116,99,104,101,110]⟩:ByteArray) (100:Int) false (116:Int) false (0:Int) false (103:Nat)) from z) _ (.inr z) λaV u=>?_)
 rw [Option.some.inj Y] at u
 refine Vv (V.bld (xs:=[(0,.const (.string ⟨#[109,105,120]⟩)),(3,.const (.int .u8 (101))),(7,.func 103)]) (cs:=[_,_,_,_,_,_,_,_]) U5 U4 z (F6.cons z z z (F6.cons z z z (F6.cons z z z F6.nil))))<|bE H λaW Z H=>To (O.B0n (agg:=true) (E:=K5) (cs:=[.string (⟨#[109,105,120]⟩:ByteArray),.int .u8 0,.bool false,.int .u8 101,.bool false,qi 0,.bool false,(fnV (104:Nat))]) underlying98 (A0t.int underlying41) z z z (j:=0) z u (show K5 h [.string (⟨#[109,105,120]⟩:ByteArray),.int .u8 0,.bool false,.int .u8 101,.bool false,qi 0,.bool false,(fnV (104:Nat))] (H5.mk (⟨#[109,105,120]⟩:ByteArray) (0:Int) false (101:Int) false (0:Int) false (104:Nat)) from z) _ (.inr z) λaX w=>?_)
 rw [Option.some.inj Z] at w
 refine Mv z<|Ag z<|Nr<|T.C6d K5.mono w λaY aZ aa=>?_
 cases H
 exact T.rl z (Rv z) ⟨z,aa⟩
theorem C2C {h c d e f g} (i:K5 h c d) (j:I4 h e f) (H:A0v d f=some g):∀ L,FnW prog 139 [.agg c.toArray,.agg e.toArray] h L (.bool g):=by
 intro L
 obtain rfl:=i
 obtain rfl:=j
 refine I7.enter func139 z z z<|Sr<|To (O.T9 z z z λm n o a=>To (O.T9 z z z λp q r b=>An z<|Sr<|Vv (V.fa A8j z)<|Wd 1 A3Q z a.u z<|Wn z z<|Mv z<|T.bH 8 H z (λH=>?_) λH=>?_))
 ·refine S2<|Sk<|Kt z<|Mv z<|Vv (V.fa A3G z)<|Wd 2 R3 z a.u z<|Mv z<|T.bH 16 H z (λH=>?_) λH=>?_
  ·refine S2<|Sk<|Kt z<|Kt z<|Mv z<|Vv (V.fa A2q z)<|Wd 3 A3Q z a.u z<|Wn z z<|Mv z<|T.bH 26 H z (λH=>?_) λH=>?_
   ·refine S2<|Sk<|Kt z<|Kt z<|Mv z<|Vv (V.fa A0Y z)<|Wd 4 R3 z a.u z<|Mv z<|T.bH 35 H z (λH=>?_) λH=>?_
    ·exact S2<|Sk<|Kt z<|Kt z<|Ag z<|Nr<|E1 H
    exact Vv (V.fa U0 z)<|Wd 5 D6 z b z<|We z z<|Kf z<|Kt z<|Ag z<|Nr<|E1 H
   refine Vv (V.fa U8 z)<|Wd 4 J3 z b z<|Vv (V.seq z z)<|Kf z<|Kt z<|Mv z<|T.bH 32 H z (λH=>?_) λH=>?_
   ·refine Vv (V.fa A0Y z)<|Wd 4 R3 z a.u z<|Mv z<|T.bH 35 H z (λH=>?_) λH=>?_
    ·exact S2<|Sk<|Kt z<|Kt z<|Ag z<|Nr<|E1 H
    exact Vv (V.fa U0 z)<|Wd 5 D6 z b z<|We z z<|Kf z<|Kt z<|Ag z<|Nr<|E1 H
   exact S2<|S2<|S2<|Sk<|Kf z<|Ag z<|Nr<|E1 H
  refine Vv (V.fa A4b z)<|Wd 3 J3 z b z<|Vv (V.seq z z)<|Kf z<|Kt z<|Mv z<|T.bH 22 H z (λH=>?_) λH=>?_
  ·refine Vv (V.fa A2q z)<|Wd 3 A3Q z a.u z<|Wn z z<|Mv z<|T.bH 26 H z (λH=>?_) λH=>?_
   ·refine S2<|Sk<|Kt z<|Kt z<|Mv z<|Vv (V.fa A0Y z)<|Wd 4 R3 z a.u z<|Mv z<|T.bH 35 H z (λH=>?_) λH=>?_
    ·exact S2<|Sk<|Kt z<|Kt z<|Ag z<|Nr<|E1 H
    exact Vv (V.fa U0 z)<|Wd 5 D6 z b z<|We z z<|Kf z<|Kt z<|Ag z<|Nr<|E1 H
   refine Vv (V.fa U8 z)<|Wd 4 J3 z b z<|Vv (V.seq z z)<|Kf z<|Kt z<|Mv z<|T.bH 32 H z (λH=>?_) λH=>?_
   ·refine Vv (V.fa A0Y z)<|Wd 4 R3 z a.u z<|Mv z<|T.bH 35 H z (λH=>?_) λH=>?_
    ·exact S2<|Sk<|Kt z<|Kt z<|Ag z<|Nr<|E1 H
    exact Vv (V.fa U0 z)<|Wd 5 D6 z b z<|We z z<|Kf z<|Kt z<|Ag z<|Nr<|E1 H
   exact S2<|S2<|S2<|Sk<|Kf z<|Ag z<|Nr<|E1 H
  exact S2<|S2<|S2<|S2<|Kf z<|Mv z<|S2<|S2<|S2<|Sk<|Kf z<|Ag z<|Nr<|E1 H
 refine Vv (V.fa Y8 z)<|Wd 2 J3 z b z<|Vv (V.seq z z)<|Kf z<|Mv z<|T.bH 13 H z (λH=>?_) λH=>?_
 ·refine Vv (V.fa A3G z)<|Wd 2 R3 z a.u z<|Mv z<|T.bH 16 H z (λH=>?_) λH=>?_
  ·refine S2<|Sk<|Kt z<|Kt z<|Mv z<|Vv (V.fa A2q z)<|Wd 3 A3Q z a.u z<|Wn z z<|Mv z<|T.bH 26 H z (λH=>?_) λH=>?_
   ·refine S2<|Sk<|Kt z<|Kt z<|Mv z<|Vv (V.fa A0Y z)<|Wd 4 R3 z a.u z<|Mv z<|T.bH 35 H z (λH=>?_) λH=>?_
    ·exact S2<|Sk<|Kt z<|Kt z<|Ag z<|Nr<|E1 H
    exact Vv (V.fa U0 z)<|Wd 5 D6 z b z<|We z z<|Kf z<|Kt z<|Ag z<|Nr<|E1 H
   refine Vv (V.fa U8 z)<|Wd 4 J3 z b z<|Vv (V.seq z z)<|Kf z<|Kt z<|Mv z<|T.bH 32 H z (λH=>?_) λH=>?_
   ·refine Vv (V.fa A0Y z)<|Wd 4 R3 z a.u z<|Mv z<|T.bH 35 H z (λH=>?_) λH=>?_
    ·exact S2<|Sk<|Kt z<|Kt z<|Ag z<|Nr<|E1 H
    exact Vv (V.fa U0 z)<|Wd 5 D6 z b z<|We z z<|Kf z<|Kt z<|Ag z<|Nr<|E1 H
   exact S2<|S2<|S2<|Sk<|Kf z<|Ag z<|Nr<|E1 H
  refine Vv (V.fa A4b z)<|Wd 3 J3 z b z<|Vv (V.seq z z)<|Kf z<|Kt z<|Mv z<|T.bH 22 H z (λH=>?_) λH=>?_
  ·refine Vv (V.fa A2q z)<|Wd 3 A3Q z a.u z<|Wn z z<|Mv z<|T.bH 26 H z (λH=>?_) λH=>?_
   ·refine S2<|Sk<|Kt z<|Kt z<|Mv z<|Vv (V.fa A0Y z)<|Wd 4 R3 z a.u z<|Mv z<|T.bH 35 H z (λH=>?_) λH=>?_
    ·exact S2<|Sk<|Kt z<|Kt z<|Ag z<|Nr<|E1 H
    exact Vv (V.fa U0 z)<|Wd 5 D6 z b z<|We z z<|Kf z<|Kt z<|Ag z<|Nr<|E1 H
   refine Vv (V.fa U8 z)<|Wd 4 J3 z b z<|Vv (V.seq z z)<|Kf z<|Kt z<|Mv z<|T.bH 32 H z (λH=>?_) λH=>?_
   ·refine Vv (V.fa A0Y z)<|Wd 4 R3 z a.u z<|Mv z<|T.bH 35 H z (λH=>?_) λH=>?_
    ·exact S2<|Sk<|Kt z<|Kt z<|Ag z<|Nr<|E1 H
    exact Vv (V.fa U0 z)<|Wd 5 D6 z b z<|We z z<|Kf z<|Kt z<|Ag z<|Nr<|E1 H
   exact S2<|S2<|S2<|Sk<|Kf z<|Ag z<|Nr<|E1 H
  exact S2<|S2<|S2<|S2<|Kf z<|Mv z<|S2<|S2<|S2<|Sk<|Kf z<|Ag z<|Nr<|E1 H
 exact S2<|S2<|S2<|Sk<|Kf z<|Mv z<|S2<|S2<|S2<|S2<|Kf z<|Mv z<|S2<|S2<|S2<|Sk<|Kf z<|Ag z<|Nr<|E1 H
theorem C2e {h C d D E G c I} (N:K5 h C d) (P:M7 h D E) (S:I4 h G c) (H:A1M d E c=some I):∀ L,FnW prog 78 [.agg C.toArray,.agg D.toArray,.agg G.toArray] h L (.int .i64 I):=by
 intro L
 obtain rfl:=N
 obtain ⟨i,j,m,n,o,rfl,e,p,q,r,s⟩:=P
 obtain rfl:=S
 refine I7.enter func78 z z z<|Sr<|To (O.T9 z z z λbm bn bo b=>To (O.T9 z z z λbp bq br f=>To (O.T9 z z z λbs bt bu a=>An z<|Sq<|Bl<|Sr<|Vv (V.fa C1U z)<|Wd 0 J3 z b.u z<|Vv (V.seq z z)<|An z<|T.cH H z (λH=>?_) λH=>?_)))
 ·exact Sg z<|Nr<|Br<|Tr<|E1 H
 refine Sq ?_
 obtain ⟨U,W,X⟩:=J4 H
 refine T.ck (α:=Bool) [3,4,5] (λt=>([(14,.bool t)],L,λhh=>U=t)) ?_ ?_
 ·have H:=W
  refine Rg<|Vv (V.fa A4d z)<|Wd 1 D6 z a z<|Wl z z<|Mv z<|T.bH 18 H z (λH=>?_) λH=>?_
  ·refine S2<|Sk<|Kt z<|An z<|T.mt true (K9 H)
  refine Vv (V.fa A4d z)<|Wd 1 D6 z a z<|Wg z z<|Kf z<|An z<|T.mt (decide ((1000:Int)<c.K6)) (K9 H)
 rintro t J bw Y
 have H:=H7 Y X
 refine T.norm [14,3,4,5] z<|T.fl ?_
 refine T.cH H z (λH=>?_) λH=>?_
 ·exact Sg z<|Nr<|Br<|Tr<|E1 H
 refine Sr<|Vv (V.ldS z b.u (by exact C5m)) ?_
 refine Vv (V.ldS z a.u (by exact K3)) ?_
 refine bE H λbx Z H=>To (O.cs (C2C (show K5 J [.string d.A7f,.int .u8 d.fa,.bool d.fb,.int .u8 d.ft,.bool d.fn,qi d.flo,.bool d.A5X,(fnV d.C5p)] d from z) (show I4 J [.int .u8 c.F9,qi c.K6,.string c.fA,.string c.fB,.string c.I5,qi c.fN] c from z) Z _) λbB bD=>Vv (V.not z)<|An z<|T.cH H z (λH=>?_) λH=>?_)
 ·exact Sg z<|Nr<|Br<|Tr<|E1 H
 refine Sq<|Sq ?_
 obtain ⟨ac,ad,ae⟩:=J4 H
 refine T.ck (α:=Bool) [3,4,5] (λg=>([(28,.bool g)],L,λhh=>ac=g)) ?_ ?_
 ·have H:=ad
  refine Rg<|Vv (V.fa A8j z)<|Wd 1 A3Q z b.u z<|We z z<|Mv z<|T.bH 32 H z (λH=>?_) λH=>?_
  ·refine Vv (V.ldS z f.u (by exact J7)) ?_
   refine Vv (V.fa Y8 z)<|Wd 2 J3 z a.u z<|bE H λaf ag H=>To (O.G6 z (A2j ⟨i,j,m,n,o,z,e.u,p.u,q.u,r.u,s.u⟩ ag _) z λbG bI bJ bK ai=>?_)
   obtain ⟨rfl,aj⟩:=ai
   refine O8 _ aj<|Wl z z<|Kt z<|An z<|T.mt (decide (af<(0:Int))) (K9 H)
  refine S2<|S2<|Sk<|Kf z<|An z<|T.mt false (K9 H)
 rintro g bM bN ak
 have H:=H7 ak ae
 refine T.norm [28,3,4,5] z<|T.fl ?_
 obtain ⟨am,an,ao⟩:=J4 H
 refine T.ck (α:=Bool) [3,4,5] (λw=>([(28,.bool w)],L,λhh=>am=w)) ?_ ?_
 ·have H:=an
  refine T.cH H z (λH=>?_) λH=>?_
  ·refine Ks<|T.mt g (K9 H)
  refine Sr<|Vv (V.fa A8j z)<|Wd 1 A3Q z b.u z<|We z z<|Mv z<|T.bH 42 H z (λH=>?_) λH=>?_
  ·refine Vv (V.fa Y8 z)<|Wd 2 J3 z a.u z<|Vv (V.sne z z)<|Kt z<|Mv z<|T.bH 47 H z (λH=>?_) λH=>?_
   ·refine Vv (V.ldS z f.u (by exact J7)) ?_
    refine Vv (V.fa Y8 z)<|Wd 2 J3 z a.u z<|bE H λap aq H=>To (O.cs (A2j ⟨i,j,m,n,o,z,e.u,p.u,q.u,r.u,s.u⟩ aq _) λbP bU=>Wl z z<|Kt z<|An z<|T.cH H z (λH=>?_) λH=>?_)
    ·refine Ks<|T.mt (decide (ap<(0:Int))) (K9 H)
    refine Rg<|Vv (V.fa A3G z)<|Wd 2 R3 z b.u z<|Mv z<|T.bH 56 H z (λH=>?_) λH=>?_
    ·refine Vv (V.ldS z f.u (by exact J7)) ?_
     refine Vv (V.fa A4b z)<|Wd 3 J3 z a.u z<|bE H λaw ax H=>To (O.G6 z (A2j ⟨i,j,m,n,o,z,e.u,p.u,q.u,r.u,s.u⟩ ax _) z λbV bW bX bY ay=>?_)
     obtain ⟨rfl,aA⟩:=ay
     refine O8 _ aA<|Wl z z<|Kt z<|An z<|T.mt (decide (aw<(0:Int))) (K9 H)
    refine S2<|S2<|Sk<|Kf z<|An z<|T.mt false (K9 H)
   refine S2<|S2<|Sk<|Kf z<|An z<|Cf z<|Rg<|Vv (V.fa A3G z)<|Wd 2 R3 z b.u z<|Mv z<|T.bH 56 H z (λH=>?_) λH=>?_
   ·refine Vv (V.ldS z f.u (by exact J7)) ?_
    refine Vv (V.fa A4b z)<|Wd 3 J3 z a.u z<|bE H λaB aC H=>To (O.G6 z (A2j ⟨i,j,m,n,o,z,e.u,p.u,q.u,r.u,s.u⟩ aC _) z λbZ b0 b1 b2 aD=>?_)
    obtain ⟨rfl,aE⟩:=aD
    refine O8 _ aE<|Wl z z<|Kt z<|An z<|T.mt (decide (aB<(0:Int))) (K9 H)
   refine S2<|S2<|Sk<|Kf z<|An z<|T.mt false (K9 H)
  refine S2<|Sk<|Kf z<|Mv z<|S2<|S2<|Sk<|Kf z<|An z<|Cf z<|Rg<|Vv (V.fa A3G z)<|Wd 2 R3 z b.u z<|Mv z<|T.bH 56 H z (λH=>?_) λH=>?_
  ·refine Vv (V.ldS z f.u (by exact J7)) ?_
   refine Vv (V.fa A4b z)<|Wd 3 J3 z a.u z<|bE H λaG aI H=>To (O.G6 z (A2j ⟨i,j,m,n,o,z,e.u,p.u,q.u,r.u,s.u⟩ aI _) z λb3 b4 b5 b6 aJ=>?_)
   obtain ⟨rfl,aK⟩:=aJ
   refine O8 _ aK<|Wl z z<|Kt z<|An z<|T.mt (decide (aG<(0:Int))) (K9 H)
  refine S2<|S2<|Sk<|Kf z<|An z<|T.mt false (K9 H)
 rintro w b7 b8 aM
 have H:=H7 aM ao
 refine T.norm [28,3,4,5] z<|T.fl ?_
 refine T.cH H z (λH=>?_) λH=>?_
 ·exact Sg z<|Nr<|Br<|Tr<|E1 H
 refine Sq ?_
 obtain ⟨aN,aO,aP⟩:=J4 H
 refine T.ck (α:=Bool) [3,4,5] (λx=>([(63,.bool x)],L,λhh=>aN=x)) ?_ ?_
 ·have H:=aO
  refine Rg<|Vv (V.fa A8j z)<|Wd 1 A3Q z b.u z<|We z z<|Mv z<|T.bH 67 H z (λH=>?_) λH=>?_
  ·refine Vv (V.fa Y8 z)<|Wd 2 J3 z a.u z<|bE H λaS aU H=>To (O.G6 z (C3M aU _) z λb9 bh bl bv aV=>?_)
   obtain ⟨rfl,aW⟩:=aV
   refine O8 _ aW<|Vv (V.not z)<|Kt z<|An z<|T.mt (!aS) (K9 H)
  refine S2<|S2<|Kf z<|An z<|T.mt false (K9 H)
 rintro x bz ca aX
 have H:=H7 aX aP
 refine T.norm [63,3,4,5] z<|T.fl ?_
 refine T.cH H z (λH=>?_) λH=>?_
 ·exact Sg z<|Nr<|Br<|Tr<|E1 H
 refine Sq ?_
 obtain ⟨aY,aZ,a0⟩:=J4 H
 refine T.ck (α:=Bool) [3,4,5] (λy=>([(73,.bool y)],L,λhh=>aY=y)) ?_ ?_
 ·have H:=aZ
  refine Rg<|Vv (V.fa A3G z)<|Wd 2 R3 z b.u z<|Mv z<|T.bH 76 H z (λH=>?_) λH=>?_
  ·refine Vv (V.fa Y8 z)<|Wd 2 J3 z a.u z<|Vv (V.fa A4b z)<|Wd 3 J3 z a.u z<|Vv (V.seq z z)<|Kt z<|An z<|T.mt (decide (c.fA=c.fB)) (K9 H)
  refine S2<|S2<|Sk<|Kf z<|An z<|T.mt false (K9 H)
 rintro y cb cc a1
 have H:=H7 a1 a0
 refine T.norm [73,3,4,5] z<|T.fl ?_
 refine T.cH H z (λH=>?_) λH=>?_
 ·exact Sg z<|Nr<|Br<|Tr<|E1 H
 refine T.skip<|Bn<|Th<|Sr<|Vv (V.fa M0 z)<|Wd 0 O7 z f.u z<|Vv (V.fa U8 z)<|Wd 4 J3 z a.u z<|bE H λ⟨cd,K⟩ a2 H=>To (O.cs (C4h e.u a2 _) λcf ci=>Mv z<|Wx z z<|Wx z z<|Ag z<|An z<|Sq<|Sq ?_)
 obtain ⟨a5,a6,a7⟩:=J4 H
 refine T.ck (α:=Bool) [3,4,5,7] (λA=>([(111,.bool A)],L,λhh=>a5=A)) ?_ ?_
 ·have H:=a6
  refine Rg<|Vv (V.fa A2q z)<|Wd 3 A3Q z b.u z<|We z z<|Mv z<|T.bH 94 H z (λH=>?_) λH=>?_
  ·refine Mv z<|Vv (V.not z)<|Kt z<|Mv z<|T.bH 98 H z (λH=>?_) λH=>?_
   ·refine S2<|S2<|S2<|S2<|S2<|S2<|Kt z<|Nt<|T.mt true (K9 H)
   refine Vv (V.fa A2q z)<|Wd 3 A3Q z b.u z<|We z z<|Mv z<|T.bH 102 H z (λH=>?_) λH=>?_
   ·refine Vv (V.fa U8 z)<|Wd 4 J3 z a.u z<|Vv (V.sne z z)<|Kt z<|Mv z<|T.bH 107 H z (λH=>?_) λH=>?_
    ·refine Mv z<|Vv (V.not z)<|Kt z<|Kf z<|Nt<|T.mt (!K) (K9 H)
    refine S2<|Kf z<|Kf z<|Nt<|T.mt false (K9 H)
   refine S2<|Sk<|Kf z<|Mv z<|S2<|Kf z<|Kf z<|Nt<|T.mt false (K9 H)
  refine S2<|Kf z<|Mv z<|Vv (V.fa A2q z)<|Wd 3 A3Q z b.u z<|We z z<|Mv z<|T.bH 102 H z (λH=>?_) λH=>?_
  ·refine Vv (V.fa U8 z)<|Wd 4 J3 z a.u z<|Vv (V.sne z z)<|Kt z<|Mv z<|T.bH 107 H z (λH=>?_) λH=>?_
   ·refine Mv z<|Vv (V.not z)<|Kt z<|Kf z<|Nt<|T.mt (!K) (K9 H)
   refine S2<|Kf z<|Kf z<|Nt<|T.mt false (K9 H)
  refine S2<|Sk<|Kf z<|Mv z<|S2<|Kf z<|Kf z<|Nt<|T.mt false (K9 H)
 rintro A a8 cj a9
 have H:=H7 a9 a7
 refine T.norm [111,3,4,5,7] z<|T.fl ?_
 refine T.cH H z (λH=>?_) λH=>?_
 ·exact Sg z<|Nr<|Tr<|E1 H
 refine Ks<|Sr<|An z<|Sq<|Sr<|Vv (V.fa C2v z)<|Wd 6 R3 z b.u z<|Nt ?_
 obtain ⟨ah,al,av⟩:=J4 H
 refine T.ck (α:=Int) [3,5] (λB=>([(9,qi B)],L,λhh=>ah=B)) ?_ ?_
 ·have H:=al
  refine T.cH H z (λH=>?_) λH=>?_
  ·refine Rg<|Vv (V.fa M0 z)<|Wd 0 O7 z f.u z<|Mv z<|Mv z<|bE H λck az H=>Ws z z az<|bE H λba M H=>T.slM z O1 z e.u (.inr ⟨_,_,z,z⟩) (.inr ⟨_,_,z,z⟩) (A3O M).2 z λbb bc cm=>?_
   have bd:G9 I1 7 a8 bb ba:=by rw [(A3O M).1]; exact bc
   refine bE H λcn be H=>To (O.G6 z (A7L bd be _) z λco cp cq cr bf=>?_)
   obtain ⟨rfl,bg⟩:=bf
   refine O8 _ bg<|bE H λbi bj H=>Vv (V.X9 z z bj)<|An z<|T.mt bi (K9 H)
  refine Ks<|T.mt (24:Int) (K9 H)
 rintro B cs ct bk
 have H:=H7 bk av
 refine T.norm [9,3,5] z<|T.fl ?_
 refine Sq<|Sr<|Vv (V.fa A0Y z)<|Wd 4 R3 z b.u z<|Mv z<|T.bH 124 H z (λH=>?_) λH=>?_
 ·refine Vv (V.fa U0 z)<|Wd 5 D6 z a.u z<|Vv (V.fa C2p z)<|Wd 5 D6 z b.u z<|Wl z z<|Mv z<|T.bH 130 H z (λH=>?_) λH=>?_
  ·exact S2<|S2<|Kt z<|Kt z<|Nt<|Ct z<|Sg z<|Nr<|Tr<|E1 H
  refine Vv (V.fa U0 z)<|Wd 5 D6 z a.u z<|Mv z<|Wg z z<|Kf z<|Kt z<|Nt<|T.cH H z (λH=>?_) λH=>?_
  ·exact Sg z<|Nr<|Tr<|E1 H
  exact Ks<|Sg z<|Nr<|E1 H
 exact S2<|S2<|S2<|S2<|S2<|Sk<|Kf z<|Nt<|Cf z<|Ks<|Sg z<|Nr<|E1 H
theorem C2D {h n d o p} (w:M7 h n d) (H:B2s d=some (o,p)):∀ L,FnW prog 77 [.agg n.toArray] h L (.tuple #[.int .i64 o,.int .i64 p]):=by
 intro L
 obtain ⟨ac,x,y,ad,ae,rfl,q,i,r,e,af⟩:=w
 refine I7.enter func77 z z z<|Sr<|To (O.T9 z z z λai aj ak a=>Ag z<|An z<|Sq<|Sr<|Vv (V.fa M0 z)<|Wd 0 O7 z a z<|bE H λ⟨am,an⟩ A H=>To (O.cs (B1R q.u A _) λap ar=>Mv z<|Wx z z<|Wx z z<|Ag z<|An z<|Sm z<|Wn z z<|Nt<|T.cH H z (λH=>?_) λH=>?_))
 ·exact Sm z<|Mv z<|Ag z<|Ag z<|Nr<|Tr<|E1 H
 refine Ks<|Sq<|Sr<|Vv (V.fa Q3 z)<|Wd 1 M8 z a.u z<|Vv (V.fa A9C z)<|Wd 2 A1R z a.u z<|Vv (V.bld (xs:=[(0,.tmp 22),(1,.tmp 24)]) (cs:=[_,_]) B9g B9o z (F6.cons z (G9.cells i) z (F6.cons z (G9.cells r) z F6.nil)))<|bE H λ⟨au,aw⟩ D H=>To (O.cs (B6H ⟨x,y,z,i.u,r.u⟩ D _) λay aB=>Mv z<|Wx z z<|Wx z z<|Ag z<|An z<|Sm z<|Wn z z<|Nt<|T.cH H z (λH=>?_) λH=>?_)
 ·exact Sm z<|Mv z<|Ag z<|Ag z<|Nr<|Tr<|E1 H
 refine Ks<|Sq<|Sq ?_
 obtain ⟨I,J,K⟩:=J4 H
 refine T.ck (α:=Bool) [1] (λf=>([(45,.bool f)],L,λhh=>I=f)) ?_ ?_
 ·have H:=J
  refine Rg<|Vv (V.fa A5O z)<|Wd 3 D9 z a.u z<|Vv (V.P7 A9 z e)<|Wg z z<|Mv z<|T.bH 37 H z (λH=>?_) λH=>?_
  ·refine Vv (V.fa A5O z)<|Wd 3 D9 z a.u z<|Vv (V.P7 A9 z e)<|Vv (V.fa Q3 z)<|Wd 1 M8 z a.u z<|Vv (V.P7 O3 z i)<|Wn z z<|Kt z<|Nt<|T.mt (!decide ((d.R7.length:Int)=(d.A7.length:Int))) (K9 H)
  refine S2<|S2<|S2<|Sk<|Kf z<|Nt<|T.mt false (K9 H)
 rintro f aC aD M
 have H:=H7 M K
 refine T.norm [45,1] z<|T.fl ?_
 refine T.cH H z (λH=>?_) λH=>?_
 ·exact Sg z<|Ag z<|Nr<|Tr<|E1 H
 refine Ks<|Sq<|Sr<|Vv (V.fa A5O z)<|Wd 3 D9 z a.u z<|Vv (V.P7 A9 z e)<|Mv z<|Nt ?_
 obtain ⟨N,P,m⟩:=J4 H
 have H:=P
 refine Bl<|T.lk [1,47,48] (FUEL,(0:Int)) (λ⟨b,c⟩=>([(49,qi c)],L,λhh=>iter (A4Z d) b c=some N)) H ?_
 rintro ⟨b,c⟩ aE aG S
 obtain ⟨U,aI,rfl,H,j⟩:=G5 S
 refine T.norm [49,1,47,48] z<|T.fl ?_
 refine Sr<|Wl z z<|Nt<|Sq<|T.cH H z (λH=>?_) λH=>?_
 ·refine Ks<|Sq<|Bl<|Sr<|bE H λaJ s H=>?_
  obtain ⟨aK,W,rfl⟩:=G9.at e s
  refine Vv (V.ix A9 z z e (E8 s))<|Vv (V.Q9 D6 z W.u z)<|An z<|Sm z<|Wl z z<|Mv z<|T.bH 55 H z (λH=>?_) λH=>?_
  ·exact S2<|Kt z<|Nt<|Ct z<|Sg z<|Ag z<|Nr<|Br<|Tr<|Tr<|have H:=D5 H j; Br<|Tr<|have H:=H7 H m; E1 H
  refine Mv z<|Vv (V.ge z z)<|Kf z<|Nt<|T.cH H z (λH=>?_) λH=>?_
  ·exact Sg z<|Ag z<|Nr<|Br<|Tr<|Tr<|have H:=D5 H j; Br<|Tr<|have H:=H7 H m; E1 H
  refine T.skip<|Bn<|Th<|Rg<|bE H λX Y H=>Ws z z Y<|Mv z<|Nt<|T.ag (U,X) (D8 H j)
 refine Xt<|have H:=D5 H j; Be<|Th<|have H:=H7 H m; Sq<|Sq<|T.dw (.vs [0,1,2,3,4] (.alt 5 (.g (.v 6 .done)) .no)) 8 0 0 ?_
 refine Tv z (V.fa Q3 z)<|Td z 1 M8 z a.u z<|Tv z (V.P7 O3 z i)<|Tv z (V.fa M0 z)<|Td z 0 O7 z a.u z<|bE H λaM Z H=>Tp z z (X2 z z) (O.G6 z (A7L q.u Z _) z λaN aO aP aS aa=>?_) T.O4
 obtain ⟨rfl,ab⟩:=aa
 refine O8 _ ab<|T.N8 Li<|Tv z (V.gt z z)<|T.M9 (X2 z z)<|Th<|T.cH H z (λH=>?_) λH=>?_
 ·exact Sg z<|Ag z<|Nr<|Tr<|E1 H
 exact Ks<|Sg z<|Ag z<|Nr<|E1 H
theorem A8s {h o g p q} (G:M7 h o g) (H:A3n g=some (p,q)):∀ L,FnW prog 37 [.agg o.toArray] h L (.tuple #[.int .i64 p,.int .i64 q]):=by
 intro L
 obtain ⟨r,s,t,w,x,rfl,y,A,B,C,e⟩:=G
 refine I7.enter func37 z z z<|Sr<|To (O.T9 z z z λam an ao i=>Ag z<|An z<|Sq<|Sr<|Vv (V.ldS z i (by exact J7)) ?_)
 refine bE H λ⟨ap,aq⟩ I H=>To (O.cs (C2D ⟨r,s,t,w,x,z,y.u,A.u,B.u,C.u,e.u⟩ I _) λau ax=>Mv z<|Wx z z<|Wx z z<|Ag z<|An z<|Sm z<|Wn z z<|Nt<|T.cH H z (λH=>?_) λH=>?_)
 ·exact Sm z<|Mv z<|Ag z<|Ag z<|Nr<|Tr<|E1 H
 refine Ks<|Sr<|bE H λM N H=>To (O.G6 z (B5x N _) z λay aA aB aC P=>?_)
 obtain ⟨S,U⟩:=P
 refine O8 _ S<|An z<|Sq<|Sr<|Vv (V.fa A2v z)<|Wd 4 A1h z i.u z<|Vv (V.P7 A0f z e)<|Mv z<|Nt ?_
 obtain ⟨W,X,m⟩:=J4 H
 have H:=X
 refine Bl<|T.lk [1,6,21,22] (FUEL,(0:Int)) (λ⟨c,d⟩=>([(23,qi d)],L,λhh=>iter (A5t g M) c d=some W)) H ?_
 rintro ⟨c,d⟩ aD aE Y
 obtain ⟨Z,aG,rfl,H,f⟩:=G5 Y
 refine T.norm [23,1,6,21,22] z<|T.fl ?_
 refine Sr<|Wl z z<|Nt<|Sq<|T.cH H z (λH=>?_) λH=>?_
 ·refine Ks<|Sq<|Bl<|Sm z<|bE H λa D H=>?_
  obtain ⟨aI,aa,rfl⟩:=G9.at e D
  refine Vv (V.ix A0f z z e (E8 D))<|Vv (V.ldS z aa.u (by exact K3)) ?_
  refine To (O.alloc A2H z z λaJ=>Ag z<|To (O.stF (vs:=[.int .u8 a.F9,qi a.K6,.string a.fA,.string a.fB,.string a.I5,qi a.fN]) K3 z z (j:=0) z z z z<|T.freeze λn aK ab=>have E:=Y2.of ab; Nt<|Sq<|Sm z<|Vv (V.fa A2s z)<|Wd 0 A5h z E z<|bE H λ⟨b,aM⟩ ac H=>?_))
  obtain ⟨_,ad,rfl⟩:=Mp.look (zc:=[.string qe,.int .u8 0,.bool false,.int .u8 0,.bool false,qi 0,.bool false,(fnV (0:Nat))]) (agg:=true) underlying98 (A0t.int underlying41) B8W (show K5 n [.string qe,.int .u8 0,.bool false,.int .u8 0,.bool false,qi 0,.bool false,(fnV (0:Nat))] (H5.mk qe (0:Int) false (0:Int) false (0:Int) false (0:Nat)) from rfl) U.u ac
  refine Vv (V.D3V z z ad)<|Vv (V.ldS z i.u (by exact J7)) ?_
  refine Vv (V.ldS z E (by exact K3)) ?_
  refine bE H λaN ae H=>To (O.cs (C2e (show K5 n [.string b.A7f,.int .u8 b.fa,.bool b.fb,.int .u8 b.ft,.bool b.fn,qi b.flo,.bool b.A5X,(fnV b.C5p)] b from z) ⟨r,s,t,w,x,z,y.u,A.u,B.u,C.u,e.u⟩ (show I4 n [.int .u8 a.F9,qi a.K6,.string a.fA,.string a.fB,.string a.I5,qi a.fN] a from z) ae _) λaP aU=>An z<|Sm z<|Wn z z<|Nt<|T.cH H z (λH=>?_) λH=>?_)
  ·exact Sm z<|Mv z<|Ag z<|Ag z<|Nr<|Tr<|Br<|Tr<|Tr<|have H:=D5 H f; Br<|Tr<|have H:=H7 H m; E1 H
  refine Ks<|Sm z<|We z z<|Nt<|T.cH H z (λH=>?_) λH=>?_
  ·exact Sm z<|Ag z<|Ag z<|Nr<|Br<|Tr<|Tr<|have H:=D5 H f; Br<|Tr<|have H:=H7 H m; E1 H
  refine T.skip<|Bn<|Th<|Rg<|bE H λaj ak H=>Ws z z ak<|Mv z<|Nt<|T.ag (Z,aj) (D8 H f)
 exact Xt<|have H:=D5 H f; Be<|Th<|have H:=H7 H m; Sg z<|Ag z<|Nr<|E1 H
theorem C2f {h a b c d e f g i} (j:Y2 h b c) (m:M7 h c d) (n:Y2 h e f) (o:(VI .i64) h f g) (H:B0k a d g=some i):∀ L,FnW prog 48 [.int .i64 a,.pointer (some b),.pointer (some e)] h L (.bool i):=by
 intro L
 obtain ⟨t,u,w,x,y,rfl,p,A,B,C,D⟩:=m
 obtain rfl:=o
 exact I7.enter func48 z z z<|Sr<|An z<|Sr<|Vv (V.fa M0 z)<|Wd 0 O7 z j z<|Vv (V.Q9 D6 z n z)<|Mv z<|bE H λE q H=>To (O.cs (C1d p q _) λI K=>Ag z<|Nr<|E1 H)
theorem C1Y {h a b c d e f g i} (j:Y2 h b c) (m:M7 h c d) (n:Y2 h e f) (o:(VI .i64) h f g) (H:A9R a d g=some i):∀ L,FnW prog 50 [.int .i64 a,.pointer (some b),.pointer (some e)] h L (.bool i):=by
 intro L
 obtain ⟨t,u,w,x,y,rfl,p,A,B,C,D⟩:=m
 obtain rfl:=o
 exact I7.enter func50 z z z<|Sr<|An z<|Sr<|Vv (V.fa M0 z)<|Wd 0 O7 z j z<|Vv (V.Q9 D6 z n z)<|Mv z<|bE H λE q H=>To (O.cs (C0g p q _) λI K=>Ag z<|Nr<|E1 H)
theorem C1T {h ae W S af} (aX:Pt V3 h ae W) (H:B2h W S=some af):∀ L,I7 prog 52 [ae,.int .i64 S] h (L) (λv h' L'=>∃ ai X,v=.map (some ai)∧L'=blk ai (.map X.toArray X.length)::L∧V7 (Value.int .i64) false (VI .i64) h' 0 X af):=by
 intro L
 refine I7.enter func52 z z z<|Sr<|An z<|Sr<|To (O.mkM z λaY=>have aZ:V7 (Value.int .i64) false (VI .i64) h 0 ([]:List MapEntry) ([]:List (Int×Int)):=trivial; Mv z<|bE H λa0 a1 H=>To (O.B0n (agg:=false) (E:=(VI .i64)) (cs:=[qi 0]) underlying112 (A0t.int underlying3) z z z (j:=0) z aZ (show (VI .i64) h [qi 0] (0:Int) from z) _ (.inr z) λa2 aj=>?_))
 rw [Option.some.inj a1] at aj
 refine Mv z<|An z<|Sq<|Sm z<|To (O.b1 (E:=VI .i64) A9 J6 z z z z z λa3 a4=>An z ?_)
 obtain ⟨a5,a6,a7⟩:=J4 H
 have H:=a6
 refine Bl<|Fr_ 1 z<|T.lk [0] (FUEL,a0,[S],aY,a2,(.slice (some ⟨a3,0,none⟩) 1 1),[[qi S]]) (λ⟨D,s,w,x,i,y,A⟩=>([(5,.map (some x)),(6,y)],blk x (.map i.toArray i.length)::F3 3 1 y A::L,λhh=>iter (A8o W) D (s,w)=some a5∧V7 (Value.int .i64) false (VI .i64) hh 0 i s∧A8 (VI .i64) hh A w)) ⟨H,aj,a4⟩ ?_
 rintro ⟨D,s,w,x,i,y,A⟩ a8 bY ⟨a9,ak,G⟩
 obtain ⟨ah,bZ,rfl,H,am⟩:=G5 a9
 refine T.norm [5,6,0] z<|T.fl ?_
 refine Sq<|Sm z<|Vv (V.A2p A9 z (j:=1) z G.len)<|Wg z z<|Nt<|T.cH H z (λH=>?_) λH=>?_
 ·refine Ks<|Sq<|Bl<|Sq<|Fr_ 1 z<|T.dw (.vs [0,1,2,3,4,5,6,7,8,9,10,11,12,13,14,15,16,17,20] (.alt 18 (.g (.v 19 .done)) .no)) 22 1 1 ?_
  refine Tm z z<|have al:=aX; ?_
  obtain ⟨b0,_,rfl,an,⟨b2,b3,b4,b5,b6,b7,b8,b9,bh,bl,bv,bz,ca,cb,rfl,cc,cd,ce,cf,cg,ci,cj,ck,cm,ao,aq,cn,co,cp⟩⟩:=al
  refine TL z z z z A2e S9 an.u z<|Tm z z<|bE H λcq ar H=>?_
  obtain ⟨cr,av,rfl⟩:=A8.get G ar
  refine Tv z (Val.XA λ_ _ _=>V.ixR A9 z z (j:=0) z (A8.bd G ar))<|Tv z (Val.XA λ_ _ _=>V.ldR D6 z (j:=0) z av z)<|bE H λau aw H=>?_
  obtain ⟨ct,az,⟨ax,rfl,ay⟩⟩:=G9.at ao aw
  refine Tv z (V.ix K7 z z ao (E8 aw))<|Tv z (V.Q9 D9 z az.u z)<|Tm z z<|TL z z z z A4G S9 an.u z<|Tm z z<|bE H λcu aA H=>?_
  obtain ⟨cw,ba,rfl⟩:=A8.get G aA
  refine Tv z (Val.XA λ_ _ _=>V.ixR A9 z z (j:=0) z (A8.bd G aA))<|Tv z (Val.XA λ_ _ _=>V.ldR D6 z (j:=0) z ba z)<|bE H λaB aC H=>?_
  obtain ⟨cx,bb,⟨aD,rfl,aE⟩⟩:=G9.at aq aC
  refine Tv z (V.ix K7 z z aq (E8 aC))<|Tv z (V.Q9 D9 z bb.u z)<|Tm z z<|Tp z z (X3 [0] [0] z z) (O.bq K7 A1d [.tmp 31,.tmp 40] (VSl (VI .i64) 1) [[ax],[aD]] [au,aB] (hE:=(A8.cons ⟨ax,z,ay.u⟩ (A8.cons ⟨aD,z,aE.u⟩ A8.nil))) λcy bc=>?_) T.O4
  refine T.J8 λcA cB be=>have Y:=A8.slc be bc.u; T.N8 Li<|Tv z (V.P7 K7 z Y)<|T.M9 (X3 [0] [0] z z)<|Th<|T.A0G ?_
  obtain ⟨bf,bg,bi⟩:=J4 H
  have H:=bg
  refine Bl<|Fr_ 1 z<|T.lk [0,41,42] (FUEL,(0:Int),s,w,x,i,y,A) (λ⟨I,J,m,B,n,c,C,d⟩=>([(43,qi J),(5,.map (some n)),(6,C)],blk n (.map c.toArray c.length)::F3 3 1 C d::L,λhh=>iter (A8b au aB) I (J,m,B)=some bf∧V7 (Value.int .i64) false (VI .i64) hh 0 c m∧A8 (VI .i64) hh d B)) ⟨H,ak.u,G.u⟩ ?_
  rintro ⟨I,J,m,B,n,c,C,d⟩ bj cC ⟨bk,aG,Z⟩
  obtain ⟨bm,cD,rfl,H,aI⟩:=G5 bk
  refine T.norm [43,5,6,0,41,42] z<|T.fl ?_
  refine Sr<|Wl z z<|Nt<|Sq<|T.cH H z (λH=>?_) λH=>?_
  ·refine Ks<|Sq<|Bl<|Sr<|bE H λbn aJ H=>?_
   obtain ⟨cE,bo,⟨cG,rfl,aa⟩⟩:=G9.at Y aJ
   refine Vv (V.ix K7 z z Y (E8 aJ))<|Vv (V.Q9 D9 z bo.u z)<|An z<|Sm z<|Vv (V.P7 A9 z aa)<|Mv z<|Nt<|T.A0G ?_
   obtain ⟨bp,bq,br⟩:=J4 H
   have H:=bq
   refine Bl<|T.lk [0,41,42,43,47,48] (FUEL,(0:Int),m,B,n,c,C,d) (λ⟨K,M,o,p,a,f,q,b⟩=>([(49,qi M),(5,.map (some a)),(6,q)],blk a (.map f.toArray f.length)::F3 3 1 q b::L,λhh=>iter (A7K bn) K (M,o,p)=some bp∧V7 (Value.int .i64) false (VI .i64) hh 0 f o∧A8 (VI .i64) hh b p)) ⟨H,aG,Z⟩ ?_
   rintro ⟨K,M,o,p,a,f,q,b⟩ U cI ⟨bt,P,N⟩
   obtain ⟨aK,cJ,rfl,H,ab⟩:=G5 bt
   refine T.norm [49,5,6,0,41,42,43,47,48] z<|T.fl ?_
   refine Sr<|Wl z z<|Nt<|Sq<|T.cH H z (λH=>?_) λH=>?_
   ·refine Ks<|Sq<|Bl<|Sr<|bE H λaM aN H=>?_
    obtain ⟨cK,bu,rfl⟩:=G9.at aa aN
    refine Vv (V.ix A9 z z aa (E8 aN))<|Vv (V.Q9 D6 z bu.u z)<|An z<|Sm z<|Mv z<|bE H λ⟨cM,cN⟩ bw H=>?_
    obtain ⟨_,bx,rfl⟩:=V7.lookO (r:=a) (zc:=[qi 0]) (agg:=false) underlying112 (A0t.int underlying3) J6 (show (VI .i64) U [qi 0] (0:Int) from rfl) P bw
    refine Vv (V.lkO z z (j:=0) z bx)<|Mv z<|Wx z z<|Wx z z<|Ag z<|An z<|Sm z<|Vv (V.not z)<|Nt<|T.cH H z (λH=>?_) λH=>?_
    ·refine Sm z<|Mv z<|Mv z<|Mv z<|bE H λcO aO H=>?_
     obtain ⟨cP,bA,rfl⟩:=A8.get N aO
     refine Vv (V.ixR A9 z z (j:=1) z (A8.bd N aO))<|Vv (V.ldR D6 z (j:=1) z bA z)<|bE H λ⟨cS,cU⟩ bB H=>?_
     obtain ⟨_,bC,rfl⟩:=V7.lookO (r:=a) (zc:=[qi 0]) (agg:=false) underlying112 (A0t.int underlying3) J6 (show (VI .i64) U [qi 0] (0:Int) from rfl) P bB
     refine Vv (V.D4m z z (j:=0) z bC)<|bE H λac bD H=>Ws z z bD<|bE H λbG bI H=>To (O.B0n (agg:=false) (E:=(VI .i64)) (cs:=[qi ac]) underlying112 (A0t.int underlying3) z z z (j:=0) z P (show (VI .i64) U [qi ac] ac from z) _ (.inl z) λbJ aP=>?_)
     rw [Option.some.inj bI] at aP
     refine Nt<|Rg<|Mv z<|Mv z<|To (O.b1 (E:=VI .i64) A9 J6 z z z z z λcV ad=>bE H λaS aU H=>To (O.ax A9 J6 2 N ad aU VI.plain λbK bM=>T.fl ?_))
     refine T.fs [1] ?_
     refine T.drop<|Ag z<|Ni<|Bn<|Th<|Rg<|bE H λbN bO H=>Ws z z bO<|Mv z<|Nt<|Fr_ 1 z<|T.ag (aK,bN,bG,aS,a,bJ,bK,(b++[[qi aM]])) ⟨(D8 H ab),aP,bM⟩
    refine T.skip<|Bn<|Th<|Rg<|bE H λbP bS H=>Ws z z bS<|Mv z<|Nt<|T.ag (aK,bP,o,p,a,f,q,b) ⟨(D8 H ab),P,N⟩
   refine Xt<|have H:=D5 H ab; Be<|Th<|have H:=H7 H br; Bn<|Th<|Rg<|bE H λbU bV H=>Ws z z bV<|Mv z<|Nt<|T.ag (bm,bU,o,p,a,f,q,b) ⟨(D8 H aI),P,N⟩
  refine Xt<|have H:=D5 H aI; Be<|Th<|have H:=H7 H bi; Bn<|Th<|Rg<|Mv z<|bE H λaV aW H=>To (O.slR A9 z z (j:=1) z (A8.slb Z aW) z λbW=>have bX:A8 (VI .i64) bj (List.drop (1:Int).toNat d) aV:=A8.sl Z aW; An z<|Fr_ 1 z<|T.ag (ah,m,aV,n,c,bW,(List.drop (1:Int).toNat d)) ⟨(D8 H am),aG,bX⟩)
 refine Xt<|have H:=D5 H am; Be<|Th<|have H:=H7 H a7; Sm z<|Ag z<|Nr<|Fr_ 1 z<|T.drop ?_
 cases H
 exact T.rl z (Rv z) ⟨_,_,z,z,ak⟩
theorem B5E {h a b c} (d:Pt V3 h a b) (H:A5N b=some c):∀ L,FnW prog 123 [a] h L (.bool c):=by
 intro L
 refine I7.enter func123 z z z<|Sr<|An z<|Sm z<|have e:=d; ?_
 obtain ⟨j,_,rfl,f,⟨m,n,o,p,q,r,s,t,u,w,x,y,A,B,rfl,C,D,E,G,I,g,J,K,M,N,O,P,S,U⟩⟩:=e
 refine Vv (V.D1E underlying49 z)<|Mv z<|Mv z<|NL z B5m C1C f z<|have i:=g; ?_
 obtain ⟨W,_,rfl,_⟩:=i
 exact Vv (V.D4j underlying98 z)<|Kf z<|Ag z<|Nr<|E1 H
theorem B9n {h bh af bl bv bz} (dp:M7 h bh af) (H:B1Q af=some (bl,bv,bz)):∀ L,I7 prog 12 [.agg bh.toArray] h (L) (λv h' L'=>∃ ca,v=.tuple #[ca,.int .i64 bv,.int .i64 bz]∧L'=L∧OPt V3 h' ca bl):=by
 intro L
 obtain ⟨bc,av,az,bd,be,rfl,P,G,aY,bf,bg⟩:=dp
 refine I7.enter func12 z z z<|Sr<|To (O.T9 z z z λbi gl gv y=>Ag z<|Ag z<|An z<|Sq<|Sr<|Vv (V.ldS z y (by exact J7)) ?_)
 refine bE H λ⟨gz,ia⟩ dq H=>To (O.cs (A8s ⟨bc,av,az,bd,be,z,P.u,G.u,aY.u,bf.u,bg.u⟩ dq _) λic ie=>Mv z<|Wx z z<|Wx z z<|Ag z<|An z<|Sm z<|Wn z z<|Nt<|T.cH H z (λH=>?_) λH=>?_)
 ·refine Sm z<|Mv z<|Ag z<|Ag z<|Ag z<|Nr<|Tr ?_
  cases H
  exact T.rl z (RVs.cons (RV.tmp z) (RVs.cons (RV.tmp z) (Rv z))) ⟨_,z,z,OPt.nil⟩
 refine Ks<|Sr<|Vv (V.ldS z y.u (by exact J7)) ?_
 refine bE H λdt du H=>To (O.G6 z (B4i ⟨bc,av,az,bd,be,z,P.u,G.u,aY.u,bf.u,bg.u⟩ du _) z λig ii ij ik dw=>?_)
 obtain ⟨ax,ay,aA,aB,aC,rfl,dx,cb,cc,cd,ce,cf⟩:=dw
 refine O8 _ dx<|bE H λdy dA H=>To (O.G6 z (B5x dA _) z λaD ba im io dB=>?_)
 obtain ⟨dC,bw⟩:=dB
 refine O8 _ dC<|Vv (V.bld (xs:=[(0,.tmp 34),(1,.tmp 35)]) (cs:=[_,_,_,_,_,_,_,_,_,_,_,_,_,_]) C5H C5L z (F6.cons z z z (F6.cons z (Mp.cells bw) z F6.nil)))<|To (O.box z z z λbb=>An z<|Sq<|Sr<|Vv (V.fa M0 z)<|Wd 0 O7 z y.u z<|Vv (V.P7 O1 z P)<|Mv z<|Nt ?_)
 obtain ⟨dD,dE,dG⟩:=J4 H
 have H:=dE
 refine Bl<|T.rn (VI .i64) 3 1 λdI=>T.rn (VI .i64) 3 1 λdJ=>T.rn VB 4 1 λdK=>T.rn (VSl (VI .i64) 1) 30 1 λdM=>T.rn (VSl (VI .i64) 1) 30 1 λdN=>T.fs [1,2,3,4,5] ?_
 refine T.lk [1,7,40] (FUEL,([]:List Int),([]:List Int),([]:List Bool),([]:List (List Int)),([]:List (List Int)),(0:Int),(qs),[],(qs),[],(qs),[],(qs),[],(qs),[]) (λ⟨aZ,ai,aj,ak,am,an,S,p,J,o,I,f,A,d,w,b,s⟩=>([(41,qi S)],blk bb (.cells [ax,ay,aA,aB,aC,aD,p,o,f,d,b,qs,qs,qs].toArray 105)::F3 3 1 p J::F3 3 1 o I::F3 4 1 f A::F3 30 1 d w::F3 30 1 b s::L,λhh=>iter (B0t af) aZ (ai,aj,ak,am,an,S)=some dD∧A8 (VI .i64) hh J ai∧A8 (VI .i64) hh I aj∧A8 VB hh A ak∧A8 (VSl (VI .i64) 1) hh w am∧A8 (VSl (VI .i64) 1) hh s an)) ⟨H,dI,dJ,dK,dM,dN⟩ ?_
 rintro ⟨aZ,ai,aj,ak,am,an,S,p,J,o,I,f,A,d,w,b,s⟩ dO ip ⟨dP,bj,bx,bA,bB,bC⟩
 obtain ⟨dS,iq,rfl,H,cg⟩:=G5 dP
 refine T.norm [41,1,7,40] z<|T.fl ?_
 refine Sr<|Wl z z<|Nt<|Sq<|T.cH H z (λH=>?_) λH=>?_
 ·refine Ks<|Sq<|Bl<|Sm z<|An z<|Sr<|Vv (V.fa M0 z)<|Wd 0 O7 z y.u z<|Mv z<|bE H λbD dU H=>To (O.cs (A5l P.u dU _) λdV iu=>An z<|Sr<|Vv (V.fa M0 z)<|Wd 0 O7 z y.u z<|Mv z<|Mv z<|bE H λiw dY H=>Ws z z dY<|bE H λdZ ci H=>T.slM z O1 z P.u (.inr ⟨_,_,z,z⟩) (.inr ⟨_,_,z,z⟩) (A3O ci).2 z λd0 d1 iy=>?_)
  have d2:G9 I1 7 dV d0 dZ:=by rw [(A3O ci).1]; exact d1
  refine bE H λd3 d4 H=>To (O.cs (A7L d2 d4 _) λiB iD=>An z<|Sm z<|To (O.alloc J6 z z λd7=>To (O.stF (vs:=[qi bD]) D6 z z (j:=0) z z z z<|T.fl ?_)))
  refine Nt<|T.A0G ?_
  obtain ⟨d8,d9,dh⟩:=J4 H
  have H:=d9
  refine Bl<|T.fs [6,6,6,6,6,6] ?_
  refine T.lk [1,7,8,9,10,40,41] (FUEL,ai,aj,ak,am,an,bD,p,J,o,I,f,A,d,w,b,s,d7) (λ⟨a0,aE,aG,aI,aJ,aK,B,aM,U,aN,W,aO,X,aP,Y,aS,Z,M⟩=>([(11,qp M)],blk bb (.cells [ax,ay,aA,aB,aC,aD,aM,aN,aO,aP,aS,qs,qs,qs].toArray 105)::F3 3 1 aM U::F3 3 1 aN W::F3 4 1 aO X::F3 30 1 aP Y::F3 30 1 aS Z::blk M (.cells [qi B].toArray 3)::L,λhh=>iter (B0H af S bD d3) a0 (aE,aG,aI,aJ,aK,B)=some d8∧A8 (VI .i64) hh U aE∧A8 (VI .i64) hh W aG∧A8 VB hh X aI∧A8 (VSl (VI .i64) 1) hh Y aJ∧A8 (VSl (VI .i64) 1) hh Z aK)) ⟨H,bj.u,bx.u,bA.u,bB.u,bC.u⟩ ?_
  rintro ⟨a0,aE,aG,aI,aJ,aK,B,aM,U,aN,W,aO,X,aP,Y,aS,Z,M⟩ dl iE ⟨dv,bG,bI,bJ,bK,bM⟩
  obtain ⟨dz,iG,rfl,H,cj⟩:=G5 dv
  refine T.norm [11,1,7,8,9,10,40,41] z<|T.fl ?_
  refine Sq<|Sr<|Vv (V.A4V D6 z (j:=6) z z)<|Mv z<|Mv z<|bE H λiI ea H=>Ws z z ea<|Wl z z<|Nt<|T.cH H z (λH=>?_) λH=>?_
  ·refine Ks<|Sq<|Bl<|Sm z<|Mv z<|NF z U2<|Vv (V.ldO (k:=6) D9 z (j:=0) z z)<|Mv z<|To (O.b1 (E:=VI .i64) A9 J6 z z z z z λiJ bN=>bE H λck cm H=>To (O.ax A9 J6 2 bG bN cm VI.plain λcn eb=>T.fl ?_))
   refine T.fs [1] ?_
   refine T.drop<|NF z U2<|T.Q7 0 z λec ed=>To (O.st (vs:=[cn]) (k:=6) D9 z z (j:=1) z ed (by (simp only [BT,ec]) <;> rfl) ?_)
   refine T.fl ?_
   refine Nt<|Sq<|T.fs [2,1,6] ?_
   refine T.dw (.vs [0,1,2,3] (.x 4 (.vs [5,6,7] (.alt 8 (.g (.alt 9 (.alt 10 (.g (.v 11 (.v 12 (.alt 13 .done .no)))) .no) .no)) .no)))) 10 3 1 ?_
   refine Tm z z<|Tm z z<|TF z z z A9g<|T.tx z z (Val.XA λ_ _ _=>V.ldO (k:=7) D9 z (j:=1) z z) z Calm.i<|Tv z (V.fa M0 z)<|Td z 0 O7 z y.u z<|Tv z (Val.XA λ_ _ _=>V.A4V D6 z (j:=0) z z)<|bE H λbk ee H=>Tp z z (X3 [0] [2,2,2] z z) (O.G6 z (C2A P.u ee _) z λiN co iO iP ef=>?_) T.O4
   obtain ⟨rfl,eg⟩:=ef
   refine O8 _ eg<|T.N8 Li<|Tp z z (X3 [0] [2,2,2] z z) (O.bq A9 J6 [.tmp 81] (VI .i64) [[qi bk]] [bk] λiS bO=>?_) T.O4
   refine bE H λcp cq H=>Tp z z (X3 [1] [3,3,3] z z) (O.ax A9 J6 3 bI.u bO cq VI.plain λcr ei=>?_) T.O4
   refine T.fl ?_
   refine T.fs [1] ?_
   refine T.drop<|T.N8 Lr<|TF z z z A9g<|T.Q7 0 z λej ek=>Tp z z (SX.one (XA.fr [1] Lr z) z) (O.st (vs:=[cr]) (k:=7) D9 z z (j:=2) z ek (by (simp only [BT,ej]) <;> rfl) ?_) T.O4
   refine T.fl ?_
   refine T.M9 (SX.one (XA.fr [2] Lr z) z)<|Th<|Sq<|T.fs [4,1,3] ?_
   refine T.dw (.vs [0,1,2,3] (.x 4 (.vs [5,6,7] (.alt 8 (.g (.alt 9 (.alt 10 (.g (.v 11 (.v 12 (.alt 13 .done .no)))) .no) .no)) .no)))) 10 3 1 ?_
   refine Tm z z<|Tm z z<|TF z z z B2y<|T.tx z z (Val.XA λ_ _ _=>V.ldO (k:=8) B2l z (j:=1) z z) z Calm.i<|Tv z (V.fa M0 z)<|Td z 0 O7 z y.u z<|Tv z (Val.XA λ_ _ _=>V.A4V D6 z (j:=0) z z)<|bE H λbm em H=>Tp z z (X3 [0] [2,2,2] z z) (O.G6 z (C3T P.u em _) z λiW ct iX iY en=>?_) T.O4
   obtain ⟨rfl,eo⟩:=en
   refine O8 _ eo<|T.N8 Li<|Tp z z (X3 [0] [2,2,2] z z) (O.bq A0b A5V [.tmp 94] VB [[.bool bm]] [bm] λiZ bP=>?_) T.O4
   refine bE H λcu cw H=>Tp z z (X3 [1] [3,3,3] z z) (O.ax A0b A5V 3 bJ.u bP cw VB.plain λcx ep=>?_) T.O4
   refine T.fl ?_
   refine T.fs [1] ?_
   refine T.drop<|T.N8 Lr<|TF z z z B2y<|T.Q7 0 z λer es=>Tp z z (SX.one (XA.fr [1] Lr z) z) (O.st (vs:=[cx]) (k:=8) B2l z z (j:=2) z es (by (simp only [BT,er]) <;> rfl) ?_) T.O4
   refine T.fl ?_
   refine T.M9 (SX.one (XA.fr [2] Lr z) z)<|Th<|Sq<|T.norm [1,7,8,9,10,11,40,41] z<|T.fl ?_
   refine T.fs [2] ?_
   refine T.C0E λet i2 bS=>T.fs [4,1] ?_
   refine T.dw (.vs [0,1,2,3] (.x 4 (.vs [5,6,7] (.alt 8 (.g (.alt 9 (.alt 10 (.g (.v 11 (.v 12 (.alt 13 .done .no)))) .no) .no)) .no)))) 10 2 0 ?_
   refine Tm z z<|Tm z z<|TF z z z A2e<|T.tx z z (Val.XA λ_ _ _=>V.ldO (k:=9) S9 z (j:=0) z z) z Calm.i<|Tm z z<|Tm z z<|Tv z (V.mkf z z)<|bE H λeu ew H=>Tp z z (X3 [] [1,1] z z) (O.G6 z (B5N (show A2D et (.func (.func 48) #[] #[qp bi,qp M]) (λbU=>B0k bU af B) from ⟨⟨z,z⟩,.inr ⟨48,[],[qp bi,qp M],z,λex i3 i4 i5 ey eA=>C2f y.u ⟨bc,av,az,bd,be,z,P.u,G.u,aY.u,bf.u,bg.u⟩ bS.u (show (VI .i64) ex [qi B] B from z) ey eA⟩⟩) ew _) z λbn i6 i7 i8 eB=>?_) T.O4
   obtain ⟨i9,eC,eD⟩:=eB
   refine O8 _ eC<|T.N8 Li<|T.J8 λbV ih eE=>have cy:=A8.slc eE eD.u; Tp z z (SX.two (XA.fr [] Li z) (XA.fr [1,1] Li z)) (O.bq K7 A1d [.tmp 107] (VSl (VI .i64) 1) [[bn]] [eu] (hE:=(A8.cons ⟨bn,z,cy⟩ A8.nil)) λil bW=>?_) T.O4
   refine bE H λcA cB H=>Tp z z (SX.two (XA.fr [] Li z) (XA.fr [2,2] Li z)) (O.ax K7 A1d 2 bK.u bW cB VSl.plain λcC eG=>?_) T.O4
   refine T.fl ?_
   refine T.fs [1] ?_
   refine T.drop<|T.N8 Li<|TF z z z A2e<|T.Q7 0 z λeI eJ=>Tp z z (SX.one (XA.fr [] Lr z) z) (O.st (vs:=[cC]) (k:=9) S9 z z (j:=1) z eJ (by (simp only [BT,eI]) <;> rfl) ?_) T.O4
   refine T.fl ?_
   refine T.M9 (SX.one (XA.fr [] Lr z) z)<|Th<|T.fs [5,1] ?_
   refine T.dw (.vs [0,1,2,3] (.x 4 (.vs [5,6,7] (.alt 8 (.g (.alt 9 (.alt 10 (.g (.v 11 (.v 12 (.alt 13 .done .no)))) .no) .no)) .no)))) 10 2 0 ?_
   refine Tm z z<|Tm z z<|TF z z z A4G<|T.tx z z (Val.XA λ_ _ _=>V.ldO (k:=10) S9 z (j:=0) z z) z Calm.i<|Tm z z<|Tm z z<|Tv z (V.mkf z z)<|bE H λeK eM H=>Tp z z (X3 [] [1,1] z z) (O.G6 z (B5N (show A2D bV (.func (.func 50) #[] #[qp bi,qp M]) (λbU=>A9R bU af B) from ⟨⟨z,z⟩,.inr ⟨50,[],[qp bi,qp M],z,λeN ja jb jc eO eP=>C1Y y.u ⟨bc,av,az,bd,be,z,P.u,G.u,aY.u,bf.u,bg.u⟩ bS.u (show (VI .i64) eN [qi B] B from z) eO eP⟩⟩) eM _) z λbo jd je jf eS=>?_) T.O4
   obtain ⟨jg,eU,eV⟩:=eS
   refine O8 _ eU<|T.N8 Li<|T.J8 λcD ji eW=>have cE:=A8.slc eW eV.u; Tp z z (SX.two (XA.fr [] Li z) (XA.fr [1,1] Li z)) (O.bq K7 A1d [.tmp 120] (VSl (VI .i64) 1) [[bo]] [eK] (hE:=(A8.cons ⟨bo,z,cE⟩ A8.nil)) λjj bX=>?_) T.O4
   refine bE H λcG cI H=>Tp z z (SX.two (XA.fr [] Li z) (XA.fr [2,2] Li z)) (O.ax K7 A1d 2 bM.u bX cI VSl.plain λcJ eX=>?_) T.O4
   refine T.fl ?_
   refine T.fs [1] ?_
   refine T.drop<|T.N8 Li<|TF z z z A4G<|T.Q7 0 z λeY eZ=>Tp z z (SX.one (XA.fr [] Lr z) z) (O.st (vs:=[cJ]) (k:=10) S9 z z (j:=1) z eZ (by (simp only [BT,eY]) <;> rfl) ?_) T.O4
   refine T.fl ?_
   refine T.M9 (SX.one (XA.fr [] Lr z) z)<|Bn<|Th<|Sq<|Sr<|Vv (V.Q9 D6 z bS.u z)<|Nt<|Rg<|To (O.alloc J6 z z λe0=>To (O.stF (vs:=[qi B]) D6 z z (j:=0) z z z z<|T.fl ?_))
   refine Nt<|T.norm [1,7,8,9,10,11,40,41] z<|T.fl ?_
   refine Rg<|Vv (V.A4V D6 z (j:=0) z z)<|bE H λcK e1 H=>Ws z z e1<|To (O.stF (vs:=[qi cK]) D6 z z (j:=0) z z z z<|T.fl ?_)
   refine Nt<|T.fs [2,3,4,5,6,6] ?_
   exact T.ag (dz,ck,cp,cu,cA,cG,cK,cn,(U++[[qi S]]),cr,(W++[[qi bk]]),cx,(X++[[.bool bm]]),cC,(Y++[[bn]]),cJ,(Z++[[bo]]),e0) ⟨(D8 H cj),eb.u,ei.u,ep.u,eG.u,eX⟩
  refine Xt<|have H:=D5 H cj; Be<|Th<|have H:=H7 H dh; Bn<|Th<|Rg<|bE H λe2 e3 H=>Ws z z e3<|Mv z<|Nt<|T.fs [6] ?_
  refine T.drop<|T.ag (dS,aE,aG,aI,aJ,aK,e2,aM,U,aN,W,aO,X,aP,Y,aS,Z) ⟨(D8 H cg),bG,bI,bJ,bK,bM⟩
 refine Xt<|have H:=D5 H cg; Be<|Th<|have H:=H7 H dG; Sq<|Sm z<|NF z U2<|Vv (V.ldO (k:=6) D9 z (j:=0) z z)<|Vv (V.A2p A9 z (j:=1) z bj.len)<|Mv z<|Nt ?_
 obtain ⟨e4,e5,e6⟩:=J4 H
 have H:=e5
 refine Bl<|T.rn (VMp (Value.int .i64) false (VI .i64)) 112 1 λe7=>T.fs [6,6,6,6,6,6] ?_
 refine T.lk [1,7,131] (FUEL,([]:List (List (Int×Int))),(0:Int),(qs),[]) (λ⟨a1,a2,a3,m,q⟩=>([(132,qi a3)],blk bb (.cells [ax,ay,aA,aB,aC,aD,p,o,f,d,b,m,qs,qs].toArray 105)::F3 3 1 p J::F3 3 1 o I::F3 4 1 f A::F3 30 1 d w::F3 30 1 b s::F3 112 1 m q::L,λhh=>iter (B0Y dt dy ai aj ak am an) a1 (a2,a3)=some e4∧A8 (VMp (Value.int .i64) false (VI .i64)) hh q a2)) ⟨H,e7⟩ ?_
 rintro ⟨a1,a2,a3,m,q⟩ jn jo ⟨e8,bp⟩
 obtain ⟨e9,jp,rfl,H,cM⟩:=G5 e8
 refine T.norm [132,1,7,131] z<|T.fl ?_
 refine Sr<|Wl z z<|Nt<|Sq<|T.cH H z (λH=>?_) λH=>?_
 ·refine Ks<|Sq<|Bl<|Sm z<|An z<|T.fs [6,1,6,6,6,6,6] ?_
  refine T.dw (.vs [0,1,2,3] (.x 4 (.v 5 (.v 6 (.alt 7 (.g (.alt 8 (.alt 9 (.g (.v 10 (.v 11 (.alt 12 .done .no)))) .no) .no)) .no))))) 9 7 5 ?_
  refine Tm z z<|Tm z z<|TF z z z B2k<|T.tx z z (Val.XA λ_ _ _=>V.ldO (k:=11) B6o z (j:=5) z z) z Calm.i<|Tm z z<|Tm z z<|T.fs [6,5,5,5,5,5,6] ?_
  refine bE H λao eh H=>Tp z z (X3 [5,5,5,5,5] [6,1,6,6,6,6,6] z z) (O.G6 z (I7.B0u (R:=λv h' L'=>∃ L1_,L'=F3 3 1 p J::L1_∧(∃ L2_,L1_=F3 3 1 o I::L2_∧(∃ L3_,L2_=F3 4 1 f A::L3_∧(∃ L4_,L3_=F3 30 1 d w::L4_∧(∃ L5_,L4_=F3 30 1 b s::L5_∧(∃ L6_,L5_=F3 112 1 m q::L6_∧(∃ (c:Nat) (a:List MapEntry),v=.map (some c)∧L6_=blk c (.map a.toArray a.length)::L∧V7 (Value.int .i64) false (VI .i64) h' 0 a ao))))))) func52 z (λ_ _ _ _ ⟨a5_,b5_,⟨a4_,b4_,⟨a3_,b3_,⟨a2_,b2_,⟨a1_,b1_,⟨a0_,b0_,⟨e_0,e_1,v_,l_,f_0⟩⟩⟩⟩⟩⟩⟩=>⟨a5_,b5_,⟨a4_,b4_,⟨a3_,b3_,⟨a2_,b2_,⟨a1_,b1_,⟨a0_,b0_,⟨e_0,e_1,v_,l_,(V7.free VI.free f_0)⟩⟩⟩⟩⟩⟩⟩) C7l λjq jr el=>I7.B0u (R:=λv h' L'=>∃ L1_,L'=F3 3 1 o I::L1_∧(∃ L2_,L1_=F3 4 1 f A::L2_∧(∃ L3_,L2_=F3 30 1 d w::L3_∧(∃ L4_,L3_=F3 30 1 b s::L4_∧(∃ L5_,L4_=F3 112 1 m q::L5_∧(∃ (c:Nat) (a:List MapEntry),v=.map (some c)∧L5_=blk c (.map a.toArray a.length)::L∧V7 (Value.int .i64) false (VI .i64) h' 0 a ao)))))) func52 z (λ_ _ _ _ ⟨a4_,b4_,⟨a3_,b3_,⟨a2_,b2_,⟨a1_,b1_,⟨a0_,b0_,⟨e_0,e_1,v_,l_,f_0⟩⟩⟩⟩⟩⟩=>⟨a4_,b4_,⟨a3_,b3_,⟨a2_,b2_,⟨a1_,b1_,⟨a0_,b0_,⟨e_0,e_1,v_,l_,(V7.free VI.free f_0)⟩⟩⟩⟩⟩⟩) A1x λjs jt ev=>I7.B0u (R:=λv h' L'=>∃ L1_,L'=F3 4 1 f A::L1_∧(∃ L2_,L1_=F3 30 1 d w::L2_∧(∃ L3_,L2_=F3 30 1 b s::L3_∧(∃ L4_,L3_=F3 112 1 m q::L4_∧(∃ (c:Nat) (a:List MapEntry),v=.map (some c)∧L4_=blk c (.map a.toArray a.length)::L∧V7 (Value.int .i64) false (VI .i64) h' 0 a ao))))) func52 z (λ_ _ _ _ ⟨a3_,b3_,⟨a2_,b2_,⟨a1_,b1_,⟨a0_,b0_,⟨e_0,e_1,v_,l_,f_0⟩⟩⟩⟩⟩=>⟨a3_,b3_,⟨a2_,b2_,⟨a1_,b1_,⟨a0_,b0_,⟨e_0,e_1,v_,l_,(V7.free VI.free f_0)⟩⟩⟩⟩⟩) A1x λju jw ez=>I7.B0u (R:=λv h' L'=>∃ L1_,L'=F3 30 1 d w::L1_∧(∃ L2_,L1_=F3 30 1 b s::L2_∧(∃ L3_,L2_=F3 112 1 m q::L3_∧(∃ (c:Nat) (a:List MapEntry),v=.map (some c)∧L3_=blk c (.map a.toArray a.length)::L∧V7 (Value.int .i64) false (VI .i64) h' 0 a ao)))) func52 z (λ_ _ _ _ ⟨a2_,b2_,⟨a1_,b1_,⟨a0_,b0_,⟨e_0,e_1,v_,l_,f_0⟩⟩⟩⟩=>⟨a2_,b2_,⟨a1_,b1_,⟨a0_,b0_,⟨e_0,e_1,v_,l_,(V7.free VI.free f_0)⟩⟩⟩⟩) A1x λjx jy fb=>I7.B0u (R:=λv h' L'=>∃ L1_,L'=F3 30 1 b s::L1_∧(∃ L2_,L1_=F3 112 1 m q::L2_∧(∃ (c:Nat) (a:List MapEntry),v=.map (some c)∧L2_=blk c (.map a.toArray a.length)::L∧V7 (Value.int .i64) false (VI .i64) h' 0 a ao))) func52 z (λ_ _ _ _ ⟨a1_,b1_,⟨a0_,b0_,⟨e_0,e_1,v_,l_,f_0⟩⟩⟩=>⟨a1_,b1_,⟨a0_,b0_,⟨e_0,e_1,v_,l_,(V7.free VI.free f_0)⟩⟩⟩) A1x λjA jB fc=>I7.B0u (R:=λv h' L'=>∃ L1_,L'=F3 112 1 m q::L1_∧(∃ (c:Nat) (a:List MapEntry),v=.map (some c)∧L1_=blk c (.map a.toArray a.length)::L∧V7 (Value.int .i64) false (VI .i64) h' 0 a ao)) func52 z (λ_ _ _ _ ⟨a0_,b0_,⟨e_0,e_1,v_,l_,f_0⟩⟩=>⟨a0_,b0_,⟨e_0,e_1,v_,l_,(V7.free VI.free f_0)⟩⟩) A1x λjC jD fd=>I7.B0u (R:=λv h' L'=>∃ (c:Nat) (a:List MapEntry),v=.map (some c)∧L'=blk c (.map a.toArray a.length)::L∧V7 (Value.int .i64) false (VI .i64) h' 0 a ao) func52 z (λ_ _ _ _ ⟨e_0,e_1,v_,l_,f_0⟩=>⟨e_0,e_1,v_,l_,(V7.free VI.free f_0)⟩) A1x λjE jG fe=>?_) z λjI jJ jK jM ff=>?_) T.O4
  ·have fg:=A8.slc ev bj.u
   have fi:=A8.slc ez bx.u
   have fj:=A8.slc fb bA.u
   have fk:=A8.slc fc bB.u
   have fm:=A8.slc fd bC.u
   have fn:=A8.slc fe bp.u
   exact C1T (Pt.mk el.u ⟨ax,ay,aA,aB,aC,aD,p,o,f,d,b,m,(qs),(qs),z,cb.u,cc.u,cd.u,ce.u,cf.u,bw.u,fg.u,fi.u,fj.u,fk.u,fm.u,fn,G9.nil,G9.nil⟩) eh _
  obtain ⟨_,rfl,⟨_,rfl,⟨_,rfl,⟨_,rfl,⟨_,rfl,⟨_,rfl,⟨_,rfl,⟨bq,jN,rfl,rfl,fo⟩⟩⟩⟩⟩⟩⟩⟩:=ff
  refine T.fl ?_
  refine T.N8 Li<|T.fs [7] ?_
  refine T.C6d VI.mono fo λcN jO cO=>Tp z z (SX.two (XA.fr [5,5,5,5,5] Li z) (XA.fr [6,1,6,6,6,6,6] Li z)) (O.bq B6z B9l [.tmp 142] (VMp (Value.int .i64) false (VI .i64)) [[(.map (some bq))]] [ao] (hE:=(A8.cons ⟨(.map (some bq)),z,cO⟩ A8.nil)) λjP bY=>?_) T.O4
  refine bE H λcP cS H=>Tp z z (SX.two (XA.fr [6,6,6,6,6] Li z) (XA.fr [7,2,7,7,7,7,7] Li z)) (O.ax B6z B9l 7 bp.u bY cS VMp.plain λcU fp=>?_) T.O4
  refine T.fl ?_
  refine T.fs [1] ?_
  refine T.drop<|T.N8 Li<|TF z z z B2k<|T.Q7 0 z λfq fs=>Tp z z (SX.one (XA.fr [6,6,6,6,6] Lr z) z) (O.st (vs:=[cU]) (k:=11) B6o z z (j:=1) z fs (by (simp only [BT,fq]) <;> rfl) ?_) T.O4
  refine T.fl ?_
  refine T.M9 (SX.one (XA.fr [6,6,6,6,6] Lr z) z)<|Bn<|Th<|Rg<|bE H λft fu H=>Ws z z fu<|Mv z<|Nt<|T.fs [1,6,6,6,6,6,6] ?_
  exact T.ag (e9,cP,ft,cU,(q++[[(.map (some bq))]])) ⟨(D8 H cM),fp⟩
 refine Xt<|have H:=D5 H cM; Be<|Th<|have H:=H7 H e6; Sr<|Vv (V.fa Q3 z)<|Wd 1 M8 z y.u z<|Vv (V.fa A9C z)<|Wd 2 A1R z y.u z<|Vv (V.bld (xs:=[(0,.tmp 150),(1,.tmp 152)]) (cs:=[_,_]) B9g B9o z (F6.cons z (G9.cells G) z (F6.cons z (G9.cells aY) z F6.nil)))<|bE H λ⟨fw,jV,jW⟩ fx H=>To (O.G6 z (B5H ⟨av,az,z,G.u,aY.u⟩ fx _) z λjX cV jY jZ fy=>?_)
 obtain ⟨fA,rfl,fB,fC⟩:=fy
 refine O8 _ fB<|Mv z<|Wx z z<|Wx z z<|Wx z z<|Ag z<|Ag z<|An z<|Sq<|Sr<|Vv (V.fa Q3 z)<|Wd 1 M8 z y.u z<|Vv (V.P7 O3 z G)<|Mv z<|Nt ?_
 obtain ⟨fD,fE,fG⟩:=J4 H
 have H:=fE
 refine Bl<|T.rn (VSl VB 1) 100 1 λfI=>T.rn (VSl (VI .u8) 1) 122 1 λfJ=>T.fs [1,8,8,8,8,8,8,8] ?_
 refine T.lk [1,7,159,160] (FUEL,([]:List (List Bool)),([]:List (List Int)),fw,(0:Int),(qs),[],(qs),[],fA) (λ⟨a4,a5,a6,aU,a7,aa,C,ab,D,aV⟩=>([(13,aV),(161,qi a7)],blk bb (.cells [ax,ay,aA,aB,aC,aD,p,o,f,d,b,m,aa,ab].toArray 105)::F3 3 1 p J::F3 3 1 o I::F3 4 1 f A::F3 30 1 d w::F3 30 1 b s::F3 112 1 m q::F3 100 1 aa C::F3 122 1 ab D::L,λhh=>iter (B0v af) a4 (a5,a6,aU,a7)=some fD∧A8 (VSl VB 1) hh C a5∧A8 (VSl (VI .u8) 1) hh D a6∧OPt A1q hh aV aU)) ⟨H,fI,fJ,fC⟩ ?_
 rintro ⟨a4,a5,a6,aU,a7,aa,C,ab,D,aV⟩ j0 j1 ⟨fK,aW,aX,fM⟩
 obtain ⟨bZ,j2,rfl,H,br⟩:=G5 fK
 refine T.norm [13,161,1,7,159,160] z<|T.fl ?_
 refine Sr<|Wl z z<|Nt<|Sq<|T.cH H z (λH=>?_) λH=>?_
 ·refine Ks<|Sq<|Bl<|Sr<|bE H λac cW H=>?_
  obtain ⟨j3,fN,⟨fO,rfl,fP⟩⟩:=G9.at G cW
  refine Vv (V.ix O3 z z G (E8 cW))<|Vv (V.ldS z fN.u (by exact U7)) ?_
  refine To (O.alloc A1I z z λj4=>To (O.stF (vs:=[.string ac.F8,.string ac.A2b,.string ac.V6,qi ac.A0o,qi ac.A0y,.string ac.A0z,.bool ac.X7,.bool ac.Y4,fO]) U7 z z (j:=0) z z (by (simp only [BT,G9.one fP]) <;> rfl) z ?_))
  refine T.fl ?_
  refine T.freeze λcX j5 fS=>have cY:=Y2.of fS; Nt<|Sr<|An z<|Sr<|An z<|Sq<|Sr<|Vv (V.fa Q3 z)<|Wd 1 M8 z y.u z<|Vv (V.P7 O3 z G)<|Mv z<|Nt ?_
  obtain ⟨fU,fV,fW⟩:=J4 H
  have H:=fV
  refine Bl<|T.rn VB 4 1 λfX=>T.rn (VI .u8) 124 1 λfY=>T.fs [1,10,10,10,10,10,10,10,10,10] ?_
  refine T.lk [1,7,17,159,160,161,166,167] (FUEL,aU,(0:Int),([]:List Bool),([]:List Int),aV,(qs),[],(qs),[]) (λ⟨a8,ad,a9,aq,ae,N,r,ar,n,au⟩=>([(13,N),(168,qi a9),(18,r),(19,n)],blk bb (.cells [ax,ay,aA,aB,aC,aD,p,o,f,d,b,m,aa,ab].toArray 105)::F3 3 1 p J::F3 3 1 o I::F3 4 1 f A::F3 30 1 d w::F3 30 1 b s::F3 112 1 m q::F3 100 1 aa C::F3 122 1 ab D::F3 4 1 r ar::F3 124 1 n au::L,λhh=>iter (B0G af ac) a8 (ad,a9,aq,ae)=some fU∧OPt A1q hh N ad∧A8 VB hh ar aq∧A8 (VI .u8) hh au ae)) ⟨H,fM.u,fX,fY⟩ ?_
  rintro ⟨a8,ad,a9,aq,ae,N,r,ar,n,au⟩ j6 j7 ⟨fZ,bt,b0,b2⟩
  obtain ⟨f0,j8,rfl,H,cZ⟩:=G5 fZ
  refine T.norm [13,168,18,19,1,7,17,159,160,161,166,167] z<|T.fl ?_
  refine Sr<|Wl z z<|Nt<|Sq<|T.cH H z (λH=>?_) λH=>?_
  ·refine Ks<|Sq<|Bl<|Sr<|bE H λaw c0 H=>?_
   obtain ⟨j9,f1,⟨f2,rfl,f3⟩⟩:=G9.at G c0
   refine Vv (V.ix O3 z z G (E8 c0))<|Vv (V.ldS z f1.u (by exact U7)) ?_
   refine To (O.alloc A1I z z λjh=>To (O.stF (vs:=[.string aw.F8,.string aw.A2b,.string aw.V6,qi aw.A0o,qi aw.A0y,.string aw.A0z,.bool aw.X7,.bool aw.Y4,f2]) U7 z z (j:=0) z z (by (simp only [BT,G9.one f3]) <;> rfl) z ?_))
   refine T.fl ?_
   refine T.freeze λjl jv f4=>have c1:=Y2.of f4; Nt<|Sm z<|Mv z<|Vv (V.fa A0g z)<|Wd 0 J3 z cY.u z<|Vv (V.fa A0g z)<|Wd 0 J3 z c1 z<|bE H λf5 f6 H=>have b3:=OPt.get bt f6; bE H λc2 f7 H=>To (O.G6 z (C0K b3.u f7 _) z λjz f8 ka kb f9=>?_)
   obtain ⟨kc,fh,fv⟩:=f9
   refine O8 _ fh<|Vv (V.A2p Y1 z (j:=0) z fv.len)<|Wg z z<|To (O.b1 (E:=VB) A0b A5V z z z z z λkd b4=>bE H λc3 c4 H=>To (O.ax A0b A5V 11 b0.u b4 c4 VB.plain λfz ga=>T.fl ?_))
   refine T.fs [1] ?_
   refine T.drop<|An z<|Sm z<|Vv (V.fa A0g z)<|Wd 0 J3 z cY.u z<|Vv (V.fa A0g z)<|Wd 0 J3 z c1.u z<|bE H λ⟨c5,kg⟩ gb H=>To (O.cs (C4n b3.u gb _) λgc kk=>Mv z<|Wx z z<|Wx z z<|Ag z<|An z<|Rg<|Mv z<|Mv z<|To (O.b1 (E:=VI .u8) B2f B9m z z z z z λkm b5=>bE H λc6 c7 H=>To (O.ax B2f B9m 12 b2.u b5 c7 VI.plain λgf gg=>T.fl ?_)))
   refine T.fs [1] ?_
   refine T.drop<|Ag z<|Ni<|Bn<|Th<|T.norm [1,7,13,17,18,19,159,160,161,166,167,168] z<|T.fl ?_
   refine Rg<|bE H λgi gj H=>Ws z z gj<|Mv z<|Nt<|T.fs [2] ?_
   refine T.drop<|T.fs [1,10,10,10,10,10,10,10,10,10] ?_
   exact T.ag (f0,(some f5),gi,c3,c6,N,fz,(ar++[[.bool (decide ((0:Int)<(c2.length:Int)))]]),gf,(au++[[.int .u8 c5]])) ⟨(D8 H cZ),(OPt.some b3.u),ga.u,gg⟩
  refine Xt<|have H:=D5 H cZ; Be<|Th<|have H:=H7 H fW; T.fs [9] ?_
  refine T.J8 λkp kq gk=>have bu:=A8.slc gk b0.u; T.fs [9] ?_
  refine T.J8 λK kr gm=>have ah:=A8.slc gm b2.u; T.dw (.vs [0,1,2,3,4] (.x 5 (.vs [6,9,10,11] (.x 12 (.v 13 (.alt 7 (.alt 8 (.g (.alt 14 (.alt 15 (.g (.v 16 (.v 17 (.alt 18 (.g (.v 19 (.v 20 (.alt 21 .done .no)))) .no)))) .no) .no)) (.alt 14 (.alt 8 (.g (.alt 15 (.g (.v 16 (.v 17 (.alt 18 (.g (.v 19 (.v 20 (.alt 21 .done .no)))) .no)))) .no)) .no) .no)) (.alt 14 (.alt 7 (.alt 8 (.g (.alt 15 (.g (.v 16 (.v 17 (.alt 18 (.g (.v 19 (.v 20 (.alt 21 .done .no)))) .no)))) .no)) .no) .no) .no))))))) 18 1 0 ?_
  refine Tm z z<|Tm z z<|Tm z z<|TF z z z A6z<|T.tx z z (Val.XA λ_ _ _=>V.ldO (k:=12) B0m z (j:=0) z z) z Calm.i<|Tm z z<|Tm z z<|TF z z z A4L<|T.tx z z (Val.XA λ_ _ _=>V.ldO (k:=13) A7u z (j:=0) z z) z Calm.i<|Tm z z<|T.C3n ?_ ?_
  ·refine Tp z z (X3 [] [0] z z) (O.bq A5I A8F [.tmp 203] (VSl VB 1) [[r]] [aq] (hE:=(A8.cons ⟨r,z,bu.u⟩ A8.nil)) λks al=>?_) T.O4
   refine T.C3n ?_ ?_
   ·refine bE H λc8 c9 H=>Tp z z (X3 [] [1] z z) (O.ax A5I A8F 8 aW.u al c9 VSl.plain λch gn=>?_) T.O4
    refine T.fl ?_
    refine T.fs [1] ?_
    refine T.drop<|T.N8 Lr<|Tp z z (X3 [] [1] z z) (O.bq A2t A6a [.tmp 210] (VSl (VI .u8) 1) [[n]] [ae] (hE:=(A8.cons ⟨n,z,ah⟩ A8.nil)) λkw b6=>?_) T.O4
    refine bE H λcl cv H=>Tp z z (X3 [] [2] z z) (O.ax A2t A6a 9 aX.u b6 cv VSl.plain λcz go=>?_) T.O4
    refine T.fl ?_
    refine T.fs [1] ?_
    refine T.drop<|T.N8 Lr<|TF z z z A6z<|T.Q7 1 z λgp gq=>Tp z z (X3 [] [2] z z) (O.st (vs:=[ch]) (k:=12) B0m z z (j:=2) z gq (by (simp only [BT,gp]) <;> rfl) ?_) T.O4
    refine T.fl ?_
    refine T.N8 Lr<|TF z z z A4L<|T.Q7 1 z λgr gs=>Tp z z (SX.one (XA.fr [] Lr z) z) (O.st (vs:=[cz]) (k:=13) A7u z z (j:=0) z gs (by (simp only [BT,gr]) <;> rfl) ?_) T.O4
    refine T.fl ?_
    refine T.M9 (SX.one (XA.fr [] Lr z) z)<|Bn<|Th<|Rg<|bE H λgu gw H=>Ws z z gw<|Mv z<|Nt<|T.fs [1,2,8,8,8,8,8,8,8] ?_
    exact T.ag (bZ,c8,cl,ad,gu,ch,(C++[[r]]),cz,(D++[[n]]),N) ⟨(D8 H br),gn,go,bt.u⟩
   refine Tp z z (X3 [] [1] z z) (O.bq A2t A6a [.tmp 210] (VSl (VI .u8) 1) [[n]] [ae] (hE:=(A8.cons ⟨n,z,ah⟩ A8.nil)) λkA b7=>?_) T.O4
   refine bE H λda db H=>Tp z z (X3 [] [2] z z) (O.apX A5I A5I A8F z z z (j:=9) z (Src.row (j:=1) z) (A1J.of z) (A8.ones VSl.plain al) aW.u al db z λdc kB kC=>?_) T.O4
   have gx:A8 (VSl VB 1) K (C++[[r]]) da:=A8.ap aW.u al db
   refine T.fl ?_
   refine T.fs [2] ?_
   refine T.drop<|T.N8 Lr<|bE H λdd de H=>Tp z z (X3 [] [2] z z) (O.apX A2t A2t A6a z z z (j:=9) z (Src.row (j:=1) z) (A1J.of z) (A8.ones VSl.plain b7) aX.u b7 de z λdf kD kE=>?_) T.O4
   have gy:A8 (VSl (VI .u8) 1) K (D++[[n]]) dd:=A8.ap aX.u b7 de
   refine T.fl ?_
   refine T.fs [2] ?_
   refine T.drop<|T.N8 Lr<|TF z z z A6z<|T.Q7 1 z λgA gB=>Tp z z (X3 [] [2] z z) (O.st (vs:=[dc]) (k:=12) B0m z z (j:=2) z gB (by (simp only [BT,gA]) <;> rfl) ?_) T.O4
   refine T.fl ?_
   refine T.N8 Lr<|TF z z z A4L<|T.Q7 1 z λgC gD=>Tp z z (SX.one (XA.fr [] Lr z) z) (O.st (vs:=[df]) (k:=13) A7u z z (j:=0) z gD (by (simp only [BT,gC]) <;> rfl) ?_) T.O4
   refine T.fl ?_
   refine T.M9 (SX.one (XA.fr [] Lr z) z)<|Bn<|Th<|Rg<|bE H λgE gG H=>Ws z z gG<|Mv z<|Nt<|T.fs [1,2,8,8,8,8,8,8,8] ?_
   exact T.ag (bZ,da,dd,ad,gE,dc,(C++[[r]]),df,(D++[[n]]),N) ⟨(D8 H br),gx,gy,bt.u⟩
  refine Tp z z (X3 [] [0] z z) (O.bq A2t A6a [.tmp 210] (VSl (VI .u8) 1) [[n]] [ae] (hE:=(A8.cons ⟨n,z,ah⟩ A8.nil)) λkG b8=>?_) T.O4
  refine Tp z z (X3 [] [1] z z) (O.bq A5I A8F [.tmp 203] (VSl VB 1) [[r]] [aq] (hE:=(A8.cons ⟨r,z,bu.u⟩ A8.nil)) λkI b9=>?_) T.O4
  refine bE H λdg di H=>Tp z z (X3 [] [2] z z) (O.ax A5I A8F 9 aW.u b9 di VSl.plain λdj gI=>?_) T.O4
  refine T.fl ?_
  refine T.fs [1] ?_
  refine T.drop<|T.N8 Lr<|bE H λdk dm H=>Tp z z (X3 [] [2] z z) (O.apX A2t A2t A6a z z z (j:=9) z (Src.row (j:=1) z) (A1J.of z) (A8.ones VSl.plain b8) aX.u b8 dm z λdn kM kN=>?_) T.O4
  have gJ:A8 (VSl (VI .u8) 1) K (D++[[n]]) dk:=A8.ap aX.u b8 dm
  refine T.fl ?_
  refine T.fs [2] ?_
  refine T.drop<|T.N8 Lr<|TF z z z A6z<|T.Q7 1 z λgK gM=>Tp z z (X3 [] [2] z z) (O.st (vs:=[dj]) (k:=12) B0m z z (j:=2) z gM (by (simp only [BT,gK]) <;> rfl) ?_) T.O4
  refine T.fl ?_
  refine T.N8 Lr<|TF z z z A4L<|T.Q7 1 z λgN gO=>Tp z z (SX.one (XA.fr [] Lr z) z) (O.st (vs:=[dn]) (k:=13) A7u z z (j:=0) z gO (by (simp only [BT,gN]) <;> rfl) ?_) T.O4
  refine T.fl ?_
  refine T.M9 (SX.one (XA.fr [] Lr z) z)<|Bn<|Th<|Rg<|bE H λgP gS H=>Ws z z gS<|Mv z<|Nt<|T.fs [1,2,8,8,8,8,8,8,8] ?_
  exact T.ag (bZ,dg,dk,ad,gP,dj,(C++[[r]]),dn,(D++[[n]]),N) ⟨(D8 H br),gI,gJ,bt.u⟩
 refine Xt<|have H:=D5 H br; Be<|Th<|have H:=H7 H fG; Sm z<|Ag z<|Ag z<|Ag z<|Nr<|T.fs [1] ?_
 refine T.J8 λkO kP gU=>have gV:=A8.slc gU bj.u; T.fs [1] ?_
 refine T.J8 λkS kU gW=>have gX:=A8.slc gW bx.u; T.fs [1] ?_
 refine T.J8 λkV kW gY=>have gZ:=A8.slc gY bA.u; T.fs [1] ?_
 refine T.J8 λkX kY g0=>have g1:=A8.slc g0 bB.u; T.fs [1] ?_
 refine T.J8 λkZ k0 g2=>have g3:=A8.slc g2 bC.u; T.fs [1] ?_
 refine T.J8 λk1 k2 g4=>have g5:=A8.slc g4 bp.u; T.fs [1] ?_
 refine T.J8 λk3 k4 g6=>have g7:=A8.slc g6 aW.u; Fr_ 1 z<|T.J8 λk5 k6 g8=>have g9:=A8.slc g8 aX.u; T.C0E λk7 k8 gh=>?_
 cases H
 exact T.rl z (RVs.cons (RV.tmp z) (RVs.cons (RV.tmp z) (Rv z))) ⟨_,z,z,(OPt.some (Pt.mk gh ⟨ax,ay,aA,aB,aC,aD,p,o,f,d,b,m,aa,ab,z,cb.u,cc.u,cd.u,ce.u,cf.u,bw.u,gV.u,gX.u,gZ.u,g1.u,g3.u,g5.u,g7.u,g9.u⟩))⟩
theorem B8m {h b c a} (d:Pt V3 h b c) (H:A8v c=some a):∀ L,I7 prog 119 [b] h (L) (λv h' L'=>∃ v0_1 v0_3 v0_5 v0_7 v0_9,v=.agg #[v0_1,v0_3,v0_5,v0_7,v0_9]∧L'=L∧G9 I1 7 h' v0_1 a.C8∧G9 I9 9 h' v0_3 a.A7∧G9 L9 3 h' v0_5 a.N7∧G9 (VI .i64) 1 h' v0_7 a.R7∧G9 I4 6 h' v0_9 a.J9):=by
 intro L
 refine I7.enter func119 z z z<|Sr<|To (O.alloc A6Y z z λU=>Nt<|Sq<|Sm z<|bE H λW n H=>To (O.cs (B5E d n _) λY aa=>Nt<|T.cH H z (λH=>?_) λH=>?_))
 ·refine Sr<|Vv (V.bld (xs:=[]) (cs:=[_,_,_,_,_]) C4N C5O z F6.nil)<|To (O.stF (vs:=[qs,qs,qs,qs,qs]) J7 z z (j:=0) z z z z<|Nr<|Tr ?_)
  cases H
  exact T.B0p (L':=L) results119 (RVs.cons (RV.cellS z (j:=0) z J7) RVs.nil) Li (λ_ iv=>iv.drop) ⟨_,_,_,_,_,z,z,G9.nil,G9.nil,G9.nil,G9.nil,G9.nil⟩
 refine Ks<|Sm z<|have q:=d; ?_
 obtain ⟨ab,_,rfl,r,⟨s,t,w,x,y,ac,ad,ae,af,ag,ai,aj,ak,am,rfl,A,B,C,D,E,an,ao,ap,aq,ar,au,aw,ax,ay⟩⟩:=q
 refine NF z L8<|Vv (V.C8Y (k:=0) B1J z r.u (Nat.le_of_ble_eq_true z))<|bE H λaA G H=>To (O.G6 z (B4i ⟨s,t,w,x,y,z,A.u,B.u,C.u,D.u,E.u⟩ G _) z λaB aC aD aE I=>?_)
 obtain ⟨J,K,M,N,P,rfl,S,e,f,g,i,m⟩:=I
 refine O8 _ S<|To (O.stF (vs:=[J,K,M,N,P]) J7 z z (j:=0) z z (by (simp only [BT,G9.one e,G9.one f,G9.one g,G9.one i,G9.one m]) <;> rfl) z ?_)
 refine Nr ?_
 cases H
 exact T.B0p (L':=L) results119 (RVs.cons (RV.cellS z (j:=0) z J7) RVs.nil) Li (λ_ iv=>iv.drop) ⟨_,_,_,_,_,z,z,e,f,g,i,m⟩
theorem A8n {h y o g p A} (r:Pt V3 h y o) (e:G9 (VI .i64) 1 h g p) (H:A5S o p=some A):∀ L,I7 prog 61 [y,g] h (L) (λv h' L'=>L'=L∧OPt M4 h' v A):=by
 intro L
 refine I7.enter func61 z z z<|Sr<|An z<|Sq<|Sq ?_
 obtain ⟨N,P,S⟩:=J4 H
 refine T.ck (α:=Bool) [0,1] (λi=>([(20,.bool i)],L,λhh=>N=i)) ?_ ?_
 ·have H:=P
  refine Rg<|Mv z<|bE H λbi U H=>To (O.cs (B5E r U _) λbk bn=>Mv z<|T.bH 10 H z (λH=>?_) λH=>?_)
  ·refine S2<|S2<|S2<|S2<|Sk<|Kt z<|Nt<|T.mt true (K9 H)
  refine Mv z<|Vv (V.P7 A9 z e)<|Mv z<|have Y:=r; ?_
  obtain ⟨bo,_,rfl,Z,⟨bp,bq,br,bs,bt,bu,bw,bx,bA,bB,bC,bD,bG,bI,rfl,bJ,aa,bK,bM,bN,bO,bP,bS,bU,bV,bW,bX,bY,bZ⟩⟩:=Y
  refine NF z L8<|Vv (V.fa A0J z)<|Wd 1 M8 z Z.u z<|Vv (V.P7 O3 z aa)<|Wn z z<|Kf z<|Nt<|T.mt (!decide ((p.length:Int)=(o.O9.A7.length:Int))) (K9 H)
 rintro i b0 b2 ab
 have H:=H7 ab S
 refine T.norm [20,0,1] z<|T.fl ?_
 refine T.cH H z (λH=>?_) λH=>?_
 ·refine Sg z<|Nr<|Tr ?_
  cases H
  exact T.rl z (Rv z) ⟨z,OPt.nil⟩
 refine Ks<|Sm z<|Mv z<|To (O.b1 (E:=VI .i64) A9 J6 z z z z z λb3 ac=>Mv z<|have ad:=r; ?_)
 obtain ⟨s,_,rfl,t,⟨ae,af,ai,aj,ak,am,an,ao,ap,aq,ar,au,aw,ax,rfl,ay,aA,aB,aC,aD,aE,w,aG,aI,aJ,aK,aM,aN,aO⟩⟩:=ad
 refine NL z U2 D9 t.u z<|Vv (V.P7 A9 z w)<|T.J8 λb4 b5 aP=>have aS:=A8.slc aP ac.u; bE H λaU aV H=>To (O.G6 z (A9h aS aV _) z λm b6 b7 b8 aW=>?_)
 obtain ⟨aX,aY,aZ⟩:=aW
 refine O8 _ aY<|T.Q7 0 z λb9 a0=>Vv (V.bld (xs:=[(0,.tmp 21),(1,.tmp 22),(2,.tmp 29)]) (cs:=[_,_,_]) C5A C4U z (F6.cons z z z (F6.cons z (G9.cells e) z (F6.cons z a0 z F6.nil))))<|To (O.box z z z λB=>An z<|Sq<|Sm z<|Vv (V.P7 A9 z e)<|Mv z<|Nt ?_)
 obtain ⟨a1,a2,C⟩:=J4 H
 have H:=a2
 refine Bl<|T.lk [0,5,32,33] (FUEL,aU,(0:Int),aX) (λ⟨f,d,a,b⟩=>([(34,qi a)],blk B (.cells [.pointer (some s),g,m].toArray 134)::F3 3 1 m b::L,λhh=>iter (A7G o p) f (d,a)=some a1∧A8 (VI .i64) hh b d)) ⟨H,aZ⟩ ?_
 rintro ⟨f,d,a,b⟩ bh bl ⟨a3,c⟩
 obtain ⟨D,bv,rfl,H,q⟩:=G5 a3
 refine T.norm [34,0,5,32,33] z<|T.fl ?_
 refine Sr<|Wl z z<|Nt<|Sq<|T.cH H z (λH=>?_) λH=>?_
 ·refine Ks<|Sq<|Bl<|Sm z<|bE H λG I H=>?_
  obtain ⟨bz,a4,rfl⟩:=G9.at e I
  refine Vv (V.ix A9 z z e (E8 I))<|Vv (V.Q9 D6 z a4.u z)<|Ag z<|An z<|Sq<|Sq ?_
  obtain ⟨a5,a6,a7⟩:=J4 H
  refine T.ck (α:=Bool) [0,5,6,7,32,33,34] (λn=>([(63,.bool n)],blk B (.cells [.pointer (some s),g,m].toArray 134)::F3 3 1 m b::L,λhh=>a5=n)) ?_ ?_
  ·have H:=a6
   refine Rg<|Mv z<|Wl z z<|Mv z<|T.bH 41 H z (λH=>?_) λH=>?_
   ·refine S2<|S2<|S2<|Sk<|Kt z<|Mv z<|S2<|S2<|S2<|S2<|S2<|S2<|Kt z<|Nt<|T.mt true (K9 H)
   refine Mv z<|Mv z<|NL z U2 D9 t.u z<|Vv (V.P7 A9 z w)<|Vv (V.ge z z)<|Kf z<|Mv z<|T.bH 50 H z (λH=>?_) λH=>?_
   ·refine S2<|S2<|S2<|S2<|S2<|S2<|Kt z<|Nt<|T.mt true (K9 H)
   refine Mv z<|Vv (V.ge z z)<|Mv z<|T.bH 53 H z (λH=>?_) λH=>?_
   ·refine Mv z<|NF z B1Y<|Vv (V.ldO (k:=2) D9 z (j:=0) z z)<|Mv z<|bE H λa8 J H=>?_
    obtain ⟨ca,a9,rfl⟩:=A8.get c J
    refine Vv (V.ixR A9 z z (j:=1) z (A8.bd c J))<|Vv (V.ldR D6 z (j:=1) z a9 z)<|Vv (V.ge z z)<|Kt z<|Kf z<|Nt<|T.mt (decide ((0:Int)≤a8)) (K9 H)
   refine S2<|S2<|S2<|S2<|Kf z<|Kf z<|Nt<|T.mt false (K9 H)
  rintro n K cb ah
  have H:=H7 ah a7
  refine T.norm [63,0,5,6,7,32,33,34] z<|T.fl ?_
  refine T.cH H z (λH=>?_) λH=>?_
  ·refine Sg z<|Nr<|Tr<|Br<|Tr<|Tr<|have H:=D5 H q; Br<|Tr<|have H:=H7 H C; T.drop<|T.drop ?_
   cases H
   exact T.rl z (Rv z) ⟨z,OPt.nil⟩
  refine Ks<|Sm z<|Vv (V.ge z z)<|Nt<|T.cH H z (λH=>?_) λH=>?_
  ·refine Rg<|Mv z<|NF z B1Y<|Vv (V.ldO (k:=2) D9 z (j:=0) z z)<|Mv z<|Mv z<|bE H λcc x H=>?_
   obtain ⟨cd,ce,rfl⟩:=A8.get c x
   refine Vv (V.ixR A9 z z (j:=1) z (A8.bd c x))<|bE H λM al H=>To (O.stR D6 z z (j:=1) z (A8.bdN c x) z<|have av:A8 (VI .i64) K (b.set G.toNat [qi a]) M:=A8.set c.u (show (VI .i64) K [qi a] a from z) al; Ni<|Bn<|Th<|Rg<|bE H λaz ba H=>Ws z z ba<|Mv z<|Nt<|Fr_ 1 z<|T.ag (D,M,az,(b.set G.toNat [qi a])) ⟨(D8 H q),av⟩)
  refine T.skip<|Bn<|Th<|Rg<|bE H λbb bc H=>Ws z z bc<|Mv z<|Nt<|T.ag (D,d,bb,b) ⟨(D8 H q),c.u⟩
 refine Xt<|have H:=D5 H q; Be<|Th<|have H:=H7 H C; Sm z<|Ag z<|Nr<|Fr_ 1 z<|T.J8 λcf cg be=>have bf:=A8.slc be c.u; T.C0E λci cj bg=>?_
 cases H
 exact T.rl z (Rv z) ⟨z,(OPt.some (Pt.mk bg ⟨(.pointer (some s)),g,m,z,(Pt.mk t.u ⟨ae,af,ai,aj,ak,am,an,ao,ap,aq,ar,au,aw,ax,z,ay.u,aA.u,aB.u,aC.u,aD.u,aE.u,w.u,aG.u,aI.u,aJ.u,aK.u,aM.u,aN.u,aO.u⟩),e.u,bf.u⟩))⟩
theorem C1i {h a b c d e f} (n:Pt V3 h a b) (o:G9 (VI .i64) 1 h c d) (H:B8V b d e=some f):∀ L,FnW prog 133 [a,c,.int .i64 e] h L (.int .i64 f):=by
 intro L
 refine I7.enter func133 z z z<|Sr<|An z<|Sm z<|Mv z<|bE H λau p H=>To (O.G6 z (A8n n o p _) z λaw ax ay aA q=>?_)
 obtain ⟨r,g⟩:=q
 refine O8 _ r<|An z<|Sq<|Sm z<|Vv (V.C9x underlying131 z g)<|Mv z<|T.bH 13 H z dead λH=>Mv z<|Wl z z<|Kf z<|Mv z<|T.bH 17 H z dead λH=>Mv z<|Mv z<|bE H λaB s H=>have t:=OPt.get g s; have u:=t; ?_
 obtain ⟨aC,_,rfl,i,⟨aD,w,x,rfl,y,A,B⟩⟩:=u
 refine NL z G8 I6 i z<|have C:=y; ?_
 obtain ⟨D,_,rfl,j,⟨E,G,I,J,K,M,N,P,S,U,W,X,Y,Z,rfl,aa,ab,ac,ad,m,ae,af,ag,ai,aj,ak,am,an,ao⟩⟩:=C
 exact NF z L8<|Vv (V.fa A3p z)<|Wd 4 A1h z j z<|Vv (V.P7 A0f z m)<|Vv (V.ge z z)<|Kf z<|Nt<|T.cH H z dead λH=>Ks<|Sm z<|Mv z<|bE H λaE ap H=>To (O.cs (B5d (Pt.mk i ⟨(.pointer (some D)),w,x,z,(Pt.mk j ⟨E,G,I,J,K,M,N,P,S,U,W,X,Y,Z,z,aa,ab,ac,ad,m,ae,af,ag,ai,aj,ak,am,an,ao⟩),A,B⟩) ap _) λaI aK=>Ag z<|Nr<|E1 H)
theorem C4q {h m n o p q f r} (C:Pt V3 h m n) (D:G9 (VI .i64) 1 h o p) (E:B2X h q f) (H:C3g n p f=some r):∀ L,FnW prog 85 [m,o,q] h L (.int .i64 r):=by
 intro L
 refine I7.enter func85 z z z<|Sr<|An z<|Sm z<|Mv z<|bE H λa8 G H=>To (O.G6 z (A8n C D G _) z λa9 ah al av I=>?_)
 obtain ⟨J,s⟩:=I
 refine O8 _ J<|An z<|Sq<|Sm z<|Vv (V.C9x underlying131 z s)<|Nt<|T.cH H z (λH=>?_) λH=>?_
 ·exact Sg z<|Nr<|Tr<|E1 H
 refine Ks<|Sr<|An z<|Sq<|Sm z<|bE H λK M H=>have N:=OPt.get s M; have P:=N; ?_
 obtain ⟨az,_,rfl,w,⟨ba,S,U,rfl,W,X,Y⟩⟩:=P
 refine NL z G8 I6 w z<|have Z:=W; ?_
 obtain ⟨aa,_,rfl,x,⟨ab,ac,ad,ae,af,ai,aj,ak,am,an,ao,ap,aq,ar,rfl,au,aw,ax,ay,e,aA,aB,aC,aD,aE,aG,aI,aJ,aK⟩⟩:=Z
 refine NF z L8<|Vv (V.fa A3p z)<|Wd 4 A1h z x z<|Vv (V.P7 A0f z e)<|Mv z<|Nt ?_
 obtain ⟨aM,aN,aO⟩:=J4 H
 have H:=aN
 refine Bl<|T.lk [2,7,23,24] (FUEL,(0:Int),(0:Int)) (λ⟨b,c,a⟩=>([(25,qi c),(8,qi a)],L,λhh=>iter (B7i f K) b (c,a)=some aM)) H ?_
 rintro ⟨b,c,a⟩ bb bc aP
 obtain ⟨y,bd,rfl,H,i⟩:=G5 aP
 refine T.norm [25,8,2,7,23,24] z<|T.fl ?_
 refine Sr<|Wl z z<|Nt<|Sq<|T.cH H z (λH=>?_) λH=>?_
 ·refine Ks<|Sq<|Bl<|Sm z<|bE H λd A H=>?_
  obtain ⟨be,aS,rfl⟩:=G9.at e A
  refine Vv (V.ix A0f z z e (E8 A))<|Vv (V.ldS z aS.u (by exact K3)) ?_
  refine To (O.alloc A2H z z λbf=>Ag z<|To (O.stF (vs:=[.int .u8 d.F9,qi d.K6,.string d.fA,.string d.fB,.string d.I5,qi d.fN]) K3 z z (j:=0) z z z z<|T.freeze λaU bg aV=>have B:=Y2.of aV; Nt<|Sr<|Vv (V.fa A4d z)<|Wd 1 D6 z B z<|Wg z z<|Nt<|T.cH H z (λH=>?_) λH=>?_))
  ·refine T.dw (.vs [0,1,2,3,4,5] (.alt 6 (.g (.v 7 (.v 8 (.alt 9 .done .no)))) .no)) 11 0 0 ?_
   refine Tm z z<|Tv z (V.fa A4d z)<|Td z 1 D6 z B z<|Tm z z<|Tm z z<|Tm z z<|bE H λbi aW H=>?_
   obtain ⟨bj,bk,bm,aX,aY⟩:=B2X.call (E.u (g:=aU)) (Pt.mk w.u ⟨(.pointer (some aa)),S,U,rfl,(Pt.mk x.u ⟨ab,ac,ad,ae,af,ai,aj,ak,am,an,ao,ap,aq,ar,rfl,au.u,aw.u,ax.u,ay.u,e.u,aA.u,aB.u,aC.u,aD.u,aE.u,aG.u,aI.u,aJ.u,aK.u⟩),X.u,Y.u⟩) aW
   refine Tp z z (X2 z z) (O.A1b z aX z (aY _) z λbn bo bp bq aZ=>?_) T.O4
   obtain ⟨rfl,a0⟩:=aZ
   refine O8 _ a0<|T.N8 Li<|bE H λbr a1 H=>Tv z (V.A9y z z a1)<|bE H λa2 a3 H=>Tv z (V.C6P z z a3)<|Ts z z (X2 z z) (V.asg z) z ?_ T.O4
   refine T.M9 (X2 z z)<|Bn<|Th<|Rg<|bE H λa4 a5 H=>Ws z z a5<|Mv z<|Nt<|T.ag (y,a4,a2) (D8 H i)
  refine T.skip<|Bn<|Th<|Rg<|bE H λa6 a7 H=>Ws z z a7<|Mv z<|Nt<|T.ag (y,a6,a) (D8 H i)
 exact Xt<|have H:=D5 H i; Be<|Th<|have H:=H7 H aO; Sm z<|Ag z<|Nr<|E1 H
theorem C1X {h f g i m n o} (x:Pt V3 h f g) (y:G9 (VI .i64) 1 h i m) (H:B2I g m=some (n,o)):∀ L,FnW prog 130 [f,i] h L (.tuple #[.int .i64 n,.bool o]):=by
 intro L
 refine I7.enter func130 z z z<|Sg z<|An z<|Sm z<|Mv z<|bE H λaX A H=>To (O.G6 z (A8n x y A _) z λaY aZ a0 a1 B=>?_)
 obtain ⟨C,p⟩:=B
 refine O8 _ C<|An z<|Sq<|Sm z<|Vv (V.C9x underlying131 z p)<|Nt<|T.cH H z (λH=>?_) λH=>?_
 ·exact Sg z<|Ag z<|Nr<|Tr<|E1 H
 refine Ks<|Sq<|Sm z<|bE H λD E H=>have G:=OPt.get p E; have I:=G; ?_
 obtain ⟨a2,_,rfl,q,⟨a3,J,K,rfl,M,N,P⟩⟩:=I
 refine NL z G8 I6 q z<|have S:=M; ?_
 obtain ⟨U,_,rfl,r,⟨W,X,Y,Z,aa,ab,ac,ad,ae,af,ai,aj,ak,am,rfl,an,ao,ap,aq,d,ar,au,aw,ax,ay,aA,aB,aC,aD⟩⟩:=S
 refine NF z L8<|Vv (V.fa A3p z)<|Wd 4 A1h z r z<|Vv (V.P7 A0f z d)<|Mv z<|Nt ?_
 obtain ⟨aE,aG,s⟩:=J4 H
 have H:=aG
 refine Bl<|T.lk [6,21,22] (FUEL,(0:Int)) (λ⟨a,b⟩=>([(23,qi b)],L,λhh=>iter (A5g D) a b=some aE)) H ?_
 rintro ⟨a,b⟩ a4 a5 aI
 obtain ⟨t,a6,rfl,H,e⟩:=G5 aI
 refine T.norm [23,6,21,22] z<|T.fl ?_
 refine Sr<|Wl z z<|Nt<|Sq<|T.cH H z (λH=>?_) λH=>?_
 ·refine Ks<|Sq<|Bl<|Sm z<|bE H λc w H=>?_
  obtain ⟨a7,aJ,rfl⟩:=G9.at d w
  refine Vv (V.ix A0f z z d (E8 w))<|Vv (V.ldS z aJ.u (by exact K3)) ?_
  refine To (O.alloc A2H z z λa8=>Ag z<|To (O.stF (vs:=[.int .u8 c.F9,qi c.K6,.string c.fA,.string c.fB,.string c.I5,qi c.fN]) K3 z z (j:=0) z z z z<|T.freeze λa9 ah aK=>have aM:=Y2.of aK; Nt<|Sr<|Vv (V.fa A4d z)<|Wd 1 D6 z aM z<|We z z<|Mv z<|T.bH 31 H z (λH=>?_) λH=>?_))
  ·refine Mv z<|Mv z<|bE H λal aN H=>To (O.cs (B5d (Pt.mk q.u ⟨(.pointer (some U)),J,K,z,(Pt.mk r.u ⟨W,X,Y,Z,aa,ab,ac,ad,ae,af,ai,aj,ak,am,z,an.u,ao.u,ap.u,aq.u,d.u,ar.u,au.u,aw.u,ax.u,ay.u,aA.u,aB.u,aC.u,aD.u⟩),N.u,P.u⟩) aN _) λaz bb=>Wg z z<|Kt z<|Nt<|T.cH H z (λH=>?_) λH=>?_)
   ·exact Sm z<|Ag z<|Ag z<|Nr<|Br<|Tr<|Tr<|have H:=D5 H e; Br<|Tr<|have H:=H7 H s; E1 H
   refine T.skip<|Bn<|Th<|Rg<|bE H λaS aU H=>Ws z z aU<|Mv z<|Nt<|T.ag (t,aS) (D8 H e)
  refine S2<|S2<|Kf z<|Nt<|Cf z<|T.skip<|Bn<|Th<|Rg<|bE H λaV aW H=>Ws z z aW<|Mv z<|Nt<|T.ag (t,aV) (D8 H e)
 exact Xt<|have H:=D5 H e; Be<|Th<|have H:=H7 H s; Sg z<|Ag z<|Nr<|E1 H
theorem B5z {h a b c d e} (f:Pt V3 h a b) (g:G9 (VI .i64) 1 h c d) (H:B6E b d=some e):∀ L,FnW prog 40 [a,c] h L (.int .i64 e):=by
 intro L
 exact I7.enter func40 z z z<|Sr<|An z<|Sm z<|Mv z<|bE H λp i H=>To (O.cs (C4q f g (show B2X h (.func (.func 62) #[] #[]) A4q from ⟨⟨z,z⟩,.inr ⟨62,[],[],z,λq r s t j u w k m=>B0f j k m⟩⟩) i _) λy B=>Ag z<|Nr<|E1 H)
theorem B7P {h b c d e f g i j k} (m:Y2 h d e) (q:(VSl (VI .i64) 1) h e f) (n:Y2 h g i) (r:(VI .i64) h i j) (H:A5m b c f j=some k):∀ L,FnW prog 249 [.int .i64 b,.int .i64 c,.pointer (some d),.pointer (some g)] h L (.int .i64 k):=by
 intro L
 obtain ⟨A,rfl,a⟩:=q
 obtain rfl:=r
 refine I7.enter func249 z z z<|Sr<|An z<|Sq<|T.dw (.vs [0,1,2,3,4,5,6,7,8,9,10,11,12] (.alt 13 .done .no)) 15 0 0 ?_
 refine Tv z (V.Q9 D9 z m z)<|Tm z z<|Tv z (V.Q9 D6 z n z)<|bE H λB s H=>Tv z (V.X9 z z s)<|bE H λC o H=>?_
 obtain ⟨D,u,rfl⟩:=G9.at a o
 refine Tv z (V.ix A9 z z a (E8 o))<|Tv z (V.Q9 D6 z u z)<|Tv z (V.Q9 D9 z m z)<|Tm z z<|Tv z (V.Q9 D6 z n z)<|bE H λE w H=>Tv z (V.X9 z z w)<|bE H λG p H=>?_
 obtain ⟨I,x,rfl⟩:=G9.at a p
 refine Tv z (V.ix A9 z z a (E8 p))<|Tv z (V.Q9 D6 z x z)<|bE H λJ y H=>Tv z (V.X9 z z y)<|Ts z z (X2 z z) (V.asg z) z ?_ T.O4
 exact T.M9 (X2 z z)<|Th<|T.ret<|E1 H
theorem B3R {h s t w x} (e:G9 I1 7 h s t) (H:A8w t w=some x):∀ L,I7 prog 234 [s,.int .i64 w] h (L) (λv h' L'=>∃ y,L'=F3 3 1 v y::L∧A8 (VI .i64) h' y x):=by
 intro L
 refine I7.enter func234 z z z<|Sr<|An z<|Sq<|Sq ?_
 obtain ⟨P,S,U⟩:=J4 H
 refine T.ck (α:=Bool) [0,1] (λf=>([(21,.bool f)],L,λhh=>P=f)) ?_ ?_
 ·have H:=S
  refine Rg<|Mv z<|Wl z z<|Mv z<|T.bH 11 H z (λH=>?_) λH=>?_
  ·refine S2<|S2<|Kt z<|Mv z<|S2<|Sk<|Kt z<|Nt<|T.mt true (K9 H)
  refine Mv z<|Mv z<|Vv (V.P7 O1 z e)<|Vv (V.ge z z)<|Kf z<|Mv z<|T.bH 17 H z (λH=>?_) λH=>?_
  ·refine S2<|Sk<|Kt z<|Nt<|T.mt true (K9 H)
  refine Mv z<|bE H λW X H=>To (O.G6 z (A5x e X _) z λaW aX aY aZ Y=>?_)
  obtain ⟨rfl,Z⟩:=Y
  refine O8 _ Z<|Vv (V.not z)<|Kf z<|Nt<|T.mt (!W) (K9 H)
 rintro f aa a0 ab
 have H:=H7 ab U
 refine T.norm [21,0,1] z<|T.fl ?_
 refine T.cH H z (λH=>?_) λH=>?_
 ·refine Sg z<|Nr<|Tr<|T.rn (VI .i64) 3 1 λac=>?_
  cases H
  exact T.rl z (Rv z) ⟨_,z,ac⟩
 refine Ks<|Sm z<|Mv z<|bE H λa1 A H=>?_
 obtain ⟨a2,ad,⟨ae,rfl,af⟩⟩:=G9.at e A
 refine Vv (V.ix O1 z z e (E8 A))<|Vv (V.ldS z ad.u (by exact I8)) ?_
 refine bE H λn ai H=>To (O.G6 z (B4n ⟨ae,z,af.u⟩ ai _) z λo a3 a4 a5 aj=>?_)
 obtain ⟨a6,ak,am⟩:=aj
 refine O8 _ ak<|To (O.alloc A1d z z λB=>Fr_ 1 z<|T.J8 λa7 a8 an=>have k:=A8.slc an am.u; To (O.stF (vs:=[o]) D9 z z (j:=0) z (G9.cells k) (by (simp only [BT,G9.one k]) <;> rfl) z ?_))
 refine T.freeze λa9 ah ao=>have C:=Y2.of ao; Nt<|Sm z<|Mv z<|bE H λg ap H=>To (O.cs (A5l e.u ap _) λav ba=>To (O.alloc J6 z z λD=>To (O.stF (vs:=[qi g]) D6 z z (j:=0) z z z z<|T.freeze λau bb aw=>have E:=Y2.of aw; Nt<|Sr<|Vv (V.Q9 D9 z C.u z)<|Vv (V.P7 A9 z k)<|bE H λp G H=>To (O.mkX A9 J6 z z z z G z λI bc be=>have J:A8 (VI .i64) au _ p:=A8.rep z G; An z<|Sq<|Sm z<|Vv (V.A2p A9 z (j:=0) z J.len)<|Mv z<|Nt ?_))))
 obtain ⟨ax,ay,aA⟩:=J4 H
 have H:=ay
 refine Bl<|T.lk [5,6,34] (FUEL,(0:Int),p,(List.replicate (n.length:Int).toNat [qi 0])) (λ⟨c,a,d,b⟩=>([(35,qi a),(7,I)],F3 3 1 I b::L,λhh=>iter (A6r g p) c (a,d)=some ax∧A8 (VI .i64) hh b d)) ⟨H,J⟩ ?_
 rintro ⟨c,a,d,b⟩ q bf ⟨aB,i⟩
 obtain ⟨aC,bg,rfl,H,K⟩:=G5 aB
 refine T.norm [35,7,5,6,34] z<|T.fl ?_
 refine Sr<|Wl z z<|Nt<|Sq<|T.cH H z (λH=>?_) λH=>?_
 ·refine Ks<|Sq<|Bl<|Sm z<|An z<|Rg<|Mv z<|Mv z<|Vv (V.Q9 D6 z E.u z)<|Mv z<|bE H λm aD H=>Ws z z aD<|bE H λbi r H=>?_
  obtain ⟨bj,bk,rfl⟩:=A8.get i r
  refine Vv (V.ixR A9 z z (j:=0) z (A8.bd i r))<|bE H λM aE H=>To (O.stR D6 z z (j:=0) z (A8.bdN i r) z<|have aG:A8 (VI .i64) q (b.set a.toNat [qi m]) M:=A8.set i (show (VI .i64) q [qi m] m from z) aE; Ni<|Bn<|Th<|Rg<|bE H λaI aJ H=>Ws z z aJ<|Mv z<|Nt<|T.ag (aC,aI,M,(b.set a.toNat [qi m])) ⟨(D8 H K),aG⟩)
 refine Xt<|have H:=D5 H K; Be<|Th<|have H:=H7 H aA; Sm z<|Vv (V.mkf z z)<|bE H λbm aK H=>To (O.G6 z (B4W i (show B0r q (.func (.func 249) #[] #[qp B,qp D]) (λaM aN=>A5m aM aN n g) from ⟨⟨z,z⟩,.inr ⟨249,[],[qp B,qp D],z,λN bn bo bp bq aO aP=>B7P C.u (show (VSl (VI .i64) 1) N [o] n from ⟨o,z,k.u⟩) E.u (show (VI .i64) N [qi g] g from z) aO aP⟩⟩) aK _) z λbr bs bt bu aS=>?_)
 obtain ⟨bw,rfl,aU,aV⟩:=aS
 refine O8 _ aU<|Nt<|Sm z<|Ag z<|Nr ?_
 cases H
 exact T.rl z (Rv z) ⟨_,z,aV⟩
theorem C0N {h I x y J} (ak:M7 h I x) (H:B0U x y=some J):∀ L,I7 prog 215 [.agg I.toArray,.int .i64 y] h (L) (λv h' L'=>∃ K,L'=F3 3 1 v K::L∧A8 (VI .i64) h' K J):=by
 intro L
 obtain ⟨am,an,ao,aq,ar,rfl,b,au,aw,ax,A⟩:=ak
 refine I7.enter func215 z z z<|Sr<|To (O.T9 z z z λbJ bK bM f=>An z<|Sq<|Sr<|Vv (V.ldS z f (by exact J7)) ?_)
 refine bE H λ⟨bN,bO⟩ ay H=>To (O.cs (A8s ⟨am,an,ao,aq,ar,z,b.u,au.u,aw.u,ax.u,A.u⟩ ay _) λbS bV=>Mv z<|Wx z z<|Wx z z<|Ag z<|An z<|Sq ?_)
 obtain ⟨aC,aD,aE⟩:=J4 H
 refine T.ck (α:=Bool) [1,2] (λr=>([(27,.bool r)],L,λhh=>aC=r)) ?_ ?_
 ·have H:=aD
  refine Rg<|Mv z<|Wn z z<|Mv z<|T.bH 17 H z (λH=>?_) λH=>?_
  ·refine S2<|Kt z<|Mv z<|S2<|S2<|Sk<|Kt z<|Nt<|T.mt true (K9 H)
  refine Mv z<|Wl z z<|Kf z<|Mv z<|T.bH 21 H z (λH=>?_) λH=>?_
  ·refine S2<|S2<|Sk<|Kt z<|Nt<|T.mt true (K9 H)
  refine Mv z<|Vv (V.fa M0 z)<|Wd 0 O7 z f.u z<|Vv (V.P7 O1 z b)<|Vv (V.ge z z)<|Kf z<|Nt<|T.mt (decide ((x.C8.length:Int)≤y)) (K9 H)
 rintro r M bW aG
 have H:=H7 aG aE
 refine T.norm [27,1,2] z<|T.fl ?_
 refine T.cH H z (λH=>?_) λH=>?_
 ·refine Sg z<|Nr<|Tr<|T.rn (VI .i64) 3 1 λaI=>?_
  cases H
  exact T.rl z (Rv z) ⟨_,z,aI⟩
 refine Ks<|Sr<|An z<|Sq<|Sr<|Vv (V.fa A2v z)<|Wd 4 A1h z f.u z<|Vv (V.P7 A0f z A)<|Mv z<|Nt ?_
 obtain ⟨aJ,aK,aM⟩:=J4 H
 have H:=aK
 refine Bl<|T.rn (VI .i64) 3 1 λaN=>T.lk [1,2,29,30] (FUEL,(0:Int),([]:List Int),(qs),[]) (λ⟨n,o,i,c,a⟩=>([(31,qi o),(7,c)],F3 3 1 c a::L,λhh=>iter (A6v x y) n (o,i)=some aJ∧A8 (VI .i64) hh a i)) ⟨H,aN⟩ ?_
 rintro ⟨n,o,i,c,a⟩ bX bY ⟨aO,d⟩
 obtain ⟨s,bZ,rfl,H,p⟩:=G5 aO
 refine T.norm [31,7,1,2,29,30] z<|T.fl ?_
 refine Sr<|Wl z z<|Nt<|Sq<|T.cH H z (λH=>?_) λH=>?_
 ·refine Ks<|Sq<|Bl<|Sr<|bE H λm N H=>?_
  obtain ⟨b0,aP,rfl⟩:=G9.at A N
  refine Vv (V.ix A0f z z A (E8 N))<|Vv (V.ldS z aP.u (by exact K3)) ?_
  refine To (O.alloc A2H z z λb2=>To (O.stF (vs:=[.int .u8 m.F9,qi m.K6,.string m.fA,.string m.fB,.string m.I5,qi m.fN]) K3 z z (j:=0) z z z z<|T.freeze λb3 b4 aS=>have q:=Y2.of aS; Nt<|Bl<|Sq ?_))
  obtain ⟨aU,aV,aW⟩:=J4 H
  refine T.ck (α:=Bool) [1,2,7,9,29,30,31] (λw=>([(35,.bool w)],F3 3 1 c a::L,λhh=>aU=w)) ?_ ?_
  ·have H:=aV
   refine T.dw (.vs [0,1,2,3,4,5,6,7,8,9,10,11,12,13] (.alt 14 .done .no)) 16 0 0 ?_
   refine Tv z (V.fa A2s z)<|Td z 0 A5h z q z<|Tv z (V.eq z z)<|Tm z z<|T.bH 39 H z (λH=>?_) λH=>?_
   ·refine Tv z (V.fa U8 z)<|Td z 4 J3 z q z<|Tv z (V.fa M0 z)<|Td z 0 O7 z f.u z<|Tm z z<|bE H λaX P H=>?_
    obtain ⟨b5,aY,⟨b6,rfl,b7⟩⟩:=G9.at b P
    refine Tv z (V.ix O1 z z b (E8 P))<|Tv z (V.fa A0i z)<|Td z 0 J3 z aY.u z<|Tv z (V.seq z z)<|Tv z (V.pkT z z)<|Ts z z (X2 z z) (V.asg z) z ?_ T.O4
    refine T.M9 (X2 z z)<|Th<|T.mt (decide (m.I5=aX.F8)) (K9 H)
   refine T2 z z<|T2 z z<|T2 z z<|T2 z z<|Tk z<|Tv z (V.pkF z z)<|Ts z z (X2 z z) (V.asg z) z ?_ T.O4
   refine T.M9 (X2 z z)<|Th<|T.mt false (K9 H)
  rintro w b8 b9 aZ
  have H:=H7 aZ aW
  refine T.norm [35,1,2,7,9,29,30,31] z<|T.fl ?_
  refine T.cH H z (λH=>?_) λH=>?_
  ·refine T.dw (.vs [0,1,2,3,5,6] (.alt 4 (.g (.v 7 (.alt 8 (.alt 9 (.alt 10 .done .no) .no) .no))) .no)) 9 1 0 ?_
   refine Tm z z<|Tv z (V.fa M0 z)<|Td z 0 O7 z f.u z<|Tm z z<|Tv z (V.fa U0 z)<|Td z 5 D6 z q.u z<|bE H λbh a0 H=>Tp z z (X3 [] [0] z z) (O.G6 z (A5l b.u a0 _) z λbl S bv bz a1=>?_) T.O4
   obtain ⟨rfl,a2⟩:=a1
   refine O8 _ a2<|T.N8 Li<|bE H λB a3 H=>Tv z (V.C6P z z a3)<|Tp z z (X3 [] [0] z z) (O.bq A9 J6 [.tmp 57] (VI .i64) [[qi B]] [B] λca C=>?_) T.O4
   refine bE H λU W H=>Tp z z (X3 [] [1] z z) (O.ax A9 J6 1 d.u C W VI.plain λa4 a5=>?_) T.O4
   refine Fr_ 1 z<|T.drop<|Ts z z (SX.one (XA.fr [] Lr z) z) (V.asg z) z ?_ T.O4
   refine T.M9 (SX.one (XA.fr [] Lr z) z)<|Bn<|Bn<|Th<|Rg<|bE H λa6 a7 H=>Ws z z a7<|Mv z<|Nt<|T.ag (s,a6,U,a4,(a++[[qi B]])) ⟨(D8 H p),a5⟩
  refine Sq<|T.dw (.vs [0,1,2,3,4,5,6,7,8,9,10,11,12,13,14,15,16,17,18] (.alt 19 .done .no)) 21 0 0 ?_
  refine Tv z (V.fa A2s z)<|Td z 0 A5h z q.u z<|Tv z (V.eq z z)<|Tm z z<|T.bH 64 H z (λH=>?_) λH=>?_
  ·refine Tv z (V.fa U8 z)<|Td z 4 J3 z q.u z<|Tv z (V.seq z z)<|Tm z z<|T.bH 68 H z (λH=>?_) λH=>?_
   ·refine T2 z z<|T2 z z<|T2 z z<|T2 z z<|Tk z<|Tv z (V.pkT z z)<|Tv z (V.pkT z z)<|Ts z z (X2 z z) (V.asg z) z ?_ T.O4
    refine T.M9 (X2 z z)<|Th<|Ct z<|Rg<|Mv z<|Vv (V.fa M0 z)<|Wd 0 O7 z f.u z<|Mv z<|bE H λcd a8 H=>To (O.G6 z (B3R b.u a8 _) z λce a9 cf cg ah=>?_)
    obtain ⟨ci,al,X⟩:=ah
    refine O8 _ al<|bE H λY Z H=>?_
    obtain ⟨cj,av,rfl⟩:=A8.get X Z
    refine Vv (V.ixR A9 z z (j:=0) z (A8.bd X Z))<|Vv (V.ldR D6 z (j:=0) z av z)<|To (O.b1 (E:=VI .i64) A9 J6 z z z z z λck D=>bE H λaa ab H=>To (O.ax A9 J6 2 d.u D ab VI.plain λaz ba=>T.fl ?_))
    refine T.fs [1] ?_
    refine T.drop<|Ag z<|Ni<|Bn<|Bn<|Th<|Rg<|bE H λbb bc H=>Ws z z bc<|Mv z<|Nt<|Fr_ 1 z<|T.drop<|T.ag (s,bb,aa,az,(a++[[qi Y]])) ⟨(D8 H p),ba⟩
   refine Tv z (V.fa U8 z)<|Td z 4 J3 z q.u z<|Tv z (V.fa M0 z)<|Td z 0 O7 z f.u z<|Tm z z<|bE H λco ac H=>?_
   obtain ⟨cp,be,⟨cq,rfl,cr⟩⟩:=G9.at b ac
   refine Tv z (V.ix O1 z z b (E8 ac))<|Tv z (V.fa A0i z)<|Td z 0 J3 z be.u z<|Tv z (V.seq z z)<|Tv z (V.pkF z z)<|Tv z (V.pkT z z)<|Ts z z (X2 z z) (V.asg z) z ?_ T.O4
   refine T.M9 (X2 z z)<|Th<|T.cH H z (λH=>?_) λH=>?_
   ·refine Rg<|Mv z<|Vv (V.fa M0 z)<|Wd 0 O7 z f.u z<|Mv z<|bE H λcs bf H=>To (O.G6 z (B3R b.u bf _) z λct bg cu cw bi=>?_)
    obtain ⟨cx,bj,ad⟩:=bi
    refine O8 _ bj<|bE H λae af H=>?_
    obtain ⟨cy,bk,rfl⟩:=A8.get ad af
    refine Vv (V.ixR A9 z z (j:=0) z (A8.bd ad af))<|Vv (V.ldR D6 z (j:=0) z bk z)<|To (O.b1 (E:=VI .i64) A9 J6 z z z z z λcA G=>bE H λai aj H=>To (O.ax A9 J6 2 d.u G aj VI.plain λbm bn=>T.fl ?_))
    refine T.fs [1] ?_
    refine T.drop<|Ag z<|Ni<|Bn<|Bn<|Th<|Rg<|bE H λbo bp H=>Ws z z bp<|Mv z<|Nt<|Fr_ 1 z<|T.drop<|T.ag (s,bo,ai,bm,(a++[[qi ae]])) ⟨(D8 H p),bn⟩
   refine T.skip<|Bn<|Bn<|Th<|Rg<|bE H λbq br H=>Ws z z br<|Mv z<|Nt<|T.ag (s,bq,i,c,a) ⟨(D8 H p),d.u⟩
  refine T2 z z<|T2 z z<|T2 z z<|T2 z z<|T2 z z<|T2 z z<|T2 z z<|Tv z (V.pkF z z)<|Ts z z (X2 z z) (V.asg z) z ?_ T.O4
  refine T.M9 (X2 z z)<|Th<|Cf z<|T.skip<|Bn<|Bn<|Th<|Rg<|bE H λbt bu H=>Ws z z bu<|Mv z<|Nt<|T.ag (s,bt,i,c,a) ⟨(D8 H p),d.u⟩
 refine Xt<|have H:=D5 H p; Be<|Th<|have H:=H7 H aM; Sm z<|bE H λcD bw H=>To (O.G6 z (C2i d bw _) z λcE cG cI cJ bx=>?_)
 obtain ⟨cK,rfl,bA,bB⟩:=bx
 refine O8 _ bA<|Nt<|Sm z<|bE H λcM bC H=>To (O.G6 z (B8E bB bC _) z λcN cO cP cS bD=>?_)
 obtain ⟨cU,bG,bI⟩:=bD
 refine O8 _ bG<|Ag z<|Nr ?_
 cases H
 exact T.rl z (Rv z) ⟨_,z,bI⟩
end Go.Proofs.X
open Go Go.Proofs Go.Proofs.Tryz Go.Sl Go.Dm
namespace Go.Proofs.X
theorem C1G:O5 prog 202 5=some 5:=by kernel_rfl
theorem C5d:U1 prog 200=some (false,1):=by kernel_rfl
theorem A9D:zer prog 84=some (.slice none 0 0):=by kernel_rfl
theorem C0J {h a b c d e} (f:Y2 h b c) (g:I1 h c d) (H:A8x a d=some e):∀ L,FnW prog 238 [.int .i64 a,.pointer (some b)] h L (.bool e):=by
 intro L
 obtain ⟨i,rfl,j⟩:=g
 refine I7.enter func238 z z z<|Sr<|An z<|Sm z<|Wl z z<|Mv z<|T.bH 6 H z (λH=>?_) λH=>?_
 ·exact S2<|S2<|Kt z<|Ag z<|Nr<|E1 H
 refine Mv z<|Vv (V.ldS z f (by exact I8)) ?_
 exact bE H λo k H=>To (O.cs (A2m ⟨i,z,j⟩ k _) λq s=>Vv (V.ge z z)<|Kf z<|Ag z<|Nr<|E1 H)
theorem C0p {h a b c d e} (i:Y2 h b c) (j:(VSl (VI .i64) 1) h c d) (H:A8C a d=some e):∀ L,FnW prog 241 [.int .i64 a,.pointer (some b)] h L (.bool e):=by
 intro L
 obtain ⟨m,rfl,f⟩:=j
 refine I7.enter func241 z z z<|Sr<|An z<|Sr<|Vv (V.Q9 D9 z i z)<|Mv z<|bE H λn g H=>?_
 obtain ⟨o,k,rfl⟩:=G9.at f g
 exact Vv (V.ix A9 z z f (E8 g))<|Vv (V.Q9 D6 z k z)<|Mv z<|Wn z z<|Ag z<|Nr<|E1 H
theorem C2I {h s m w n x} (E:I1 h s m) (a:G9 (VI .i64) 1 h w n) (H:A1N m n=some x):∀ L,FnW prog 240 [.agg s.toArray,w] h L (.bool x):=by
 intro L
 obtain ⟨o,rfl,c⟩:=E
 refine I7.enter func240 z z z<|Sr<|To (O.T9 z z z λaD aE aG d=>An z<|Sq<|Sm z<|Vv (V.P7 A9 z a)<|Mv z<|Nt ?_)
 obtain ⟨G,I,p⟩:=J4 H
 have H:=I
 refine Bl<|T.lk [1,2,8] (FUEL,(0:Int)) (λ⟨e,b⟩=>([(9,qi b)],L,λhh=>iter (A8p m n) e b=some G)) H ?_
 rintro ⟨e,b⟩ aI aJ J
 obtain ⟨K,aK,rfl,H,j⟩:=G5 J
 refine T.norm [9,1,2,8] z<|T.fl ?_
 refine Sr<|Wl z z<|Nt<|Sq<|T.cH H z (λH=>?_) λH=>?_
 ·refine Ks<|Sq<|Bl<|Sm z<|An z<|Sq<|Sq<|T.dw (.vs [0,1,2,4,5,6,7,8,9] (.alt 3 (.g (.alt 10 (.g (.v 11 .done)) .no)) .no)) 13 0 0 ?_
  refine Tv z (V.fa X8 z)<|Td z 4 D9 z d.u z<|Tm z z<|Tv z (V.fa X8 z)<|Td z 4 D9 z d.u z<|Tm z z<|Tm z z<|bE H λaM y H=>?_
  obtain ⟨aN,M,rfl⟩:=G9.at a y
  refine Tv z (V.ix A9 z z a (E8 y))<|Tv z (V.Q9 D6 z M.u z)<|bE H λaO N H=>Tp z z (X2 z z) (O.G6 z (A2f c.u N _) z λaP aS aU aV P=>?_) T.O4
  obtain ⟨rfl,S⟩:=P
  refine O8 _ S<|T.N8 Li<|bE H λaW U H=>Tp z z (X2 z z) (O.G6 z (A2f c.u U _) z λaX aY aZ a0 W=>?_) T.O4
  obtain ⟨rfl,X⟩:=W
  refine O8 _ X<|T.N8 Li<|Tv z (V.bne underlying4 z z)<|T.M9 (X2 z z)<|Th<|T.cH H z (λH=>?_) λH=>?_
  ·exact Sg z<|Nr<|Tr<|Br<|Tr<|Tr<|have H:=D5 H j; Br<|Tr<|have H:=H7 H p; E1 H
  refine Ks<|Sm z<|Mv z<|Nt<|T.A0G ?_
  obtain ⟨Y,Z,r⟩:=J4 H
  have H:=Z
  refine Bl<|T.lk [1,2,5,8,9,24] (FUEL,(0:Int)) (λ⟨f,i⟩=>([(25,qi i)],L,λhh=>iter (A5y m n b) f i=some Y)) H ?_
  rintro ⟨f,i⟩ a1 a2 aa
  obtain ⟨ab,a3,rfl,H,q⟩:=G5 aa
  refine T.norm [25,1,2,5,8,9,24] z<|T.fl ?_
  refine Sr<|Wl z z<|Nt<|Sq<|T.cH H z (λH=>?_) λH=>?_
  ·refine Ks<|Sq<|Bl<|Sm z<|An z<|Sq<|T.dw (.vs [0,1,2,4,5,6,7,8,9,10,11,12] (.alt 3 (.g (.alt 13 (.g (.vs [14,15,16,17,18,20,21,22,23,24,25,26,27,28] (.alt 19 (.g (.alt 29 (.g (.v 30 (.v 31 .done))) .no)) .no))) .no)) .no)) 33 0 0 ?_
   refine Tv z (V.ldS z d.u (by exact I8)) ?_
   refine Tm z z<|Tm z z<|Tv z (V.ldS z d.u (by exact I8)) ?_
   refine Tm z z<|Tm z z<|bE H λa4 A H=>?_
   obtain ⟨a5,ac,rfl⟩:=G9.at a A
   refine Tv z (V.ix A9 z z a (E8 A))<|Tv z (V.Q9 D6 z ac.u z)<|Tm z z<|Tm z z<|bE H λa6 B H=>?_
   obtain ⟨a7,ad,rfl⟩:=G9.at a B
   refine Tv z (V.ix A9 z z a (E8 B))<|Tv z (V.Q9 D6 z ad.u z)<|bE H λa8 ae H=>Tp z z (X2 z z) (O.G6 z (A6P ⟨o,z,c.u⟩ ae _) z λa9 ah al av af=>?_) T.O4
   obtain ⟨rfl,ai⟩:=af
   refine O8 _ ai<|T.N8 Li<|bE H λaz aj H=>Tp z z (X2 z z) (O.G6 z (A6P ⟨o,z,c.u⟩ aj _) z λba bb bc bd ak=>?_) T.O4
   obtain ⟨rfl,am⟩:=ak
   refine O8 _ am<|T.N8 Li<|Tv z (V.bne underlying4 z z)<|Tm z z<|T.bH 43 H z (λH=>?_) λH=>?_
   ·refine T2 z z<|T2 z z<|T2 z z<|T2 z z<|T2 z z<|T2 z z<|T.A3Y z z (X2 z z) z ?_ T.O4
    refine T.N8 Lr<|T.A3Y z z (X2 z z) z ?_ T.O4
    exact T.N8 Lr<|Tk z<|Tv z (V.pkT z z)<|T.M9 (X2 z z)<|Th<|Ct z<|Sg z<|Nr<|Br<|Tr<|Tr<|have H:=D5 H q; Br<|Tr<|have H:=H7 H r; Br<|Tr<|Tr<|have H:=D5 H j; Br<|Tr<|have H:=H7 H p; E1 H
   refine Tv z (V.ldS z d.u (by exact I8)) ?_
   refine Tm z z<|Tm z z<|Tv z (V.ldS z d.u (by exact I8)) ?_
   refine Tm z z<|Tm z z<|bE H λbe C H=>?_
   obtain ⟨bf,an,rfl⟩:=G9.at a C
   refine Tv z (V.ix A9 z z a (E8 C))<|Tv z (V.Q9 D6 z an.u z)<|Tm z z<|Tm z z<|bE H λbg D H=>?_
   obtain ⟨bi,ao,rfl⟩:=G9.at a D
   refine Tv z (V.ix A9 z z a (E8 D))<|Tv z (V.Q9 D6 z ao.u z)<|bE H λbj ap H=>Tp z z (X2 z z) (O.G6 z (A6W ⟨o,z,c.u⟩ ap _) z λbk bm bn bo aq=>?_) T.O4
   obtain ⟨rfl,ar⟩:=aq
   refine O8 _ ar<|T.N8 Li<|bE H λbp au H=>Tp z z (X2 z z) (O.G6 z (A6W ⟨o,z,c.u⟩ au _) z λbq br bs bt aw=>?_) T.O4
   obtain ⟨rfl,ax⟩:=aw
   refine O8 _ ax<|T.N8 Li<|Tv z (V.bne underlying4 z z)<|Tv z (V.pkF z z)<|T.M9 (X2 z z)<|Th<|T.cH H z (λH=>?_) λH=>?_
   ·exact Sq<|T.norm [] z<|Rg<|Ag z<|Nr<|Br<|Tr<|Tr<|have H:=D5 H q; Br<|Tr<|have H:=H7 H r; Br<|Tr<|Tr<|have H:=D5 H j; Br<|Tr<|have H:=H7 H p; E1 H
   refine T.skip<|Bn<|Th<|T.norm [1,2,5,8,9,24,25] z<|Rg<|bE H λay aA H=>Ws z z aA<|Mv z<|Nt<|T.ag (ab,ay) (D8 H q)
  refine Xt<|have H:=D5 H q; Be<|Th<|have H:=H7 H r; Bn<|Th<|Rg<|bE H λaB aC H=>Ws z z aC<|Mv z<|Nt<|T.ag (K,aB) (D8 H j)
 exact Xt<|have H:=D5 H j; Be<|Th<|have H:=H7 H p; Sg z<|Nr<|E1 H
theorem B3o {σ:Type} {R:σ→PH→List E5→Prop} {q:σ→(List Int)→Option (σ×Bool)} {r:σ} {q_s:σ} {h C La D E G} (s:C0e R h C q) (hRa:R r h La) (o:Y2 h D E) (Z:I1 h E G) (H:A3P q r G=some q_s):∀ As L,I7 prog 252 [C,.pointer (some D)] h ((As++(La++L))) (λv h' L'=>∃ La',v=.tuple #[]∧L'=(As++(La'++L))∧R q_s h' La'):=by
 intro As L
 obtain ⟨aa,rfl,ab⟩:=Z
 refine I7.enter func252 z z z<|Sr<|Vv (V.fa A3c z)<|Wd 1 A6h z o z<|bE H λ⟨ac,bs⟩ ad H=>To (O.G6 z (A2M ad _) z λbt bu bw ae af=>?_)
 obtain ⟨ai,aj,ak,am,an,rfl,ao,ap,aq,ar,au,I⟩:=af
 refine O8 _ ao<|Mv z<|Wx z z<|Wx z z<|To (O.alloc A7B z z λbx=>To (O.stF (vs:=[.string ac.A7f,ai,aj,ak,am,an]) A0w z z (j:=0) z z (by (simp only [BT,ap.1.1,aq.1.1,ar.1.1,au.1.1,I.1.1]) <;> rfl) z ?_))
 refine T.freeze λbA aw ax=>have ay:=Y2.of ax; An z<|Sr<|Vv (V.ldS z o.u (by exact I8)) ?_
 refine bE H λJ aA H=>To (O.cs (A2m ⟨aa,z,ab.u⟩ aA _) λaB aC=>An z<|Sr<|Vv (V.fa C1G z)<|Wd 5 C5d z ay.u z<|Vv (V.fa X6 z)<|Wd 2 D6 z o.u z<|Vv (V.fa A0H z)<|Wd 3 D6 z o.u z<|bE H λaG aI H=>?_)
 obtain ⟨bD,bG,bI,aJ,aK⟩:=B1P.call (I.u (g:=aB)) aI
 refine To (O.A1b z aJ z (aK _) z λbJ bK bM aM aN=>?_)
 obtain ⟨aO,t⟩:=aN
 refine O8 _ aO<|Vv (V.P7 A3g z t)<|Mv z<|Nt<|T.A0G ?_
 obtain ⟨aP,aS,K⟩:=J4 H
 have H:=aS
 refine Bl<|have aU:=(((ae.trans aw).trans aC).trans aM); have aV:=s.2.1 _ _ _ _ aU hRa; T.lk [0,5,24,25] (FUEL,r,(0:Int),La) (λ⟨d,e,f,a⟩=>([(26,qi f)],(As++(a++L)),λhh=>iter (A0A q J aG) d (e,f)=some aP∧R e hh a)) ⟨H,aV⟩ ?_
 rintro ⟨d,e,f,a⟩ aW bN ⟨aX,M⟩
 obtain ⟨aY,bO,rfl,H,w⟩:=G5 aX
 refine T.norm [26,0,5,24,25] z<|O8 ((As++(a++L))) z<|Sr<|Wl z z<|Nt<|Sq<|T.cH H z (λH=>?_) λH=>?_
 ·refine Ks<|Sq<|Bl<|Sr<|bE H λaZ N H=>?_
  obtain ⟨bP,a0,⟨bS,rfl,a1⟩⟩:=G9.at t N
  refine Vv (V.ix A3g z z t (E8 N))<|Vv (V.Q9 A5R z a0.u z)<|An z<|Sm z<|bE H λx P H=>To (O.mkX A9 J6 z z z z P z λy bU bV=>have S:A8 (VI .i64) aW _ x:=A8.rep z P; An z<|Sq<|Sm z<|Vv (V.A2p A9 z (j:=0) z S.len)<|Mv z<|Nt ?_)
  obtain ⟨a2,a3,a4⟩:=J4 H
  have H:=a3
  refine Bl<|T.lk [0,5,7,24,25,26,33] (FUEL,(0:Int),x,(List.replicate J.toNat [qi 0])) (λ⟨i,c,m,b⟩=>([(34,qi c),(8,y)],F3 3 1 y b::(As++(a++L)),λhh=>iter (A1e aZ x) i (c,m)=some a2∧A8 (VI .i64) hh b m)) ⟨H,S⟩ ?_
  rintro ⟨i,c,m,b⟩ a5 a6 ⟨a7,n⟩
  obtain ⟨a8,bW,rfl,H,U⟩:=G5 a7
  refine T.norm [34,8,0,5,7,24,25,26,33] z<|O8 (F3 3 1 y b::(As++(a++L))) z<|Sr<|Wl z z<|Nt<|Sq<|T.cH H z (λH=>?_) λH=>?_
  ·refine Ks<|Sq<|Bl<|Sm z<|An z<|Rg<|Mv z<|Mv z<|Mv z<|Mv z<|bE H λp a9 H=>?_
   obtain ⟨bX,bY,bZ,ah,al⟩:=A8Y.call (a1.u (g:=a5)) a9
   refine To (O.A1b z ah z (al _) z λb0 W b1 b2 av=>?_)
   obtain ⟨rfl,az⟩:=av
   refine O8 _ az<|bE H λb3 A H=>?_
   obtain ⟨b4,b5,rfl⟩:=A8.get n A
   refine Vv (V.ixR A9 z z (j:=0) z (A8.bd n A))<|bE H λX ba H=>To (O.stR D6 z z (j:=0) z (A8.bdN n A) z<|have bb:A8 (VI .i64) W (b.set c.toNat [qi p]) X:=A8.set n.u (show (VI .i64) W [qi p] p from z) ba; Ni<|Bn<|Th<|Rg<|bE H λbc be H=>Ws z z be<|Mv z<|Nt<|T.ag (a8,bc,X,(b.set c.toNat [qi p])) ⟨(D8 H U),bb⟩)
  refine Xt<|have H:=D5 H U; Be<|Th<|have H:=H7 H a4; Sm z<|Mv z<|T.J8 λb6 bf bg=>have bi:=A8.slc bg n.u; bE H λ⟨bj,b7⟩ bk H=>have bm:=(a6.trans bf); have bn:=s.2.1 _ _ _ _ bm M; To (O.A4f z z (C0e.call s.u bi bn bk As _) z λb8 b9 bh bl bo=>?_)
  obtain ⟨B,rfl,bp,Y⟩:=bo
  refine O8 ((As++(B++L))) bp<|Vv (V.not z)<|Nt<|T.cH H z (λH=>?_) λH=>?_
  ·refine T.ret<|Br<|Tr<|Tr<|have H:=D5 H w; Br<|Tr<|have H:=H7 H K; ?_
   cases H
   exact T.C4Q results252 Li ⟨B,z,z,Y⟩
  refine T.skip<|Bn<|Th<|Rg<|bE H λbq br H=>Ws z z br<|Mv z<|Nt<|T.ag (aY,bj,bq,B) ⟨(D8 H w),Y⟩
 refine Xt<|have H:=D5 H w; Be<|Th<|have H:=H7 H K; ?_
 cases H
 exact T.A0R results252 Li ⟨a,z,z,M⟩
theorem B6B {h b c a} (d:I1 h b c) (H:A8V c=some a):∀ L,I7 prog 239 [.agg b.toArray] h (L) (λv h' L'=>∃ p0_1 v0_3,v=.func (.func 252) #[] #[.pointer (some p0_1)]∧L'=L∧Y2 h' p0_1 [.string a.F8,.int .u8 a.P8,.int .i64 a.fA,.int .i64 a.fB,v0_3,.int .i64 a.fX,.int .i64 a.fY]∧G9 (VI .i64) 1 h' v0_3 a.A2Y):=by
 intro L
 obtain ⟨g,rfl,e⟩:=d
 refine I7.enter func239 z z z<|Sr<|To (O.T9 z z z λi j k f=>An z<|Sr<|Vv (V.mkf z z)<|Ag z<|Nr ?_)
 cases H
 exact T.rl z (Rv z) ⟨_,_,z,z,f,e.u⟩
theorem C3B {h B k C s D} (P:I1 h B k) (t:G9 (VI .i64) 1 h C s) (H:B4N k s=some D):∀ L,I7 prog 216 [.agg B.toArray,C] h (L) (λv h' L'=>∃ E,L'=F3 30 1 v E::L∧A8 (VSl (VI .i64) 1) h' E D):=by
 intro L
 obtain ⟨m,rfl,n⟩:=P
 refine I7.B2M func216 z ntmps216 z<|Sr<|To (O.T9 z z z λG bm bn o=>To (O.T9 z (G9.cells t) z λbo bp bq I=>An z<|Sq<|Sq ?_))
 obtain ⟨U,W,X⟩:=J4 H
 refine T.ck (α:=Bool) [2,3] (λg=>([(14,.bool g)],L,λhh=>U=g)) ?_ ?_
 ·have H:=W
  refine Rg<|Vv (V.ldS z o.u (by exact I8)) ?_
  refine bE H λbr Y H=>To (O.cs (B1b ⟨m,z,n.u⟩ Y _) λZ bw=>Wn z z<|Mv z<|T.bH 10 H z (λH=>?_) λH=>?_)
  ·refine S2<|Sk<|Kt z<|Nt<|T.mt true (K9 H)
  refine Vv (V.Q9 D9 z I.u z)<|Vv (V.mkf z z)<|bE H λac ad H=>To (O.G6 z (A7g t.u (show A2D Z (.func (.func 238) #[] #[qp G]) (λw=>A8x w k) from ⟨⟨z,z⟩,.inr ⟨238,[],[qp G],z,λbx bA bB bC ae af=>C0J o.u ⟨m,z,n.u⟩ ae af⟩⟩) ad _) z λbD bG bI bJ ag=>?_)
  obtain ⟨rfl,ai⟩:=ag
  refine O8 _ ai<|Kf z<|Nt<|T.mt ac (K9 H)
 rintro g aj bK ak
 have H:=H7 ak X
 refine T.norm [14,2,3] z<|T.fl ?_
 refine T.cH H z (λH=>?_) λH=>?_
 ·refine Sg z<|Nr<|Tr<|T.rn (VSl (VI .i64) 1) 30 1 λam=>T.A2Z ?_
  cases H
  exact T.A0N (L':=F3 30 1 (qs) []::L) results216 (Rv z) Li (λ_ iv=>iv) ⟨_,z,am⟩
 refine Ks<|Sr<|To (O.alloc A9D z z λi=>Nt<|Sq<|Sr<|Vv (V.ldS z o.u (by exact I8)) ?_)
 refine bE H λbM an H=>To (O.G6 z (B6B ⟨m,z,n.u⟩ an _) z λbN J bO bP ao=>?_)
 obtain ⟨bS,aq,rfl,ar,au,aw⟩:=ao
 refine O8 _ ar<|Nt<|Bl ?_
 obtain ⟨bU,ax,ay⟩:=J4 H
 refine T.rn (VSl (VI .i64) 1) 30 1 λaA=>Fr_ 1 z<|T.B3S (S:=(List (List Int))) (O:=Unit) (La0:=[blk i (.cells [(qs)].toArray 84),F3 30 1 (qs) []]) (Lr:=L) (λp hh aB=>∃ b:Value,∃ a:List (List Value),aB=([blk i (.cells [b].toArray 84),F3 30 1 b a]:List E5)∧A8 (VSl (VI .i64) 1) hh a p) (λ_ _ _ _=>False) z z ⟨(qs),[],z,aA⟩ (λR_ y_=>C0e R_ J y_ (A9c k s)) (λbV=>⟨⟨z,z⟩,RYs.mono (λp _ _ _ l_ ⟨b,a,e_,f0_⟩=>⟨b,a,e_,A8.mono (VSl.mono VI.mono) f0_ l_⟩) (λ_ _ _ _ _ _ q_=>q_),?_⟩) (λ_ La_ aC aD aE=>I7.perm (List.Perm.refl _) (B3o aC aD au ⟨aq,z,aw⟩ ax [] aE) λ_ _ _ ⟨La_,_,e_,q_⟩=>⟨_,List.Perm.refl _,La_,e_,q_⟩) ?_ ?_
 ·intro bW bX c x d aG bY bZ b0 aI H As_ L_
  rcases aG with p | _
  rotate_left
  ·exact dead H
  obtain ⟨b1,_,rfl,q,aJ,b2,b,a,rfl,f⟩:=aI
  refine Yld.front λL=>Yld.B3q (j:=0) z q z<|T.fl ?_
  refine Rg<|To (O.alloc A1d z z λK=>To (O.stF (vs:=[c]) D9 z z (j:=0) z (G9.cells d) (by (simp only [BT,G9.one d]) <;> rfl) z ?_))
  refine T.fl ?_
  refine T.freeze λb3 b4 aK=>have y:=Y2.of aK; Nt<|T.begin (j:=0) z aJ<|T.fl ?_
  refine Bl<|Sr<|Vv (V.ldS z o.u (by exact I8)) ?_
  refine Vv (V.Q9 D9 z y z)<|bE H λb5 aM H=>To (O.cs (C2I ⟨m,z,n.u⟩ d.u aM _) λaN b8=>Mv z<|T.bH 21 H z (λH=>?_) λH=>?_)
  ·refine Vv (V.Q9 D9 z I.u z)<|Vv (V.mkf z z)<|bE H λb9 aS H=>To (O.cs (A7g t.u (show A2D aN (.func (.func 241) #[] #[qp K]) (λw=>A8C w x) from ⟨⟨z,z⟩,.inr ⟨241,[],[qp K],z,λaU bh bl bv aV aW=>C0p y.u (show (VSl (VI .i64) 1) aU [c] x from ⟨c,z,d.u⟩) aV aW⟩⟩) aS _) λM cb=>Vv (V.not z)<|Kt z<|Nt<|T.cH H z (λH=>?_) λH=>?_)
   ·refine Rg<|Vv (V.A4V S9 z (j:=1) z z)<|Vv (V.Q9 D9 z y.u z)<|To (O.bq K7 A1d [.tmp 28] (VSl (VI .i64) 1) [[c]] [x] (hE:=(A8.cons ⟨c,z,d.u⟩ A8.nil)) λcc A=>bE H λaZ N H=>To (O.ax K7 A1d 3 f.u A N VSl.plain λr a0=>T.fl ?_))
    refine T.fs [1] ?_
    refine T.drop<|T.Q7 0 z λa1 a2=>To (O.stF (vs:=[r]) S9 z z (j:=2) z a2 (by (simp only [BT,a1]) <;> rfl) z ?_)
    refine T.fl ?_
    refine Ni<|Bn<|T.fs [1,1,2] ?_
    cases H
    exact T.B7T (j:=0) z Li ⟨_::[blk i (.cells [r].toArray 84),F3 30 1 r (a++[[c]])],z,z,⟨_,_,z,q.turn .ready none,z,z,⟨r,(a++[[c]]),z,a0⟩⟩⟩
   refine T.skip<|Bn ?_
   cases H
   exact T.B7T (j:=0) z Li ⟨_::[blk i (.cells [b].toArray 84),F3 30 1 b a],z,z,⟨_,_,z,q.turn .ready none,z,z,⟨b,a,z,f.u⟩⟩⟩
  refine S2<|S2<|Kf z<|Nt<|Cf z<|T.skip<|Bn ?_
  cases H
  exact T.B7T (j:=0) z Li ⟨_::[blk i (.cells [b].toArray 84),F3 30 1 b a],z,z,⟨_,_,z,q.turn .ready none,z,z,⟨b,a,z,f.u⟩⟩⟩
 ·rintro cf a3 _ p cg a4 ⟨b,a,rfl,f⟩
  have H:=H7 a4 ay
  refine T.fl ?_
  refine Bn<|Th<|Sr<|Vv (V.A4V S9 z (j:=1) z z)<|T.fs [2] ?_
  refine bE H λci a5 H=>To (O.G6 z (B6l f (show B0C a3 (.func (.func 243) #[] #[]) A3M from ⟨⟨z,z⟩,.inr ⟨243,[],[],z,λcj ck cm cn a6 co cp a7 cq a8 a9=>B8R a6 a7 a8 a9⟩⟩) a5 _) z λcr ah cs ct al=>?_)
  obtain ⟨cu,rfl,av,az⟩:=al
  refine O8 _ av<|Nt<|Sr<|Vv (V.A4V S9 z (j:=2) z z)<|bE H λcw ba H=>To (O.G6 z (B3i az (show B8u ah (.func (.func 245) #[] #[]) A3b from ⟨⟨z,z⟩,.inr ⟨245,[],[],z,λcx cy cA cB bb cC cD bc cE bd be=>C1s bb bc bd be⟩⟩) ba _) z λbf cG cI cJ bg=>?_)
  obtain ⟨bi,bj,bk⟩:=bg
  refine O8 _ bj<|Ag z<|Nr<|T.fs [2] ?_
  refine T.drop<|Fr_ 1 z<|T.A2Z<|T.A7t (j:=0) z<|T.fl ?_
  cases H
  exact T.A0N (L':=F3 30 1 bf bi::L) results216 (Rv z) Li (λ_ iv=>iv) ⟨_,z,bk⟩
 rintro _ _ _ _ _ _ _ ⟨⟩
end Go.Proofs.X
open Go Go.Proofs Go.Proofs.Tryz Go.Sl Go.Dm
namespace Go.Proofs.X
theorem C2E {h q g i r} (C:M7 h q g) (H:B5W g i=some r):∀ L,I7 prog 167 [.agg q.toArray,.int .i64 i] h (L) (λv h' L'=>∃ s,L'=F3 30 1 v s::L∧A8 (VSl (VI .i64) 1) h' s r):=by
 intro L
 obtain ⟨D,G,I,J,K,rfl,f,M,N,P,S⟩:=C
 refine I7.enter func167 z z z<|Sr<|To (O.T9 z z z λaM aN aO m=>An z<|Sr<|An z<|Sq<|Sr<|Vv (V.ldS z m (by exact J7)) ?_)
 refine Mv z<|bE H λU W H=>To (O.G6 z (C0N ⟨D,G,I,J,K,z,f.u,M.u,N.u,P.u,S.u⟩ W _) z λX Y aP aS Z=>?_)
 obtain ⟨aa,ab,n⟩:=Z
 refine O8 _ ab<|Vv (V.A2p A9 z (j:=0) z n.len)<|Mv z<|Nt ?_
 obtain ⟨ac,ad,ae⟩:=J4 H
 have H:=ad
 refine Bl<|T.rn (VI .i64) 3 1 λaf=>Fr_ 1 z<|T.lk [1,2,10,11] (FUEL,(0:Int),([]:List Int),(qs),[]) (λ⟨b,c,d,e,a⟩=>([(12,qi c),(5,e)],F3 3 1 X aa::F3 3 1 e a::L,λhh=>iter (A7Z g i U) b (c,d)=some ac∧A8 (VI .i64) hh a d)) ⟨H,af⟩ ?_
 rintro ⟨b,c,d,e,a⟩ aU aV ⟨ai,o⟩
 obtain ⟨aj,aW,rfl,H,t⟩:=G5 ai
 refine T.norm [12,5,1,2,10,11] z<|T.fl ?_
 refine Sr<|Wl z z<|Nt<|Sq<|T.cH H z (λH=>?_) λH=>?_
 ·refine Ks<|Sq<|Bl<|Sr<|bE H λaX w H=>?_
  obtain ⟨aY,ak,rfl⟩:=A8.get n w
  refine Vv (V.ixR A9 z z (j:=0) z (A8.bd n w))<|Vv (V.ldR D6 z (j:=0) z ak z)<|An z<|Rg<|Mv z<|Mv z<|Vv (V.fa M0 z)<|Wd 0 O7 z m.u z<|Mv z<|bE H λaZ am H=>To (O.cs (A5l f.u am _) λan a2=>bE H λx ar H=>Vv (V.X9 z z ar)<|To (O.b1 (E:=VI .i64) A9 J6 z z z z z λa3 p=>bE H λy A H=>To (O.ax A9 J6 2 o.u p A VI.plain λau aw=>T.fl ?_)))
  refine T.fs [1] ?_
  refine T.drop<|Ag z<|Ni<|Bn<|Th<|Rg<|bE H λax ay H=>Ws z z ay<|Mv z<|Nt<|Fr_ 1 z<|T.ag (aj,ax,y,au,(a++[[qi x]])) ⟨(D8 H t),aw⟩
 refine Xt<|have H:=D5 H t; Be<|Th<|have H:=H7 H ae; Sr<|Vv (V.fa M0 z)<|Wd 0 O7 z m.u z<|Mv z<|bE H λa6 B H=>?_
 obtain ⟨a7,aA,⟨aB,rfl,aC⟩⟩:=G9.at f B
 refine Vv (V.ix O1 z z f (E8 B))<|Vv (V.ldS z aA.u (by exact I8)) ?_
 refine Mv z<|Fr_ 1 z<|T.J8 λa8 a9 aD=>have aE:=A8.slc aD o.u; bE H λah aG H=>To (O.G6 z (C3B ⟨aB,z,aC.u⟩ aE aG _) z λal av az ba aI=>?_)
 obtain ⟨bb,aJ,aK⟩:=aI
 refine O8 _ aJ<|Ag z<|Nr<|Fr_ 1 z<|T.drop ?_
 cases H
 exact T.rl z (Rv z) ⟨_,z,aK⟩
theorem C1I {h d e f g} (w:M7 h d e) (H:B2v e f=some g):∀ L,I7 prog 121 [.agg d.toArray,.int .i64 f] h (L) (λv h' L'=>∃ i,L'=F3 30 1 v i::L∧A8 (VSl (VI .i64) 1) h' i g):=by
 intro L
 obtain ⟨j,m,n,o,p,rfl,a,q,r,s,t⟩:=w
 refine I7.enter func121 z z z<|Sr<|To (O.T9 z z z λK M N b=>An z<|Sq<|Sr<|Vv (V.ldS z b (by exact J7)) ?_)
 refine bE H λ⟨P,S⟩ x H=>To (O.cs (A8s ⟨j,m,n,o,p,z,a.u,q.u,r.u,s.u,t.u⟩ x _) λc X=>Mv z<|Wx z z<|Wx z z<|Ag z<|An z<|Sm z<|Wn z z<|Mv z<|T.bH 14 H z (λH=>?_) λH=>?_)
 ·refine S2<|Kt z<|Mv z<|S2<|S2<|Sk<|Kt z<|Nt<|Ct z<|Sg z<|Nr<|Tr<|T.rn (VSl (VI .i64) 1) 30 1 λB=>?_
  cases H
  exact T.rl z (Rv z) ⟨_,z,B⟩
 refine Mv z<|Wl z z<|Kf z<|Mv z<|T.bH 18 H z (λH=>?_) λH=>?_
 ·refine S2<|S2<|Sk<|Kt z<|Nt<|Ct z<|Sg z<|Nr<|Tr<|T.rn (VSl (VI .i64) 1) 30 1 λC=>?_
  cases H
  exact T.rl z (Rv z) ⟨_,z,C⟩
 refine Mv z<|Vv (V.fa M0 z)<|Wd 0 O7 z b.u z<|Vv (V.P7 O1 z a)<|Vv (V.ge z z)<|Kf z<|Nt<|T.cH H z (λH=>?_) λH=>?_
 ·refine Sg z<|Nr<|Tr<|T.rn (VSl (VI .i64) 1) 30 1 λD=>?_
  cases H
  exact T.rl z (Rv z) ⟨_,z,D⟩
 refine Ks<|Sr<|Vv (V.ldS z b.u (by exact J7)) ?_
 refine Mv z<|bE H λY E H=>To (O.G6 z (C2E ⟨j,m,n,o,p,z,a.u,q.u,r.u,s.u,t.u⟩ E _) z λZ aa ab ac G=>?_)
 obtain ⟨ad,I,J⟩:=G
 refine O8 _ I<|Ag z<|Nr ?_
 cases H
 exact T.rl z (Rv z) ⟨_,z,J⟩
theorem C2r {h A B C t n D E} (S:M7 h A B) (o:G9 (VI .i64) 1 h C t) (H:B9X B t n=some (D,E)):∀ L,FnW prog 168 [.agg A.toArray,C,.bool n] h L (.tuple #[.int .i64 D,.int .i64 E]):=by
 intro L
 obtain ⟨aK,aM,aN,aO,aP,rfl,U,W,aS,aU,aV⟩:=S
 refine I7.enter func168 z z z<|Sr<|To (O.T9 z z z λaW aX aY G=>Ag z<|An z<|Sq<|Sm z<|Vv (V.P7 A9 z o)<|Vv (V.fa Q3 z)<|Wd 1 M8 z G z<|Vv (V.P7 O3 z W)<|Wn z z<|Nt<|T.cH H z (λH=>?_) λH=>?_)
 ·exact Sg z<|Ag z<|Nr<|Tr<|E1 H
 refine Ks<|Sr<|Vv (V.fa M0 z)<|Wd 0 O7 z G z<|bE H λw X H=>To (O.cs (A7L U.u X _) λY a1=>An z<|Sm z<|bE H λI J H=>To (O.mkX A0b A5V z z z z J z λp a2 a3=>have ab:A8 VB Y _ I:=A8.rep z J; An z<|Sq<|Sm z<|Vv (V.P7 A9 z o)<|Mv z<|Nt ?_))
 obtain ⟨ac,ad,q⟩:=J4 H
 have H:=ad
 refine Bl<|T.lk [2,8,23,24] (FUEL,(0:Int),I,(List.replicate w.toNat [.bool false])) (λ⟨e,f,c,a⟩=>([(25,qi f),(9,p)],F3 4 1 p a::L,λhh=>iter (B5e t n w) e (f,c)=some ac∧A8 VB hh a c)) ⟨H,ab⟩ ?_
 rintro ⟨e,f,c,a⟩ a4 a5 ⟨ae,b⟩
 obtain ⟨r,a6,rfl,H,d⟩:=G5 ae
 refine T.norm [25,9,2,8,23,24] z<|T.fl ?_
 refine Sr<|Wl z z<|Nt<|Sq<|T.cH H z (λH=>?_) λH=>?_
 ·refine Ks<|Sq<|Bl<|Sm z<|bE H λg K H=>?_
  obtain ⟨a7,af,rfl⟩:=G9.at o K
  refine Vv (V.ix A9 z z o (E8 K))<|Vv (V.Q9 D6 z af.u z)<|Ag z<|An z<|Sq<|Bl<|Sq ?_
  obtain ⟨ai,aj,ak⟩:=J4 H
  refine T.ck (α:=Bool) [2,8,9,10,11,23,24,25] (λi=>([(30,.bool i)],F3 4 1 p a::L,λhh=>ai=i)) ?_ ?_
  ·have H:=aj
   refine Rg<|Mv z<|We z z<|Mv z<|T.bH 33 H z (λH=>?_) λH=>?_
   ·refine Mv z<|Kt z<|An z<|T.mt n (K9 H)
   refine Sk<|Kf z<|An z<|T.mt false (K9 H)
  rintro i a8 a9 am
  have H:=H7 am ak
  refine T.norm [30,2,8,9,10,11,23,24,25] z<|T.fl ?_
  refine T.cH H z (λH=>?_) λH=>?_
  ·exact Sm z<|Ag z<|Ag z<|Nr<|Br<|Tr<|Br<|Tr<|Tr<|have H:=D5 H d; Br<|Tr<|have H:=H7 H q; T.drop<|E1 H
  refine Sq ?_
  obtain ⟨an,ao,ap⟩:=J4 H
  refine T.ck (α:=Bool) [2,8,9,10,11,23,24,25] (λm=>([(37,.bool m)],F3 4 1 p a::L,λhh=>an=m)) ?_ ?_
  ·have H:=ao
   refine Rg<|Mv z<|Wl z z<|Mv z<|T.bH 40 H z (λH=>?_) λH=>?_
   ·refine S2<|Sk<|Kt z<|An z<|T.mt true (K9 H)
   refine Mv z<|Mv z<|Vv (V.ge z z)<|Kf z<|An z<|T.mt (decide (w≤g)) (K9 H)
  rintro m s ah aq
  have H:=H7 aq ap
  refine T.norm [37,2,8,9,10,11,23,24,25] z<|T.fl ?_
  refine T.cH H z (λH=>?_) λH=>?_
  ·exact Sm z<|Ag z<|Ag z<|Nr<|Br<|Tr<|Br<|Tr<|Tr<|have H:=D5 H d; Br<|Tr<|have H:=H7 H q; T.drop<|E1 H
  refine Sm z<|Vv (V.ge z z)<|Mv z<|T.bH 49 H z (λH=>?_) λH=>?_
  ·refine Mv z<|Mv z<|bE H λal M H=>?_
   obtain ⟨av,ar,rfl⟩:=A8.get b M
   refine Vv (V.ixR A0b z z (j:=0) z (A8.bd b M))<|Vv (V.ldR R3 z (j:=0) z ar z)<|Kt z<|An z<|T.cH H z (λH=>?_) λH=>?_
   ·exact Sm z<|Ag z<|Ag z<|Nr<|Br<|Tr<|Br<|Tr<|Tr<|have H:=D5 H d; Br<|Tr<|have H:=H7 H q; T.drop<|E1 H
   refine T.skip<|Bn<|Th<|Sm z<|Vv (V.ge z z)<|Nt<|T.cH H z (λH=>?_) λH=>?_
   ·refine Rg<|Mv z<|Mv z<|bE H λaz x H=>?_
    obtain ⟨ba,bb,rfl⟩:=A8.get b x
    refine Vv (V.ixR A0b z z (j:=0) z (A8.bd b x))<|bE H λN au H=>To (O.stR R3 z z (j:=0) z (A8.bdN b x) z<|have aw:A8 VB s (a.set g.toNat [.bool true]) N:=A8.set b.u (show VB s [.bool true] true from z) au; Ni<|Bn<|Th<|Rg<|bE H λax ay H=>Ws z z ay<|Mv z<|Nt<|T.ag (r,ax,N,(a.set g.toNat [.bool true])) ⟨(D8 H d),aw⟩)
   refine T.skip<|Bn<|Th<|Rg<|bE H λaA aB H=>Ws z z aB<|Mv z<|Nt<|T.ag (r,aA,c,a) ⟨(D8 H d),b.u⟩
  refine S2<|S2<|Kf z<|An z<|Cf z<|T.skip<|Bn<|Th<|Sm z<|Vv (V.ge z z)<|Nt<|T.cH H z (λH=>?_) λH=>?_
  ·refine Rg<|Mv z<|Mv z<|bE H λbc y H=>?_
   obtain ⟨be,bf,rfl⟩:=A8.get b y
   refine Vv (V.ixR A0b z z (j:=0) z (A8.bd b y))<|bE H λP aC H=>To (O.stR R3 z z (j:=0) z (A8.bdN b y) z<|have aD:A8 VB s (a.set g.toNat [.bool true]) P:=A8.set b.u (show VB s [.bool true] true from z) aC; Ni<|Bn<|Th<|Rg<|bE H λaE aG H=>Ws z z aG<|Mv z<|Nt<|T.ag (r,aE,P,(a.set g.toNat [.bool true])) ⟨(D8 H d),aD⟩)
  refine T.skip<|Bn<|Th<|Rg<|bE H λaI aJ H=>Ws z z aJ<|Mv z<|Nt<|T.ag (r,aI,c,a) ⟨(D8 H d),b.u⟩
 exact Xt<|have H:=D5 H d; Be<|Th<|have H:=H7 H q; Sg z<|Ag z<|Nr<|T.drop<|E1 H
theorem B9p {h a b c d e f g} (w:M7 h a b) (x:G9 (VI .i64) 1 h c d) (H:B7G b d e=some (f,g)):∀ L,FnW prog 122 [.agg a.toArray,c,.bool e] h L (.tuple #[.int .i64 f,.int .i64 g]):=by
 intro L
 obtain ⟨i,j,k,m,n,rfl,o,p,q,r,s⟩:=w
 refine I7.enter func122 z z z<|Sr<|To (O.T9 z z z λG I J t=>Ag z<|An z<|Sq<|Sr<|Vv (V.ldS z t (by exact J7)) ?_)
 refine bE H λ⟨K,M⟩ y H=>To (O.cs (A8s ⟨i,j,k,m,n,z,o.u,p.u,q.u,r.u,s.u⟩ y _) λP U=>Mv z<|Wx z z<|Wx z z<|Ag z<|An z<|Sm z<|Wn z z<|Nt<|T.cH H z (λH=>?_) λH=>?_)
 ·exact Sm z<|Ag z<|Ag z<|Nr<|Tr<|E1 H
 refine Ks<|Sr<|Vv (V.ldS z t.u (by exact J7)) ?_
 exact Mv z<|Mv z<|bE H λ⟨W,X⟩ C H=>To (O.cs (C2r ⟨i,j,k,m,n,z,o.u,p.u,q.u,r.u,s.u⟩ x.u C _) λZ ab=>Wx z z<|Wx z z<|Ag z<|Ag z<|Nr<|E1 H)
theorem B7q {h a b c d e f} (g:M7 h a b) (i:G9 (VI .i64) 1 h c d) (H:B3Q b d=some (e,f)):∀ L,FnW prog 59 [.agg a.toArray,c] h L (.tuple #[.int .i64 e,.int .i64 f]):=by
 intro L
 obtain ⟨j,k,m,n,o,rfl,p,q,r,s,t⟩:=g
 refine I7.enter func59 z z z<|Sr<|To (O.T9 z z z λB C D w=>Ag z<|An z<|Sr<|Vv (V.ldS z w (by exact J7)) ?_)
 exact Mv z<|bE H λ⟨E,G⟩ x H=>To (O.cs (B9p ⟨j,k,m,n,o,z,p.u,q.u,r.u,s.u,t.u⟩ i.u x _) λJ M=>Wx z z<|Wx z z<|Ag z<|Ag z<|Nr<|E1 H)
end Go.Proofs.X
open Go Go.Proofs Go.Proofs.Tryz Go.Sl Go.Dm
namespace Go.Proofs.X
theorem C5T:A5A prog 95=some ([.pointer none,.slice none 0 0,.slice none 0 0,.slice none 0 0,.slice none 0 0,.slice none 0 0,.slice none 0 0,.slice none 0 0,.slice none 0 0],[(0,1),(1,5),(6,1),(7,1),(8,1)]):=by kernel_rfl
theorem C5Z:A0B prog 95=true:=by kernel_rfl
theorem A6p:A0T prog 93=some (84,1,24):=by kernel_rfl
theorem B1i:O5 prog 95 1=some 1:=by kernel_rfl
theorem Z5:O5 prog 95 2=some 6:=by kernel_rfl
theorem A5B:O5 prog 95 3=some 7:=by kernel_rfl
theorem A5d:O5 prog 95 4=some 8:=by kernel_rfl
theorem A8G:U1 prog 93=some (false,1):=by kernel_rfl
theorem A9O {h ad G ae af ai} (aZ:M7 h ad G) (H:A4l G=some (ae,af,ai)):∀ L,I7 prog 58 [.agg ad.toArray] h (L) (λv h' L'=>∃ aj,v=.tuple #[aj,.int .i64 af,.int .i64 ai]∧L'=L∧OPt Q0 h' aj ae):=by
 intro L
 obtain ⟨ak,am,an,ao,aq,rfl,B,ar,au,aw,ax⟩:=aZ
 refine I7.enter func58 z z z<|Sr<|To (O.T9 z z z λcm cn co C=>Ag z<|Ag z<|An z<|Sr<|Vv (V.ldS z C (by exact J7)) ?_)
 refine bE H λ⟨cp,cq,cr⟩ a0 H=>To (O.G6 z (B9n ⟨ak,am,an,ao,aq,z,B.u,ar.u,au.u,aw.u,ax.u⟩ a0 _) z λct cu cw cx a1=>?_)
 obtain ⟨I,rfl,a2,a3⟩:=a1
 refine O8 _ a2<|Mv z<|Wx z z<|Wx z z<|Wx z z<|Ag z<|Ag z<|An z<|Sq<|Sm z<|Wn z z<|Nt<|T.cH H z (λH=>?_) λH=>?_
 ·refine Sm z<|Mv z<|Ag z<|Ag z<|Ag z<|Nr<|Tr ?_
  cases H
  exact T.rl z (RVs.cons (RV.tmp z) (RVs.cons (RV.tmp z) (Rv z))) ⟨_,z,z,OPt.nil⟩
 refine Ks<|Sm z<|Mv z<|bE H λcy a4 H=>have J:=OPt.get a3 a4; bE H λcA a5 H=>To (O.G6 z (B8m J a5 _) z λcB K cC cD a6=>?_)
 obtain ⟨M,N,P,S,U,rfl,a7,a8,a9,ah,al,av⟩:=a6
 refine O8 _ a7<|Vv (V.bld (xs:=[(0,.tmp 20),(1,.tmp 22)]) (cs:=[_,_,_,_,_,_,_,_,_]) C5T C5Z z (F6.cons z (Pt.cells J) z (F6.cons z z z F6.nil)))<|To (O.box z z z λay=>An z<|Sq<|Sr<|Vv (V.fa M0 z)<|Wd 0 O7 z C.u z<|Vv (V.P7 O1 z B)<|Mv z<|Nt ?_)
 obtain ⟨az,ba,bb⟩:=J4 H
 have H:=ba
 refine Bl<|T.rn (VI .i64) 3 1 λbc=>T.rn (VI .i64) 3 1 λbd=>T.rn (VSl (VSl (VI .i64) 1) 1) 84 1 λbe=>T.fs [1,2,3] ?_
 refine T.lk [1,8,27] (FUEL,([]:List Int),([]:List Int),([]:List (List (List Int))),(0:Int),(qs),[],(qs),[],(qs),[]) (λ⟨p,a,q,r,b,n,c,o,d,f,m⟩=>([(28,qi b)],blk ay (.cells [I,M,N,P,S,U,n,o,f].toArray 95)::F3 3 1 n c::F3 3 1 o d::F3 84 1 f m::L,λhh=>iter (A6S G) p (a,q,r,b)=some az∧A8 (VI .i64) hh c a∧A8 (VI .i64) hh d q∧A8 (VSl (VSl (VI .i64) 1) 1) hh m r)) ⟨H,bc,bd,be⟩ ?_
 rintro ⟨p,a,q,r,b,n,c,o,d,f,m⟩ W cE ⟨bf,s,X,Y⟩
 obtain ⟨bg,cG,rfl,H,aA⟩:=G5 bf
 refine T.norm [28,1,8,27] z<|T.fl ?_
 refine Sr<|Wl z z<|Nt<|Sq<|T.cH H z (λH=>?_) λH=>?_
 ·refine Ks<|Sq<|Bl<|Sm z<|An z<|Sq<|T.fs [2,1,2] ?_
  refine T.dw (.vs [0,1,2,3] (.x 4 (.vs [5,6,7] (.alt 8 (.v 9 (.alt 10 (.alt 11 (.g (.v 12 (.v 13 (.alt 14 .done .no)))) .no) .no)) .no)))) 11 3 1 ?_
  refine Tm z z<|Tm z z<|TF z z z A5B<|T.tx z z (Val.XA λ_ _ _=>V.ldO (k:=7) D9 z (j:=1) z z) z Calm.i<|Tm z z<|TF z z z Z5<|Ts z z (X3 [0] [2,2,2] z z) (V.ldO (k:=6) D9 z (j:=1) z z) z ?_ T.O4
  refine Tv z (Val.XA λ_ _ _=>V.A2p A9 z (j:=0) z s.len)<|Tp z z (X3 [0] [2,2,2] z z) (O.bq A9 J6 [.tmp 40] (VI .i64) [[qi (a.length:Int)]] [(a.length:Int)] λcI Z=>?_) T.O4
  refine bE H λaB aC H=>Tp z z (X3 [1] [3,3,3] z z) (O.ax A9 J6 3 X Z aC VI.plain λD bi=>?_) T.O4
  refine T.fl ?_
  refine T.fs [1] ?_
  refine T.drop<|T.N8 Lr<|TF z z z A5B<|T.Q7 0 z λbj bk=>Tp z z (SX.one (XA.fr [1] Lr z) z) (O.st (vs:=[D]) (k:=7) D9 z z (j:=2) z bk (by (simp only [BT,bj]) <;> rfl) ?_) T.O4
  refine T.fl ?_
  refine T.M9 (SX.one (XA.fr [2] Lr z) z)<|Th<|Sq ?_
  obtain ⟨bm,bn,bo⟩:=J4 H
  refine T.ck (α:=(List Int)×Value×(List (List Value))) [1,8,9,27,28] (λ⟨w,y,A⟩=>([],blk ay (.cells [I,M,N,P,S,U,y,D,f].toArray 95)::F3 3 1 D (d++[[qi (a.length:Int)]])::F3 84 1 f m::F3 3 1 y A::L,λhh=>bm=w∧A8 (VI .i64) hh A w)) ?_ ?_
  ·have H:=bn
   refine T.fs [2,1] ?_
   refine T.dw (.vs [0,1,2,3] (.x 4 (.vs [5,7,8,9,10,11] (.alt 6 (.alt 12 (.g (.alt 13 (.g (.alt 14 (.g (.v 15 (.v 16 (.alt 17 .done .no)))) .no)) .no)) .no) (.alt 12 (.g (.alt 6 (.alt 13 (.g (.alt 14 (.g (.v 15 (.v 16 (.alt 17 .done .no)))) .no)) .no) .no)) .no))))) 14 2 0 ?_
   refine Tm z z<|Tm z z<|TF z z z Z5<|T.tx z z (Val.XA λ_ _ _=>V.ldO (k:=6) D9 z (j:=0) z z) z Calm.i<|Tm z z<|Tv z (V.fa M0 z)<|Td z 0 O7 z C.u z<|Tm z z<|bE H λcM aD H=>?_
   obtain ⟨cN,bp,⟨aE,rfl,aG⟩⟩:=G9.at B aD
   refine Tv z (V.ix O1 z z B (E8 aD))<|Tv z (V.ldS z bp.u (by exact I8)) ?_
   refine T.C3n ?_ ?_
   ·refine Tp z z (X3 [] [1,1] z z) (O.bq A9 J6 [.tmp 50] (VI .i64) [[qi b]] [b] λcO bq=>?_) T.O4
    refine bE H λcP br H=>Tp z z (X3 [] [2,2] z z) (O.G6 z (B5A ⟨aE,z,aG.u⟩ br _) z λcS cU cV cW bt=>?_) T.O4
    obtain ⟨rfl,bu⟩:=bt
    refine O8 _ bu<|T.N8 Li<|T.J8 λcX cY bw=>have bx:=A8.slc bw bq.u; bE H λcZ bA H=>Tp z z (SX.two (XA.fr [] Li z) (XA.fr [1,1] Li z)) (O.G6 z (A9h bx bA _) z λc0 bB c1 c2 bC=>?_) T.O4
    obtain ⟨aI,bD,aa⟩:=bC
    refine O8 _ bD<|T.N8 Li<|T.wide 0 z λbG=>bE H λaJ aK H=>Tp z z (X3 [] [2,2] z z) (O.apX A9 A9 J6 z z z (j:=2) z (Src.row (j:=0) z) bG (A8.ones VI.plain aa) s.u aa aK z λaM c3 c4=>?_) T.O4
    have bI:A8 (VI .i64) bB (c++aI) aJ:=A8.ap s.u aa aK
    refine T.fl ?_
    refine T.N8 Lr<|TF z z z Z5<|T.Q7 0 z λbJ bK=>Tp z z (SX.one (XA.fr [] Lr z) z) (O.st (vs:=[aM]) (k:=6) D9 z z (j:=2) z bK (by (simp only [BT,bJ]) <;> rfl) ?_) T.O4
    refine T.fl ?_
    refine T.M9 (SX.one (XA.fr [] Lr z) z)<|Th<|T.fs [2] ?_
    refine T.drop<|T.fs [1,3,3,3] ?_
    exact T.mt (aJ,aM,(c++aI)) ⟨(K9 H),bI⟩
   refine bE H λc5 bM H=>Tp z z (X3 [] [1,1] z z) (O.G6 z (B5A ⟨aE,z,aG.u⟩ bM _) z λc6 bN c7 c8 bO=>?_) T.O4
   obtain ⟨rfl,bP⟩:=bO
   refine O8 _ bP<|T.N8 Li<|Tp z z (X3 [] [1,1] z z) (O.bq A9 J6 [.tmp 50] (VI .i64) [[qi b]] [b] λc9 bS=>?_) T.O4
   refine T.J8 λch cl bU=>have bV:=A8.slc bU bS.u; bE H λcv bW H=>Tp z z (SX.two (XA.fr [] Li z) (XA.fr [1,1] Li z)) (O.G6 z (A9h bV bW _) z λcz bX da db bY=>?_) T.O4
   obtain ⟨aN,bZ,ab⟩:=bY
   refine O8 _ bZ<|T.N8 Li<|T.wide 0 z λb0=>bE H λaO aP H=>Tp z z (X3 [] [2,2] z z) (O.apX A9 A9 J6 z z z (j:=2) z (Src.row (j:=0) z) b0 (A8.ones VI.plain ab) s.u ab aP z λaS dc dd=>?_) T.O4
   have b1:A8 (VI .i64) bX (c++aN) aO:=A8.ap s.u ab aP
   refine T.fl ?_
   refine T.N8 Lr<|TF z z z Z5<|T.Q7 0 z λb2 b3=>Tp z z (SX.one (XA.fr [] Lr z) z) (O.st (vs:=[aS]) (k:=6) D9 z z (j:=2) z b3 (by (simp only [BT,b2]) <;> rfl) ?_) T.O4
   refine T.fl ?_
   refine T.M9 (SX.one (XA.fr [] Lr z) z)<|Th<|T.fs [2] ?_
   refine T.drop<|T.fs [1,3,3,3] ?_
   exact T.mt (aO,aS,(c++aN)) ⟨(K9 H),b1⟩
  rintro ⟨w,y,A⟩ de df ⟨b4,b5⟩
  have H:=H7 b4 bo
  refine T.norm [1,8,9,27,28] z<|T.fl ?_
  refine T.fs [2,1] ?_
  refine T.dw (.vs [0,1,2,3] (.x 4 (.v 5 (.v 6 (.alt 7 (.g (.alt 8 (.alt 9 (.g (.v 10 (.v 11 (.alt 12 .done .no)))) .no) .no)) .no))))) 9 2 0 ?_
  refine Tm z z<|Tm z z<|TF z z z A5d<|T.tx z z (Val.XA λ_ _ _=>V.ldO (k:=8) A8G z (j:=0) z z) z Calm.i<|Tv z (V.ldS z C.u (by exact J7)) ?_
  refine Tm z z<|bE H λb6 b7 H=>Tp z z (X3 [] [1,1] z z) (O.G6 z (C1I ⟨ak,am,an,ao,aq,z,B.u,ar.u,au.u,aw.u,ax.u⟩ b7 _) z λE dg di dj b8=>?_) T.O4
  obtain ⟨dk,b9,bh⟩:=b8
  refine O8 _ b9<|T.N8 Li<|T.J8 λaU dm bl=>have aV:=A8.slc bl bh.u; Tp z z (SX.two (XA.fr [] Li z) (XA.fr [1,1] Li z)) (O.bq A6p A9D [.tmp 69] (VSl (VSl (VI .i64) 1) 1) [[E]] [b6] (hE:=(A8.cons ⟨E,z,aV⟩ A8.nil)) λdn ac=>?_) T.O4
  refine bE H λaW aX H=>Tp z z (SX.two (XA.fr [] Li z) (XA.fr [2,2] Li z)) (O.ax A6p A9D 2 Y.u ac aX VSl.plain λaY bv=>?_) T.O4
  refine T.fl ?_
  refine T.fs [1] ?_
  refine T.drop<|T.N8 Li<|TF z z z A5d<|T.Q7 0 z λbz ca=>Tp z z (SX.one (XA.fr [] Lr z) z) (O.st (vs:=[aY]) (k:=8) A8G z z (j:=1) z ca (by (simp only [BT,bz]) <;> rfl) ?_) T.O4
  refine T.fl ?_
  refine T.M9 (SX.one (XA.fr [] Lr z) z)<|Bn<|Th<|Rg<|bE H λcb cc H=>Ws z z cc<|Mv z<|Nt<|T.fs [1,2,3,3] ?_
  exact T.ag (bg,w,aB,aW,cb,y,A,D,(d++[[qi (a.length:Int)]]),aY,(m++[[E]])) ⟨(D8 H aA),b5.u,bi.u,bv⟩
 refine Xt<|have H:=D5 H aA; Be<|Th<|have H:=H7 H bb; Sm z<|Ag z<|Ag z<|Ag z<|Nr<|T.fs [1] ?_
 refine T.J8 λdr ds cd=>have ce:=A8.slc cd s.u; T.fs [1] ?_
 refine T.J8 λdt du cf=>have cg:=A8.slc cf X.u; Fr_ 1 z<|T.J8 λdw dx ci=>have cj:=A8.slc ci Y.u; T.C0E λdy dA ck=>?_
 cases H
 exact T.rl z (RVs.cons (RV.tmp z) (RVs.cons (RV.tmp z) (Rv z))) ⟨_,z,z,(OPt.some (Pt.mk ck ⟨I,M,N,P,S,U,n,o,f,z,J.u,a8.u,a9.u,ah.u,al.u,av.u,ce.u,cg.u,cj.u⟩))⟩
theorem B0h {h d e g} (H:A6l d e=some g):∀ L,FnW prog 60 [.int .i64 d,.int .i64 e] h L (.int .i64 g):=by
 intro L
 refine I7.enter func60 z z z<|Sr<|An z<|Sr<|An z<|Sq<|Sm z<|Mv z<|Nt ?_
 obtain ⟨j,k,i⟩:=J4 H
 have H:=k
 refine Bl<|T.lk [0,7] (FUEL,(1:Int),(0:Int)) (λ⟨a,b,c⟩=>([(5,qi b),(8,qi c)],L,λhh=>iter (A6N d e) a (b,c)=some j)) H ?_
 rintro ⟨a,b,c⟩ t u m
 obtain ⟨n,w,rfl,H,f⟩:=G5 m
 refine T.norm [5,8,0,7] z<|T.fl ?_
 refine Sr<|Wl z z<|Nt<|Sq<|T.cH H z (λH=>?_) λH=>?_
 ·refine Ks<|Sq<|Bl<|Sm z<|An z<|Sm z<|Mv z<|Mv z<|bE H λx o H=>Vv (V.X9 z z o)<|bE H λp q H=>Vv (V.A9y z z q)<|An z<|Sm z<|Wg z z<|Nt<|T.cH H z (λH=>?_) λH=>?_
  ·exact Sm z<|Ag z<|Nr<|Br<|Tr<|Tr<|have H:=D5 H f; Br<|Tr<|have H:=H7 H i; E1 H
  refine T.skip<|Bn<|Th<|Rg<|bE H λr s H=>Ws z z s<|Mv z<|Nt<|T.ag (n,p,r) (D8 H f)
 exact Xt<|have H:=D5 H f; Be<|Th<|have H:=H7 H i; Sm z<|Ag z<|Nr<|E1 H
theorem A1v {h a b c d} (n:M7 h a b) (H:A0r b=some (c,d)):∀ L,I7 prog 27 [.agg a.toArray] h (L) (λv h' L'=>∃ e,v=.tuple #[e,.int .i64 d]∧L'=L∧OPt Q0 h' e c):=by
 intro L
 obtain ⟨o,p,q,r,s,rfl,w,f,x,y,A⟩:=n
 refine I7.enter func27 z z z<|Sr<|To (O.T9 z z z λam an ao i=>Ag z<|An z<|Sr<|Vv (V.ldS z i (by exact J7)) ?_)
 refine bE H λ⟨ap,aq,ar⟩ B H=>To (O.G6 z (A9O ⟨o,p,q,r,s,z,w.u,f.u,x.u,y.u,A.u⟩ B _) z λau aw ax ay C=>?_)
 obtain ⟨aA,rfl,D,E⟩:=C
 refine O8 _ D<|Mv z<|Wx z z<|Wx z z<|Wx z z<|Ag z<|Ag z<|An z<|Sq<|Sm z<|Wn z z<|Nt<|T.cH H z (λH=>?_) λH=>?_
 ·refine Sm z<|Ag z<|Ag z<|Nr<|Tr ?_
  cases H
  exact T.rl z (RVs.cons (RV.tmp z) (Rv z)) ⟨_,z,z,OPt.nil⟩
 refine Ks<|Sq<|Sq<|T.dw (.vs [0,1,2,3,4,5,6,7] (.alt 8 (.g (.v 9 .done)) .no)) 11 0 0 ?_
 refine Tm z z<|bE H λaB G H=>have I:=OPt.get E G; have J:=I; ?_
 obtain ⟨aC,_,rfl,j,⟨K,M,N,P,S,U,W,X,Y,rfl,Z,aa,ab,ac,ad,ae,m,af,ag⟩⟩:=J
 refine TL z z z z Z5 D9 j z<|Tv z (V.P7 A9 z m)<|Tv z (V.fa Q3 z)<|Td z 1 M8 z i.u z<|Tv z (V.P7 O3 z f)<|bE H λaD ai H=>Tp z z (X2 z z) (O.G6 z (B0h ai _) z λaE aG aI aJ aj=>?_) T.O4
 obtain ⟨rfl,ak⟩:=aj
 refine O8 _ ak<|T.N8 Li<|Tv z (V.gt z z)<|T.M9 (X2 z z)<|Th<|T.cH H z (λH=>?_) λH=>?_
 ·refine Sg z<|Ag z<|Nr<|Tr ?_
  cases H
  exact T.rl z (RVs.cons (RV.tmp z) (Rv z)) ⟨_,z,z,OPt.nil⟩
 refine Ks<|Sm z<|Ag z<|Ag z<|Nr ?_
 cases H
 exact T.rl z (RVs.cons (RV.tmp z) (Rv z)) ⟨_,z,z,(OPt.some (Pt.mk j.u ⟨K,M,N,P,S,U,W,X,Y,z,Z.u,aa.u,ab.u,ac.u,ad.u,ae.u,m.u,af.u,ag.u⟩))⟩
theorem A1L {h a b c} (e:Pt Q0 h a b) (H:A1y b=some c):∀ L,I7 prog 29 [a] h (L) (λv h' L'=>∃ d,L'=F3 3 1 v d::L∧A8 (VI .i64) h' d c):=by
 intro L
 refine I7.enter func29 z z z<|Sr<|An z<|Sr<|To (O.b1 (E:=VI .i64) A9 J6 z z z z z λs f=>Mv z<|have g:=e; ?_)
 obtain ⟨t,_,rfl,i,⟨w,x,y,A,B,C,D,G,I,rfl,J,K,j,M,N,P,S,U,W⟩⟩:=g
 refine NF z B1i<|Vv (V.fa Q3 z)<|Wd 2 M8 z i z<|Vv (V.P7 O3 z j)<|T.J8 λX Y m=>have n:=A8.slc m f.u; bE H λZ o H=>To (O.G6 z (A9h n o _) z λaa ab ac ad p=>?_)
 obtain ⟨ae,q,r⟩:=p
 refine O8 _ q<|Ag z<|Nr ?_
 cases H
 exact T.rl z (Rv z) ⟨_,z,r⟩
theorem C2H {h j m n f g o p} (M:Pt Q0 h j m) (a:G9 (VI .i64) 1 h n f) (H:C1l m f g o=some p):∀ L,FnW prog 135 [j,n,.int .i64 g,.int .i64 o] h L (.bool p):=by
 intro L
 refine I7.enter func135 z z z<|Sr<|An z<|Sq<|T.dw (.vs [0,1,2,3,4,5,6,7,8,9] (.alt 10 .done .no)) 12 0 0 ?_
 refine Tm z z<|have N:=M; ?_
 obtain ⟨aq,_,rfl,d,⟨ar,au,aw,ax,ay,aA,aB,aC,aD,rfl,aE,aG,aI,aJ,aK,aM,q,r,e⟩⟩:=N
 refine TL z z z z Z5 D9 d z<|Tm z z<|Tm z z<|bE H λaN s H=>?_
 obtain ⟨aO,O,rfl⟩:=G9.at a s
 refine Tv z (V.ix A9 z z a (E8 s))<|Tv z (V.Q9 D6 z O z)<|bE H λaP w H=>?_
 obtain ⟨aS,P,rfl⟩:=G9.at q w
 refine Tv z (V.ix A9 z z q (E8 w))<|Tv z (V.Q9 D6 z P z)<|Ts z z (X2 z z) (V.asg z) z ?_ T.O4
 refine T.M9 (X2 z z)<|Th<|Sq<|Sm z<|Wl z z<|Mv z<|T.bH 26 H z dead λH=>Mv z<|Mv z<|NL z A5d A8G d z<|Mv z<|bE H λaU x H=>?_
 obtain ⟨aV,S,⟨aW,rfl,U⟩⟩:=G9.at e x
 refine Vv (V.ix A6p z z e (E8 x))<|Vv (V.Q9 S9 z S z)<|Vv (V.P7 K7 z U)<|Vv (V.ge z z)<|Kf z<|Nt<|T.cH H z dead λH=>Ks<|Sq<|T.dw (.vs [0,1,2,3,4,5,6,7,8,9,10,11,12,13,14,15,16] (.alt 17 (.alt 18 .done .no) .no)) 20 0 0 ?_
 refine Tm z z<|TL z z z z A5d A8G d z<|Tm z z<|bE H λaX y H=>?_
 obtain ⟨aY,W,⟨aZ,rfl,A⟩⟩:=G9.at e y
 refine Tv z (V.ix A6p z z e (E8 y))<|Tv z (V.Q9 S9 z W z)<|Tm z z<|bE H λa0 B H=>?_
 obtain ⟨a1,X,⟨a2,rfl,C⟩⟩:=G9.at A B
 refine Tv z (V.ix K7 z z A (E8 B))<|Tv z (V.Q9 D9 z X z)<|Tm z z<|TL z z z z A5B D9 d z<|Tm z z<|bE H λa3 D H=>?_
 obtain ⟨a4,Y,rfl⟩:=G9.at r D
 refine Tv z (V.ix A9 z z r (E8 D))<|Tv z (V.Q9 D6 z Y z)<|Ts z z (X2 z z) (V.asg z) z ?_ T.O4
 refine Ts z z (X2 z z) (V.asg z) z ?_ T.O4
 refine T.M9 (X2 z z)<|Th<|Sq<|Sq<|T.norm [0,1,2,9,10,11] z<|Rg<|Mv z<|Vv (V.P7 A9 z a)<|Mv z<|Nt ?_
 obtain ⟨Z,aa,ab⟩:=J4 H
 have H:=aa
 refine Bl<|T.lk [0,1,2,9,10,11,55,56] (FUEL,(0:Int)) (λ⟨b,c⟩=>([(57,qi c)],L,λhh=>iter (B5I f g) b c=some Z)) H ?_
 rintro ⟨b,c⟩ a5 a6 ac
 obtain ⟨E,a7,rfl,H,i⟩:=G5 ac
 refine T.norm [57,0,1,2,9,10,11,55,56] z<|T.fl ?_
 refine Sr<|Wl z z<|Nt<|Sq<|T.cH H z (λH=>?_) λH=>?_
 ·refine Ks<|Sq<|Bl<|Sm z<|bE H λa8 G H=>?_
  obtain ⟨a9,ad,rfl⟩:=G9.at a G
  refine Vv (V.ix A9 z z a (E8 G))<|Vv (V.Q9 D6 z ad.u z)<|Ag z<|An z<|Sm z<|Mv z<|Wn z z<|Mv z<|T.bH 65 H z (λH=>?_) λH=>?_
  ·refine Mv z<|Vv (V.ge z z)<|Kt z<|Mv z<|T.bH 69 H z dead λH=>S2<|S2<|S2<|S2<|Sk<|Kf z<|Mv z<|S2<|S2<|S2<|S2<|S2<|Kf z<|Nt<|Cf z<|T.skip<|Bn<|Th<|Rg<|bE H λae af H=>Ws z z af<|Mv z<|Nt<|T.ag (E,ae) (D8 H i)
  refine S2<|Kf z<|Mv z<|S2<|S2<|S2<|S2<|Sk<|Kf z<|Mv z<|S2<|S2<|S2<|S2<|S2<|Kf z<|Nt<|Cf z<|T.skip<|Bn<|Th<|Rg<|bE H λai aj H=>Ws z z aj<|Mv z<|Nt<|T.ag (E,ai) (D8 H i)
 refine Xt<|have H:=D5 H i; Be<|Th<|have H:=H7 H ab; Sq<|T.dw (.vs [0,1,2,3,4,5,6,7,8,9,10,11,12,13,14,15] (.alt 16 .done .no)) 18 0 0 ?_
 refine Tm z z<|Tm z z<|Tm z z<|bE H λah I H=>?_
 obtain ⟨al,ak,rfl⟩:=G9.at a I
 refine Tv z (V.ix A9 z z a (E8 I))<|Tv z (V.Q9 D6 z ak.u z)<|Tm z z<|bE H λav am H=>Tv z (V.X9 z z am)<|bE H λaz J H=>?_
 obtain ⟨ba,an,rfl⟩:=G9.at C J
 refine Tv z (V.ix A9 z z C (E8 J))<|Tv z (V.Q9 D6 z an.u z)<|Tm z z<|Tm z z<|bE H λbb K H=>?_
 obtain ⟨bc,ao,rfl⟩:=G9.at a K
 refine Tv z (V.ix A9 z z a (E8 K))<|Tv z (V.Q9 D6 z ao.u z)<|Tm z z<|bE H λbd ap H=>Tv z (V.X9 z z ap)<|Tv z (V.lt z z)<|Ts z z (X2 z z) (V.asg z) z ?_ T.O4
 exact T.M9 (X2 z z)<|Th<|T.ret<|E1 H
theorem A6L {h w g x i y} (U:Pt Q0 h w g) (o:G9 (VI .i64) 1 h x i) (H:A6E g i=some y):∀ L,FnW prog 30 [w,x] h L (.bool y):=by
 intro L
 refine I7.enter func30 z z z<|Sr<|An z<|Sq<|Sm z<|have W:=U; ?_
 obtain ⟨aK,_,rfl,m,⟨aM,aN,aO,aP,aS,aU,aV,aW,aX,rfl,aY,aZ,a0,a1,a2,a3,A,n,p⟩⟩:=W
 refine NL z A5d A8G m z<|Vv (V.P7 A6p z p)<|Mv z<|Nt ?_
 obtain ⟨X,Y,B⟩:=J4 H
 have H:=Y
 refine Bl<|T.lk [0,1,15,16] (FUEL,(0:Int)) (λ⟨b,a⟩=>([(17,qi a)],L,λhh=>iter (B0R g i) b a=some X)) H ?_
 rintro ⟨b,a⟩ a4 a5 Z
 obtain ⟨aa,a6,rfl,H,q⟩:=G5 Z
 refine T.norm [17,0,1,15,16] z<|T.fl ?_
 refine Sr<|Wl z z<|Nt<|Sq<|T.cH H z (λH=>?_) λH=>?_
 ·refine Ks<|Sq<|Bl<|Sm z<|bE H λab C H=>?_
  obtain ⟨a7,ac,⟨a8,rfl,r⟩⟩:=G9.at p C
  refine Vv (V.ix A6p z z p (E8 C))<|Vv (V.Q9 S9 z ac.u z)<|Ag z<|An z<|Sm z<|Vv (V.P7 K7 z r)<|Mv z<|Nt<|T.A0G ?_
  obtain ⟨ad,ae,D⟩:=J4 H
  have H:=ae
  refine Bl<|T.lk [0,1,5,15,16,17,22,23] (FUEL,(0:Int)) (λ⟨c,d⟩=>([(24,qi d)],L,λhh=>iter (B0x g i a ab) c d=some ad)) H ?_
  rintro ⟨c,d⟩ a9 ah af
  obtain ⟨ai,al,rfl,H,s⟩:=G5 af
  refine T.norm [24,0,1,5,15,16,17,22,23] z<|T.fl ?_
  refine Sr<|Wl z z<|Nt<|Sq<|T.cH H z (λH=>?_) λH=>?_
  ·refine Ks<|Sq<|Bl<|Sr<|bE H λaj E H=>?_
   obtain ⟨av,ak,⟨az,rfl,G⟩⟩:=G9.at r E
   refine Vv (V.ix K7 z z r (E8 E))<|Vv (V.Q9 D9 z ak.u z)<|An z<|Sm z<|Vv (V.P7 A9 z o)<|Mv z<|Nt<|T.A0G ?_
   obtain ⟨I,am,J⟩:=J4 H
   refine T.ck (α:=Unit) [0,1,5,15,16,17,22,23,24] (λ_=>([],L,λhh=>I=(Sum.inl ()))) ?_ ?_
   ·have H:=am
    refine Bl<|T.lk [0,1,5,8,15,16,17,22,23,24,28,29] (FUEL,(0:Int)) (λ⟨e,f⟩=>([(30,qi f)],L,λhh=>iter (B0S g i a aj) e f=some I)) H ?_
    rintro ⟨e,f⟩ ba bb an
    obtain ⟨K,bc,rfl,H,j⟩:=G5 an
    refine T.norm [30,0,1,5,8,15,16,17,22,23,24,28,29] z<|T.fl ?_
    refine Sr<|Wl z z<|Nt<|Sq<|T.cH H z (λH=>?_) λH=>?_
    ·refine Ks<|Sq<|Bl<|Sr<|bE H λbd M H=>?_
     obtain ⟨be,ao,rfl⟩:=G9.at o M
     refine Vv (V.ix A9 z z o (E8 M))<|Vv (V.Q9 D6 z ao.u z)<|An z<|Sq<|Sm z<|NL z Z5 D9 m.u z<|Mv z<|bE H λbf N H=>?_
     obtain ⟨bg,ap,rfl⟩:=G9.at A N
     refine Vv (V.ix A9 z z A (E8 N))<|Vv (V.Q9 D6 z ap.u z)<|Mv z<|Wn z z<|Nt<|T.cH H z (λH=>?_) λH=>?_
     ·refine T.exit<|Te<|Be<|Th<|Rg<|bE H λaq ar H=>Ws z z ar<|Mv z<|Nt<|T.ag (K,aq) (D8 H j)
     refine Ks<|Sq<|T.dw (.vs [0,1,2,3,4,5,6,7,8,9,10,11,12,13,14,15,16,17,18,19] (.alt 20 .done .no)) 22 0 0 ?_
     refine Tm z z<|TL z z z z A5B D9 m.u z<|Tm z z<|bE H λbi O H=>?_
     obtain ⟨bj,au,rfl⟩:=G9.at n O
     refine Tv z (V.ix A9 z z n (E8 O))<|Tv z (V.Q9 D6 z au.u z)<|Tm z z<|Tm z z<|Tm z z<|TL z z z z A5B D9 m.u z<|Tm z z<|bE H λbk P H=>?_
     obtain ⟨bm,aw,rfl⟩:=G9.at n P
     refine Tv z (V.ix A9 z z n (E8 P))<|Tv z (V.Q9 D6 z aw.u z)<|bE H λbn ax H=>Tv z (V.X9 z z ax)<|bE H λbo S H=>?_
     obtain ⟨bp,ay,rfl⟩:=G9.at G S
     refine Tv z (V.ix A9 z z G (E8 S))<|Tv z (V.Q9 D6 z ay.u z)<|bE H λbq aA H=>Tv z (V.C6P z z aA)<|Ts z z (X2 z z) (V.asg z) z ?_ T.O4
     refine T.M9 (X2 z z)<|Th<|Sq<|Sq<|T.norm [0,1,5,8,10,11,15,16,17,22,23,24,28,29,30] z<|Rg<|Mv z<|Mv z<|Wl z z<|Nt<|T.cH H z (λH=>?_) λH=>?_
     ·exact Sg z<|Nr<|Tr<|Br<|Tr<|Tr<|have H:=D5 H j; Br<|Tr<|have H:=H7 H J; Br<|Tr<|Tr<|have H:=D5 H s; Br<|Tr<|have H:=H7 H D; Br<|Tr<|Tr<|have H:=D5 H q; Br<|Tr<|have H:=H7 H B; E1 H
     refine Ks<|Sm z<|Mv z<|Wg z z<|Nt<|T.cH H z (λH=>?_) λH=>?_
     ·refine T.exit<|T.blX z<|Te<|Te<|have H:=D5 H j; Be<|Th<|T.mt () H
     refine T.skip<|Bn<|Th<|Rg<|bE H λaB aC H=>Ws z z aC<|Mv z<|Nt<|T.ag (K,aB) (D8 H j)
    refine Xt<|have H:=D5 H j; Be<|Th<|T.mt () H
   rintro _ br bs aD
   have H:=H7 aD J
   refine T.norm [0,1,5,15,16,17,22,23,24] z<|T.fl ?_
   refine Bn<|Th<|Rg<|bE H λaE aG H=>Ws z z aG<|Mv z<|Nt<|T.ag (ai,aE) (D8 H s)
  refine Xt<|have H:=D5 H s; Be<|Th<|have H:=H7 H D; Bn<|Th<|Rg<|bE H λaI aJ H=>Ws z z aJ<|Mv z<|Nt<|T.ag (aa,aI) (D8 H q)
 exact Xt<|have H:=D5 H q; Be<|Th<|have H:=H7 H B; Sg z<|Nr<|E1 H
theorem C0T {h f g i j} (r:M7 h f g) (H:B8Z g=some (i,j)):∀ L,FnW prog 32 [.agg f.toArray] h L (.tuple #[.int .i64 i,.int .i64 j]):=by
 intro L
 obtain ⟨s,t,w,x,y,rfl,A,m,B,C,D⟩:=r
 refine I7.enter func32 z z z<|Sr<|To (O.T9 z z z λaN aO aP n=>Ag z<|An z<|Sr<|Vv (V.ldS z n (by exact J7)) ?_)
 refine bE H λ⟨E,aS⟩ G H=>To (O.G6 z (A1v ⟨s,t,w,x,y,z,A.u,m.u,B.u,C.u,D.u⟩ G _) z λaU aV aW aX I=>?_)
 obtain ⟨J,rfl,K,M⟩:=I
 refine O8 _ K<|Mv z<|Wx z z<|Wx z z<|Ag z<|An z<|Sq<|Sm z<|Wn z z<|Nt<|T.cH H z dead λH=>Ks<|Sr<|An z<|Sq<|Sr<|Vv (V.fa Q3 z)<|Wd 1 M8 z n.u z<|Vv (V.P7 O3 z m)<|bE H λN P H=>Ws z z P<|Mv z<|Nt ?_
 obtain ⟨S,U,W⟩:=J4 H
 have H:=U
 refine Bl<|T.lk [19] (FUEL,(0:Int),E,(0:Int),J) (λ⟨a,b,c,d,e⟩=>([(20,qi b),(4,e),(6,qi d)],L,λhh=>iter (B4l N) a (b,c,d)=some S∧OPt Q0 hh e c)) ⟨H,M⟩ ?_
 rintro ⟨a,b,c,d,e⟩ aY aZ ⟨X,Y⟩
 obtain ⟨Z,a0,rfl,H,o⟩:=G5 X
 refine T.norm [20,4,6,19] z<|T.fl ?_
 refine Sr<|Wl z z<|Nt<|Sq<|T.cH H z (λH=>?_) λH=>?_
 ·refine Ks<|Sq<|Bl<|Sm z<|An z<|Rg<|Mv z<|Mv z<|bE H λaa ab H=>have ac:=OPt.get Y ab; have ad:=ac; ?_
  obtain ⟨ae,_,rfl,p,⟨af,ai,aj,ak,am,an,ao,ap,aq,rfl,ar,au,aw,ax,ay,aA,q,aB,aC⟩⟩:=ad
  refine NL z Z5 D9 p z<|Vv (V.P7 A9 z q)<|Mv z<|bE H λa1 aD H=>To (O.G6 z (B0h aD _) z λa2 a3 a4 a5 aE=>?_)
  obtain ⟨rfl,aG⟩:=aE
  refine O8 _ aG<|bE H λaI aJ H=>Ws z z aJ<|Ag z<|Ni<|Bn<|Th<|Rg<|bE H λaK aM H=>Ws z z aM<|Mv z<|Nt<|T.ag (Z,aK,(some aa),aI,(.pointer (some ae))) ⟨(D8 H o),(OPt.some (Pt.mk p.u ⟨af,ai,aj,ak,am,an,ao,ap,aq,z,ar.u,au.u,aw.u,ax.u,ay.u,aA.u,q.u,aB.u,aC.u⟩))⟩
 exact Xt<|have H:=D5 H o; Be<|Th<|have H:=H7 H W; Sm z<|Ag z<|Ag z<|Nr<|E1 H
end Go.Proofs.X
