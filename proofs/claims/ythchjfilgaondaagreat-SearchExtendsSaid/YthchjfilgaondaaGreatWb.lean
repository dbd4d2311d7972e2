import Derived.Test.YthchjfilgaondaaGreatChecked
import Derived.KernelRfl
import Derived.Test.YthchjfilgaondaaGreatV
import Derived.Test.YthchjfilgaondaaGreatL12
import Derived.Test.YthchjfilgaondaaGreatDa
import Derived.Test.YthchjfilgaondaaGreatWa
/- Walks. -/
set_option maxRecDepth 1000000
set_option maxHeartbeats 40000000
set_option linter.unusedVariables false
set_option linter.unusedSimpArgs false
set_option linter.unusedSectionVars false
set_option linter.unnecessarySimpa false
open Go Go.Proofs Go.Proofs.Tryz Go.Sl Go.Dm
namespace Go.Proofs.X
theorem X5:A1j prog 100=some (4,1,1):=by kernel_rfl
theorem B2t:A1j prog 101=some (112,1,8):=by kernel_rfl
theorem A3v:A1j prog 102=some (100,1,24):=by kernel_rfl
theorem A1O:A1j prog 103=some (122,1,24):=by kernel_rfl
theorem B0a:A1j prog 122=some (124,1,1):=by kernel_rfl
theorem M3:O8 prog 105 0=some 0:=by kernel_rfl
theorem U8:O8 prog 105 2=some 6:=by kernel_rfl
theorem A9r:O8 prog 105 3=some 7:=by kernel_rfl
theorem B2K:O8 prog 105 4=some 8:=by kernel_rfl
theorem A2i:O8 prog 105 5=some 9:=by kernel_rfl
theorem A4J:O8 prog 105 6=some 10:=by kernel_rfl
theorem B2m:O8 prog 105 7=some 11:=by kernel_rfl
theorem A7g:O8 prog 105 8=some 12:=by kernel_rfl
theorem A4H:O8 prog 105 9=some 13:=by kernel_rfl
theorem B7a:O8 prog 121 6=some 6:=by kernel_rfl
theorem C4l:O8 prog 121 7=some 7:=by kernel_rfl
theorem G8:O8 prog 134 0=some 0:=by kernel_rfl
theorem Q4:O8 prog 134 1=some 1:=by kernel_rfl
theorem B2z:O8 prog 134 2=some 2:=by kernel_rfl
theorem B1c:O8 prog 97 0=some 0:=by kernel_rfl
theorem A0N:O8 prog 97 1=some 1:=by kernel_rfl
theorem A8P:O8 prog 97 3=some 3:=by kernel_rfl
theorem B2F:U7 prog 100=some (false,1):=by kernel_rfl
theorem B6f:U7 prog 101=some (false,1):=by kernel_rfl
theorem B0g:U7 prog 102=some (false,1):=by kernel_rfl
theorem A7G:U7 prog 103=some (false,1):=by kernel_rfl
theorem C6s:U7 prog 112=some (false,1):=by kernel_rfl
theorem C0z:U7 prog 122=some (false,1):=by kernel_rfl
theorem R7:U7 prog 131=some (false,1):=by kernel_rfl
theorem B6I:U7 prog 218=some (false,1):=by kernel_rfl
theorem U6:U7 prog 4=some (false,1):=by kernel_rfl
theorem I8:U7 prog 49=some (false,1):=by kernel_rfl
theorem U3:U7 prog 84=some (false,1):=by kernel_rfl
theorem B2d:U7 prog 97=some (true,5):=by kernel_rfl
theorem C3Z {h d g} (H:A9H d=some g):∀ L,FnW prog 141 [.string d] h L (.bool g):=by
 intro L
 refine J2.enter func141 z z z<|Sr<|An z<|Sq<|Sq ?_
 obtain ⟨i,j,k⟩:=J6 H
 refine T.ck (α:=Bool) [0] (λc=>([(11,.bool c)],L,λhh=>i=c)) ?_ ?_
 ·have H:=j
  refine Rg<|Mv z<|Vv (V.B2R underlying9 z)<|We z z<|Mv z<|T.bH 7 H z (λH=>?_) λH=>?_
  ·refine S2<|Sk<|Kt z<|Nt<|T.mt true (M0 H)
  refine Mv z<|Vv (V.B2R underlying9 z)<|Wg z z<|Kf z<|Nt<|T.mt (decide ((12:Int)<(d.size:Int))) (M0 H)
 rintro c w x m
 have H:=I4 m k
 refine T.norm [11,0] z<|T.fl ?_
 refine T.cH H z (λH=>?_) λH=>?_
 ·exact Sg z<|Nr<|Tr<|E1 H
 refine Ks<|Sq<|Sm z<|Vv (V.B2R underlying9 z)<|Mv z<|Nt ?_
 obtain ⟨n,o,f⟩:=J6 H
 have H:=o
 refine Bl<|T.lk [0,13] (FUEL,(0:Int)) (λ⟨a,b⟩=>([(14,qi b)],L,λhh=>iter (B7p d) a b=some n)) H ?_
 rintro ⟨a,b⟩ y A p
 obtain ⟨q,B,rfl,H,e⟩:=G7 p
 refine T.norm [14,0,13] z<|T.fl ?_
 refine Sr<|Wl z z<|Nt<|Sq<|T.cH H z (λH=>?_) λH=>?_
 ·refine Ks<|Sq<|Bl<|Sm z<|An z<|Sm z<|Mv z<|bE H λC r H=>Vv (V.C5W underlying9 z z r)<|Wl z z<|Mv z<|T.bH 21 H z (λH=>?_) λH=>?_
  ·exact S2<|S2<|Kt z<|Nt<|Ct z<|Sg z<|Nr<|Br<|Tr<|Tr<|have H:=D6 H e; Br<|Tr<|have H:=I4 H f; E1 H
  refine Mv z<|Mv z<|bE H λD s H=>Vv (V.C5W underlying9 z z s)<|Wg z z<|Kf z<|Nt<|T.cH H z (λH=>?_) λH=>?_
  ·exact Sg z<|Nr<|Br<|Tr<|Tr<|have H:=D6 H e; Br<|Tr<|have H:=I4 H f; E1 H
  refine T.skip<|Bn<|Th<|Rg<|bE H λt u H=>Vv (V.H5 z z u)<|Mv z<|Nt<|T.ag (q,t) (D8 H e)
 exact T.exit<|Te<|Te<|have H:=D6 H e; Be<|Th<|have H:=I4 H f; Sg z<|Nr<|E1 H
theorem C2w {h a b c d e f} (g:I9 h a b) (i:Z8 h c d) (j:VS h d e) (H:B2O b e=some f):∀ L,FnW prog 205 [.agg a.toArray,.pointer (some c)] h L (.bool f):=by
 intro L
 obtain ⟨n,rfl,o⟩:=g
 obtain rfl:=j
 refine J2.enter func205 z z z<|Sr<|To (O.U4 z z z λp q r m=>An z<|Sr<|Vv (V.fa A0l z)<|Vv (V.M8 (k:=0) J5 z m z)<|Vv (V.R5 J5 z i.u z)<|Vv (V.seq z z)<|Ag z<|Nr ?_)
 exact E1 H
theorem A2n {h b c a d} (f:N8 h b c) (H:A0T c a=some d):∀ L,FnW prog 140 [.agg b.toArray,.string a] h L (.int .i64 d):=by
 intro L
 obtain ⟨x,y,A,B,C,rfl,D,g,E,G,I⟩:=f
 exact J2.enter func140 z z z<|Sr<|To (O.U4 z z z λJ K M i=>To (O.U4 z z z λe j N m=>An z<|Sr<|Vv (V.fa U0 z)<|Vv (V.M8 (k:=1) N9 z i.u z)<|Vv (V.mkf z z)<|bE H λP n H=>To (O.cs (B3T g.u (show B3f j (.func (.func 205) #[] #[qp e]) (λo=>B2O o a) from ⟨⟨z,z⟩,.inr ⟨205,[],[qp e],z,λp S U W q X r s=>C2w q m.u (show VS p [.string a] a from z) r s⟩⟩) n _) λZ ab=>Ag z<|Nr<|E1 H)))
theorem B5o {h f k p m q} (x:A2E h p m) (H:B0d f k m=some q):∀ L,J2 prog 47 [.int .i64 f,.int .i64 k,p] h (L) (λv h' L'=>∃ r,L'=F3 3 1 v r::L∧A7 (VI .i64) h' r q):=by
 intro L
 refine J2.enter func47 z z z<|Sr<|An z<|Sr<|An z<|Sq<|Sm z<|An z ?_
 obtain ⟨y,A,B⟩:=J6 H
 have H:=A
 refine Bl<|T.Q8 3 1<|have C:A7 (VI .i64) h [] ([]:List Int):=A7.nil; T.lk [0,1,2] (FUEL,([]:List Int),f,(qs),[]) (λ⟨e,c,b,d,a⟩=>([(7,d),(8,qi b)],F3 3 1 d a::L,λhh=>iter (A7Q f k m) e (c,b)=some y∧A7 (VI .i64) hh a c)) ⟨H,C⟩ ?_
 rintro ⟨e,c,b,d,a⟩ D ab ⟨G,i⟩
 obtain ⟨s,ac,rfl,H,n⟩:=G7 G
 refine T.norm [7,8,0,1,2] z<|T.fl ?_
 refine Sq<|Sm z<|Mv z<|Mv z<|bE H λad I H=>Vv (V.H5 z z I)<|Wl z z<|Nt<|T.cH H z (λH=>?_) λH=>?_
 ·refine Ks<|Sq<|Bl<|Sm z<|Mv z<|bE H λae J H=>?_
  obtain ⟨af,ai,aj,K,M⟩:=A2E.call (x.u (g:=D)) J
  refine To (O.A1l z K z (M _) z λak N am an P=>?_)
  obtain ⟨rfl,S⟩:=P
  refine P8 _ S<|Nt<|T.cH H z (λH=>?_) λH=>?_
  ·refine Rg<|Mv z<|Mv z<|To (O.b1 (E:=VI .i64) A9 J7 z z z z z λao o=>bE H λt w H=>To (O.apX A9 A9 J7 z z z (j:=1) z (Src.row (j:=0) z) (O4.of z) (A7.ones VI.plain o) i.u o w z λU aq ar=>have W:A7 (VI .i64) N (a++[[qi b]]) t:=A7.ap i.u o w; Fr_ 1 z<|T.drop<|Ag z<|Ni<|Bn<|Th<|Rg<|Mv z<|bE H λX Y H=>Vv (V.H5 z z Y)<|An z<|T.ag (s,t,X,U,(a++[[qi b]])) ⟨(D8 H n),W⟩))
  refine T.skip<|Bn<|Th<|Rg<|Mv z<|bE H λZ aa H=>Vv (V.H5 z z aa)<|An z<|T.ag (s,c,Z,d,a) ⟨(D8 H n),i.u⟩
 refine T.exit<|Te<|Te<|have H:=D6 H n; Be<|Th<|have H:=I4 H B; Sm z<|Ag z<|Nr ?_
 cases H
 exact T.rl z (Rv z) ⟨_,z,i⟩
theorem B3x {h I J m} (ax:N8 h I J) (H:A8R J=some m):∀ L,J2 prog 38 [.agg I.toArray] h (L) (λv h' L'=>∃ v0_1 v0_3 v0_5 v0_7 v0_9,v=.agg #[v0_1,v0_3,v0_5,v0_7,v0_9]∧L'=L∧G6 I6 7 h' v0_1 m.C8∧G6 I9 9 h' v0_3 m.A8∧G6 L9 3 h' v0_5 m.O0∧G6 (VI .i64) 1 h' v0_7 m.S9∧G6 I5 6 h' v0_9 m.K5):=by
 intro L
 obtain ⟨b5,ay,K,M,N,rfl,aA,aB,aC,aD,aE⟩:=ax
 refine J2.enter func38 z z z<|Sr<|To (O.box z z z λP=>To (O.alloc A6Q z z λS=>Nt<|Sr<|Vv (V.fa M6 z)<|Vv (V.ldO (k:=0) Q0 z (j:=1) z z)<|bE H λU aG H=>To (O.G5 z (B7Z aA aG _) z λn b6 b7 b8 aI=>?_)))
 obtain ⟨aJ,aK,W⟩:=aI
 refine P8 _ aK<|Vv (V.fa M6 z)<|T.R8 0 z λaM aN=>To (O.st (vs:=[n]) (k:=0) Q0 z z (j:=2) z aN (by (simp only [BT,aM]) <;> rfl) ?_)
 refine T.fl ?_
 refine Nt<|Sq<|Sr<|Vv (V.fa M6 z)<|Vv (V.ldO (k:=0) Q0 z (j:=0) z z)<|Vv (V.A4a O5 z (j:=1) z W.len)<|Mv z<|Nt ?_
 obtain ⟨aO,aP,aS⟩:=J6 H
 have H:=aP
 refine Bl<|T.fs [1,2,2] ?_
 refine T.lk [1,2,11] (FUEL,U,(0:Int),aJ) (λ⟨o,p,d,c⟩=>([(12,qi d)],blk P (.cells [n,ay,K,M,N].toArray 33)::blk S (.cells [qs,qs,qs,qs,qs].toArray 33)::F3 139 7 n c::L,λhh=>iter (A2J U) o (p,d)=some aO∧A7 I6 hh c p)) ⟨H,W⟩ ?_
 rintro ⟨o,p,d,c⟩ b9 bh ⟨aU,q⟩
 obtain ⟨aV,bl,rfl,H,X⟩:=G7 aU
 refine T.norm [12,1,2,11] z<|T.fl ?_
 refine Sr<|Wl z z<|Nt<|Sq<|T.cH H z (λH=>?_) λH=>?_
 ·refine Ks<|Sq<|Bl<|Sm z<|An z<|T.fs [2,1] ?_
  refine T.N7 (t:=(.vs [0,1,2,3,4,5] (.x 6 (.v 7 (.x 8 (.alt 9 (.g (.alt 10 (.v 11 (.alt 12 .done .no)) .no)) .no)))))) 12 2 1 z z H9 (by kernel_rfl) ?_
  refine Tv z (V.fa M6 z)<|Tv z (Val.XA λ_ _ _=>V.ldO (k:=0) Q0 z (j:=0) z z)<|Tm z z<|Tv z (V.fa M6 z)<|Tv z (Val.XA λ_ _ _=>V.ldO (k:=0) Q0 z (j:=0) z z)<|Tm z z<|bE H λbv Y H=>?_
  obtain ⟨bz,aW,⟨ca,rfl,aX⟩⟩:=A7.get q Y
  refine T.tx z z (Val.XA λ_ _ _=>V.ixR O5 z z (j:=1) z (A7.bd q Y)) z Calm.i<|Tv z (V.fa Y6 z)<|T.tx z z (Val.XA λ_ _ _=>V.D4f (k:=4) D9 z (j:=1) z aW z) z Calm.i<|bE H λaY aZ H=>Tp z z (X3 [0] [1,1] z z) (O.G5 z (A1h aX aZ _) z λy cb cc cd a0=>?_) T.P6
  obtain ⟨ce,a1,a2⟩:=a0
  refine P8 _ a1<|T.O1 Li<|bE H λb Z H=>?_
  obtain ⟨cf,a3,⟨C,rfl,cg⟩⟩:=A7.get q Z
  refine Ts z z (X3 [1] [2,2] z z) (V.ixR O5 z z (j:=2) z (A7.bd q Z)) z ?_ T.P6
  refine Tv z (V.fa Y6 z)<|T.K3 λaa ci a4=>have D:=A7.slc a4 a2.u; bE H λab a5 H=>Tp z z (SX.two (XA.fr [0] Li z) (XA.fr [1,1] Li z)) (O.D2H (k:=4) D9 z z (j:=1) z (G6.cells D) (by (simp only [BT,G6.one D]) <;> rfl) z a3 ?_) T.P6
  have a6:A7 I6 aa (c.set d.toNat (over [.string b.F8,.int .u8 b.Q6,qi b.fA,qi b.fB,C,qi b.fX,qi b.fY] [y] 4)) ab:=A7.set q.u (show I6 aa (over [.string b.F8,.int .u8 b.Q6,qi b.fA,qi b.fB,C,qi b.fX,qi b.fY] [y] 4) (D5.mk b.F8 b.Q6 b.fA b.fB aY b.fX b.fY) from ⟨y,z,D⟩) a5
  refine T.O6 (SX.one (XA.fr [1] Li z) z)<|Bn<|Th<|Rg<|bE H λa7 a8 H=>Vv (V.H5 z z a8)<|Mv z<|Nt<|T.fs [2,2] ?_
  exact T.ag (aV,ab,a7,(c.set d.toNat (over [.string b.F8,.int .u8 b.Q6,qi b.fA,qi b.fB,C,qi b.fX,qi b.fY] [y] 4))) ⟨(D8 H X),a6⟩
 refine T.exit<|Te<|Te<|have H:=D6 H X; Be<|Th<|have H:=I4 H aS; Sr<|Vv (V.fa U0 z)<|Vv (V.ldO (k:=1) N9 z (j:=0) z z)<|bE H λac a9 H=>To (O.G5 z (B8d aB.u a9 _) z λA cj ck cm ah=>?_)
 obtain ⟨al,av,ad⟩:=ah
 refine P8 _ av<|Vv (V.fa U0 z)<|T.R8 0 z λaz ba=>To (O.st (vs:=[A]) (k:=1) N9 z z (j:=1) z ba (by (simp only [BT,az]) <;> rfl) ?_)
 refine T.fl ?_
 refine Nt<|Sq<|Sr<|Vv (V.fa U0 z)<|Vv (V.ldO (k:=1) N9 z (j:=0) z z)<|Vv (V.A4a O7 z (j:=1) z ad.len)<|Mv z<|Nt ?_
 obtain ⟨bb,bc,be⟩:=J6 H
 have H:=bc
 refine Bl<|T.fs [1,3,3,3] ?_
 refine T.lk [1,2,34] (FUEL,ac,(0:Int),al) (λ⟨r,s,e,f⟩=>([(35,qi e)],blk P (.cells [n,A,K,M,N].toArray 33)::blk S (.cells [qs,qs,qs,qs,qs].toArray 33)::F3 139 7 n c::F3 121 9 A f::L,λhh=>iter (A2M ac) r (s,e)=some bb∧A7 I9 hh f s)) ⟨H,ad⟩ ?_
 rintro ⟨r,s,e,f⟩ cn co ⟨bf,w⟩
 obtain ⟨bg,cp,rfl,H,ae⟩:=G7 bf
 refine T.norm [35,1,2,34] z<|T.fl ?_
 refine Sr<|Wl z z<|Nt<|Sq<|T.cH H z (λH=>?_) λH=>?_
 ·refine Ks<|Sq<|Bl<|Sm z<|An z<|T.fs [3,1] ?_
  refine T.N7 (t:=(.vs [0,1,2,3,4,5] (.x 6 (.v 7 (.x 8 (.alt 9 (.g (.alt 10 (.v 11 (.alt 12 .done .no)) .no)) .no)))))) 12 2 1 z z H9 (by kernel_rfl) ?_
  refine Tv z (V.fa U0 z)<|Tv z (Val.XA λ_ _ _=>V.ldO (k:=1) N9 z (j:=0) z z)<|Tm z z<|Tv z (V.fa U0 z)<|Tv z (Val.XA λ_ _ _=>V.ldO (k:=1) N9 z (j:=0) z z)<|Tm z z<|bE H λcq af H=>?_
  obtain ⟨cr,bi,⟨cs,rfl,bj⟩⟩:=A7.get w af
  refine T.tx z z (Val.XA λ_ _ _=>V.ixR O7 z z (j:=1) z (A7.bd w af)) z Calm.i<|Tv z (V.fa A0G z)<|T.tx z z (Val.XA λ_ _ _=>V.D4f (k:=8) A1J z (j:=1) z bi z) z Calm.i<|bE H λbk bm H=>Tp z z (X3 [0] [1,1] z z) (O.G5 z (A9Y bj bm _) z λB ct cu cw bn=>?_) T.P6
  obtain ⟨cx,bo,bp⟩:=bn
  refine P8 _ bo<|T.O1 Li<|bE H λa ai H=>?_
  obtain ⟨cy,bq,⟨E,rfl,cA⟩⟩:=A7.get w ai
  refine Ts z z (X3 [1] [2,2] z z) (V.ixR O7 z z (j:=2) z (A7.bd w ai)) z ?_ T.P6
  refine Tv z (V.fa A0G z)<|T.K3 λaj cB br=>have G:=A7.slc br bp.u; bE H λak bs H=>Tp z z (SX.two (XA.fr [0] Li z) (XA.fr [1,1] Li z)) (O.D2H (k:=8) A1J z z (j:=1) z (G6.cells G) (by (simp only [BT,G6.one G]) <;> rfl) z bq ?_) T.P6
  have bt:A7 I9 aj (f.set e.toNat (over [.string a.F8,.string a.A1X,.string a.X4,qi a.A0j,qi a.A0x,.string a.A0y,.bool a.X9,.bool a.Y8,E] [B] 8)) ak:=A7.set w.u (show I9 aj (over [.string a.F8,.string a.A1X,.string a.X4,qi a.A0j,qi a.A0x,.string a.A0y,.bool a.X9,.bool a.Y8,E] [B] 8) (E9.mk a.F8 a.A1X a.X4 a.A0j a.A0x a.A0y a.X9 a.Y8 bk) from ⟨B,z,G⟩) bs
  refine T.O6 (SX.one (XA.fr [1] Li z) z)<|Bn<|Th<|Rg<|bE H λbu bw H=>Vv (V.H5 z z bw)<|Mv z<|Nt<|T.fs [3,3,3] ?_
  exact T.ag (bg,ak,bu,(f.set e.toNat (over [.string a.F8,.string a.A1X,.string a.X4,qi a.A0j,qi a.A0x,.string a.A0y,.bool a.X9,.bool a.Y8,E] [B] 8))) ⟨(D8 H ae),bt⟩
 refine T.exit<|Te<|Te<|have H:=D6 H ae; Be<|Th<|have H:=I4 H be; Sq<|T.N7 (t:=(.v 0 (.x 1 (.v 3 (.x 4 (.v 6 (.x 7 (.alt 2 (.g (.v 9 (.alt 5 (.g (.alt 8 (.g (.alt 10 (.g (.v 11 (.alt 12 (.g (.v 13 (.alt 14 .done .no))) .no))) .no)) .no)) .no))) .no)))))))) 10 1 0 z z H9 (by kernel_rfl) ?_
 refine Tv z (V.fa A9S z)<|T.tx z z (Val.XA λ_ _ _=>V.ldO (k:=2) A1N z (j:=0) z z) z Calm.i<|Tv z (V.fa A6c z)<|T.tx z z (Val.XA λ_ _ _=>V.ldO (k:=3) D9 z (j:=0) z z) z Calm.i<|Tv z (V.fa A2x z)<|T.tx z z (Val.XA λ_ _ _=>V.ldO (k:=4) A1k z (j:=0) z z) z Calm.i<|bE H λcC bx H=>Tp z z (X3 [] [0] z z) (O.G5 z (C1C aC.u bx _) z λam cD cE cG bA=>?_) T.P6
 obtain ⟨cI,bB,bC⟩:=bA
 refine P8 _ bB<|T.O1 Li<|Tv z (V.fa A9S z)<|bE H λcJ bD H=>Tp z z (X3 [] [1] z z) (O.G5 z (A1h aD.u bD _) z λan cK cM cN bG=>?_) T.P6
 obtain ⟨cO,bI,bJ⟩:=bG
 refine P8 _ bI<|T.O1 Li<|bE H λcP bK H=>Tp z z (X3 [] [2] z z) (O.G5 z (B9C aE.u bK _) z λao cS cU cV bM=>?_) T.P6
 obtain ⟨cW,bN,bO⟩:=bM
 refine P8 _ bN<|T.O1 Li<|T.R8 2 z λbP bS=>Tp z z (X3 [] [3] z z) (O.st (vs:=[am]) (k:=2) A1N z z (j:=3) z bS (by (simp only [BT,bP]) <;> rfl) ?_) T.P6
 refine T.fl ?_
 refine T.O1 Lr<|Tv z (V.fa A6c z)<|T.R8 2 z λbU bV=>Tp z z (SX.one (XA.fr [] Lr z) z) (O.st (vs:=[an]) (k:=3) D9 z z (j:=0) z bV (by (simp only [BT,bU]) <;> rfl) ?_) T.P6
 refine T.fl ?_
 refine T.O1 Lr<|Tv z (V.fa A2x z)<|T.R8 1 z λbW bX=>Tp z z (SX.one (XA.fr [] Lr z) z) (O.st (vs:=[ao]) (k:=4) A1k z z (j:=0) z bX (by (simp only [BT,bW]) <;> rfl) ?_) T.P6
 refine T.fl ?_
 refine T.O6 (SX.one (XA.fr [] Lr z) z)<|Th<|Sr<|Vv (V.A5C (j:=0) (by exact J9) z z) ?_
 refine T.fs [5] ?_
 refine T.K3 λcX cY bY=>have ap:=A7.slc bY q.u; T.fs [5] ?_
 refine T.K3 λcZ c0 bZ=>have aq:=A7.slc bZ w.u; T.fs [3] ?_
 refine T.K3 λc1 c2 b0=>have ar:=A7.slc b0 bC.u; T.fs [2] ?_
 refine T.K3 λc3 c4 b1=>have au:=A7.slc b1 bJ.u; T.fs [1] ?_
 refine T.K3 λc5 c6 b2=>have aw:=A7.slc b2 bO.u; To (O.stF (vs:=[n,A,am,an,ao]) J9 z z (j:=1) z z (by (simp only [BT,G6.one ap,G6.one aq,G6.one ar,G6.one au,G6.one aw]) <;> rfl) z ?_)
 refine T.freeze λc7 c8 b3=>have b4:=Z8.of b3; Nr<|T.drop ?_
 cases H
 exact T.rl z (RVs.cons (RV.B3m z b4 J9) RVs.nil) ⟨_,_,_,_,_,z,z,ap.u,aq.u,ar.u,au.u,aw.u⟩
theorem A6K {h c d e f g i j} (E:Pt M5 h c d) (G:I5 h e f) (H:A6k d f=some (g,i,j)):∀ L,FnW prog 143 [c,.agg e.toArray] h L (.tuple #[.int .i64 g,.int .i64 i,.bool j]):=by
 intro L
 obtain rfl:=G
 refine J2.enter func143 z z z<|Sr<|To (O.U4 z z z λZ aa ab m=>Ag z<|Ag z<|An z<|Sq<|T.N7 (t:=(.vs [0,1,2,3,4,5,6,7,8,10,11,12,13,14,15,16,17,18] (.alt 9 (.alt 19 (.alt 20 (.alt 21 .done .no) .no) .no) .no))) 23 0 0 z z H9 (by kernel_rfl) ?_)
 refine Tm z z<|have I:=E; ?_
 obtain ⟨ac,_,rfl,a,⟨ad,ae,af,rfl,J,b,ag⟩⟩:=I
 refine TL z z z z G8 I8 a.u z<|have K:=J; ?_
 obtain ⟨ai,_,rfl,n,⟨o,p,q,r,s,aj,ak,am,an,ao,ap,aq,ar,au,rfl,w,x,y,A,B,aw,ax,ay,aA,aB,aC,aD,aE,aG⟩⟩:=K
 refine TF z z z M3<|Tv z (V.C9z (k:=0) B2d z n.u (Nat.le_of_ble_eq_true z))<|Tv z (V.fa A0b z)<|Tv z (V.M8 (k:=2) J5 z m z)<|Tm z z<|TL z z z z G8 I8 a.u z<|TF z z z M3<|Tv z (V.C9z (k:=0) B2d z n.u (Nat.le_of_ble_eq_true z))<|Tv z (V.fa A4f z)<|Tv z (V.M8 (k:=3) J5 z m z)<|bE H λaI M H=>Tp z z (X2 z z) (O.G5 z (A2n ⟨o,p,q,r,s,z,w.u,x.u,y.u,A.u,B.u⟩ M _) z λaJ aK aM aN N=>?_) T.P6
 obtain ⟨rfl,P⟩:=N
 refine P8 _ P<|bE H λaO S H=>Tp z z (SX.two (XA.fr [] Li z) (XA.fr [] Li z)) (O.G5 z (A2n ⟨o,p,q,r,s,z,w.u,x.u,y.u,A.u,B.u⟩ S _) z λaP aS aU aV U=>?_) T.P6
 obtain ⟨rfl,W⟩:=U
 refine P8 _ W<|Ts z z (SX.two (XA.fr [] Li z) (XA.fr [] Li z)) (V.asg z) z ?_ T.P6
 refine Ts z z (SX.two (XA.fr [] Li z) (XA.fr [] Li z)) (V.asg z) z ?_ T.P6
 refine T.O6 (SX.two (XA.fr [] Li z) (XA.fr [] Li z))<|Th<|Sq<|T.N7 (t:=(.vs [0,1,2,3,4,5,6,7,8,9,10,11,12,13,14,15,16,17,18,19] (.alt 20 (.alt 21 (.alt 22 .done .no) .no) .no))) 24 0 0 z z H9 (by kernel_rfl) ?_
 refine Tm z z<|Tm z z<|Tm z z<|TL z z z z Q4 D9 a.u z<|Tm z z<|bE H λaW C H=>?_
 obtain ⟨aX,X,rfl⟩:=G6.at b C
 refine Tv z (V.ix A9 z z b (E8 C))<|Tv z (V.R5 D7 z X.u z)<|Tv z (V.ge z z)<|Tm z z<|T.bH 39 H z (λH=>?_) λH=>?_
 ·refine Tm z z<|TL z z z z Q4 D9 a.u z<|Tm z z<|bE H λaY D H=>?_
  obtain ⟨aZ,Y,rfl⟩:=G6.at b D
  refine Tv z (V.ix A9 z z b (E8 D))<|Tv z (V.R5 D7 z Y.u z)<|Tv z (V.ge z z)<|Tv z (V.pkT z z)<|Ts z z (X2 z z) (V.asg z) z ?_ T.P6
  refine Ts z z (X2 z z) (V.asg z) z ?_ T.P6
  refine Ts z z (X2 z z) (V.asg z) z ?_ T.P6
  exact T.O6 (X2 z z)<|Th<|T.ret<|E1 H
 refine T2 z z<|T2 z z<|T2 z z<|T2 z z<|Tv z (V.pkF z z)<|Ts z z (X2 z z) (V.asg z) z ?_ T.P6
 refine Ts z z (X2 z z) (V.asg z) z ?_ T.P6
 refine Ts z z (X2 z z) (V.asg z) z ?_ T.P6
 exact T.O6 (X2 z z)<|Th<|T.ret<|E1 H
theorem B9d {h c d e f g i} (p:Pt M5 h c d) (H:B3J d e f=some (g,i)):∀ L,FnW prog 144 [c,.int .i64 e,.int .i64 f] h L (.tuple #[.int .i64 g,.bool i]):=by
 intro L
 refine J2.enter func144 z z z<|Sg z<|An z<|Sq<|T.N7 (t:=(.vs [0,1,2,3,4,5,6,7,8,9,10,11,12,13,14,15,16,17,18,19,20,21,22,23,24,25,26] (.alt 27 (.alt 28 .done .no) .no))) 30 0 0 z z H9 (by kernel_rfl) ?_
 refine Tm z z<|have q:=p; ?_
 obtain ⟨D,_,rfl,b,⟨E,G,I,rfl,r,a,J⟩⟩:=q
 refine TL z z z z G8 I8 b z<|have s:=r; ?_
 obtain ⟨K,_,rfl,u,⟨M,N,O,P,S,U,W,X,Y,Z,aa,ab,ac,ad,rfl,ae,af,ag,ai,aj,ak,am,an,ao,ap,aq,j,ar,au⟩⟩:=s
 refine TL z z z z B2m B6f u z<|Tm z z<|TL z z z z Q4 D9 b z<|Tm z z<|bE H λaw m H=>?_
 obtain ⟨ax,w,rfl⟩:=G6.at a m
 refine Tv z (V.ix A9 z z a (E8 m))<|Tv z (V.R5 D7 z w z)<|bE H λay n H=>?_
 obtain ⟨aA,x,⟨aB,rfl,y⟩⟩:=G6.at j n
 refine Tv z (V.ix B2t z z j (E8 n))<|Tv z (V.R5 C6s z x z)<|Tm z z<|TL z z z z Q4 D9 b z<|Tm z z<|bE H λaC o H=>?_
 obtain ⟨aD,A,rfl⟩:=G6.at a o
 refine Tv z (V.ix A9 z z a (E8 o))<|Tv z (V.R5 D7 z A z)<|bE H λ⟨aE,aG⟩ B H=>?_
 obtain ⟨_,C,rfl⟩:=Mp.look (zc:=[qi 0]) (agg:=false) underlying112 (A0z.int underlying3) J7 (show (VI .i64) h [qi 0] (0:Int) from rfl) y B
 refine Tv z (V.lkF z z C)<|Tm z z<|Tv z (V.ext z z)<|Tv z (V.ext z z)<|Ts z z (X2 z z) (V.asg z) z ?_ T.P6
 refine Ts z z (X2 z z) (V.asg z) z ?_ T.P6
 exact T.O6 (X2 z z)<|Th<|Sq<|T.norm [8,9] z<|Rg<|Mv z<|Mv z<|Ag z<|Ag z<|Nr<|E1 H
theorem A3L {h i d j m n e o} (y:Pt M5 h i d) (p:G6 (VSl (VI .i64) 1) 1 h j m) (H:A1L d m n e=some o):∀ L,FnW prog 145 [i,j,.int .i64 n,.int .i64 e] h L (.bool o):=by
 intro L
 refine J2.enter func145 z z z<|Sr<|An z<|Sq<|Sm z<|Mv z<|have A:=y; ?_
 obtain ⟨P,_,rfl,q,⟨S,U,W,rfl,X,c,Y⟩⟩:=A
 refine NL z Q4 D9 q z<|Mv z<|bE H λZ r H=>?_
 obtain ⟨aa,B,rfl⟩:=G6.at c r
 refine Vv (V.ix A9 z z c (E8 r))<|Vv (V.R5 D7 z B z)<|bE H λC s H=>?_
 obtain ⟨ab,D,⟨ac,rfl,f⟩⟩:=G6.at p s
 refine Vv (V.ix K4 z z p (E8 s))<|Vv (V.R5 D9 z D z)<|Vv (V.Q3 A9 z f)<|Mv z<|Nt ?_
 obtain ⟨E,G,t⟩:=J6 H
 have H:=G
 refine Bl<|T.lk [0,3,20,21] (FUEL,(0:Int)) (λ⟨a,b⟩=>([(22,qi b)],L,λhh=>iter (A5r d e C) a b=some E)) H ?_
 rintro ⟨a,b⟩ ad ae I
 obtain ⟨J,af,rfl,H,g⟩:=G7 I
 refine T.norm [22,0,3,20,21] z<|T.fl ?_
 refine Sr<|Wl z z<|Nt<|Sq<|T.cH H z (λH=>?_) λH=>?_
 ·refine Ks<|Sq<|Bl<|Sr<|bE H λai w H=>?_
  obtain ⟨aj,K,rfl⟩:=G6.at f w
  refine Vv (V.ix A9 z z f (E8 w))<|Vv (V.R5 D7 z K.u z)<|An z<|Sm z<|Mv z<|NL z Q4 D9 q.u z<|Mv z<|bE H λak x H=>?_
  obtain ⟨am,M,rfl⟩:=G6.at c x
  refine Vv (V.ix A9 z z c (E8 x))<|Vv (V.R5 D7 z M.u z)<|We z z<|Nt<|T.cH H z (λH=>?_) λH=>?_
  ·exact Sg z<|Nr<|Br<|Tr<|Tr<|have H:=D6 H g; Br<|Tr<|have H:=I4 H t; E1 H
  refine T.skip<|Bn<|Th<|Rg<|bE H λN O H=>Vv (V.H5 z z O)<|Mv z<|Nt<|T.ag (J,N) (D8 H g)
 exact T.exit<|Te<|Te<|have H:=D6 H g; Be<|Th<|have H:=I4 H t; Sg z<|Nr<|E1 H
theorem B0m {h e f g i j} (ac:Pt M5 h e f) (H:A6q f g i=some j):∀ L,FnW prog 152 [e,.int .i64 g,.int .i64 i] h L (.bool j):=by
 intro L
 refine J2.enter func152 z z z<|Sr<|An z<|Sm z<|Mv z<|have ad:=ac; ?_
 obtain ⟨ao,_,rfl,a,⟨ap,m,n,rfl,ae,o,p⟩⟩:=ad
 refine NL z G8 I8 a z<|have af:=ae; ?_
 obtain ⟨q,_,rfl,b,⟨r,s,t,w,x,y,A,B,C,D,E,G,I,J,rfl,K,M,N,P,S,U,W,X,Y,c,d,Z,aa,ab⟩⟩:=af
 refine NL z A2i U3 b z<|Mv z<|Mv z<|bE H λaq ag H=>To (O.cs (A3L (Pt.mk a ⟨(.pointer (some q)),m,n,z,(Pt.mk b ⟨r,s,t,w,x,y,A,B,C,D,E,G,I,J,z,K,M,N,P,S,U,W,X,Y,c,d,Z,aa,ab⟩),o,p⟩) c ag _) λau ax=>Mv z<|T.bH 18 H z (λH=>?_) λH=>?_)
 ·exact S2<|S2<|S2<|S2<|S2<|Sk<|Kt z<|Ag z<|Nr<|E1 H
 exact Mv z<|Mv z<|NL z G8 I8 a.u z<|NL z A4J U3 b.u z<|Mv z<|Mv z<|bE H λay ak H=>To (O.cs (A3L (Pt.mk a.u ⟨(.pointer (some q)),m,n,z,(Pt.mk b.u ⟨r,s,t,w,x,y,A,B,C,D,E,G,I,J,z,K.u,M.u,N.u,P.u,S.u,U.u,W.u,X.u,Y.u,c.u,d.u,Z.u,aa.u,ab.u⟩),o.u,p.u⟩) d.u ak _) λaB aD=>Kf z<|Ag z<|Nr<|E1 H)
theorem A5B {h a b c d e f} (q:Pt M5 h a b) (r:I5 h c d) (H:A4e b d e=some f):∀ L,FnW prog 150 [a,.agg c.toArray,.int .i64 e] h L (.bool f):=by
 intro L
 obtain rfl:=r
 refine J2.enter func150 z z z<|Sr<|To (O.U4 z z z λB C D g=>An z<|Sq<|T.N7 (t:=(.vs [0,1,2,3,4,5,6,7,8,9,10,11,12,13,14,15,16,17,18,19,20,21,22,23,24,25,26,27,28] (.alt 29 .done .no))) 31 0 0 z z H9 (by kernel_rfl) ?_)
 refine Tv z (V.fa V8 z)<|Tv z (V.M8 (k:=4) J5 z g z)<|Tv z (V.seq z z)<|Tm z z<|T.bH 10 H z (λH=>?_) λH=>?_
 ·refine T2 z z<|T2 z z<|T2 z z<|T2 z z<|T2 z z<|T2 z z<|T2 z z<|T2 z z<|T2 z z<|T2 z z<|T2 z z<|T2 z z<|Tv z (V.pkT z z)<|Ts z z (X2 z z) (V.asg z) z ?_ T.P6
  exact T.O6 (X2 z z)<|Th<|T.ret<|E1 H
 refine Tv z (V.fa V8 z)<|Tv z (V.M8 (k:=4) J5 z g z)<|Tm z z<|have s:=q; ?_
 obtain ⟨E,_,rfl,i,⟨G,I,J,rfl,w,K,M⟩⟩:=s
 refine TL z z z z G8 I8 i.u z<|have x:=w; ?_
 obtain ⟨N,_,rfl,j,⟨P,S,U,W,X,Y,Z,aa,ab,ac,ad,ae,af,ag,rfl,m,ai,aj,ak,am,an,n,ao,ap,aq,ar,au,aw,ax⟩⟩:=x
 refine TF z z z M3<|Tv z (V.fa B1c z)<|Tv z (V.M8 (k:=0) Q0 z j.u z)<|Tm z z<|TL z z z z G8 I8 i.u z<|TL z z z z U8 D9 j.u z<|Tm z z<|bE H λay o H=>?_
 obtain ⟨aA,y,rfl⟩:=G6.at n o
 refine Tv z (V.ix A9 z z n (E8 o))<|Tv z (V.R5 D7 z y.u z)<|bE H λaB p H=>?_
 obtain ⟨aC,A,⟨aD,rfl,aE⟩⟩:=G6.at m p
 refine Tv z (V.ix O5 z z m (E8 p))<|Tv z (V.fa A0o z)<|Tv z (V.M8 (k:=0) J5 z A.u z)<|Tv z (V.seq z z)<|Tv z (V.pkF z z)<|Ts z z (X2 z z) (V.asg z) z ?_ T.P6
 exact T.O6 (X2 z z)<|Th<|T.ret<|E1 H
theorem C1O {σ:Type} {R:σ→PH→List E5→Prop} {s:σ→Int→(List Int)→Option σ} {w:σ} {q_s:σ} {h x y A a B La} (q:Pt M5 h x y) (N:I5 h A a) (b:X6 R h B s) (hRa:R w h La) (H:B2J y a s w=some q_s):∀ As L,J2 prog 86 [x,.agg A.toArray,B] h ((As++(La++L))) (λv h' L'=>∃ La',v=.tuple #[]∧L'=(As++(La'++L))∧R q_s h' La'):=by
 intro As L
 obtain rfl:=N
 refine J2.enter func86 z z z<|Sr<|To (O.U4 z z z λaZ P c r=>Nt<|Sm z<|Vv (V.ldS z r (by exact K6)) ?_)
 refine bE H λ⟨i,j,a0⟩ S H=>To (O.cs (A6K q.u (show I5 P [.int .u8 a.F9,qi a.K8,.string a.fA,.string a.fB,.string a.I7,qi a.fN] a from z) S _) λa2 d=>Mv z<|Wx z z<|Wx z z<|Wx z z<|Ag z<|Ag z<|An z<|Sq<|Sq ?_)
 obtain ⟨X,Y,Z⟩:=J6 H
 refine T.ck (α:=Bool) [0,2,4,6,7] (λf=>([(54,.bool f)],(As++(La++L)),λhh=>X=f)) ?_ ?_
 ·have H:=Y
  refine T.N7 (t:=(.vs [0,1,2,3,4,5,6,7,8,9,10,11,12,13,14,15,16,17,18,19,20,21,22,23,24,25,26,27,28,29,30,31,32,33,34,35,36] .done)) 38 0 0 z z H9 (by kernel_rfl) ?_
  refine Tm z z<|Tv z (V.not z)<|Tm z z<|T.bH 20 H z (λH=>?_) λH=>?_
  ·refine T2 z z<|T2 z z<|T2 z z<|T2 z z<|T2 z z<|T2 z z<|T2 z z<|T2 z z<|T2 z z<|T2 z z<|T2 z z<|T2 z z<|T2 z z<|T2 z z<|T2 z z<|T2 z z<|Tk z<|Tv z (V.pkT z z)<|T.O6 (X2 z z)<|Th<|T.mt true (M0 H)
  refine Tm z z<|have aa:=q; ?_
  obtain ⟨a4,_,rfl,m,⟨a5,a6,a7,rfl,ab,n,a8⟩⟩:=aa
  refine TL z z z z G8 I8 m.u z<|have ac:=ab; ?_
  obtain ⟨a9,_,rfl,C,⟨ah,al,av,az,ba,bb,bc,bd,be,bf,bg,bi,bj,bk,rfl,bm,bn,bo,bp,bq,br,o,bt,bu,bw,bx,bA,bB,bC⟩⟩:=ac
  refine TL z z z z U8 D9 C.u z<|Tm z z<|TL z z z z Q4 D9 m.u z<|Tm z z<|bE H λbD D H=>?_
  obtain ⟨bG,ad,rfl⟩:=G6.at n D
  refine Tv z (V.ix A9 z z n (E8 D))<|Tv z (V.R5 D7 z ad.u z)<|bE H λae E H=>?_
  obtain ⟨bI,af,rfl⟩:=G6.at o E
  refine Tv z (V.ix A9 z z o (E8 E))<|Tv z (V.R5 D7 z af.u z)<|Tm z z<|TL z z z z G8 I8 m.u z<|TL z z z z U8 D9 C.u z<|Tm z z<|TL z z z z Q4 D9 m.u z<|Tm z z<|bE H λbJ G H=>?_
  obtain ⟨bK,ag,rfl⟩:=G6.at n G
  refine Tv z (V.ix A9 z z n (E8 G))<|Tv z (V.R5 D7 z ag.u z)<|bE H λai I H=>?_
  obtain ⟨bM,aj,rfl⟩:=G6.at o I
  refine Tv z (V.ix A9 z z o (E8 I))<|Tv z (V.R5 D7 z aj.u z)<|Tv z (V.ne z z)<|Tv z (V.pkF z z)<|T.O6 (X2 z z)<|Th<|T.mt (!decide (ae=ai)) (M0 H)
 rintro f bN g ak
 have H:=I4 ak Z
 refine T.norm [54,0,2,4,6,7] z<|P8 ((As++(La++L))) z<|T.cH H z (λH=>?_) λH=>?_
 ·refine T.ret<|Tr<|have am:=((c.trans d).trans g); have an:=b.2.1 _ _ _ _ am hRa; ?_
  cases H
  exact T.C5R results86 Li ⟨La,z,z,an⟩
 refine Ks<|Sm z<|Mv z<|Mv z<|bE H λ⟨bO,bP⟩ ao H=>To (O.cs (B9d q.u ao _) λJ p=>Mv z<|Wx z z<|Wx z z<|Ag z<|An z<|Sr<|Vv (V.fa U5 z)<|Vv (V.M8 (k:=5) D7 z r.u z)<|We z z<|Mv z<|T.bH 65 H z (λH=>?_) λH=>?_)
 ·refine S2<|S2<|S2<|Sk<|Kt z<|Nt<|Ct z<|Rg<|Mv z<|Mv z<|Mv z<|To (O.bs A9 J7 z (e:=z) (hk:=z) (xs:=[.tmp 75,.tmp 76]) (hv:=CO.eq (CO.cons z (CO.cons z CO.nil))) (hw:=O4.of z) (hd:=z) λbV=>have ar:A7 (VI .i64) J [[qi i],[qi j]] ([i,j]:List Int):=(A7.cons z (A7.cons z A7.nil)); T.K3 λbW au aw=>have ax:=A7.slc aw ar.u; bE H λbX ay H=>have aA:=((((c.trans d).trans g).trans p).trans au); have aB:=b.2.1 _ _ _ _ aA hRa; To (O.A4c z z (X6.call b.u ax aB ay As _) z λbY bZ b0 b1 aC=>?_))
  obtain ⟨K,rfl,aD,aE⟩:=aC
  refine P8 ((As++(K++L))) aD<|Ni ?_
  cases H
  exact T.A0V results86 Li ⟨K,z,z,aE⟩
 refine Mv z<|Mv z<|T.bH 67 H z (λH=>?_) λH=>?_
 ·refine Mv z<|Vv (V.fa U5 z)<|Vv (V.M8 (k:=5) D7 z r.u z)<|Wl z z<|Kt z<|Kf z<|Nt<|T.cH H z (λH=>?_) λH=>?_
  ·refine Rg<|Mv z<|Mv z<|Mv z<|To (O.bs A9 J7 z (e:=z) (hk:=z) (xs:=[.tmp 75,.tmp 76]) (hv:=CO.eq (CO.cons z (CO.cons z CO.nil))) (hw:=O4.of z) (hd:=z) λb2=>have aG:A7 (VI .i64) J [[qi i],[qi j]] ([i,j]:List Int):=(A7.cons z (A7.cons z A7.nil)); T.K3 λb3 aI aJ=>have aK:=A7.slc aJ aG.u; bE H λb4 aM H=>have aN:=((((c.trans d).trans g).trans p).trans aI); have aO:=b.2.1 _ _ _ _ aN hRa; To (O.A4c z z (X6.call b.u aK aO aM As _) z λb5 b6 b7 b8 aP=>?_))
   obtain ⟨M,rfl,aS,aU⟩:=aP
   refine P8 ((As++(M++L))) aS<|Ni ?_
   cases H
   exact T.A0V results86 Li ⟨M,z,z,aU⟩
  refine T.skip<|have aV:=(((c.trans d).trans g).trans p); have aW:=b.2.1 _ _ _ _ aV hRa; ?_
  cases H
  exact T.A0V results86 Li ⟨La,z,z,aW⟩
 refine S2<|S2<|Kf z<|Kf z<|Nt<|Cf z<|T.skip<|have aX:=(((c.trans d).trans g).trans p); have aY:=b.2.1 _ _ _ _ aX hRa; ?_
 cases H
 exact T.A0V results86 Li ⟨La,z,z,aY⟩
theorem B6e {σ:Type} {R:σ→PH→List E5→Prop} {f:σ→Int→(List Int)→Option σ} {g:σ} {q_s:σ} {h i j m a n La} (o:Pt M5 h i j) (y:I5 h m a) (b:X6 R h n f) (hRa:R g h La) (H:A5L j a f g=some q_s):∀ As L,J2 prog 87 [i,.agg m.toArray,n] h ((As++(La++L))) (λv h' L'=>∃ La',v=.tuple #[]∧L'=(As++(La'++L))∧R q_s h' La'):=by
 intro As L
 obtain rfl:=y
 refine J2.enter func87 z z z<|Sr<|To (O.U4 z z z λa0 A c B=>Nt<|Sm z<|Vv (V.ldS z B (by exact K6)) ?_)
 refine bE H λ⟨p,q,a1⟩ C H=>To (O.cs (A6K o.u (show I5 A [.int .u8 a.F9,qi a.K8,.string a.fA,.string a.fB,.string a.I7,qi a.fN] a from z) C _) λa3 d=>Mv z<|Wx z z<|Wx z z<|Wx z z<|Ag z<|Ag z<|An z<|Sm z<|Mv z<|T.bH 17 H z (λH=>?_) λH=>?_)
 ·refine Mv z<|Mv z<|have G:=o; ?_
  obtain ⟨a5,_,rfl,r,⟨a6,I,J,rfl,K,M,N⟩⟩:=G
  refine NL z G8 I8 r.u z<|have P:=K; ?_
  obtain ⟨S,_,rfl,s,⟨U,W,X,Y,Z,aa,ab,ac,ad,ae,af,ag,ai,aj,rfl,ak,am,an,ao,ap,aq,ar,au,aw,t,ax,ay,aA,aB⟩⟩:=P
  refine NL z A2i U3 s.u z<|Mv z<|Mv z<|bE H λa7 aC H=>To (O.cs (A3L (Pt.mk r.u ⟨(.pointer (some S)),I,J,z,(Pt.mk s.u ⟨U,W,X,Y,Z,aa,ab,ac,ad,ae,af,ag,ai,aj,z,ak.u,am.u,an.u,ao.u,ap.u,aq.u,ar.u,au.u,aw.u,t.u,ax.u,ay.u,aA.u,aB.u⟩),M.u,N.u⟩) t.u aC _) λaD w=>Vv (V.not z)<|Kt z<|Nt<|T.cH H z (λH=>?_) λH=>?_)
  ·refine Rg<|Mv z<|Mv z<|Mv z<|To (O.bs A9 J7 z (e:=z) (hk:=z) (xs:=[.tmp 32,.tmp 33]) (hv:=CO.eq (CO.cons z (CO.cons z CO.nil))) (hw:=O4.of z) (hd:=z) λah=>have aI:A7 (VI .i64) aD [[qi p],[qi q]] ([p,q]:List Int):=(A7.cons z (A7.cons z A7.nil)); T.K3 λal aJ aK=>have aM:=A7.slc aK aI.u; bE H λav aN H=>have aO:=(((c.trans d).trans w).trans aJ); have aP:=b.2.1 _ _ _ _ aO hRa; To (O.A4c z z (X6.call b.u aM aP aN As _) z λaz ba bb bc aS=>?_))
   obtain ⟨x,rfl,aU,aV⟩:=aS
   refine P8 ((As++(x++L))) aU<|Ni ?_
   cases H
   exact T.A0V results87 Li ⟨x,z,z,aV⟩
  refine T.skip<|have aW:=((c.trans d).trans w); have aX:=b.2.1 _ _ _ _ aW hRa; ?_
  cases H
  exact T.A0V results87 Li ⟨La,z,z,aX⟩
 refine S2<|S2<|S2<|S2<|S2<|S2<|Kf z<|Nt<|Cf z<|T.skip<|have aY:=(c.trans d); have aZ:=b.2.1 _ _ _ _ aY hRa; ?_
 cases H
 exact T.A0V results87 Li ⟨La,z,z,aZ⟩
theorem B6a {σ:Type} {R:σ→PH→List E5→Prop} {f:σ→Int→(List Int)→Option σ} {g:σ} {q_s:σ} {h i j m a n La} (o:Pt M5 h i j) (y:I5 h m a) (b:X6 R h n f) (hRa:R g h La) (H:A5N j a f g=some q_s):∀ As L,J2 prog 88 [i,.agg m.toArray,n] h ((As++(La++L))) (λv h' L'=>∃ La',v=.tuple #[]∧L'=(As++(La'++L))∧R q_s h' La'):=by
 intro As L
 obtain rfl:=y
 refine J2.enter func88 z z z<|Sr<|To (O.U4 z z z λa0 A c B=>Nt<|Sm z<|Vv (V.ldS z B (by exact K6)) ?_)
 refine bE H λ⟨p,q,a1⟩ C H=>To (O.cs (A6K o.u (show I5 A [.int .u8 a.F9,qi a.K8,.string a.fA,.string a.fB,.string a.I7,qi a.fN] a from z) C _) λa3 d=>Mv z<|Wx z z<|Wx z z<|Wx z z<|Ag z<|Ag z<|An z<|Sm z<|Mv z<|T.bH 17 H z (λH=>?_) λH=>?_)
 ·refine Mv z<|Mv z<|have G:=o; ?_
  obtain ⟨a5,_,rfl,r,⟨a6,I,J,rfl,K,M,N⟩⟩:=G
  refine NL z G8 I8 r.u z<|have P:=K; ?_
  obtain ⟨S,_,rfl,s,⟨U,W,X,Y,Z,aa,ab,ac,ad,ae,af,ag,ai,aj,rfl,ak,am,an,ao,ap,aq,ar,au,aw,ax,t,ay,aA,aB⟩⟩:=P
  refine NL z A4J U3 s.u z<|Mv z<|Mv z<|bE H λa7 aC H=>To (O.cs (A3L (Pt.mk r.u ⟨(.pointer (some S)),I,J,z,(Pt.mk s.u ⟨U,W,X,Y,Z,aa,ab,ac,ad,ae,af,ag,ai,aj,z,ak.u,am.u,an.u,ao.u,ap.u,aq.u,ar.u,au.u,aw.u,ax.u,t.u,ay.u,aA.u,aB.u⟩),M.u,N.u⟩) t.u aC _) λaD w=>Vv (V.not z)<|Kt z<|Nt<|T.cH H z (λH=>?_) λH=>?_)
  ·refine Rg<|Mv z<|Mv z<|Mv z<|To (O.bs A9 J7 z (e:=z) (hk:=z) (xs:=[.tmp 32,.tmp 33]) (hv:=CO.eq (CO.cons z (CO.cons z CO.nil))) (hw:=O4.of z) (hd:=z) λah=>have aI:A7 (VI .i64) aD [[qi p],[qi q]] ([p,q]:List Int):=(A7.cons z (A7.cons z A7.nil)); T.K3 λal aJ aK=>have aM:=A7.slc aK aI.u; bE H λav aN H=>have aO:=(((c.trans d).trans w).trans aJ); have aP:=b.2.1 _ _ _ _ aO hRa; To (O.A4c z z (X6.call b.u aM aP aN As _) z λaz ba bb bc aS=>?_))
   obtain ⟨x,rfl,aU,aV⟩:=aS
   refine P8 ((As++(x++L))) aU<|Ni ?_
   cases H
   exact T.A0V results88 Li ⟨x,z,z,aV⟩
  refine T.skip<|have aW:=((c.trans d).trans w); have aX:=b.2.1 _ _ _ _ aW hRa; ?_
  cases H
  exact T.A0V results88 Li ⟨La,z,z,aX⟩
 refine S2<|S2<|S2<|S2<|S2<|S2<|Kf z<|Nt<|Cf z<|T.skip<|have aY:=(c.trans d); have aZ:=b.2.1 _ _ _ _ aY hRa; ?_
 cases H
 exact T.A0V results88 Li ⟨La,z,z,aZ⟩
theorem C0W {σ:Type} {R:σ→PH→List E5→Prop} {j:σ→Int→(List Int)→Option σ} {m:σ} {q_s:σ} {h n o p a q La} (r:Pt M5 h n o) (y:I5 h p a) (b:X6 R h q j) (hRa:R m h La) (H:B0K o a j m=some q_s):∀ As L,J2 prog 89 [n,.agg p.toArray,q] h ((As++(La++L))) (λv h' L'=>∃ La',v=.tuple #[]∧L'=(As++(La'++L))∧R q_s h' La'):=by
 intro As L
 obtain rfl:=y
 refine J2.enter func89 z z z<|Sr<|To (O.U4 z z z λap A c s=>Nt<|Sm z<|Vv (V.ldS z s (by exact K6)) ?_)
 refine bE H λ⟨d,f,aq⟩ B H=>To (O.cs (A6K r.u (show I5 A [.int .u8 a.F9,qi a.K8,.string a.fA,.string a.fB,.string a.I7,qi a.fN] a from z) B _) λau g=>Mv z<|Wx z z<|Wx z z<|Wx z z<|Ag z<|Ag z<|An z<|Sm z<|Nt<|T.cH H z (λH=>?_) λH=>?_)
 ·refine Sm z<|Mv z<|Mv z<|bE H λ⟨ax,ay⟩ E H=>To (O.cs (B9d r.u E _) λt i=>Mv z<|Wx z z<|Wx z z<|Ag z<|An z<|Sm z<|Vv (V.not z)<|Mv z<|T.bH 28 H z (λH=>?_) λH=>?_)
  ·refine S2<|S2<|Kt z<|Nt<|Ct z<|Rg<|Mv z<|Mv z<|Mv z<|To (O.bs A9 J7 z (e:=z) (hk:=z) (xs:=[.tmp 35,.tmp 36]) (hv:=CO.eq (CO.cons z (CO.cons z CO.nil))) (hw:=O4.of z) (hd:=z) λaC=>have J:A7 (VI .i64) t [[qi d],[qi f]] ([d,f]:List Int):=(A7.cons z (A7.cons z A7.nil)); T.K3 λaD K M=>have N:=A7.slc M J.u; bE H λaE P H=>have S:=(((c.trans g).trans i).trans K); have U:=b.2.1 _ _ _ _ S hRa; To (O.A4c z z (X6.call b.u N U P As _) z λaG aI aJ aK W=>?_))
   obtain ⟨w,rfl,X,Y⟩:=W
   refine P8 ((As++(w++L))) X<|Ni ?_
   cases H
   exact T.A0V results89 Li ⟨w,z,z,Y⟩
  refine Mv z<|Vv (V.fa U5 z)<|Vv (V.M8 (k:=5) D7 z s.u z)<|Wg z z<|Kf z<|Nt<|T.cH H z (λH=>?_) λH=>?_
  ·refine Rg<|Mv z<|Mv z<|Mv z<|To (O.bs A9 J7 z (e:=z) (hk:=z) (xs:=[.tmp 35,.tmp 36]) (hv:=CO.eq (CO.cons z (CO.cons z CO.nil))) (hw:=O4.of z) (hd:=z) λaM=>have Z:A7 (VI .i64) t [[qi d],[qi f]] ([d,f]:List Int):=(A7.cons z (A7.cons z A7.nil)); T.K3 λaN aa ab=>have ac:=A7.slc ab Z.u; bE H λaO ad H=>have ae:=(((c.trans g).trans i).trans aa); have af:=b.2.1 _ _ _ _ ae hRa; To (O.A4c z z (X6.call b.u ac af ad As _) z λaP aS aU aV ag=>?_))
   obtain ⟨x,rfl,ai,aj⟩:=ag
   refine P8 ((As++(x++L))) ai<|Ni ?_
   cases H
   exact T.A0V results89 Li ⟨x,z,z,aj⟩
  refine T.skip<|have ak:=((c.trans g).trans i); have am:=b.2.1 _ _ _ _ ak hRa; ?_
  cases H
  exact T.A0V results89 Li ⟨La,z,z,am⟩
 refine T.skip<|have an:=(c.trans g); have ao:=b.2.1 _ _ _ _ an hRa; ?_
 cases H
 exact T.A0V results89 Li ⟨La,z,z,ao⟩
theorem B8q {σ:Type} {R:σ→PH→List E5→Prop} {j:σ→Int→(List Int)→Option σ} {m:σ} {q_s:σ} {h n o p a q La} (r:Pt M5 h n o) (E:I5 h p a) (b:X6 R h q j) (hRa:R m h La) (H:A8c o a j m=some q_s):∀ As L,J2 prog 90 [n,.agg p.toArray,q] h ((As++(La++L))) (λv h' L'=>∃ La',v=.tuple #[]∧L'=(As++(La'++L))∧R q_s h' La'):=by
 intro As L
 obtain rfl:=E
 refine J2.enter func90 z z z<|Sr<|To (O.U4 z z z λaq G g I=>Nt<|Sm z<|Vv (V.ldS z I (by exact K6)) ?_)
 refine bE H λ⟨s,w,ar⟩ J H=>To (O.cs (A6K r.u (show I5 G [.int .u8 a.F9,qi a.K8,.string a.fA,.string a.fB,.string a.I7,qi a.fN] a from z) J _) λK i=>Mv z<|Wx z z<|Wx z z<|Wx z z<|Ag z<|Ag z<|An z<|Sq<|T.N7 (t:=(.vs [0,1,2,3,4,5,6,7,8,9,10,11,12,13,14,15,16,17,18,19,20,21,22,23,24,25,26,27,28,29,30,31,32,33,34,35] .done)) 37 0 0 z z H9 (by kernel_rfl) ?_)
 refine Tm z z<|Tm z z<|T.bH 17 H z (λH=>?_) λH=>?_
 ·refine Tm z z<|have P:=r; ?_
  obtain ⟨ax,_,rfl,c,⟨ay,aA,aB,rfl,S,d,aC⟩⟩:=P
  refine TL z z z z G8 I8 c.u z<|have U:=S; ?_
  obtain ⟨aD,_,rfl,x,⟨aE,aG,aI,aJ,aK,aM,aN,aO,aP,aS,aU,aV,aW,aX,rfl,aY,aZ,a0,a1,a2,a3,f,a4,a5,a6,a7,a8,a9,ah⟩⟩:=U
  refine TL z z z z U8 D9 x.u z<|Tm z z<|TL z z z z Q4 D9 c.u z<|Tm z z<|bE H λal y H=>?_
  obtain ⟨av,W,rfl⟩:=G6.at d y
  refine Tv z (V.ix A9 z z d (E8 y))<|Tv z (V.R5 D7 z W.u z)<|bE H λaz A H=>?_
  obtain ⟨ba,X,rfl⟩:=G6.at f A
  refine Tv z (V.ix A9 z z f (E8 A))<|Tv z (V.R5 D7 z X.u z)<|Tm z z<|TL z z z z G8 I8 c.u z<|TL z z z z U8 D9 x.u z<|Tm z z<|TL z z z z Q4 D9 c.u z<|Tm z z<|bE H λbb B H=>?_
  obtain ⟨bc,Y,rfl⟩:=G6.at d B
  refine Tv z (V.ix A9 z z d (E8 B))<|Tv z (V.R5 D7 z Y.u z)<|bE H λbd C H=>?_
  obtain ⟨be,Z,rfl⟩:=G6.at f C
  refine Tv z (V.ix A9 z z f (E8 C))<|Tv z (V.R5 D7 z Z.u z)<|Tv z (V.ne z z)<|Tv z (V.pkT z z)<|T.O6 (X2 z z)<|Th<|T.cH H z (λH=>?_) λH=>?_
  ·refine T.norm [2,6,7] z<|Rg<|Mv z<|Mv z<|Mv z<|To (O.bs A9 J7 z (e:=z) (hk:=z) (xs:=[.tmp 53,.tmp 54]) (hv:=CO.eq (CO.cons z (CO.cons z CO.nil))) (hw:=O4.of z) (hd:=z) λbf=>have aa:A7 (VI .i64) K [[qi s],[qi w]] ([s,w]:List Int):=(A7.cons z (A7.cons z A7.nil)); T.K3 λbg ab ac=>have ad:=A7.slc ac aa.u; bE H λbi ae H=>have af:=((g.trans i).trans ab); have ag:=b.2.1 _ _ _ _ af hRa; To (O.A4c z z (X6.call b.u ad ag ae As _) z λbj bk bm bn ai=>?_))
   obtain ⟨D,rfl,aj,ak⟩:=ai
   refine P8 ((As++(D++L))) aj<|Ni ?_
   cases H
   exact T.A0V results90 Li ⟨D,z,z,ak⟩
  refine T.skip<|have am:=(g.trans i); have an:=b.2.1 _ _ _ _ am hRa; ?_
  cases H
  exact T.A0V results90 Li ⟨La,z,z,an⟩
 refine T2 z z<|T2 z z<|T2 z z<|T2 z z<|T2 z z<|T2 z z<|T2 z z<|T2 z z<|T2 z z<|T2 z z<|T2 z z<|T2 z z<|T2 z z<|T2 z z<|T2 z z<|T2 z z<|Tk z<|Tv z (V.pkF z z)<|T.O6 (X2 z z)<|Th<|Cf z<|T.skip<|have ao:=(g.trans i); have ap:=b.2.1 _ _ _ _ ao hRa; ?_
 cases H
 exact T.A0V results90 Li ⟨La,z,z,ap⟩
theorem C6a {σ:Type} {R:σ→PH→List E5→Prop} {g:σ→Int→(List Int)→Option σ} {i:σ} {q_s:σ} {h j m n o p La} (B:Pt M5 h j m) (C:I5 h n o) (a:X6 R h p g) (hRa:R i h La) (H:B9P m o g i=some q_s):∀ As L,J2 prog 91 [j,.agg n.toArray,p] h ((As++(La++L))) (λv h' L'=>∃ La',v=.tuple #[]∧L'=(As++(La'++L))∧R q_s h' La'):=by
 intro As L
 obtain rfl:=C
 refine J2.enter func91 z z z<|Sr<|To (O.U4 z z z λax ay c q=>Nt<|Sq<|T.N7 (t:=(.vs [0,1,2,3,4,5,6,7,8] (.alt 9 (.alt 10 .done .no) .no))) 12 0 0 z z H9 (by kernel_rfl) ?_)
 refine Tm z z<|have D:=B; ?_
 obtain ⟨aA,_,rfl,b,⟨aB,aC,aD,rfl,G,r,aE⟩⟩:=D
 refine TL z z z z G8 I8 b.u z<|have I:=G; ?_
 obtain ⟨aG,_,rfl,d,⟨J,K,M,N,P,aI,aJ,aK,aM,aN,aO,aP,aS,aU,rfl,e,S,U,W,X,aV,s,aW,aX,aY,aZ,a0,a1,a2⟩⟩:=I
 refine TF z z z M3<|Tv z (V.C9z (k:=0) B2d z d.u (Nat.le_of_ble_eq_true z))<|Tv z (V.fa A0b z)<|Tv z (V.M8 (k:=2) J5 z q z)<|bE H λa3 Y H=>Tp z z (X2 z z) (O.G5 z (A2n ⟨J,K,M,N,P,z,e.u,S.u,U.u,W.u,X.u⟩ Y _) z λa4 a5 a6 f Z=>?_) T.P6
 obtain ⟨rfl,aa⟩:=Z
 refine P8 _ aa<|Ts z z (SX.two (XA.fr [] Li z) (XA.fr [] Li z)) (V.asg z) z ?_ T.P6
 refine T.O6 (SX.two (XA.fr [] Li z) (XA.fr [] Li z))<|Th<|Sm z<|NL z Q4 D9 b.u z<|Mv z<|bE H λa7 w H=>?_
 obtain ⟨a8,ab,rfl⟩:=G6.at r w
 refine Vv (V.ix A9 z z r (E8 w))<|Vv (V.R5 D7 z ab.u z)<|An z<|Sq<|T.N7 (t:=(.vs [0,1,2,3,4,5,6,7,8,9,10,11,12,13,14,15,16,17,18,19,20,21,22,23,24,25,26,27] .done)) 29 0 0 z z H9 (by kernel_rfl) ?_
 refine Tm z z<|Tv z (V.ge z z)<|Tm z z<|T.bH 27 H z (λH=>?_) λH=>?_
 ·refine Tm z z<|TL z z z z G8 I8 b.u z<|TF z z z M3<|Tv z (V.fa B1c z)<|Tv z (V.M8 (k:=0) Q0 z d.u z)<|Tm z z<|TL z z z z G8 I8 b.u z<|TL z z z z U8 D9 d.u z<|Tm z z<|bE H λa9 x H=>?_
  obtain ⟨ah,ac,rfl⟩:=G6.at s x
  refine Tv z (V.ix A9 z z s (E8 x))<|Tv z (V.R5 D7 z ac.u z)<|bE H λal y H=>?_
  obtain ⟨av,ad,⟨az,rfl,ba⟩⟩:=G6.at e y
  refine Tv z (V.ix O5 z z e (E8 y))<|Tv z (V.fa A0o z)<|Tv z (V.M8 (k:=0) J5 z ad.u z)<|Tv z (V.fa V8 z)<|Tv z (V.M8 (k:=4) J5 z q.u z)<|Tv z (V.sne z z)<|Tv z (V.pkT z z)<|T.O6 (X2 z z)<|Th<|T.cH H z (λH=>?_) λH=>?_
  ·refine T.norm [2,6] z<|Rg<|Mv z<|Mv z<|To (O.b1 (E:=VI .i64) A9 J7 z z z z z λbb ae=>T.K3 λbc af ag=>have ai:=A7.slc ag ae.u; bE H λbd aj H=>have ak:=((c.trans f).trans af); have am:=a.2.1 _ _ _ _ ak hRa; To (O.A4c z z (X6.call a.u ai am aj As _) z λbe bf bg bi an=>?_))
   obtain ⟨A,rfl,ao,ap⟩:=an
   refine P8 ((As++(A++L))) ao<|Ni ?_
   cases H
   exact T.A0V results91 Li ⟨A,z,z,ap⟩
  refine T.skip<|have aq:=(c.trans f); have ar:=a.2.1 _ _ _ _ aq hRa; ?_
  cases H
  exact T.A0V results91 Li ⟨La,z,z,ar⟩
 refine T2 z z<|T2 z z<|T2 z z<|T2 z z<|T2 z z<|T2 z z<|T2 z z<|T2 z z<|T2 z z<|T2 z z<|T2 z z<|T2 z z<|Tv z (V.pkF z z)<|T.O6 (X2 z z)<|Th<|Cf z<|T.skip<|have au:=(c.trans f); have aw:=a.2.1 _ _ _ _ au hRa; ?_
 cases H
 exact T.A0V results91 Li ⟨La,z,z,aw⟩
theorem C3O {σ:Type} {R:σ→PH→List E5→Prop} {r:σ→Int→(List Int)→Option σ} {s:σ} {q_s:σ} {h w m x y A La} (S:Pt M5 h w m) (U:I5 h x y) (b:X6 R h A r) (hRa:R s h La) (H:B4L m y r s=some q_s):∀ As L,J2 prog 92 [w,.agg x.toArray,A] h ((As++(La++L))) (λv h' L'=>∃ La',v=.tuple #[]∧L'=(As++(La'++L))∧R q_s h' La'):=by
 intro As L
 obtain rfl:=U
 refine J2.enter func92 z z z<|Sr<|To (O.U4 z z z λah al i n=>Nt<|Sq<|T.N7 (t:=(.vs [0,1,2,3,4,5,6,7,8] (.alt 9 (.alt 10 .done .no) .no))) 12 0 0 z z H9 (by kernel_rfl) ?_)
 refine Tm z z<|have W:=S; ?_
 obtain ⟨av,_,rfl,c,⟨az,ba,bb,rfl,X,B,bc⟩⟩:=W
 refine TL z z z z G8 I8 c.u z<|have Y:=X; ?_
 obtain ⟨bd,_,rfl,f,⟨Z,aa,ab,ac,ad,be,bf,bg,bi,bj,bk,bm,bn,bo,rfl,o,ae,af,ai,aj,bp,d,bq,br,bs,bt,bu,bw,bx⟩⟩:=Y
 refine TF z z z M3<|Tv z (V.C9z (k:=0) B2d z f.u (Nat.le_of_ble_eq_true z))<|Tv z (V.fa A0b z)<|Tv z (V.M8 (k:=2) J5 z n z)<|bE H λbA ak H=>Tp z z (X2 z z) (O.G5 z (A2n ⟨Z,aa,ab,ac,ad,z,o.u,ae.u,af.u,ai.u,aj.u⟩ ak _) z λbB bC bD j am=>?_) T.P6
 obtain ⟨rfl,an⟩:=am
 refine P8 _ an<|Ts z z (SX.two (XA.fr [] Li z) (XA.fr [] Li z)) (V.asg z) z ?_ T.P6
 refine T.O6 (SX.two (XA.fr [] Li z) (XA.fr [] Li z))<|Th<|Sm z<|NL z Q4 D9 c.u z<|Mv z<|bE H λC D H=>?_
 obtain ⟨bG,ao,rfl⟩:=G6.at B D
 refine Vv (V.ix A9 z z B (E8 D))<|Vv (V.R5 D7 z ao.u z)<|An z<|Sq<|Sm z<|Wl z z<|Nt<|T.cH H z (λH=>?_) λH=>?_
 ·refine T.ret<|Tr<|have ap:=(i.trans j); have aq:=b.2.1 _ _ _ _ ap hRa; ?_
  cases H
  exact T.C5R results92 Li ⟨La,z,z,aq⟩
 refine Ks<|Sm z<|An z<|Sq ?_
 obtain ⟨G,ar,au⟩:=J6 H
 refine T.ck (α:=Int) [0,2,4,6,7] (λg=>([(8,qi g)],(As++(La++L)),λhh=>G=g)) ?_ ?_
 ·have H:=ar
  refine Bl<|T.lk [0,2,4,6,7] (FUEL,C) (λ⟨e,a⟩=>([(8,qi a)],(As++(La++L)),λhh=>iter (A9x m C) e a=some G)) H ?_
  rintro ⟨e,a⟩ bI bJ aw
  obtain ⟨ax,bK,rfl,H,p⟩:=G7 aw
  refine T.norm [8,0,2,4,6,7] z<|P8 ((As++(La++L))) z<|Sq<|Sq<|T.N7 (t:=(.vs [0,1,2,3,4,5,6,7,8,9,10,11,12,13,14,15,16,17,18,19,20,21,22,23,24,25] .done)) 27 0 0 z z H9 (by kernel_rfl) ?_
  refine Tm z z<|Tv z (V.gt z z)<|Tm z z<|T.bH 31 H z (λH=>?_) λH=>?_
  ·refine Tm z z<|TL z z z z G8 I8 c.u z<|TL z z z z U8 D9 f.u z<|Tm z z<|bE H λbM ay H=>Tv z (V.Z4 z z ay)<|bE H λbN I H=>?_
   obtain ⟨bO,aA,rfl⟩:=G6.at d I
   refine Tv z (V.ix A9 z z d (E8 I))<|Tv z (V.R5 D7 z aA.u z)<|Tm z z<|TL z z z z G8 I8 c.u z<|TL z z z z U8 D9 f.u z<|Tm z z<|bE H λbP J H=>?_
   obtain ⟨bS,aB,rfl⟩:=G6.at d J
   refine Tv z (V.ix A9 z z d (E8 J))<|Tv z (V.R5 D7 z aB.u z)<|Tv z (V.eq z z)<|Tv z (V.pkT z z)<|T.O6 (X2 z z)<|Th<|T.cH H z (λH=>?_) λH=>?_
   ·refine Ks<|Bl<|Rg<|Mv z<|bE H λaC aD H=>Vv (V.Z4 z z aD)<|Ag z<|Ni<|Bn<|Th<|T.ag (ax,aC) (D8 H p)
   refine T.exit<|Te<|Te<|have H:=D6 H p; Be<|Th<|T.mt a H
  refine T2 z z<|T2 z z<|T2 z z<|T2 z z<|T2 z z<|T2 z z<|T2 z z<|T2 z z<|T2 z z<|T2 z z<|T2 z z<|Tv z (V.pkF z z)<|T.O6 (X2 z z)<|Th<|Cf z<|T.exit<|Te<|Te<|have H:=D6 H p; Be<|Th<|T.mt a H
 rintro g bU q aE
 have H:=I4 aE au
 refine T.norm [8,0,2,4,6,7] z<|P8 ((As++(La++L))) z<|Sq<|T.N7 (t:=(.vs [0,1,2,3,4,5,6,7,8,9,10,11,12,13,14,15,16,17,18,19,20,21,22,23,24,25,26,27,28,29,30,31] .done)) 33 0 0 z z H9 (by kernel_rfl) ?_
 refine Tm z z<|TL z z z z G8 I8 c.u z<|TF z z z M3<|Tv z (V.fa B1c z)<|Tv z (V.M8 (k:=0) Q0 z f.u z)<|Tm z z<|TL z z z z G8 I8 c.u z<|TL z z z z U8 D9 f.u z<|Tm z z<|bE H λbV K H=>?_
 obtain ⟨bW,aG,rfl⟩:=G6.at d K
 refine Tv z (V.ix A9 z z d (E8 K))<|Tv z (V.R5 D7 z aG.u z)<|bE H λbX M H=>?_
 obtain ⟨bY,aI,⟨bZ,rfl,b0⟩⟩:=G6.at o M
 refine Tv z (V.ix O5 z z o (E8 M))<|Tv z (V.fa A0o z)<|Tv z (V.M8 (k:=0) J5 z aI.u z)<|Tv z (V.fa V8 z)<|Tv z (V.M8 (k:=4) J5 z n.u z)<|Tv z (V.sne z z)<|Tm z z<|T.bH 81 H z (λH=>?_) λH=>?_
 ·refine T2 z z<|T2 z z<|T2 z z<|Tv z (V.pkT z z)<|T.O6 (X2 z z)<|Th<|Ct z<|Rg<|Mv z<|Mv z<|To (O.b1 (E:=VI .i64) A9 J7 z z z z z λb2 aJ=>T.K3 λb3 aK aM=>have aN:=A7.slc aM aJ.u; bE H λb4 aO H=>have aP:=(((i.trans j).trans q).trans aK); have aS:=b.2.1 _ _ _ _ aP hRa; To (O.A4c z z (X6.call b.u aN aS aO As _) z λb5 b6 b7 b8 aU=>?_))
  obtain ⟨N,rfl,aV,aW⟩:=aU
  refine P8 ((As++(N++L))) aV<|Ni ?_
  cases H
  exact T.A0V results92 Li ⟨N,z,z,aW⟩
 refine Tm z z<|Tm z z<|bE H λb9 aX H=>Tv z (V.Z4 z z aX)<|Tv z (V.fa U5 z)<|Tv z (V.M8 (k:=5) D7 z n.u z)<|Tv z (V.ne z z)<|Tv z (V.pkF z z)<|T.O6 (X2 z z)<|Th<|T.cH H z (λH=>?_) λH=>?_
 ·refine T.norm [2,6] z<|Rg<|Mv z<|Mv z<|To (O.b1 (E:=VI .i64) A9 J7 z z z z z λbh aY=>T.K3 λbl aZ a0=>have a1:=A7.slc a0 aY.u; bE H λbv a2 H=>have a3:=(((i.trans j).trans q).trans aZ); have a4:=b.2.1 _ _ _ _ a3 hRa; To (O.A4c z z (X6.call b.u a1 a4 a2 As _) z λbz ca cb cc a5=>?_))
  obtain ⟨P,rfl,a6,a7⟩:=a5
  refine P8 ((As++(P++L))) a6<|Ni ?_
  cases H
  exact T.A0V results92 Li ⟨P,z,z,a7⟩
 refine T.skip<|have a8:=((i.trans j).trans q); have a9:=b.2.1 _ _ _ _ a8 hRa; ?_
 cases H
 exact T.A0V results92 Li ⟨La,z,z,a9⟩
theorem C1K {σ:Type} {R:σ→PH→List E5→Prop} {n:σ→Int→(List Int)→Option σ} {o:σ} {q_s:σ} {h w p x q y La} (M:Pt M5 h w p) (N:I5 h x q) (i:X6 R h y n) (hRa:R o h La) (H:B2l p q n o=some q_s):∀ As L,J2 prog 95 [w,.agg x.toArray,y] h ((As++(La++L))) (λv h' L'=>∃ La',v=.tuple #[]∧L'=(As++(La'++L))∧R q_s h' La'):=by
 intro As L
 obtain rfl:=N
 refine J2.enter func95 z z z<|Sr<|To (O.U4 z z z λaZ a0 P A=>Nt<|Sm z<|have S:=M; ?_)
 obtain ⟨a1,_,rfl,j,⟨a2,a3,a4,rfl,U,r,a5⟩⟩:=S
 refine NL z Q4 D9 j.u z<|Vv (V.Q3 A9 z r)<|Mv z<|Nt<|T.A0S ?_
 obtain ⟨W,X,Y⟩:=J6 H
 have H:=X
 refine Bl<|have Z:=i.2.1 _ _ _ _ P hRa; T.lk [0,2,4,11,12] (FUEL,o,(0:Int),La) (λ⟨e,b,f,a⟩=>([(13,qi f)],(As++(a++L)),λhh=>iter (A5m p q n) e (b,f)=some W∧R b hh a)) ⟨H,Z⟩ ?_
 rintro ⟨e,b,f,a⟩ a6 a7 ⟨aa,c⟩
 obtain ⟨g,a8,rfl,H,d⟩:=G7 aa
 refine T.norm [13,0,2,4,11,12] z<|P8 ((As++(a++L))) z<|Sr<|Wl z z<|Nt<|Sq<|T.cH H z (λH=>?_) λH=>?_
 ·refine Ks<|Sq<|Bl<|Sm z<|bE H λa9 B H=>?_
  obtain ⟨ah,ab,rfl⟩:=G6.at r B
  refine Vv (V.ix A9 z z r (E8 B))<|Vv (V.R5 D7 z ab.u z)<|Ag z<|An z<|Sq<|T.N7 (t:=(.vs [0,1,2,3,4,5,6,7,8,9,10,11,12,13,14,15,16,17,18,19,20,21,22,23,24,25,26,27,28,29,30,31,32,33,34,35,36,37,38,39,40,41,42,43,44,45,46,47,48,49,50] .done)) 52 0 0 z z H9 (by kernel_rfl) ?_
  refine Tm z z<|Tv z (V.ge z z)<|Tm z z<|T.bH 20 H z (λH=>?_) λH=>?_
  ·refine Tm z z<|TL z z z z G8 I8 j.u z<|have ac:=U; ?_
   obtain ⟨al,_,rfl,s,⟨av,az,ba,bb,bc,bd,be,bf,bg,bi,bj,bk,bm,bn,rfl,bo,m,bp,bq,br,bs,bt,bu,C,bw,bx,bA,bB,bC⟩⟩:=ac
   refine TL z z z z B2K B2F s.u z<|Tm z z<|bE H λbD D H=>?_
   obtain ⟨bG,ad,rfl⟩:=G6.at C D
   refine Tv z (V.ix X5 z z C (E8 D))<|Tv z (V.R5 U6 z ad.u z)<|Tv z (V.not z)<|Tv z (V.pkT z z)<|Tm z z<|T.bH 33 H z (λH=>?_) λH=>?_
   ·refine Tv z (V.fa A0b z)<|Tv z (V.M8 (k:=2) J5 z A.u z)<|Tm z z<|TL z z z z G8 I8 j.u z<|TF z z z M3<|Tv z (V.fa A0N z)<|Tv z (V.M8 (k:=1) N9 z s.u z)<|Tm z z<|bE H λbI G H=>?_
    obtain ⟨bJ,ae,⟨bK,rfl,bM⟩⟩:=G6.at m G
    refine Tv z (V.ix O7 z z m (E8 G))<|Tv z (V.fa A0l z)<|Tv z (V.M8 (k:=0) J5 z ae.u z)<|Tv z (V.seq z z)<|Tm z z<|T.bH 49 H z (λH=>?_) λH=>?_
    ·refine T2 z z<|T2 z z<|T2 z z<|T2 z z<|T2 z z<|T2 z z<|T2 z z<|T2 z z<|Tk z<|Tv z (V.pkT z z)<|Tv z (V.pkT z z)<|T.O6 (X2 z z)<|Th<|Ct z<|T.norm [0,2,4,6,11,12,13] z<|Rg<|Mv z<|Mv z<|To (O.b1 (E:=VI .i64) A9 J7 z z z z z λbN af=>T.K3 λbO ai aj=>have ak:=A7.slc aj af.u; bE H λam an H=>have ao:=i.2.1 _ _ _ _ ai c; To (O.A4c z z (X6.call i.u ak ao an As _) z λbP bS bU bV ap=>?_))
     obtain ⟨I,rfl,aq,ar⟩:=ap
     refine P8 ((As++(I++L))) aq<|Ni<|Bn<|Th<|Rg<|bE H λau aw H=>Vv (V.H5 z z aw)<|Mv z<|Nt<|T.ag (g,am,au,I) ⟨(D8 H d),ar⟩
    refine Tv z (V.fa A0b z)<|Tv z (V.M8 (k:=2) J5 z A.u z)<|Tv z (V.seq z z)<|Tm z z<|T.bH 53 H z (λH=>?_) λH=>?_
    ·refine Tm z z<|TL z z z z G8 I8 j.u z<|TF z z z M3<|Tv z (V.fa A0N z)<|Tv z (V.M8 (k:=1) N9 z s.u z)<|Tm z z<|bE H λbW J H=>?_
     obtain ⟨bX,ax,⟨bY,rfl,bZ⟩⟩:=G6.at m J
     refine Tv z (V.ix O7 z z m (E8 J))<|Tv z (V.fa C4l z)<|Tv z (V.M8 (k:=7) U6 z ax.u z)<|Tv z (V.pkT z z)<|Tv z (V.pkF z z)<|Tv z (V.pkT z z)<|T.O6 (X2 z z)<|Th<|T.cH H z (λH=>?_) λH=>?_
     ·refine T.norm [0,2,4,6,11,12,13] z<|Rg<|Mv z<|Mv z<|To (O.b1 (E:=VI .i64) A9 J7 z z z z z λb0 ay=>T.K3 λb2 aA aB=>have aC:=A7.slc aB ay.u; bE H λaD aE H=>have aG:=i.2.1 _ _ _ _ aA c; To (O.A4c z z (X6.call i.u aC aG aE As _) z λb3 b4 b5 b6 aI=>?_))
      obtain ⟨K,rfl,aJ,aK⟩:=aI
      refine P8 ((As++(K++L))) aJ<|Ni<|Bn<|Th<|Rg<|bE H λaM aN H=>Vv (V.H5 z z aN)<|Mv z<|Nt<|T.ag (g,aD,aM,K) ⟨(D8 H d),aK⟩
     refine T.skip<|Bn<|Th<|T.norm [0,2,4,11,12,13] z<|Rg<|bE H λaO aP H=>Vv (V.H5 z z aP)<|Mv z<|Nt<|T.ag (g,b,aO,a) ⟨(D8 H d),c⟩
    refine T2 z z<|T2 z z<|T2 z z<|T2 z z<|T2 z z<|T2 z z<|Tv z (V.pkF z z)<|Tv z (V.pkF z z)<|Tv z (V.pkT z z)<|T.O6 (X2 z z)<|Th<|Cf z<|T.skip<|Bn<|Th<|T.norm [0,2,4,11,12,13] z<|Rg<|bE H λaS aU H=>Vv (V.H5 z z aU)<|Mv z<|Nt<|T.ag (g,b,aS,a) ⟨(D8 H d),c⟩
   refine T2 z z<|T2 z z<|T2 z z<|T2 z z<|T2 z z<|T2 z z<|T2 z z<|T2 z z<|T2 z z<|T2 z z<|T2 z z<|T2 z z<|T2 z z<|T2 z z<|T2 z z<|T2 z z<|T2 z z<|Tv z (V.pkF z z)<|T.O6 (X2 z z)<|Th<|Cf z<|T.skip<|Bn<|Th<|Rg<|bE H λaV aW H=>Vv (V.H5 z z aW)<|Mv z<|Nt<|T.ag (g,b,aV,a) ⟨(D8 H d),c⟩
  refine T2 z z<|T2 z z<|T2 z z<|T2 z z<|T2 z z<|Tk z<|Tv z (V.pkF z z)<|Tm z z<|T2 z z<|T2 z z<|T2 z z<|T2 z z<|T2 z z<|T2 z z<|T2 z z<|T2 z z<|T2 z z<|T2 z z<|T2 z z<|T2 z z<|T2 z z<|T2 z z<|T2 z z<|T2 z z<|T2 z z<|Tv z (V.pkF z z)<|T.O6 (X2 z z)<|Th<|Cf z<|T.skip<|Bn<|Th<|Rg<|bE H λaX aY H=>Vv (V.H5 z z aY)<|Mv z<|Nt<|T.ag (g,b,aX,a) ⟨(D8 H d),c⟩
 refine T.exit<|Te<|Te<|have H:=D6 H d; Be<|Th<|have H:=I4 H Y; ?_
 cases H
 exact T.A0V results95 Li ⟨a,z,z,c⟩
theorem C1X {σ:Type} {R:σ→PH→List E5→Prop} {J:σ→Int→(List Int)→Option σ} {K:σ} {q_s:σ} {h Y x Z b aa La} (aD:Pt M5 h Y x) (aE:I5 h Z b) (n:X6 R h aa J) (hRa:R K h La) (H:B2L x b J K=some q_s):∀ As L,J2 prog 96 [Y,.agg Z.toArray,aa] h ((As++(La++L))) (λv h' L'=>∃ La',v=.tuple #[]∧L'=(As++(La'++L))∧R q_s h' La'):=by
 intro As L
 obtain rfl:=aE
 refine J2.enter func96 z z z<|Sr<|To (O.U4 z z z λb8 b9 aG aI=>Nt<|Sm z<|have aJ:=aD; ?_)
 obtain ⟨bh,_,rfl,o,⟨aK,aM,aN,rfl,ab,C,M⟩⟩:=aJ
 refine NL z Q4 D9 o.u z<|Vv (V.Q3 A9 z C)<|Mv z<|Nt<|T.A0S ?_
 obtain ⟨aO,aP,aS⟩:=J6 H
 have H:=aP
 refine Bl<|have aU:=n.2.1 _ _ _ _ aG hRa; T.lk [0,2,4,18,19] (FUEL,K,(0:Int),La) (λ⟨p,c,d,a⟩=>([(20,qi d)],(As++(a++L)),λhh=>iter (A5F x b J) p (c,d)=some aO∧R c hh a)) ⟨H,aU⟩ ?_
 rintro ⟨p,c,d,a⟩ aV bl ⟨aW,y⟩
 obtain ⟨D,bv,rfl,H,A⟩:=G7 aW
 refine T.norm [20,0,2,4,18,19] z<|P8 ((As++(a++L))) z<|Sr<|Wl z z<|Nt<|Sq<|T.cH H z (λH=>?_) λH=>?_
 ·refine Ks<|Sq<|Bl<|Sm z<|bE H λbz ac H=>?_
  obtain ⟨ca,aX,rfl⟩:=G6.at C ac
  refine Vv (V.ix A9 z z C (E8 ac))<|Vv (V.R5 D7 z aX.u z)<|Ag z<|An z<|Sq<|Sq ?_
  obtain ⟨aY,aZ,a0⟩:=J6 H
  refine T.ck (α:=Bool) [0,2,4,6,7,18,19,20] (λB=>([(33,.bool B)],(As++(a++L)),λhh=>aY=B)) ?_ ?_
  ·have H:=aZ
   refine Rg<|Mv z<|Wl z z<|Mv z<|T.bH 27 H z (λH=>?_) λH=>?_
   ·refine S2<|S2<|Sk<|Kt z<|Nt<|T.mt true (M0 H)
   refine Mv z<|Vv (V.ldS z aI.u (by exact K6)) ?_
   refine Mv z<|bE H λa1 a2 H=>To (O.G5 z (A5B (Pt.mk o.u ⟨aK,aM,aN,z,ab.u,C.u,M.u⟩) (show I5 aV [.int .u8 b.F9,qi b.K8,.string b.fA,.string b.fB,.string b.I7,qi b.fN] b from z) a2 _) z λcb cc cd ce a3=>?_)
   obtain ⟨rfl,a4⟩:=a3
   refine P8 _ a4<|Vv (V.not z)<|Kf z<|Nt<|T.mt (!a1) (M0 H)
  rintro B a5 G a6
  have H:=I4 a6 a0
  refine T.norm [33,0,2,4,6,7,18,19,20] z<|P8 ((As++(a++L))) z<|T.cH H z (λH=>?_) λH=>?_
  ·refine T.exit<|Te<|Be<|Th<|Rg<|bE H λa7 a8 H=>Vv (V.H5 z z a8)<|Mv z<|Nt<|have a9:=n.2.1 _ _ _ _ G y; T.ag (D,c,a7,a) ⟨(D8 H A),a9⟩
  refine Ks<|Sg z<|An z<|Sq<|Sq<|T.N7 (t:=(.vs [0,1,2,3,4,5,6,7,8,9,10,11,12,13,14,15,16,17,18,19,22] (.alt 20 (.g (.v 21 .done)) .no))) 24 0 0 z z H9 (by kernel_rfl) ?_
  refine Tm z z<|TL z z z z G8 I8 o.u z<|have ah:=ab; ?_
  obtain ⟨cf,_,rfl,N,⟨cg,ci,cj,ck,cm,cn,co,cp,cq,cr,cs,ct,cu,cw,rfl,cx,cy,cA,cB,cC,cD,cE,cG,cI,ad,ae,cJ,af,cK⟩⟩:=ah
  refine TL z z z z A2i U3 N.u z<|Tm z z<|bE H λai aj H=>?_
  obtain ⟨cM,al,⟨ak,rfl,am⟩⟩:=G6.at ad aj
  refine Tv z (V.ix K4 z z ad (E8 aj))<|Tv z (V.R5 D9 z al.u z)<|Tm z z<|TL z z z z G8 I8 o.u z<|TL z z z z A4J U3 N.u z<|Tm z z<|bE H λan ao H=>?_
  obtain ⟨cN,av,⟨ap,rfl,aq⟩⟩:=G6.at ae ao
  refine Tv z (V.ix K4 z z ae (E8 ao))<|Tv z (V.R5 D9 z av.u z)<|Tm z z<|Tp z z (X2 z z) (O.bs K4 A1w z (e:=z) (hk:=z) (xs:=[.tmp 43,.tmp 53]) (hv:=CO.eq (CO.cons (G6.cells am) (CO.cons (G6.cells aq) CO.nil))) (hw:=O4.of z) (hd:=z) λcO=>?_) T.P6
  have az:A7 (VSl (VI .i64) 1) a5 [[ak],[ap]] ([ai,an]:List (List Int)):=(A7.cons ⟨ak,z,am.u⟩ (A7.cons ⟨ap,z,aq.u⟩ A7.nil))
  refine T.K3 λcP P ba=>have S:=A7.slc ba az.u; T.O1 Li<|Tv z (V.Q3 K4 z S)<|T.O6 (X2 z z)<|Th ?_
  obtain ⟨bb,bc,bd⟩:=J6 H
  have H:=bc
  refine Bl<|T.lk [0,2,4,6,18,19,20,54,55] (FUEL,(0:Int),false,true) (λ⟨q,r,j,m⟩=>([(56,qi r),(8,.bool j),(9,.bool m)],(As++(a++L)),λhh=>iter (A1D x d ai an) q (r,j,m)=some bb)) H ?_
  rintro ⟨q,r,j,m⟩ cS U be
  obtain ⟨bf,cU,rfl,H,ar⟩:=G7 be
  refine T.norm [56,8,9,0,2,4,6,18,19,20,54,55] z<|P8 ((As++(a++L))) z<|Sr<|Wl z z<|Nt<|Sq<|T.cH H z (λH=>?_) λH=>?_
  ·refine Ks<|Sq<|Bl<|Sr<|bE H λbg au H=>?_
   obtain ⟨cV,bi,⟨cW,rfl,W⟩⟩:=G6.at S au
   refine Vv (V.ix K4 z z S (E8 au))<|Vv (V.R5 D9 z bi.u z)<|An z<|Sm z<|Vv (V.Q3 A9 z W)<|Mv z<|Nt<|T.A0S ?_
   obtain ⟨bj,bk,bm⟩:=J6 H
   have H:=bk
   refine Bl<|T.lk [0,2,4,6,18,19,20,54,55,56,60,61] (FUEL,(0:Int),j,m) (λ⟨s,w,f,i⟩=>([(62,qi w),(8,.bool f),(9,.bool i)],(As++(a++L)),λhh=>iter (A2D x d bg) s (w,f,i)=some bj)) H ?_
   rintro ⟨s,w,f,i⟩ cX cY bn
   obtain ⟨X,cZ,rfl,H,I⟩:=G7 bn
   refine T.norm [62,8,9,0,2,4,6,18,19,20,54,55,56,60,61] z<|P8 ((As++(a++L))) z<|Sr<|Wl z z<|Nt<|Sq<|T.cH H z (λH=>?_) λH=>?_
   ·refine Ks<|Sq<|Bl<|Sr<|bE H λc0 aw H=>?_
    obtain ⟨c1,bo,rfl⟩:=G6.at W aw
    refine Vv (V.ix A9 z z W (E8 aw))<|Vv (V.R5 D7 z bo.u z)<|An z<|Sm z<|NL z B2z D9 o.u z<|Mv z<|bE H λc2 ax H=>?_
    obtain ⟨c3,bp,rfl⟩:=G6.at M ax
    refine Vv (V.ix A9 z z M (E8 ax))<|Vv (V.R5 D7 z bp.u z)<|An z<|Sm z<|Vv (V.ge z z)<|Nt<|T.cH H z (λH=>?_) λH=>?_
    ·refine Sr<|An z<|Rg<|Mv z<|Mv z<|T.bH 76 H z (λH=>?_) λH=>?_
     ·refine Mv z<|NL z G8 I8 o.u z<|NL z A7g B0g N.u z<|Mv z<|bE H λc4 ay H=>?_
      obtain ⟨c5,bq,⟨c6,rfl,aA⟩⟩:=G6.at af ay
      refine Vv (V.ix A3v z z af (E8 ay))<|Vv (V.R5 B2F z bq.u z)<|Mv z<|bE H λbr aB H=>?_
      obtain ⟨c7,bt,rfl⟩:=G6.at aA aB
      refine Vv (V.ix X5 z z aA (E8 aB))<|Vv (V.R5 U6 z bt.u z)<|Vv (V.not z)<|Kt z<|Ag z<|Ni<|Bn<|Th<|T.norm [0,2,4,6,8,9,18,19,20,54,55,56,60,61,62] z<|Rg<|bE H λbu bw H=>Vv (V.H5 z z bw)<|Mv z<|Nt<|T.ag (X,bu,true,!br) (D8 H I)
     refine S2<|S2<|S2<|S2<|S2<|S2<|S2<|Kf z<|Ag z<|Ni<|Bn<|Th<|Rg<|bE H λbx bA H=>Vv (V.H5 z z bA)<|Mv z<|Nt<|T.ag (X,bx,true,false) (D8 H I)
    refine T.skip<|Bn<|Th<|Rg<|bE H λbB bC H=>Vv (V.H5 z z bC)<|Mv z<|Nt<|T.ag (X,bB,f,i) (D8 H I)
   refine T.exit<|Te<|Te<|have H:=D6 H I; Be<|Th<|have H:=I4 H bm; Bn<|Th<|Rg<|bE H λbD bG H=>Vv (V.H5 z z bG)<|Mv z<|Nt<|T.ag (bf,bD,f,i) (D8 H ar)
  refine T.exit<|Te<|Te<|have H:=D6 H ar; Be<|Th<|have H:=I4 H bd; Sm z<|Mv z<|T.bH 95 H z (λH=>?_) λH=>?_
  ·refine Mv z<|Kt z<|Nt<|T.cH H z (λH=>?_) λH=>?_
   ·refine Rg<|Mv z<|Mv z<|To (O.b1 (E:=VI .i64) A9 J7 z z z z z λc8 bI=>T.K3 λc9 bJ bK=>have bM:=A7.slc bK bI.u; bE H λbN bO H=>have bP:=(((G.trans P).trans U).trans bJ); have bS:=n.2.1 _ _ _ _ bP y; To (O.A4c z z (X6.call n.u bM bS bO As _) z λch cl cv cz bU=>?_))
    obtain ⟨aC,rfl,bV,bW⟩:=bU
    refine P8 ((As++(aC++L))) bV<|Ni<|Bn<|Th<|Rg<|bE H λbX bY H=>Vv (V.H5 z z bY)<|Mv z<|Nt<|T.ag (D,bN,bX,aC) ⟨(D8 H A),bW⟩
   refine T.skip<|Bn<|Th<|Rg<|bE H λbZ b0 H=>Vv (V.H5 z z b0)<|Mv z<|Nt<|have b2:=((G.trans P).trans U); have b3:=n.2.1 _ _ _ _ b2 y; T.ag (D,c,bZ,a) ⟨(D8 H A),b3⟩
  refine Sk<|Kf z<|Nt<|Cf z<|T.skip<|Bn<|Th<|Rg<|bE H λb4 b5 H=>Vv (V.H5 z z b5)<|Mv z<|Nt<|have b6:=((G.trans P).trans U); have b7:=n.2.1 _ _ _ _ b6 y; T.ag (D,c,b4,a) ⟨(D8 H A),b7⟩
 refine T.exit<|Te<|Te<|have H:=D6 H A; Be<|Th<|have H:=I4 H aS; ?_
 cases H
 exact T.A0V results96 Li ⟨a,z,z,y⟩
theorem B9v {σ:Type} {R:σ→PH→List E5→Prop} {y:σ→Int→(List Int)→Option σ} {ar:σ} {q_s:σ} {h aw A ax a ay La} (aP:Pt M5 h aw A) (aS:I5 h ax a) (n:X6 R h ay y) (hRa:R ar h La) (H:A9i A a y ar=some q_s):∀ As L,J2 prog 98 [aw,.agg ax.toArray,ay] h ((As++(La++L))) (λv h' L'=>∃ La',v=.tuple #[]∧L'=(As++(La'++L))∧R q_s h' La'):=by
 intro As L
 obtain rfl:=aS
 refine J2.enter func98 z z z<|Sr<|To (O.U4 z z z λcm cn aU aA=>Nt<|Sm z<|have aV:=aP; ?_)
 obtain ⟨co,_,rfl,o,⟨cp,B,C,rfl,aW,f,D⟩⟩:=aV
 refine NL z Q4 D9 o.u z<|Vv (V.Q3 A9 z f)<|Mv z<|Nt<|T.A0S ?_
 obtain ⟨aX,aY,aZ⟩:=J6 H
 have H:=aY
 refine Bl<|have a0:=n.2.1 _ _ _ _ aU hRa; T.lk [0,2,4,13,14] (FUEL,ar,(0:Int),La) (λ⟨r,q,d,i⟩=>([(15,qi d)],(As++(i++L)),λhh=>iter (A3F A a y) r (q,d)=some aX∧R q hh i)) ⟨H,a0⟩ ?_
 rintro ⟨r,q,d,i⟩ cq cr ⟨a1,aB⟩
 obtain ⟨a2,cs,rfl,H,aC⟩:=G7 a1
 refine T.norm [15,0,2,4,13,14] z<|P8 ((As++(i++L))) z<|Sr<|Wl z z<|Nt<|Sq<|T.cH H z (λH=>?_) λH=>?_
 ·refine Ks<|Sq<|Bl<|Sm z<|bE H λa3 aD H=>?_
  obtain ⟨ct,a4,rfl⟩:=G6.at f aD
  refine Vv (V.ix A9 z z f (E8 aD))<|Vv (V.R5 D7 z a4.u z)<|Ag z<|An z<|Sm z<|bE H λa5 a6 H=>Vv (V.H5 z z a6)<|An z<|T.A0S ?_
  obtain ⟨a7,a8,a9⟩:=J6 H
  have H:=a8
  refine Bl<|T.lk [0,2,4,6,7,13,14,15] (FUEL,q,a5,i) (λ⟨s,c,g,b⟩=>([(8,qi g)],(As++(b++L)),λhh=>iter (A3y A a y d a3) s (c,g)=some a7∧R c hh b)) ⟨H,aB⟩ ?_
  rintro ⟨s,c,g,b⟩ ah cu ⟨al,j⟩
  obtain ⟨p,cw,rfl,H,m⟩:=G7 al
  refine T.norm [8,0,2,4,6,7,13,14,15] z<|P8 ((As++(b++L))) z<|Sq<|Sm z<|Mv z<|NL z Q4 D9 o.u z<|Vv (V.Q3 A9 z f)<|Wl z z<|Nt<|T.cH H z (λH=>?_) λH=>?_
  ·refine Ks<|Sq<|Bl<|Sm z<|NL z Q4 D9 o.u z<|Mv z<|bE H λcx aE H=>?_
   obtain ⟨cy,av,rfl⟩:=G6.at f aE
   refine Vv (V.ix A9 z z f (E8 aE))<|Vv (V.R5 D7 z av.u z)<|An z<|Sm z<|Vv (V.ge z z)<|Mv z<|T.bH 40 H z (λH=>?_) λH=>?_
   ·refine Mv z<|Vv (V.ge z z)<|Kt z<|Mv z<|T.bH 44 H z (λH=>?_) λH=>?_
    ·refine Mv z<|NL z G8 I8 o.u z<|have az:=aW; ?_
     obtain ⟨E,_,rfl,w,⟨G,I,J,K,M,N,P,S,U,W,X,Y,Z,aa,rfl,ab,ac,ad,ae,af,ai,aj,ak,am,an,ao,ap,aq,t⟩⟩:=az
     refine NL z A4H A7G w.u z<|Mv z<|bE H λcA aG H=>?_
     obtain ⟨cB,ba,⟨cC,rfl,aI⟩⟩:=G6.at t aG
     refine Vv (V.ix A1O z z t (E8 aG))<|Vv (V.R5 C0z z ba.u z)<|Mv z<|bE H λcD aJ H=>?_
     obtain ⟨cE,bb,rfl⟩:=G6.at aI aJ
     refine Vv (V.ix B0a z z aI (E8 aJ))<|Vv (V.R5 B1j z bb.u z)<|We z z<|Kt z<|Mv z<|T.bH 60 H z (λH=>?_) λH=>?_
     ·refine Mv z<|Vv (V.ldS z aA.u (by exact K6)) ?_
      refine Mv z<|bE H λcG bc H=>To (O.cs (A5B (Pt.mk o.u ⟨(.pointer (some E)),B,C,z,(Pt.mk w.u ⟨G,I,J,K,M,N,P,S,U,W,X,Y,Z,aa,z,ab.u,ac.u,ad.u,ae.u,af.u,ai.u,aj.u,ak.u,am.u,an.u,ao.u,ap.u,aq.u,t.u⟩),f.u,D.u⟩) (show I5 ah [.int .u8 a.F9,qi a.K8,.string a.fA,.string a.fB,.string a.I7,qi a.fN] a from z) bc _) λbd x=>Mv z<|T.bH 65 H z (λH=>?_) λH=>?_)
      ·refine S2<|S2<|Kt z<|Kt z<|Mv z<|Mv z<|Mv z<|Mv z<|bE H λcK bg H=>To (O.cs (B0m (Pt.mk o.u ⟨(.pointer (some E)),B,C,z,(Pt.mk w.u ⟨G,I,J,K,M,N,P,S,U,W,X,Y,Z,aa,z,ab.u,ac.u,ad.u,ae.u,af.u,ai.u,aj.u,ak.u,am.u,an.u,ao.u,ap.u,aq.u,t.u⟩),f.u,D.u⟩) bg _) λbi aK=>Vv (V.not z)<|Kt z<|Nt<|T.cH H z (λH=>?_) λH=>?_)
       ·refine T.norm [0,2,4,6,7,8,13,14,15] z<|Rg<|Mv z<|Mv z<|Mv z<|To (O.bs A9 J7 z (e:=z) (hk:=z) (xs:=[.tmp 80,.tmp 81]) (hv:=CO.eq (CO.cons z (CO.cons z CO.nil))) (hw:=O4.of z) (hd:=z) λcO=>have bm:A7 (VI .i64) bi [[qi d],[qi g]] ([d,g]:List Int):=(A7.cons z (A7.cons z A7.nil)); T.K3 λcP bn bo=>have bp:=A7.slc bo bm.u; bE H λbq br H=>have bt:=((x.trans aK).trans bn); have bu:=n.2.1 _ _ _ _ bt j; To (O.A4c z z (X6.call n.u bp bu br As _) z λcS cU cV cW bw=>?_))
        obtain ⟨aM,rfl,bx,bA⟩:=bw
        refine P8 ((As++(aM++L))) bx<|Ni<|Bn<|Th<|Rg<|Mv z<|bE H λbB bC H=>Vv (V.H5 z z bC)<|An z<|T.ag (p,bq,bB,aM) ⟨(D8 H m),bA⟩
       refine T.skip<|Bn<|Th<|T.norm [0,2,4,6,7,8,13,14,15] z<|Rg<|Mv z<|bE H λbD bG H=>Vv (V.H5 z z bG)<|An z<|have bI:=(x.trans aK); have bJ:=n.2.1 _ _ _ _ bI j; T.ag (p,c,bD,b) ⟨(D8 H m),bJ⟩
      refine Mv z<|Vv (V.ldS z aA.u (by exact K6)) ?_
      refine Mv z<|bE H λcX bK H=>To (O.cs (A5B (Pt.mk o.u ⟨(.pointer (some E)),B,C,z,(Pt.mk w.u ⟨G,I,J,K,M,N,P,S,U,W,X,Y,Z,aa,z,ab.u,ac.u,ad.u,ae.u,af.u,ai.u,aj.u,ak.u,am.u,an.u,ao.u,ap.u,aq.u,t.u⟩),f.u,D.u⟩) (show I5 bd [.int .u8 a.F9,qi a.K8,.string a.fA,.string a.fB,.string a.I7,qi a.fN] a from z) bK _) λcZ au=>Kf z<|Kt z<|Mv z<|T.bH 72 H z (λH=>?_) λH=>?_)
      ·refine Mv z<|Mv z<|Mv z<|bE H λc1 bO H=>To (O.cs (B0m (Pt.mk o.u ⟨(.pointer (some E)),B,C,z,(Pt.mk w.u ⟨G,I,J,K,M,N,P,S,U,W,X,Y,Z,aa,z,ab.u,ac.u,ad.u,ae.u,af.u,ai.u,aj.u,ak.u,am.u,an.u,ao.u,ap.u,aq.u,t.u⟩),f.u,D.u⟩) bO _) λbP aN=>Vv (V.not z)<|Kt z<|Nt<|T.cH H z (λH=>?_) λH=>?_)
       ·refine T.norm [0,2,4,6,7,8,13,14,15] z<|Rg<|Mv z<|Mv z<|Mv z<|To (O.bs A9 J7 z (e:=z) (hk:=z) (xs:=[.tmp 80,.tmp 81]) (hv:=CO.eq (CO.cons z (CO.cons z CO.nil))) (hw:=O4.of z) (hd:=z) λc4=>have bV:A7 (VI .i64) bP [[qi d],[qi g]] ([d,g]:List Int):=(A7.cons z (A7.cons z A7.nil)); T.K3 λc5 bW bX=>have bY:=A7.slc bX bV.u; bE H λbZ b0 H=>have b1:=(((x.trans au).trans aN).trans bW); have b2:=n.2.1 _ _ _ _ b1 j; To (O.A4c z z (X6.call n.u bY b2 b0 As _) z λc6 c7 c8 c9 b3=>?_))
        obtain ⟨aO,rfl,b4,b5⟩:=b3
        refine P8 ((As++(aO++L))) b4<|Ni<|Bn<|Th<|Rg<|Mv z<|bE H λb6 b7 H=>Vv (V.H5 z z b7)<|An z<|T.ag (p,bZ,b6,aO) ⟨(D8 H m),b5⟩
       refine T.skip<|Bn<|Th<|T.norm [0,2,4,6,7,8,13,14,15] z<|Rg<|Mv z<|bE H λb8 b9 H=>Vv (V.H5 z z b9)<|An z<|have bh:=((x.trans au).trans aN); have bl:=n.2.1 _ _ _ _ bh j; T.ag (p,c,b8,b) ⟨(D8 H m),bl⟩
      refine S2<|S2<|Sk<|Kf z<|Nt<|Cf z<|T.skip<|Bn<|Th<|T.norm [0,2,4,6,7,8,13,14,15] z<|Rg<|Mv z<|bE H λbv bz H=>Vv (V.H5 z z bz)<|An z<|have ca:=(x.trans au); have cb:=n.2.1 _ _ _ _ ca j; T.ag (p,c,bv,b) ⟨(D8 H m),cb⟩
     refine S2<|S2<|S2<|S2<|S2<|Kf z<|Mv z<|S2<|S2<|Sk<|Kf z<|Nt<|Cf z<|T.skip<|Bn<|Th<|T.norm [0,2,4,6,7,8,13,14,15] z<|Rg<|Mv z<|bE H λcc cd H=>Vv (V.H5 z z cd)<|An z<|T.ag (p,c,cc,b) ⟨(D8 H m),j⟩
    refine S2<|S2<|S2<|S2<|S2<|S2<|S2<|Kf z<|Mv z<|S2<|S2<|S2<|S2<|S2<|Kf z<|Mv z<|S2<|S2<|Sk<|Kf z<|Nt<|Cf z<|T.skip<|Bn<|Th<|Rg<|Mv z<|bE H λce cf H=>Vv (V.H5 z z cf)<|An z<|T.ag (p,c,ce,b) ⟨(D8 H m),j⟩
   refine S2<|Kf z<|Mv z<|S2<|S2<|S2<|S2<|S2<|S2<|S2<|Kf z<|Mv z<|S2<|S2<|S2<|S2<|S2<|Kf z<|Mv z<|S2<|S2<|Sk<|Kf z<|Nt<|Cf z<|T.skip<|Bn<|Th<|Rg<|Mv z<|bE H λcg ci H=>Vv (V.H5 z z ci)<|An z<|T.ag (p,c,cg,b) ⟨(D8 H m),j⟩
  refine T.exit<|Te<|Te<|have H:=D6 H m; Be<|Th<|have H:=I4 H a9; Bn<|Th<|Rg<|bE H λcj ck H=>Vv (V.H5 z z ck)<|Mv z<|Nt<|T.ag (a2,c,cj,b) ⟨(D8 H aC),j⟩
 refine T.exit<|Te<|Te<|have H:=D6 H aC; Be<|Th<|have H:=I4 H aZ; ?_
 cases H
 exact T.A0V results98 Li ⟨i,z,z,aB⟩
theorem B9u {σ:Type} {R:σ→PH→List E5→Prop} {o:σ→Int→(List Int)→Option σ} {p:σ} {q_s:σ} {h w q x b y La} (J:Pt M5 h w q) (K:I5 h x b) (j:X6 R h y o) (hRa:R p h La) (H:A9k q b o p=some q_s):∀ As L,J2 prog 102 [w,.agg x.toArray,y] h ((As++(La++L))) (λv h' L'=>∃ La',v=.tuple #[]∧L'=(As++(La'++L))∧R q_s h' La'):=by
 intro As L
 obtain rfl:=K
 refine J2.enter func102 z z z<|Sr<|To (O.U4 z z z λbe bf M A=>Nt<|Sm z<|have N:=J; ?_)
 obtain ⟨bg,_,rfl,r,⟨bi,P,S,rfl,U,m,W⟩⟩:=N
 refine NL z Q4 D9 r.u z<|Vv (V.Q3 A9 z m)<|Mv z<|Nt<|T.A0S ?_
 obtain ⟨X,Y,Z⟩:=J6 H
 have H:=Y
 refine Bl<|have aa:=j.2.1 _ _ _ _ M hRa; T.lk [0,2,4,11,12] (FUEL,p,(0:Int),La) (λ⟨d,c,e,a⟩=>([(13,qi e)],(As++(a++L)),λhh=>iter (A3B q b o) d (c,e)=some X∧R c hh a)) ⟨H,aa⟩ ?_
 rintro ⟨d,c,e,a⟩ ab bj ⟨ac,f⟩
 obtain ⟨n,bk,rfl,H,i⟩:=G7 ac
 refine T.norm [13,0,2,4,11,12] z<|P8 ((As++(a++L))) z<|Sr<|Wl z z<|Nt<|Sq<|T.cH H z (λH=>?_) λH=>?_
 ·refine Ks<|Sq<|Bl<|Sm z<|bE H λbm B H=>?_
  obtain ⟨bn,ad,rfl⟩:=G6.at m B
  refine Vv (V.ix A9 z z m (E8 B))<|Vv (V.R5 D7 z ad.u z)<|Ag z<|An z<|Sq<|T.N7 (t:=(.vs [0,1,2,3,4,5,6,7,8,9,10,11,12,13,14,15,16,17,18,19,20,21,22] (.alt 23 (.g (.v 24 (.v 25 .done))) .no))) 27 0 0 z z H9 (by kernel_rfl) ?_
  refine Tm z z<|Tv z (V.ge z z)<|Tm z z<|T.bH 20 H z (λH=>?_) λH=>?_
  ·refine Tm z z<|TL z z z z G8 I8 r.u z<|have ae:=U; ?_
   obtain ⟨af,_,rfl,C,⟨ai,aj,ak,am,an,ao,ap,aq,ar,au,aw,ax,ay,aA,rfl,aB,s,aC,aD,aE,aG,aI,aJ,aK,aM,aN,aO,aP,aS⟩⟩:=ae
   refine TF z z z M3<|Tv z (V.fa A0N z)<|Tv z (V.M8 (k:=1) N9 z C.u z)<|Tm z z<|bE H λbo D H=>?_
   obtain ⟨bp,aU,⟨bq,rfl,br⟩⟩:=G6.at s D
   refine Tv z (V.ix O7 z z s (E8 D))<|Tv z (V.fa B0L z)<|Tv z (V.M8 (k:=5) J5 z aU.u z)<|Tv z (V.fa A0b z)<|Tv z (V.M8 (k:=2) J5 z A.u z)<|Tv z (V.seq z z)<|Tv z (V.pkT z z)<|Tm z z<|T.bH 37 H z (λH=>?_) λH=>?_
   ·refine Tm z z<|Tv z (V.ldS z A.u (by exact K6)) ?_
    refine Tm z z<|bE H λbs aV H=>Tp z z (X2 z z) (O.G5 z (A5B (Pt.mk r.u ⟨(.pointer (some af)),P,S,z,(Pt.mk C.u ⟨ai,aj,ak,am,an,ao,ap,aq,ar,au,aw,ax,ay,aA,z,aB.u,s.u,aC.u,aD.u,aE.u,aG.u,aI.u,aJ.u,aK.u,aM.u,aN.u,aO.u,aP.u,aS.u⟩),m.u,W.u⟩) (show I5 ab [.int .u8 b.F9,qi b.K8,.string b.fA,.string b.fB,.string b.I7,qi b.fN] b from z) aV _) z λbt bu bw G aW=>?_) T.P6
    obtain ⟨rfl,aX⟩:=aW
    refine P8 _ aX<|T.O1 Li<|Tv z (V.not z)<|Tv z (V.pkT z z)<|T.O6 (X2 z z)<|Th<|T.cH H z (λH=>?_) λH=>?_
    ·refine T.norm [0,2,4,6,11,12,13] z<|Rg<|Mv z<|Mv z<|To (O.b1 (E:=VI .i64) A9 J7 z z z z z λbx aY=>T.K3 λbA aZ a0=>have a1:=A7.slc a0 aY.u; bE H λa2 a3 H=>have a4:=(G.trans aZ); have a5:=j.2.1 _ _ _ _ a4 f; To (O.A4c z z (X6.call j.u a1 a5 a3 As _) z λbB bC bD bG a6=>?_))
     obtain ⟨I,rfl,a7,a8⟩:=a6
     refine P8 ((As++(I++L))) a7<|Ni<|Bn<|Th<|Rg<|bE H λa9 ah H=>Vv (V.H5 z z ah)<|Mv z<|Nt<|T.ag (n,a2,a9,I) ⟨(D8 H i),a8⟩
    refine T.skip<|Bn<|Th<|T.norm [0,2,4,11,12,13] z<|Rg<|bE H λal av H=>Vv (V.H5 z z av)<|Mv z<|Nt<|have az:=j.2.1 _ _ _ _ G f; T.ag (n,c,al,a) ⟨(D8 H i),az⟩
   refine T2 z z<|Tk z<|T.A4m z z (X2 z z) z ?_ T.P6
   refine T.O1 Lr<|Tk z<|Tv z (V.pkF z z)<|T.O6 (X2 z z)<|Th<|Cf z<|T.skip<|Bn<|Th<|Rg<|bE H λba bb H=>Vv (V.H5 z z bb)<|Mv z<|Nt<|T.ag (n,c,ba,a) ⟨(D8 H i),f⟩
  refine T2 z z<|T2 z z<|T2 z z<|T2 z z<|T2 z z<|T2 z z<|T2 z z<|Tk z<|Tv z (V.pkF z z)<|Tm z z<|T2 z z<|Tk z<|T.A4m z z (X2 z z) z ?_ T.P6
  refine T.O1 Lr<|Tk z<|Tv z (V.pkF z z)<|T.O6 (X2 z z)<|Th<|Cf z<|T.skip<|Bn<|Th<|Rg<|bE H λbc bd H=>Vv (V.H5 z z bd)<|Mv z<|Nt<|T.ag (n,c,bc,a) ⟨(D8 H i),f⟩
 refine T.exit<|Te<|Te<|have H:=D6 H i; Be<|Th<|have H:=I4 H Z; ?_
 cases H
 exact T.A0V results102 Li ⟨a,z,z,f⟩
theorem A8m {σ:Type} {R:σ→PH→List E5→Prop} {x:σ→Int→(List Int)→Option σ} {D:σ} {q_s:σ} {h I y J c K A M La} (ac:Pt M5 h I y) (ad:I5 h J c) (ae:A9M h K A) (n:X6 R h M x) (hRa:R D h La) (H:A5V y c A x D=some q_s):∀ As L,J2 prog 146 [I,.agg J.toArray,K,M] h ((As++(La++L))) (λv h' L'=>∃ La',v=.tuple #[]∧L'=(As++(La'++L))∧R q_s h' La'):=by
 intro As L
 obtain rfl:=ad
 refine J2.enter func146 z z z<|Sr<|To (O.U4 z z z λbw bx af ai=>Nt<|Sm z<|have aj:=ac; ?_)
 obtain ⟨bA,_,rfl,o,⟨ak,am,an,rfl,N,m,ao⟩⟩:=aj
 refine NL z Q4 D9 o.u z<|Vv (V.Q3 A9 z m)<|Mv z<|Nt<|T.A0S ?_
 obtain ⟨ap,aq,ar⟩:=J6 H
 have H:=aq
 refine Bl<|have au:=n.2.1 _ _ _ _ af hRa; T.lk [0,2,3,5,15,16] (FUEL,D,(0:Int),La) (λ⟨p,i,f,a⟩=>([(17,qi f)],(As++(a++L)),λhh=>iter (A5y y c A x) p (i,f)=some ap∧R i hh a)) ⟨H,au⟩ ?_
 rintro ⟨p,i,f,a⟩ aw bB ⟨ax,E⟩
 obtain ⟨P,bC,rfl,H,G⟩:=G7 ax
 refine T.norm [17,0,2,3,5,15,16] z<|P8 ((As++(a++L))) z<|Sr<|Wl z z<|Nt<|Sq<|T.cH H z (λH=>?_) λH=>?_
 ·refine Ks<|Sq<|Bl<|Sm z<|bE H λay S H=>?_
  obtain ⟨bD,aA,rfl⟩:=G6.at m S
  refine Vv (V.ix A9 z z m (E8 S))<|Vv (V.R5 D7 z aA.u z)<|Ag z<|An z<|Sq<|Sq ?_
  obtain ⟨aB,aC,aD⟩:=J6 H
  refine T.ck (α:=Bool) [0,2,3,5,8,9,15,16,17] (λr=>([(30,.bool r)],(As++(a++L)),λhh=>aB=r)) ?_ ?_
  ·have H:=aC
   refine Rg<|Mv z<|Wl z z<|Mv z<|T.bH 24 H z (λH=>?_) λH=>?_
   ·refine S2<|S2<|Sk<|Kt z<|Nt<|T.mt true (M0 H)
   refine Mv z<|Vv (V.ldS z ai.u (by exact K6)) ?_
   refine Mv z<|bE H λaE aG H=>To (O.G5 z (A5B (Pt.mk o.u ⟨ak,am,an,z,N.u,m.u,ao.u⟩) (show I5 aw [.int .u8 c.F9,qi c.K8,.string c.fA,.string c.fB,.string c.I7,qi c.fN] c from z) aG _) z λbG bI bJ bK aI=>?_)
   obtain ⟨rfl,aJ⟩:=aI
   refine P8 _ aJ<|Vv (V.not z)<|Kf z<|Nt<|T.mt (!aE) (M0 H)
  rintro r bM U aK
  have H:=I4 aK aD
  refine T.norm [30,0,2,3,5,8,9,15,16,17] z<|P8 ((As++(a++L))) z<|T.cH H z (λH=>?_) λH=>?_
  ·refine T.exit<|Te<|Be<|Th<|Rg<|bE H λaM aN H=>Vv (V.H5 z z aN)<|Mv z<|Nt<|have aO:=n.2.1 _ _ _ _ U E; T.ag (P,i,aM,a) ⟨(D8 H G),aO⟩
  refine Ks<|Sm z<|bE H λaP aS H=>Vv (V.H5 z z aS)<|An z<|T.A0S ?_
  obtain ⟨aU,aV,aW⟩:=J6 H
  have H:=aV
  refine Bl<|have aX:=n.2.1 _ _ _ _ U E; T.lk [0,2,3,5,8,9,15,16,17] (FUEL,i,aP,a) (λ⟨q,d,j,b⟩=>([(10,qi j)],(As++(b++L)),λhh=>iter (A5o y A x f ay) q (d,j)=some aU∧R d hh b)) ⟨H,aX⟩ ?_
  rintro ⟨q,d,j,b⟩ aY bN ⟨aZ,s⟩
  obtain ⟨B,bO,rfl,H,w⟩:=G7 aZ
  refine T.norm [10,0,2,3,5,8,9,15,16,17] z<|P8 ((As++(b++L))) z<|Sq<|Sm z<|Mv z<|NL z Q4 D9 o.u z<|Vv (V.Q3 A9 z m)<|Wl z z<|Nt<|T.cH H z (λH=>?_) λH=>?_
  ·refine Ks<|Sq<|Bl<|Sm z<|NL z Q4 D9 o.u z<|Mv z<|bE H λbP W H=>?_
   obtain ⟨bS,a0,rfl⟩:=G6.at m W
   refine Vv (V.ix A9 z z m (E8 W))<|Vv (V.R5 D7 z a0.u z)<|An z<|Sq<|T.N7 (t:=(.vs [0,1,2,3,4,5,6,7,8,9,10,11,12,13,14,15,16,17,18,19,20,21,22,23,24,25,26,27,28] (.alt 29 (.g (.v 30 .done)) .no))) 32 0 0 z z H9 (by kernel_rfl) ?_
   refine Tm z z<|Tv z (V.ge z z)<|Tm z z<|T.bH 51 H z (λH=>?_) λH=>?_
   ·refine Tm z z<|TL z z z z G8 I8 o.u z<|have a1:=N; ?_
    obtain ⟨bU,_,rfl,X,⟨bV,bW,bX,bY,bZ,b0,b1,b2,b3,b4,b5,b6,b7,b8,rfl,b9,bh,bl,bv,bz,ca,C,cb,cc,cd,ce,cf,cg,ci⟩⟩:=a1
    refine TL z z z z U8 D9 X.u z<|Tm z z<|bE H λcj Y H=>?_
    obtain ⟨ck,a2,rfl⟩:=G6.at C Y
    refine Tv z (V.ix A9 z z C (E8 Y))<|Tv z (V.R5 D7 z a2.u z)<|Tm z z<|TL z z z z G8 I8 o.u z<|TL z z z z U8 D9 X.u z<|Tm z z<|bE H λcm Z H=>?_
    obtain ⟨cn,a3,rfl⟩:=G6.at C Z
    refine Tv z (V.ix A9 z z C (E8 Z))<|Tv z (V.R5 D7 z a3.u z)<|Tv z (V.eq z z)<|Tv z (V.pkT z z)<|Tm z z<|T.bH 74 H z (λH=>?_) λH=>?_
    ·refine Tm z z<|Tm z z<|Tm z z<|bE H λco a4 H=>?_
     obtain ⟨cp,cq,cr,a5,a6⟩:=A9M.call (ae.u (g:=aY)) a4
     refine Tp z z (X2 z z) (O.A1l z a5 z (a6 _) z λcs a7 ct aa a8=>?_) T.P6
     obtain ⟨rfl,a9⟩:=a8
     refine P8 _ a9<|T.O1 Li<|Tv z (V.pkT z z)<|T.O6 (X2 z z)<|Th<|T.cH H z (λH=>?_) λH=>?_
     ·refine T.norm [0,2,3,5,8,9,10,15,16,17] z<|Rg<|Mv z<|Mv z<|Mv z<|To (O.bs A9 J7 z (e:=z) (hk:=z) (xs:=[.tmp 81,.tmp 82]) (hv:=CO.eq (CO.cons z (CO.cons z CO.nil))) (hw:=O4.of z) (hd:=z) λcu=>have ah:A7 (VI .i64) a7 [[qi f],[qi j]] ([f,j]:List Int):=(A7.cons z (A7.cons z A7.nil)); T.K3 λcw al av=>have az:=A7.slc av ah.u; bE H λba bb H=>have bc:=(aa.trans al); have bd:=n.2.1 _ _ _ _ bc s; To (O.A4c z z (X6.call n.u az bd bb As _) z λcx cy cA cB be=>?_))
      obtain ⟨ab,rfl,bf,bg⟩:=be
      refine P8 ((As++(ab++L))) bf<|Ni<|Bn<|Th<|Rg<|Mv z<|bE H λbi bj H=>Vv (V.H5 z z bj)<|An z<|T.ag (B,ba,bi,ab) ⟨(D8 H w),bg⟩
     refine T.skip<|Bn<|Th<|T.norm [0,2,3,5,8,9,10,15,16,17] z<|Rg<|Mv z<|bE H λbk bm H=>Vv (V.H5 z z bm)<|An z<|have bn:=n.2.1 _ _ _ _ aa s; T.ag (B,d,bk,b) ⟨(D8 H w),bn⟩
    refine T2 z z<|Tk z<|T.A4m z z (X2 z z) z ?_ T.P6
    refine T.O1 Lr<|Tv z (V.pkF z z)<|T.O6 (X2 z z)<|Th<|Cf z<|T.skip<|Bn<|Th<|T.norm [0,2,3,5,8,9,10,15,16,17] z<|Rg<|Mv z<|bE H λbo bp H=>Vv (V.H5 z z bp)<|An z<|T.ag (B,d,bo,b) ⟨(D8 H w),s⟩
   refine T2 z z<|T2 z z<|T2 z z<|T2 z z<|T2 z z<|T2 z z<|T2 z z<|T2 z z<|T2 z z<|T2 z z<|Tk z<|Tv z (V.pkF z z)<|Tm z z<|T2 z z<|Tk z<|T.A4m z z (X2 z z) z ?_ T.P6
   refine T.O1 Lr<|Tv z (V.pkF z z)<|T.O6 (X2 z z)<|Th<|Cf z<|T.skip<|Bn<|Th<|Rg<|Mv z<|bE H λbq br H=>Vv (V.H5 z z br)<|An z<|T.ag (B,d,bq,b) ⟨(D8 H w),s⟩
  refine T.exit<|Te<|Te<|have H:=D6 H w; Be<|Th<|have H:=I4 H aW; Bn<|Th<|Rg<|bE H λbt bu H=>Vv (V.H5 z z bu)<|Mv z<|Nt<|T.ag (P,d,bt,b) ⟨(D8 H G),s⟩
 refine T.exit<|Te<|Te<|have H:=D6 H G; Be<|Th<|have H:=I4 H ar; ?_
 cases H
 exact T.A0V results146 Li ⟨a,z,z,E⟩
theorem B2u {σ:Type} {R:σ→PH→List E5→Prop} {w:σ→(List Int)→Option σ} {x:σ} {q_s:σ} {h J q K r M La} (ae:Pt M5 h J q) (af:I5 h K r) (s:B1I R h M w) (hRa:R x h La) (H:A9F q r w x=some q_s):∀ As L,J2 prog 148 [J,.agg K.toArray,M] h ((As++(La++L))) (λv h' L'=>∃ La',v=.tuple #[]∧L'=(As++(La'++L))∧R q_s h' La'):=by
 intro As L
 obtain rfl:=af
 refine J2.enter func148 z z z<|Sr<|To (O.U4 z z z λbg bi ai N=>Nt<|Sm z<|have aj:=ae; ?_)
 obtain ⟨bj,_,rfl,y,⟨bk,bm,bn,rfl,ak,A,bo⟩⟩:=aj
 refine NL z G8 I8 y.u z<|have am:=ak; ?_
 obtain ⟨bp,_,rfl,P,⟨bq,br,bs,bt,bu,bw,bx,bA,bB,bC,bD,bG,bI,bJ,rfl,B,bK,bM,bN,bO,bP,S,bS,bU,bV,bW,bX,bY,bZ⟩⟩:=am
 refine NF z M3<|Vv (V.fa B1c z)<|Vv (V.M8 (k:=0) Q0 z P.u z)<|Vv (V.Q3 O5 z B)<|Mv z<|Nt<|T.A0S ?_
 obtain ⟨an,ao,aq⟩:=J6 H
 have H:=ao
 refine Bl<|have ar:=s.2.1 _ _ _ _ ai hRa; T.lk [0,2,4,18,19] (FUEL,x,(0:Int),La) (λ⟨m,f,g,a⟩=>([(20,qi g)],(As++(a++L)),λhh=>iter (A4U q r w) m (f,g)=some an∧R f hh a)) ⟨H,ar⟩ ?_
 rintro ⟨m,f,g,a⟩ b0 b2 ⟨au,C⟩
 obtain ⟨U,b3,rfl,H,D⟩:=G7 au
 refine T.norm [20,0,2,4,18,19] z<|P8 ((As++(a++L))) z<|Sr<|Wl z z<|Nt<|Sq<|T.cH H z (λH=>?_) λH=>?_
 ·refine Ks<|Sq<|Bl<|Sm z<|bE H λi W H=>?_
  obtain ⟨b4,aw,⟨ax,rfl,ay⟩⟩:=G6.at B W
  refine Vv (V.ix O5 z z B (E8 W))<|Vv (V.ldS z aw.u (by exact J3)) ?_
  refine To (O.alloc A1Q z z λb5=>Ag z<|To (O.stF (vs:=[.string i.F8,.int .u8 i.Q6,qi i.fA,qi i.fB,ax,qi i.fX,qi i.fY]) J3 z z (j:=0) z z (by (simp only [BT,G6.one ay]) <;> rfl) z ?_))
  refine T.freeze λb6 X aA=>have aB:=Z8.of aA; Nt<|Sq<|Sq ?_
  obtain ⟨aC,aD,aE⟩:=J6 H
  refine T.ck (α:=Bool) [0,2,4,6,18,19,20] (λo=>([(34,.bool o)],(As++(a++L)),λhh=>aC=o)) ?_ ?_
  ·have H:=aD
   refine Rg<|Vv (V.fa V8 z)<|Vv (V.M8 (k:=4) J5 z N.u z)<|Vv (V.sne z z)<|Mv z<|T.bH 28 H z (λH=>?_) λH=>?_
   ·refine Vv (V.fa V8 z)<|Vv (V.M8 (k:=4) J5 z N.u z)<|Vv (V.fa A0o z)<|Vv (V.M8 (k:=0) J5 z aB z)<|Vv (V.sne z z)<|Kt z<|Nt<|T.mt (!decide (r.I7=i.F8)) (M0 H)
   refine S2<|S2<|Sk<|Kf z<|Nt<|T.mt false (M0 H)
  rintro o aG Y aI
  have H:=I4 aI aE
  refine T.norm [34,0,2,4,6,18,19,20] z<|P8 ((As++(a++L))) z<|T.cH H z (λH=>?_) λH=>?_
  ·refine T.exit<|Te<|Be<|Th<|Rg<|bE H λaJ aK H=>Vv (V.H5 z z aK)<|Mv z<|Nt<|have aM:=(X.trans Y); have aN:=s.2.1 _ _ _ _ aM C; T.ag (U,f,aJ,a) ⟨(D8 H D),aN⟩
  refine Ks<|Sr<|An z<|Sq<|Sm z<|NL z Q4 D9 y.u z<|Vv (V.Q3 A9 z A)<|Mv z<|Nt ?_
  obtain ⟨aO,aP,aS⟩:=J6 H
  have H:=aP
  refine Bl<|T.Q8 3 1<|have aU:A7 (VI .i64) aG [] ([]:List Int):=A7.nil; T.lk [0,2,4,6,18,19,20,38,39] (FUEL,(0:Int),([]:List Int),(qs),[]) (λ⟨n,d,e,c,b⟩=>([(40,qi d),(8,c)],F3 3 1 c b::(As++(a++L)),λhh=>iter (A3r q g) n (d,e)=some aO∧A7 (VI .i64) hh b e)) ⟨H,aU⟩ ?_
  rintro ⟨n,d,e,c,b⟩ aV aW ⟨aX,p⟩
  obtain ⟨G,b7,rfl,H,t⟩:=G7 aX
  refine T.norm [40,8,0,2,4,6,18,19,20,38,39] z<|P8 (F3 3 1 c b::(As++(a++L))) z<|Sr<|Wl z z<|Nt<|Sq<|T.cH H z (λH=>?_) λH=>?_
  ·refine Ks<|Sq<|Bl<|Sm z<|bE H λb8 Z H=>?_
   obtain ⟨b9,aY,rfl⟩:=G6.at A Z
   refine Vv (V.ix A9 z z A (E8 Z))<|Vv (V.R5 D7 z aY.u z)<|Ag z<|An z<|Sm z<|Vv (V.ge z z)<|Mv z<|T.bH 47 H z (λH=>?_) λH=>?_
   ·refine Mv z<|NL z G8 I8 y.u z<|NL z U8 D9 P.u z<|Mv z<|bE H λbh aa H=>?_
    obtain ⟨bl,aZ,rfl⟩:=G6.at S aa
    refine Vv (V.ix A9 z z S (E8 aa))<|Vv (V.R5 D7 z aZ.u z)<|Mv z<|We z z<|Kt z<|Nt<|T.cH H z (λH=>?_) λH=>?_
    ·refine Rg<|Mv z<|Mv z<|To (O.b1 (E:=VI .i64) A9 J7 z z z z z λbv I=>bE H λab ac H=>To (O.apX A9 A9 J7 z z z (j:=1) z (Src.row (j:=0) z) (O4.of z) (A7.ones VI.plain I) p I ac z λa0 bz ca=>have a1:A7 (VI .i64) aV (b++[[qi d]]) ab:=A7.ap p I ac; Fr_ 1 z<|T.drop<|Ag z<|Ni<|Bn<|Th<|Rg<|bE H λa2 a3 H=>Vv (V.H5 z z a3)<|Mv z<|Nt<|T.ag (G,a2,ab,a0,(b++[[qi d]])) ⟨(D8 H t),a1⟩))
    refine T.skip<|Bn<|Th<|Rg<|bE H λa4 a5 H=>Vv (V.H5 z z a5)<|Mv z<|Nt<|T.ag (G,a4,e,c,b) ⟨(D8 H t),p⟩
   refine S2<|S2<|S2<|S2<|S2<|S2<|Kf z<|Nt<|Cf z<|T.skip<|Bn<|Th<|Rg<|bE H λa6 a7 H=>Vv (V.H5 z z a7)<|Mv z<|Nt<|T.ag (G,a6,e,c,b) ⟨(D8 H t),p⟩
  refine T.exit<|Te<|Te<|have H:=D6 H t; Be<|Th<|have H:=I4 H aS; Rg<|Mv z<|Mv z<|T.K3 λcb a8 a9=>have ah:=A7.slc a9 p.u; bE H λal av H=>have az:=(((X.trans Y).trans aW).trans a8); have ba:=s.2.1 _ _ _ _ az C; To (O.A4c z z (B1I.call s.u ah ba av As _) z λcc cd ce cf bb=>?_)
  obtain ⟨ad,rfl,bc,bd⟩:=bb
  refine P8 ((As++(ad++L))) bc<|Ni<|Bn<|Th<|Rg<|bE H λbe bf H=>Vv (V.H5 z z bf)<|Mv z<|Nt<|T.ag (U,al,be,ad) ⟨(D8 H D),bd⟩
 refine T.exit<|Te<|Te<|have H:=D6 H D; Be<|Th<|have H:=I4 H aq; ?_
 cases H
 exact T.A0V results148 Li ⟨a,z,z,C⟩
theorem B5a {h e f i j m n} (b:Z8 h i j) (s:(VPt M5) h j m) (H:A4P e f m=some n):∀ L,FnW prog 147 [.int .i64 e,.int .i64 f,.pointer (some i)] h L (.bool n):=by
 intro L
 obtain ⟨ay,rfl,u⟩:=s
 refine J2.enter func147 z z z<|Sr<|An z<|Sq<|T.N7 (t:=(.vs [0,1,2,3,4,5,6,7,8,9,10,11,12,13,14,15,16,17,18,19,20,21,22,23,24,25,26,27,28,29,30,31,32,33,34,35,36,37,38,39,40,41,42,43,44,45,46,47,48,49,50] (.alt 51 (.g (.v 52 (.alt 53 .done .no))) .no))) 55 0 0 z z H9 (by kernel_rfl) ?_
 refine Tv z (V.R5 R7 z b z)<|have w:=u; ?_
 obtain ⟨aA,_,rfl,c,⟨aB,x,y,rfl,A,B,C⟩⟩:=w
 refine TL z z z z G8 I8 c z<|have D:=A; ?_
 obtain ⟨E,_,rfl,d,⟨G,I,J,K,M,N,P,S,U,W,X,Y,Z,aa,rfl,ab,a,ac,ad,ae,af,ag,ai,aj,o,ak,am,an,ao⟩⟩:=D
 refine TF z z z M3<|Tv z (V.fa A0N z)<|Tv z (V.M8 (k:=1) N9 z d z)<|Tm z z<|bE H λaC p H=>?_
 obtain ⟨aD,ap,⟨aE,rfl,aG⟩⟩:=G6.at a p
 refine Tv z (V.ix O7 z z a (E8 p))<|Tv z (V.fa A5x z)<|Tv z (V.M8 (k:=4) D7 z ap z)<|Tv z (V.gt z z)<|Tm z z<|T.bH 19 H z (λH=>?_) λH=>?_
 ·refine Tv z (V.R5 R7 z b z)<|TL z z z z G8 I8 c z<|TF z z z M3<|Tv z (V.fa A0N z)<|Tv z (V.M8 (k:=1) N9 z d z)<|Tm z z<|bE H λaI q H=>?_
  obtain ⟨aJ,aq,⟨aK,rfl,aM⟩⟩:=G6.at a q
  refine Tv z (V.ix O7 z z a (E8 q))<|Tv z (V.fa A5x z)<|Tv z (V.M8 (k:=4) D7 z aq z)<|Tv z (V.R5 R7 z b z)<|TL z z z z G8 I8 c z<|TF z z z M3<|Tv z (V.fa A0N z)<|Tv z (V.M8 (k:=1) N9 z d z)<|Tm z z<|bE H λaN r H=>?_
  obtain ⟨aO,ar,⟨aP,rfl,aS⟩⟩:=G6.at a r
  refine Tv z (V.ix O7 z z a (E8 r))<|Tv z (V.fa A5x z)<|Tv z (V.M8 (k:=4) D7 z ar z)<|Tv z (V.eq z z)<|Tv z (V.pkT z z)<|Tm z z<|T.bH 46 H z (λH=>?_) λH=>?_
  ·refine Tv z (V.R5 R7 z b z)<|Tv z (V.R5 R7 z b z)<|TL z z z z G8 I8 c z<|TL z z z z A2i U3 d z<|Tm z z<|Tm z z<|bE H λaU au H=>Tp z z (X2 z z) (O.G5 z (A3L (Pt.mk c ⟨(.pointer (some E)),x,y,z,(Pt.mk d ⟨G,I,J,K,M,N,P,S,U,W,X,Y,Z,aa,z,ab,a,ac,ad,ae,af,ag,ai,aj,o,ak,am,an,ao⟩),B,C⟩) o au _) z λaV aW aX aY aw=>?_) T.P6
   obtain ⟨rfl,ax⟩:=aw
   refine P8 _ ax<|T.O1 Li<|Tv z (V.pkT z z)<|Ts z z (X2 z z) (V.asg z) z ?_ T.P6
   exact T.O6 (X2 z z)<|Th<|T.ret<|E1 H
  refine T2 z z<|T2 z z<|T2 z z<|T2 z z<|T2 z z<|T.A4m z z (X2 z z) z ?_ T.P6
  refine T.O1 Lr<|Tv z (V.pkF z z)<|Ts z z (X2 z z) (V.asg z) z ?_ T.P6
  exact T.O6 (X2 z z)<|Th<|T.ret<|E1 H
 refine T2 z z<|T2 z z<|T2 z z<|T2 z z<|T2 z z<|T2 z z<|T2 z z<|T2 z z<|T2 z z<|T2 z z<|T2 z z<|T2 z z<|Tk z<|Tv z (V.pkF z z)<|Tm z z<|T2 z z<|T2 z z<|T2 z z<|T2 z z<|T2 z z<|T.A4m z z (X2 z z) z ?_ T.P6
 refine T.O1 Lr<|Tv z (V.pkF z z)<|Ts z z (X2 z z) (V.asg z) z ?_ T.P6
 exact T.O6 (X2 z z)<|Th<|T.ret<|E1 H
theorem B7x {σ:Type} {R:σ→PH→List E5→Prop} {e:σ→Int→(List Int)→Option σ} {f:σ} {q_s:σ} {h b c g a i La} (d:Pt M5 h b c) (o:I5 h g a) (j:X6 R h i e) (hRa:R f h La) (H:A6T c a e f=some q_s):∀ As L,J2 prog 93 [b,.agg g.toArray,i] h ((As++(La++L))) (λv h' L'=>∃ La',v=.tuple #[]∧L'=(As++(La'++L))∧R q_s h' La'):=by
 intro As L
 obtain rfl:=o
 refine J2.enter func93 z z z<|Sr<|To (O.U4 z (Pt.cells d) z λk J p m=>To (O.U4 z z z λK n q r=>Nt<|Rg<|Vv (V.R5 R7 z m.u z)<|Vv (V.ldS z r (by exact K6)) ?_))
 refine Vv (V.mkf z z)<|Mv z<|have s:=(p.trans q); have t:=j.2.1 _ _ _ _ s hRa; bE H λM w H=>To (O.G5 z (A8m d.u (show I5 n [.int .u8 a.F9,qi a.K8,.string a.fA,.string a.fB,.string a.I7,qi a.fN] a from z) (show A9M n (.func (.func 147) #[] #[qp k]) (λx y=>A4P x y c) from ⟨⟨z,z⟩,.inr ⟨147,[],[qp k],z,λA N P S U B C=>B5a m.u (show (VPt M5) A [b] c from ⟨b,z,d.u⟩) B C⟩⟩) j.u t w As _) z λW X Y Z D=>?_)
 obtain ⟨E,rfl,G,I⟩:=D
 refine P8 _ G<|Ni ?_
 cases H
 exact T.A0V results93 Li ⟨E,z,z,I⟩
theorem C1N {h e f i j m n} (b:Z8 h i j) (s:(VPt M5) h j m) (H:B2H e f m=some n):∀ L,FnW prog 156 [.int .i64 e,.int .i64 f,.pointer (some i)] h L (.bool n):=by
 intro L
 obtain ⟨ay,rfl,u⟩:=s
 refine J2.enter func156 z z z<|Sr<|An z<|Sq<|T.N7 (t:=(.vs [0,1,2,3,4,5,6,7,8,9,10,11,12,13,14,15,16,17,18,19,20,21,22,23,24,25,26,27,28,29,30,31,32,33,34,35,36,37,38,39,40,41,42,43,44,45,46,47,48,49,50] (.alt 51 (.g (.v 52 (.alt 53 .done .no))) .no))) 55 0 0 z z H9 (by kernel_rfl) ?_
 refine Tv z (V.R5 R7 z b z)<|have w:=u; ?_
 obtain ⟨aA,_,rfl,c,⟨aB,x,y,rfl,A,B,C⟩⟩:=w
 refine TL z z z z G8 I8 c z<|have D:=A; ?_
 obtain ⟨E,_,rfl,d,⟨G,I,J,K,M,N,P,S,U,W,X,Y,Z,aa,rfl,ab,a,ac,ad,ae,af,ag,ai,aj,o,ak,am,an,ao⟩⟩:=D
 refine TF z z z M3<|Tv z (V.fa A0N z)<|Tv z (V.M8 (k:=1) N9 z d z)<|Tm z z<|bE H λaC p H=>?_
 obtain ⟨aD,ap,⟨aE,rfl,aG⟩⟩:=G6.at a p
 refine Tv z (V.ix O7 z z a (E8 p))<|Tv z (V.fa A8J z)<|Tv z (V.M8 (k:=2) J5 z ap z)<|Tv z (V.sne z z)<|Tm z z<|T.bH 19 H z (λH=>?_) λH=>?_
 ·refine Tv z (V.R5 R7 z b z)<|TL z z z z G8 I8 c z<|TF z z z M3<|Tv z (V.fa A0N z)<|Tv z (V.M8 (k:=1) N9 z d z)<|Tm z z<|bE H λaI q H=>?_
  obtain ⟨aJ,aq,⟨aK,rfl,aM⟩⟩:=G6.at a q
  refine Tv z (V.ix O7 z z a (E8 q))<|Tv z (V.fa A8J z)<|Tv z (V.M8 (k:=2) J5 z aq z)<|Tv z (V.R5 R7 z b z)<|TL z z z z G8 I8 c z<|TF z z z M3<|Tv z (V.fa A0N z)<|Tv z (V.M8 (k:=1) N9 z d z)<|Tm z z<|bE H λaN r H=>?_
  obtain ⟨aO,ar,⟨aP,rfl,aS⟩⟩:=G6.at a r
  refine Tv z (V.ix O7 z z a (E8 r))<|Tv z (V.fa A8J z)<|Tv z (V.M8 (k:=2) J5 z ar z)<|Tv z (V.seq z z)<|Tv z (V.pkT z z)<|Tm z z<|T.bH 46 H z (λH=>?_) λH=>?_
  ·refine Tv z (V.R5 R7 z b z)<|Tv z (V.R5 R7 z b z)<|TL z z z z G8 I8 c z<|TL z z z z A2i U3 d z<|Tm z z<|Tm z z<|bE H λaU au H=>Tp z z (X2 z z) (O.G5 z (A3L (Pt.mk c ⟨(.pointer (some E)),x,y,z,(Pt.mk d ⟨G,I,J,K,M,N,P,S,U,W,X,Y,Z,aa,z,ab,a,ac,ad,ae,af,ag,ai,aj,o,ak,am,an,ao⟩),B,C⟩) o au _) z λaV aW aX aY aw=>?_) T.P6
   obtain ⟨rfl,ax⟩:=aw
   refine P8 _ ax<|T.O1 Li<|Tv z (V.pkT z z)<|Ts z z (X2 z z) (V.asg z) z ?_ T.P6
   exact T.O6 (X2 z z)<|Th<|T.ret<|E1 H
  refine T2 z z<|T2 z z<|T2 z z<|T2 z z<|T2 z z<|T.A4m z z (X2 z z) z ?_ T.P6
  refine T.O1 Lr<|Tv z (V.pkF z z)<|Ts z z (X2 z z) (V.asg z) z ?_ T.P6
  exact T.O6 (X2 z z)<|Th<|T.ret<|E1 H
 refine T2 z z<|T2 z z<|T2 z z<|T2 z z<|T2 z z<|T2 z z<|T2 z z<|T2 z z<|T2 z z<|T2 z z<|T2 z z<|T2 z z<|Tk z<|Tv z (V.pkF z z)<|Tm z z<|T2 z z<|T2 z z<|T2 z z<|T2 z z<|T2 z z<|T.A4m z z (X2 z z) z ?_ T.P6
 refine T.O1 Lr<|Tv z (V.pkF z z)<|Ts z z (X2 z z) (V.asg z) z ?_ T.P6
 exact T.O6 (X2 z z)<|Th<|T.ret<|E1 H
theorem C4L {σ:Type} {R:σ→PH→List E5→Prop} {e:σ→Int→(List Int)→Option σ} {f:σ} {q_s:σ} {h b c g a i La} (d:Pt M5 h b c) (o:I5 h g a) (j:X6 R h i e) (hRa:R f h La) (H:B6X c a e f=some q_s):∀ As L,J2 prog 103 [b,.agg g.toArray,i] h ((As++(La++L))) (λv h' L'=>∃ La',v=.tuple #[]∧L'=(As++(La'++L))∧R q_s h' La'):=by
 intro As L
 obtain rfl:=o
 refine J2.enter func103 z z z<|Sr<|To (O.U4 z (Pt.cells d) z λk J p m=>To (O.U4 z z z λK n q r=>Nt<|Rg<|Vv (V.R5 R7 z m.u z)<|Vv (V.ldS z r (by exact K6)) ?_))
 refine Vv (V.mkf z z)<|Mv z<|have s:=(p.trans q); have t:=j.2.1 _ _ _ _ s hRa; bE H λM w H=>To (O.G5 z (A8m d.u (show I5 n [.int .u8 a.F9,qi a.K8,.string a.fA,.string a.fB,.string a.I7,qi a.fN] a from z) (show A9M n (.func (.func 156) #[] #[qp k]) (λx y=>B2H x y c) from ⟨⟨z,z⟩,.inr ⟨156,[],[qp k],z,λA N P S U B C=>C1N m.u (show (VPt M5) A [b] c from ⟨b,z,d.u⟩) B C⟩⟩) j.u t w As _) z λW X Y Z D=>?_)
 obtain ⟨E,rfl,G,I⟩:=D
 refine P8 _ G<|Ni ?_
 cases H
 exact T.A0V results103 Li ⟨E,z,z,I⟩
theorem B9r {h b c d e f g} (i:Z8 h d e) (q:(VPt M5) h e f) (H:A9m b c f=some g):∀ L,FnW prog 151 [.int .i64 b,.int .i64 c,.pointer (some d)] h L (.bool g):=by
 intro L
 obtain ⟨au,rfl,r⟩:=q
 refine J2.enter func151 z z z<|Sr<|An z<|Sr<|Vv (V.R5 R7 z i z)<|have s:=r; ?_
 obtain ⟨aw,_,rfl,j,⟨ax,t,u,rfl,w,x,y⟩⟩:=s
 refine NL z G8 I8 j z<|have A:=w; ?_
 obtain ⟨B,_,rfl,m,⟨C,D,E,G,I,J,K,M,N,P,S,U,W,X,rfl,Y,Z,aa,ab,ac,ad,ae,af,ag,ai,aj,ak,am,a⟩⟩:=A
 refine NL z A4H A7G m z<|Mv z<|bE H λay n H=>?_
 obtain ⟨aA,an,⟨aB,rfl,o⟩⟩:=G6.at a n
 refine Vv (V.ix A1O z z a (E8 n))<|Vv (V.R5 C0z z an z)<|Mv z<|bE H λaC p H=>?_
 obtain ⟨aD,ao,rfl⟩:=G6.at o p
 refine Vv (V.ix B0a z z o (E8 p))<|Vv (V.R5 B1j z ao z)<|We z z<|Mv z<|T.bH 20 H z (λH=>?_) λH=>?_
 ·exact Vv (V.R5 R7 z i z)<|Mv z<|Mv z<|bE H λaE ap H=>To (O.cs (B0m (Pt.mk j ⟨(.pointer (some B)),t,u,z,(Pt.mk m ⟨C,D,E,G,I,J,K,M,N,P,S,U,W,X,z,Y,Z,aa,ab,ac,ad,ae,af,ag,ai,aj,ak,am,a⟩),x,y⟩) ap _) λaI aK=>Kt z<|Ag z<|Nr<|E1 H)
 exact S2<|S2<|Kf z<|Ag z<|Nr<|E1 H
theorem C2e {σ:Type} {R:σ→PH→List E5→Prop} {e:σ→Int→(List Int)→Option σ} {f:σ} {q_s:σ} {h b c g a i La} (d:Pt M5 h b c) (o:I5 h g a) (j:X6 R h i e) (hRa:R f h La) (H:B2P c a e f=some q_s):∀ As L,J2 prog 97 [b,.agg g.toArray,i] h ((As++(La++L))) (λv h' L'=>∃ La',v=.tuple #[]∧L'=(As++(La'++L))∧R q_s h' La'):=by
 intro As L
 obtain rfl:=o
 refine J2.enter func97 z z z<|Sr<|To (O.U4 z (Pt.cells d) z λk J p m=>To (O.U4 z z z λK n q r=>Nt<|Rg<|Vv (V.R5 R7 z m.u z)<|Vv (V.ldS z r (by exact K6)) ?_))
 refine Vv (V.mkf z z)<|Mv z<|have s:=(p.trans q); have t:=j.2.1 _ _ _ _ s hRa; bE H λM w H=>To (O.G5 z (A8m d.u (show I5 n [.int .u8 a.F9,qi a.K8,.string a.fA,.string a.fB,.string a.I7,qi a.fN] a from z) (show A9M n (.func (.func 151) #[] #[qp k]) (λx y=>A9m x y c) from ⟨⟨z,z⟩,.inr ⟨151,[],[qp k],z,λA N P S U B C=>B9r m.u (show (VPt M5) A [b] c from ⟨b,z,d.u⟩) B C⟩⟩) j.u t w As _) z λW X Y Z D=>?_)
 obtain ⟨E,rfl,G,I⟩:=D
 refine P8 _ G<|Ni ?_
 cases H
 exact T.A0V results97 Li ⟨E,z,z,I⟩
theorem B8H {h g i n o p q} (a:Z8 h n o) (D:(VPt M5) h o p) (H:A8f g i p=some q):∀ L,FnW prog 153 [.int .i64 g,.int .i64 i,.pointer (some n)] h L (.bool q):=by
 intro L
 obtain ⟨ab,rfl,E⟩:=D
 refine J2.enter func153 z z z<|Sr<|An z<|Sq<|Sq<|T.N7 (t:=(.vs [0,1,2,3,4,5,6,7,8,9,10,11,12,13,14,15,16,17,18,19,20,21,22] .done)) 24 0 0 z z H9 (by kernel_rfl) ?_
 refine Tv z (V.R5 R7 z a z)<|have G:=E; ?_
 obtain ⟨ac,_,rfl,b,⟨ad,ae,af,rfl,I,j,ag⟩⟩:=G
 refine TL z z z z G8 I8 b z<|have J:=I; ?_
 obtain ⟨ai,_,rfl,d,⟨aj,ak,am,an,ao,ap,aq,ar,au,aw,ax,ay,aA,aB,rfl,aC,aD,aE,c,aG,aI,aJ,m,aK,aM,aN,aO,aP,aS⟩⟩:=J
 refine TF z z z M3<|Tv z (V.fa A8P z)<|Tv z (V.M8 (k:=3) D9 z d z)<|Tm z z<|bE H λaU r H=>?_
 obtain ⟨aV,K,rfl⟩:=G6.at c r
 refine Tv z (V.ix A9 z z c (E8 r))<|Tv z (V.R5 D7 z K z)<|Tv z (V.R5 R7 z a z)<|TL z z z z G8 I8 b z<|TF z z z M3<|Tv z (V.fa A8P z)<|Tv z (V.M8 (k:=3) D9 z d z)<|Tm z z<|bE H λaW s H=>?_
 obtain ⟨aX,M,rfl⟩:=G6.at c s
 refine Tv z (V.ix A9 z z c (E8 s))<|Tv z (V.R5 D7 z M z)<|Tv z (V.gt z z)<|T.O6 (X2 z z)<|Th ?_
 obtain ⟨N,O,P⟩:=J6 H
 refine T.ck (α:=Int×Int) [2] (λ⟨e,f⟩=>([(0,qi e),(1,qi f)],L,λhh=>N=(e,f))) ?_ ?_
 ·have H:=O
  refine T.cH H z (λH=>?_) λH=>?_
  ·refine Rg<|Mv z<|Mv z<|Ag z<|An z<|T.mt (i,g) (M0 H)
  refine Ks<|T.mt (g,i) (M0 H)
 rintro ⟨e,f⟩ aY aZ S
 have H:=I4 S P
 refine T.norm [0,1,2] z<|T.fl ?_
 refine Sq<|T.N7 (t:=(.vs [0,1,2,3,4,5,6,7,8,9,10,11,12,13,14,15,16,17,18,19,20,21,22,23,24,25,26,27,28,29,30,31,32,33,34,35,36,37,38,39,40,41,42,43,44,45,46,47,48,49,50,51,52,53,54,55,56,57] (.alt 58 .done .no))) 60 0 0 z z H9 (by kernel_rfl) ?_
 refine Tv z (V.R5 R7 z a.u z)<|TL z z z z G8 I8 b.u z<|TF z z z M3<|Tv z (V.fa A8P z)<|Tv z (V.M8 (k:=3) D9 z d.u z)<|Tm z z<|bE H λa0 w H=>?_
 obtain ⟨a1,U,rfl⟩:=G6.at c w
 refine Tv z (V.ix A9 z z c (E8 w))<|Tv z (V.R5 D7 z U.u z)<|Tv z (V.R5 R7 z a.u z)<|TL z z z z G8 I8 b.u z<|TF z z z M3<|Tv z (V.fa A8P z)<|Tv z (V.M8 (k:=3) D9 z d.u z)<|Tm z z<|bE H λa2 x H=>?_
 obtain ⟨a3,W,rfl⟩:=G6.at c x
 refine Tv z (V.ix A9 z z c (E8 x))<|Tv z (V.R5 D7 z W.u z)<|Tv z (V.lt z z)<|Tm z z<|T.bH 54 H z (λH=>?_) λH=>?_
 ·refine Tv z (V.R5 R7 z a.u z)<|TL z z z z G8 I8 b.u z<|TL z z z z A9r D9 d.u z<|Tv z (V.R5 R7 z a.u z)<|TL z z z z Q4 D9 b.u z<|Tm z z<|bE H λa4 y H=>?_
  obtain ⟨a5,X,rfl⟩:=G6.at j y
  refine Tv z (V.ix A9 z z j (E8 y))<|Tv z (V.R5 D7 z X.u z)<|bE H λa6 A H=>?_
  obtain ⟨a7,Y,rfl⟩:=G6.at m A
  refine Tv z (V.ix A9 z z m (E8 A))<|Tv z (V.R5 D7 z Y.u z)<|Tv z (V.R5 R7 z a.u z)<|TL z z z z G8 I8 b.u z<|TL z z z z A9r D9 d.u z<|Tv z (V.R5 R7 z a.u z)<|TL z z z z Q4 D9 b.u z<|Tm z z<|bE H λa8 B H=>?_
  obtain ⟨a9,Z,rfl⟩:=G6.at j B
  refine Tv z (V.ix A9 z z j (E8 B))<|Tv z (V.R5 D7 z Z.u z)<|bE H λah C H=>?_
  obtain ⟨al,aa,rfl⟩:=G6.at m C
  refine Tv z (V.ix A9 z z m (E8 C))<|Tv z (V.R5 D7 z aa.u z)<|Tv z (V.gt z z)<|Tv z (V.pkT z z)<|Ts z z (X2 z z) (V.asg z) z ?_ T.P6
  exact T.O6 (X2 z z)<|Th<|T.ret<|E1 H
 refine T2 z z<|T2 z z<|T2 z z<|T2 z z<|T2 z z<|T2 z z<|T2 z z<|T2 z z<|T2 z z<|T2 z z<|T2 z z<|T2 z z<|T2 z z<|T2 z z<|T2 z z<|T2 z z<|Tk z<|Tv z (V.pkF z z)<|Ts z z (X2 z z) (V.asg z) z ?_ T.P6
 exact T.O6 (X2 z z)<|Th<|T.ret<|E1 H
theorem C0R {σ:Type} {R:σ→PH→List E5→Prop} {i:σ→Int→(List Int)→Option σ} {j:σ} {q_s:σ} {h m b n a o La} (p:Pt M5 h m b) (ao:I5 h n a) (c:X6 R h o i) (hRa:R j h La) (H:B0U b a i j=some q_s):∀ As L,J2 prog 99 [m,.agg n.toArray,o] h ((As++(La++L))) (λv h' L'=>∃ La',v=.tuple #[]∧L'=(As++(La'++L))∧R q_s h' La'):=by
 intro As L
 obtain rfl:=ao
 refine J2.enter func99 z z z<|Sr<|To (O.U4 z (Pt.cells p) z λq aP r d=>To (O.U4 z z z λaS s t ap=>Nt<|Sq<|Sr<|Vv (V.R5 R7 z d.u z)<|have aq:=p; ?_))
 obtain ⟨w,_,rfl,e,⟨aU,x,y,rfl,ar,A,B⟩⟩:=aq
 refine NL z G8 I8 e.u z<|have au:=ar; ?_
 obtain ⟨C,_,rfl,f,⟨D,E,G,I,J,K,M,N,P,S,U,W,X,Y,rfl,Z,aa,ab,g,ac,ad,ae,af,ag,ai,aj,ak,am,an⟩⟩:=au
 refine NF z M3<|Vv (V.fa A8P z)<|Vv (V.M8 (k:=3) D9 z f.u z)<|Vv (V.Q3 A9 z g)<|We z z<|Nt<|T.cH H z (λH=>?_) λH=>?_
 ·refine T.ret<|Tr<|have aw:=(r.trans t); have ax:=c.2.1 _ _ _ _ aw hRa; ?_
  cases H
  exact T.C5R results99 Li ⟨La,z,z,ax⟩
 refine Ks<|Rg<|Vv (V.R5 R7 z d.u z)<|Vv (V.ldS z ap (by exact K6)) ?_
 refine Vv (V.mkf z z)<|Mv z<|have ay:=(r.trans t); have aA:=c.2.1 _ _ _ _ ay hRa; bE H λaV aB H=>To (O.G5 z (A8m (Pt.mk e.u ⟨(.pointer (some C)),x,y,z,(Pt.mk f.u ⟨D,E,G,I,J,K,M,N,P,S,U,W,X,Y,z,Z.u,aa.u,ab.u,g.u,ac.u,ad.u,ae.u,af.u,ag.u,ai.u,aj.u,ak.u,am.u,an.u⟩),A.u,B.u⟩) (show I5 s [.int .u8 a.F9,qi a.K8,.string a.fA,.string a.fB,.string a.I7,qi a.fN] a from z) (show A9M s (.func (.func 153) #[] #[qp q]) (λaC aD=>A8f aC aD b) from ⟨⟨z,z⟩,.inr ⟨153,[],[qp q],z,λaE aG aW aX aY aI aJ=>B8H d.u (show (VPt M5) aE [.pointer (some w)] b from ⟨(.pointer (some w)),z,(Pt.mono M5.mono (Pt.mk e.u ⟨(.pointer (some C)),x,y,z,(Pt.mk f.u ⟨D,E,G,I,J,K,M,N,P,S,U,W,X,Y,z,Z.u,aa.u,ab.u,g.u,ac.u,ad.u,ae.u,af.u,ag.u,ai.u,aj.u,ak.u,am.u,an.u⟩),A.u,B.u⟩) aG)⟩) aI aJ⟩⟩) c.u aA aB As _) z λaZ a0 a1 a2 aK=>?_)
 obtain ⟨aM,rfl,aN,aO⟩:=aK
 refine P8 _ aN<|Ni ?_
 cases H
 exact T.A0V results99 Li ⟨aM,z,z,aO⟩
theorem C0X {σ:Type} {R:σ→PH→List E5→Prop} {m:σ→Int→(List Int)→Option σ} {e:σ} {q_s:σ} {h n f o p g q r La} (c:G6 (VI .i64) 1 h n f) (A:Z8 h o p) (B:(VPt M5) h p g) (C:Z8 h q [r]) (d:X6 R h r m) (hRa:R e h La) (H:B0M f g m e=some q_s):∀ As L,J2 prog 149 [n,.pointer (some o),.pointer (some q)] h ((As++(La++L))) (λv h' L'=>∃ La',v=.tuple #[]∧L'=(As++(La'++L))∧R q_s h' La'):=by
 intro As L
 obtain ⟨ai,rfl,D⟩:=B
 refine J2.enter func149 z z z<|Sq<|Sm z<|Vv (V.Q3 A9 z c)<|Mv z<|Nt ?_
 obtain ⟨E,G,s⟩:=J6 H
 have H:=G
 refine Bl<|T.lk [0,1,2,6,7] (FUEL,(0:Int)) (λ⟨a,b⟩=>([(8,qi b)],(As++(La++L)),λhh=>iter (A4s f g e) a b=some E)) H ?_
 rintro ⟨a,b⟩ aj i I
 obtain ⟨J,ak,rfl,H,j⟩:=G7 I
 refine T.norm [8,0,1,2,6,7] z<|P8 ((As++(La++L))) z<|Sr<|Wl z z<|Nt<|Sq<|T.cH H z (λH=>?_) λH=>?_
 ·refine Ks<|Sq<|Bl<|Sr<|bE H λam t H=>?_
  obtain ⟨an,K,rfl⟩:=G6.at c t
  refine Vv (V.ix A9 z z c (E8 t))<|Vv (V.R5 D7 z K.u z)<|An z<|Sr<|Vv (V.R5 R7 z A.u z)<|have M:=D; ?_
  obtain ⟨ao,_,rfl,N,⟨ap,aq,ar,rfl,P,au,aw⟩⟩:=M
  refine NL z G8 I8 N.u z<|have S:=P; ?_
  obtain ⟨ax,_,rfl,U,⟨ay,aA,aB,aC,aD,aE,aG,aI,aJ,aK,aM,aN,aO,aP,rfl,aS,w,aU,aV,aW,aX,aY,aZ,a0,a1,a2,a3,a4,a5⟩⟩:=S
  refine NF z M3<|Vv (V.fa A0N z)<|Vv (V.M8 (k:=1) N9 z U.u z)<|Mv z<|bE H λa6 x H=>?_
  obtain ⟨a7,W,⟨a8,rfl,a9⟩⟩:=G6.at w x
  refine Vv (V.ix O7 z z w (E8 x))<|Vv (V.fa B7a z)<|Vv (V.M8 (k:=6) U6 z W.u z)<|Nt<|T.cH H z (λH=>?_) λH=>?_
  ·refine T.ret<|Br<|Tr<|Tr<|have H:=D6 H j; Br<|Tr<|have H:=I4 H s; have X:=d.2.1 _ _ _ _ i hRa; ?_
   cases H
   exact T.C5R results149 Li ⟨La,z,z,X⟩
  refine T.skip<|Bn<|Th<|Rg<|bE H λY Z H=>Vv (V.H5 z z Z)<|Mv z<|Nt<|T.ag (J,Y) (D8 H j)
 refine T.exit<|Te<|Te<|have H:=D6 H j; Be<|Th<|have H:=I4 H s; Sm z<|Vv (V.Q3 A9 z c)<|Wg z z<|Nt<|T.cH H z (λH=>?_) λH=>?_
 ·refine Rg<|Vv (V.R5 B6I z C.u z)<|Mv z<|bE H λah aa H=>have ab:=d.2.1 _ _ _ _ i hRa; To (O.A4c z z (X6.call d.u c.u ab aa As _) z λal av az ba ac=>?_)
  obtain ⟨y,rfl,ad,ae⟩:=ac
  refine P8 ((As++(y++L))) ad<|Ni ?_
  cases H
  exact T.A0V results149 Li ⟨y,z,z,ae⟩
 refine T.skip<|have af:=d.2.1 _ _ _ _ i hRa; ?_
 cases H
 exact T.A0V results149 Li ⟨La,z,z,af⟩
theorem C4p {σ:Type} {R:σ→PH→List E5→Prop} {e:σ→Int→(List Int)→Option σ} {g:σ} {q_s:σ} {h b c i a j La} (f:Pt M5 h b c) (p:I5 h i a) (d:X6 R h j e) (hRa:R g h La) (H:B4Q c a e g=some q_s):∀ As L,J2 prog 94 [b,.agg i.toArray,j] h ((As++(La++L))) (λv h' L'=>∃ La',v=.tuple #[]∧L'=(As++(La'++L))∧R q_s h' La'):=by
 intro As L
 obtain rfl:=p
 refine J2.enter func94 z z z<|Sr<|To (O.U4 z (Pt.cells f) z λk S q m=>To (O.U4 z z z λU W r s=>To (O.U4 z d.1.2 z λn o t w=>Nt<|Rg<|Vv (V.R5 R7 z m.u z)<|Vv (V.ldS z s.u (by exact K6)) ?_)))
 refine Vv (V.mkf z z)<|have x:=((q.trans r).trans t); have y:=d.2.1 _ _ _ _ x hRa; bE H λX A H=>To (O.G5 z (B2u f.u (show I5 o [.int .u8 a.F9,qi a.K8,.string a.fA,.string a.fB,.string a.I7,qi a.fN] a from z) (show B1I R o (.func (.func 149) #[] #[qp k,qp n]) (λs_ B=>B0M B c e s_) from ⟨⟨z,z⟩,d.2.1,λC Y=>λD=>λE G I J=>Yld.fn (us:=[]) (cs:=[qp k,qp n]) (C0X D m.u (show (VPt M5) C [b] c from ⟨b,z,f.u⟩) w.u d.u E G I J)⟩) y A As _) z λZ aa ab ac K=>?_)
 obtain ⟨M,rfl,N,P⟩:=K
 refine P8 _ N<|Ni ?_
 cases H
 exact T.A0V results94 Li ⟨M,z,z,P⟩
theorem C0E {σ:Type} {R:σ→PH→List E5→Prop} {b:σ→Int→(List Int)→Option σ} {c:σ} {q_s:σ} {h d e f g i j m La} (a:G6 (VI .i64) 1 h d e) (n:Z8 h f g) (p:I5 h g i) (q:Z8 h j [m]) (r:X6 R h m b) (hRa:R c h La) (H:B1l e i b c=some q_s):∀ As L,J2 prog 154 [d,.pointer (some f),.pointer (some j)] h ((As++(La++L))) (λv h' L'=>∃ La',v=.tuple #[]∧L'=(As++(La'++L))∧R q_s h' La'):=by
 intro As L
 obtain rfl:=p
 refine J2.enter func154 z z z<|Sm z<|Vv (V.Q3 A9 z a)<|Vv (V.fa U5 z)<|Vv (V.M8 (k:=5) D7 z n z)<|Wl z z<|Nt<|T.cH H z (λH=>?_) λH=>?_
 ·refine Rg<|Vv (V.R5 B6I z q z)<|Vv (V.fa U5 z)<|Vv (V.M8 (k:=5) D7 z n z)<|Mv z<|Vv (V.Q3 A9 z a)<|bE H λy s H=>Vv (V.Z4 z z s)<|Mv z<|bE H λA t H=>To (O.A4c z z (X6.call r a hRa t As _) z λB C D E u=>?_)
  obtain ⟨o,rfl,w,x⟩:=u
  refine P8 ((As++(o++L))) w<|Ni ?_
  cases H
  exact T.A0V results154 Li ⟨o,z,z,x⟩
 refine T.skip ?_
 cases H
 exact T.A0V results154 Lr ⟨La,z,z,hRa⟩
theorem C3z {σ:Type} {R:σ→PH→List E5→Prop} {c:σ→Int→(List Int)→Option σ} {d:σ} {q_s:σ} {h e f g a i La} (o:Pt M5 h e f) (p:I5 h g a) (b:X6 R h i c) (hRa:R d h La) (H:B4M f a c d=some q_s):∀ As L,J2 prog 100 [e,.agg g.toArray,i] h ((As++(La++L))) (λv h' L'=>∃ La',v=.tuple #[]∧L'=(As++(La'++L))∧R q_s h' La'):=by
 intro As L
 obtain rfl:=p
 refine J2.enter func100 z z z<|Sr<|To (O.U4 z z z λj N q k=>To (O.U4 z b.1.2 z λm n r s=>Nt<|Rg<|Mv z<|Vv (V.ldS z k.u (by exact K6)) ?_))
 refine Vv (V.mkf z z)<|have t:=(q.trans r); have w:=b.2.1 _ _ _ _ t hRa; bE H λP x H=>To (O.G5 z (B2u o.u (show I5 n [.int .u8 a.F9,qi a.K8,.string a.fA,.string a.fB,.string a.I7,qi a.fN] a from z) (show B1I R n (.func (.func 154) #[] #[qp j,qp m]) (λs_ y=>B1l y a c s_) from ⟨⟨z,z⟩,b.2.1,λA S=>λB=>λC D E G=>Yld.fn (us:=[]) (cs:=[qp j,qp m]) (C0E B k.u (show I5 A [.int .u8 a.F9,qi a.K8,.string a.fA,.string a.fB,.string a.I7,qi a.fN] a from z) s.u b.u C D E G)⟩) w x As _) z λU W X Y I=>?_)
 obtain ⟨J,rfl,K,M⟩:=I
 refine P8 _ K<|Ni ?_
 cases H
 exact T.A0V results100 Li ⟨J,z,z,M⟩
theorem B9D {σ:Type} {R:σ→PH→List E5→Prop} {b:σ→Int→(List Int)→Option σ} {c:σ} {q_s:σ} {h d e f g i j m La} (a:G6 (VI .i64) 1 h d e) (n:Z8 h f g) (p:I5 h g i) (q:Z8 h j [m]) (r:X6 R h m b) (hRa:R c h La) (H:A9h e i b c=some q_s):∀ As L,J2 prog 155 [d,.pointer (some f),.pointer (some j)] h ((As++(La++L))) (λv h' L'=>∃ La',v=.tuple #[]∧L'=(As++(La'++L))∧R q_s h' La'):=by
 intro As L
 obtain rfl:=p
 refine J2.enter func155 z z z<|Sm z<|Vv (V.Q3 A9 z a)<|Vv (V.fa U5 z)<|Vv (V.M8 (k:=5) D7 z n z)<|Wg z z<|Nt<|T.cH H z (λH=>?_) λH=>?_
 ·refine Rg<|Vv (V.R5 B6I z q z)<|Mv z<|Vv (V.Q3 A9 z a)<|Vv (V.fa U5 z)<|Vv (V.M8 (k:=5) D7 z n z)<|bE H λy s H=>Vv (V.Z4 z z s)<|Mv z<|bE H λA t H=>To (O.A4c z z (X6.call r a hRa t As _) z λB C D E u=>?_)
  obtain ⟨o,rfl,w,x⟩:=u
  refine P8 ((As++(o++L))) w<|Ni ?_
  cases H
  exact T.A0V results155 Li ⟨o,z,z,x⟩
 refine T.skip ?_
 cases H
 exact T.A0V results155 Lr ⟨La,z,z,hRa⟩
theorem C2l {σ:Type} {R:σ→PH→List E5→Prop} {c:σ→Int→(List Int)→Option σ} {d:σ} {q_s:σ} {h e f g a i La} (o:Pt M5 h e f) (p:I5 h g a) (b:X6 R h i c) (hRa:R d h La) (H:B2I f a c d=some q_s):∀ As L,J2 prog 101 [e,.agg g.toArray,i] h ((As++(La++L))) (λv h' L'=>∃ La',v=.tuple #[]∧L'=(As++(La'++L))∧R q_s h' La'):=by
 intro As L
 obtain rfl:=p
 refine J2.enter func101 z z z<|Sr<|To (O.U4 z z z λj N q k=>To (O.U4 z b.1.2 z λm n r s=>Nt<|Rg<|Mv z<|Vv (V.ldS z k.u (by exact K6)) ?_))
 refine Vv (V.mkf z z)<|have t:=(q.trans r); have w:=b.2.1 _ _ _ _ t hRa; bE H λP x H=>To (O.G5 z (B2u o.u (show I5 n [.int .u8 a.F9,qi a.K8,.string a.fA,.string a.fB,.string a.I7,qi a.fN] a from z) (show B1I R n (.func (.func 155) #[] #[qp j,qp m]) (λs_ y=>A9h y a c s_) from ⟨⟨z,z⟩,b.2.1,λA S=>λB=>λC D E G=>Yld.fn (us:=[]) (cs:=[qp j,qp m]) (B9D B k.u (show I5 A [.int .u8 a.F9,qi a.K8,.string a.fA,.string a.fB,.string a.I7,qi a.fN] a from z) s.u b.u C D E G)⟩) w x As _) z λU W X Y I=>?_)
 obtain ⟨J,rfl,K,M⟩:=I
 refine P8 _ K<|Ni ?_
 cases H
 exact T.A0V results101 Li ⟨J,z,z,M⟩
end Go.Proofs.X
open Go Go.Proofs Go.Proofs.Tryz Go.Sl Go.Dm
namespace Go.Proofs.X
theorem C5K:A5p prog 105=some ([.slice none 0 0,.slice none 0 0,.slice none 0 0,.slice none 0 0,.slice none 0 0,.map none,.slice none 0 0,.slice none 0 0,.slice none 0 0,.slice none 0 0,.slice none 0 0,.slice none 0 0,.slice none 0 0,.slice none 0 0],[(0,5),(5,1),(6,1),(7,1),(8,1),(9,1),(10,1),(11,1),(12,1),(13,1)]):=by kernel_rfl
theorem B8O:A5p prog 118=some ([.slice none 0 0,.slice none 0 0],[(0,1),(1,1)]):=by kernel_rfl
theorem C5H:A5p prog 134=some ([.pointer none,.slice none 0 0,.slice none 0 0],[(0,1),(1,1),(2,1)]):=by kernel_rfl
theorem V3:A5p prog 161=some ([.string ⟨#[]⟩,.int .u8 (0),.bool false,.int .u8 (0),.bool false,.int .i64 (0),.bool false,.nilFunc],[(0,1),(1,1),(2,1),(3,1),(4,1),(5,1),(6,1),(7,1)]):=by kernel_rfl
theorem C4P:A0E prog 105=true:=by kernel_rfl
theorem B9i:A0E prog 118=true:=by kernel_rfl
theorem C5e:A0E prog 134=true:=by kernel_rfl
theorem V4:A0E prog 161=true:=by kernel_rfl
theorem B5l:O8 prog 105 1=some 5:=by kernel_rfl
theorem C2G:O8 prog 161 0=some 0:=by kernel_rfl
theorem A7U:O8 prog 161 1=some 1:=by kernel_rfl
theorem A3T:O8 prog 161 2=some 2:=by kernel_rfl
theorem A2z:O8 prog 161 3=some 3:=by kernel_rfl
theorem A0Y:O8 prog 161 4=some 4:=by kernel_rfl
theorem C1W:O8 prog 161 5=some 5:=by kernel_rfl
theorem C2k:O8 prog 161 6=some 6:=by kernel_rfl
theorem A3i:O8 prog 97 4=some 4:=by kernel_rfl
theorem C5V:U7 prog 159=some (false,1):=by kernel_rfl
theorem C5w:U7 prog 161=some (true,8):=by kernel_rfl
theorem C1n:U7 prog 98=some (false,1):=by kernel_rfl
theorem A8T:zer prog 100=some (.slice none 0 0):=by kernel_rfl
theorem B8Q:zer prog 112=some (.map none):=by kernel_rfl
theorem A6n:zer prog 122=some (.slice none 0 0):=by kernel_rfl
theorem B8Z:zer prog 124=some (.int .u8 (0)):=by kernel_rfl
theorem B8U:zer prog 161=some (.agg #[.string ⟨#[]⟩,.int .u8 (0),.bool false,.int .u8 (0),.bool false,.int .i64 (0),.bool false,.nilFunc]):=by kernel_rfl
theorem A6p:zer prog 4=some (.bool false):=by kernel_rfl
theorem C2B:D2s prog 161 7=some (7,159):=by kernel_rfl
theorem rfE {c:Prop} [Decidable c] {α:Type} {a b r:α} {P:Prop} (H:(if c then a else b)=r) (x:c→a=r→P) (y:¬c→b=r→P):P:=by
  by_cases h:c
  · rw [if_pos h] at H; exact x h H
  · rw [if_neg h] at H; exact y h H
theorem C1H {σ:Type} {R:σ→PH→List E5→Prop} {h:PH} {n:Nat} {pv1:Value} {v:F5} (pr1:Pt M5 h pv1 v) {pc2:List Value} {r:F4} (pr2:I5 h pc2 r) {pv3:Value} {f:σ→Int→(List Int)→Option σ} (pr3:X6 R h pv3 f) {s0:σ} {La:List E5} (hRa:R s0 h La) {q_s:σ} (H:B4E n v r f s0=some q_s) :
    ∃ fid us vs,fnV n=.func (.func fid) us.toArray vs.toArray∧∀ As L,J2 prog fid (us++[pv1,.agg pc2.toArray,pv3]++vs) h (As++(La++L)) (λv h' L'=>∃ La',v=.tuple #[]∧L'=(As++(La'++L))∧R q_s h' La'):=by
  unfold B4E at H
  refine rfE H (λe H=>?_) (λ_ H=>?_)
  · subst e; exact ⟨86,[],[],rfl,C1O pr1 pr2 pr3 hRa H⟩
  refine rfE H (λe H=>?_) (λ_ H=>?_)
  · subst e; exact ⟨87,[],[],rfl,B6e pr1 pr2 pr3 hRa H⟩
  refine rfE H (λe H=>?_) (λ_ H=>?_)
  · subst e; exact ⟨88,[],[],rfl,B6a pr1 pr2 pr3 hRa H⟩
  refine rfE H (λe H=>?_) (λ_ H=>?_)
  · subst e; exact ⟨89,[],[],rfl,C0W pr1 pr2 pr3 hRa H⟩
  refine rfE H (λe H=>?_) (λ_ H=>?_)
  · subst e; exact ⟨90,[],[],rfl,B8q pr1 pr2 pr3 hRa H⟩
  refine rfE H (λe H=>?_) (λ_ H=>?_)
  · subst e; exact ⟨91,[],[],rfl,C6a pr1 pr2 pr3 hRa H⟩
  refine rfE H (λe H=>?_) (λ_ H=>?_)
  · subst e; exact ⟨92,[],[],rfl,C3O pr1 pr2 pr3 hRa H⟩
  refine rfE H (λe H=>?_) (λ_ H=>?_)
  · subst e; exact ⟨93,[],[],rfl,B7x pr1 pr2 pr3 hRa H⟩
  refine rfE H (λe H=>?_) (λ_ H=>?_)
  · subst e; exact ⟨94,[],[],rfl,C4p pr1 pr2 pr3 hRa H⟩
  refine rfE H (λe H=>?_) (λ_ H=>?_)
  · subst e; exact ⟨95,[],[],rfl,C1K pr1 pr2 pr3 hRa H⟩
  refine rfE H (λe H=>?_) (λ_ H=>?_)
  · subst e; exact ⟨96,[],[],rfl,C1X pr1 pr2 pr3 hRa H⟩
  refine rfE H (λe H=>?_) (λ_ H=>?_)
  · subst e; exact ⟨97,[],[],rfl,C2e pr1 pr2 pr3 hRa H⟩
  refine rfE H (λe H=>?_) (λ_ H=>?_)
  · subst e; exact ⟨98,[],[],rfl,B9v pr1 pr2 pr3 hRa H⟩
  refine rfE H (λe H=>?_) (λ_ H=>?_)
  · subst e; exact ⟨99,[],[],rfl,C0R pr1 pr2 pr3 hRa H⟩
  refine rfE H (λe H=>?_) (λ_ H=>?_)
  · subst e; exact ⟨100,[],[],rfl,C3z pr1 pr2 pr3 hRa H⟩
  refine rfE H (λe H=>?_) (λ_ H=>?_)
  · subst e; exact ⟨101,[],[],rfl,C2l pr1 pr2 pr3 hRa H⟩
  refine rfE H (λe H=>?_) (λ_ H=>?_)
  · subst e; exact ⟨102,[],[],rfl,B9u pr1 pr2 pr3 hRa H⟩
  refine rfE H (λe H=>?_) (λ_ H=>?_)
  · subst e; exact ⟨103,[],[],rfl,C4L pr1 pr2 pr3 hRa H⟩
  cases H
theorem B8E {h b c d a e q_2} (i:G6 (VI .i64) 1 h c d)  (H:A0W b d e=some q_2):∀ L,J2 prog 124 [.int .i64 b,c,.pointer (some ⟨a,0,none⟩)] h (blk a (.cells [.int .i64 e].toArray 3)::L) (λv h' L'=>v=.tuple #[]∧L'=blk a (.cells [.int .i64 q_2].toArray 3)::L):=by
 intro L
 refine J2.enter func124 z z z<|Rg<|Vv (V.A9y D7 z (j:=0) z z)<|Mv z<|bE H λf g H=>Vv (V.H5 z z g)<|To (O.stF (vs:=[qi f]) D7 z z (j:=0) z z z z<|Ni ?_)
 cases H
 exact T.A0V results124 Lr ⟨z,z⟩
theorem B0o {h g i m n} (r:Pt M5 h g i) (H:A4l i m=some n):∀ L,FnW prog 62 [g,.int .i64 m] h L (.int .i64 n):=by
 intro L
 refine J2.enter func62 z z z<|Sr<|An z<|Sr<|To (O.alloc J7 z z λf=>To (O.stF (vs:=[qi 0]) D7 z z (j:=0) z z z z<|Nt<|Sq<|T.N7 (t:=(.vs [0,1,2,3,4,5,6,7,8,9,10,11,12,13,14,15,16,17,18,19,20,21,22,23,24,25,26,27,28,29,30,31,32,33] (.alt 34 .done .no))) 34 1 0 z z H9 (by kernel_rfl) ?_))
 refine Tm z z<|have s:=r; ?_
 obtain ⟨aJ,_,rfl,c,⟨aK,u,w,rfl,x,y,A⟩⟩:=s
 refine TL z z z z G8 I8 c z<|have B:=x; ?_
 obtain ⟨C,_,rfl,d,⟨D,E,G,I,J,K,M,N,P,S,U,W,X,Y,rfl,Z,aa,ab,ac,b,o,ad,ae,af,ag,ai,aj,ak,am⟩⟩:=B
 refine TL z z z z B5l C1n d z<|Tm z z<|TL z z z z G8 I8 c z<|TF z z z M3<|Tv z (V.fa A3i z)<|Tv z (V.M8 (k:=4) A1k z d z)<|Tm z z<|bE H λaM p H=>?_
 obtain ⟨aN,an,rfl⟩:=G6.at b p
 refine Tv z (V.ix Z6 z z b (E8 p))<|Tv z (V.fa A2t z)<|Tv z (V.M8 (k:=0) A5G z an z)<|bE H λ⟨aO,aP⟩ ao H=>?_
 obtain ⟨_,ap,rfl⟩:=Mp.look (zc:=[.string qe,.int .u8 0,.bool false,.int .u8 0,.bool false,qi 0,.bool false,(fnV (0:Nat))]) (agg:=true) underlying98 (A0z.int underlying41) B8U (show K9 h [.string qe,.int .u8 0,.bool false,.int .u8 0,.bool false,qi 0,.bool false,(fnV (0:Nat))] (H7.mk qe (0:Int) false (0:Int) false (0:Int) false (0:Nat)) from rfl) o ao
 refine Tv z (V.D3Y z z ap)<|Tv z (V.fld C2B C5V z z)<|Tm z z<|Tm z z<|TL z z z z G8 I8 c z<|TF z z z M3<|Tv z (V.fa A3i z)<|Tv z (V.M8 (k:=4) A1k z d z)<|Tm z z<|bE H λa q H=>?_
 obtain ⟨aS,aq,rfl⟩:=G6.at b q
 refine Tv z (V.ix Z6 z z b (E8 q))<|Tv z (V.ldS z aq (by exact K6)) ?_
 refine Tv z (V.mkf z z)<|bE H λaU ar H=>?_
 obtain ⟨aV,aW,aX,au,aw⟩:=C1H (Pt.mk c ⟨(.pointer (some C)),u,w,rfl,(Pt.mk d ⟨D,E,G,I,J,K,M,N,P,S,U,W,X,Y,rfl,Z,aa,ab,ac,b,o,ad,ae,af,ag,ai,aj,ak,am⟩),y,A⟩) (show I5 h [.int .u8 a.F9,qi a.K8,.string a.fA,.string a.fB,.string a.I7,qi a.fN] a from rfl) (show X6 (λx_ _ La_=>La_=[blk f (.cells [qi x_].toArray 3)]) h (.func (.func 124) #[] #[qp f]) (λs_ ax ay=>A0W ax ay s_) from ⟨⟨rfl,rfl⟩,λ_ _ _ _ _ e=>e,λaY aZ=>λaA=>λaB aC aD aE=>by subst aB; exact Yld.one (us:=[]) (cs:=[qp f]) (B8E aA aC) aD aE⟩) rfl ar
 refine Tp z z (X3 [] [0] z z) (O.A1l z au z (aw ([]:List E5) _) z λa0 a1 a2 a3 aG=>?_) T.P6
 obtain ⟨a4,rfl,aI,rfl⟩:=aG
 refine P8 _ aI<|T.O6 (SX.one (XA.fr [] Li z) z)<|Th<|Sq<|T.norm [5] z<|T.fl ?_
 exact Rg<|Vv (V.A9y D7 z (j:=0) z z)<|Ag z<|Nr<|T.drop<|E1 H
theorem B5s {h m f n o} (p:Pt M5 h m f) (H:B0z f n=some o):∀ L,FnW prog 191 [m,.int .i64 n] h L (.int .i64 o):=by
 intro L
 refine J2.enter func191 z z z<|Sr<|An z<|Sm z<|Mv z<|bE H λak A H=>To (O.cs (B0o p A _) λan ap=>An z<|Sg z<|An z<|Sq<|Sm z<|have D:=p; ?_)
 obtain ⟨aq,_,rfl,g,⟨ar,au,aw,rfl,q,i,ax⟩⟩:=D
 refine NL z Q4 D9 g.u z<|Vv (V.Q3 A9 z i)<|Mv z<|Nt ?_
 obtain ⟨E,G,I⟩:=J6 H
 have H:=G
 refine Bl<|T.lk [0,1,5,16,17] (FUEL,(0:Int),(0:Int),(0:Int)) (λ⟨c,d,b,a⟩=>([(18,qi d),(6,qi b),(7,qi a)],L,λhh=>iter (A2v f) c (d,b,a)=some E)) H ?_
 rintro ⟨c,d,b,a⟩ ay aA J
 obtain ⟨j,aB,rfl,H,e⟩:=G7 J
 refine T.norm [18,6,7,0,1,5,16,17] z<|T.fl ?_
 refine Sr<|Wl z z<|Nt<|Sq<|T.cH H z (λH=>?_) λH=>?_
 ·refine Ks<|Sq<|Bl<|Sm z<|bE H λaC r H=>?_
  obtain ⟨aD,K,rfl⟩:=G6.at i r
  refine Vv (V.ix A9 z z i (E8 r))<|Vv (V.R5 D7 z K.u z)<|Ag z<|An z<|Sm z<|Wl z z<|Nt<|T.cH H z (λH=>?_) λH=>?_
  ·refine Sm z<|bE H λs M H=>Vv (V.H5 z z M)<|An z<|Sm z<|NL z G8 I8 g.u z<|have N:=q; ?_
   obtain ⟨aE,_,rfl,P,⟨aG,aI,aJ,aK,aM,aN,aO,aP,aS,aU,aV,aW,aX,aY,rfl,aZ,t,a0,a1,a2,a3,a4,a5,a6,a7,a8,a9,ah,al⟩⟩:=N
   refine NF z M3<|Vv (V.fa A0N z)<|Vv (V.M8 (k:=1) N9 z P.u z)<|Mv z<|bE H λav w H=>?_
   obtain ⟨az,S,⟨ba,rfl,bb⟩⟩:=G6.at t w
   refine Vv (V.ix O7 z z t (E8 w))<|Vv (V.fa B7a z)<|Vv (V.M8 (k:=6) U6 z S.u z)<|Nt<|T.cH H z (λH=>?_) λH=>?_
   ·refine Rg<|Mv z<|bE H λU W H=>Vv (V.H5 z z W)<|Ag z<|Ni<|Bn<|Th<|Rg<|bE H λX Y H=>Vv (V.H5 z z Y)<|Mv z<|Nt<|T.ag (j,X,s,U) (D8 H e)
   refine T.skip<|Bn<|Th<|Rg<|bE H λZ aa H=>Vv (V.H5 z z aa)<|Mv z<|Nt<|T.ag (j,Z,s,a) (D8 H e)
  refine T.skip<|Bn<|Th<|Rg<|bE H λab ac H=>Vv (V.H5 z z ac)<|Mv z<|Nt<|T.ag (j,ab,b,a) (D8 H e)
 refine T.exit<|Te<|Te<|have H:=D6 H e; Be<|Th<|have H:=I4 H I; Sq<|Sm z<|NL z G8 I8 g.u z<|have ad:=q; ?_
 obtain ⟨bc,_,rfl,ae,⟨bd,be,bf,bg,bi,bj,bk,bm,bn,bo,bp,bq,br,bs,rfl,bt,bu,bw,bx,x,bA,bB,bC,bD,bG,bI,bJ,bK,bM⟩⟩:=ad
 refine NF z M3<|Vv (V.fa A3i z)<|Vv (V.M8 (k:=4) A1k z ae.u z)<|Mv z<|bE H λbN y H=>?_
 obtain ⟨bO,af,rfl⟩:=G6.at x y
 refine Vv (V.ix Z6 z z x (E8 y))<|Vv (V.fa A2t z)<|Vv (V.M8 (k:=0) A5G z af.u z)<|Nt<|Bl<|Sr<|We z z<|An z<|T.cH H z (λH=>?_) λH=>?_
 ·exact Rg<|Mv z<|Mv z<|bE H λbP ai H=>Vv (V.Z4 z z ai)<|Ag z<|Ni<|Bn<|Th<|Sm z<|Vv (V.max2 z z)<|Ag z<|Nr<|E1 H
 refine Sr<|We z z<|An z<|T.cH H z (λH=>?_) λH=>?_
 ·exact Rg<|Mv z<|Mv z<|bE H λbS aj H=>Vv (V.Z4 z z aj)<|Ag z<|Ni<|Bn<|Th<|Sm z<|Vv (V.max2 z z)<|Ag z<|Nr<|E1 H
 refine Sr<|We z z<|An z<|T.cH H z (λH=>?_) λH=>?_
 ·refine Sm z<|Wg z z<|Nt<|T.cH H z (λH=>?_) λH=>?_
  ·exact Rg<|Ag z<|Ni<|Bn<|Th<|Sm z<|Vv (V.max2 z z)<|Ag z<|Nr<|E1 H
  exact T.skip<|Bn<|Th<|Sm z<|Vv (V.max2 z z)<|Ag z<|Nr<|E1 H
 exact T.skip<|Bn<|Th<|Sm z<|Vv (V.max2 z z)<|Ag z<|Nr<|E1 H
theorem B5T {h a} (H:B0v  = some a):∀ L,J2 prog 42 [] h (L) (λv h' L'=>L'=L∧Mp (Value.int .u8) true K9 h' v a):=by
 intro L
 refine J2.enter func42 z z z<|Sr<|An z<|Sr<|To (O.mkM z λab=>have x:X8 (Value.int .u8) true K9 h 0 ([]:List MapEntry) ([]:List (Int×H7)):=trivial; Vv (V.bld (xs:=[(0,.const (.string ⟨#[97,112,97,114,116]⟩)),(1,.const (.int .u8 (103))),(2,.const (.bool true)),(4,.const (.bool true)),(7,.func 86)]) (cs:=[_,_,_,_,_,_,_,_]) V3 V4 z (F6.cons z z z (F6.cons z z z (F6.cons z z z (F6.cons z z z (F6.cons z z z F6.nil))))))<|bE H λac y H=>To (O.A9O (agg:=true) (E:=K9) (cs:=[.string (⟨#[97,112,97,114,116]⟩:ByteArray),.int .u8 103,.bool true,.int .u8 0,.bool true,qi 0,.bool false,(fnV (87:Nat))]) underlying98 (A0z.int underlying41) z z z (j:=0) z x (show K9 h [.string (⟨#[97,112,97,114,116]⟩:ByteArray),.int .u8 103,.bool true,.int .u8 0,.bool true,qi 0,.bool false,(fnV (87:Nat))] (H7.mk (⟨#[97,112,97,114,116]⟩:ByteArray) (103:Int) true (0:Int) true (0:Int) false (87:Nat)) from z) _ (.inr z) λad b=>?_))
 rw [Option.some.inj y] at b
 refine Vv (V.bld (xs:=[(0,.const (.string ⟨#[98,101,115,105,100,101]⟩)),(1,.const (.int .u8 (103))),(2,.const (.bool true)),(7,.func 87)]) (cs:=[_,_,_,_,_,_,_,_]) V3 V4 z (F6.cons z z z (F6.cons z z z (F6.cons z z z (F6.cons z z z F6.nil)))))<|bE H λae A H=>To (O.A9O (agg:=true) (E:=K9) (cs:=[.string (⟨#[98,101,115,105,100,101]⟩:ByteArray),.int .u8 103,.bool true,.int .u8 0,.bool false,qi 0,.bool false,(fnV (88:Nat))]) underlying98 (A0z.int underlying41) z z z (j:=0) z b (show K9 h [.string (⟨#[98,101,115,105,100,101]⟩:ByteArray),.int .u8 103,.bool true,.int .u8 0,.bool false,qi 0,.bool false,(fnV (88:Nat))] (H7.mk (⟨#[98,101,115,105,100,101]⟩:ByteArray) (103:Int) true (0:Int) false (0:Int) false (88:Nat)) from z) _ (.inr z) λaf c=>?_)
 rw [Option.some.inj A] at c
 refine Vv (V.bld (xs:=[(0,.const (.string ⟨#[97,99,114,111,115,115]⟩)),(1,.const (.int .u8 (103))),(2,.const (.bool true)),(7,.func 88)]) (cs:=[_,_,_,_,_,_,_,_]) V3 V4 z (F6.cons z z z (F6.cons z z z (F6.cons z z z (F6.cons z z z F6.nil)))))<|bE H λag B H=>To (O.A9O (agg:=true) (E:=K9) (cs:=[.string (⟨#[97,99,114,111,115,115]⟩:ByteArray),.int .u8 103,.bool true,.int .u8 0,.bool false,qi 0,.bool false,(fnV (89:Nat))]) underlying98 (A0z.int underlying41) z z z (j:=0) z c (show K9 h [.string (⟨#[97,99,114,111,115,115]⟩:ByteArray),.int .u8 103,.bool true,.int .u8 0,.bool false,qi 0,.bool false,(fnV (89:Nat))] (H7.mk (⟨#[97,99,114,111,115,115]⟩:ByteArray) (103:Int) true (0:Int) false (0:Int) false (89:Nat)) from z) _ (.inr z) λai d=>?_)
 rw [Option.some.inj B] at d
 refine Vv (V.bld (xs:=[(0,.const (.string ⟨#[110,101,97,114]⟩)),(1,.const (.int .u8 (103))),(2,.const (.bool true)),(4,.const (.bool true)),(5,.const (qi (1))),(7,.func 89)]) (cs:=[_,_,_,_,_,_,_,_]) V3 V4 z (F6.cons z z z (F6.cons z z z (F6.cons z z z (F6.cons z z z (F6.cons z z z (F6.cons z z z F6.nil)))))))<|bE H λaj C H=>To (O.A9O (agg:=true) (E:=K9) (cs:=[.string (⟨#[110,101,97,114]⟩:ByteArray),.int .u8 103,.bool true,.int .u8 0,.bool true,qi 1,.bool false,(fnV (90:Nat))]) underlying98 (A0z.int underlying41) z z z (j:=0) z d (show K9 h [.string (⟨#[110,101,97,114]⟩:ByteArray),.int .u8 103,.bool true,.int .u8 0,.bool true,qi 1,.bool false,(fnV (90:Nat))] (H7.mk (⟨#[110,101,97,114]⟩:ByteArray) (103:Int) true (0:Int) true (1:Int) false (90:Nat)) from z) _ (.inr z) λak e=>?_)
 rw [Option.some.inj C] at e
 refine Vv (V.bld (xs:=[(0,.const (.string ⟨#[116,111,103,101,116,104,101,114]⟩)),(1,.const (.int .u8 (103))),(2,.const (.bool true)),(7,.func 90)]) (cs:=[_,_,_,_,_,_,_,_]) V3 V4 z (F6.cons z z z (F6.cons z z z (F6.cons z z z (F6.cons z z z F6.nil)))))<|bE H λam D H=>To (O.A9O (agg:=true) (E:=K9) (cs:=[.string (⟨#[116,111,103,101,116,104,101,114]⟩:ByteArray),.int .u8 103,.bool true,.int .u8 0,.bool false,qi 0,.bool false,(fnV (91:Nat))]) underlying98 (A0z.int underlying41) z z z (j:=0) z e (show K9 h [.string (⟨#[116,111,103,101,116,104,101,114]⟩:ByteArray),.int .u8 103,.bool true,.int .u8 0,.bool false,qi 0,.bool false,(fnV (91:Nat))] (H7.mk (⟨#[116,111,103,101,116,104,101,114]⟩:ByteArray) (103:Int) true (0:Int) false (0:Int) false (91:Nat)) from z) _ (.inr z) λan f=>?_)
 rw [Option.some.inj D] at f
 refine Vv (V.bld (xs:=[(0,.const (.string ⟨#[97,116]⟩)),(1,.const (.int .u8 (103))),(3,.const (.int .u8 (116))),(7,.func 91)]) (cs:=[_,_,_,_,_,_,_,_]) V3 V4 z (F6.cons z z z (F6.cons z z z (F6.cons z z z (F6.cons z z z F6.nil)))))<|bE H λao G H=>To (O.A9O (agg:=true) (E:=K9) (cs:=[.string (⟨#[97,116]⟩:ByteArray),.int .u8 103,.bool false,.int .u8 116,.bool false,qi 0,.bool false,(fnV (92:Nat))]) underlying98 (A0z.int underlying41) z z z (j:=0) z f (show K9 h [.string (⟨#[97,116]⟩:ByteArray),.int .u8 103,.bool false,.int .u8 116,.bool false,qi 0,.bool false,(fnV (92:Nat))] (H7.mk (⟨#[97,116]⟩:ByteArray) (103:Int) false (116:Int) false (0:Int) false (92:Nat)) from z) _ (.inr z) λap g=>?_)
 rw [Option.some.inj G] at g
 refine Vv (V.bld (xs:=[(0,.const (.string ⟨#[115,101,97,116]⟩)),(1,.const (.int .u8 (103))),(3,.const (.int .u8 (116))),(4,.const (.bool true)),(6,.const (.bool true)),(7,.func 92)]) (cs:=[_,_,_,_,_,_,_,_]) V3 V4 z (F6.cons z z z (F6.cons z z z (F6.cons z z z (F6.cons z z z (F6.cons z z z (F6.cons z z z F6.nil)))))))<|bE H λaq I H=>To (O.A9O (agg:=true) (E:=K9) (cs:=[.string (⟨#[115,101,97,116]⟩:ByteArray),.int .u8 103,.bool false,.int .u8 116,.bool true,qi 0,.bool true,(fnV (93:Nat))]) underlying98 (A0z.int underlying41) z z z (j:=0) z g (show K9 h [.string (⟨#[115,101,97,116]⟩:ByteArray),.int .u8 103,.bool false,.int .u8 116,.bool true,qi 0,.bool true,(fnV (93:Nat))] (H7.mk (⟨#[115,101,97,116]⟩:ByteArray) (103:Int) false (116:Int) true (0:Int) true (93:Nat)) from z) _ (.inr z) λar i=>?_)
 rw [Option.some.inj I] at i
 refine Vv (V.bld (xs:=[(0,.const (.string ⟨#[97,108,116,101,114,110,97,116,101]⟩)),(3,.const (.int .u8 (101))),(7,.func 93)]) (cs:=[_,_,_,_,_,_,_,_]) V3 V4 z (F6.cons z z z (F6.cons z z z (F6.cons z z z F6.nil))))<|bE H λau J H=>To (O.A9O (agg:=true) (E:=K9) (cs:=[.string (⟨#[97,108,116,101,114,110,97,116,101]⟩:ByteArray),.int .u8 0,.bool false,.int .u8 101,.bool false,qi 0,.bool false,(fnV (94:Nat))]) underlying98 (A0z.int underlying41) z z z (j:=0) z i (show K9 h [.string (⟨#[97,108,116,101,114,110,97,116,101]⟩:ByteArray),.int .u8 0,.bool false,.int .u8 101,.bool false,qi 0,.bool false,(fnV (94:Nat))] (H7.mk (⟨#[97,108,116,101,114,110,97,116,101]⟩:ByteArray) (0:Int) false (101:Int) false (0:Int) false (94:Nat)) from z) _ (.inr z) λaw k=>?_)
 rw [Option.some.inj J] at k
 refine Vv (V.bld (xs:=[(0,.const (.string ⟨#[104,111,115,116]⟩)),(3,.const (.int .u8 (101))),(7,.func 94)]) (cs:=[_,_,_,_,_,_,_,_]) V3 V4 z (F6.cons z z z (F6.cons z z z (F6.cons z z z F6.nil))))<|bE H λax K H=>To (O.A9O (agg:=true) (E:=K9) (cs:=[.string (⟨#[104,111,115,116]⟩:ByteArray),.int .u8 0,.bool false,.int .u8 101,.bool false,qi 0,.bool false,(fnV (95:Nat))]) underlying98 (A0z.int underlying41) z z z (j:=0) z k (show K9 h [.string (⟨#[104,111,115,116]⟩:ByteArray),.int .u8 0,.bool false,.int .u8 101,.bool false,qi 0,.bool false,(fnV (95:Nat))] (H7.mk (⟨#[104,111,115,116]⟩:ByteArray) (0:Int) false (101:Int) false (0:Int) false (95:Nat)) from z) _ (.inr z) λay m=>?_)
 rw [Option.some.inj K] at m
 refine Vv (V.bld (xs:=[(0,.const (.string ⟨#[114,101,97,99,104]⟩)),(1,.const (.int .u8 (101))),(7,.func 95)]) (cs:=[_,_,_,_,_,_,_,_]) V3 V4 z (F6.cons z z z (F6.cons z z z (F6.cons z z z F6.nil))))<|bE H λaA M H=>To (O.A9O (agg:=true) (E:=K9) (cs:=[.string (⟨#[114,101,97,99,104]⟩:ByteArray),.int .u8 101,.bool false,.int .u8 0,.bool false,qi 0,.bool false,(fnV (96:Nat))]) underlying98 (A0z.int underlying41) z z z (j:=0) z m (show K9 h [.string (⟨#[114,101,97,99,104]⟩:ByteArray),.int .u8 101,.bool false,.int .u8 0,.bool false,qi 0,.bool false,(fnV (96:Nat))] (H7.mk (⟨#[114,101,97,99,104]⟩:ByteArray) (101:Int) false (0:Int) false (0:Int) false (96:Nat)) from z) _ (.inr z) λaB n=>?_)
 rw [Option.some.inj M] at n
 refine Vv (V.bld (xs:=[(0,.const (.string ⟨#[115,112,101,97,107]⟩)),(3,.const (.int .u8 (101))),(7,.func 96)]) (cs:=[_,_,_,_,_,_,_,_]) V3 V4 z (F6.cons z z z (F6.cons z z z (F6.cons z z z F6.nil))))<|bE H λaC N H=>To (O.A9O (agg:=true) (E:=K9) (cs:=[.string (⟨#[115,112,101,97,107]⟩:ByteArray),.int .u8 0,.bool false,.int .u8 101,.bool false,qi 0,.bool false,(fnV (97:Nat))]) underlying98 (A0z.int underlying41) z z z (j:=0) z n (show K9 h [.string (⟨#[115,112,101,97,107]⟩:ByteArray),.int .u8 0,.bool false,.int .u8 101,.bool false,qi 0,.bool false,(fnV (97:Nat))] (H7.mk (⟨#[115,112,101,97,107]⟩:ByteArray) (0:Int) false (101:Int) false (0:Int) false (97:Nat)) from z) _ (.inr z) λaD o=>?_)
 rw [Option.some.inj N] at o
 refine Vv (V.bld (xs:=[(0,.const (.string ⟨#[112,101,97,99,101]⟩)),(3,.const (.int .u8 (101))),(7,.func 97)]) (cs:=[_,_,_,_,_,_,_,_]) V3 V4 z (F6.cons z z z (F6.cons z z z (F6.cons z z z F6.nil))))<|bE H λaE P H=>To (O.A9O (agg:=true) (E:=K9) (cs:=[.string (⟨#[112,101,97,99,101]⟩:ByteArray),.int .u8 0,.bool false,.int .u8 101,.bool false,qi 0,.bool false,(fnV (98:Nat))]) underlying98 (A0z.int underlying41) z z z (j:=0) z o (show K9 h [.string (⟨#[112,101,97,99,101]⟩:ByteArray),.int .u8 0,.bool false,.int .u8 101,.bool false,qi 0,.bool false,(fnV (98:Nat))] (H7.mk (⟨#[112,101,97,99,101]⟩:ByteArray) (0:Int) false (101:Int) false (0:Int) false (98:Nat)) from z) _ (.inr z) λaG p=>?_)
 rw [Option.some.inj P] at p
 refine Vv (V.bld (xs:=[(0,.const (.string ⟨#[99,111,109,112,97,110,121]⟩)),(3,.const (.int .u8 (101))),(7,.func 98)]) (cs:=[_,_,_,_,_,_,_,_]) V3 V4 z (F6.cons z z z (F6.cons z z z (F6.cons z z z F6.nil))))<|bE H λaI S H=>To (O.A9O (agg:=true) (E:=K9) (cs:=[.string (⟨#[99,111,109,112,97,110,121]⟩:ByteArray),.int .u8 0,.bool false,.int .u8 101,.bool false,qi 0,.bool false,(fnV (99:Nat))]) underlying98 (A0z.int underlying41) z z z (j:=0) z p (show K9 h [.string (⟨#[99,111,109,112,97,110,121]⟩:ByteArray),.int .u8 0,.bool false,.int .u8 101,.bool false,qi 0,.bool false,(fnV (99:Nat))] (H7.mk (⟨#[99,111,109,112,97,110,121]⟩:ByteArray) (0:Int) false (101:Int) false (0:Int) false (99:Nat)) from z) _ (.inr z) λaJ q=>?_)
 rw [Option.some.inj S] at q
 refine Vv (V.bld (xs:=[(0,.const (.string ⟨#[104,111,110,111,117,114]⟩)),(3,.const (.int .u8 (101))),(7,.func 99)]) (cs:=[_,_,_,_,_,_,_,_]) V3 V4 z (F6.cons z z z (F6.cons z z z (F6.cons z z z F6.nil))))<|bE H λaK U H=>To (O.A9O (agg:=true) (E:=K9) (cs:=[.string (⟨#[104,111,110,111,117,114]⟩:ByteArray),.int .u8 0,.bool false,.int .u8 101,.bool false,qi 0,.bool false,(fnV (100:Nat))]) underlying98 (A0z.int underlying41) z z z (j:=0) z q (show K9 h [.string (⟨#[104,111,110,111,117,114]⟩:ByteArray),.int .u8 0,.bool false,.int .u8 101,.bool false,qi 0,.bool false,(fnV (100:Nat))] (H7.mk (⟨#[104,111,110,111,117,114]⟩:ByteArray) (0:Int) false (101:Int) false (0:Int) false (100:Nat)) from z) _ (.inr z) λaM r=>?_)
 rw [Option.some.inj U] at r
 refine Vv (V.bld (xs:=[(0,.const (.string ⟨#[102,105,108,108]⟩)),(3,.const (.int .u8 (101))),(4,.const (.bool true)),(7,.func 100)]) (cs:=[_,_,_,_,_,_,_,_]) V3 V4 z (F6.cons z z z (F6.cons z z z (F6.cons z z z (F6.cons z z z F6.nil)))))<|bE H λaN W H=>To (O.A9O (agg:=true) (E:=K9) (cs:=[.string (⟨#[102,105,108,108]⟩:ByteArray),.int .u8 0,.bool false,.int .u8 101,.bool true,qi 0,.bool false,(fnV (101:Nat))]) underlying98 (A0z.int underlying41) z z z (j:=0) z r (show K9 h [.string (⟨#[102,105,108,108]⟩:ByteArray),.int .u8 0,.bool false,.int .u8 101,.bool true,qi 0,.bool false,(fnV (101:Nat))] (H7.mk (⟨#[102,105,108,108]⟩:ByteArray) (0:Int) false (101:Int) true (0:Int) false (101:Nat)) from z) _ (.inr z) λaO s=>?_)
 rw [Option.some.inj W] at s
 refine Vv (V.bld (xs:=[(0,.const (.string ⟨#[108,105,109,105,116]⟩)),(3,.const (.int .u8 (101))),(4,.const (.bool true)),(7,.func 101)]) (cs:=[_,_,_,_,_,_,_,_]) V3 V4 z (F6.cons z z z (F6.cons z z z (F6.cons z z z (F6.cons z z z F6.nil)))))<|bE H λaP X H=>To (O.A9O (agg:=true) (E:=K9) (cs:=[.string (⟨#[108,105,109,105,116]⟩:ByteArray),.int .u8 0,.bool false,.int .u8 101,.bool true,qi 0,.bool false,(fnV (102:Nat))]) underlying98 (A0z.int underlying41) z z z (j:=0) z s (show K9 h [.string (⟨#[108,105,109,105,116]⟩:ByteArray),.int .u8 0,.bool false,.int .u8 101,.bool true,qi 0,.bool false,(fnV (102:Nat))] (H7.mk (⟨#[108,105,109,105,116]⟩:ByteArray) (0:Int) false (101:Int) true (0:Int) false (102:Nat)) from z) _ (.inr z) λaS t=>?_)
 rw [Option.some.inj X] at t
 refine Vv (V.bld (xs:=[(0,.const (.string ⟨#[107,105,116,99,104,101,110]⟩)),(1,.const (.int .u8 (100))),(3,.const (.int .u8 (116))),(7,.func 102)]) (cs:=[_,_,_,_,_,_,_,_]) V3 V4 z (F6.cons z z z (F6.cons z z z (F6.cons z z z (F6.cons z z z F6.nil)))))<|bE H λaU Y H=>To (O.A9O (agg:=true) (E:=K9) (cs:=[.string (⟨#[107,105,116,99,104,101,110]⟩:ByteArray),.int .u8 100,.bool false,.int .u8 116,.bool false,qi 0,.bool false,(fnV (103:Nat))]) underlying98 (A0z.int underlying41) z z z (j:=0) z t (show K9 h [.string (⟨#[107,105,116,99,104,101,110]⟩:ByteArray),.int .u8 100,.bool false,.int .u8 116,.bool false,qi 0,.bool false,(fnV (103:Nat))] (H7.mk (⟨#[107,105,116,99,104,101,110]⟩:ByteArray) (100:Int) false (116:Int) false (0:Int) false (103:Nat)) from z) _ (.inr z) λaV u=>?_)
 rw [Option.some.inj Y] at u
 refine Vv (V.bld (xs:=[(0,.const (.string ⟨#[109,105,120]⟩)),(3,.const (.int .u8 (101))),(7,.func 103)]) (cs:=[_,_,_,_,_,_,_,_]) V3 V4 z (F6.cons z z z (F6.cons z z z (F6.cons z z z F6.nil))))<|bE H λaW Z H=>To (O.A9O (agg:=true) (E:=K9) (cs:=[.string (⟨#[109,105,120]⟩:ByteArray),.int .u8 0,.bool false,.int .u8 101,.bool false,qi 0,.bool false,(fnV (104:Nat))]) underlying98 (A0z.int underlying41) z z z (j:=0) z u (show K9 h [.string (⟨#[109,105,120]⟩:ByteArray),.int .u8 0,.bool false,.int .u8 101,.bool false,qi 0,.bool false,(fnV (104:Nat))] (H7.mk (⟨#[109,105,120]⟩:ByteArray) (0:Int) false (101:Int) false (0:Int) false (104:Nat)) from z) _ (.inr z) λaX w=>?_)
 rw [Option.some.inj Z] at w
 refine Mv z<|Ag z<|Nr<|T.C6h K9.mono w λaY aZ aa=>?_
 cases H
 exact T.rl z (Rv z) ⟨z,aa⟩
theorem C2j {h c d e f g} (i:K9 h c d) (j:I5 h e f) (H:A0A d f=some g):∀ L,FnW prog 139 [.agg c.toArray,.agg e.toArray] h L (.bool g):=by
 intro L
 obtain rfl:=i
 obtain rfl:=j
 refine J2.enter func139 z z z<|Sr<|To (O.U4 z z z λm n o a=>To (O.U4 z z z λp q r b=>An z<|Sr<|Vv (V.fa A7U z)<|Vv (V.M8 (k:=1) A3V z a.u z)<|Wn z z<|Mv z<|T.bH 8 H z (λH=>?_) λH=>?_))
 ·refine S2<|Sk<|Kt z<|Mv z<|Vv (V.fa A3T z)<|Vv (V.M8 (k:=2) U6 z a.u z)<|Mv z<|T.bH 16 H z (λH=>?_) λH=>?_
  ·refine S2<|Sk<|Kt z<|Kt z<|Mv z<|Vv (V.fa A2z z)<|Vv (V.M8 (k:=3) A3V z a.u z)<|Wn z z<|Mv z<|T.bH 26 H z (λH=>?_) λH=>?_
   ·refine S2<|Sk<|Kt z<|Kt z<|Mv z<|Vv (V.fa A0Y z)<|Vv (V.M8 (k:=4) U6 z a.u z)<|Mv z<|T.bH 35 H z (λH=>?_) λH=>?_
    ·exact S2<|Sk<|Kt z<|Kt z<|Ag z<|Nr<|E1 H
    exact Vv (V.fa U5 z)<|Vv (V.M8 (k:=5) D7 z b z)<|We z z<|Kf z<|Kt z<|Ag z<|Nr<|E1 H
   refine Vv (V.fa V8 z)<|Vv (V.M8 (k:=4) J5 z b z)<|Vv (V.seq z z)<|Kf z<|Kt z<|Mv z<|T.bH 32 H z (λH=>?_) λH=>?_
   ·refine Vv (V.fa A0Y z)<|Vv (V.M8 (k:=4) U6 z a.u z)<|Mv z<|T.bH 35 H z (λH=>?_) λH=>?_
    ·exact S2<|Sk<|Kt z<|Kt z<|Ag z<|Nr<|E1 H
    exact Vv (V.fa U5 z)<|Vv (V.M8 (k:=5) D7 z b z)<|We z z<|Kf z<|Kt z<|Ag z<|Nr<|E1 H
   exact S2<|S2<|S2<|Sk<|Kf z<|Ag z<|Nr<|E1 H
  refine Vv (V.fa A4f z)<|Vv (V.M8 (k:=3) J5 z b z)<|Vv (V.seq z z)<|Kf z<|Kt z<|Mv z<|T.bH 22 H z (λH=>?_) λH=>?_
  ·refine Vv (V.fa A2z z)<|Vv (V.M8 (k:=3) A3V z a.u z)<|Wn z z<|Mv z<|T.bH 26 H z (λH=>?_) λH=>?_
   ·refine S2<|Sk<|Kt z<|Kt z<|Mv z<|Vv (V.fa A0Y z)<|Vv (V.M8 (k:=4) U6 z a.u z)<|Mv z<|T.bH 35 H z (λH=>?_) λH=>?_
    ·exact S2<|Sk<|Kt z<|Kt z<|Ag z<|Nr<|E1 H
    exact Vv (V.fa U5 z)<|Vv (V.M8 (k:=5) D7 z b z)<|We z z<|Kf z<|Kt z<|Ag z<|Nr<|E1 H
   refine Vv (V.fa V8 z)<|Vv (V.M8 (k:=4) J5 z b z)<|Vv (V.seq z z)<|Kf z<|Kt z<|Mv z<|T.bH 32 H z (λH=>?_) λH=>?_
   ·refine Vv (V.fa A0Y z)<|Vv (V.M8 (k:=4) U6 z a.u z)<|Mv z<|T.bH 35 H z (λH=>?_) λH=>?_
    ·exact S2<|Sk<|Kt z<|Kt z<|Ag z<|Nr<|E1 H
    exact Vv (V.fa U5 z)<|Vv (V.M8 (k:=5) D7 z b z)<|We z z<|Kf z<|Kt z<|Ag z<|Nr<|E1 H
   exact S2<|S2<|S2<|Sk<|Kf z<|Ag z<|Nr<|E1 H
  exact S2<|S2<|S2<|S2<|Kf z<|Mv z<|S2<|S2<|S2<|Sk<|Kf z<|Ag z<|Nr<|E1 H
 refine Vv (V.fa A0b z)<|Vv (V.M8 (k:=2) J5 z b z)<|Vv (V.seq z z)<|Kf z<|Mv z<|T.bH 13 H z (λH=>?_) λH=>?_
 ·refine Vv (V.fa A3T z)<|Vv (V.M8 (k:=2) U6 z a.u z)<|Mv z<|T.bH 16 H z (λH=>?_) λH=>?_
  ·refine S2<|Sk<|Kt z<|Kt z<|Mv z<|Vv (V.fa A2z z)<|Vv (V.M8 (k:=3) A3V z a.u z)<|Wn z z<|Mv z<|T.bH 26 H z (λH=>?_) λH=>?_
   ·refine S2<|Sk<|Kt z<|Kt z<|Mv z<|Vv (V.fa A0Y z)<|Vv (V.M8 (k:=4) U6 z a.u z)<|Mv z<|T.bH 35 H z (λH=>?_) λH=>?_
    ·exact S2<|Sk<|Kt z<|Kt z<|Ag z<|Nr<|E1 H
    exact Vv (V.fa U5 z)<|Vv (V.M8 (k:=5) D7 z b z)<|We z z<|Kf z<|Kt z<|Ag z<|Nr<|E1 H
   refine Vv (V.fa V8 z)<|Vv (V.M8 (k:=4) J5 z b z)<|Vv (V.seq z z)<|Kf z<|Kt z<|Mv z<|T.bH 32 H z (λH=>?_) λH=>?_
   ·refine Vv (V.fa A0Y z)<|Vv (V.M8 (k:=4) U6 z a.u z)<|Mv z<|T.bH 35 H z (λH=>?_) λH=>?_
    ·exact S2<|Sk<|Kt z<|Kt z<|Ag z<|Nr<|E1 H
    exact Vv (V.fa U5 z)<|Vv (V.M8 (k:=5) D7 z b z)<|We z z<|Kf z<|Kt z<|Ag z<|Nr<|E1 H
   exact S2<|S2<|S2<|Sk<|Kf z<|Ag z<|Nr<|E1 H
  refine Vv (V.fa A4f z)<|Vv (V.M8 (k:=3) J5 z b z)<|Vv (V.seq z z)<|Kf z<|Kt z<|Mv z<|T.bH 22 H z (λH=>?_) λH=>?_
  ·refine Vv (V.fa A2z z)<|Vv (V.M8 (k:=3) A3V z a.u z)<|Wn z z<|Mv z<|T.bH 26 H z (λH=>?_) λH=>?_
   ·refine S2<|Sk<|Kt z<|Kt z<|Mv z<|Vv (V.fa A0Y z)<|Vv (V.M8 (k:=4) U6 z a.u z)<|Mv z<|T.bH 35 H z (λH=>?_) λH=>?_
    ·exact S2<|Sk<|Kt z<|Kt z<|Ag z<|Nr<|E1 H
    exact Vv (V.fa U5 z)<|Vv (V.M8 (k:=5) D7 z b z)<|We z z<|Kf z<|Kt z<|Ag z<|Nr<|E1 H
   refine Vv (V.fa V8 z)<|Vv (V.M8 (k:=4) J5 z b z)<|Vv (V.seq z z)<|Kf z<|Kt z<|Mv z<|T.bH 32 H z (λH=>?_) λH=>?_
   ·refine Vv (V.fa A0Y z)<|Vv (V.M8 (k:=4) U6 z a.u z)<|Mv z<|T.bH 35 H z (λH=>?_) λH=>?_
    ·exact S2<|Sk<|Kt z<|Kt z<|Ag z<|Nr<|E1 H
    exact Vv (V.fa U5 z)<|Vv (V.M8 (k:=5) D7 z b z)<|We z z<|Kf z<|Kt z<|Ag z<|Nr<|E1 H
   exact S2<|S2<|S2<|Sk<|Kf z<|Ag z<|Nr<|E1 H
  exact S2<|S2<|S2<|S2<|Kf z<|Mv z<|S2<|S2<|S2<|Sk<|Kf z<|Ag z<|Nr<|E1 H
 exact S2<|S2<|S2<|Sk<|Kf z<|Mv z<|S2<|S2<|S2<|S2<|Kf z<|Mv z<|S2<|S2<|S2<|Sk<|Kf z<|Ag z<|Nr<|E1 H
theorem C1Z {h C d D E G c I} (N:K9 h C d) (P:N8 h D E) (S:I5 h G c) (H:A1P d E c=some I):∀ L,FnW prog 78 [.agg C.toArray,.agg D.toArray,.agg G.toArray] h L (.int .i64 I):=by
 intro L
 obtain rfl:=N
 obtain ⟨i,j,m,n,o,rfl,e,p,q,r,s⟩:=P
 obtain rfl:=S
 refine J2.enter func78 z z z<|Sr<|To (O.U4 z z z λbm bn bo b=>To (O.U4 z z z λbp bq br f=>To (O.U4 z z z λbs bt bu a=>An z<|Sq<|Bl<|Sr<|Vv (V.fa C2G z)<|Vv (V.M8 (k:=0) J5 z b.u z)<|Vv (V.seq z z)<|An z<|T.cH H z (λH=>?_) λH=>?_)))
 ·exact Sg z<|Nr<|Br<|Tr<|E1 H
 refine Sq ?_
 obtain ⟨U,W,X⟩:=J6 H
 refine T.ck (α:=Bool) [3,4,5] (λt=>([(14,.bool t)],L,λhh=>U=t)) ?_ ?_
 ·have H:=W
  refine Rg<|Vv (V.fa A4n z)<|Vv (V.M8 (k:=1) D7 z a z)<|Wl z z<|Mv z<|T.bH 18 H z (λH=>?_) λH=>?_
  ·refine S2<|Sk<|Kt z<|An z<|T.mt true (M0 H)
  refine Vv (V.fa A4n z)<|Vv (V.M8 (k:=1) D7 z a z)<|Wg z z<|Kf z<|An z<|T.mt (decide ((1000:Int)<c.K8)) (M0 H)
 rintro t J bw Y
 have H:=I4 Y X
 refine T.norm [14,3,4,5] z<|T.fl ?_
 refine T.cH H z (λH=>?_) λH=>?_
 ·exact Sg z<|Nr<|Br<|Tr<|E1 H
 refine Sr<|Vv (V.ldS z b.u (by exact C5w)) ?_
 refine Vv (V.ldS z a.u (by exact K6)) ?_
 refine bE H λbx Z H=>To (O.cs (C2j (show K9 J [.string d.A7s,.int .u8 d.fa,.bool d.fb,.int .u8 d.ft,.bool d.fn,qi d.flo,.bool d.A6l,(fnV d.C5T)] d from z) (show I5 J [.int .u8 c.F9,qi c.K8,.string c.fA,.string c.fB,.string c.I7,qi c.fN] c from z) Z _) λbB bD=>Vv (V.not z)<|An z<|T.cH H z (λH=>?_) λH=>?_)
 ·exact Sg z<|Nr<|Br<|Tr<|E1 H
 refine Sq<|Sq ?_
 obtain ⟨ac,ad,ae⟩:=J6 H
 refine T.ck (α:=Bool) [3,4,5] (λg=>([(28,.bool g)],L,λhh=>ac=g)) ?_ ?_
 ·have H:=ad
  refine Rg<|Vv (V.fa A7U z)<|Vv (V.M8 (k:=1) A3V z b.u z)<|We z z<|Mv z<|T.bH 32 H z (λH=>?_) λH=>?_
  ·refine Vv (V.ldS z f.u (by exact J9)) ?_
   refine Vv (V.fa A0b z)<|Vv (V.M8 (k:=2) J5 z a.u z)<|bE H λaf ag H=>To (O.G5 z (A2n ⟨i,j,m,n,o,z,e.u,p.u,q.u,r.u,s.u⟩ ag _) z λbG bI bJ bK ai=>?_)
   obtain ⟨rfl,aj⟩:=ai
   refine P8 _ aj<|Wl z z<|Kt z<|An z<|T.mt (decide (af<(0:Int))) (M0 H)
  refine S2<|S2<|Sk<|Kf z<|An z<|T.mt false (M0 H)
 rintro g bM bN ak
 have H:=I4 ak ae
 refine T.norm [28,3,4,5] z<|T.fl ?_
 obtain ⟨am,an,ao⟩:=J6 H
 refine T.ck (α:=Bool) [3,4,5] (λw=>([(28,.bool w)],L,λhh=>am=w)) ?_ ?_
 ·have H:=an
  refine T.cH H z (λH=>?_) λH=>?_
  ·refine Ks<|T.mt g (M0 H)
  refine Sr<|Vv (V.fa A7U z)<|Vv (V.M8 (k:=1) A3V z b.u z)<|We z z<|Mv z<|T.bH 42 H z (λH=>?_) λH=>?_
  ·refine Vv (V.fa A0b z)<|Vv (V.M8 (k:=2) J5 z a.u z)<|Vv (V.sne z z)<|Kt z<|Mv z<|T.bH 47 H z (λH=>?_) λH=>?_
   ·refine Vv (V.ldS z f.u (by exact J9)) ?_
    refine Vv (V.fa A0b z)<|Vv (V.M8 (k:=2) J5 z a.u z)<|bE H λap aq H=>To (O.cs (A2n ⟨i,j,m,n,o,z,e.u,p.u,q.u,r.u,s.u⟩ aq _) λbP bU=>Wl z z<|Kt z<|An z<|T.cH H z (λH=>?_) λH=>?_)
    ·refine Ks<|T.mt (decide (ap<(0:Int))) (M0 H)
    refine Rg<|Vv (V.fa A3T z)<|Vv (V.M8 (k:=2) U6 z b.u z)<|Mv z<|T.bH 56 H z (λH=>?_) λH=>?_
    ·refine Vv (V.ldS z f.u (by exact J9)) ?_
     refine Vv (V.fa A4f z)<|Vv (V.M8 (k:=3) J5 z a.u z)<|bE H λaw ax H=>To (O.G5 z (A2n ⟨i,j,m,n,o,z,e.u,p.u,q.u,r.u,s.u⟩ ax _) z λbV bW bX bY ay=>?_)
     obtain ⟨rfl,aA⟩:=ay
     refine P8 _ aA<|Wl z z<|Kt z<|An z<|T.mt (decide (aw<(0:Int))) (M0 H)
    refine S2<|S2<|Sk<|Kf z<|An z<|T.mt false (M0 H)
   refine S2<|S2<|Sk<|Kf z<|An z<|Cf z<|Rg<|Vv (V.fa A3T z)<|Vv (V.M8 (k:=2) U6 z b.u z)<|Mv z<|T.bH 56 H z (λH=>?_) λH=>?_
   ·refine Vv (V.ldS z f.u (by exact J9)) ?_
    refine Vv (V.fa A4f z)<|Vv (V.M8 (k:=3) J5 z a.u z)<|bE H λaB aC H=>To (O.G5 z (A2n ⟨i,j,m,n,o,z,e.u,p.u,q.u,r.u,s.u⟩ aC _) z λbZ b0 b1 b2 aD=>?_)
    obtain ⟨rfl,aE⟩:=aD
    refine P8 _ aE<|Wl z z<|Kt z<|An z<|T.mt (decide (aB<(0:Int))) (M0 H)
   refine S2<|S2<|Sk<|Kf z<|An z<|T.mt false (M0 H)
  refine S2<|Sk<|Kf z<|Mv z<|S2<|S2<|Sk<|Kf z<|An z<|Cf z<|Rg<|Vv (V.fa A3T z)<|Vv (V.M8 (k:=2) U6 z b.u z)<|Mv z<|T.bH 56 H z (λH=>?_) λH=>?_
  ·refine Vv (V.ldS z f.u (by exact J9)) ?_
   refine Vv (V.fa A4f z)<|Vv (V.M8 (k:=3) J5 z a.u z)<|bE H λaG aI H=>To (O.G5 z (A2n ⟨i,j,m,n,o,z,e.u,p.u,q.u,r.u,s.u⟩ aI _) z λb3 b4 b5 b6 aJ=>?_)
   obtain ⟨rfl,aK⟩:=aJ
   refine P8 _ aK<|Wl z z<|Kt z<|An z<|T.mt (decide (aG<(0:Int))) (M0 H)
  refine S2<|S2<|Sk<|Kf z<|An z<|T.mt false (M0 H)
 rintro w b7 b8 aM
 have H:=I4 aM ao
 refine T.norm [28,3,4,5] z<|T.fl ?_
 refine T.cH H z (λH=>?_) λH=>?_
 ·exact Sg z<|Nr<|Br<|Tr<|E1 H
 refine Sq ?_
 obtain ⟨aN,aO,aP⟩:=J6 H
 refine T.ck (α:=Bool) [3,4,5] (λx=>([(63,.bool x)],L,λhh=>aN=x)) ?_ ?_
 ·have H:=aO
  refine Rg<|Vv (V.fa A7U z)<|Vv (V.M8 (k:=1) A3V z b.u z)<|We z z<|Mv z<|T.bH 67 H z (λH=>?_) λH=>?_
  ·refine Vv (V.fa A0b z)<|Vv (V.M8 (k:=2) J5 z a.u z)<|bE H λaS aU H=>To (O.G5 z (C3Z aU _) z λb9 bh bl bv aV=>?_)
   obtain ⟨rfl,aW⟩:=aV
   refine P8 _ aW<|Vv (V.not z)<|Kt z<|An z<|T.mt (!aS) (M0 H)
  refine S2<|S2<|Kf z<|An z<|T.mt false (M0 H)
 rintro x bz ca aX
 have H:=I4 aX aP
 refine T.norm [63,3,4,5] z<|T.fl ?_
 refine T.cH H z (λH=>?_) λH=>?_
 ·exact Sg z<|Nr<|Br<|Tr<|E1 H
 refine Sq ?_
 obtain ⟨aY,aZ,a0⟩:=J6 H
 refine T.ck (α:=Bool) [3,4,5] (λy=>([(73,.bool y)],L,λhh=>aY=y)) ?_ ?_
 ·have H:=aZ
  refine Rg<|Vv (V.fa A3T z)<|Vv (V.M8 (k:=2) U6 z b.u z)<|Mv z<|T.bH 76 H z (λH=>?_) λH=>?_
  ·refine Vv (V.fa A0b z)<|Vv (V.M8 (k:=2) J5 z a.u z)<|Vv (V.fa A4f z)<|Vv (V.M8 (k:=3) J5 z a.u z)<|Vv (V.seq z z)<|Kt z<|An z<|T.mt (decide (c.fA=c.fB)) (M0 H)
  refine S2<|S2<|Sk<|Kf z<|An z<|T.mt false (M0 H)
 rintro y cb cc a1
 have H:=I4 a1 a0
 refine T.norm [73,3,4,5] z<|T.fl ?_
 refine T.cH H z (λH=>?_) λH=>?_
 ·exact Sg z<|Nr<|Br<|Tr<|E1 H
 refine T.skip<|Bn<|Th<|Sr<|Vv (V.fa M6 z)<|Vv (V.M8 (k:=0) Q0 z f.u z)<|Vv (V.fa V8 z)<|Vv (V.M8 (k:=4) J5 z a.u z)<|bE H λ⟨cd,K⟩ a2 H=>To (O.cs (C4s e.u a2 _) λcf ci=>Mv z<|Wx z z<|Wx z z<|Ag z<|An z<|Sq<|Sq ?_)
 obtain ⟨a5,a6,a7⟩:=J6 H
 refine T.ck (α:=Bool) [3,4,5,7] (λA=>([(111,.bool A)],L,λhh=>a5=A)) ?_ ?_
 ·have H:=a6
  refine Rg<|Vv (V.fa A2z z)<|Vv (V.M8 (k:=3) A3V z b.u z)<|We z z<|Mv z<|T.bH 94 H z (λH=>?_) λH=>?_
  ·refine Mv z<|Vv (V.not z)<|Kt z<|Mv z<|T.bH 98 H z (λH=>?_) λH=>?_
   ·refine S2<|S2<|S2<|S2<|S2<|S2<|Kt z<|Nt<|T.mt true (M0 H)
   refine Vv (V.fa A2z z)<|Vv (V.M8 (k:=3) A3V z b.u z)<|We z z<|Mv z<|T.bH 102 H z (λH=>?_) λH=>?_
   ·refine Vv (V.fa V8 z)<|Vv (V.M8 (k:=4) J5 z a.u z)<|Vv (V.sne z z)<|Kt z<|Mv z<|T.bH 107 H z (λH=>?_) λH=>?_
    ·refine Mv z<|Vv (V.not z)<|Kt z<|Kf z<|Nt<|T.mt (!K) (M0 H)
    refine S2<|Kf z<|Kf z<|Nt<|T.mt false (M0 H)
   refine S2<|Sk<|Kf z<|Mv z<|S2<|Kf z<|Kf z<|Nt<|T.mt false (M0 H)
  refine S2<|Kf z<|Mv z<|Vv (V.fa A2z z)<|Vv (V.M8 (k:=3) A3V z b.u z)<|We z z<|Mv z<|T.bH 102 H z (λH=>?_) λH=>?_
  ·refine Vv (V.fa V8 z)<|Vv (V.M8 (k:=4) J5 z a.u z)<|Vv (V.sne z z)<|Kt z<|Mv z<|T.bH 107 H z (λH=>?_) λH=>?_
   ·refine Mv z<|Vv (V.not z)<|Kt z<|Kf z<|Nt<|T.mt (!K) (M0 H)
   refine S2<|Kf z<|Kf z<|Nt<|T.mt false (M0 H)
  refine S2<|Sk<|Kf z<|Mv z<|S2<|Kf z<|Kf z<|Nt<|T.mt false (M0 H)
 rintro A a8 cj a9
 have H:=I4 a9 a7
 refine T.norm [111,3,4,5,7] z<|T.fl ?_
 refine T.cH H z (λH=>?_) λH=>?_
 ·exact Sg z<|Nr<|Tr<|E1 H
 refine Ks<|Sr<|An z<|Sq<|Sr<|Vv (V.fa C2k z)<|Vv (V.M8 (k:=6) U6 z b.u z)<|Nt ?_
 obtain ⟨ah,al,av⟩:=J6 H
 refine T.ck (α:=Int) [3,5] (λB=>([(9,qi B)],L,λhh=>ah=B)) ?_ ?_
 ·have H:=al
  refine T.cH H z (λH=>?_) λH=>?_
  ·refine Rg<|Vv (V.fa M6 z)<|Vv (V.M8 (k:=0) Q0 z f.u z)<|Mv z<|Mv z<|bE H λck az H=>Vv (V.H5 z z az)<|bE H λba M H=>T.slM z O5 z e.u (.inr ⟨_,_,z,z⟩) (.inr ⟨_,_,z,z⟩) (A3U M).2 z λbb bc cm=>?_
   have bd:G6 I6 7 a8 bb ba:=by rw [(A3U M).1]; exact bc
   refine bE H λcn be H=>To (O.G5 z (A8d bd be _) z λco cp cq cr bf=>?_)
   obtain ⟨rfl,bg⟩:=bf
   refine P8 _ bg<|bE H λbi bj H=>Vv (V.Z4 z z bj)<|An z<|T.mt bi (M0 H)
  refine Ks<|T.mt (24:Int) (M0 H)
 rintro B cs ct bk
 have H:=I4 bk av
 refine T.norm [9,3,5] z<|T.fl ?_
 refine Sq<|Sr<|Vv (V.fa A0Y z)<|Vv (V.M8 (k:=4) U6 z b.u z)<|Mv z<|T.bH 124 H z (λH=>?_) λH=>?_
 ·refine Vv (V.fa U5 z)<|Vv (V.M8 (k:=5) D7 z a.u z)<|Vv (V.fa C1W z)<|Vv (V.M8 (k:=5) D7 z b.u z)<|Wl z z<|Mv z<|T.bH 130 H z (λH=>?_) λH=>?_
  ·exact S2<|S2<|Kt z<|Kt z<|Nt<|Ct z<|Sg z<|Nr<|Tr<|E1 H
  refine Vv (V.fa U5 z)<|Vv (V.M8 (k:=5) D7 z a.u z)<|Mv z<|Wg z z<|Kf z<|Kt z<|Nt<|T.cH H z (λH=>?_) λH=>?_
  ·exact Sg z<|Nr<|Tr<|E1 H
  exact Ks<|Sg z<|Nr<|E1 H
 exact S2<|S2<|S2<|S2<|S2<|Sk<|Kf z<|Nt<|Cf z<|Ks<|Sg z<|Nr<|E1 H
theorem C2b {h n d o p} (w:N8 h n d) (H:B2D d=some (o,p)):∀ L,FnW prog 77 [.agg n.toArray] h L (.tuple #[.int .i64 o,.int .i64 p]):=by
 intro L
 obtain ⟨ac,x,y,ad,ae,rfl,q,i,r,e,af⟩:=w
 refine J2.enter func77 z z z<|Sr<|To (O.U4 z z z λai aj ak a=>Ag z<|An z<|Sq<|Sr<|Vv (V.fa M6 z)<|Vv (V.M8 (k:=0) Q0 z a z)<|bE H λ⟨am,an⟩ A H=>To (O.cs (B1Z q.u A _) λap ar=>Mv z<|Wx z z<|Wx z z<|Ag z<|An z<|Sm z<|Wn z z<|Nt<|T.cH H z (λH=>?_) λH=>?_))
 ·exact Sm z<|Mv z<|Ag z<|Ag z<|Nr<|Tr<|E1 H
 refine Ks<|Sq<|Sr<|Vv (V.fa U0 z)<|Vv (V.M8 (k:=1) N9 z a.u z)<|Vv (V.fa A9S z)<|Vv (V.M8 (k:=2) A1N z a.u z)<|Vv (V.bld (xs:=[(0,.tmp 22),(1,.tmp 24)]) (cs:=[_,_]) B8O B9i z (F6.cons z (G6.cells i) z (F6.cons z (G6.cells r) z F6.nil)))<|bE H λ⟨au,aw⟩ D H=>To (O.cs (B6A ⟨x,y,z,i.u,r.u⟩ D _) λay aB=>Mv z<|Wx z z<|Wx z z<|Ag z<|An z<|Sm z<|Wn z z<|Nt<|T.cH H z (λH=>?_) λH=>?_)
 ·exact Sm z<|Mv z<|Ag z<|Ag z<|Nr<|Tr<|E1 H
 refine Ks<|Sq<|Sq ?_
 obtain ⟨I,J,K⟩:=J6 H
 refine T.ck (α:=Bool) [1] (λf=>([(45,.bool f)],L,λhh=>I=f)) ?_ ?_
 ·have H:=J
  refine Rg<|Vv (V.fa A6c z)<|Vv (V.M8 (k:=3) D9 z a.u z)<|Vv (V.Q3 A9 z e)<|Wg z z<|Mv z<|T.bH 37 H z (λH=>?_) λH=>?_
  ·refine Vv (V.fa A6c z)<|Vv (V.M8 (k:=3) D9 z a.u z)<|Vv (V.Q3 A9 z e)<|Vv (V.fa U0 z)<|Vv (V.M8 (k:=1) N9 z a.u z)<|Vv (V.Q3 O7 z i)<|Wn z z<|Kt z<|Nt<|T.mt (!decide ((d.S9.length:Int)=(d.A8.length:Int))) (M0 H)
  refine S2<|S2<|S2<|Sk<|Kf z<|Nt<|T.mt false (M0 H)
 rintro f aC aD M
 have H:=I4 M K
 refine T.norm [45,1] z<|T.fl ?_
 refine T.cH H z (λH=>?_) λH=>?_
 ·exact Sg z<|Ag z<|Nr<|Tr<|E1 H
 refine Ks<|Sq<|Sr<|Vv (V.fa A6c z)<|Vv (V.M8 (k:=3) D9 z a.u z)<|Vv (V.Q3 A9 z e)<|Mv z<|Nt ?_
 obtain ⟨N,P,m⟩:=J6 H
 have H:=P
 refine Bl<|T.lk [1,47,48] (FUEL,(0:Int)) (λ⟨b,c⟩=>([(49,qi c)],L,λhh=>iter (A5l d) b c=some N)) H ?_
 rintro ⟨b,c⟩ aE aG S
 obtain ⟨U,aI,rfl,H,j⟩:=G7 S
 refine T.norm [49,1,47,48] z<|T.fl ?_
 refine Sr<|Wl z z<|Nt<|Sq<|T.cH H z (λH=>?_) λH=>?_
 ·refine Ks<|Sq<|Bl<|Sr<|bE H λaJ s H=>?_
  obtain ⟨aK,W,rfl⟩:=G6.at e s
  refine Vv (V.ix A9 z z e (E8 s))<|Vv (V.R5 D7 z W.u z)<|An z<|Sm z<|Wl z z<|Mv z<|T.bH 55 H z (λH=>?_) λH=>?_
  ·exact S2<|Kt z<|Nt<|Ct z<|Sg z<|Ag z<|Nr<|Br<|Tr<|Tr<|have H:=D6 H j; Br<|Tr<|have H:=I4 H m; E1 H
  refine Mv z<|Vv (V.ge z z)<|Kf z<|Nt<|T.cH H z (λH=>?_) λH=>?_
  ·exact Sg z<|Ag z<|Nr<|Br<|Tr<|Tr<|have H:=D6 H j; Br<|Tr<|have H:=I4 H m; E1 H
  refine T.skip<|Bn<|Th<|Rg<|bE H λX Y H=>Vv (V.H5 z z Y)<|Mv z<|Nt<|T.ag (U,X) (D8 H j)
 refine T.exit<|Te<|Te<|have H:=D6 H j; Be<|Th<|have H:=I4 H m; Sq<|Sq<|T.N7 (t:=(.vs [0,1,2,3,4] (.alt 5 (.g (.v 6 .done)) .no))) 8 0 0 z z H9 (by kernel_rfl) ?_
 refine Tv z (V.fa U0 z)<|Tv z (V.M8 (k:=1) N9 z a.u z)<|Tv z (V.Q3 O7 z i)<|Tv z (V.fa M6 z)<|Tv z (V.M8 (k:=0) Q0 z a.u z)<|bE H λaM Z H=>Tp z z (X2 z z) (O.G5 z (A8d q.u Z _) z λaN aO aP aS aa=>?_) T.P6
 obtain ⟨rfl,ab⟩:=aa
 refine P8 _ ab<|T.O1 Li<|Tv z (V.gt z z)<|T.O6 (X2 z z)<|Th<|T.cH H z (λH=>?_) λH=>?_
 ·exact Sg z<|Ag z<|Nr<|Tr<|E1 H
 exact Ks<|Sg z<|Ag z<|Nr<|E1 H
theorem A7M {h o g p q} (G:N8 h o g) (H:A3x g=some (p,q)):∀ L,FnW prog 37 [.agg o.toArray] h L (.tuple #[.int .i64 p,.int .i64 q]):=by
 intro L
 obtain ⟨r,s,t,w,x,rfl,y,A,B,C,e⟩:=G
 refine J2.enter func37 z z z<|Sr<|To (O.U4 z z z λam an ao i=>Ag z<|An z<|Sq<|Sr<|Vv (V.ldS z i (by exact J9)) ?_)
 refine bE H λ⟨ap,aq⟩ I H=>To (O.cs (C2b ⟨r,s,t,w,x,z,y.u,A.u,B.u,C.u,e.u⟩ I _) λau ax=>Mv z<|Wx z z<|Wx z z<|Ag z<|An z<|Sm z<|Wn z z<|Nt<|T.cH H z (λH=>?_) λH=>?_)
 ·exact Sm z<|Mv z<|Ag z<|Ag z<|Nr<|Tr<|E1 H
 refine Ks<|Sr<|bE H λM N H=>To (O.G5 z (B5T N _) z λay aA aB aC P=>?_)
 obtain ⟨S,U⟩:=P
 refine P8 _ S<|An z<|Sq<|Sr<|Vv (V.fa A2x z)<|Vv (V.M8 (k:=4) A1k z i.u z)<|Vv (V.Q3 Z6 z e)<|Mv z<|Nt ?_
 obtain ⟨W,X,m⟩:=J6 H
 have H:=X
 refine Bl<|T.lk [1,6,21,22] (FUEL,(0:Int)) (λ⟨c,d⟩=>([(23,qi d)],L,λhh=>iter (A5h g M) c d=some W)) H ?_
 rintro ⟨c,d⟩ aD aE Y
 obtain ⟨Z,aG,rfl,H,f⟩:=G7 Y
 refine T.norm [23,1,6,21,22] z<|T.fl ?_
 refine Sr<|Wl z z<|Nt<|Sq<|T.cH H z (λH=>?_) λH=>?_
 ·refine Ks<|Sq<|Bl<|Sm z<|bE H λa D H=>?_
  obtain ⟨aI,aa,rfl⟩:=G6.at e D
  refine Vv (V.ix Z6 z z e (E8 D))<|Vv (V.ldS z aa.u (by exact K6)) ?_
  refine To (O.alloc A2G z z λaJ=>Ag z<|To (O.stF (vs:=[.int .u8 a.F9,qi a.K8,.string a.fA,.string a.fB,.string a.I7,qi a.fN]) K6 z z (j:=0) z z z z<|T.freeze λn aK ab=>have E:=Z8.of ab; Nt<|Sq<|Sm z<|Vv (V.fa A2t z)<|Vv (V.M8 (k:=0) A5G z E z)<|bE H λ⟨b,aM⟩ ac H=>?_))
  obtain ⟨_,ad,rfl⟩:=Mp.look (zc:=[.string qe,.int .u8 0,.bool false,.int .u8 0,.bool false,qi 0,.bool false,(fnV (0:Nat))]) (agg:=true) underlying98 (A0z.int underlying41) B8U (show K9 n [.string qe,.int .u8 0,.bool false,.int .u8 0,.bool false,qi 0,.bool false,(fnV (0:Nat))] (H7.mk qe (0:Int) false (0:Int) false (0:Int) false (0:Nat)) from rfl) U.u ac
  refine Vv (V.D3Y z z ad)<|Vv (V.ldS z i.u (by exact J9)) ?_
  refine Vv (V.ldS z E (by exact K6)) ?_
  refine bE H λaN ae H=>To (O.cs (C1Z (show K9 n [.string b.A7s,.int .u8 b.fa,.bool b.fb,.int .u8 b.ft,.bool b.fn,qi b.flo,.bool b.A6l,(fnV b.C5T)] b from z) ⟨r,s,t,w,x,z,y.u,A.u,B.u,C.u,e.u⟩ (show I5 n [.int .u8 a.F9,qi a.K8,.string a.fA,.string a.fB,.string a.I7,qi a.fN] a from z) ae _) λaP aU=>An z<|Sm z<|Wn z z<|Nt<|T.cH H z (λH=>?_) λH=>?_)
  ·exact Sm z<|Mv z<|Ag z<|Ag z<|Nr<|Tr<|Br<|Tr<|Tr<|have H:=D6 H f; Br<|Tr<|have H:=I4 H m; E1 H
  refine Ks<|Sm z<|We z z<|Nt<|T.cH H z (λH=>?_) λH=>?_
  ·exact Sm z<|Ag z<|Ag z<|Nr<|Br<|Tr<|Tr<|have H:=D6 H f; Br<|Tr<|have H:=I4 H m; E1 H
  refine T.skip<|Bn<|Th<|Rg<|bE H λaj ak H=>Vv (V.H5 z z ak)<|Mv z<|Nt<|T.ag (Z,aj) (D8 H f)
 exact T.exit<|Te<|Te<|have H:=D6 H f; Be<|Th<|have H:=I4 H m; Sg z<|Ag z<|Nr<|E1 H
theorem C2t {h a b c d e f g i} (j:Z8 h b c) (m:N8 h c d) (n:Z8 h e f) (o:(VI .i64) h f g) (H:A9U a d g=some i):∀ L,FnW prog 48 [.int .i64 a,.pointer (some b),.pointer (some e)] h L (.bool i):=by
 intro L
 obtain ⟨t,u,w,x,y,rfl,p,A,B,C,D⟩:=m
 obtain rfl:=o
 exact J2.enter func48 z z z<|Sr<|An z<|Sr<|Vv (V.fa M6 z)<|Vv (V.M8 (k:=0) Q0 z j z)<|Vv (V.R5 D7 z n z)<|Mv z<|bE H λE q H=>To (O.cs (C0V p q _) λI K=>Ag z<|Nr<|E1 H)
theorem C1Y {h a b c d e f g i} (j:Z8 h b c) (m:N8 h c d) (n:Z8 h e f) (o:(VI .i64) h f g) (H:B0k a d g=some i):∀ L,FnW prog 50 [.int .i64 a,.pointer (some b),.pointer (some e)] h L (.bool i):=by
 intro L
 obtain ⟨t,u,w,x,y,rfl,p,A,B,C,D⟩:=m
 obtain rfl:=o
 exact J2.enter func50 z z z<|Sr<|An z<|Sr<|Vv (V.fa M6 z)<|Vv (V.M8 (k:=0) Q0 z j z)<|Vv (V.R5 D7 z n z)<|Mv z<|bE H λE q H=>To (O.cs (C0A p q _) λI K=>Ag z<|Nr<|E1 H)
theorem C2f {h ae W S af} (aX:Pt W9 h ae W) (H:B2o W S=some af):∀ L,J2 prog 52 [ae,.int .i64 S] h (L) (λv h' L'=>∃ ai X,v=.map (some ai)∧L'=blk ai (.map X.toArray X.length)::L∧X8 (Value.int .i64) false (VI .i64) h' 0 X af):=by
 intro L
 refine J2.enter func52 z z z<|Sr<|An z<|Sr<|To (O.mkM z λaY=>have aZ:X8 (Value.int .i64) false (VI .i64) h 0 ([]:List MapEntry) ([]:List (Int×Int)):=trivial; Mv z<|bE H λa0 a1 H=>To (O.A9O (agg:=false) (E:=(VI .i64)) (cs:=[qi 0]) underlying112 (A0z.int underlying3) z z z (j:=0) z aZ (show (VI .i64) h [qi 0] (0:Int) from z) _ (.inr z) λa2 aj=>?_))
 rw [Option.some.inj a1] at aj
 refine Mv z<|An z<|Sq<|Sm z<|To (O.b1 (E:=VI .i64) A9 J7 z z z z z λa3 a4=>An z ?_)
 obtain ⟨a5,a6,a7⟩:=J6 H
 have H:=a6
 refine Bl<|Fr_ 1 z<|T.lk [0] (FUEL,a0,[S],aY,a2,(.slice (some ⟨a3,0,none⟩) 1 1),[[qi S]]) (λ⟨D,s,w,x,i,y,A⟩=>([(5,.map (some x)),(6,y)],blk x (.map i.toArray i.length)::F3 3 1 y A::L,λhh=>iter (A8s W) D (s,w)=some a5∧X8 (Value.int .i64) false (VI .i64) hh 0 i s∧A7 (VI .i64) hh A w)) ⟨H,aj,a4⟩ ?_
 rintro ⟨D,s,w,x,i,y,A⟩ a8 bY ⟨a9,ak,G⟩
 obtain ⟨ah,bZ,rfl,H,am⟩:=G7 a9
 refine T.norm [5,6,0] z<|T.fl ?_
 refine Sq<|Sm z<|Vv (V.A4a A9 z (j:=1) z G.len)<|Wg z z<|Nt<|T.cH H z (λH=>?_) λH=>?_
 ·refine Ks<|Sq<|Bl<|Sq<|Fr_ 1 z<|T.N7 (t:=(.vs [0,1,2,3,4,5,6,7,8,9,10,11,12,13,14,15,16,17,20] (.alt 18 (.g (.v 19 .done)) .no))) 22 1 1 z z H9 (by kernel_rfl) ?_
  refine Tm z z<|have al:=aX; ?_
  obtain ⟨b0,_,rfl,an,⟨b2,b3,b4,b5,b6,b7,b8,b9,bh,bl,bv,bz,ca,cb,rfl,cc,cd,ce,cf,cg,ci,cj,ck,cm,ao,aq,cn,co,cp⟩⟩:=al
  refine TL z z z z A2i U3 an.u z<|Tm z z<|bE H λcq ar H=>?_
  obtain ⟨cr,av,rfl⟩:=A7.get G ar
  refine Tv z (Val.XA λ_ _ _=>V.ixR A9 z z (j:=0) z (A7.bd G ar))<|Tv z (Val.XA λ_ _ _=>V.ldR D7 z (j:=0) z av z)<|bE H λau aw H=>?_
  obtain ⟨ct,az,⟨ax,rfl,ay⟩⟩:=G6.at ao aw
  refine Tv z (V.ix K4 z z ao (E8 aw))<|Tv z (V.R5 D9 z az.u z)<|Tm z z<|TL z z z z A4J U3 an.u z<|Tm z z<|bE H λcu aA H=>?_
  obtain ⟨cw,ba,rfl⟩:=A7.get G aA
  refine Tv z (Val.XA λ_ _ _=>V.ixR A9 z z (j:=0) z (A7.bd G aA))<|Tv z (Val.XA λ_ _ _=>V.ldR D7 z (j:=0) z ba z)<|bE H λaB aC H=>?_
  obtain ⟨cx,bb,⟨aD,rfl,aE⟩⟩:=G6.at aq aC
  refine Tv z (V.ix K4 z z aq (E8 aC))<|Tv z (V.R5 D9 z bb.u z)<|Tm z z<|Tp z z (X3 [0] [0] z z) (O.bs K4 A1w z (e:=z) (hk:=z) (xs:=[.tmp 31,.tmp 40]) (hv:=CO.eq (CO.cons (G6.cells ay) (CO.cons (G6.cells aE) CO.nil))) (hw:=O4.of z) (hd:=z) λcy=>?_) T.P6
  have bc:A7 (VSl (VI .i64) 1) a8 [[ax],[aD]] ([au,aB]:List (List Int)):=(A7.cons ⟨ax,z,ay.u⟩ (A7.cons ⟨aD,z,aE.u⟩ A7.nil))
  refine T.K3 λcA cB be=>have Y:=A7.slc be bc.u; T.O1 Li<|Tv z (V.Q3 K4 z Y)<|T.O6 (X3 [0] [0] z z)<|Th<|T.A0S ?_
  obtain ⟨bf,bg,bi⟩:=J6 H
  have H:=bg
  refine Bl<|Fr_ 1 z<|T.lk [0,41,42] (FUEL,(0:Int),s,w,x,i,y,A) (λ⟨I,J,m,B,n,c,C,d⟩=>([(43,qi J),(5,.map (some n)),(6,C)],blk n (.map c.toArray c.length)::F3 3 1 C d::L,λhh=>iter (A8w au aB) I (J,m,B)=some bf∧X8 (Value.int .i64) false (VI .i64) hh 0 c m∧A7 (VI .i64) hh d B)) ⟨H,ak.u,G.u⟩ ?_
  rintro ⟨I,J,m,B,n,c,C,d⟩ bj cC ⟨bk,aG,Z⟩
  obtain ⟨bm,cD,rfl,H,aI⟩:=G7 bk
  refine T.norm [43,5,6,0,41,42] z<|T.fl ?_
  refine Sr<|Wl z z<|Nt<|Sq<|T.cH H z (λH=>?_) λH=>?_
  ·refine Ks<|Sq<|Bl<|Sr<|bE H λbn aJ H=>?_
   obtain ⟨cE,bo,⟨cG,rfl,aa⟩⟩:=G6.at Y aJ
   refine Vv (V.ix K4 z z Y (E8 aJ))<|Vv (V.R5 D9 z bo.u z)<|An z<|Sm z<|Vv (V.Q3 A9 z aa)<|Mv z<|Nt<|T.A0S ?_
   obtain ⟨bp,bq,br⟩:=J6 H
   have H:=bq
   refine Bl<|T.lk [0,41,42,43,47,48] (FUEL,(0:Int),m,B,n,c,C,d) (λ⟨K,M,o,p,a,f,q,b⟩=>([(49,qi M),(5,.map (some a)),(6,q)],blk a (.map f.toArray f.length)::F3 3 1 q b::L,λhh=>iter (A8y bn) K (M,o,p)=some bp∧X8 (Value.int .i64) false (VI .i64) hh 0 f o∧A7 (VI .i64) hh b p)) ⟨H,aG,Z⟩ ?_
   rintro ⟨K,M,o,p,a,f,q,b⟩ U cI ⟨bt,P,N⟩
   obtain ⟨aK,cJ,rfl,H,ab⟩:=G7 bt
   refine T.norm [49,5,6,0,41,42,43,47,48] z<|T.fl ?_
   refine Sr<|Wl z z<|Nt<|Sq<|T.cH H z (λH=>?_) λH=>?_
   ·refine Ks<|Sq<|Bl<|Sr<|bE H λaM aN H=>?_
    obtain ⟨cK,bu,rfl⟩:=G6.at aa aN
    refine Vv (V.ix A9 z z aa (E8 aN))<|Vv (V.R5 D7 z bu.u z)<|An z<|Sm z<|Mv z<|bE H λ⟨cM,cN⟩ bw H=>?_
    obtain ⟨_,bx,rfl⟩:=X8.lookO (r:=a) (zc:=[qi 0]) (agg:=false) underlying112 (A0z.int underlying3) J7 (show (VI .i64) U [qi 0] (0:Int) from rfl) P bw
    refine Vv (V.lkO z z (j:=0) z bx)<|Mv z<|Wx z z<|Wx z z<|Ag z<|An z<|Sm z<|Vv (V.not z)<|Nt<|T.cH H z (λH=>?_) λH=>?_
    ·refine Sm z<|Mv z<|Mv z<|Mv z<|bE H λcO aO H=>?_
     obtain ⟨cP,bA,rfl⟩:=A7.get N aO
     refine Vv (V.ixR A9 z z (j:=1) z (A7.bd N aO))<|Vv (V.ldR D7 z (j:=1) z bA z)<|bE H λ⟨cS,cU⟩ bB H=>?_
     obtain ⟨_,bC,rfl⟩:=X8.lookO (r:=a) (zc:=[qi 0]) (agg:=false) underlying112 (A0z.int underlying3) J7 (show (VI .i64) U [qi 0] (0:Int) from rfl) P bB
     refine Vv (V.D4i z z (j:=0) z bC)<|bE H λac bD H=>Vv (V.H5 z z bD)<|bE H λbG bI H=>To (O.A9O (agg:=false) (E:=(VI .i64)) (cs:=[qi ac]) underlying112 (A0z.int underlying3) z z z (j:=0) z P (show (VI .i64) U [qi ac] ac from z) _ (.inl z) λbJ aP=>?_)
     rw [Option.some.inj bI] at aP
     refine Nt<|Rg<|Mv z<|Mv z<|To (O.b1 (E:=VI .i64) A9 J7 z z z z z λcV ad=>bE H λaS aU H=>To (O.apX A9 A9 J7 z z z (j:=2) z (Src.row (j:=0) z) (O4.of z) (A7.ones VI.plain ad) N ad aU z λbK cW cX=>have bM:A7 (VI .i64) U (b++[[qi aM]]) aS:=A7.ap N ad aU; T.fl ?_))
     refine T.fs [1] ?_
     refine T.drop<|Ag z<|Ni<|Bn<|Th<|Rg<|bE H λbN bO H=>Vv (V.H5 z z bO)<|Mv z<|Nt<|Fr_ 1 z<|T.ag (aK,bN,bG,aS,a,bJ,bK,(b++[[qi aM]])) ⟨(D8 H ab),aP,bM⟩
    refine T.skip<|Bn<|Th<|Rg<|bE H λbP bS H=>Vv (V.H5 z z bS)<|Mv z<|Nt<|T.ag (aK,bP,o,p,a,f,q,b) ⟨(D8 H ab),P,N⟩
   refine T.exit<|Te<|Te<|have H:=D6 H ab; Be<|Th<|have H:=I4 H br; Bn<|Th<|Rg<|bE H λbU bV H=>Vv (V.H5 z z bV)<|Mv z<|Nt<|T.ag (bm,bU,o,p,a,f,q,b) ⟨(D8 H aI),P,N⟩
  refine T.exit<|Te<|Te<|have H:=D6 H aI; Be<|Th<|have H:=I4 H bi; Bn<|Th<|Rg<|Mv z<|bE H λaV aW H=>To (O.slR A9 z z (j:=1) z (A7.slb Z aW) z λbW=>have bX:A7 (VI .i64) bj (List.drop (1:Int).toNat d) aV:=A7.sl Z aW; An z<|Fr_ 1 z<|T.ag (ah,m,aV,n,c,bW,(List.drop (1:Int).toNat d)) ⟨(D8 H am),aG,bX⟩)
 refine T.exit<|Te<|Te<|have H:=D6 H am; Be<|Th<|have H:=I4 H a7; Sm z<|Ag z<|Nr<|Fr_ 1 z<|T.drop ?_
 cases H
 exact T.rl z (Rv z) ⟨_,_,z,z,ak⟩
theorem B5U {h a b c} (d:Pt W9 h a b) (H:A6f b=some c):∀ L,FnW prog 123 [a] h L (.bool c):=by
 intro L
 refine J2.enter func123 z z z<|Sr<|An z<|Sm z<|have e:=d; ?_
 obtain ⟨j,_,rfl,f,⟨m,n,o,p,q,r,s,t,u,w,x,y,A,B,rfl,C,D,E,G,I,g,J,K,M,N,O,P,S,U⟩⟩:=e
 refine Vv (V.D1J underlying49 z)<|Mv z<|Mv z<|NL z B5l C1n f z<|have i:=g; ?_
 obtain ⟨W,_,rfl,_⟩:=i
 exact Vv (V.D3B underlying98 z)<|Kf z<|Ag z<|Nr<|E1 H
theorem B8M {h bh af bl bv bz} (dp:N8 h bh af) (H:B1S af=some (bl,bv,bz)):∀ L,J2 prog 12 [.agg bh.toArray] h (L) (λv h' L'=>∃ ca,v=.tuple #[ca,.int .i64 bv,.int .i64 bz]∧L'=L∧OPt W9 h' ca bl):=by
 intro L
 obtain ⟨bc,av,az,bd,be,rfl,P,G,aY,bf,bg⟩:=dp
 refine J2.enter func12 z z z<|Sr<|To (O.U4 z z z λbi gl gv y=>Ag z<|Ag z<|An z<|Sq<|Sr<|Vv (V.ldS z y (by exact J9)) ?_)
 refine bE H λ⟨gz,ia⟩ dq H=>To (O.cs (A7M ⟨bc,av,az,bd,be,z,P.u,G.u,aY.u,bf.u,bg.u⟩ dq _) λic ie=>Mv z<|Wx z z<|Wx z z<|Ag z<|An z<|Sm z<|Wn z z<|Nt<|T.cH H z (λH=>?_) λH=>?_)
 ·refine Sm z<|Mv z<|Ag z<|Ag z<|Ag z<|Nr<|Tr ?_
  cases H
  exact T.rl z (RVs.cons (RV.tmp z) (RVs.cons (RV.tmp z) (Rv z))) ⟨_,z,z,OPt.nil⟩
 refine Ks<|Sr<|Vv (V.ldS z y.u (by exact J9)) ?_
 refine bE H λdt du H=>To (O.G5 z (B3x ⟨bc,av,az,bd,be,z,P.u,G.u,aY.u,bf.u,bg.u⟩ du _) z λig ii ij ik dw=>?_)
 obtain ⟨ax,ay,aA,aB,aC,rfl,dx,cb,cc,cd,ce,cf⟩:=dw
 refine P8 _ dx<|bE H λdy dA H=>To (O.G5 z (B5T dA _) z λaD ba im io dB=>?_)
 obtain ⟨dC,bw⟩:=dB
 refine P8 _ dC<|Vv (V.bld (xs:=[(0,.tmp 34),(1,.tmp 35)]) (cs:=[_,_,_,_,_,_,_,_,_,_,_,_,_,_]) C5K C4P z (F6.cons z z z (F6.cons z (Mp.cells bw) z F6.nil)))<|To (O.box z z z λbb=>An z<|Sq<|Sr<|Vv (V.fa M6 z)<|Vv (V.M8 (k:=0) Q0 z y.u z)<|Vv (V.Q3 O5 z P)<|Mv z<|Nt ?_)
 obtain ⟨dD,dE,dG⟩:=J6 H
 have H:=dE
 refine Bl<|T.Q8 3 1<|have dI:A7 (VI .i64) ba [] ([]:List Int):=A7.nil; T.Q8 3 1<|have dJ:A7 (VI .i64) ba [] ([]:List Int):=A7.nil; T.Q8 4 1<|have dK:A7 VB ba [] ([]:List Bool):=A7.nil; T.Q8 30 1<|have dM:A7 (VSl (VI .i64) 1) ba [] ([]:List (List Int)):=A7.nil; T.Q8 30 1<|have dN:A7 (VSl (VI .i64) 1) ba [] ([]:List (List Int)):=A7.nil; T.fs [1,2,3,4,5] ?_
 refine T.lk [1,7,40] (FUEL,([]:List Int),([]:List Int),([]:List Bool),([]:List (List Int)),([]:List (List Int)),(0:Int),(qs),[],(qs),[],(qs),[],(qs),[],(qs),[]) (λ⟨aZ,ai,aj,ak,am,an,S,p,J,o,I,f,A,d,w,b,s⟩=>([(41,qi S)],blk bb (.cells [ax,ay,aA,aB,aC,aD,p,o,f,d,b,qs,qs,qs].toArray 105)::F3 3 1 p J::F3 3 1 o I::F3 4 1 f A::F3 30 1 d w::F3 30 1 b s::L,λhh=>iter (B0Z af) aZ (ai,aj,ak,am,an,S)=some dD∧A7 (VI .i64) hh J ai∧A7 (VI .i64) hh I aj∧A7 VB hh A ak∧A7 (VSl (VI .i64) 1) hh w am∧A7 (VSl (VI .i64) 1) hh s an)) ⟨H,dI,dJ,dK,dM,dN⟩ ?_
 rintro ⟨aZ,ai,aj,ak,am,an,S,p,J,o,I,f,A,d,w,b,s⟩ dO ip ⟨dP,bj,bx,bA,bB,bC⟩
 obtain ⟨dS,iq,rfl,H,cg⟩:=G7 dP
 refine T.norm [41,1,7,40] z<|T.fl ?_
 refine Sr<|Wl z z<|Nt<|Sq<|T.cH H z (λH=>?_) λH=>?_
 ·refine Ks<|Sq<|Bl<|Sm z<|An z<|Sr<|Vv (V.fa M6 z)<|Vv (V.M8 (k:=0) Q0 z y.u z)<|Mv z<|bE H λbD dU H=>To (O.cs (A5H P.u dU _) λdV iu=>An z<|Sr<|Vv (V.fa M6 z)<|Vv (V.M8 (k:=0) Q0 z y.u z)<|Mv z<|Mv z<|bE H λiw dY H=>Vv (V.H5 z z dY)<|bE H λdZ ci H=>T.slM z O5 z P.u (.inr ⟨_,_,z,z⟩) (.inr ⟨_,_,z,z⟩) (A3U ci).2 z λd0 d1 iy=>?_)
  have d2:G6 I6 7 dV d0 dZ:=by rw [(A3U ci).1]; exact d1
  refine bE H λd3 d4 H=>To (O.cs (A8d d2 d4 _) λiB iD=>An z<|Sm z<|To (O.alloc J7 z z λd7=>To (O.stF (vs:=[qi bD]) D7 z z (j:=0) z z z z<|T.fl ?_)))
  refine Nt<|T.A0S ?_
  obtain ⟨d8,d9,dh⟩:=J6 H
  have H:=d9
  refine Bl<|T.fs [6,6,6,6,6,6] ?_
  refine T.lk [1,7,8,9,10,40,41] (FUEL,ai,aj,ak,am,an,bD,p,J,o,I,f,A,d,w,b,s,d7) (λ⟨a0,aE,aG,aI,aJ,aK,B,aM,U,aN,W,aO,X,aP,Y,aS,Z,M⟩=>([(11,qp M)],blk bb (.cells [ax,ay,aA,aB,aC,aD,aM,aN,aO,aP,aS,qs,qs,qs].toArray 105)::F3 3 1 aM U::F3 3 1 aN W::F3 4 1 aO X::F3 30 1 aP Y::F3 30 1 aS Z::blk M (.cells [qi B].toArray 3)::L,λhh=>iter (B0S af S bD d3) a0 (aE,aG,aI,aJ,aK,B)=some d8∧A7 (VI .i64) hh U aE∧A7 (VI .i64) hh W aG∧A7 VB hh X aI∧A7 (VSl (VI .i64) 1) hh Y aJ∧A7 (VSl (VI .i64) 1) hh Z aK)) ⟨H,bj.u,bx.u,bA.u,bB.u,bC.u⟩ ?_
  rintro ⟨a0,aE,aG,aI,aJ,aK,B,aM,U,aN,W,aO,X,aP,Y,aS,Z,M⟩ dl iE ⟨dv,bG,bI,bJ,bK,bM⟩
  obtain ⟨dz,iG,rfl,H,cj⟩:=G7 dv
  refine T.norm [11,1,7,8,9,10,40,41] z<|T.fl ?_
  refine Sq<|Sr<|Vv (V.A9y D7 z (j:=6) z z)<|Mv z<|Mv z<|bE H λiI ea H=>Vv (V.H5 z z ea)<|Wl z z<|Nt<|T.cH H z (λH=>?_) λH=>?_
  ·refine Ks<|Sq<|Bl<|Sm z<|Mv z<|NF z U8<|Vv (V.ldO (k:=6) D9 z (j:=0) z z)<|Mv z<|To (O.b1 (E:=VI .i64) A9 J7 z z z z z λiJ bN=>bE H λck cm H=>To (O.apX A9 A9 J7 z z z (j:=2) z (Src.row (j:=0) z) (O4.of z) (A7.ones VI.plain bN) bG bN cm z λcn iK iM=>have eb:A7 (VI .i64) dl (U++[[qi S]]) ck:=A7.ap bG bN cm; T.fl ?_))
   refine T.fs [1] ?_
   refine T.drop<|NF z U8<|T.R8 0 z λec ed=>To (O.st (vs:=[cn]) (k:=6) D9 z z (j:=1) z ed (by (simp only [BT,ec]) <;> rfl) ?_)
   refine T.fl ?_
   refine Nt<|Sq<|T.fs [2,1,6] ?_
   refine T.N7 (t:=(.vs [0,1,2,3] (.x 4 (.vs [5,6,7] (.alt 8 (.g (.alt 9 (.alt 10 (.g (.v 11 (.v 12 (.alt 13 .done .no)))) .no) .no)) .no))))) 10 3 1 z z H9 (by kernel_rfl) ?_
   refine Tm z z<|Tm z z<|TF z z z A9r<|T.tx z z (Val.XA λ_ _ _=>V.ldO (k:=7) D9 z (j:=1) z z) z Calm.i<|Tv z (V.fa M6 z)<|Tv z (V.M8 (k:=0) Q0 z y.u z)<|Tv z (Val.XA λ_ _ _=>V.A9y D7 z (j:=0) z z)<|bE H λbk ee H=>Tp z z (X3 [0] [2,2,2] z z) (O.G5 z (C1Q P.u ee _) z λiN co iO iP ef=>?_) T.P6
   obtain ⟨rfl,eg⟩:=ef
   refine P8 _ eg<|T.O1 Li<|Tp z z (X3 [0] [2,2,2] z z) (O.bs A9 J7 z (e:=z) (hk:=z) (xs:=[.tmp 81]) (hv:=CO.eq (CO.cons z CO.nil)) (hw:=O4.of z) (hd:=z) λiS=>?_) T.P6
   have bO:A7 (VI .i64) co [[qi bk]] ([bk]:List Int):=(A7.cons z A7.nil)
   refine bE H λcp cq H=>Tp z z (X3 [1] [3,3,3] z z) (O.apX A9 A9 J7 z z z (j:=3) z (Src.row (j:=0) z) (O4.of z) (A7.ones VI.plain bO) bI.u bO cq z λcr iU iV=>?_) T.P6
   have ei:A7 (VI .i64) co (W++[[qi bk]]) cp:=A7.ap bI.u bO cq
   refine T.fl ?_
   refine T.fs [1] ?_
   refine T.drop<|T.O1 Lr<|TF z z z A9r<|T.R8 0 z λej ek=>Tp z z (SX.one (XA.fr [1] Lr z) z) (O.st (vs:=[cr]) (k:=7) D9 z z (j:=2) z ek (by (simp only [BT,ej]) <;> rfl) ?_) T.P6
   refine T.fl ?_
   refine T.O6 (SX.one (XA.fr [2] Lr z) z)<|Th<|Sq<|T.fs [4,1,3] ?_
   refine T.N7 (t:=(.vs [0,1,2,3] (.x 4 (.vs [5,6,7] (.alt 8 (.g (.alt 9 (.alt 10 (.g (.v 11 (.v 12 (.alt 13 .done .no)))) .no) .no)) .no))))) 10 3 1 z z H9 (by kernel_rfl) ?_
   refine Tm z z<|Tm z z<|TF z z z B2K<|T.tx z z (Val.XA λ_ _ _=>V.ldO (k:=8) B2F z (j:=1) z z) z Calm.i<|Tv z (V.fa M6 z)<|Tv z (V.M8 (k:=0) Q0 z y.u z)<|Tv z (Val.XA λ_ _ _=>V.A9y D7 z (j:=0) z z)<|bE H λbm em H=>Tp z z (X3 [0] [2,2,2] z z) (O.G5 z (C3t P.u em _) z λiW ct iX iY en=>?_) T.P6
   obtain ⟨rfl,eo⟩:=en
   refine P8 _ eo<|T.O1 Li<|Tp z z (X3 [0] [2,2,2] z z) (O.bs X5 A6p z (e:=z) (hk:=z) (xs:=[.tmp 94]) (hv:=CO.eq (CO.cons z CO.nil)) (hw:=O4.of z) (hd:=z) λiZ=>?_) T.P6
   have bP:A7 VB ct [[.bool bm]] ([bm]:List Bool):=(A7.cons z A7.nil)
   refine bE H λcu cw H=>Tp z z (X3 [1] [3,3,3] z z) (O.apX X5 X5 A6p z z z (j:=3) z (Src.row (j:=0) z) (O4.of z) (A7.ones VB.plain bP) bJ.u bP cw z λcx i0 i1=>?_) T.P6
   have ep:A7 VB ct (X++[[.bool bm]]) cu:=A7.ap bJ.u bP cw
   refine T.fl ?_
   refine T.fs [1] ?_
   refine T.drop<|T.O1 Lr<|TF z z z B2K<|T.R8 0 z λer es=>Tp z z (SX.one (XA.fr [1] Lr z) z) (O.st (vs:=[cx]) (k:=8) B2F z z (j:=2) z es (by (simp only [BT,er]) <;> rfl) ?_) T.P6
   refine T.fl ?_
   refine T.O6 (SX.one (XA.fr [2] Lr z) z)<|Th<|Sq<|T.norm [1,7,8,9,10,11,40,41] z<|T.fl ?_
   refine T.fs [2] ?_
   refine T.C0I λet i2 bS=>T.fs [4,1] ?_
   refine T.N7 (t:=(.vs [0,1,2,3] (.x 4 (.vs [5,6,7] (.alt 8 (.g (.alt 9 (.alt 10 (.g (.v 11 (.v 12 (.alt 13 .done .no)))) .no) .no)) .no))))) 10 2 0 z z H9 (by kernel_rfl) ?_
   refine Tm z z<|Tm z z<|TF z z z A2i<|T.tx z z (Val.XA λ_ _ _=>V.ldO (k:=9) U3 z (j:=0) z z) z Calm.i<|Tm z z<|Tm z z<|Tv z (V.mkf z z)<|bE H λeu ew H=>Tp z z (X3 [] [1,1] z z) (O.G5 z (B5o (show A2E et (.func (.func 48) #[] #[qp bi,qp M]) (λbU=>A9U bU af B) from ⟨⟨z,z⟩,.inr ⟨48,[],[qp bi,qp M],z,λex i3 i4 i5 ey eA=>C2t y.u ⟨bc,av,az,bd,be,z,P.u,G.u,aY.u,bf.u,bg.u⟩ bS.u (show (VI .i64) ex [qi B] B from z) ey eA⟩⟩) ew _) z λbn i6 i7 i8 eB=>?_) T.P6
   obtain ⟨i9,eC,eD⟩:=eB
   refine P8 _ eC<|T.O1 Li<|T.K3 λbV ih eE=>have cy:=A7.slc eE eD.u; Tp z z (SX.two (XA.fr [] Li z) (XA.fr [1,1] Li z)) (O.bs K4 A1w z (e:=z) (hk:=z) (xs:=[.tmp 107]) (hv:=CO.eq (CO.cons (G6.cells cy) CO.nil)) (hw:=O4.of z) (hd:=z) λil=>?_) T.P6
   have bW:A7 (VSl (VI .i64) 1) bV [[bn]] ([eu]:List (List Int)):=(A7.cons ⟨bn,z,cy⟩ A7.nil)
   refine bE H λcA cB H=>Tp z z (SX.two (XA.fr [] Li z) (XA.fr [2,2] Li z)) (O.apX K4 K4 A1w z z z (j:=2) z (Src.row (j:=0) z) (O4.of z) (A7.ones VSl.plain bW) bK.u bW cB z λcC iv iz=>?_) T.P6
   have eG:A7 (VSl (VI .i64) 1) bV (Y++[[bn]]) cA:=A7.ap bK.u bW cB
   refine T.fl ?_
   refine T.fs [1] ?_
   refine T.drop<|T.O1 Li<|TF z z z A2i<|T.R8 0 z λeI eJ=>Tp z z (SX.one (XA.fr [] Lr z) z) (O.st (vs:=[cC]) (k:=9) U3 z z (j:=1) z eJ (by (simp only [BT,eI]) <;> rfl) ?_) T.P6
   refine T.fl ?_
   refine T.O6 (SX.one (XA.fr [] Lr z) z)<|Th<|T.fs [5,1] ?_
   refine T.N7 (t:=(.vs [0,1,2,3] (.x 4 (.vs [5,6,7] (.alt 8 (.g (.alt 9 (.alt 10 (.g (.v 11 (.v 12 (.alt 13 .done .no)))) .no) .no)) .no))))) 10 2 0 z z H9 (by kernel_rfl) ?_
   refine Tm z z<|Tm z z<|TF z z z A4J<|T.tx z z (Val.XA λ_ _ _=>V.ldO (k:=10) U3 z (j:=0) z z) z Calm.i<|Tm z z<|Tm z z<|Tv z (V.mkf z z)<|bE H λeK eM H=>Tp z z (X3 [] [1,1] z z) (O.G5 z (B5o (show A2E bV (.func (.func 50) #[] #[qp bi,qp M]) (λbU=>B0k bU af B) from ⟨⟨z,z⟩,.inr ⟨50,[],[qp bi,qp M],z,λeN ja jb jc eO eP=>C1Y y.u ⟨bc,av,az,bd,be,z,P.u,G.u,aY.u,bf.u,bg.u⟩ bS.u (show (VI .i64) eN [qi B] B from z) eO eP⟩⟩) eM _) z λbo jd je jf eS=>?_) T.P6
   obtain ⟨jg,eU,eV⟩:=eS
   refine P8 _ eU<|T.O1 Li<|T.K3 λcD ji eW=>have cE:=A7.slc eW eV.u; Tp z z (SX.two (XA.fr [] Li z) (XA.fr [1,1] Li z)) (O.bs K4 A1w z (e:=z) (hk:=z) (xs:=[.tmp 120]) (hv:=CO.eq (CO.cons (G6.cells cE) CO.nil)) (hw:=O4.of z) (hd:=z) λjj=>?_) T.P6
   have bX:A7 (VSl (VI .i64) 1) cD [[bo]] ([eK]:List (List Int)):=(A7.cons ⟨bo,z,cE⟩ A7.nil)
   refine bE H λcG cI H=>Tp z z (SX.two (XA.fr [] Li z) (XA.fr [2,2] Li z)) (O.apX K4 K4 A1w z z z (j:=2) z (Src.row (j:=0) z) (O4.of z) (A7.ones VSl.plain bX) bM.u bX cI z λcJ jk jm=>?_) T.P6
   have eX:A7 (VSl (VI .i64) 1) cD (Z++[[bo]]) cG:=A7.ap bM.u bX cI
   refine T.fl ?_
   refine T.fs [1] ?_
   refine T.drop<|T.O1 Li<|TF z z z A4J<|T.R8 0 z λeY eZ=>Tp z z (SX.one (XA.fr [] Lr z) z) (O.st (vs:=[cJ]) (k:=10) U3 z z (j:=1) z eZ (by (simp only [BT,eY]) <;> rfl) ?_) T.P6
   refine T.fl ?_
   refine T.O6 (SX.one (XA.fr [] Lr z) z)<|Bn<|Th<|Sq<|Sr<|Vv (V.R5 D7 z bS.u z)<|Nt<|Rg<|To (O.alloc J7 z z λe0=>To (O.stF (vs:=[qi B]) D7 z z (j:=0) z z z z<|T.fl ?_))
   refine Nt<|T.norm [1,7,8,9,10,11,40,41] z<|T.fl ?_
   refine Rg<|Vv (V.A9y D7 z (j:=0) z z)<|bE H λcK e1 H=>Vv (V.H5 z z e1)<|To (O.stF (vs:=[qi cK]) D7 z z (j:=0) z z z z<|T.fl ?_)
   refine Nt<|T.fs [2,3,4,5,6,6] ?_
   exact T.ag (dz,ck,cp,cu,cA,cG,cK,cn,(U++[[qi S]]),cr,(W++[[qi bk]]),cx,(X++[[.bool bm]]),cC,(Y++[[bn]]),cJ,(Z++[[bo]]),e0) ⟨(D8 H cj),eb.u,ei.u,ep.u,eG.u,eX⟩
  refine T.exit<|Te<|Te<|have H:=D6 H cj; Be<|Th<|have H:=I4 H dh; Bn<|Th<|Rg<|bE H λe2 e3 H=>Vv (V.H5 z z e3)<|Mv z<|Nt<|T.fs [6] ?_
  refine T.drop<|T.ag (dS,aE,aG,aI,aJ,aK,e2,aM,U,aN,W,aO,X,aP,Y,aS,Z) ⟨(D8 H cg),bG,bI,bJ,bK,bM⟩
 refine T.exit<|Te<|Te<|have H:=D6 H cg; Be<|Th<|have H:=I4 H dG; Sq<|Sm z<|NF z U8<|Vv (V.ldO (k:=6) D9 z (j:=0) z z)<|Vv (V.A4a A9 z (j:=1) z bj.len)<|Mv z<|Nt ?_
 obtain ⟨e4,e5,e6⟩:=J6 H
 have H:=e5
 refine Bl<|T.Q8 112 1<|have e7:A7 (VMp (Value.int .i64) false (VI .i64)) dO [] ([]:List (List (Int×Int))):=A7.nil; T.fs [6,6,6,6,6,6] ?_
 refine T.lk [1,7,131] (FUEL,([]:List (List (Int×Int))),(0:Int),(qs),[]) (λ⟨a1,a2,a3,m,q⟩=>([(132,qi a3)],blk bb (.cells [ax,ay,aA,aB,aC,aD,p,o,f,d,b,m,qs,qs].toArray 105)::F3 3 1 p J::F3 3 1 o I::F3 4 1 f A::F3 30 1 d w::F3 30 1 b s::F3 112 1 m q::L,λhh=>iter (B1k dt dy ai aj ak am an) a1 (a2,a3)=some e4∧A7 (VMp (Value.int .i64) false (VI .i64)) hh q a2)) ⟨H,e7⟩ ?_
 rintro ⟨a1,a2,a3,m,q⟩ jn jo ⟨e8,bp⟩
 obtain ⟨e9,jp,rfl,H,cM⟩:=G7 e8
 refine T.norm [132,1,7,131] z<|T.fl ?_
 refine Sr<|Wl z z<|Nt<|Sq<|T.cH H z (λH=>?_) λH=>?_
 ·refine Ks<|Sq<|Bl<|Sm z<|An z<|T.fs [6,1,6,6,6,6,6] ?_
  refine T.N7 (t:=(.vs [0,1,2,3] (.x 4 (.v 5 (.v 6 (.alt 7 (.g (.alt 8 (.alt 9 (.g (.v 10 (.v 11 (.alt 12 .done .no)))) .no) .no)) .no)))))) 9 7 5 z z H9 (by kernel_rfl) ?_
  refine Tm z z<|Tm z z<|TF z z z B2m<|T.tx z z (Val.XA λ_ _ _=>V.ldO (k:=11) B6f z (j:=5) z z) z Calm.i<|Tm z z<|Tm z z<|T.fs [6,5,5,5,5,5,6] ?_
  refine bE H λao eh H=>Tp z z (X3 [5,5,5,5,5] [6,1,6,6,6,6,6] z z) (O.G5 z (J2.B0R (R:=λv h' L'=>∃ L1_,L'=F3 3 1 p J::L1_∧(∃ L2_,L1_=F3 3 1 o I::L2_∧(∃ L3_,L2_=F3 4 1 f A::L3_∧(∃ L4_,L3_=F3 30 1 d w::L4_∧(∃ L5_,L4_=F3 30 1 b s::L5_∧(∃ L6_,L5_=F3 112 1 m q::L6_∧(∃ (c:Nat) (a:List MapEntry),v=.map (some c)∧L6_=blk c (.map a.toArray a.length)::L∧X8 (Value.int .i64) false (VI .i64) h' 0 a ao))))))) func52 z (λ_ _ _ _ ⟨a5_,b5_,⟨a4_,b4_,⟨a3_,b3_,⟨a2_,b2_,⟨a1_,b1_,⟨a0_,b0_,⟨e_0,e_1,v_,l_,f_0⟩⟩⟩⟩⟩⟩⟩=>⟨a5_,b5_,⟨a4_,b4_,⟨a3_,b3_,⟨a2_,b2_,⟨a1_,b1_,⟨a0_,b0_,⟨e_0,e_1,v_,l_,(X8.free VI.free f_0)⟩⟩⟩⟩⟩⟩⟩) C7a λjq jr el=>J2.B0R (R:=λv h' L'=>∃ L1_,L'=F3 3 1 o I::L1_∧(∃ L2_,L1_=F3 4 1 f A::L2_∧(∃ L3_,L2_=F3 30 1 d w::L3_∧(∃ L4_,L3_=F3 30 1 b s::L4_∧(∃ L5_,L4_=F3 112 1 m q::L5_∧(∃ (c:Nat) (a:List MapEntry),v=.map (some c)∧L5_=blk c (.map a.toArray a.length)::L∧X8 (Value.int .i64) false (VI .i64) h' 0 a ao)))))) func52 z (λ_ _ _ _ ⟨a4_,b4_,⟨a3_,b3_,⟨a2_,b2_,⟨a1_,b1_,⟨a0_,b0_,⟨e_0,e_1,v_,l_,f_0⟩⟩⟩⟩⟩⟩=>⟨a4_,b4_,⟨a3_,b3_,⟨a2_,b2_,⟨a1_,b1_,⟨a0_,b0_,⟨e_0,e_1,v_,l_,(X8.free VI.free f_0)⟩⟩⟩⟩⟩⟩) A1C λjs jt ev=>J2.B0R (R:=λv h' L'=>∃ L1_,L'=F3 4 1 f A::L1_∧(∃ L2_,L1_=F3 30 1 d w::L2_∧(∃ L3_,L2_=F3 30 1 b s::L3_∧(∃ L4_,L3_=F3 112 1 m q::L4_∧(∃ (c:Nat) (a:List MapEntry),v=.map (some c)∧L4_=blk c (.map a.toArray a.length)::L∧X8 (Value.int .i64) false (VI .i64) h' 0 a ao))))) func52 z (λ_ _ _ _ ⟨a3_,b3_,⟨a2_,b2_,⟨a1_,b1_,⟨a0_,b0_,⟨e_0,e_1,v_,l_,f_0⟩⟩⟩⟩⟩=>⟨a3_,b3_,⟨a2_,b2_,⟨a1_,b1_,⟨a0_,b0_,⟨e_0,e_1,v_,l_,(X8.free VI.free f_0)⟩⟩⟩⟩⟩) A1C λju jw ez=>J2.B0R (R:=λv h' L'=>∃ L1_,L'=F3 30 1 d w::L1_∧(∃ L2_,L1_=F3 30 1 b s::L2_∧(∃ L3_,L2_=F3 112 1 m q::L3_∧(∃ (c:Nat) (a:List MapEntry),v=.map (some c)∧L3_=blk c (.map a.toArray a.length)::L∧X8 (Value.int .i64) false (VI .i64) h' 0 a ao)))) func52 z (λ_ _ _ _ ⟨a2_,b2_,⟨a1_,b1_,⟨a0_,b0_,⟨e_0,e_1,v_,l_,f_0⟩⟩⟩⟩=>⟨a2_,b2_,⟨a1_,b1_,⟨a0_,b0_,⟨e_0,e_1,v_,l_,(X8.free VI.free f_0)⟩⟩⟩⟩) A1C λjx jy fb=>J2.B0R (R:=λv h' L'=>∃ L1_,L'=F3 30 1 b s::L1_∧(∃ L2_,L1_=F3 112 1 m q::L2_∧(∃ (c:Nat) (a:List MapEntry),v=.map (some c)∧L2_=blk c (.map a.toArray a.length)::L∧X8 (Value.int .i64) false (VI .i64) h' 0 a ao))) func52 z (λ_ _ _ _ ⟨a1_,b1_,⟨a0_,b0_,⟨e_0,e_1,v_,l_,f_0⟩⟩⟩=>⟨a1_,b1_,⟨a0_,b0_,⟨e_0,e_1,v_,l_,(X8.free VI.free f_0)⟩⟩⟩) A1C λjA jB fc=>J2.B0R (R:=λv h' L'=>∃ L1_,L'=F3 112 1 m q::L1_∧(∃ (c:Nat) (a:List MapEntry),v=.map (some c)∧L1_=blk c (.map a.toArray a.length)::L∧X8 (Value.int .i64) false (VI .i64) h' 0 a ao)) func52 z (λ_ _ _ _ ⟨a0_,b0_,⟨e_0,e_1,v_,l_,f_0⟩⟩=>⟨a0_,b0_,⟨e_0,e_1,v_,l_,(X8.free VI.free f_0)⟩⟩) A1C λjC jD fd=>J2.B0R (R:=λv h' L'=>∃ (c:Nat) (a:List MapEntry),v=.map (some c)∧L'=blk c (.map a.toArray a.length)::L∧X8 (Value.int .i64) false (VI .i64) h' 0 a ao) func52 z (λ_ _ _ _ ⟨e_0,e_1,v_,l_,f_0⟩=>⟨e_0,e_1,v_,l_,(X8.free VI.free f_0)⟩) A1C λjE jG fe=>?_) z λjI jJ jK jM ff=>?_) T.P6
  ·have fg:=A7.slc ev bj.u
   have fi:=A7.slc ez bx.u
   have fj:=A7.slc fb bA.u
   have fk:=A7.slc fc bB.u
   have fm:=A7.slc fd bC.u
   have fn:=A7.slc fe bp.u
   exact C2f (Pt.mk el.u ⟨ax,ay,aA,aB,aC,aD,p,o,f,d,b,m,(qs),(qs),z,cb.u,cc.u,cd.u,ce.u,cf.u,bw.u,fg.u,fi.u,fj.u,fk.u,fm.u,fn,G6.nil,G6.nil⟩) eh _
  obtain ⟨_,rfl,⟨_,rfl,⟨_,rfl,⟨_,rfl,⟨_,rfl,⟨_,rfl,⟨_,rfl,⟨bq,jN,rfl,rfl,fo⟩⟩⟩⟩⟩⟩⟩⟩:=ff
  refine T.fl ?_
  refine T.O1 Li<|T.fs [7] ?_
  refine T.C6h VI.mono fo λcN jO cO=>Tp z z (SX.two (XA.fr [5,5,5,5,5] Li z) (XA.fr [6,1,6,6,6,6,6] Li z)) (O.bs B2t B8Q z (e:=z) (hk:=z) (xs:=[.tmp 142]) (hv:=CO.eq (CO.cons (Mp.cells cO) CO.nil)) (hw:=O4.of z) (hd:=z) λjP=>?_) T.P6
  have bY:A7 (VMp (Value.int .i64) false (VI .i64)) cN [[(.map (some bq))]] ([ao]:List (List (Int×Int))):=(A7.cons ⟨(.map (some bq)),z,cO⟩ A7.nil)
  refine bE H λcP cS H=>Tp z z (SX.two (XA.fr [6,6,6,6,6] Li z) (XA.fr [7,2,7,7,7,7,7] Li z)) (O.apX B2t B2t B8Q z z z (j:=7) z (Src.row (j:=0) z) (O4.of z) (A7.ones VMp.plain bY) bp.u bY cS z λcU jS jU=>?_) T.P6
  have fp:A7 (VMp (Value.int .i64) false (VI .i64)) cN (q++[[(.map (some bq))]]) cP:=A7.ap bp.u bY cS
  refine T.fl ?_
  refine T.fs [1] ?_
  refine T.drop<|T.O1 Li<|TF z z z B2m<|T.R8 0 z λfq fs=>Tp z z (SX.one (XA.fr [6,6,6,6,6] Lr z) z) (O.st (vs:=[cU]) (k:=11) B6f z z (j:=1) z fs (by (simp only [BT,fq]) <;> rfl) ?_) T.P6
  refine T.fl ?_
  refine T.O6 (SX.one (XA.fr [6,6,6,6,6] Lr z) z)<|Bn<|Th<|Rg<|bE H λft fu H=>Vv (V.H5 z z fu)<|Mv z<|Nt<|T.fs [1,6,6,6,6,6,6] ?_
  exact T.ag (e9,cP,ft,cU,(q++[[(.map (some bq))]])) ⟨(D8 H cM),fp⟩
 refine T.exit<|Te<|Te<|have H:=D6 H cM; Be<|Th<|have H:=I4 H e6; Sr<|Vv (V.fa U0 z)<|Vv (V.M8 (k:=1) N9 z y.u z)<|Vv (V.fa A9S z)<|Vv (V.M8 (k:=2) A1N z y.u z)<|Vv (V.bld (xs:=[(0,.tmp 150),(1,.tmp 152)]) (cs:=[_,_]) B8O B9i z (F6.cons z (G6.cells G) z (F6.cons z (G6.cells aY) z F6.nil)))<|bE H λ⟨fw,jV,jW⟩ fx H=>To (O.G5 z (B5P ⟨av,az,z,G.u,aY.u⟩ fx _) z λjX cV jY jZ fy=>?_)
 obtain ⟨fA,rfl,fB,fC⟩:=fy
 refine P8 _ fB<|Mv z<|Wx z z<|Wx z z<|Wx z z<|Ag z<|Ag z<|An z<|Sq<|Sr<|Vv (V.fa U0 z)<|Vv (V.M8 (k:=1) N9 z y.u z)<|Vv (V.Q3 O7 z G)<|Mv z<|Nt ?_
 obtain ⟨fD,fE,fG⟩:=J6 H
 have H:=fE
 refine Bl<|T.Q8 100 1<|have fI:A7 (VSl VB 1) cV [] ([]:List (List Bool)):=A7.nil; T.Q8 122 1<|have fJ:A7 (VSl (VI .u8) 1) cV [] ([]:List (List Int)):=A7.nil; T.fs [1,8,8,8,8,8,8,8] ?_
 refine T.lk [1,7,159,160] (FUEL,([]:List (List Bool)),([]:List (List Int)),fw,(0:Int),(qs),[],(qs),[],fA) (λ⟨a4,a5,a6,aU,a7,aa,C,ab,D,aV⟩=>([(13,aV),(161,qi a7)],blk bb (.cells [ax,ay,aA,aB,aC,aD,p,o,f,d,b,m,aa,ab].toArray 105)::F3 3 1 p J::F3 3 1 o I::F3 4 1 f A::F3 30 1 d w::F3 30 1 b s::F3 112 1 m q::F3 100 1 aa C::F3 122 1 ab D::L,λhh=>iter (B0N af) a4 (a5,a6,aU,a7)=some fD∧A7 (VSl VB 1) hh C a5∧A7 (VSl (VI .u8) 1) hh D a6∧OPt A1p hh aV aU)) ⟨H,fI,fJ,fC⟩ ?_
 rintro ⟨a4,a5,a6,aU,a7,aa,C,ab,D,aV⟩ j0 j1 ⟨fK,aW,aX,fM⟩
 obtain ⟨bZ,j2,rfl,H,br⟩:=G7 fK
 refine T.norm [13,161,1,7,159,160] z<|T.fl ?_
 refine Sr<|Wl z z<|Nt<|Sq<|T.cH H z (λH=>?_) λH=>?_
 ·refine Ks<|Sq<|Bl<|Sr<|bE H λac cW H=>?_
  obtain ⟨j3,fN,⟨fO,rfl,fP⟩⟩:=G6.at G cW
  refine Vv (V.ix O7 z z G (E8 cW))<|Vv (V.ldS z fN.u (by exact V7)) ?_
  refine To (O.alloc A1M z z λj4=>To (O.stF (vs:=[.string ac.F8,.string ac.A1X,.string ac.X4,qi ac.A0j,qi ac.A0x,.string ac.A0y,.bool ac.X9,.bool ac.Y8,fO]) V7 z z (j:=0) z z (by (simp only [BT,G6.one fP]) <;> rfl) z ?_))
  refine T.fl ?_
  refine T.freeze λcX j5 fS=>have cY:=Z8.of fS; Nt<|Sr<|An z<|Sr<|An z<|Sq<|Sr<|Vv (V.fa U0 z)<|Vv (V.M8 (k:=1) N9 z y.u z)<|Vv (V.Q3 O7 z G)<|Mv z<|Nt ?_
  obtain ⟨fU,fV,fW⟩:=J6 H
  have H:=fV
  refine Bl<|T.Q8 4 1<|have fX:A7 VB cX [] ([]:List Bool):=A7.nil; T.Q8 124 1<|have fY:A7 (VI .u8) cX [] ([]:List Int):=A7.nil; T.fs [1,10,10,10,10,10,10,10,10,10] ?_
  refine T.lk [1,7,17,159,160,161,166,167] (FUEL,aU,(0:Int),([]:List Bool),([]:List Int),aV,(qs),[],(qs),[]) (λ⟨a8,ad,a9,aq,ae,N,r,ar,n,au⟩=>([(13,N),(168,qi a9),(18,r),(19,n)],blk bb (.cells [ax,ay,aA,aB,aC,aD,p,o,f,d,b,m,aa,ab].toArray 105)::F3 3 1 p J::F3 3 1 o I::F3 4 1 f A::F3 30 1 d w::F3 30 1 b s::F3 112 1 m q::F3 100 1 aa C::F3 122 1 ab D::F3 4 1 r ar::F3 124 1 n au::L,λhh=>iter (B0H af ac) a8 (ad,a9,aq,ae)=some fU∧OPt A1p hh N ad∧A7 VB hh ar aq∧A7 (VI .u8) hh au ae)) ⟨H,fM.u,fX,fY⟩ ?_
  rintro ⟨a8,ad,a9,aq,ae,N,r,ar,n,au⟩ j6 j7 ⟨fZ,bt,b0,b2⟩
  obtain ⟨f0,j8,rfl,H,cZ⟩:=G7 fZ
  refine T.norm [13,168,18,19,1,7,17,159,160,161,166,167] z<|T.fl ?_
  refine Sr<|Wl z z<|Nt<|Sq<|T.cH H z (λH=>?_) λH=>?_
  ·refine Ks<|Sq<|Bl<|Sr<|bE H λaw c0 H=>?_
   obtain ⟨j9,f1,⟨f2,rfl,f3⟩⟩:=G6.at G c0
   refine Vv (V.ix O7 z z G (E8 c0))<|Vv (V.ldS z f1.u (by exact V7)) ?_
   refine To (O.alloc A1M z z λjh=>To (O.stF (vs:=[.string aw.F8,.string aw.A1X,.string aw.X4,qi aw.A0j,qi aw.A0x,.string aw.A0y,.bool aw.X9,.bool aw.Y8,f2]) V7 z z (j:=0) z z (by (simp only [BT,G6.one f3]) <;> rfl) z ?_))
   refine T.fl ?_
   refine T.freeze λjl jv f4=>have c1:=Z8.of f4; Nt<|Sm z<|Mv z<|Vv (V.fa A0l z)<|Vv (V.M8 (k:=0) J5 z cY.u z)<|Vv (V.fa A0l z)<|Vv (V.M8 (k:=0) J5 z c1 z)<|bE H λf5 f6 H=>have b3:=OPt.get bt f6; bE H λc2 f7 H=>To (O.G5 z (C0k b3.u f7 _) z λjz f8 ka kb f9=>?_)
   obtain ⟨kc,fh,fv⟩:=f9
   refine P8 _ fh<|Vv (V.A4a X7 z (j:=0) z fv.len)<|Wg z z<|To (O.b1 (E:=VB) X5 A6p z z z z z λkd b4=>bE H λc3 c4 H=>To (O.apX X5 X5 A6p z z z (j:=11) z (Src.row (j:=0) z) (O4.of z) (A7.ones VB.plain b4) b0.u b4 c4 z λfz ke kf=>have ga:A7 VB f8 (ar++[[.bool (decide ((0:Int)<(c2.length:Int)))]]) c3:=A7.ap b0.u b4 c4; T.fl ?_))
   refine T.fs [1] ?_
   refine T.drop<|An z<|Sm z<|Vv (V.fa A0l z)<|Vv (V.M8 (k:=0) J5 z cY.u z)<|Vv (V.fa A0l z)<|Vv (V.M8 (k:=0) J5 z c1.u z)<|bE H λ⟨c5,kg⟩ gb H=>To (O.cs (C3U b3.u gb _) λgc kk=>Mv z<|Wx z z<|Wx z z<|Ag z<|An z<|Rg<|Mv z<|Mv z<|To (O.b1 (E:=VI .u8) B0a B8Z z z z z z λkm b5=>bE H λc6 c7 H=>To (O.apX B0a B0a B8Z z z z (j:=12) z (Src.row (j:=0) z) (O4.of z) (A7.ones VI.plain b5) b2.u b5 c7 z λgf kn ko=>have gg:A7 (VI .u8) gc (au++[[.int .u8 c5]]) c6:=A7.ap b2.u b5 c7; T.fl ?_)))
   refine T.fs [1] ?_
   refine T.drop<|Ag z<|Ni<|Bn<|Th<|T.norm [1,7,13,17,18,19,159,160,161,166,167,168] z<|T.fl ?_
   refine Rg<|bE H λgi gj H=>Vv (V.H5 z z gj)<|Mv z<|Nt<|T.fs [2] ?_
   refine T.drop<|T.fs [1,10,10,10,10,10,10,10,10,10] ?_
   exact T.ag (f0,(some f5),gi,c3,c6,N,fz,(ar++[[.bool (decide ((0:Int)<(c2.length:Int)))]]),gf,(au++[[.int .u8 c5]])) ⟨(D8 H cZ),(OPt.some b3.u),ga.u,gg⟩
  refine T.exit<|Te<|Te<|have H:=D6 H cZ; Be<|Th<|have H:=I4 H fW; T.fs [9] ?_
  refine T.K3 λkp kq gk=>have bu:=A7.slc gk b0.u; T.fs [9] ?_
  refine T.K3 λK kr gm=>have ah:=A7.slc gm b2.u; T.N7 (t:=(.vs [0,1,2,3,4] (.x 5 (.vs [6,9,10,11] (.x 12 (.v 13 (.alt 7 (.alt 8 (.g (.alt 14 (.alt 15 (.g (.v 16 (.v 17 (.alt 18 (.g (.v 19 (.v 20 (.alt 21 .done .no)))) .no)))) .no) .no)) (.alt 14 (.alt 8 (.g (.alt 15 (.g (.v 16 (.v 17 (.alt 18 (.g (.v 19 (.v 20 (.alt 21 .done .no)))) .no)))) .no)) .no) .no)) (.alt 14 (.alt 7 (.alt 8 (.g (.alt 15 (.g (.v 16 (.v 17 (.alt 18 (.g (.v 19 (.v 20 (.alt 21 .done .no)))) .no)))) .no)) .no) .no) .no)))))))) 18 1 0 z z H9 (by kernel_rfl) ?_
  refine Tm z z<|Tm z z<|Tm z z<|TF z z z A7g<|T.tx z z (Val.XA λ_ _ _=>V.ldO (k:=12) B0g z (j:=0) z z) z Calm.i<|Tm z z<|Tm z z<|TF z z z A4H<|T.tx z z (Val.XA λ_ _ _=>V.ldO (k:=13) A7G z (j:=0) z z) z Calm.i<|Tm z z<|T.C3b ?_ ?_
  ·refine Tp z z (X3 [] [0] z z) (O.bs A3v A8T z (e:=z) (hk:=z) (xs:=[.tmp 203]) (hv:=CO.eq (CO.cons (G6.cells bu) CO.nil)) (hw:=O4.of z) (hd:=z) λks=>?_) T.P6
   have al:A7 (VSl VB 1) K [[r]] ([aq]:List (List Bool)):=(A7.cons ⟨r,z,bu.u⟩ A7.nil)
   refine T.C3b ?_ ?_
   ·refine bE H λc8 c9 H=>Tp z z (X3 [] [1] z z) (O.apX A3v A3v A8T z z z (j:=8) z (Src.row (j:=0) z) (O4.of z) (A7.ones VSl.plain al) aW.u al c9 z λch kt ku=>?_) T.P6
    have gn:A7 (VSl VB 1) K (C++[[r]]) c8:=A7.ap aW.u al c9
    refine T.fl ?_
    refine T.fs [1] ?_
    refine T.drop<|T.O1 Lr<|Tp z z (X3 [] [1] z z) (O.bs A1O A6n z (e:=z) (hk:=z) (xs:=[.tmp 210]) (hv:=CO.eq (CO.cons (G6.cells ah) CO.nil)) (hw:=O4.of z) (hd:=z) λkw=>?_) T.P6
    have b6:A7 (VSl (VI .u8) 1) K [[n]] ([ae]:List (List Int)):=(A7.cons ⟨n,z,ah⟩ A7.nil)
    refine bE H λcl cv H=>Tp z z (X3 [] [2] z z) (O.apX A1O A1O A6n z z z (j:=9) z (Src.row (j:=0) z) (O4.of z) (A7.ones VSl.plain b6) aX.u b6 cv z λcz kx ky=>?_) T.P6
    have go:A7 (VSl (VI .u8) 1) K (D++[[n]]) cl:=A7.ap aX.u b6 cv
    refine T.fl ?_
    refine T.fs [1] ?_
    refine T.drop<|T.O1 Lr<|TF z z z A7g<|T.R8 1 z λgp gq=>Tp z z (X3 [] [2] z z) (O.st (vs:=[ch]) (k:=12) B0g z z (j:=2) z gq (by (simp only [BT,gp]) <;> rfl) ?_) T.P6
    refine T.fl ?_
    refine T.O1 Lr<|TF z z z A4H<|T.R8 1 z λgr gs=>Tp z z (SX.one (XA.fr [] Lr z) z) (O.st (vs:=[cz]) (k:=13) A7G z z (j:=0) z gs (by (simp only [BT,gr]) <;> rfl) ?_) T.P6
    refine T.fl ?_
    refine T.O6 (SX.one (XA.fr [] Lr z) z)<|Bn<|Th<|Rg<|bE H λgu gw H=>Vv (V.H5 z z gw)<|Mv z<|Nt<|T.fs [1,2,8,8,8,8,8,8,8] ?_
    exact T.ag (bZ,c8,cl,ad,gu,ch,(C++[[r]]),cz,(D++[[n]]),N) ⟨(D8 H br),gn,go,bt.u⟩
   refine Tp z z (X3 [] [1] z z) (O.bs A1O A6n z (e:=z) (hk:=z) (xs:=[.tmp 210]) (hv:=CO.eq (CO.cons (G6.cells ah) CO.nil)) (hw:=O4.of z) (hd:=z) λkA=>?_) T.P6
   have b7:A7 (VSl (VI .u8) 1) K [[n]] ([ae]:List (List Int)):=(A7.cons ⟨n,z,ah⟩ A7.nil)
   refine bE H λda db H=>Tp z z (X3 [] [2] z z) (O.apX A3v A3v A8T z z z (j:=9) z (Src.row (j:=1) z) (O4.of z) (A7.ones VSl.plain al) aW.u al db z λdc kB kC=>?_) T.P6
   have gx:A7 (VSl VB 1) K (C++[[r]]) da:=A7.ap aW.u al db
   refine T.fl ?_
   refine T.fs [2] ?_
   refine T.drop<|T.O1 Lr<|bE H λdd de H=>Tp z z (X3 [] [2] z z) (O.apX A1O A1O A6n z z z (j:=9) z (Src.row (j:=1) z) (O4.of z) (A7.ones VSl.plain b7) aX.u b7 de z λdf kD kE=>?_) T.P6
   have gy:A7 (VSl (VI .u8) 1) K (D++[[n]]) dd:=A7.ap aX.u b7 de
   refine T.fl ?_
   refine T.fs [2] ?_
   refine T.drop<|T.O1 Lr<|TF z z z A7g<|T.R8 1 z λgA gB=>Tp z z (X3 [] [2] z z) (O.st (vs:=[dc]) (k:=12) B0g z z (j:=2) z gB (by (simp only [BT,gA]) <;> rfl) ?_) T.P6
   refine T.fl ?_
   refine T.O1 Lr<|TF z z z A4H<|T.R8 1 z λgC gD=>Tp z z (SX.one (XA.fr [] Lr z) z) (O.st (vs:=[df]) (k:=13) A7G z z (j:=0) z gD (by (simp only [BT,gC]) <;> rfl) ?_) T.P6
   refine T.fl ?_
   refine T.O6 (SX.one (XA.fr [] Lr z) z)<|Bn<|Th<|Rg<|bE H λgE gG H=>Vv (V.H5 z z gG)<|Mv z<|Nt<|T.fs [1,2,8,8,8,8,8,8,8] ?_
   exact T.ag (bZ,da,dd,ad,gE,dc,(C++[[r]]),df,(D++[[n]]),N) ⟨(D8 H br),gx,gy,bt.u⟩
  refine Tp z z (X3 [] [0] z z) (O.bs A1O A6n z (e:=z) (hk:=z) (xs:=[.tmp 210]) (hv:=CO.eq (CO.cons (G6.cells ah) CO.nil)) (hw:=O4.of z) (hd:=z) λkG=>?_) T.P6
  have b8:A7 (VSl (VI .u8) 1) K [[n]] ([ae]:List (List Int)):=(A7.cons ⟨n,z,ah⟩ A7.nil)
  refine Tp z z (X3 [] [1] z z) (O.bs A3v A8T z (e:=z) (hk:=z) (xs:=[.tmp 203]) (hv:=CO.eq (CO.cons (G6.cells bu) CO.nil)) (hw:=O4.of z) (hd:=z) λkI=>?_) T.P6
  have b9:A7 (VSl VB 1) K [[r]] ([aq]:List (List Bool)):=(A7.cons ⟨r,z,bu.u⟩ A7.nil)
  refine bE H λdg di H=>Tp z z (X3 [] [2] z z) (O.apX A3v A3v A8T z z z (j:=9) z (Src.row (j:=0) z) (O4.of z) (A7.ones VSl.plain b9) aW.u b9 di z λdj kJ kK=>?_) T.P6
  have gI:A7 (VSl VB 1) K (C++[[r]]) dg:=A7.ap aW.u b9 di
  refine T.fl ?_
  refine T.fs [1] ?_
  refine T.drop<|T.O1 Lr<|bE H λdk dm H=>Tp z z (X3 [] [2] z z) (O.apX A1O A1O A6n z z z (j:=9) z (Src.row (j:=1) z) (O4.of z) (A7.ones VSl.plain b8) aX.u b8 dm z λdn kM kN=>?_) T.P6
  have gJ:A7 (VSl (VI .u8) 1) K (D++[[n]]) dk:=A7.ap aX.u b8 dm
  refine T.fl ?_
  refine T.fs [2] ?_
  refine T.drop<|T.O1 Lr<|TF z z z A7g<|T.R8 1 z λgK gM=>Tp z z (X3 [] [2] z z) (O.st (vs:=[dj]) (k:=12) B0g z z (j:=2) z gM (by (simp only [BT,gK]) <;> rfl) ?_) T.P6
  refine T.fl ?_
  refine T.O1 Lr<|TF z z z A4H<|T.R8 1 z λgN gO=>Tp z z (SX.one (XA.fr [] Lr z) z) (O.st (vs:=[dn]) (k:=13) A7G z z (j:=0) z gO (by (simp only [BT,gN]) <;> rfl) ?_) T.P6
  refine T.fl ?_
  refine T.O6 (SX.one (XA.fr [] Lr z) z)<|Bn<|Th<|Rg<|bE H λgP gS H=>Vv (V.H5 z z gS)<|Mv z<|Nt<|T.fs [1,2,8,8,8,8,8,8,8] ?_
  exact T.ag (bZ,dg,dk,ad,gP,dj,(C++[[r]]),dn,(D++[[n]]),N) ⟨(D8 H br),gI,gJ,bt.u⟩
 refine T.exit<|Te<|Te<|have H:=D6 H br; Be<|Th<|have H:=I4 H fG; Sm z<|Ag z<|Ag z<|Ag z<|Nr<|T.fs [1] ?_
 refine T.K3 λkO kP gU=>have gV:=A7.slc gU bj.u; T.fs [1] ?_
 refine T.K3 λkS kU gW=>have gX:=A7.slc gW bx.u; T.fs [1] ?_
 refine T.K3 λkV kW gY=>have gZ:=A7.slc gY bA.u; T.fs [1] ?_
 refine T.K3 λkX kY g0=>have g1:=A7.slc g0 bB.u; T.fs [1] ?_
 refine T.K3 λkZ k0 g2=>have g3:=A7.slc g2 bC.u; T.fs [1] ?_
 refine T.K3 λk1 k2 g4=>have g5:=A7.slc g4 bp.u; T.fs [1] ?_
 refine T.K3 λk3 k4 g6=>have g7:=A7.slc g6 aW.u; Fr_ 1 z<|T.K3 λk5 k6 g8=>have g9:=A7.slc g8 aX.u; T.C0I λk7 k8 gh=>?_
 cases H
 exact T.rl z (RVs.cons (RV.tmp z) (RVs.cons (RV.tmp z) (Rv z))) ⟨_,z,z,(OPt.some (Pt.mk gh ⟨ax,ay,aA,aB,aC,aD,p,o,f,d,b,m,aa,ab,z,cb.u,cc.u,cd.u,ce.u,cf.u,bw.u,gV.u,gX.u,gZ.u,g1.u,g3.u,g5.u,g7.u,g9.u⟩))⟩
theorem B8u {h b c a} (d:Pt W9 h b c) (H:A8v c=some a):∀ L,J2 prog 119 [b] h (L) (λv h' L'=>∃ v0_1 v0_3 v0_5 v0_7 v0_9,v=.agg #[v0_1,v0_3,v0_5,v0_7,v0_9]∧L'=L∧G6 I6 7 h' v0_1 a.C8∧G6 I9 9 h' v0_3 a.A8∧G6 L9 3 h' v0_5 a.O0∧G6 (VI .i64) 1 h' v0_7 a.S9∧G6 I5 6 h' v0_9 a.K5):=by
 intro L
 refine J2.enter func119 z z z<|Sr<|To (O.alloc A6Q z z λU=>Nt<|Sq<|Sm z<|bE H λW n H=>To (O.cs (B5U d n _) λY aa=>Nt<|T.cH H z (λH=>?_) λH=>?_))
 ·refine Sr<|Vv (V.bld (xs:=[]) (cs:=[_,_,_,_,_]) C4K C5I z F6.nil)<|To (O.stF (vs:=[qs,qs,qs,qs,qs]) J9 z z (j:=0) z z z z<|Nr<|Tr ?_)
  cases H
  exact T.B0B (L':=L) results119 (RVs.cons (RV.cellS z (j:=0) z J9) RVs.nil) Li (λ_ iv=>iv.drop) ⟨_,_,_,_,_,z,z,G6.nil,G6.nil,G6.nil,G6.nil,G6.nil⟩
 refine Ks<|Sm z<|have q:=d; ?_
 obtain ⟨ab,_,rfl,r,⟨s,t,w,x,y,ac,ad,ae,af,ag,ai,aj,ak,am,rfl,A,B,C,D,E,an,ao,ap,aq,ar,au,aw,ax,ay⟩⟩:=q
 refine NF z M3<|Vv (V.C9z (k:=0) B2d z r.u (Nat.le_of_ble_eq_true z))<|bE H λaA G H=>To (O.G5 z (B3x ⟨s,t,w,x,y,z,A.u,B.u,C.u,D.u,E.u⟩ G _) z λaB aC aD aE I=>?_)
 obtain ⟨J,K,M,N,P,rfl,S,e,f,g,i,m⟩:=I
 refine P8 _ S<|To (O.stF (vs:=[J,K,M,N,P]) J9 z z (j:=0) z z (by (simp only [BT,G6.one e,G6.one f,G6.one g,G6.one i,G6.one m]) <;> rfl) z ?_)
 refine Nr ?_
 cases H
 exact T.B0B (L':=L) results119 (RVs.cons (RV.cellS z (j:=0) z J9) RVs.nil) Li (λ_ iv=>iv.drop) ⟨_,_,_,_,_,z,z,e,f,g,i,m⟩
theorem A8b {h y o g p A} (r:Pt W9 h y o) (e:G6 (VI .i64) 1 h g p) (H:A5U o p=some A):∀ L,J2 prog 61 [y,g] h (L) (λv h' L'=>L'=L∧OPt M5 h' v A):=by
 intro L
 refine J2.enter func61 z z z<|Sr<|An z<|Sq<|Sq ?_
 obtain ⟨N,P,S⟩:=J6 H
 refine T.ck (α:=Bool) [0,1] (λi=>([(20,.bool i)],L,λhh=>N=i)) ?_ ?_
 ·have H:=P
  refine Rg<|Mv z<|bE H λbi U H=>To (O.cs (B5U r U _) λbk bn=>Mv z<|T.bH 10 H z (λH=>?_) λH=>?_)
  ·refine S2<|S2<|S2<|S2<|Sk<|Kt z<|Nt<|T.mt true (M0 H)
  refine Mv z<|Vv (V.Q3 A9 z e)<|Mv z<|have Y:=r; ?_
  obtain ⟨bo,_,rfl,Z,⟨bp,bq,br,bs,bt,bu,bw,bx,bA,bB,bC,bD,bG,bI,rfl,bJ,aa,bK,bM,bN,bO,bP,bS,bU,bV,bW,bX,bY,bZ⟩⟩:=Y
  refine NF z M3<|Vv (V.fa A0N z)<|Vv (V.M8 (k:=1) N9 z Z.u z)<|Vv (V.Q3 O7 z aa)<|Wn z z<|Kf z<|Nt<|T.mt (!decide ((p.length:Int)=(o.P9.A8.length:Int))) (M0 H)
 rintro i b0 b2 ab
 have H:=I4 ab S
 refine T.norm [20,0,1] z<|T.fl ?_
 refine T.cH H z (λH=>?_) λH=>?_
 ·refine Sg z<|Nr<|Tr ?_
  cases H
  exact T.rl z (Rv z) ⟨z,OPt.nil⟩
 refine Ks<|Sm z<|Mv z<|To (O.b1 (E:=VI .i64) A9 J7 z z z z z λb3 ac=>Mv z<|have ad:=r; ?_)
 obtain ⟨s,_,rfl,t,⟨ae,af,ai,aj,ak,am,an,ao,ap,aq,ar,au,aw,ax,rfl,ay,aA,aB,aC,aD,aE,w,aG,aI,aJ,aK,aM,aN,aO⟩⟩:=ad
 refine NL z U8 D9 t.u z<|Vv (V.Q3 A9 z w)<|T.K3 λb4 b5 aP=>have aS:=A7.slc aP ac.u; bE H λaU aV H=>To (O.G5 z (A9o aS aV _) z λm b6 b7 b8 aW=>?_)
 obtain ⟨aX,aY,aZ⟩:=aW
 refine P8 _ aY<|T.R8 0 z λb9 a0=>Vv (V.bld (xs:=[(0,.tmp 21),(1,.tmp 22),(2,.tmp 29)]) (cs:=[_,_,_]) C5H C5e z (F6.cons z z z (F6.cons z (G6.cells e) z (F6.cons z a0 z F6.nil))))<|To (O.box z z z λB=>An z<|Sq<|Sm z<|Vv (V.Q3 A9 z e)<|Mv z<|Nt ?_)
 obtain ⟨a1,a2,C⟩:=J6 H
 have H:=a2
 refine Bl<|T.lk [0,5,32,33] (FUEL,aU,(0:Int),aX) (λ⟨f,d,a,b⟩=>([(34,qi a)],blk B (.cells [.pointer (some s),g,m].toArray 134)::F3 3 1 m b::L,λhh=>iter (A8B o p) f (d,a)=some a1∧A7 (VI .i64) hh b d)) ⟨H,aZ⟩ ?_
 rintro ⟨f,d,a,b⟩ bh bl ⟨a3,c⟩
 obtain ⟨D,bv,rfl,H,q⟩:=G7 a3
 refine T.norm [34,0,5,32,33] z<|T.fl ?_
 refine Sr<|Wl z z<|Nt<|Sq<|T.cH H z (λH=>?_) λH=>?_
 ·refine Ks<|Sq<|Bl<|Sm z<|bE H λG I H=>?_
  obtain ⟨bz,a4,rfl⟩:=G6.at e I
  refine Vv (V.ix A9 z z e (E8 I))<|Vv (V.R5 D7 z a4.u z)<|Ag z<|An z<|Sq<|Sq ?_
  obtain ⟨a5,a6,a7⟩:=J6 H
  refine T.ck (α:=Bool) [0,5,6,7,32,33,34] (λn=>([(63,.bool n)],blk B (.cells [.pointer (some s),g,m].toArray 134)::F3 3 1 m b::L,λhh=>a5=n)) ?_ ?_
  ·have H:=a6
   refine Rg<|Mv z<|Wl z z<|Mv z<|T.bH 41 H z (λH=>?_) λH=>?_
   ·refine S2<|S2<|S2<|Sk<|Kt z<|Mv z<|S2<|S2<|S2<|S2<|S2<|S2<|Kt z<|Nt<|T.mt true (M0 H)
   refine Mv z<|Mv z<|NL z U8 D9 t.u z<|Vv (V.Q3 A9 z w)<|Vv (V.ge z z)<|Kf z<|Mv z<|T.bH 50 H z (λH=>?_) λH=>?_
   ·refine S2<|S2<|S2<|S2<|S2<|S2<|Kt z<|Nt<|T.mt true (M0 H)
   refine Mv z<|Vv (V.ge z z)<|Mv z<|T.bH 53 H z (λH=>?_) λH=>?_
   ·refine Mv z<|NF z B2z<|Vv (V.ldO (k:=2) D9 z (j:=0) z z)<|Mv z<|bE H λa8 J H=>?_
    obtain ⟨ca,a9,rfl⟩:=A7.get c J
    refine Vv (V.ixR A9 z z (j:=1) z (A7.bd c J))<|Vv (V.ldR D7 z (j:=1) z a9 z)<|Vv (V.ge z z)<|Kt z<|Kf z<|Nt<|T.mt (decide ((0:Int)≤a8)) (M0 H)
   refine S2<|S2<|S2<|S2<|Kf z<|Kf z<|Nt<|T.mt false (M0 H)
  rintro n K cb ah
  have H:=I4 ah a7
  refine T.norm [63,0,5,6,7,32,33,34] z<|T.fl ?_
  refine T.cH H z (λH=>?_) λH=>?_
  ·refine Sg z<|Nr<|Tr<|Br<|Tr<|Tr<|have H:=D6 H q; Br<|Tr<|have H:=I4 H C; T.drop<|T.drop ?_
   cases H
   exact T.rl z (Rv z) ⟨z,OPt.nil⟩
  refine Ks<|Sm z<|Vv (V.ge z z)<|Nt<|T.cH H z (λH=>?_) λH=>?_
  ·refine Rg<|Mv z<|NF z B2z<|Vv (V.ldO (k:=2) D9 z (j:=0) z z)<|Mv z<|Mv z<|bE H λcc x H=>?_
   obtain ⟨cd,ce,rfl⟩:=A7.get c x
   refine Vv (V.ixR A9 z z (j:=1) z (A7.bd c x))<|bE H λM al H=>To (O.stR D7 z z (j:=1) z (A7.bdN c x) z<|have av:A7 (VI .i64) K (b.set G.toNat [qi a]) M:=A7.set c.u (show (VI .i64) K [qi a] a from z) al; Ni<|Bn<|Th<|Rg<|bE H λaz ba H=>Vv (V.H5 z z ba)<|Mv z<|Nt<|Fr_ 1 z<|T.ag (D,M,az,(b.set G.toNat [qi a])) ⟨(D8 H q),av⟩)
  refine T.skip<|Bn<|Th<|Rg<|bE H λbb bc H=>Vv (V.H5 z z bc)<|Mv z<|Nt<|T.ag (D,d,bb,b) ⟨(D8 H q),c.u⟩
 refine T.exit<|Te<|Te<|have H:=D6 H q; Be<|Th<|have H:=I4 H C; Sm z<|Ag z<|Nr<|Fr_ 1 z<|T.K3 λcf cg be=>have bf:=A7.slc be c.u; T.C0I λci cj bg=>?_
 cases H
 exact T.rl z (Rv z) ⟨z,(OPt.some (Pt.mk bg ⟨(.pointer (some s)),g,m,z,(Pt.mk t.u ⟨ae,af,ai,aj,ak,am,an,ao,ap,aq,ar,au,aw,ax,z,ay.u,aA.u,aB.u,aC.u,aD.u,aE.u,w.u,aG.u,aI.u,aJ.u,aK.u,aM.u,aN.u,aO.u⟩),e.u,bf.u⟩))⟩
theorem C1F {h a b c d e f} (n:Pt W9 h a b) (o:G6 (VI .i64) 1 h c d) (H:B9b b d e=some f):∀ L,FnW prog 133 [a,c,.int .i64 e] h L (.int .i64 f):=by
 intro L
 refine J2.enter func133 z z z<|Sr<|An z<|Sm z<|Mv z<|bE H λau p H=>To (O.G5 z (A8b n o p _) z λaw ax ay aA q=>?_)
 obtain ⟨r,g⟩:=q
 refine P8 _ r<|An z<|Sq<|Sm z<|Vv (V.C8L underlying131 z g)<|Mv z<|T.bH 13 H z dead λH=>Mv z<|Wl z z<|Kf z<|Mv z<|T.bH 17 H z dead λH=>Mv z<|Mv z<|bE H λaB s H=>have t:=OPt.get g s; have u:=t; ?_
 obtain ⟨aC,_,rfl,i,⟨aD,w,x,rfl,y,A,B⟩⟩:=u
 refine NL z G8 I8 i z<|have C:=y; ?_
 obtain ⟨D,_,rfl,j,⟨E,G,I,J,K,M,N,P,S,U,W,X,Y,Z,rfl,aa,ab,ac,ad,m,ae,af,ag,ai,aj,ak,am,an,ao⟩⟩:=C
 exact NF z M3<|Vv (V.fa A3i z)<|Vv (V.M8 (k:=4) A1k z j z)<|Vv (V.Q3 Z6 z m)<|Vv (V.ge z z)<|Kf z<|Nt<|T.cH H z dead λH=>Ks<|Sm z<|Mv z<|bE H λaE ap H=>To (O.cs (B5s (Pt.mk i ⟨(.pointer (some D)),w,x,z,(Pt.mk j ⟨E,G,I,J,K,M,N,P,S,U,W,X,Y,Z,z,aa,ab,ac,ad,m,ae,af,ag,ai,aj,ak,am,an,ao⟩),A,B⟩) ap _) λaI aK=>Ag z<|Nr<|E1 H)
theorem C3F {h m n o p q f r} (C:Pt W9 h m n) (D:G6 (VI .i64) 1 h o p) (E:B3l h q f) (H:C2M n p f=some r):∀ L,FnW prog 85 [m,o,q] h L (.int .i64 r):=by
 intro L
 refine J2.enter func85 z z z<|Sr<|An z<|Sm z<|Mv z<|bE H λa8 G H=>To (O.G5 z (A8b C D G _) z λa9 ah al av I=>?_)
 obtain ⟨J,s⟩:=I
 refine P8 _ J<|An z<|Sq<|Sm z<|Vv (V.C8L underlying131 z s)<|Nt<|T.cH H z (λH=>?_) λH=>?_
 ·exact Sg z<|Nr<|Tr<|E1 H
 refine Ks<|Sr<|An z<|Sq<|Sm z<|bE H λK M H=>have N:=OPt.get s M; have P:=N; ?_
 obtain ⟨az,_,rfl,w,⟨ba,S,U,rfl,W,X,Y⟩⟩:=P
 refine NL z G8 I8 w z<|have Z:=W; ?_
 obtain ⟨aa,_,rfl,x,⟨ab,ac,ad,ae,af,ai,aj,ak,am,an,ao,ap,aq,ar,rfl,au,aw,ax,ay,e,aA,aB,aC,aD,aE,aG,aI,aJ,aK⟩⟩:=Z
 refine NF z M3<|Vv (V.fa A3i z)<|Vv (V.M8 (k:=4) A1k z x z)<|Vv (V.Q3 Z6 z e)<|Mv z<|Nt ?_
 obtain ⟨aM,aN,aO⟩:=J6 H
 have H:=aN
 refine Bl<|T.lk [2,7,23,24] (FUEL,(0:Int),(0:Int)) (λ⟨b,c,a⟩=>([(25,qi c),(8,qi a)],L,λhh=>iter (B7E f K) b (c,a)=some aM)) H ?_
 rintro ⟨b,c,a⟩ bb bc aP
 obtain ⟨y,bd,rfl,H,i⟩:=G7 aP
 refine T.norm [25,8,2,7,23,24] z<|T.fl ?_
 refine Sr<|Wl z z<|Nt<|Sq<|T.cH H z (λH=>?_) λH=>?_
 ·refine Ks<|Sq<|Bl<|Sm z<|bE H λd A H=>?_
  obtain ⟨be,aS,rfl⟩:=G6.at e A
  refine Vv (V.ix Z6 z z e (E8 A))<|Vv (V.ldS z aS.u (by exact K6)) ?_
  refine To (O.alloc A2G z z λbf=>Ag z<|To (O.stF (vs:=[.int .u8 d.F9,qi d.K8,.string d.fA,.string d.fB,.string d.I7,qi d.fN]) K6 z z (j:=0) z z z z<|T.freeze λaU bg aV=>have B:=Z8.of aV; Nt<|Sr<|Vv (V.fa A4n z)<|Vv (V.M8 (k:=1) D7 z B z)<|Wg z z<|Nt<|T.cH H z (λH=>?_) λH=>?_))
  ·refine T.N7 (t:=(.vs [0,1,2,3,4,5] (.alt 6 (.g (.v 7 (.v 8 (.alt 9 .done .no)))) .no))) 11 0 0 z z H9 (by kernel_rfl) ?_
   refine Tm z z<|Tv z (V.fa A4n z)<|Tv z (V.M8 (k:=1) D7 z B z)<|Tm z z<|Tm z z<|Tm z z<|bE H λbi aW H=>?_
   obtain ⟨bj,bk,bm,aX,aY⟩:=B3l.call (E.u (g:=aU)) (Pt.mk w.u ⟨(.pointer (some aa)),S,U,rfl,(Pt.mk x.u ⟨ab,ac,ad,ae,af,ai,aj,ak,am,an,ao,ap,aq,ar,rfl,au.u,aw.u,ax.u,ay.u,e.u,aA.u,aB.u,aC.u,aD.u,aE.u,aG.u,aI.u,aJ.u,aK.u⟩),X.u,Y.u⟩) aW
   refine Tp z z (X2 z z) (O.A1l z aX z (aY _) z λbn bo bp bq aZ=>?_) T.P6
   obtain ⟨rfl,a0⟩:=aZ
   refine P8 _ a0<|T.O1 Li<|bE H λbr a1 H=>Tv z (V.A9L z z a1)<|bE H λa2 a3 H=>Tv z (V.H5 z z a3)<|Ts z z (X2 z z) (V.asg z) z ?_ T.P6
   refine T.O6 (X2 z z)<|Bn<|Th<|Rg<|bE H λa4 a5 H=>Vv (V.H5 z z a5)<|Mv z<|Nt<|T.ag (y,a4,a2) (D8 H i)
  refine T.skip<|Bn<|Th<|Rg<|bE H λa6 a7 H=>Vv (V.H5 z z a7)<|Mv z<|Nt<|T.ag (y,a6,a) (D8 H i)
 exact T.exit<|Te<|Te<|have H:=D6 H i; Be<|Th<|have H:=I4 H aO; Sm z<|Ag z<|Nr<|E1 H
theorem C2K {h f g i m n o} (x:Pt W9 h f g) (y:G6 (VI .i64) 1 h i m) (H:B2U g m=some (n,o)):∀ L,FnW prog 130 [f,i] h L (.tuple #[.int .i64 n,.bool o]):=by
 intro L
 refine J2.enter func130 z z z<|Sg z<|An z<|Sm z<|Mv z<|bE H λaX A H=>To (O.G5 z (A8b x y A _) z λaY aZ a0 a1 B=>?_)
 obtain ⟨C,p⟩:=B
 refine P8 _ C<|An z<|Sq<|Sm z<|Vv (V.C8L underlying131 z p)<|Nt<|T.cH H z (λH=>?_) λH=>?_
 ·exact Sg z<|Ag z<|Nr<|Tr<|E1 H
 refine Ks<|Sq<|Sm z<|bE H λD E H=>have G:=OPt.get p E; have I:=G; ?_
 obtain ⟨a2,_,rfl,q,⟨a3,J,K,rfl,M,N,P⟩⟩:=I
 refine NL z G8 I8 q z<|have S:=M; ?_
 obtain ⟨U,_,rfl,r,⟨W,X,Y,Z,aa,ab,ac,ad,ae,af,ai,aj,ak,am,rfl,an,ao,ap,aq,d,ar,au,aw,ax,ay,aA,aB,aC,aD⟩⟩:=S
 refine NF z M3<|Vv (V.fa A3i z)<|Vv (V.M8 (k:=4) A1k z r z)<|Vv (V.Q3 Z6 z d)<|Mv z<|Nt ?_
 obtain ⟨aE,aG,s⟩:=J6 H
 have H:=aG
 refine Bl<|T.lk [6,21,22] (FUEL,(0:Int)) (λ⟨a,b⟩=>([(23,qi b)],L,λhh=>iter (A5E D) a b=some aE)) H ?_
 rintro ⟨a,b⟩ a4 a5 aI
 obtain ⟨t,a6,rfl,H,e⟩:=G7 aI
 refine T.norm [23,6,21,22] z<|T.fl ?_
 refine Sr<|Wl z z<|Nt<|Sq<|T.cH H z (λH=>?_) λH=>?_
 ·refine Ks<|Sq<|Bl<|Sm z<|bE H λc w H=>?_
  obtain ⟨a7,aJ,rfl⟩:=G6.at d w
  refine Vv (V.ix Z6 z z d (E8 w))<|Vv (V.ldS z aJ.u (by exact K6)) ?_
  refine To (O.alloc A2G z z λa8=>Ag z<|To (O.stF (vs:=[.int .u8 c.F9,qi c.K8,.string c.fA,.string c.fB,.string c.I7,qi c.fN]) K6 z z (j:=0) z z z z<|T.freeze λa9 ah aK=>have aM:=Z8.of aK; Nt<|Sr<|Vv (V.fa A4n z)<|Vv (V.M8 (k:=1) D7 z aM z)<|We z z<|Mv z<|T.bH 31 H z (λH=>?_) λH=>?_))
  ·refine Mv z<|Mv z<|bE H λal aN H=>To (O.cs (B5s (Pt.mk q.u ⟨(.pointer (some U)),J,K,z,(Pt.mk r.u ⟨W,X,Y,Z,aa,ab,ac,ad,ae,af,ai,aj,ak,am,z,an.u,ao.u,ap.u,aq.u,d.u,ar.u,au.u,aw.u,ax.u,ay.u,aA.u,aB.u,aC.u,aD.u⟩),N.u,P.u⟩) aN _) λaz bb=>Wg z z<|Kt z<|Nt<|T.cH H z (λH=>?_) λH=>?_)
   ·exact Sm z<|Ag z<|Ag z<|Nr<|Br<|Tr<|Tr<|have H:=D6 H e; Br<|Tr<|have H:=I4 H s; E1 H
   refine T.skip<|Bn<|Th<|Rg<|bE H λaS aU H=>Vv (V.H5 z z aU)<|Mv z<|Nt<|T.ag (t,aS) (D8 H e)
  refine S2<|S2<|Kf z<|Nt<|Cf z<|T.skip<|Bn<|Th<|Rg<|bE H λaV aW H=>Vv (V.H5 z z aW)<|Mv z<|Nt<|T.ag (t,aV) (D8 H e)
 exact T.exit<|Te<|Te<|have H:=D6 H e; Be<|Th<|have H:=I4 H s; Sg z<|Ag z<|Nr<|E1 H
theorem B5k {h a b c d e} (f:Pt W9 h a b) (g:G6 (VI .i64) 1 h c d) (H:B6i b d=some e):∀ L,FnW prog 40 [a,c] h L (.int .i64 e):=by
 intro L
 exact J2.enter func40 z z z<|Sr<|An z<|Sm z<|Mv z<|bE H λp i H=>To (O.cs (C3F f g (show B3l h (.func (.func 62) #[] #[]) A4l from ⟨⟨z,z⟩,.inr ⟨62,[],[],z,λq r s t j u w k m=>B0o j k m⟩⟩) i _) λy B=>Ag z<|Nr<|E1 H)
theorem B8B {h b c d e f g i j k} (m:Z8 h d e) (q:(VSl (VI .i64) 1) h e f) (n:Z8 h g i) (r:(VI .i64) h i j) (H:A5s b c f j=some k):∀ L,FnW prog 249 [.int .i64 b,.int .i64 c,.pointer (some d),.pointer (some g)] h L (.int .i64 k):=by
 intro L
 obtain ⟨A,rfl,a⟩:=q
 obtain rfl:=r
 refine J2.enter func249 z z z<|Sr<|An z<|Sq<|T.N7 (t:=(.vs [0,1,2,3,4,5,6,7,8,9,10,11,12] (.alt 13 .done .no))) 15 0 0 z z H9 (by kernel_rfl) ?_
 refine Tv z (V.R5 D9 z m z)<|Tm z z<|Tv z (V.R5 D7 z n z)<|bE H λB s H=>Tv z (V.Z4 z z s)<|bE H λC o H=>?_
 obtain ⟨D,u,rfl⟩:=G6.at a o
 refine Tv z (V.ix A9 z z a (E8 o))<|Tv z (V.R5 D7 z u z)<|Tv z (V.R5 D9 z m z)<|Tm z z<|Tv z (V.R5 D7 z n z)<|bE H λE w H=>Tv z (V.Z4 z z w)<|bE H λG p H=>?_
 obtain ⟨I,x,rfl⟩:=G6.at a p
 refine Tv z (V.ix A9 z z a (E8 p))<|Tv z (V.R5 D7 z x z)<|bE H λJ y H=>Tv z (V.Z4 z z y)<|Ts z z (X2 z z) (V.asg z) z ?_ T.P6
 exact T.O6 (X2 z z)<|Th<|T.ret<|E1 H
theorem B4i {h s t w x} (e:G6 I6 7 h s t) (H:A8E t w=some x):∀ L,J2 prog 234 [s,.int .i64 w] h (L) (λv h' L'=>∃ y,L'=F3 3 1 v y::L∧A7 (VI .i64) h' y x):=by
 intro L
 refine J2.enter func234 z z z<|Sr<|An z<|Sq<|Sq ?_
 obtain ⟨P,S,U⟩:=J6 H
 refine T.ck (α:=Bool) [0,1] (λf=>([(21,.bool f)],L,λhh=>P=f)) ?_ ?_
 ·have H:=S
  refine Rg<|Mv z<|Wl z z<|Mv z<|T.bH 11 H z (λH=>?_) λH=>?_
  ·refine S2<|S2<|Kt z<|Mv z<|S2<|Sk<|Kt z<|Nt<|T.mt true (M0 H)
  refine Mv z<|Mv z<|Vv (V.Q3 O5 z e)<|Vv (V.ge z z)<|Kf z<|Mv z<|T.bH 17 H z (λH=>?_) λH=>?_
  ·refine S2<|Sk<|Kt z<|Nt<|T.mt true (M0 H)
  refine Mv z<|bE H λW X H=>To (O.G5 z (A5n e X _) z λaW aX aY aZ Y=>?_)
  obtain ⟨rfl,Z⟩:=Y
  refine P8 _ Z<|Vv (V.not z)<|Kf z<|Nt<|T.mt (!W) (M0 H)
 rintro f aa a0 ab
 have H:=I4 ab U
 refine T.norm [21,0,1] z<|T.fl ?_
 refine T.cH H z (λH=>?_) λH=>?_
 ·refine Sg z<|Nr<|Tr<|T.Q8 3 1<|have ac:A7 (VI .i64) aa [] ([]:List Int):=A7.nil; ?_
  cases H
  exact T.rl z (Rv z) ⟨_,z,ac⟩
 refine Ks<|Sm z<|Mv z<|bE H λa1 A H=>?_
 obtain ⟨a2,ad,⟨ae,rfl,af⟩⟩:=G6.at e A
 refine Vv (V.ix O5 z z e (E8 A))<|Vv (V.ldS z ad.u (by exact J3)) ?_
 refine bE H λn ai H=>To (O.G5 z (B4l ⟨ae,z,af.u⟩ ai _) z λo a3 a4 a5 aj=>?_)
 obtain ⟨a6,ak,am⟩:=aj
 refine P8 _ ak<|To (O.alloc A1w z z λB=>Fr_ 1 z<|T.K3 λa7 a8 an=>have k:=A7.slc an am.u; To (O.stF (vs:=[o]) D9 z z (j:=0) z (G6.cells k) (by (simp only [BT,G6.one k]) <;> rfl) z ?_))
 refine T.freeze λa9 ah ao=>have C:=Z8.of ao; Nt<|Sm z<|Mv z<|bE H λg ap H=>To (O.cs (A5H e.u ap _) λav ba=>To (O.alloc J7 z z λD=>To (O.stF (vs:=[qi g]) D7 z z (j:=0) z z z z<|T.freeze λau bb aw=>have E:=Z8.of aw; Nt<|Sr<|Vv (V.R5 D9 z C.u z)<|Vv (V.Q3 A9 z k)<|bE H λp G H=>To (O.mkX A9 J7 z z z z G z λI bc be=>have J:A7 (VI .i64) au _ p:=A7.rep z G; An z<|Sq<|Sm z<|Vv (V.A4a A9 z (j:=0) z J.len)<|Mv z<|Nt ?_))))
 obtain ⟨ax,ay,aA⟩:=J6 H
 have H:=ay
 refine Bl<|T.lk [5,6,34] (FUEL,(0:Int),p,(List.replicate (n.length:Int).toNat [qi 0])) (λ⟨c,a,d,b⟩=>([(35,qi a),(7,I)],F3 3 1 I b::L,λhh=>iter (A6w g p) c (a,d)=some ax∧A7 (VI .i64) hh b d)) ⟨H,J⟩ ?_
 rintro ⟨c,a,d,b⟩ q bf ⟨aB,i⟩
 obtain ⟨aC,bg,rfl,H,K⟩:=G7 aB
 refine T.norm [35,7,5,6,34] z<|T.fl ?_
 refine Sr<|Wl z z<|Nt<|Sq<|T.cH H z (λH=>?_) λH=>?_
 ·refine Ks<|Sq<|Bl<|Sm z<|An z<|Rg<|Mv z<|Mv z<|Vv (V.R5 D7 z E.u z)<|Mv z<|bE H λm aD H=>Vv (V.H5 z z aD)<|bE H λbi r H=>?_
  obtain ⟨bj,bk,rfl⟩:=A7.get i r
  refine Vv (V.ixR A9 z z (j:=0) z (A7.bd i r))<|bE H λM aE H=>To (O.stR D7 z z (j:=0) z (A7.bdN i r) z<|have aG:A7 (VI .i64) q (b.set a.toNat [qi m]) M:=A7.set i (show (VI .i64) q [qi m] m from z) aE; Ni<|Bn<|Th<|Rg<|bE H λaI aJ H=>Vv (V.H5 z z aJ)<|Mv z<|Nt<|T.ag (aC,aI,M,(b.set a.toNat [qi m])) ⟨(D8 H K),aG⟩)
 refine T.exit<|Te<|Te<|have H:=D6 H K; Be<|Th<|have H:=I4 H aA; Sm z<|Vv (V.mkf z z)<|bE H λbm aK H=>To (O.G5 z (B5h i (show B0C q (.func (.func 249) #[] #[qp B,qp D]) (λaM aN=>A5s aM aN n g) from ⟨⟨z,z⟩,.inr ⟨249,[],[qp B,qp D],z,λN bn bo bp bq aO aP=>B8B C.u (show (VSl (VI .i64) 1) N [o] n from ⟨o,z,k.u⟩) E.u (show (VI .i64) N [qi g] g from z) aO aP⟩⟩) aK _) z λbr bs bt bu aS=>?_)
 obtain ⟨bw,rfl,aU,aV⟩:=aS
 refine P8 _ aU<|Nt<|Sm z<|Ag z<|Nr ?_
 cases H
 exact T.rl z (Rv z) ⟨_,z,aV⟩
theorem C0u {h I x y J} (ak:N8 h I x) (H:B0I x y=some J):∀ L,J2 prog 215 [.agg I.toArray,.int .i64 y] h (L) (λv h' L'=>∃ K,L'=F3 3 1 v K::L∧A7 (VI .i64) h' K J):=by
 intro L
 obtain ⟨am,an,ao,aq,ar,rfl,b,au,aw,ax,A⟩:=ak
 refine J2.enter func215 z z z<|Sr<|To (O.U4 z z z λbJ bK bM f=>An z<|Sq<|Sr<|Vv (V.ldS z f (by exact J9)) ?_)
 refine bE H λ⟨bN,bO⟩ ay H=>To (O.cs (A7M ⟨am,an,ao,aq,ar,z,b.u,au.u,aw.u,ax.u,A.u⟩ ay _) λbS bV=>Mv z<|Wx z z<|Wx z z<|Ag z<|An z<|Sq ?_)
 obtain ⟨aC,aD,aE⟩:=J6 H
 refine T.ck (α:=Bool) [1,2] (λr=>([(27,.bool r)],L,λhh=>aC=r)) ?_ ?_
 ·have H:=aD
  refine Rg<|Mv z<|Wn z z<|Mv z<|T.bH 17 H z (λH=>?_) λH=>?_
  ·refine S2<|Kt z<|Mv z<|S2<|S2<|Sk<|Kt z<|Nt<|T.mt true (M0 H)
  refine Mv z<|Wl z z<|Kf z<|Mv z<|T.bH 21 H z (λH=>?_) λH=>?_
  ·refine S2<|S2<|Sk<|Kt z<|Nt<|T.mt true (M0 H)
  refine Mv z<|Vv (V.fa M6 z)<|Vv (V.M8 (k:=0) Q0 z f.u z)<|Vv (V.Q3 O5 z b)<|Vv (V.ge z z)<|Kf z<|Nt<|T.mt (decide ((x.C8.length:Int)≤y)) (M0 H)
 rintro r M bW aG
 have H:=I4 aG aE
 refine T.norm [27,1,2] z<|T.fl ?_
 refine T.cH H z (λH=>?_) λH=>?_
 ·refine Sg z<|Nr<|Tr<|T.Q8 3 1<|have aI:A7 (VI .i64) M [] ([]:List Int):=A7.nil; ?_
  cases H
  exact T.rl z (Rv z) ⟨_,z,aI⟩
 refine Ks<|Sr<|An z<|Sq<|Sr<|Vv (V.fa A2x z)<|Vv (V.M8 (k:=4) A1k z f.u z)<|Vv (V.Q3 Z6 z A)<|Mv z<|Nt ?_
 obtain ⟨aJ,aK,aM⟩:=J6 H
 have H:=aK
 refine Bl<|T.Q8 3 1<|have aN:A7 (VI .i64) M [] ([]:List Int):=A7.nil; T.lk [1,2,29,30] (FUEL,(0:Int),([]:List Int),(qs),[]) (λ⟨n,o,i,c,a⟩=>([(31,qi o),(7,c)],F3 3 1 c a::L,λhh=>iter (A6B x y) n (o,i)=some aJ∧A7 (VI .i64) hh a i)) ⟨H,aN⟩ ?_
 rintro ⟨n,o,i,c,a⟩ bX bY ⟨aO,d⟩
 obtain ⟨s,bZ,rfl,H,p⟩:=G7 aO
 refine T.norm [31,7,1,2,29,30] z<|T.fl ?_
 refine Sr<|Wl z z<|Nt<|Sq<|T.cH H z (λH=>?_) λH=>?_
 ·refine Ks<|Sq<|Bl<|Sr<|bE H λm N H=>?_
  obtain ⟨b0,aP,rfl⟩:=G6.at A N
  refine Vv (V.ix Z6 z z A (E8 N))<|Vv (V.ldS z aP.u (by exact K6)) ?_
  refine To (O.alloc A2G z z λb2=>To (O.stF (vs:=[.int .u8 m.F9,qi m.K8,.string m.fA,.string m.fB,.string m.I7,qi m.fN]) K6 z z (j:=0) z z z z<|T.freeze λb3 b4 aS=>have q:=Z8.of aS; Nt<|Bl<|Sq ?_))
  obtain ⟨aU,aV,aW⟩:=J6 H
  refine T.ck (α:=Bool) [1,2,7,9,29,30,31] (λw=>([(35,.bool w)],F3 3 1 c a::L,λhh=>aU=w)) ?_ ?_
  ·have H:=aV
   refine T.N7 (t:=(.vs [0,1,2,3,4,5,6,7,8,9,10,11,12,13] (.alt 14 .done .no))) 16 0 0 z z H9 (by kernel_rfl) ?_
   refine Tv z (V.fa A2t z)<|Tv z (V.M8 (k:=0) A5G z q z)<|Tv z (V.eq z z)<|Tm z z<|T.bH 39 H z (λH=>?_) λH=>?_
   ·refine Tv z (V.fa V8 z)<|Tv z (V.M8 (k:=4) J5 z q z)<|Tv z (V.fa M6 z)<|Tv z (V.M8 (k:=0) Q0 z f.u z)<|Tm z z<|bE H λaX P H=>?_
    obtain ⟨b5,aY,⟨b6,rfl,b7⟩⟩:=G6.at b P
    refine Tv z (V.ix O5 z z b (E8 P))<|Tv z (V.fa A0o z)<|Tv z (V.M8 (k:=0) J5 z aY.u z)<|Tv z (V.seq z z)<|Tv z (V.pkT z z)<|Ts z z (X2 z z) (V.asg z) z ?_ T.P6
    refine T.O6 (X2 z z)<|Th<|T.mt (decide (m.I7=aX.F8)) (M0 H)
   refine T2 z z<|T2 z z<|T2 z z<|T2 z z<|Tk z<|Tv z (V.pkF z z)<|Ts z z (X2 z z) (V.asg z) z ?_ T.P6
   refine T.O6 (X2 z z)<|Th<|T.mt false (M0 H)
  rintro w b8 b9 aZ
  have H:=I4 aZ aW
  refine T.norm [35,1,2,7,9,29,30,31] z<|T.fl ?_
  refine T.cH H z (λH=>?_) λH=>?_
  ·refine T.N7 (t:=(.vs [0,1,2,3,5,6] (.alt 4 (.g (.v 7 (.alt 8 (.alt 9 (.alt 10 .done .no) .no) .no))) .no))) 9 1 0 z z H9 (by kernel_rfl) ?_
   refine Tm z z<|Tv z (V.fa M6 z)<|Tv z (V.M8 (k:=0) Q0 z f.u z)<|Tm z z<|Tv z (V.fa U5 z)<|Tv z (V.M8 (k:=5) D7 z q.u z)<|bE H λbh a0 H=>Tp z z (X3 [] [0] z z) (O.G5 z (A5H b.u a0 _) z λbl S bv bz a1=>?_) T.P6
   obtain ⟨rfl,a2⟩:=a1
   refine P8 _ a2<|T.O1 Li<|bE H λB a3 H=>Tv z (V.H5 z z a3)<|Tp z z (X3 [] [0] z z) (O.bs A9 J7 z (e:=z) (hk:=z) (xs:=[.tmp 57]) (hv:=CO.eq (CO.cons z CO.nil)) (hw:=O4.of z) (hd:=z) λca=>?_) T.P6
   have C:A7 (VI .i64) S [[qi B]] ([B]:List Int):=(A7.cons z A7.nil)
   refine bE H λU W H=>Tp z z (X3 [] [1] z z) (O.apX A9 A9 J7 z z z (j:=1) z (Src.row (j:=0) z) (O4.of z) (A7.ones VI.plain C) d.u C W z λa4 cb cc=>?_) T.P6
   have a5:A7 (VI .i64) S (a++[[qi B]]) U:=A7.ap d.u C W
   refine Fr_ 1 z<|T.drop<|Ts z z (SX.one (XA.fr [] Lr z) z) (V.asg z) z ?_ T.P6
   refine T.O6 (SX.one (XA.fr [] Lr z) z)<|Bn<|Bn<|Th<|Rg<|bE H λa6 a7 H=>Vv (V.H5 z z a7)<|Mv z<|Nt<|T.ag (s,a6,U,a4,(a++[[qi B]])) ⟨(D8 H p),a5⟩
  refine Sq<|T.N7 (t:=(.vs [0,1,2,3,4,5,6,7,8,9,10,11,12,13,14,15,16,17,18] (.alt 19 .done .no))) 21 0 0 z z H9 (by kernel_rfl) ?_
  refine Tv z (V.fa A2t z)<|Tv z (V.M8 (k:=0) A5G z q.u z)<|Tv z (V.eq z z)<|Tm z z<|T.bH 64 H z (λH=>?_) λH=>?_
  ·refine Tv z (V.fa V8 z)<|Tv z (V.M8 (k:=4) J5 z q.u z)<|Tv z (V.seq z z)<|Tm z z<|T.bH 68 H z (λH=>?_) λH=>?_
   ·refine T2 z z<|T2 z z<|T2 z z<|T2 z z<|Tk z<|Tv z (V.pkT z z)<|Tv z (V.pkT z z)<|Ts z z (X2 z z) (V.asg z) z ?_ T.P6
    refine T.O6 (X2 z z)<|Th<|Ct z<|Rg<|Mv z<|Vv (V.fa M6 z)<|Vv (V.M8 (k:=0) Q0 z f.u z)<|Mv z<|bE H λcd a8 H=>To (O.G5 z (B4i b.u a8 _) z λce a9 cf cg ah=>?_)
    obtain ⟨ci,al,X⟩:=ah
    refine P8 _ al<|bE H λY Z H=>?_
    obtain ⟨cj,av,rfl⟩:=A7.get X Z
    refine Vv (V.ixR A9 z z (j:=0) z (A7.bd X Z))<|Vv (V.ldR D7 z (j:=0) z av z)<|To (O.b1 (E:=VI .i64) A9 J7 z z z z z λck D=>bE H λaa ab H=>To (O.apX A9 A9 J7 z z z (j:=2) z (Src.row (j:=0) z) (O4.of z) (A7.ones VI.plain D) d.u D ab z λaz cm cn=>have ba:A7 (VI .i64) a9 (a++[[qi Y]]) aa:=A7.ap d.u D ab; T.fl ?_))
    refine T.fs [1] ?_
    refine T.drop<|Ag z<|Ni<|Bn<|Bn<|Th<|Rg<|bE H λbb bc H=>Vv (V.H5 z z bc)<|Mv z<|Nt<|Fr_ 1 z<|T.drop<|T.ag (s,bb,aa,az,(a++[[qi Y]])) ⟨(D8 H p),ba⟩
   refine Tv z (V.fa V8 z)<|Tv z (V.M8 (k:=4) J5 z q.u z)<|Tv z (V.fa M6 z)<|Tv z (V.M8 (k:=0) Q0 z f.u z)<|Tm z z<|bE H λco ac H=>?_
   obtain ⟨cp,be,⟨cq,rfl,cr⟩⟩:=G6.at b ac
   refine Tv z (V.ix O5 z z b (E8 ac))<|Tv z (V.fa A0o z)<|Tv z (V.M8 (k:=0) J5 z be.u z)<|Tv z (V.seq z z)<|Tv z (V.pkF z z)<|Tv z (V.pkT z z)<|Ts z z (X2 z z) (V.asg z) z ?_ T.P6
   refine T.O6 (X2 z z)<|Th<|T.cH H z (λH=>?_) λH=>?_
   ·refine Rg<|Mv z<|Vv (V.fa M6 z)<|Vv (V.M8 (k:=0) Q0 z f.u z)<|Mv z<|bE H λcs bf H=>To (O.G5 z (B4i b.u bf _) z λct bg cu cw bi=>?_)
    obtain ⟨cx,bj,ad⟩:=bi
    refine P8 _ bj<|bE H λae af H=>?_
    obtain ⟨cy,bk,rfl⟩:=A7.get ad af
    refine Vv (V.ixR A9 z z (j:=0) z (A7.bd ad af))<|Vv (V.ldR D7 z (j:=0) z bk z)<|To (O.b1 (E:=VI .i64) A9 J7 z z z z z λcA G=>bE H λai aj H=>To (O.apX A9 A9 J7 z z z (j:=2) z (Src.row (j:=0) z) (O4.of z) (A7.ones VI.plain G) d.u G aj z λbm cB cC=>have bn:A7 (VI .i64) bg (a++[[qi ae]]) ai:=A7.ap d.u G aj; T.fl ?_))
    refine T.fs [1] ?_
    refine T.drop<|Ag z<|Ni<|Bn<|Bn<|Th<|Rg<|bE H λbo bp H=>Vv (V.H5 z z bp)<|Mv z<|Nt<|Fr_ 1 z<|T.drop<|T.ag (s,bo,ai,bm,(a++[[qi ae]])) ⟨(D8 H p),bn⟩
   refine T.skip<|Bn<|Bn<|Th<|Rg<|bE H λbq br H=>Vv (V.H5 z z br)<|Mv z<|Nt<|T.ag (s,bq,i,c,a) ⟨(D8 H p),d.u⟩
  refine T2 z z<|T2 z z<|T2 z z<|T2 z z<|T2 z z<|T2 z z<|T2 z z<|Tv z (V.pkF z z)<|Ts z z (X2 z z) (V.asg z) z ?_ T.P6
  refine T.O6 (X2 z z)<|Th<|Cf z<|T.skip<|Bn<|Bn<|Th<|Rg<|bE H λbt bu H=>Vv (V.H5 z z bu)<|Mv z<|Nt<|T.ag (s,bt,i,c,a) ⟨(D8 H p),d.u⟩
 refine T.exit<|Te<|Te<|have H:=D6 H p; Be<|Th<|have H:=I4 H aM; Sm z<|bE H λcD bw H=>To (O.G5 z (C1L d bw _) z λcE cG cI cJ bx=>?_)
 obtain ⟨cK,rfl,bA,bB⟩:=bx
 refine P8 _ bA<|Nt<|Sm z<|bE H λcM bC H=>To (O.G5 z (B8J bB bC _) z λcN cO cP cS bD=>?_)
 obtain ⟨cU,bG,bI⟩:=bD
 refine P8 _ bG<|Ag z<|Nr ?_
 cases H
 exact T.rl z (Rv z) ⟨_,z,bI⟩
end Go.Proofs.X
open Go Go.Proofs Go.Proofs.Tryz Go.Sl Go.Dm
namespace Go.Proofs.X
theorem C1U:O8 prog 202 5=some 5:=by kernel_rfl
theorem C5f:U7 prog 200=some (false,1):=by kernel_rfl
theorem A9I:zer prog 84=some (.slice none 0 0):=by kernel_rfl
theorem C1o {h a b c d e} (f:Z8 h b c) (g:I6 h c d) (H:A8D a d=some e):∀ L,FnW prog 238 [.int .i64 a,.pointer (some b)] h L (.bool e):=by
 intro L
 obtain ⟨i,rfl,j⟩:=g
 refine J2.enter func238 z z z<|Sr<|An z<|Sm z<|Wl z z<|Mv z<|T.bH 6 H z (λH=>?_) λH=>?_
 ·exact S2<|S2<|Kt z<|Ag z<|Nr<|E1 H
 refine Mv z<|Vv (V.ldS z f (by exact J3)) ?_
 exact bE H λo k H=>To (O.cs (A2o ⟨i,z,j⟩ k _) λq s=>Vv (V.ge z z)<|Kf z<|Ag z<|Nr<|E1 H)
theorem C1k {h a b c d e} (i:Z8 h b c) (j:(VSl (VI .i64) 1) h c d) (H:A8H a d=some e):∀ L,FnW prog 241 [.int .i64 a,.pointer (some b)] h L (.bool e):=by
 intro L
 obtain ⟨m,rfl,f⟩:=j
 refine J2.enter func241 z z z<|Sr<|An z<|Sr<|Vv (V.R5 D9 z i z)<|Mv z<|bE H λn g H=>?_
 obtain ⟨o,k,rfl⟩:=G6.at f g
 exact Vv (V.ix A9 z z f (E8 g))<|Vv (V.R5 D7 z k z)<|Mv z<|Wn z z<|Ag z<|Nr<|E1 H
theorem C2p {h s m w n x} (E:I6 h s m) (a:G6 (VI .i64) 1 h w n) (H:A1T m n=some x):∀ L,FnW prog 240 [.agg s.toArray,w] h L (.bool x):=by
 intro L
 obtain ⟨o,rfl,c⟩:=E
 refine J2.enter func240 z z z<|Sr<|To (O.U4 z z z λaD aE aG d=>An z<|Sq<|Sm z<|Vv (V.Q3 A9 z a)<|Mv z<|Nt ?_)
 obtain ⟨G,I,p⟩:=J6 H
 have H:=I
 refine Bl<|T.lk [1,2,8] (FUEL,(0:Int)) (λ⟨e,b⟩=>([(9,qi b)],L,λhh=>iter (A7V m n) e b=some G)) H ?_
 rintro ⟨e,b⟩ aI aJ J
 obtain ⟨K,aK,rfl,H,j⟩:=G7 J
 refine T.norm [9,1,2,8] z<|T.fl ?_
 refine Sr<|Wl z z<|Nt<|Sq<|T.cH H z (λH=>?_) λH=>?_
 ·refine Ks<|Sq<|Bl<|Sm z<|An z<|Sq<|Sq<|T.N7 (t:=(.vs [0,1,2,4,5,6,7,8,9] (.alt 3 (.g (.alt 10 (.g (.v 11 .done)) .no)) .no))) 13 0 0 z z H9 (by kernel_rfl) ?_
  refine Tv z (V.fa Y6 z)<|Tv z (V.M8 (k:=4) D9 z d.u z)<|Tm z z<|Tv z (V.fa Y6 z)<|Tv z (V.M8 (k:=4) D9 z d.u z)<|Tm z z<|Tm z z<|bE H λaM y H=>?_
  obtain ⟨aN,M,rfl⟩:=G6.at a y
  refine Tv z (V.ix A9 z z a (E8 y))<|Tv z (V.R5 D7 z M.u z)<|bE H λaO N H=>Tp z z (X2 z z) (O.G5 z (A2m c.u N _) z λaP aS aU aV P=>?_) T.P6
  obtain ⟨rfl,S⟩:=P
  refine P8 _ S<|T.O1 Li<|bE H λaW U H=>Tp z z (X2 z z) (O.G5 z (A2m c.u U _) z λaX aY aZ a0 W=>?_) T.P6
  obtain ⟨rfl,X⟩:=W
  refine P8 _ X<|T.O1 Li<|Tv z (V.bne underlying4 z z)<|T.O6 (X2 z z)<|Th<|T.cH H z (λH=>?_) λH=>?_
  ·exact Sg z<|Nr<|Tr<|Br<|Tr<|Tr<|have H:=D6 H j; Br<|Tr<|have H:=I4 H p; E1 H
  refine Ks<|Sm z<|Mv z<|Nt<|T.A0S ?_
  obtain ⟨Y,Z,r⟩:=J6 H
  have H:=Z
  refine Bl<|T.lk [1,2,5,8,9,24] (FUEL,(0:Int)) (λ⟨f,i⟩=>([(25,qi i)],L,λhh=>iter (A5z m n b) f i=some Y)) H ?_
  rintro ⟨f,i⟩ a1 a2 aa
  obtain ⟨ab,a3,rfl,H,q⟩:=G7 aa
  refine T.norm [25,1,2,5,8,9,24] z<|T.fl ?_
  refine Sr<|Wl z z<|Nt<|Sq<|T.cH H z (λH=>?_) λH=>?_
  ·refine Ks<|Sq<|Bl<|Sm z<|An z<|Sq<|T.N7 (t:=(.vs [0,1,2,4,5,6,7,8,9,10,11,12] (.alt 3 (.g (.alt 13 (.g (.vs [14,15,16,17,18,20,21,22,23,24,25,26,27,28] (.alt 19 (.g (.alt 29 (.g (.v 30 (.v 31 .done))) .no)) .no))) .no)) .no))) 33 0 0 z z H9 (by kernel_rfl) ?_
   refine Tv z (V.ldS z d.u (by exact J3)) ?_
   refine Tm z z<|Tm z z<|Tv z (V.ldS z d.u (by exact J3)) ?_
   refine Tm z z<|Tm z z<|bE H λa4 A H=>?_
   obtain ⟨a5,ac,rfl⟩:=G6.at a A
   refine Tv z (V.ix A9 z z a (E8 A))<|Tv z (V.R5 D7 z ac.u z)<|Tm z z<|Tm z z<|bE H λa6 B H=>?_
   obtain ⟨a7,ad,rfl⟩:=G6.at a B
   refine Tv z (V.ix A9 z z a (E8 B))<|Tv z (V.R5 D7 z ad.u z)<|bE H λa8 ae H=>Tp z z (X2 z z) (O.G5 z (A6z ⟨o,z,c.u⟩ ae _) z λa9 ah al av af=>?_) T.P6
   obtain ⟨rfl,ai⟩:=af
   refine P8 _ ai<|T.O1 Li<|bE H λaz aj H=>Tp z z (X2 z z) (O.G5 z (A6z ⟨o,z,c.u⟩ aj _) z λba bb bc bd ak=>?_) T.P6
   obtain ⟨rfl,am⟩:=ak
   refine P8 _ am<|T.O1 Li<|Tv z (V.bne underlying4 z z)<|Tm z z<|T.bH 43 H z (λH=>?_) λH=>?_
   ·refine T2 z z<|T2 z z<|T2 z z<|T2 z z<|T2 z z<|T2 z z<|T.A4m z z (X2 z z) z ?_ T.P6
    refine T.O1 Lr<|T.A4m z z (X2 z z) z ?_ T.P6
    exact T.O1 Lr<|Tk z<|Tv z (V.pkT z z)<|T.O6 (X2 z z)<|Th<|Ct z<|Sg z<|Nr<|Br<|Tr<|Tr<|have H:=D6 H q; Br<|Tr<|have H:=I4 H r; Br<|Tr<|Tr<|have H:=D6 H j; Br<|Tr<|have H:=I4 H p; E1 H
   refine Tv z (V.ldS z d.u (by exact J3)) ?_
   refine Tm z z<|Tm z z<|Tv z (V.ldS z d.u (by exact J3)) ?_
   refine Tm z z<|Tm z z<|bE H λbe C H=>?_
   obtain ⟨bf,an,rfl⟩:=G6.at a C
   refine Tv z (V.ix A9 z z a (E8 C))<|Tv z (V.R5 D7 z an.u z)<|Tm z z<|Tm z z<|bE H λbg D H=>?_
   obtain ⟨bi,ao,rfl⟩:=G6.at a D
   refine Tv z (V.ix A9 z z a (E8 D))<|Tv z (V.R5 D7 z ao.u z)<|bE H λbj ap H=>Tp z z (X2 z z) (O.G5 z (A7j ⟨o,z,c.u⟩ ap _) z λbk bm bn bo aq=>?_) T.P6
   obtain ⟨rfl,ar⟩:=aq
   refine P8 _ ar<|T.O1 Li<|bE H λbp au H=>Tp z z (X2 z z) (O.G5 z (A7j ⟨o,z,c.u⟩ au _) z λbq br bs bt aw=>?_) T.P6
   obtain ⟨rfl,ax⟩:=aw
   refine P8 _ ax<|T.O1 Li<|Tv z (V.bne underlying4 z z)<|Tv z (V.pkF z z)<|T.O6 (X2 z z)<|Th<|T.cH H z (λH=>?_) λH=>?_
   ·exact Sq<|T.norm [] z<|Rg<|Ag z<|Nr<|Br<|Tr<|Tr<|have H:=D6 H q; Br<|Tr<|have H:=I4 H r; Br<|Tr<|Tr<|have H:=D6 H j; Br<|Tr<|have H:=I4 H p; E1 H
   refine T.skip<|Bn<|Th<|T.norm [1,2,5,8,9,24,25] z<|Rg<|bE H λay aA H=>Vv (V.H5 z z aA)<|Mv z<|Nt<|T.ag (ab,ay) (D8 H q)
  refine T.exit<|Te<|Te<|have H:=D6 H q; Be<|Th<|have H:=I4 H r; Bn<|Th<|Rg<|bE H λaB aC H=>Vv (V.H5 z z aC)<|Mv z<|Nt<|T.ag (K,aB) (D8 H j)
 exact T.exit<|Te<|Te<|have H:=D6 H j; Be<|Th<|have H:=I4 H p; Sg z<|Nr<|E1 H
theorem B3V {σ:Type} {R:σ→PH→List E5→Prop} {q:σ→(List Int)→Option (σ×Bool)} {r:σ} {q_s:σ} {h C La D E G} (s:C1G R h C q) (hRa:R r h La) (o:Z8 h D E) (Z:I6 h E G) (H:A3W q r G=some q_s):∀ As L,J2 prog 252 [C,.pointer (some D)] h ((As++(La++L))) (λv h' L'=>∃ La',v=.tuple #[]∧L'=(As++(La'++L))∧R q_s h' La'):=by
 intro As L
 obtain ⟨aa,rfl,ab⟩:=Z
 refine J2.enter func252 z z z<|Sr<|Vv (V.fa A3g z)<|Vv (V.M8 (k:=1) A6o z o z)<|bE H λ⟨ac,bs⟩ ad H=>To (O.G5 z (A2N ad _) z λbt bu bw ae af=>?_)
 obtain ⟨ai,aj,ak,am,an,rfl,ao,ap,aq,ar,au,I⟩:=af
 refine P8 _ ao<|Mv z<|Wx z z<|Wx z z<|To (O.alloc A7y z z λbx=>To (O.stF (vs:=[.string ac.A7s,ai,aj,ak,am,an]) A0C z z (j:=0) z z (by (simp only [BT,ap.1.1,aq.1.1,ar.1.1,au.1.1,I.1.1]) <;> rfl) z ?_))
 refine T.freeze λbA aw ax=>have ay:=Z8.of ax; An z<|Sr<|Vv (V.ldS z o.u (by exact J3)) ?_
 refine bE H λJ aA H=>To (O.cs (A2o ⟨aa,z,ab.u⟩ aA _) λaB aC=>An z<|Sr<|Vv (V.fa C1U z)<|Vv (V.M8 (k:=5) C5f z ay.u z)<|Vv (V.fa Y5 z)<|Vv (V.M8 (k:=2) D7 z o.u z)<|Vv (V.fa A0O z)<|Vv (V.M8 (k:=3) D7 z o.u z)<|bE H λaG aI H=>?_)
 obtain ⟨bD,bG,bI,aJ,aK⟩:=B1U.call (I.u (g:=aB)) aI
 refine To (O.A1l z aJ z (aK _) z λbJ bK bM aM aN=>?_)
 obtain ⟨aO,t⟩:=aN
 refine P8 _ aO<|Vv (V.Q3 A1S z t)<|Mv z<|Nt<|T.A0S ?_
 obtain ⟨aP,aS,K⟩:=J6 H
 have H:=aS
 refine Bl<|have aU:=(((ae.trans aw).trans aC).trans aM); have aV:=s.2.1 _ _ _ _ aU hRa; T.lk [0,5,24,25] (FUEL,r,(0:Int),La) (λ⟨d,e,f,a⟩=>([(26,qi f)],(As++(a++L)),λhh=>iter (A0F q J aG) d (e,f)=some aP∧R e hh a)) ⟨H,aV⟩ ?_
 rintro ⟨d,e,f,a⟩ aW bN ⟨aX,M⟩
 obtain ⟨aY,bO,rfl,H,w⟩:=G7 aX
 refine T.norm [26,0,5,24,25] z<|P8 ((As++(a++L))) z<|Sr<|Wl z z<|Nt<|Sq<|T.cH H z (λH=>?_) λH=>?_
 ·refine Ks<|Sq<|Bl<|Sr<|bE H λaZ N H=>?_
  obtain ⟨bP,a0,⟨bS,rfl,a1⟩⟩:=G6.at t N
  refine Vv (V.ix A1S z z t (E8 N))<|Vv (V.R5 A5Y z a0.u z)<|An z<|Sm z<|bE H λx P H=>To (O.mkX A9 J7 z z z z P z λy bU bV=>have S:A7 (VI .i64) aW _ x:=A7.rep z P; An z<|Sq<|Sm z<|Vv (V.A4a A9 z (j:=0) z S.len)<|Mv z<|Nt ?_)
  obtain ⟨a2,a3,a4⟩:=J6 H
  have H:=a3
  refine Bl<|T.lk [0,5,7,24,25,26,33] (FUEL,(0:Int),x,(List.replicate J.toNat [qi 0])) (λ⟨i,c,m,b⟩=>([(34,qi c),(8,y)],F3 3 1 y b::(As++(a++L)),λhh=>iter (A1e aZ x) i (c,m)=some a2∧A7 (VI .i64) hh b m)) ⟨H,S⟩ ?_
  rintro ⟨i,c,m,b⟩ a5 a6 ⟨a7,n⟩
  obtain ⟨a8,bW,rfl,H,U⟩:=G7 a7
  refine T.norm [34,8,0,5,7,24,25,26,33] z<|P8 (F3 3 1 y b::(As++(a++L))) z<|Sr<|Wl z z<|Nt<|Sq<|T.cH H z (λH=>?_) λH=>?_
  ·refine Ks<|Sq<|Bl<|Sm z<|An z<|Rg<|Mv z<|Mv z<|Mv z<|Mv z<|bE H λp a9 H=>?_
   obtain ⟨bX,bY,bZ,ah,al⟩:=A9f.call (a1.u (g:=a5)) a9
   refine To (O.A1l z ah z (al _) z λb0 W b1 b2 av=>?_)
   obtain ⟨rfl,az⟩:=av
   refine P8 _ az<|bE H λb3 A H=>?_
   obtain ⟨b4,b5,rfl⟩:=A7.get n A
   refine Vv (V.ixR A9 z z (j:=0) z (A7.bd n A))<|bE H λX ba H=>To (O.stR D7 z z (j:=0) z (A7.bdN n A) z<|have bb:A7 (VI .i64) W (b.set c.toNat [qi p]) X:=A7.set n.u (show (VI .i64) W [qi p] p from z) ba; Ni<|Bn<|Th<|Rg<|bE H λbc be H=>Vv (V.H5 z z be)<|Mv z<|Nt<|T.ag (a8,bc,X,(b.set c.toNat [qi p])) ⟨(D8 H U),bb⟩)
  refine T.exit<|Te<|Te<|have H:=D6 H U; Be<|Th<|have H:=I4 H a4; Sm z<|Mv z<|T.K3 λb6 bf bg=>have bi:=A7.slc bg n.u; bE H λ⟨bj,b7⟩ bk H=>have bm:=(a6.trans bf); have bn:=s.2.1 _ _ _ _ bm M; To (O.A4c z z (C1G.call s.u bi bn bk As _) z λb8 b9 bh bl bo=>?_)
  obtain ⟨B,rfl,bp,Y⟩:=bo
  refine P8 ((As++(B++L))) bp<|Vv (V.not z)<|Nt<|T.cH H z (λH=>?_) λH=>?_
  ·refine T.ret<|Br<|Tr<|Tr<|have H:=D6 H w; Br<|Tr<|have H:=I4 H K; ?_
   cases H
   exact T.C5R results252 Li ⟨B,z,z,Y⟩
  refine T.skip<|Bn<|Th<|Rg<|bE H λbq br H=>Vv (V.H5 z z br)<|Mv z<|Nt<|T.ag (aY,bj,bq,B) ⟨(D8 H w),Y⟩
 refine T.exit<|Te<|Te<|have H:=D6 H w; Be<|Th<|have H:=I4 H K; ?_
 cases H
 exact T.A0V results252 Li ⟨a,z,z,M⟩
theorem B6B {h b c a} (d:I6 h b c) (H:A9b c=some a):∀ L,J2 prog 239 [.agg b.toArray] h (L) (λv h' L'=>∃ p0_1 v0_3,v=.func (.func 252) #[] #[.pointer (some p0_1)]∧L'=L∧Z8 h' p0_1 [.string a.F8,.int .u8 a.Q6,.int .i64 a.fA,.int .i64 a.fB,v0_3,.int .i64 a.fX,.int .i64 a.fY]∧G6 (VI .i64) 1 h' v0_3 a.A2Q):=by
 intro L
 obtain ⟨g,rfl,e⟩:=d
 refine J2.enter func239 z z z<|Sr<|To (O.U4 z z z λi j k f=>An z<|Sr<|Vv (V.mkf z z)<|Ag z<|Nr ?_)
 cases H
 exact T.rl z (Rv z) ⟨_,_,z,z,f,e.u⟩
theorem C3W {h B k C s D} (P:I6 h B k) (t:G6 (VI .i64) 1 h C s) (H:B4S k s=some D):∀ L,J2 prog 216 [.agg B.toArray,C] h (L) (λv h' L'=>∃ E,L'=F3 30 1 v E::L∧A7 (VSl (VI .i64) 1) h' E D):=by
 intro L
 obtain ⟨m,rfl,n⟩:=P
 refine J2.B3w func216 z ntmps216 z<|Sr<|To (O.U4 z z z λG bm bn o=>To (O.U4 z (G6.cells t) z λbo bp bq I=>An z<|Sq<|Sq ?_))
 obtain ⟨U,W,X⟩:=J6 H
 refine T.ck (α:=Bool) [2,3] (λg=>([(14,.bool g)],L,λhh=>U=g)) ?_ ?_
 ·have H:=W
  refine Rg<|Vv (V.ldS z o.u (by exact J3)) ?_
  refine bE H λbr Y H=>To (O.cs (B1y ⟨m,z,n.u⟩ Y _) λZ bw=>Wn z z<|Mv z<|T.bH 10 H z (λH=>?_) λH=>?_)
  ·refine S2<|Sk<|Kt z<|Nt<|T.mt true (M0 H)
  refine Vv (V.R5 D9 z I.u z)<|Vv (V.mkf z z)<|bE H λac ad H=>To (O.G5 z (A7p t.u (show A2E Z (.func (.func 238) #[] #[qp G]) (λw=>A8D w k) from ⟨⟨z,z⟩,.inr ⟨238,[],[qp G],z,λbx bA bB bC ae af=>C1o o.u ⟨m,z,n.u⟩ ae af⟩⟩) ad _) z λbD bG bI bJ ag=>?_)
  obtain ⟨rfl,ai⟩:=ag
  refine P8 _ ai<|Kf z<|Nt<|T.mt ac (M0 H)
 rintro g aj bK ak
 have H:=I4 ak X
 refine T.norm [14,2,3] z<|T.fl ?_
 refine T.cH H z (λH=>?_) λH=>?_
 ·refine Sg z<|Nr<|Tr<|T.Q8 30 1<|have am:A7 (VSl (VI .i64) 1) aj [] ([]:List (List Int)):=A7.nil; T.A4u ?_
  cases H
  exact T.A1q (L':=F3 30 1 (qs) []::L) results216 (Rv z) Li (λ_ iv=>iv) ⟨_,z,am⟩
 refine Ks<|Sr<|To (O.alloc A9I z z λi=>Nt<|Sq<|Sr<|Vv (V.ldS z o.u (by exact J3)) ?_)
 refine bE H λbM an H=>To (O.G5 z (B6B ⟨m,z,n.u⟩ an _) z λbN J bO bP ao=>?_)
 obtain ⟨bS,aq,rfl,ar,au,aw⟩:=ao
 refine P8 _ ar<|Nt<|Bl ?_
 obtain ⟨bU,ax,ay⟩:=J6 H
 refine T.Q8 30 1<|have aA:A7 (VSl (VI .i64) 1) J [] ([]:List (List Int)):=A7.nil; Fr_ 1 z<|T.B6M (S:=(List (List Int))) (O:=Unit) (La0:=[blk i (.cells [(qs)].toArray 84),F3 30 1 (qs) []]) (Lr:=L) (λp hh aB=>∃ b:Value,∃ a:List (List Value),aB=([blk i (.cells [b].toArray 84),F3 30 1 b a]:List E5)∧A7 (VSl (VI .i64) 1) hh a p) (λ_ _ _ _=>False) z z ⟨(qs),[],z,aA⟩ (λR_ y_=>C1G R_ J y_ (A9p k s)) (λbV=>⟨⟨z,z⟩,RYs.mono (λp _ _ _ l_ ⟨b,a,e_,f0_⟩=>⟨b,a,e_,A7.mono (VSl.mono VI.mono) f0_ l_⟩) (λ_ _ _ _ _ _ q_=>q_),?_⟩) (λ_ La_ aC aD aE=>J2.perm (List.Perm.refl _) (B3V aC aD au ⟨aq,z,aw⟩ ax [] aE) λ_ _ _ ⟨La_,_,e_,q_⟩=>⟨_,List.Perm.refl _,La_,e_,q_⟩) ?_ ?_
 ·intro bW bX c x d aG bY bZ b0 aI H As_ L_
  rcases aG with p | _
  rotate_left
  ·exact dead H
  obtain ⟨b1,_,rfl,q,aJ,b2,b,a,rfl,f⟩:=aI
  refine Yld.front λL=>Yld.B6D (j:=0) z q z<|T.fl ?_
  refine Rg<|To (O.alloc A1w z z λK=>To (O.stF (vs:=[c]) D9 z z (j:=0) z (G6.cells d) (by (simp only [BT,G6.one d]) <;> rfl) z ?_))
  refine T.fl ?_
  refine T.freeze λb3 b4 aK=>have y:=Z8.of aK; Nt<|T.begin (j:=0) z aJ<|T.fl ?_
  refine Bl<|Sr<|Vv (V.ldS z o.u (by exact J3)) ?_
  refine Vv (V.R5 D9 z y z)<|bE H λb5 aM H=>To (O.cs (C2p ⟨m,z,n.u⟩ d.u aM _) λaN b8=>Mv z<|T.bH 21 H z (λH=>?_) λH=>?_)
  ·refine Vv (V.R5 D9 z I.u z)<|Vv (V.mkf z z)<|bE H λb9 aS H=>To (O.cs (A7p t.u (show A2E aN (.func (.func 241) #[] #[qp K]) (λw=>A8H w x) from ⟨⟨z,z⟩,.inr ⟨241,[],[qp K],z,λaU bh bl bv aV aW=>C1k y.u (show (VSl (VI .i64) 1) aU [c] x from ⟨c,z,d.u⟩) aV aW⟩⟩) aS _) λM cb=>Vv (V.not z)<|Kt z<|Nt<|T.cH H z (λH=>?_) λH=>?_)
   ·refine Rg<|Vv (V.A9y U3 z (j:=1) z z)<|Vv (V.R5 D9 z y.u z)<|To (O.bs K4 A1w z (e:=z) (hk:=z) (xs:=[.tmp 28]) (hv:=CO.eq (CO.cons (G6.cells d) CO.nil)) (hw:=O4.of z) (hd:=z) λcc=>have A:A7 (VSl (VI .i64) 1) M [[c]] ([x]:List (List Int)):=(A7.cons ⟨c,z,d.u⟩ A7.nil); bE H λaZ N H=>To (O.apX K4 K4 A1w z z z (j:=3) z (Src.row (j:=0) z) (O4.of z) (A7.ones VSl.plain A) f.u A N z λr cd ce=>have a0:A7 (VSl (VI .i64) 1) M (a++[[c]]) aZ:=A7.ap f.u A N; T.fl ?_))
    refine T.fs [1] ?_
    refine T.drop<|T.R8 0 z λa1 a2=>To (O.stF (vs:=[r]) U3 z z (j:=2) z a2 (by (simp only [BT,a1]) <;> rfl) z ?_)
    refine T.fl ?_
    refine Ni<|Bn<|T.fs [1,1,2] ?_
    cases H
    exact T.B9G (j:=0) z Li ⟨_::[blk i (.cells [r].toArray 84),F3 30 1 r (a++[[c]])],z,z,⟨_,_,z,q.turn .ready none,z,z,⟨r,(a++[[c]]),z,a0⟩⟩⟩
   refine T.skip<|Bn ?_
   cases H
   exact T.B9G (j:=0) z Li ⟨_::[blk i (.cells [b].toArray 84),F3 30 1 b a],z,z,⟨_,_,z,q.turn .ready none,z,z,⟨b,a,z,f.u⟩⟩⟩
  refine S2<|S2<|Kf z<|Nt<|Cf z<|T.skip<|Bn ?_
  cases H
  exact T.B9G (j:=0) z Li ⟨_::[blk i (.cells [b].toArray 84),F3 30 1 b a],z,z,⟨_,_,z,q.turn .ready none,z,z,⟨b,a,z,f.u⟩⟩⟩
 ·rintro cf a3 _ p cg a4 ⟨b,a,rfl,f⟩
  have H:=I4 a4 ay
  refine T.fl ?_
  refine Bn<|Th<|Sr<|Vv (V.A9y U3 z (j:=1) z z)<|T.fs [2] ?_
  refine bE H λci a5 H=>To (O.G5 z (B6o f (show B1d a3 (.func (.func 243) #[] #[]) A3M from ⟨⟨z,z⟩,.inr ⟨243,[],[],z,λcj ck cm cn a6 co cp a7 cq a8 a9=>B7U a6 a7 a8 a9⟩⟩) a5 _) z λcr ah cs ct al=>?_)
  obtain ⟨cu,rfl,av,az⟩:=al
  refine P8 _ av<|Nt<|Sr<|Vv (V.A9y U3 z (j:=2) z z)<|bE H λcw ba H=>To (O.G5 z (B3t az (show B8t ah (.func (.func 245) #[] #[]) A3c from ⟨⟨z,z⟩,.inr ⟨245,[],[],z,λcx cy cA cB bb cC cD bc cE bd be=>C1f bb bc bd be⟩⟩) ba _) z λbf cG cI cJ bg=>?_)
  obtain ⟨bi,bj,bk⟩:=bg
  refine P8 _ bj<|Ag z<|Nr<|T.fs [2] ?_
  refine T.drop<|Fr_ 1 z<|T.A4u<|T.A8W (j:=0) z<|T.fl ?_
  cases H
  exact T.A1q (L':=F3 30 1 bf bi::L) results216 (Rv z) Li (λ_ iv=>iv) ⟨_,z,bk⟩
 rintro _ _ _ _ _ _ _ ⟨⟩
end Go.Proofs.X
open Go Go.Proofs Go.Proofs.Tryz Go.Sl Go.Dm
namespace Go.Proofs.X
theorem C1J {h q g i r} (C:N8 h q g) (H:B6F g i=some r):∀ L,J2 prog 167 [.agg q.toArray,.int .i64 i] h (L) (λv h' L'=>∃ s,L'=F3 30 1 v s::L∧A7 (VSl (VI .i64) 1) h' s r):=by
 intro L
 obtain ⟨D,G,I,J,K,rfl,f,M,N,P,S⟩:=C
 refine J2.enter func167 z z z<|Sr<|To (O.U4 z z z λaM aN aO m=>An z<|Sr<|An z<|Sq<|Sr<|Vv (V.ldS z m (by exact J9)) ?_)
 refine Mv z<|bE H λU W H=>To (O.G5 z (C0u ⟨D,G,I,J,K,z,f.u,M.u,N.u,P.u,S.u⟩ W _) z λX Y aP aS Z=>?_)
 obtain ⟨aa,ab,n⟩:=Z
 refine P8 _ ab<|Vv (V.A4a A9 z (j:=0) z n.len)<|Mv z<|Nt ?_
 obtain ⟨ac,ad,ae⟩:=J6 H
 have H:=ad
 refine Bl<|T.Q8 3 1<|have af:A7 (VI .i64) Y [] ([]:List Int):=A7.nil; Fr_ 1 z<|T.lk [1,2,10,11] (FUEL,(0:Int),([]:List Int),(qs),[]) (λ⟨b,c,d,e,a⟩=>([(12,qi c),(5,e)],F3 3 1 X aa::F3 3 1 e a::L,λhh=>iter (A8u g i U) b (c,d)=some ac∧A7 (VI .i64) hh a d)) ⟨H,af⟩ ?_
 rintro ⟨b,c,d,e,a⟩ aU aV ⟨ai,o⟩
 obtain ⟨aj,aW,rfl,H,t⟩:=G7 ai
 refine T.norm [12,5,1,2,10,11] z<|T.fl ?_
 refine Sr<|Wl z z<|Nt<|Sq<|T.cH H z (λH=>?_) λH=>?_
 ·refine Ks<|Sq<|Bl<|Sr<|bE H λaX w H=>?_
  obtain ⟨aY,ak,rfl⟩:=A7.get n w
  refine Vv (V.ixR A9 z z (j:=0) z (A7.bd n w))<|Vv (V.ldR D7 z (j:=0) z ak z)<|An z<|Rg<|Mv z<|Mv z<|Vv (V.fa M6 z)<|Vv (V.M8 (k:=0) Q0 z m.u z)<|Mv z<|bE H λaZ am H=>To (O.cs (A5H f.u am _) λan a2=>bE H λx ar H=>Vv (V.Z4 z z ar)<|To (O.b1 (E:=VI .i64) A9 J7 z z z z z λa3 p=>bE H λy A H=>To (O.apX A9 A9 J7 z z z (j:=2) z (Src.row (j:=0) z) (O4.of z) (A7.ones VI.plain p) o.u p A z λau a4 a5=>have aw:A7 (VI .i64) an (a++[[qi x]]) y:=A7.ap o.u p A; T.fl ?_)))
  refine T.fs [1] ?_
  refine T.drop<|Ag z<|Ni<|Bn<|Th<|Rg<|bE H λax ay H=>Vv (V.H5 z z ay)<|Mv z<|Nt<|Fr_ 1 z<|T.ag (aj,ax,y,au,(a++[[qi x]])) ⟨(D8 H t),aw⟩
 refine T.exit<|Te<|Te<|have H:=D6 H t; Be<|Th<|have H:=I4 H ae; Sr<|Vv (V.fa M6 z)<|Vv (V.M8 (k:=0) Q0 z m.u z)<|Mv z<|bE H λa6 B H=>?_
 obtain ⟨a7,aA,⟨aB,rfl,aC⟩⟩:=G6.at f B
 refine Vv (V.ix O5 z z f (E8 B))<|Vv (V.ldS z aA.u (by exact J3)) ?_
 refine Mv z<|Fr_ 1 z<|T.K3 λa8 a9 aD=>have aE:=A7.slc aD o.u; bE H λah aG H=>To (O.G5 z (C3W ⟨aB,z,aC.u⟩ aE aG _) z λal av az ba aI=>?_)
 obtain ⟨bb,aJ,aK⟩:=aI
 refine P8 _ aJ<|Ag z<|Nr<|Fr_ 1 z<|T.drop ?_
 cases H
 exact T.rl z (Rv z) ⟨_,z,aK⟩
theorem C2C {h d e f g} (w:N8 h d e) (H:B2X e f=some g):∀ L,J2 prog 121 [.agg d.toArray,.int .i64 f] h (L) (λv h' L'=>∃ i,L'=F3 30 1 v i::L∧A7 (VSl (VI .i64) 1) h' i g):=by
 intro L
 obtain ⟨j,m,n,o,p,rfl,a,q,r,s,t⟩:=w
 refine J2.enter func121 z z z<|Sr<|To (O.U4 z z z λK M N b=>An z<|Sq<|Sr<|Vv (V.ldS z b (by exact J9)) ?_)
 refine bE H λ⟨P,S⟩ x H=>To (O.cs (A7M ⟨j,m,n,o,p,z,a.u,q.u,r.u,s.u,t.u⟩ x _) λc X=>Mv z<|Wx z z<|Wx z z<|Ag z<|An z<|Sm z<|Wn z z<|Mv z<|T.bH 14 H z (λH=>?_) λH=>?_)
 ·refine S2<|Kt z<|Mv z<|S2<|S2<|Sk<|Kt z<|Nt<|Ct z<|Sg z<|Nr<|Tr<|T.Q8 30 1<|have B:A7 (VSl (VI .i64) 1) c [] ([]:List (List Int)):=A7.nil; ?_
  cases H
  exact T.rl z (Rv z) ⟨_,z,B⟩
 refine Mv z<|Wl z z<|Kf z<|Mv z<|T.bH 18 H z (λH=>?_) λH=>?_
 ·refine S2<|S2<|Sk<|Kt z<|Nt<|Ct z<|Sg z<|Nr<|Tr<|T.Q8 30 1<|have C:A7 (VSl (VI .i64) 1) c [] ([]:List (List Int)):=A7.nil; ?_
  cases H
  exact T.rl z (Rv z) ⟨_,z,C⟩
 refine Mv z<|Vv (V.fa M6 z)<|Vv (V.M8 (k:=0) Q0 z b.u z)<|Vv (V.Q3 O5 z a)<|Vv (V.ge z z)<|Kf z<|Nt<|T.cH H z (λH=>?_) λH=>?_
 ·refine Sg z<|Nr<|Tr<|T.Q8 30 1<|have D:A7 (VSl (VI .i64) 1) c [] ([]:List (List Int)):=A7.nil; ?_
  cases H
  exact T.rl z (Rv z) ⟨_,z,D⟩
 refine Ks<|Sr<|Vv (V.ldS z b.u (by exact J9)) ?_
 refine Mv z<|bE H λY E H=>To (O.G5 z (C1J ⟨j,m,n,o,p,z,a.u,q.u,r.u,s.u,t.u⟩ E _) z λZ aa ab ac G=>?_)
 obtain ⟨ad,I,J⟩:=G
 refine P8 _ I<|Ag z<|Nr ?_
 cases H
 exact T.rl z (Rv z) ⟨_,z,J⟩
theorem C2r {h A B C t n D E} (S:N8 h A B) (o:G6 (VI .i64) 1 h C t) (H:B2M B t n=some (D,E)):∀ L,FnW prog 168 [.agg A.toArray,C,.bool n] h L (.tuple #[.int .i64 D,.int .i64 E]):=by
 intro L
 obtain ⟨aK,aM,aN,aO,aP,rfl,U,W,aS,aU,aV⟩:=S
 refine J2.enter func168 z z z<|Sr<|To (O.U4 z z z λaW aX aY G=>Ag z<|An z<|Sq<|Sm z<|Vv (V.Q3 A9 z o)<|Vv (V.fa U0 z)<|Vv (V.M8 (k:=1) N9 z G z)<|Vv (V.Q3 O7 z W)<|Wn z z<|Nt<|T.cH H z (λH=>?_) λH=>?_)
 ·exact Sg z<|Ag z<|Nr<|Tr<|E1 H
 refine Ks<|Sr<|Vv (V.fa M6 z)<|Vv (V.M8 (k:=0) Q0 z G z)<|bE H λw X H=>To (O.cs (A8d U.u X _) λY a1=>An z<|Sm z<|bE H λI J H=>To (O.mkX X5 A6p z z z z J z λp a2 a3=>have ab:A7 VB Y _ I:=A7.rep z J; An z<|Sq<|Sm z<|Vv (V.Q3 A9 z o)<|Mv z<|Nt ?_))
 obtain ⟨ac,ad,q⟩:=J6 H
 have H:=ad
 refine Bl<|T.lk [2,8,23,24] (FUEL,(0:Int),I,(List.replicate w.toNat [.bool false])) (λ⟨e,f,c,a⟩=>([(25,qi f),(9,p)],F3 4 1 p a::L,λhh=>iter (A8k t n w) e (f,c)=some ac∧A7 VB hh a c)) ⟨H,ab⟩ ?_
 rintro ⟨e,f,c,a⟩ a4 a5 ⟨ae,b⟩
 obtain ⟨r,a6,rfl,H,d⟩:=G7 ae
 refine T.norm [25,9,2,8,23,24] z<|T.fl ?_
 refine Sr<|Wl z z<|Nt<|Sq<|T.cH H z (λH=>?_) λH=>?_
 ·refine Ks<|Sq<|Bl<|Sm z<|bE H λg K H=>?_
  obtain ⟨a7,af,rfl⟩:=G6.at o K
  refine Vv (V.ix A9 z z o (E8 K))<|Vv (V.R5 D7 z af.u z)<|Ag z<|An z<|Sq<|Bl<|Sq ?_
  obtain ⟨ai,aj,ak⟩:=J6 H
  refine T.ck (α:=Bool) [2,8,9,10,11,23,24,25] (λi=>([(30,.bool i)],F3 4 1 p a::L,λhh=>ai=i)) ?_ ?_
  ·have H:=aj
   refine Rg<|Mv z<|We z z<|Mv z<|T.bH 33 H z (λH=>?_) λH=>?_
   ·refine Mv z<|Kt z<|An z<|T.mt n (M0 H)
   refine Sk<|Kf z<|An z<|T.mt false (M0 H)
  rintro i a8 a9 am
  have H:=I4 am ak
  refine T.norm [30,2,8,9,10,11,23,24,25] z<|T.fl ?_
  refine T.cH H z (λH=>?_) λH=>?_
  ·exact Sm z<|Ag z<|Ag z<|Nr<|Br<|Tr<|Br<|Tr<|Tr<|have H:=D6 H d; Br<|Tr<|have H:=I4 H q; T.drop<|E1 H
  refine Sq ?_
  obtain ⟨an,ao,ap⟩:=J6 H
  refine T.ck (α:=Bool) [2,8,9,10,11,23,24,25] (λm=>([(37,.bool m)],F3 4 1 p a::L,λhh=>an=m)) ?_ ?_
  ·have H:=ao
   refine Rg<|Mv z<|Wl z z<|Mv z<|T.bH 40 H z (λH=>?_) λH=>?_
   ·refine S2<|Sk<|Kt z<|An z<|T.mt true (M0 H)
   refine Mv z<|Mv z<|Vv (V.ge z z)<|Kf z<|An z<|T.mt (decide (w≤g)) (M0 H)
  rintro m s ah aq
  have H:=I4 aq ap
  refine T.norm [37,2,8,9,10,11,23,24,25] z<|T.fl ?_
  refine T.cH H z (λH=>?_) λH=>?_
  ·exact Sm z<|Ag z<|Ag z<|Nr<|Br<|Tr<|Br<|Tr<|Tr<|have H:=D6 H d; Br<|Tr<|have H:=I4 H q; T.drop<|E1 H
  refine Sm z<|Vv (V.ge z z)<|Mv z<|T.bH 49 H z (λH=>?_) λH=>?_
  ·refine Mv z<|Mv z<|bE H λal M H=>?_
   obtain ⟨av,ar,rfl⟩:=A7.get b M
   refine Vv (V.ixR X5 z z (j:=0) z (A7.bd b M))<|Vv (V.ldR U6 z (j:=0) z ar z)<|Kt z<|An z<|T.cH H z (λH=>?_) λH=>?_
   ·exact Sm z<|Ag z<|Ag z<|Nr<|Br<|Tr<|Br<|Tr<|Tr<|have H:=D6 H d; Br<|Tr<|have H:=I4 H q; T.drop<|E1 H
   refine T.skip<|Bn<|Th<|Sm z<|Vv (V.ge z z)<|Nt<|T.cH H z (λH=>?_) λH=>?_
   ·refine Rg<|Mv z<|Mv z<|bE H λaz x H=>?_
    obtain ⟨ba,bb,rfl⟩:=A7.get b x
    refine Vv (V.ixR X5 z z (j:=0) z (A7.bd b x))<|bE H λN au H=>To (O.stR U6 z z (j:=0) z (A7.bdN b x) z<|have aw:A7 VB s (a.set g.toNat [.bool true]) N:=A7.set b.u (show VB s [.bool true] true from z) au; Ni<|Bn<|Th<|Rg<|bE H λax ay H=>Vv (V.H5 z z ay)<|Mv z<|Nt<|T.ag (r,ax,N,(a.set g.toNat [.bool true])) ⟨(D8 H d),aw⟩)
   refine T.skip<|Bn<|Th<|Rg<|bE H λaA aB H=>Vv (V.H5 z z aB)<|Mv z<|Nt<|T.ag (r,aA,c,a) ⟨(D8 H d),b.u⟩
  refine S2<|S2<|Kf z<|An z<|Cf z<|T.skip<|Bn<|Th<|Sm z<|Vv (V.ge z z)<|Nt<|T.cH H z (λH=>?_) λH=>?_
  ·refine Rg<|Mv z<|Mv z<|bE H λbc y H=>?_
   obtain ⟨be,bf,rfl⟩:=A7.get b y
   refine Vv (V.ixR X5 z z (j:=0) z (A7.bd b y))<|bE H λP aC H=>To (O.stR U6 z z (j:=0) z (A7.bdN b y) z<|have aD:A7 VB s (a.set g.toNat [.bool true]) P:=A7.set b.u (show VB s [.bool true] true from z) aC; Ni<|Bn<|Th<|Rg<|bE H λaE aG H=>Vv (V.H5 z z aG)<|Mv z<|Nt<|T.ag (r,aE,P,(a.set g.toNat [.bool true])) ⟨(D8 H d),aD⟩)
  refine T.skip<|Bn<|Th<|Rg<|bE H λaI aJ H=>Vv (V.H5 z z aJ)<|Mv z<|Nt<|T.ag (r,aI,c,a) ⟨(D8 H d),b.u⟩
 exact T.exit<|Te<|Te<|have H:=D6 H d; Be<|Th<|have H:=I4 H q; Sg z<|Ag z<|Nr<|T.drop<|E1 H
theorem B9F {h a b c d e f g} (w:N8 h a b) (x:G6 (VI .i64) 1 h c d) (H:B2W b d e=some (f,g)):∀ L,FnW prog 122 [.agg a.toArray,c,.bool e] h L (.tuple #[.int .i64 f,.int .i64 g]):=by
 intro L
 obtain ⟨i,j,k,m,n,rfl,o,p,q,r,s⟩:=w
 refine J2.enter func122 z z z<|Sr<|To (O.U4 z z z λG I J t=>Ag z<|An z<|Sq<|Sr<|Vv (V.ldS z t (by exact J9)) ?_)
 refine bE H λ⟨K,M⟩ y H=>To (O.cs (A7M ⟨i,j,k,m,n,z,o.u,p.u,q.u,r.u,s.u⟩ y _) λP U=>Mv z<|Wx z z<|Wx z z<|Ag z<|An z<|Sm z<|Wn z z<|Nt<|T.cH H z (λH=>?_) λH=>?_)
 ·exact Sm z<|Ag z<|Ag z<|Nr<|Tr<|E1 H
 refine Ks<|Sr<|Vv (V.ldS z t.u (by exact J9)) ?_
 exact Mv z<|Mv z<|bE H λ⟨W,X⟩ C H=>To (O.cs (C2r ⟨i,j,k,m,n,z,o.u,p.u,q.u,r.u,s.u⟩ x.u C _) λZ ab=>Wx z z<|Wx z z<|Ag z<|Ag z<|Nr<|E1 H)
theorem B7o {h a b c d e f} (g:N8 h a b) (i:G6 (VI .i64) 1 h c d) (H:A6M b d=some (e,f)):∀ L,FnW prog 59 [.agg a.toArray,c] h L (.tuple #[.int .i64 e,.int .i64 f]):=by
 intro L
 obtain ⟨j,k,m,n,o,rfl,p,q,r,s,t⟩:=g
 refine J2.enter func59 z z z<|Sr<|To (O.U4 z z z λB C D w=>Ag z<|An z<|Sr<|Vv (V.ldS z w (by exact J9)) ?_)
 exact Mv z<|bE H λ⟨E,G⟩ x H=>To (O.cs (B9F ⟨j,k,m,n,o,z,p.u,q.u,r.u,s.u,t.u⟩ i.u x _) λJ M=>Wx z z<|Wx z z<|Ag z<|Ag z<|Nr<|E1 H)
end Go.Proofs.X
