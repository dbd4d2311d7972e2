import Derived.Test.YthchjfilgaondaaGreatChecked
import Derived.KernelRfl
import Derived.Test.YthchjfilgaondaaGreatV
import Derived.Test.YthchjfilgaondaaGreatL12
import Derived.Test.YthchjfilgaondaaGreatDa
import Derived.Test.YthchjfilgaondaaGreatWa
/- The walks: each function computes what its Lean function says. -/
set_option maxRecDepth 1000000
set_option maxHeartbeats 40000000
set_option linter.unusedVariables false
set_option linter.unusedSimpArgs false
set_option linter.unnecessarySimpa false
open Go Go.Proofs Go.Proofs.Tryz Go.Sl Go.Dm
namespace Go.Proofs.X
theorem A1m:A1d prog 100=some (4,1,1):=by kernel_rfl
theorem B1Z:A1d prog 101=some (112,1,8):=by kernel_rfl
theorem A2Z:A1d prog 102=some (100,1,24):=by kernel_rfl
theorem A1E:A1d prog 103=some (122,1,24):=by kernel_rfl
theorem A9t:A1d prog 122=some (124,1,1):=by kernel_rfl
theorem M3:O5 prog 105 0=some 0:=by kernel_rfl
theorem U7:O5 prog 105 2=some 6:=by kernel_rfl
theorem A8U:O5 prog 105 3=some 7:=by kernel_rfl
theorem B2g:O5 prog 105 4=some 8:=by kernel_rfl
theorem A2h:O5 prog 105 5=some 9:=by kernel_rfl
theorem A4v:O5 prog 105 6=some 10:=by kernel_rfl
theorem B1Y:O5 prog 105 7=some 11:=by kernel_rfl
theorem A6v:O5 prog 105 8=some 12:=by kernel_rfl
theorem A4F:O5 prog 105 9=some 13:=by kernel_rfl
theorem B6v:O5 prog 121 6=some 6:=by kernel_rfl
theorem C2L:O5 prog 121 7=some 7:=by kernel_rfl
theorem G6:O5 prog 134 0=some 0:=by kernel_rfl
theorem P8:O5 prog 134 1=some 1:=by kernel_rfl
theorem B2t:O5 prog 134 2=some 2:=by kernel_rfl
theorem B0D:O5 prog 97 0=some 0:=by kernel_rfl
theorem A0I:O5 prog 97 1=some 1:=by kernel_rfl
theorem A8u:O5 prog 97 3=some 3:=by kernel_rfl
theorem B2q:U6 prog 100=some (false,1):=by kernel_rfl
theorem B5J:U6 prog 101=some (false,1):=by kernel_rfl
theorem A9B:U6 prog 102=some (false,1):=by kernel_rfl
theorem A7n:U6 prog 103=some (false,1):=by kernel_rfl
theorem C5Z:U6 prog 112=some (false,1):=by kernel_rfl
theorem B9Q:U6 prog 122=some (false,1):=by kernel_rfl
theorem R3:U6 prog 131=some (false,1):=by kernel_rfl
theorem B5A:U6 prog 218=some (false,1):=by kernel_rfl
theorem U8:U6 prog 4=some (false,1):=by kernel_rfl
theorem I9:U6 prog 49=some (false,1):=by kernel_rfl
theorem U1:U6 prog 84=some (false,1):=by kernel_rfl
theorem B1n:U6 prog 97=some (true,5):=by kernel_rfl
theorem C3B {h d g} (H:A9k d=some g):∀ L,FnW prog 141 [.string d] h L (.bool g):=by
 intro L
 refine J6.enter func141 z z z<|Sr<|An z<|Sq<|Sq ?_
 obtain ⟨i,j,k⟩:=K4 H
 refine T.ck (α:=Bool) [0] (fun c=>([(11,.bool c)],L,fun hh=>i=c)) ?_ ?_
 ·have H:=j
  refine Rg<|Mv z<|Vv (V.B2i underlying9 z)<|We z z<|Mv z<|T.bH 7 H z (fun H=>?_) fun H=>?_
  ·refine S2<|Sk<|Kt z<|Nt<|T.mt true (M7 H)
  refine Mv z<|Vv (V.B2i underlying9 z)<|Wg z z<|Kf z<|Nt<|T.mt (decide ((12:Int) < (d.size:Int))) (M7 H)
 rintro c w x m
 have H:=I7 m k
 refine T.norm [11,0] z<|T.fl ?_
 refine T.cH H z (fun H=>?_) fun H=>?_
 ·exact Sg z<|Nr<|Tr<|E1 H
 refine Ks<|Sq<|Sm z<|Vv (V.B2i underlying9 z)<|Mv z<|Nt ?_
 obtain ⟨n,o,f⟩:=K4 H
 have H:=o
 refine Bl<|T.lk [0,13] (FUEL,(0:Int)) (fun ⟨a,b⟩=>([(14,qi b)],L,fun hh=>iter (B7j d) a b=some n)) H ?_
 rintro ⟨a,b⟩ y A p
 obtain ⟨q,B,rfl,H,e⟩:=G8 p
 refine T.norm [14,0,13] z<|T.fl ?_
 refine Sr<|Wl z z<|Nt<|Sq<|T.cH H z (fun H=>?_) fun H=>?_
 ·refine Ks<|Sq<|Bl<|Sm z<|An z<|Sm z<|Mv z<|bE H fun C r H=>Vv (V.C4Z underlying9 z z r)<|Wl z z<|Mv z<|T.bH 21 H z (fun H=>?_) fun H=>?_
  ·exact S2<|S2<|Kt z<|Nt<|Ct z<|Sg z<|Nr<|Br<|Tr<|Tr<|have H:=D6 H e; Br<|Tr<|have H:=I7 H f; E1 H
  refine Mv z<|Mv z<|bE H fun D s H=>Vv (V.C4Z underlying9 z z s)<|Wg z z<|Kf z<|Nt<|T.cH H z (fun H=>?_) fun H=>?_
  ·exact Sg z<|Nr<|Br<|Tr<|Tr<|have H:=D6 H e; Br<|Tr<|have H:=I7 H f; E1 H
  refine T.skip<|Bn<|Th<|Rg<|bE H fun t u H=>Vv (V.H8 z z u)<|Mv z<|Nt<|T.ag (q,t) (D8 H e)
 exact T.exit<|Te<|Te<|have H:=D6 H e; Be<|Th<|have H:=I7 H f; Sg z<|Nr<|E1 H
theorem C1i {h a b c d e f} (g:I8 h a b) (i:Z0 h c d) (j:VS h d e) (H:B1P b e=some f):∀ L,FnW prog 205 [.agg a.toArray,.pointer (some c)] h L (.bool f):=by
 intro L
 obtain ⟨n,rfl,o⟩:=g
 obtain rfl:=j
 refine J6.enter func205 z z z<|Sr<|To (O.U5 z z z fun p q r m=>An z<|Sr<|Vv (V.fa A0k z)<|Vv (V.M5 (k:=0) J7 z m z)<|Vv (V.S9 J7 z i.u z)<|Vv (V.seq z z)<|Ag z<|Nr ?_)
 exact E1 H
theorem A2k {h b c a d} (f:O8 h b c) (H:A0O c a=some d):∀ L,FnW prog 140 [.agg b.toArray,.string a] h L (.int .i64 d):=by
 intro L
 obtain ⟨x,y,A,B,C,rfl,D,g,E,G,I⟩:=f
 exact J6.enter func140 z z z<|Sr<|To (O.U5 z z z fun J K M i=>To (O.U5 z z z fun e j N m=>An z<|Sr<|Vv (V.fa U4 z)<|Vv (V.M5 (k:=1) O0 z i.u z)<|Vv (V.mkf z z)<|bE H fun P n H=>To (O.cs (B3t g.u (show B2J j (.func (.func 205) #[] #[qp e]) (fun o=>B1P o a) from ⟨⟨z,z⟩,.inr ⟨205,[],[qp e],z,fun p S U W q X r s=>C1i q m.u (show VS p [.string a] a from z) r s⟩⟩) n _) fun Z ab=>Ag z<|Nr<|E1 H)))
theorem B4Q {h f k p m q} (x:A2z h p m) (H:A9s f k m=some q):∀ L,J6 prog 47 [.int .i64 f,.int .i64 k,p] h (L) (fun v h' L'=>∃ r,L'=F5 3 1 v r::L∧A7 (VI .i64) h' r q):=by
 intro L
 refine J6.enter func47 z z z<|Sr<|An z<|Sr<|An z<|Sq<|Sm z<|An z ?_
 obtain ⟨y,A,B⟩:=K4 H
 have H:=A
 refine Bl<|T.R4 3 1<|have C:A7 (VI .i64) h [] ([]:List Int):=A7.nil; T.lk [0,1,2] (FUEL,([]:List Int),f,(qs),[]) (fun ⟨e,c,b,d,a⟩=>([(7,d),(8,qi b)],F5 3 1 d a::L,fun hh=>iter (A8e f k m) e (c,b)=some y∧A7 (VI .i64) hh a c)) ⟨H,C⟩ ?_
 rintro ⟨e,c,b,d,a⟩ D ab ⟨G,i⟩
 obtain ⟨s,ac,rfl,H,n⟩:=G8 G
 refine T.norm [7,8,0,1,2] z<|T.fl ?_
 refine Sq<|Sm z<|Mv z<|Mv z<|bE H fun ad I H=>Vv (V.H8 z z I)<|Wl z z<|Nt<|T.cH H z (fun H=>?_) fun H=>?_
 ·refine Ks<|Sq<|Bl<|Sm z<|Mv z<|bE H fun ae J H=>?_
  obtain ⟨af,ai,aj,K,M⟩:=A2z.call (x.u (g:=D)) J
  refine To (O.A1e z K z (M _) z fun ak N am an P=>?_)
  obtain ⟨rfl,S⟩:=P
  refine P7 _ S<|Nt<|T.cH H z (fun H=>?_) fun H=>?_
  ·refine Rg<|Mv z<|Mv z<|To (O.b1 (E:=VI .i64) A9 K8 z z z z z fun ao o=>bE H fun t w H=>To (O.apX A9 A9 K8 z z z (j:=1) z (Src.row (j:=0) z) (O3.of z) (A7.ones VI.plain o) i.u o w z fun U aq ar=>have W:A7 (VI .i64) N (a ++ [[qi b]]) t:=A7.ap i.u o w; Fr_ 1 z<|T.drop<|Ag z<|Ni<|Bn<|Th<|Rg<|Mv z<|bE H fun X Y H=>Vv (V.H8 z z Y)<|An z<|T.ag (s,t,X,U,(a ++ [[qi b]])) ⟨(D8 H n),W⟩))
  refine T.skip<|Bn<|Th<|Rg<|Mv z<|bE H fun Z aa H=>Vv (V.H8 z z aa)<|An z<|T.ag (s,c,Z,d,a) ⟨(D8 H n),i.u⟩
 refine T.exit<|Te<|Te<|have H:=D6 H n; Be<|Th<|have H:=I7 H B; Sm z<|Ag z<|Nr ?_
 cases H
 exact T.rl z (Rv z) ⟨_,z,i⟩
theorem A9K {h I J m} (ax:O8 h I J) (H:A5W J=some m):∀ L,J6 prog 38 [.agg I.toArray] h (L) (fun v h' L'=>∃ v0_1 v0_3 v0_5 v0_7 v0_9,v=.agg #[v0_1,v0_3,v0_5,v0_7,v0_9]∧L'=L∧F8 I6 7 h' v0_1 m.C8∧F8 I8 9 h' v0_3 m.A8∧F8 L8 3 h' v0_5 m.M9∧F8 (VI .i64) 1 h' v0_7 m.R8∧F8 H9 6 h' v0_9 m.F9):=by
 intro L
 obtain ⟨b5,ay,K,M,N,rfl,aA,aB,aC,aD,aE⟩:=ax
 refine J6.enter func38 z z z<|Sr<|To (O.box z z z fun P=>To (O.alloc A3q z z fun S=>Nt<|Sr<|Vv (V.fa N7 z)<|Vv (V.ldO (k:=0) Q0 z (j:=1) z z)<|bE H fun U aG H=>To (O.G9 z (B7S aA aG _) z fun n b6 b7 b8 aI=>?_)))
 obtain ⟨aJ,aK,W⟩:=aI
 refine P7 _ aK<|Vv (V.fa N7 z)<|T.Q9 0 z fun aM aN=>To (O.st (vs:=[n]) (k:=0) Q0 z z (j:=2) z aN (by (simp only [BT,aM]) <;> rfl) ?_)
 refine T.fl ?_
 refine Nt<|Sq<|Sr<|Vv (V.fa N7 z)<|Vv (V.ldO (k:=0) Q0 z (j:=0) z z)<|Vv (V.A4x O6 z (j:=1) z W.len)<|Mv z<|Nt ?_
 obtain ⟨aO,aP,aS⟩:=K4 H
 have H:=aP
 refine Bl<|T.fs [1,2,2] ?_
 refine T.lk [1,2,11] (FUEL,U,(0:Int),aJ) (fun ⟨o,p,d,c⟩=>([(12,qi d)],blk P (.cells [n,ay,K,M,N].toArray 33)::blk S (.cells [qs,qs,qs,qs,qs].toArray 33)::F5 139 7 n c::L,fun hh=>iter (A2P U) o (p,d)=some aO∧A7 I6 hh c p)) ⟨H,W⟩ ?_
 rintro ⟨o,p,d,c⟩ b9 bh ⟨aU,q⟩
 obtain ⟨aV,bl,rfl,H,X⟩:=G8 aU
 refine T.norm [12,1,2,11] z<|T.fl ?_
 refine Sr<|Wl z z<|Nt<|Sq<|T.cH H z (fun H=>?_) fun H=>?_
 ·refine Ks<|Sq<|Bl<|Sm z<|An z<|T.fs [2,1] ?_
  refine T.N8 (t:=(.vs [0,1,2,3,4,5] (.x 6 (.v 7 (.x 8 (.alt 9 (.g (.alt 10 (.v 11 (.alt 12 .done .no)) .no)) .no)))))) 12 2 1 z z I5 (by kernel_rfl) ?_
  refine Tv z (V.fa N7 z)<|Tv z (Val.XA fun _ _ _=>V.ldO (k:=0) Q0 z (j:=0) z z)<|Tm z z<|Tv z (V.fa N7 z)<|Tv z (Val.XA fun _ _ _=>V.ldO (k:=0) Q0 z (j:=0) z z)<|Tm z z<|bE H fun bv Y H=>?_
  obtain ⟨bz,aW,⟨ca,rfl,aX⟩⟩:=A7.get q Y
  refine T.tx z z (Val.XA fun _ _ _=>V.ixR O6 z z (j:=1) z (A7.bd q Y)) z Calm.i<|Tv z (V.fa Y1 z)<|T.tx z z (Val.XA fun _ _ _=>V.D2F (k:=4) E5 z (j:=1) z aW z) z Calm.i<|bE H fun aY aZ H=>Tp z z (X3 [0] [1,1] z z) (O.G9 z (A1C aX aZ _) z fun y cb cc cd a0=>?_) T.P5
  obtain ⟨ce,a1,a2⟩:=a0
  refine P7 _ a1<|T.O1 Li<|bE H fun b Z H=>?_
  obtain ⟨cf,a3,⟨C,rfl,cg⟩⟩:=A7.get q Z
  refine Ts z z (X3 [1] [2,2] z z) (V.ixR O6 z z (j:=2) z (A7.bd q Z)) z ?_ T.P5
  refine Tv z (V.fa Y1 z)<|T.K5 fun aa ci a4=>have D:=A7.slc a4 a2.u; bE H fun ab a5 H=>Tp z z (SX.two (XA.fr [0] Li z) (XA.fr [1,1] Li z)) (O.D2j (k:=4) E5 z z (j:=1) z (F8.cells D) (by (simp only [BT,F8.one D]) <;> rfl) z a3 ?_) T.P5
  have a6:A7 I6 aa (c.set d.toNat (over [.string b.F7,.int .u8 b.Q4,qi b.fA,qi b.fB,C,qi b.fX,qi b.fY] [y] 4)) ab:=A7.set q.u (show I6 aa (over [.string b.F7,.int .u8 b.Q4,qi b.fA,qi b.fB,C,qi b.fX,qi b.fY] [y] 4) (D5.mk b.F7 b.Q4 b.fA b.fB aY b.fX b.fY) from ⟨y,z,D⟩) a5
  refine T.O7 (SX.one (XA.fr [1] Li z) z)<|Bn<|Th<|Rg<|bE H fun a7 a8 H=>Vv (V.H8 z z a8)<|Mv z<|Nt<|T.fs [2,2] ?_
  exact T.ag (aV,ab,a7,(c.set d.toNat (over [.string b.F7,.int .u8 b.Q4,qi b.fA,qi b.fB,C,qi b.fX,qi b.fY] [y] 4))) ⟨(D8 H X),a6⟩
 refine T.exit<|Te<|Te<|have H:=D6 H X; Be<|Th<|have H:=I7 H aS; Sr<|Vv (V.fa U4 z)<|Vv (V.ldO (k:=1) O0 z (j:=0) z z)<|bE H fun ac a9 H=>To (O.G9 z (B7C aB.u a9 _) z fun A cj ck cm ah=>?_)
 obtain ⟨al,av,ad⟩:=ah
 refine P7 _ av<|Vv (V.fa U4 z)<|T.Q9 0 z fun az ba=>To (O.st (vs:=[A]) (k:=1) O0 z z (j:=1) z ba (by (simp only [BT,az]) <;> rfl) ?_)
 refine T.fl ?_
 refine Nt<|Sq<|Sr<|Vv (V.fa U4 z)<|Vv (V.ldO (k:=1) O0 z (j:=0) z z)<|Vv (V.A4x O9 z (j:=1) z ad.len)<|Mv z<|Nt ?_
 obtain ⟨bb,bc,be⟩:=K4 H
 have H:=bc
 refine Bl<|T.fs [1,3,3,3] ?_
 refine T.lk [1,2,34] (FUEL,ac,(0:Int),al) (fun ⟨r,s,e,f⟩=>([(35,qi e)],blk P (.cells [n,A,K,M,N].toArray 33)::blk S (.cells [qs,qs,qs,qs,qs].toArray 33)::F5 139 7 n c::F5 121 9 A f::L,fun hh=>iter (A2Q ac) r (s,e)=some bb∧A7 I8 hh f s)) ⟨H,ad⟩ ?_
 rintro ⟨r,s,e,f⟩ cn co ⟨bf,w⟩
 obtain ⟨bg,cp,rfl,H,ae⟩:=G8 bf
 refine T.norm [35,1,2,34] z<|T.fl ?_
 refine Sr<|Wl z z<|Nt<|Sq<|T.cH H z (fun H=>?_) fun H=>?_
 ·refine Ks<|Sq<|Bl<|Sm z<|An z<|T.fs [3,1] ?_
  refine T.N8 (t:=(.vs [0,1,2,3,4,5] (.x 6 (.v 7 (.x 8 (.alt 9 (.g (.alt 10 (.v 11 (.alt 12 .done .no)) .no)) .no)))))) 12 2 1 z z I5 (by kernel_rfl) ?_
  refine Tv z (V.fa U4 z)<|Tv z (Val.XA fun _ _ _=>V.ldO (k:=1) O0 z (j:=0) z z)<|Tm z z<|Tv z (V.fa U4 z)<|Tv z (Val.XA fun _ _ _=>V.ldO (k:=1) O0 z (j:=0) z z)<|Tm z z<|bE H fun cq af H=>?_
  obtain ⟨cr,bi,⟨cs,rfl,bj⟩⟩:=A7.get w af
  refine T.tx z z (Val.XA fun _ _ _=>V.ixR O9 z z (j:=1) z (A7.bd w af)) z Calm.i<|Tv z (V.fa A0A z)<|T.tx z z (Val.XA fun _ _ _=>V.D2F (k:=8) A1v z (j:=1) z bi z) z Calm.i<|bE H fun bk bm H=>Tp z z (X3 [0] [1,1] z z) (O.G9 z (B0c bj bm _) z fun B ct cu cw bn=>?_) T.P5
  obtain ⟨cx,bo,bp⟩:=bn
  refine P7 _ bo<|T.O1 Li<|bE H fun a ai H=>?_
  obtain ⟨cy,bq,⟨E,rfl,cA⟩⟩:=A7.get w ai
  refine Ts z z (X3 [1] [2,2] z z) (V.ixR O9 z z (j:=2) z (A7.bd w ai)) z ?_ T.P5
  refine Tv z (V.fa A0A z)<|T.K5 fun aj cB br=>have G:=A7.slc br bp.u; bE H fun ak bs H=>Tp z z (SX.two (XA.fr [0] Li z) (XA.fr [1,1] Li z)) (O.D2j (k:=8) A1v z z (j:=1) z (F8.cells G) (by (simp only [BT,F8.one G]) <;> rfl) z bq ?_) T.P5
  have bt:A7 I8 aj (f.set e.toNat (over [.string a.F7,.string a.A1S,.string a.W9,qi a.A0h,qi a.A0r,.string a.A0t,.bool a.A0s,.bool a.Y6,E] [B] 8)) ak:=A7.set w.u (show I8 aj (over [.string a.F7,.string a.A1S,.string a.W9,qi a.A0h,qi a.A0r,.string a.A0t,.bool a.A0s,.bool a.Y6,E] [B] 8) (E8.mk a.F7 a.A1S a.W9 a.A0h a.A0r a.A0t a.A0s a.Y6 bk) from ⟨B,z,G⟩) bs
  refine T.O7 (SX.one (XA.fr [1] Li z) z)<|Bn<|Th<|Rg<|bE H fun bu bw H=>Vv (V.H8 z z bw)<|Mv z<|Nt<|T.fs [3,3,3] ?_
  exact T.ag (bg,ak,bu,(f.set e.toNat (over [.string a.F7,.string a.A1S,.string a.W9,qi a.A0h,qi a.A0r,.string a.A0t,.bool a.A0s,.bool a.Y6,E] [B] 8))) ⟨(D8 H ae),bt⟩
 refine T.exit<|Te<|Te<|have H:=D6 H ae; Be<|Th<|have H:=I7 H be; Sq<|T.N8 (t:=(.v 0 (.x 1 (.v 3 (.x 4 (.v 6 (.x 7 (.alt 2 (.g (.v 9 (.alt 5 (.g (.alt 8 (.g (.alt 10 (.g (.v 11 (.alt 12 (.g (.v 13 (.alt 14 .done .no))) .no))) .no)) .no)) .no))) .no)))))))) 10 1 0 z z I5 (by kernel_rfl) ?_
 refine Tv z (V.fa A9L z)<|T.tx z z (Val.XA fun _ _ _=>V.ldO (k:=2) A1H z (j:=0) z z) z Calm.i<|Tv z (V.fa A5F z)<|T.tx z z (Val.XA fun _ _ _=>V.ldO (k:=3) E5 z (j:=0) z z) z Calm.i<|Tv z (V.fa Y3 z)<|T.tx z z (Val.XA fun _ _ _=>V.ldO (k:=4) Y4 z (j:=0) z z) z Calm.i<|bE H fun cC bx H=>Tp z z (X3 [] [0] z z) (O.G9 z (B9O aC.u bx _) z fun am cD cE cG bA=>?_) T.P5
 obtain ⟨cI,bB,bC⟩:=bA
 refine P7 _ bB<|T.O1 Li<|Tv z (V.fa A9L z)<|bE H fun cJ bD H=>Tp z z (X3 [] [1] z z) (O.G9 z (A1C aD.u bD _) z fun an cK cM cN bG=>?_) T.P5
 obtain ⟨cO,bI,bJ⟩:=bG
 refine P7 _ bI<|T.O1 Li<|bE H fun cP bK H=>Tp z z (X3 [] [2] z z) (O.G9 z (B8N aE.u bK _) z fun ao cS cU cV bM=>?_) T.P5
 obtain ⟨cW,bN,bO⟩:=bM
 refine P7 _ bN<|T.O1 Li<|T.Q9 2 z fun bP bS=>Tp z z (X3 [] [3] z z) (O.st (vs:=[am]) (k:=2) A1H z z (j:=3) z bS (by (simp only [BT,bP]) <;> rfl) ?_) T.P5
 refine T.fl ?_
 refine T.O1 Lr<|Tv z (V.fa A5F z)<|T.Q9 2 z fun bU bV=>Tp z z (SX.one (XA.fr [] Lr z) z) (O.st (vs:=[an]) (k:=3) E5 z z (j:=0) z bV (by (simp only [BT,bU]) <;> rfl) ?_) T.P5
 refine T.fl ?_
 refine T.O1 Lr<|Tv z (V.fa Y3 z)<|T.Q9 1 z fun bW bX=>Tp z z (SX.one (XA.fr [] Lr z) z) (O.st (vs:=[ao]) (k:=4) Y4 z z (j:=0) z bX (by (simp only [BT,bW]) <;> rfl) ?_) T.P5
 refine T.fl ?_
 refine T.O7 (SX.one (XA.fr [] Lr z) z)<|Th<|Sr<|Vv (V.A4O (j:=0) (by exact J4) z z) ?_
 refine T.fs [5] ?_
 refine T.K5 fun cX cY bY=>have ap:=A7.slc bY q.u; T.fs [5] ?_
 refine T.K5 fun cZ c0 bZ=>have aq:=A7.slc bZ w.u; T.fs [3] ?_
 refine T.K5 fun c1 c2 b0=>have ar:=A7.slc b0 bC.u; T.fs [2] ?_
 refine T.K5 fun c3 c4 b1=>have au:=A7.slc b1 bJ.u; T.fs [1] ?_
 refine T.K5 fun c5 c6 b2=>have aw:=A7.slc b2 bO.u; To (O.stF (vs:=[n,A,am,an,ao]) J4 z z (j:=1) z z (by (simp only [BT,F8.one ap,F8.one aq,F8.one ar,F8.one au,F8.one aw]) <;> rfl) z ?_)
 refine T.freeze fun c7 c8 b3=>have b4:=Z0.of b3; Nr<|T.drop ?_
 cases H
 exact T.rl z (RVs.cons (RV.B2N z b4 J4) RVs.nil) ⟨_,_,_,_,_,z,z,ap.u,aq.u,ar.u,au.u,aw.u⟩
theorem A6t {h c d e f g i j} (E:Pt M4 h c d) (G:H9 h e f) (H:A6a d f=some (g,i,j)):∀ L,FnW prog 143 [c,.agg e.toArray] h L (.tuple #[.int .i64 g,.int .i64 i,.bool j]):=by
 intro L
 obtain rfl:=G
 refine J6.enter func143 z z z<|Sr<|To (O.U5 z z z fun Z aa ab m=>Ag z<|Ag z<|An z<|Sq<|T.N8 (t:=(.vs [0,1,2,3,4,5,6,7,8,10,11,12,13,14,15,16,17,18] (.alt 9 (.alt 19 (.alt 20 (.alt 21 .done .no) .no) .no) .no))) 23 0 0 z z I5 (by kernel_rfl) ?_)
 refine Tm z z<|have I:=E; ?_
 obtain ⟨ac,_,rfl,a,⟨ad,ae,af,rfl,J,b,ag⟩⟩:=I
 refine TL z z z z G6 I9 a.u z<|have K:=J; ?_
 obtain ⟨ai,_,rfl,n,⟨o,p,q,r,s,aj,ak,am,an,ao,ap,aq,ar,au,rfl,w,x,y,A,B,aw,ax,ay,aA,aB,aC,aD,aE,aG⟩⟩:=K
 refine TF z z z M3<|Tv z (V.C9C (k:=0) B1n z n.u (Nat.le_of_ble_eq_true z))<|Tv z (V.fa Z9 z)<|Tv z (V.M5 (k:=2) J7 z m z)<|Tm z z<|TL z z z z G6 I9 a.u z<|TF z z z M3<|Tv z (V.C9C (k:=0) B1n z n.u (Nat.le_of_ble_eq_true z))<|Tv z (V.fa A3U z)<|Tv z (V.M5 (k:=3) J7 z m z)<|bE H fun aI M H=>Tp z z (X2 z z) (O.G9 z (A2k ⟨o,p,q,r,s,z,w.u,x.u,y.u,A.u,B.u⟩ M _) z fun aJ aK aM aN N=>?_) T.P5
 obtain ⟨rfl,P⟩:=N
 refine P7 _ P<|bE H fun aO S H=>Tp z z (SX.two (XA.fr [] Li z) (XA.fr [] Li z)) (O.G9 z (A2k ⟨o,p,q,r,s,z,w.u,x.u,y.u,A.u,B.u⟩ S _) z fun aP aS aU aV U=>?_) T.P5
 obtain ⟨rfl,W⟩:=U
 refine P7 _ W<|Ts z z (SX.two (XA.fr [] Li z) (XA.fr [] Li z)) (V.asg z) z ?_ T.P5
 refine Ts z z (SX.two (XA.fr [] Li z) (XA.fr [] Li z)) (V.asg z) z ?_ T.P5
 refine T.O7 (SX.two (XA.fr [] Li z) (XA.fr [] Li z))<|Th<|Sq<|T.N8 (t:=(.vs [0,1,2,3,4,5,6,7,8,9,10,11,12,13,14,15,16,17,18,19] (.alt 20 (.alt 21 (.alt 22 .done .no) .no) .no))) 24 0 0 z z I5 (by kernel_rfl) ?_
 refine Tm z z<|Tm z z<|Tm z z<|TL z z z z P8 E5 a.u z<|Tm z z<|bE H fun aW C H=>?_
 obtain ⟨aX,X,rfl⟩:=F8.at b C
 refine Tv z (V.ix A9 z z b (E9 C))<|Tv z (V.S9 D7 z X.u z)<|Tv z (V.ge z z)<|Tm z z<|T.bH 39 H z (fun H=>?_) fun H=>?_
 ·refine Tm z z<|TL z z z z P8 E5 a.u z<|Tm z z<|bE H fun aY D H=>?_
  obtain ⟨aZ,Y,rfl⟩:=F8.at b D
  refine Tv z (V.ix A9 z z b (E9 D))<|Tv z (V.S9 D7 z Y.u z)<|Tv z (V.ge z z)<|Tv z (V.pkT z z)<|Ts z z (X2 z z) (V.asg z) z ?_ T.P5
  refine Ts z z (X2 z z) (V.asg z) z ?_ T.P5
  refine Ts z z (X2 z z) (V.asg z) z ?_ T.P5
  exact T.O7 (X2 z z)<|Th<|T.ret<|E1 H
 refine T2 z z<|T2 z z<|T2 z z<|T2 z z<|Tv z (V.pkF z z)<|Ts z z (X2 z z) (V.asg z) z ?_ T.P5
 refine Ts z z (X2 z z) (V.asg z) z ?_ T.P5
 refine Ts z z (X2 z z) (V.asg z) z ?_ T.P5
 exact T.O7 (X2 z z)<|Th<|T.ret<|E1 H
theorem B8p {h c d e f g i} (p:Pt M4 h c d) (H:B3c d e f=some (g,i)):∀ L,FnW prog 144 [c,.int .i64 e,.int .i64 f] h L (.tuple #[.int .i64 g,.bool i]):=by
 intro L
 refine J6.enter func144 z z z<|Sg z<|An z<|Sq<|T.N8 (t:=(.vs [0,1,2,3,4,5,6,7,8,9,10,11,12,13,14,15,16,17,18,19,20,21,22,23,24,25,26] (.alt 27 (.alt 28 .done .no) .no))) 30 0 0 z z I5 (by kernel_rfl) ?_
 refine Tm z z<|have q:=p; ?_
 obtain ⟨D,_,rfl,b,⟨E,G,I,rfl,r,a,J⟩⟩:=q
 refine TL z z z z G6 I9 b z<|have s:=r; ?_
 obtain ⟨K,_,rfl,u,⟨M,N,O,P,S,U,W,X,Y,Z,aa,ab,ac,ad,rfl,ae,af,ag,ai,aj,ak,am,an,ao,ap,aq,j,ar,au⟩⟩:=s
 refine TL z z z z B1Y B5J u z<|Tm z z<|TL z z z z P8 E5 b z<|Tm z z<|bE H fun aw m H=>?_
 obtain ⟨ax,w,rfl⟩:=F8.at a m
 refine Tv z (V.ix A9 z z a (E9 m))<|Tv z (V.S9 D7 z w z)<|bE H fun ay n H=>?_
 obtain ⟨aA,x,⟨aB,rfl,y⟩⟩:=F8.at j n
 refine Tv z (V.ix B1Z z z j (E9 n))<|Tv z (V.S9 C5Z z x z)<|Tm z z<|TL z z z z P8 E5 b z<|Tm z z<|bE H fun aC o H=>?_
 obtain ⟨aD,A,rfl⟩:=F8.at a o
 refine Tv z (V.ix A9 z z a (E9 o))<|Tv z (V.S9 D7 z A z)<|bE H fun ⟨aE,aG⟩ B H=>?_
 obtain ⟨_,C,rfl⟩:=Mp.look (zc:=[qi 0]) (agg:=false) underlying112 (A0u.int underlying3) K8 (show (VI .i64) h [qi 0] (0:Int) from rfl) y B
 refine Tv z (V.lkF z z C)<|Tm z z<|Tv z (V.ext z z)<|Tv z (V.ext z z)<|Ts z z (X2 z z) (V.asg z) z ?_ T.P5
 refine Ts z z (X2 z z) (V.asg z) z ?_ T.P5
 exact T.O7 (X2 z z)<|Th<|Sq<|T.norm [8,9] z<|Rg<|Mv z<|Mv z<|Ag z<|Ag z<|Nr<|E1 H
theorem A3E {h i d j m n e o} (y:Pt M4 h i d) (p:F8 (VSl (VI .i64) 1) 1 h j m) (H:A1B d m n e=some o):∀ L,FnW prog 145 [i,j,.int .i64 n,.int .i64 e] h L (.bool o):=by
 intro L
 refine J6.enter func145 z z z<|Sr<|An z<|Sq<|Sm z<|Mv z<|have A:=y; ?_
 obtain ⟨P,_,rfl,q,⟨S,U,W,rfl,X,c,Y⟩⟩:=A
 refine NL z P8 E5 q z<|Mv z<|bE H fun Z r H=>?_
 obtain ⟨aa,B,rfl⟩:=F8.at c r
 refine Vv (V.ix A9 z z c (E9 r))<|Vv (V.S9 D7 z B z)<|bE H fun C s H=>?_
 obtain ⟨ab,D,⟨ac,rfl,f⟩⟩:=F8.at p s
 refine Vv (V.ix J9 z z p (E9 s))<|Vv (V.S9 E5 z D z)<|Vv (V.Q3 A9 z f)<|Mv z<|Nt ?_
 obtain ⟨E,G,t⟩:=K4 H
 have H:=G
 refine Bl<|T.lk [0,3,20,21] (FUEL,(0:Int)) (fun ⟨a,b⟩=>([(22,qi b)],L,fun hh=>iter (A4P d e C) a b=some E)) H ?_
 rintro ⟨a,b⟩ ad ae I
 obtain ⟨J,af,rfl,H,g⟩:=G8 I
 refine T.norm [22,0,3,20,21] z<|T.fl ?_
 refine Sr<|Wl z z<|Nt<|Sq<|T.cH H z (fun H=>?_) fun H=>?_
 ·refine Ks<|Sq<|Bl<|Sr<|bE H fun ai w H=>?_
  obtain ⟨aj,K,rfl⟩:=F8.at f w
  refine Vv (V.ix A9 z z f (E9 w))<|Vv (V.S9 D7 z K.u z)<|An z<|Sm z<|Mv z<|NL z P8 E5 q.u z<|Mv z<|bE H fun ak x H=>?_
  obtain ⟨am,M,rfl⟩:=F8.at c x
  refine Vv (V.ix A9 z z c (E9 x))<|Vv (V.S9 D7 z M.u z)<|We z z<|Nt<|T.cH H z (fun H=>?_) fun H=>?_
  ·exact Sg z<|Nr<|Br<|Tr<|Tr<|have H:=D6 H g; Br<|Tr<|have H:=I7 H t; E1 H
  refine T.skip<|Bn<|Th<|Rg<|bE H fun N O H=>Vv (V.H8 z z O)<|Mv z<|Nt<|T.ag (J,N) (D8 H g)
 exact T.exit<|Te<|Te<|have H:=D6 H g; Be<|Th<|have H:=I7 H t; Sg z<|Nr<|E1 H
theorem A9J {h e f g i j} (ac:Pt M4 h e f) (H:A5Q f g i=some j):∀ L,FnW prog 152 [e,.int .i64 g,.int .i64 i] h L (.bool j):=by
 intro L
 refine J6.enter func152 z z z<|Sr<|An z<|Sm z<|Mv z<|have ad:=ac; ?_
 obtain ⟨ao,_,rfl,a,⟨ap,m,n,rfl,ae,o,p⟩⟩:=ad
 refine NL z G6 I9 a z<|have af:=ae; ?_
 obtain ⟨q,_,rfl,b,⟨r,s,t,w,x,y,A,B,C,D,E,G,I,J,rfl,K,M,N,P,S,U,W,X,Y,c,d,Z,aa,ab⟩⟩:=af
 refine NL z A2h U1 b z<|Mv z<|Mv z<|bE H fun aq ag H=>To (O.cs (A3E (Pt.mk a ⟨(.pointer (some q)),m,n,z,(Pt.mk b ⟨r,s,t,w,x,y,A,B,C,D,E,G,I,J,z,K,M,N,P,S,U,W,X,Y,c,d,Z,aa,ab⟩),o,p⟩) c ag _) fun au ax=>Mv z<|T.bH 18 H z (fun H=>?_) fun H=>?_)
 ·exact S2<|S2<|S2<|S2<|S2<|Sk<|Kt z<|Ag z<|Nr<|E1 H
 exact Mv z<|Mv z<|NL z G6 I9 a.u z<|NL z A4v U1 b.u z<|Mv z<|Mv z<|bE H fun ay ak H=>To (O.cs (A3E (Pt.mk a.u ⟨(.pointer (some q)),m,n,z,(Pt.mk b.u ⟨r,s,t,w,x,y,A,B,C,D,E,G,I,J,z,K.u,M.u,N.u,P.u,S.u,U.u,W.u,X.u,Y.u,c.u,d.u,Z.u,aa.u,ab.u⟩),o.u,p.u⟩) d.u ak _) fun aB aD=>Kf z<|Ag z<|Nr<|E1 H)
theorem A5m {h a b c d e f} (q:Pt M4 h a b) (r:H9 h c d) (H:A4l b d e=some f):∀ L,FnW prog 150 [a,.agg c.toArray,.int .i64 e] h L (.bool f):=by
 intro L
 obtain rfl:=r
 refine J6.enter func150 z z z<|Sr<|To (O.U5 z z z fun B C D g=>An z<|Sq<|T.N8 (t:=(.vs [0,1,2,3,4,5,6,7,8,9,10,11,12,13,14,15,16,17,18,19,20,21,22,23,24,25,26,27,28] (.alt 29 .done .no))) 31 0 0 z z I5 (by kernel_rfl) ?_)
 refine Tv z (V.fa V7 z)<|Tv z (V.M5 (k:=4) J7 z g z)<|Tv z (V.seq z z)<|Tm z z<|T.bH 10 H z (fun H=>?_) fun H=>?_
 ·refine T2 z z<|T2 z z<|T2 z z<|T2 z z<|T2 z z<|T2 z z<|T2 z z<|T2 z z<|T2 z z<|T2 z z<|T2 z z<|T2 z z<|Tv z (V.pkT z z)<|Ts z z (X2 z z) (V.asg z) z ?_ T.P5
  exact T.O7 (X2 z z)<|Th<|T.ret<|E1 H
 refine Tv z (V.fa V7 z)<|Tv z (V.M5 (k:=4) J7 z g z)<|Tm z z<|have s:=q; ?_
 obtain ⟨E,_,rfl,i,⟨G,I,J,rfl,w,K,M⟩⟩:=s
 refine TL z z z z G6 I9 i.u z<|have x:=w; ?_
 obtain ⟨N,_,rfl,j,⟨P,S,U,W,X,Y,Z,aa,ab,ac,ad,ae,af,ag,rfl,m,ai,aj,ak,am,an,n,ao,ap,aq,ar,au,aw,ax⟩⟩:=x
 refine TF z z z M3<|Tv z (V.fa B0D z)<|Tv z (V.M5 (k:=0) Q0 z j.u z)<|Tm z z<|TL z z z z G6 I9 i.u z<|TL z z z z U7 E5 j.u z<|Tm z z<|bE H fun ay o H=>?_
 obtain ⟨aA,y,rfl⟩:=F8.at n o
 refine Tv z (V.ix A9 z z n (E9 o))<|Tv z (V.S9 D7 z y.u z)<|bE H fun aB p H=>?_
 obtain ⟨aC,A,⟨aD,rfl,aE⟩⟩:=F8.at m p
 refine Tv z (V.ix O6 z z m (E9 p))<|Tv z (V.fa A0j z)<|Tv z (V.M5 (k:=0) J7 z A.u z)<|Tv z (V.seq z z)<|Tv z (V.pkF z z)<|Ts z z (X2 z z) (V.asg z) z ?_ T.P5
 exact T.O7 (X2 z z)<|Th<|T.ret<|E1 H
theorem C1A {σ:Type} {R:σ→PH→List D9→Prop} {s:σ→Int→(List Int)→Option σ} {w:σ} {q_s:σ} {h x y A a B La} (q:Pt M4 h x y) (N:H9 h A a) (b:X4 R h B s) (hRa:R w h La) (H:B1M y a s w=some q_s):∀ As L,J6 prog 86 [x,.agg A.toArray,B] h ((As ++ (La ++ L))) (fun v h' L'=>∃ La',v=.tuple #[]∧L'=(As ++ (La' ++ L))∧R q_s h' La'):=by
 intro As L
 obtain rfl:=N
 refine J6.enter func86 z z z<|Sr<|To (O.U5 z z z fun aZ P c r=>Nt<|Sm z<|Vv (V.ldS z r (by exact K3)) ?_)
 refine bE H fun ⟨i,j,a0⟩ S H=>To (O.cs (A6t q.u (show H9 P [.int .u8 a.H6,qi a.J3,.string a.fA,.string a.fB,.string a.J2,qi a.fN] a from z) S _) fun a2 d=>Mv z<|Wx z z<|Wx z z<|Wx z z<|Ag z<|Ag z<|An z<|Sq<|Sq ?_)
 obtain ⟨X,Y,Z⟩:=K4 H
 refine T.ck (α:=Bool) [0,2,4,6,7] (fun f=>([(54,.bool f)],(As ++ (La ++ L)),fun hh=>X=f)) ?_ ?_
 ·have H:=Y
  refine T.N8 (t:=(.vs [0,1,2,3,4,5,6,7,8,9,10,11,12,13,14,15,16,17,18,19,20,21,22,23,24,25,26,27,28,29,30,31,32,33,34,35,36] .done)) 38 0 0 z z I5 (by kernel_rfl) ?_
  refine Tm z z<|Tv z (V.not z)<|Tm z z<|T.bH 20 H z (fun H=>?_) fun H=>?_
  ·refine T2 z z<|T2 z z<|T2 z z<|T2 z z<|T2 z z<|T2 z z<|T2 z z<|T2 z z<|T2 z z<|T2 z z<|T2 z z<|T2 z z<|T2 z z<|T2 z z<|T2 z z<|T2 z z<|Tk z<|Tv z (V.pkT z z)<|T.O7 (X2 z z)<|Th<|T.mt true (M7 H)
  refine Tm z z<|have aa:=q; ?_
  obtain ⟨a4,_,rfl,m,⟨a5,a6,a7,rfl,ab,n,a8⟩⟩:=aa
  refine TL z z z z G6 I9 m.u z<|have ac:=ab; ?_
  obtain ⟨a9,_,rfl,C,⟨ah,al,av,az,ba,bb,bc,bd,be,bf,bg,bi,bj,bk,rfl,bm,bn,bo,bp,bq,br,o,bt,bu,bw,bx,bA,bB,bC⟩⟩:=ac
  refine TL z z z z U7 E5 C.u z<|Tm z z<|TL z z z z P8 E5 m.u z<|Tm z z<|bE H fun bD D H=>?_
  obtain ⟨bG,ad,rfl⟩:=F8.at n D
  refine Tv z (V.ix A9 z z n (E9 D))<|Tv z (V.S9 D7 z ad.u z)<|bE H fun ae E H=>?_
  obtain ⟨bI,af,rfl⟩:=F8.at o E
  refine Tv z (V.ix A9 z z o (E9 E))<|Tv z (V.S9 D7 z af.u z)<|Tm z z<|TL z z z z G6 I9 m.u z<|TL z z z z U7 E5 C.u z<|Tm z z<|TL z z z z P8 E5 m.u z<|Tm z z<|bE H fun bJ G H=>?_
  obtain ⟨bK,ag,rfl⟩:=F8.at n G
  refine Tv z (V.ix A9 z z n (E9 G))<|Tv z (V.S9 D7 z ag.u z)<|bE H fun ai I H=>?_
  obtain ⟨bM,aj,rfl⟩:=F8.at o I
  refine Tv z (V.ix A9 z z o (E9 I))<|Tv z (V.S9 D7 z aj.u z)<|Tv z (V.ne z z)<|Tv z (V.pkF z z)<|T.O7 (X2 z z)<|Th<|T.mt (!decide (ae=ai)) (M7 H)
 rintro f bN g ak
 have H:=I7 ak Z
 refine T.norm [54,0,2,4,6,7] z<|P7 ((As ++ (La ++ L))) z<|T.cH H z (fun H=>?_) fun H=>?_
 ·refine T.ret<|Tr<|have am:=((c.trans d).trans g); have an:=b.2.1 _ _ _ _ am hRa; ?_
  cases H
  exact T.C5a results86 Li ⟨La,z,z,an⟩
 refine Ks<|Sm z<|Mv z<|Mv z<|bE H fun ⟨bO,bP⟩ ao H=>To (O.cs (B8p q.u ao _) fun J p=>Mv z<|Wx z z<|Wx z z<|Ag z<|An z<|Sr<|Vv (V.fa U3 z)<|Vv (V.M5 (k:=5) D7 z r.u z)<|We z z<|Mv z<|T.bH 65 H z (fun H=>?_) fun H=>?_)
 ·refine S2<|S2<|S2<|Sk<|Kt z<|Nt<|Ct z<|Rg<|Mv z<|Mv z<|Mv z<|To (O.bs A9 K8 z (e:=z) (hk:=z) (xs:=[.tmp 75,.tmp 76]) (hv:=CO.eq (CO.cons z (CO.cons z CO.nil))) (hw:=O3.of z) (hd:=z) fun bV=>have ar:A7 (VI .i64) J [[qi i],[qi j]] ([i,j]:List Int):=(A7.cons z (A7.cons z A7.nil)); T.K5 fun bW au aw=>have ax:=A7.slc aw ar.u; bE H fun bX ay H=>have aA:=((((c.trans d).trans g).trans p).trans au); have aB:=b.2.1 _ _ _ _ aA hRa; To (O.A3R z z (X4.call b.u ax aB ay As _) z fun bY bZ b0 b1 aC=>?_))
  obtain ⟨K,rfl,aD,aE⟩:=aC
  refine P7 ((As ++ (K ++ L))) aD<|Ni ?_
  cases H
  exact T.A0Q results86 Li ⟨K,z,z,aE⟩
 refine Mv z<|Mv z<|T.bH 67 H z (fun H=>?_) fun H=>?_
 ·refine Mv z<|Vv (V.fa U3 z)<|Vv (V.M5 (k:=5) D7 z r.u z)<|Wl z z<|Kt z<|Kf z<|Nt<|T.cH H z (fun H=>?_) fun H=>?_
  ·refine Rg<|Mv z<|Mv z<|Mv z<|To (O.bs A9 K8 z (e:=z) (hk:=z) (xs:=[.tmp 75,.tmp 76]) (hv:=CO.eq (CO.cons z (CO.cons z CO.nil))) (hw:=O3.of z) (hd:=z) fun b2=>have aG:A7 (VI .i64) J [[qi i],[qi j]] ([i,j]:List Int):=(A7.cons z (A7.cons z A7.nil)); T.K5 fun b3 aI aJ=>have aK:=A7.slc aJ aG.u; bE H fun b4 aM H=>have aN:=((((c.trans d).trans g).trans p).trans aI); have aO:=b.2.1 _ _ _ _ aN hRa; To (O.A3R z z (X4.call b.u aK aO aM As _) z fun b5 b6 b7 b8 aP=>?_))
   obtain ⟨M,rfl,aS,aU⟩:=aP
   refine P7 ((As ++ (M ++ L))) aS<|Ni ?_
   cases H
   exact T.A0Q results86 Li ⟨M,z,z,aU⟩
  refine T.skip<|have aV:=(((c.trans d).trans g).trans p); have aW:=b.2.1 _ _ _ _ aV hRa; ?_
  cases H
  exact T.A0Q results86 Li ⟨La,z,z,aW⟩
 refine S2<|S2<|Kf z<|Kf z<|Nt<|Cf z<|T.skip<|have aX:=(((c.trans d).trans g).trans p); have aY:=b.2.1 _ _ _ _ aX hRa; ?_
 cases H
 exact T.A0Q results86 Li ⟨La,z,z,aY⟩
theorem B5D {σ:Type} {R:σ→PH→List D9→Prop} {f:σ→Int→(List Int)→Option σ} {g:σ} {q_s:σ} {h i j m a n La} (o:Pt M4 h i j) (y:H9 h m a) (b:X4 R h n f) (hRa:R g h La) (H:A5v j a f g=some q_s):∀ As L,J6 prog 87 [i,.agg m.toArray,n] h ((As ++ (La ++ L))) (fun v h' L'=>∃ La',v=.tuple #[]∧L'=(As ++ (La' ++ L))∧R q_s h' La'):=by
 intro As L
 obtain rfl:=y
 refine J6.enter func87 z z z<|Sr<|To (O.U5 z z z fun a0 A c B=>Nt<|Sm z<|Vv (V.ldS z B (by exact K3)) ?_)
 refine bE H fun ⟨p,q,a1⟩ C H=>To (O.cs (A6t o.u (show H9 A [.int .u8 a.H6,qi a.J3,.string a.fA,.string a.fB,.string a.J2,qi a.fN] a from z) C _) fun a3 d=>Mv z<|Wx z z<|Wx z z<|Wx z z<|Ag z<|Ag z<|An z<|Sm z<|Mv z<|T.bH 17 H z (fun H=>?_) fun H=>?_)
 ·refine Mv z<|Mv z<|have G:=o; ?_
  obtain ⟨a5,_,rfl,r,⟨a6,I,J,rfl,K,M,N⟩⟩:=G
  refine NL z G6 I9 r.u z<|have P:=K; ?_
  obtain ⟨S,_,rfl,s,⟨U,W,X,Y,Z,aa,ab,ac,ad,ae,af,ag,ai,aj,rfl,ak,am,an,ao,ap,aq,ar,au,aw,t,ax,ay,aA,aB⟩⟩:=P
  refine NL z A2h U1 s.u z<|Mv z<|Mv z<|bE H fun a7 aC H=>To (O.cs (A3E (Pt.mk r.u ⟨(.pointer (some S)),I,J,z,(Pt.mk s.u ⟨U,W,X,Y,Z,aa,ab,ac,ad,ae,af,ag,ai,aj,z,ak.u,am.u,an.u,ao.u,ap.u,aq.u,ar.u,au.u,aw.u,t.u,ax.u,ay.u,aA.u,aB.u⟩),M.u,N.u⟩) t.u aC _) fun aD w=>Vv (V.not z)<|Kt z<|Nt<|T.cH H z (fun H=>?_) fun H=>?_)
  ·refine Rg<|Mv z<|Mv z<|Mv z<|To (O.bs A9 K8 z (e:=z) (hk:=z) (xs:=[.tmp 32,.tmp 33]) (hv:=CO.eq (CO.cons z (CO.cons z CO.nil))) (hw:=O3.of z) (hd:=z) fun ah=>have aI:A7 (VI .i64) aD [[qi p],[qi q]] ([p,q]:List Int):=(A7.cons z (A7.cons z A7.nil)); T.K5 fun al aJ aK=>have aM:=A7.slc aK aI.u; bE H fun av aN H=>have aO:=(((c.trans d).trans w).trans aJ); have aP:=b.2.1 _ _ _ _ aO hRa; To (O.A3R z z (X4.call b.u aM aP aN As _) z fun az ba bb bc aS=>?_))
   obtain ⟨x,rfl,aU,aV⟩:=aS
   refine P7 ((As ++ (x ++ L))) aU<|Ni ?_
   cases H
   exact T.A0Q results87 Li ⟨x,z,z,aV⟩
  refine T.skip<|have aW:=((c.trans d).trans w); have aX:=b.2.1 _ _ _ _ aW hRa; ?_
  cases H
  exact T.A0Q results87 Li ⟨La,z,z,aX⟩
 refine S2<|S2<|S2<|S2<|S2<|S2<|Kf z<|Nt<|Cf z<|T.skip<|have aY:=(c.trans d); have aZ:=b.2.1 _ _ _ _ aY hRa; ?_
 cases H
 exact T.A0Q results87 Li ⟨La,z,z,aZ⟩
theorem B5V {σ:Type} {R:σ→PH→List D9→Prop} {f:σ→Int→(List Int)→Option σ} {g:σ} {q_s:σ} {h i j m a n La} (o:Pt M4 h i j) (y:H9 h m a) (b:X4 R h n f) (hRa:R g h La) (H:A5w j a f g=some q_s):∀ As L,J6 prog 88 [i,.agg m.toArray,n] h ((As ++ (La ++ L))) (fun v h' L'=>∃ La',v=.tuple #[]∧L'=(As ++ (La' ++ L))∧R q_s h' La'):=by
 intro As L
 obtain rfl:=y
 refine J6.enter func88 z z z<|Sr<|To (O.U5 z z z fun a0 A c B=>Nt<|Sm z<|Vv (V.ldS z B (by exact K3)) ?_)
 refine bE H fun ⟨p,q,a1⟩ C H=>To (O.cs (A6t o.u (show H9 A [.int .u8 a.H6,qi a.J3,.string a.fA,.string a.fB,.string a.J2,qi a.fN] a from z) C _) fun a3 d=>Mv z<|Wx z z<|Wx z z<|Wx z z<|Ag z<|Ag z<|An z<|Sm z<|Mv z<|T.bH 17 H z (fun H=>?_) fun H=>?_)
 ·refine Mv z<|Mv z<|have G:=o; ?_
  obtain ⟨a5,_,rfl,r,⟨a6,I,J,rfl,K,M,N⟩⟩:=G
  refine NL z G6 I9 r.u z<|have P:=K; ?_
  obtain ⟨S,_,rfl,s,⟨U,W,X,Y,Z,aa,ab,ac,ad,ae,af,ag,ai,aj,rfl,ak,am,an,ao,ap,aq,ar,au,aw,ax,t,ay,aA,aB⟩⟩:=P
  refine NL z A4v U1 s.u z<|Mv z<|Mv z<|bE H fun a7 aC H=>To (O.cs (A3E (Pt.mk r.u ⟨(.pointer (some S)),I,J,z,(Pt.mk s.u ⟨U,W,X,Y,Z,aa,ab,ac,ad,ae,af,ag,ai,aj,z,ak.u,am.u,an.u,ao.u,ap.u,aq.u,ar.u,au.u,aw.u,ax.u,t.u,ay.u,aA.u,aB.u⟩),M.u,N.u⟩) t.u aC _) fun aD w=>Vv (V.not z)<|Kt z<|Nt<|T.cH H z (fun H=>?_) fun H=>?_)
  ·refine Rg<|Mv z<|Mv z<|Mv z<|To (O.bs A9 K8 z (e:=z) (hk:=z) (xs:=[.tmp 32,.tmp 33]) (hv:=CO.eq (CO.cons z (CO.cons z CO.nil))) (hw:=O3.of z) (hd:=z) fun ah=>have aI:A7 (VI .i64) aD [[qi p],[qi q]] ([p,q]:List Int):=(A7.cons z (A7.cons z A7.nil)); T.K5 fun al aJ aK=>have aM:=A7.slc aK aI.u; bE H fun av aN H=>have aO:=(((c.trans d).trans w).trans aJ); have aP:=b.2.1 _ _ _ _ aO hRa; To (O.A3R z z (X4.call b.u aM aP aN As _) z fun az ba bb bc aS=>?_))
   obtain ⟨x,rfl,aU,aV⟩:=aS
   refine P7 ((As ++ (x ++ L))) aU<|Ni ?_
   cases H
   exact T.A0Q results88 Li ⟨x,z,z,aV⟩
  refine T.skip<|have aW:=((c.trans d).trans w); have aX:=b.2.1 _ _ _ _ aW hRa; ?_
  cases H
  exact T.A0Q results88 Li ⟨La,z,z,aX⟩
 refine S2<|S2<|S2<|S2<|S2<|S2<|Kf z<|Nt<|Cf z<|T.skip<|have aY:=(c.trans d); have aZ:=b.2.1 _ _ _ _ aY hRa; ?_
 cases H
 exact T.A0Q results88 Li ⟨La,z,z,aZ⟩
theorem C0P {σ:Type} {R:σ→PH→List D9→Prop} {j:σ→Int→(List Int)→Option σ} {m:σ} {q_s:σ} {h n o p a q La} (r:Pt M4 h n o) (y:H9 h p a) (b:X4 R h q j) (hRa:R m h La) (H:B0I o a j m=some q_s):∀ As L,J6 prog 89 [n,.agg p.toArray,q] h ((As ++ (La ++ L))) (fun v h' L'=>∃ La',v=.tuple #[]∧L'=(As ++ (La' ++ L))∧R q_s h' La'):=by
 intro As L
 obtain rfl:=y
 refine J6.enter func89 z z z<|Sr<|To (O.U5 z z z fun ap A c s=>Nt<|Sm z<|Vv (V.ldS z s (by exact K3)) ?_)
 refine bE H fun ⟨d,f,aq⟩ B H=>To (O.cs (A6t r.u (show H9 A [.int .u8 a.H6,qi a.J3,.string a.fA,.string a.fB,.string a.J2,qi a.fN] a from z) B _) fun au g=>Mv z<|Wx z z<|Wx z z<|Wx z z<|Ag z<|Ag z<|An z<|Sm z<|Nt<|T.cH H z (fun H=>?_) fun H=>?_)
 ·refine Sm z<|Mv z<|Mv z<|bE H fun ⟨ax,ay⟩ E H=>To (O.cs (B8p r.u E _) fun t i=>Mv z<|Wx z z<|Wx z z<|Ag z<|An z<|Sm z<|Vv (V.not z)<|Mv z<|T.bH 28 H z (fun H=>?_) fun H=>?_)
  ·refine S2<|S2<|Kt z<|Nt<|Ct z<|Rg<|Mv z<|Mv z<|Mv z<|To (O.bs A9 K8 z (e:=z) (hk:=z) (xs:=[.tmp 35,.tmp 36]) (hv:=CO.eq (CO.cons z (CO.cons z CO.nil))) (hw:=O3.of z) (hd:=z) fun aC=>have J:A7 (VI .i64) t [[qi d],[qi f]] ([d,f]:List Int):=(A7.cons z (A7.cons z A7.nil)); T.K5 fun aD K M=>have N:=A7.slc M J.u; bE H fun aE P H=>have S:=(((c.trans g).trans i).trans K); have U:=b.2.1 _ _ _ _ S hRa; To (O.A3R z z (X4.call b.u N U P As _) z fun aG aI aJ aK W=>?_))
   obtain ⟨w,rfl,X,Y⟩:=W
   refine P7 ((As ++ (w ++ L))) X<|Ni ?_
   cases H
   exact T.A0Q results89 Li ⟨w,z,z,Y⟩
  refine Mv z<|Vv (V.fa U3 z)<|Vv (V.M5 (k:=5) D7 z s.u z)<|Wg z z<|Kf z<|Nt<|T.cH H z (fun H=>?_) fun H=>?_
  ·refine Rg<|Mv z<|Mv z<|Mv z<|To (O.bs A9 K8 z (e:=z) (hk:=z) (xs:=[.tmp 35,.tmp 36]) (hv:=CO.eq (CO.cons z (CO.cons z CO.nil))) (hw:=O3.of z) (hd:=z) fun aM=>have Z:A7 (VI .i64) t [[qi d],[qi f]] ([d,f]:List Int):=(A7.cons z (A7.cons z A7.nil)); T.K5 fun aN aa ab=>have ac:=A7.slc ab Z.u; bE H fun aO ad H=>have ae:=(((c.trans g).trans i).trans aa); have af:=b.2.1 _ _ _ _ ae hRa; To (O.A3R z z (X4.call b.u ac af ad As _) z fun aP aS aU aV ag=>?_))
   obtain ⟨x,rfl,ai,aj⟩:=ag
   refine P7 ((As ++ (x ++ L))) ai<|Ni ?_
   cases H
   exact T.A0Q results89 Li ⟨x,z,z,aj⟩
  refine T.skip<|have ak:=((c.trans g).trans i); have am:=b.2.1 _ _ _ _ ak hRa; ?_
  cases H
  exact T.A0Q results89 Li ⟨La,z,z,am⟩
 refine T.skip<|have an:=(c.trans g); have ao:=b.2.1 _ _ _ _ an hRa; ?_
 cases H
 exact T.A0Q results89 Li ⟨La,z,z,ao⟩
theorem B7o {σ:Type} {R:σ→PH→List D9→Prop} {j:σ→Int→(List Int)→Option σ} {m:σ} {q_s:σ} {h n o p a q La} (r:Pt M4 h n o) (E:H9 h p a) (b:X4 R h q j) (hRa:R m h La) (H:A7N o a j m=some q_s):∀ As L,J6 prog 90 [n,.agg p.toArray,q] h ((As ++ (La ++ L))) (fun v h' L'=>∃ La',v=.tuple #[]∧L'=(As ++ (La' ++ L))∧R q_s h' La'):=by
 intro As L
 obtain rfl:=E
 refine J6.enter func90 z z z<|Sr<|To (O.U5 z z z fun aq G g I=>Nt<|Sm z<|Vv (V.ldS z I (by exact K3)) ?_)
 refine bE H fun ⟨s,w,ar⟩ J H=>To (O.cs (A6t r.u (show H9 G [.int .u8 a.H6,qi a.J3,.string a.fA,.string a.fB,.string a.J2,qi a.fN] a from z) J _) fun K i=>Mv z<|Wx z z<|Wx z z<|Wx z z<|Ag z<|Ag z<|An z<|Sq<|T.N8 (t:=(.vs [0,1,2,3,4,5,6,7,8,9,10,11,12,13,14,15,16,17,18,19,20,21,22,23,24,25,26,27,28,29,30,31,32,33,34,35] .done)) 37 0 0 z z I5 (by kernel_rfl) ?_)
 refine Tm z z<|Tm z z<|T.bH 17 H z (fun H=>?_) fun H=>?_
 ·refine Tm z z<|have P:=r; ?_
  obtain ⟨ax,_,rfl,c,⟨ay,aA,aB,rfl,S,d,aC⟩⟩:=P
  refine TL z z z z G6 I9 c.u z<|have U:=S; ?_
  obtain ⟨aD,_,rfl,x,⟨aE,aG,aI,aJ,aK,aM,aN,aO,aP,aS,aU,aV,aW,aX,rfl,aY,aZ,a0,a1,a2,a3,f,a4,a5,a6,a7,a8,a9,ah⟩⟩:=U
  refine TL z z z z U7 E5 x.u z<|Tm z z<|TL z z z z P8 E5 c.u z<|Tm z z<|bE H fun al y H=>?_
  obtain ⟨av,W,rfl⟩:=F8.at d y
  refine Tv z (V.ix A9 z z d (E9 y))<|Tv z (V.S9 D7 z W.u z)<|bE H fun az A H=>?_
  obtain ⟨ba,X,rfl⟩:=F8.at f A
  refine Tv z (V.ix A9 z z f (E9 A))<|Tv z (V.S9 D7 z X.u z)<|Tm z z<|TL z z z z G6 I9 c.u z<|TL z z z z U7 E5 x.u z<|Tm z z<|TL z z z z P8 E5 c.u z<|Tm z z<|bE H fun bb B H=>?_
  obtain ⟨bc,Y,rfl⟩:=F8.at d B
  refine Tv z (V.ix A9 z z d (E9 B))<|Tv z (V.S9 D7 z Y.u z)<|bE H fun bd C H=>?_
  obtain ⟨be,Z,rfl⟩:=F8.at f C
  refine Tv z (V.ix A9 z z f (E9 C))<|Tv z (V.S9 D7 z Z.u z)<|Tv z (V.ne z z)<|Tv z (V.pkT z z)<|T.O7 (X2 z z)<|Th<|T.cH H z (fun H=>?_) fun H=>?_
  ·refine T.norm [2,6,7] z<|Rg<|Mv z<|Mv z<|Mv z<|To (O.bs A9 K8 z (e:=z) (hk:=z) (xs:=[.tmp 53,.tmp 54]) (hv:=CO.eq (CO.cons z (CO.cons z CO.nil))) (hw:=O3.of z) (hd:=z) fun bf=>have aa:A7 (VI .i64) K [[qi s],[qi w]] ([s,w]:List Int):=(A7.cons z (A7.cons z A7.nil)); T.K5 fun bg ab ac=>have ad:=A7.slc ac aa.u; bE H fun bi ae H=>have af:=((g.trans i).trans ab); have ag:=b.2.1 _ _ _ _ af hRa; To (O.A3R z z (X4.call b.u ad ag ae As _) z fun bj bk bm bn ai=>?_))
   obtain ⟨D,rfl,aj,ak⟩:=ai
   refine P7 ((As ++ (D ++ L))) aj<|Ni ?_
   cases H
   exact T.A0Q results90 Li ⟨D,z,z,ak⟩
  refine T.skip<|have am:=(g.trans i); have an:=b.2.1 _ _ _ _ am hRa; ?_
  cases H
  exact T.A0Q results90 Li ⟨La,z,z,an⟩
 refine T2 z z<|T2 z z<|T2 z z<|T2 z z<|T2 z z<|T2 z z<|T2 z z<|T2 z z<|T2 z z<|T2 z z<|T2 z z<|T2 z z<|T2 z z<|T2 z z<|T2 z z<|T2 z z<|Tk z<|Tv z (V.pkF z z)<|T.O7 (X2 z z)<|Th<|Cf z<|T.skip<|have ao:=(g.trans i); have ap:=b.2.1 _ _ _ _ ao hRa; ?_
 cases H
 exact T.A0Q results90 Li ⟨La,z,z,ap⟩
theorem C5I {σ:Type} {R:σ→PH→List D9→Prop} {g:σ→Int→(List Int)→Option σ} {i:σ} {q_s:σ} {h j m n o p La} (B:Pt M4 h j m) (C:H9 h n o) (a:X4 R h p g) (hRa:R i h La) (H:B9b m o g i=some q_s):∀ As L,J6 prog 91 [j,.agg n.toArray,p] h ((As ++ (La ++ L))) (fun v h' L'=>∃ La',v=.tuple #[]∧L'=(As ++ (La' ++ L))∧R q_s h' La'):=by
 intro As L
 obtain rfl:=C
 refine J6.enter func91 z z z<|Sr<|To (O.U5 z z z fun ax ay c q=>Nt<|Sq<|T.N8 (t:=(.vs [0,1,2,3,4,5,6,7,8] (.alt 9 (.alt 10 .done .no) .no))) 12 0 0 z z I5 (by kernel_rfl) ?_)
 refine Tm z z<|have D:=B; ?_
 obtain ⟨aA,_,rfl,b,⟨aB,aC,aD,rfl,G,r,aE⟩⟩:=D
 refine TL z z z z G6 I9 b.u z<|have I:=G; ?_
 obtain ⟨aG,_,rfl,d,⟨J,K,M,N,P,aI,aJ,aK,aM,aN,aO,aP,aS,aU,rfl,e,S,U,W,X,aV,s,aW,aX,aY,aZ,a0,a1,a2⟩⟩:=I
 refine TF z z z M3<|Tv z (V.C9C (k:=0) B1n z d.u (Nat.le_of_ble_eq_true z))<|Tv z (V.fa Z9 z)<|Tv z (V.M5 (k:=2) J7 z q z)<|bE H fun a3 Y H=>Tp z z (X2 z z) (O.G9 z (A2k ⟨J,K,M,N,P,z,e.u,S.u,U.u,W.u,X.u⟩ Y _) z fun a4 a5 a6 f Z=>?_) T.P5
 obtain ⟨rfl,aa⟩:=Z
 refine P7 _ aa<|Ts z z (SX.two (XA.fr [] Li z) (XA.fr [] Li z)) (V.asg z) z ?_ T.P5
 refine T.O7 (SX.two (XA.fr [] Li z) (XA.fr [] Li z))<|Th<|Sm z<|NL z P8 E5 b.u z<|Mv z<|bE H fun a7 w H=>?_
 obtain ⟨a8,ab,rfl⟩:=F8.at r w
 refine Vv (V.ix A9 z z r (E9 w))<|Vv (V.S9 D7 z ab.u z)<|An z<|Sq<|T.N8 (t:=(.vs [0,1,2,3,4,5,6,7,8,9,10,11,12,13,14,15,16,17,18,19,20,21,22,23,24,25,26,27] .done)) 29 0 0 z z I5 (by kernel_rfl) ?_
 refine Tm z z<|Tv z (V.ge z z)<|Tm z z<|T.bH 27 H z (fun H=>?_) fun H=>?_
 ·refine Tm z z<|TL z z z z G6 I9 b.u z<|TF z z z M3<|Tv z (V.fa B0D z)<|Tv z (V.M5 (k:=0) Q0 z d.u z)<|Tm z z<|TL z z z z G6 I9 b.u z<|TL z z z z U7 E5 d.u z<|Tm z z<|bE H fun a9 x H=>?_
  obtain ⟨ah,ac,rfl⟩:=F8.at s x
  refine Tv z (V.ix A9 z z s (E9 x))<|Tv z (V.S9 D7 z ac.u z)<|bE H fun al y H=>?_
  obtain ⟨av,ad,⟨az,rfl,ba⟩⟩:=F8.at e y
  refine Tv z (V.ix O6 z z e (E9 y))<|Tv z (V.fa A0j z)<|Tv z (V.M5 (k:=0) J7 z ad.u z)<|Tv z (V.fa V7 z)<|Tv z (V.M5 (k:=4) J7 z q.u z)<|Tv z (V.sne z z)<|Tv z (V.pkT z z)<|T.O7 (X2 z z)<|Th<|T.cH H z (fun H=>?_) fun H=>?_
  ·refine T.norm [2,6] z<|Rg<|Mv z<|Mv z<|To (O.b1 (E:=VI .i64) A9 K8 z z z z z fun bb ae=>T.K5 fun bc af ag=>have ai:=A7.slc ag ae.u; bE H fun bd aj H=>have ak:=((c.trans f).trans af); have am:=a.2.1 _ _ _ _ ak hRa; To (O.A3R z z (X4.call a.u ai am aj As _) z fun be bf bg bi an=>?_))
   obtain ⟨A,rfl,ao,ap⟩:=an
   refine P7 ((As ++ (A ++ L))) ao<|Ni ?_
   cases H
   exact T.A0Q results91 Li ⟨A,z,z,ap⟩
  refine T.skip<|have aq:=(c.trans f); have ar:=a.2.1 _ _ _ _ aq hRa; ?_
  cases H
  exact T.A0Q results91 Li ⟨La,z,z,ar⟩
 refine T2 z z<|T2 z z<|T2 z z<|T2 z z<|T2 z z<|T2 z z<|T2 z z<|T2 z z<|T2 z z<|T2 z z<|T2 z z<|T2 z z<|Tv z (V.pkF z z)<|T.O7 (X2 z z)<|Th<|Cf z<|T.skip<|have au:=(c.trans f); have aw:=a.2.1 _ _ _ _ au hRa; ?_
 cases H
 exact T.A0Q results91 Li ⟨La,z,z,aw⟩
theorem C3C {σ:Type} {R:σ→PH→List D9→Prop} {r:σ→Int→(List Int)→Option σ} {s:σ} {q_s:σ} {h w m x y A La} (S:Pt M4 h w m) (U:H9 h x y) (b:X4 R h A r) (hRa:R s h La) (H:B4t m y r s=some q_s):∀ As L,J6 prog 92 [w,.agg x.toArray,A] h ((As ++ (La ++ L))) (fun v h' L'=>∃ La',v=.tuple #[]∧L'=(As ++ (La' ++ L))∧R q_s h' La'):=by
 intro As L
 obtain rfl:=U
 refine J6.enter func92 z z z<|Sr<|To (O.U5 z z z fun ah al i n=>Nt<|Sq<|T.N8 (t:=(.vs [0,1,2,3,4,5,6,7,8] (.alt 9 (.alt 10 .done .no) .no))) 12 0 0 z z I5 (by kernel_rfl) ?_)
 refine Tm z z<|have W:=S; ?_
 obtain ⟨av,_,rfl,c,⟨az,ba,bb,rfl,X,B,bc⟩⟩:=W
 refine TL z z z z G6 I9 c.u z<|have Y:=X; ?_
 obtain ⟨bd,_,rfl,f,⟨Z,aa,ab,ac,ad,be,bf,bg,bi,bj,bk,bm,bn,bo,rfl,o,ae,af,ai,aj,bp,d,bq,br,bs,bt,bu,bw,bx⟩⟩:=Y
 refine TF z z z M3<|Tv z (V.C9C (k:=0) B1n z f.u (Nat.le_of_ble_eq_true z))<|Tv z (V.fa Z9 z)<|Tv z (V.M5 (k:=2) J7 z n z)<|bE H fun bA ak H=>Tp z z (X2 z z) (O.G9 z (A2k ⟨Z,aa,ab,ac,ad,z,o.u,ae.u,af.u,ai.u,aj.u⟩ ak _) z fun bB bC bD j am=>?_) T.P5
 obtain ⟨rfl,an⟩:=am
 refine P7 _ an<|Ts z z (SX.two (XA.fr [] Li z) (XA.fr [] Li z)) (V.asg z) z ?_ T.P5
 refine T.O7 (SX.two (XA.fr [] Li z) (XA.fr [] Li z))<|Th<|Sm z<|NL z P8 E5 c.u z<|Mv z<|bE H fun C D H=>?_
 obtain ⟨bG,ao,rfl⟩:=F8.at B D
 refine Vv (V.ix A9 z z B (E9 D))<|Vv (V.S9 D7 z ao.u z)<|An z<|Sq<|Sm z<|Wl z z<|Nt<|T.cH H z (fun H=>?_) fun H=>?_
 ·refine T.ret<|Tr<|have ap:=(i.trans j); have aq:=b.2.1 _ _ _ _ ap hRa; ?_
  cases H
  exact T.C5a results92 Li ⟨La,z,z,aq⟩
 refine Ks<|Sm z<|An z<|Sq ?_
 obtain ⟨G,ar,au⟩:=K4 H
 refine T.ck (α:=Int) [0,2,4,6,7] (fun g=>([(8,qi g)],(As ++ (La ++ L)),fun hh=>G=g)) ?_ ?_
 ·have H:=ar
  refine Bl<|T.lk [0,2,4,6,7] (FUEL,C) (fun ⟨e,a⟩=>([(8,qi a)],(As ++ (La ++ L)),fun hh=>iter (A9a m C) e a=some G)) H ?_
  rintro ⟨e,a⟩ bI bJ aw
  obtain ⟨ax,bK,rfl,H,p⟩:=G8 aw
  refine T.norm [8,0,2,4,6,7] z<|P7 ((As ++ (La ++ L))) z<|Sq<|Sq<|T.N8 (t:=(.vs [0,1,2,3,4,5,6,7,8,9,10,11,12,13,14,15,16,17,18,19,20,21,22,23,24,25] .done)) 27 0 0 z z I5 (by kernel_rfl) ?_
  refine Tm z z<|Tv z (V.gt z z)<|Tm z z<|T.bH 31 H z (fun H=>?_) fun H=>?_
  ·refine Tm z z<|TL z z z z G6 I9 c.u z<|TL z z z z U7 E5 f.u z<|Tm z z<|bE H fun bM ay H=>Tv z (V.Y9 z z ay)<|bE H fun bN I H=>?_
   obtain ⟨bO,aA,rfl⟩:=F8.at d I
   refine Tv z (V.ix A9 z z d (E9 I))<|Tv z (V.S9 D7 z aA.u z)<|Tm z z<|TL z z z z G6 I9 c.u z<|TL z z z z U7 E5 f.u z<|Tm z z<|bE H fun bP J H=>?_
   obtain ⟨bS,aB,rfl⟩:=F8.at d J
   refine Tv z (V.ix A9 z z d (E9 J))<|Tv z (V.S9 D7 z aB.u z)<|Tv z (V.eq z z)<|Tv z (V.pkT z z)<|T.O7 (X2 z z)<|Th<|T.cH H z (fun H=>?_) fun H=>?_
   ·refine Ks<|Bl<|Rg<|Mv z<|bE H fun aC aD H=>Vv (V.Y9 z z aD)<|Ag z<|Ni<|Bn<|Th<|T.ag (ax,aC) (D8 H p)
   refine T.exit<|Te<|Te<|have H:=D6 H p; Be<|Th<|T.mt a H
  refine T2 z z<|T2 z z<|T2 z z<|T2 z z<|T2 z z<|T2 z z<|T2 z z<|T2 z z<|T2 z z<|T2 z z<|T2 z z<|Tv z (V.pkF z z)<|T.O7 (X2 z z)<|Th<|Cf z<|T.exit<|Te<|Te<|have H:=D6 H p; Be<|Th<|T.mt a H
 rintro g bU q aE
 have H:=I7 aE au
 refine T.norm [8,0,2,4,6,7] z<|P7 ((As ++ (La ++ L))) z<|Sq<|T.N8 (t:=(.vs [0,1,2,3,4,5,6,7,8,9,10,11,12,13,14,15,16,17,18,19,20,21,22,23,24,25,26,27,28,29,30,31] .done)) 33 0 0 z z I5 (by kernel_rfl) ?_
 refine Tm z z<|TL z z z z G6 I9 c.u z<|TF z z z M3<|Tv z (V.fa B0D z)<|Tv z (V.M5 (k:=0) Q0 z f.u z)<|Tm z z<|TL z z z z G6 I9 c.u z<|TL z z z z U7 E5 f.u z<|Tm z z<|bE H fun bV K H=>?_
 obtain ⟨bW,aG,rfl⟩:=F8.at d K
 refine Tv z (V.ix A9 z z d (E9 K))<|Tv z (V.S9 D7 z aG.u z)<|bE H fun bX M H=>?_
 obtain ⟨bY,aI,⟨bZ,rfl,b0⟩⟩:=F8.at o M
 refine Tv z (V.ix O6 z z o (E9 M))<|Tv z (V.fa A0j z)<|Tv z (V.M5 (k:=0) J7 z aI.u z)<|Tv z (V.fa V7 z)<|Tv z (V.M5 (k:=4) J7 z n.u z)<|Tv z (V.sne z z)<|Tm z z<|T.bH 81 H z (fun H=>?_) fun H=>?_
 ·refine T2 z z<|T2 z z<|T2 z z<|Tv z (V.pkT z z)<|T.O7 (X2 z z)<|Th<|Ct z<|Rg<|Mv z<|Mv z<|To (O.b1 (E:=VI .i64) A9 K8 z z z z z fun b2 aJ=>T.K5 fun b3 aK aM=>have aN:=A7.slc aM aJ.u; bE H fun b4 aO H=>have aP:=(((i.trans j).trans q).trans aK); have aS:=b.2.1 _ _ _ _ aP hRa; To (O.A3R z z (X4.call b.u aN aS aO As _) z fun b5 b6 b7 b8 aU=>?_))
  obtain ⟨N,rfl,aV,aW⟩:=aU
  refine P7 ((As ++ (N ++ L))) aV<|Ni ?_
  cases H
  exact T.A0Q results92 Li ⟨N,z,z,aW⟩
 refine Tm z z<|Tm z z<|bE H fun b9 aX H=>Tv z (V.Y9 z z aX)<|Tv z (V.fa U3 z)<|Tv z (V.M5 (k:=5) D7 z n.u z)<|Tv z (V.ne z z)<|Tv z (V.pkF z z)<|T.O7 (X2 z z)<|Th<|T.cH H z (fun H=>?_) fun H=>?_
 ·refine T.norm [2,6] z<|Rg<|Mv z<|Mv z<|To (O.b1 (E:=VI .i64) A9 K8 z z z z z fun bh aY=>T.K5 fun bl aZ a0=>have a1:=A7.slc a0 aY.u; bE H fun bv a2 H=>have a3:=(((i.trans j).trans q).trans aZ); have a4:=b.2.1 _ _ _ _ a3 hRa; To (O.A3R z z (X4.call b.u a1 a4 a2 As _) z fun bz ca cb cc a5=>?_))
  obtain ⟨P,rfl,a6,a7⟩:=a5
  refine P7 ((As ++ (P ++ L))) a6<|Ni ?_
  cases H
  exact T.A0Q results92 Li ⟨P,z,z,a7⟩
 refine T.skip<|have a8:=((i.trans j).trans q); have a9:=b.2.1 _ _ _ _ a8 hRa; ?_
 cases H
 exact T.A0Q results92 Li ⟨La,z,z,a9⟩
theorem C1n {σ:Type} {R:σ→PH→List D9→Prop} {n:σ→Int→(List Int)→Option σ} {o:σ} {q_s:σ} {h w p x q y La} (M:Pt M4 h w p) (N:H9 h x q) (i:X4 R h y n) (hRa:R o h La) (H:B1U p q n o=some q_s):∀ As L,J6 prog 95 [w,.agg x.toArray,y] h ((As ++ (La ++ L))) (fun v h' L'=>∃ La',v=.tuple #[]∧L'=(As ++ (La' ++ L))∧R q_s h' La'):=by
 intro As L
 obtain rfl:=N
 refine J6.enter func95 z z z<|Sr<|To (O.U5 z z z fun aZ a0 P A=>Nt<|Sm z<|have S:=M; ?_)
 obtain ⟨a1,_,rfl,j,⟨a2,a3,a4,rfl,U,r,a5⟩⟩:=S
 refine NL z P8 E5 j.u z<|Vv (V.Q3 A9 z r)<|Mv z<|Nt<|T.A0L ?_
 obtain ⟨W,X,Y⟩:=K4 H
 have H:=X
 refine Bl<|have Z:=i.2.1 _ _ _ _ P hRa; T.lk [0,2,4,11,12] (FUEL,o,(0:Int),La) (fun ⟨e,b,f,a⟩=>([(13,qi f)],(As ++ (a ++ L)),fun hh=>iter (A5a p q n) e (b,f)=some W∧R b hh a)) ⟨H,Z⟩ ?_
 rintro ⟨e,b,f,a⟩ a6 a7 ⟨aa,c⟩
 obtain ⟨g,a8,rfl,H,d⟩:=G8 aa
 refine T.norm [13,0,2,4,11,12] z<|P7 ((As ++ (a ++ L))) z<|Sr<|Wl z z<|Nt<|Sq<|T.cH H z (fun H=>?_) fun H=>?_
 ·refine Ks<|Sq<|Bl<|Sm z<|bE H fun a9 B H=>?_
  obtain ⟨ah,ab,rfl⟩:=F8.at r B
  refine Vv (V.ix A9 z z r (E9 B))<|Vv (V.S9 D7 z ab.u z)<|Ag z<|An z<|Sq<|T.N8 (t:=(.vs [0,1,2,3,4,5,6,7,8,9,10,11,12,13,14,15,16,17,18,19,20,21,22,23,24,25,26,27,28,29,30,31,32,33,34,35,36,37,38,39,40,41,42,43,44,45,46,47,48,49,50] .done)) 52 0 0 z z I5 (by kernel_rfl) ?_
  refine Tm z z<|Tv z (V.ge z z)<|Tm z z<|T.bH 20 H z (fun H=>?_) fun H=>?_
  ·refine Tm z z<|TL z z z z G6 I9 j.u z<|have ac:=U; ?_
   obtain ⟨al,_,rfl,s,⟨av,az,ba,bb,bc,bd,be,bf,bg,bi,bj,bk,bm,bn,rfl,bo,m,bp,bq,br,bs,bt,bu,C,bw,bx,bA,bB,bC⟩⟩:=ac
   refine TL z z z z B2g B2q s.u z<|Tm z z<|bE H fun bD D H=>?_
   obtain ⟨bG,ad,rfl⟩:=F8.at C D
   refine Tv z (V.ix A1m z z C (E9 D))<|Tv z (V.S9 U8 z ad.u z)<|Tv z (V.not z)<|Tv z (V.pkT z z)<|Tm z z<|T.bH 33 H z (fun H=>?_) fun H=>?_
   ·refine Tv z (V.fa Z9 z)<|Tv z (V.M5 (k:=2) J7 z A.u z)<|Tm z z<|TL z z z z G6 I9 j.u z<|TF z z z M3<|Tv z (V.fa A0I z)<|Tv z (V.M5 (k:=1) O0 z s.u z)<|Tm z z<|bE H fun bI G H=>?_
    obtain ⟨bJ,ae,⟨bK,rfl,bM⟩⟩:=F8.at m G
    refine Tv z (V.ix O9 z z m (E9 G))<|Tv z (V.fa A0k z)<|Tv z (V.M5 (k:=0) J7 z ae.u z)<|Tv z (V.seq z z)<|Tm z z<|T.bH 49 H z (fun H=>?_) fun H=>?_
    ·refine T2 z z<|T2 z z<|T2 z z<|T2 z z<|T2 z z<|T2 z z<|T2 z z<|T2 z z<|Tk z<|Tv z (V.pkT z z)<|Tv z (V.pkT z z)<|T.O7 (X2 z z)<|Th<|Ct z<|T.norm [0,2,4,6,11,12,13] z<|Rg<|Mv z<|Mv z<|To (O.b1 (E:=VI .i64) A9 K8 z z z z z fun bN af=>T.K5 fun bO ai aj=>have ak:=A7.slc aj af.u; bE H fun am an H=>have ao:=i.2.1 _ _ _ _ ai c; To (O.A3R z z (X4.call i.u ak ao an As _) z fun bP bS bU bV ap=>?_))
     obtain ⟨I,rfl,aq,ar⟩:=ap
     refine P7 ((As ++ (I ++ L))) aq<|Ni<|Bn<|Th<|Rg<|bE H fun au aw H=>Vv (V.H8 z z aw)<|Mv z<|Nt<|T.ag (g,am,au,I) ⟨(D8 H d),ar⟩
    refine Tv z (V.fa Z9 z)<|Tv z (V.M5 (k:=2) J7 z A.u z)<|Tv z (V.seq z z)<|Tm z z<|T.bH 53 H z (fun H=>?_) fun H=>?_
    ·refine Tm z z<|TL z z z z G6 I9 j.u z<|TF z z z M3<|Tv z (V.fa A0I z)<|Tv z (V.M5 (k:=1) O0 z s.u z)<|Tm z z<|bE H fun bW J H=>?_
     obtain ⟨bX,ax,⟨bY,rfl,bZ⟩⟩:=F8.at m J
     refine Tv z (V.ix O9 z z m (E9 J))<|Tv z (V.fa C2L z)<|Tv z (V.M5 (k:=7) U8 z ax.u z)<|Tv z (V.pkT z z)<|Tv z (V.pkF z z)<|Tv z (V.pkT z z)<|T.O7 (X2 z z)<|Th<|T.cH H z (fun H=>?_) fun H=>?_
     ·refine T.norm [0,2,4,6,11,12,13] z<|Rg<|Mv z<|Mv z<|To (O.b1 (E:=VI .i64) A9 K8 z z z z z fun b0 ay=>T.K5 fun b2 aA aB=>have aC:=A7.slc aB ay.u; bE H fun aD aE H=>have aG:=i.2.1 _ _ _ _ aA c; To (O.A3R z z (X4.call i.u aC aG aE As _) z fun b3 b4 b5 b6 aI=>?_))
      obtain ⟨K,rfl,aJ,aK⟩:=aI
      refine P7 ((As ++ (K ++ L))) aJ<|Ni<|Bn<|Th<|Rg<|bE H fun aM aN H=>Vv (V.H8 z z aN)<|Mv z<|Nt<|T.ag (g,aD,aM,K) ⟨(D8 H d),aK⟩
     refine T.skip<|Bn<|Th<|T.norm [0,2,4,11,12,13] z<|Rg<|bE H fun aO aP H=>Vv (V.H8 z z aP)<|Mv z<|Nt<|T.ag (g,b,aO,a) ⟨(D8 H d),c⟩
    refine T2 z z<|T2 z z<|T2 z z<|T2 z z<|T2 z z<|T2 z z<|Tv z (V.pkF z z)<|Tv z (V.pkF z z)<|Tv z (V.pkT z z)<|T.O7 (X2 z z)<|Th<|Cf z<|T.skip<|Bn<|Th<|T.norm [0,2,4,11,12,13] z<|Rg<|bE H fun aS aU H=>Vv (V.H8 z z aU)<|Mv z<|Nt<|T.ag (g,b,aS,a) ⟨(D8 H d),c⟩
   refine T2 z z<|T2 z z<|T2 z z<|T2 z z<|T2 z z<|T2 z z<|T2 z z<|T2 z z<|T2 z z<|T2 z z<|T2 z z<|T2 z z<|T2 z z<|T2 z z<|T2 z z<|T2 z z<|T2 z z<|Tv z (V.pkF z z)<|T.O7 (X2 z z)<|Th<|Cf z<|T.skip<|Bn<|Th<|Rg<|bE H fun aV aW H=>Vv (V.H8 z z aW)<|Mv z<|Nt<|T.ag (g,b,aV,a) ⟨(D8 H d),c⟩
  refine T2 z z<|T2 z z<|T2 z z<|T2 z z<|T2 z z<|Tk z<|Tv z (V.pkF z z)<|Tm z z<|T2 z z<|T2 z z<|T2 z z<|T2 z z<|T2 z z<|T2 z z<|T2 z z<|T2 z z<|T2 z z<|T2 z z<|T2 z z<|T2 z z<|T2 z z<|T2 z z<|T2 z z<|T2 z z<|T2 z z<|Tv z (V.pkF z z)<|T.O7 (X2 z z)<|Th<|Cf z<|T.skip<|Bn<|Th<|Rg<|bE H fun aX aY H=>Vv (V.H8 z z aY)<|Mv z<|Nt<|T.ag (g,b,aX,a) ⟨(D8 H d),c⟩
 refine T.exit<|Te<|Te<|have H:=D6 H d; Be<|Th<|have H:=I7 H Y; ?_
 cases H
 exact T.A0Q results95 Li ⟨a,z,z,c⟩
theorem C1u {σ:Type} {R:σ→PH→List D9→Prop} {J:σ→Int→(List Int)→Option σ} {K:σ} {q_s:σ} {h Y x Z b aa La} (aD:Pt M4 h Y x) (aE:H9 h Z b) (n:X4 R h aa J) (hRa:R K h La) (H:B2c x b J K=some q_s):∀ As L,J6 prog 96 [Y,.agg Z.toArray,aa] h ((As ++ (La ++ L))) (fun v h' L'=>∃ La',v=.tuple #[]∧L'=(As ++ (La' ++ L))∧R q_s h' La'):=by
 intro As L
 obtain rfl:=aE
 refine J6.enter func96 z z z<|Sr<|To (O.U5 z z z fun b8 b9 aG aI=>Nt<|Sm z<|have aJ:=aD; ?_)
 obtain ⟨bh,_,rfl,o,⟨aK,aM,aN,rfl,ab,C,M⟩⟩:=aJ
 refine NL z P8 E5 o.u z<|Vv (V.Q3 A9 z C)<|Mv z<|Nt<|T.A0L ?_
 obtain ⟨aO,aP,aS⟩:=K4 H
 have H:=aP
 refine Bl<|have aU:=n.2.1 _ _ _ _ aG hRa; T.lk [0,2,4,18,19] (FUEL,K,(0:Int),La) (fun ⟨p,c,d,a⟩=>([(20,qi d)],(As ++ (a ++ L)),fun hh=>iter (A4Y x b J) p (c,d)=some aO∧R c hh a)) ⟨H,aU⟩ ?_
 rintro ⟨p,c,d,a⟩ aV bl ⟨aW,y⟩
 obtain ⟨D,bv,rfl,H,A⟩:=G8 aW
 refine T.norm [20,0,2,4,18,19] z<|P7 ((As ++ (a ++ L))) z<|Sr<|Wl z z<|Nt<|Sq<|T.cH H z (fun H=>?_) fun H=>?_
 ·refine Ks<|Sq<|Bl<|Sm z<|bE H fun bz ac H=>?_
  obtain ⟨ca,aX,rfl⟩:=F8.at C ac
  refine Vv (V.ix A9 z z C (E9 ac))<|Vv (V.S9 D7 z aX.u z)<|Ag z<|An z<|Sq<|Sq ?_
  obtain ⟨aY,aZ,a0⟩:=K4 H
  refine T.ck (α:=Bool) [0,2,4,6,7,18,19,20] (fun B=>([(33,.bool B)],(As ++ (a ++ L)),fun hh=>aY=B)) ?_ ?_
  ·have H:=aZ
   refine Rg<|Mv z<|Wl z z<|Mv z<|T.bH 27 H z (fun H=>?_) fun H=>?_
   ·refine S2<|S2<|Sk<|Kt z<|Nt<|T.mt true (M7 H)
   refine Mv z<|Vv (V.ldS z aI.u (by exact K3)) ?_
   refine Mv z<|bE H fun a1 a2 H=>To (O.G9 z (A5m (Pt.mk o.u ⟨aK,aM,aN,z,ab.u,C.u,M.u⟩) (show H9 aV [.int .u8 b.H6,qi b.J3,.string b.fA,.string b.fB,.string b.J2,qi b.fN] b from z) a2 _) z fun cb cc cd ce a3=>?_)
   obtain ⟨rfl,a4⟩:=a3
   refine P7 _ a4<|Vv (V.not z)<|Kf z<|Nt<|T.mt (!a1) (M7 H)
  rintro B a5 G a6
  have H:=I7 a6 a0
  refine T.norm [33,0,2,4,6,7,18,19,20] z<|P7 ((As ++ (a ++ L))) z<|T.cH H z (fun H=>?_) fun H=>?_
  ·refine T.exit<|Te<|Be<|Th<|Rg<|bE H fun a7 a8 H=>Vv (V.H8 z z a8)<|Mv z<|Nt<|have a9:=n.2.1 _ _ _ _ G y; T.ag (D,c,a7,a) ⟨(D8 H A),a9⟩
  refine Ks<|Sg z<|An z<|Sq<|Sq<|T.N8 (t:=(.vs [0,1,2,3,4,5,6,7,8,9,10,11,12,13,14,15,16,17,18,19,22] (.alt 20 (.g (.v 21 .done)) .no))) 24 0 0 z z I5 (by kernel_rfl) ?_
  refine Tm z z<|TL z z z z G6 I9 o.u z<|have ah:=ab; ?_
  obtain ⟨cf,_,rfl,N,⟨cg,ci,cj,ck,cm,cn,co,cp,cq,cr,cs,ct,cu,cw,rfl,cx,cy,cA,cB,cC,cD,cE,cG,cI,ad,ae,cJ,af,cK⟩⟩:=ah
  refine TL z z z z A2h U1 N.u z<|Tm z z<|bE H fun ai aj H=>?_
  obtain ⟨cM,al,⟨ak,rfl,am⟩⟩:=F8.at ad aj
  refine Tv z (V.ix J9 z z ad (E9 aj))<|Tv z (V.S9 E5 z al.u z)<|Tm z z<|TL z z z z G6 I9 o.u z<|TL z z z z A4v U1 N.u z<|Tm z z<|bE H fun an ao H=>?_
  obtain ⟨cN,av,⟨ap,rfl,aq⟩⟩:=F8.at ae ao
  refine Tv z (V.ix J9 z z ae (E9 ao))<|Tv z (V.S9 E5 z av.u z)<|Tm z z<|Tp z z (X2 z z) (O.bs J9 A1I z (e:=z) (hk:=z) (xs:=[.tmp 43,.tmp 53]) (hv:=CO.eq (CO.cons (F8.cells am) (CO.cons (F8.cells aq) CO.nil))) (hw:=O3.of z) (hd:=z) fun cO=>?_) T.P5
  have az:A7 (VSl (VI .i64) 1) a5 [[ak],[ap]] ([ai,an]:List (List Int)):=(A7.cons ⟨ak,z,am.u⟩ (A7.cons ⟨ap,z,aq.u⟩ A7.nil))
  refine T.K5 fun cP P ba=>have S:=A7.slc ba az.u; T.O1 Li<|Tv z (V.Q3 J9 z S)<|T.O7 (X2 z z)<|Th ?_
  obtain ⟨bb,bc,bd⟩:=K4 H
  have H:=bc
  refine Bl<|T.lk [0,2,4,6,18,19,20,54,55] (FUEL,(0:Int),false,true) (fun ⟨q,r,j,m⟩=>([(56,qi r),(8,.bool j),(9,.bool m)],(As ++ (a ++ L)),fun hh=>iter (A1r x d ai an) q (r,j,m)=some bb)) H ?_
  rintro ⟨q,r,j,m⟩ cS U be
  obtain ⟨bf,cU,rfl,H,ar⟩:=G8 be
  refine T.norm [56,8,9,0,2,4,6,18,19,20,54,55] z<|P7 ((As ++ (a ++ L))) z<|Sr<|Wl z z<|Nt<|Sq<|T.cH H z (fun H=>?_) fun H=>?_
  ·refine Ks<|Sq<|Bl<|Sr<|bE H fun bg au H=>?_
   obtain ⟨cV,bi,⟨cW,rfl,W⟩⟩:=F8.at S au
   refine Vv (V.ix J9 z z S (E9 au))<|Vv (V.S9 E5 z bi.u z)<|An z<|Sm z<|Vv (V.Q3 A9 z W)<|Mv z<|Nt<|T.A0L ?_
   obtain ⟨bj,bk,bm⟩:=K4 H
   have H:=bk
   refine Bl<|T.lk [0,2,4,6,18,19,20,54,55,56,60,61] (FUEL,(0:Int),j,m) (fun ⟨s,w,f,i⟩=>([(62,qi w),(8,.bool f),(9,.bool i)],(As ++ (a ++ L)),fun hh=>iter (A2s x d bg) s (w,f,i)=some bj)) H ?_
   rintro ⟨s,w,f,i⟩ cX cY bn
   obtain ⟨X,cZ,rfl,H,I⟩:=G8 bn
   refine T.norm [62,8,9,0,2,4,6,18,19,20,54,55,56,60,61] z<|P7 ((As ++ (a ++ L))) z<|Sr<|Wl z z<|Nt<|Sq<|T.cH H z (fun H=>?_) fun H=>?_
   ·refine Ks<|Sq<|Bl<|Sr<|bE H fun c0 aw H=>?_
    obtain ⟨c1,bo,rfl⟩:=F8.at W aw
    refine Vv (V.ix A9 z z W (E9 aw))<|Vv (V.S9 D7 z bo.u z)<|An z<|Sm z<|NL z B2t E5 o.u z<|Mv z<|bE H fun c2 ax H=>?_
    obtain ⟨c3,bp,rfl⟩:=F8.at M ax
    refine Vv (V.ix A9 z z M (E9 ax))<|Vv (V.S9 D7 z bp.u z)<|An z<|Sm z<|Vv (V.ge z z)<|Nt<|T.cH H z (fun H=>?_) fun H=>?_
    ·refine Sr<|An z<|Rg<|Mv z<|Mv z<|T.bH 76 H z (fun H=>?_) fun H=>?_
     ·refine Mv z<|NL z G6 I9 o.u z<|NL z A6v A9B N.u z<|Mv z<|bE H fun c4 ay H=>?_
      obtain ⟨c5,bq,⟨c6,rfl,aA⟩⟩:=F8.at af ay
      refine Vv (V.ix A2Z z z af (E9 ay))<|Vv (V.S9 B2q z bq.u z)<|Mv z<|bE H fun br aB H=>?_
      obtain ⟨c7,bt,rfl⟩:=F8.at aA aB
      refine Vv (V.ix A1m z z aA (E9 aB))<|Vv (V.S9 U8 z bt.u z)<|Vv (V.not z)<|Kt z<|Ag z<|Ni<|Bn<|Th<|T.norm [0,2,4,6,8,9,18,19,20,54,55,56,60,61,62] z<|Rg<|bE H fun bu bw H=>Vv (V.H8 z z bw)<|Mv z<|Nt<|T.ag (X,bu,true,!br) (D8 H I)
     refine S2<|S2<|S2<|S2<|S2<|S2<|S2<|Kf z<|Ag z<|Ni<|Bn<|Th<|Rg<|bE H fun bx bA H=>Vv (V.H8 z z bA)<|Mv z<|Nt<|T.ag (X,bx,true,false) (D8 H I)
    refine T.skip<|Bn<|Th<|Rg<|bE H fun bB bC H=>Vv (V.H8 z z bC)<|Mv z<|Nt<|T.ag (X,bB,f,i) (D8 H I)
   refine T.exit<|Te<|Te<|have H:=D6 H I; Be<|Th<|have H:=I7 H bm; Bn<|Th<|Rg<|bE H fun bD bG H=>Vv (V.H8 z z bG)<|Mv z<|Nt<|T.ag (bf,bD,f,i) (D8 H ar)
  refine T.exit<|Te<|Te<|have H:=D6 H ar; Be<|Th<|have H:=I7 H bd; Sm z<|Mv z<|T.bH 95 H z (fun H=>?_) fun H=>?_
  ·refine Mv z<|Kt z<|Nt<|T.cH H z (fun H=>?_) fun H=>?_
   ·refine Rg<|Mv z<|Mv z<|To (O.b1 (E:=VI .i64) A9 K8 z z z z z fun c8 bI=>T.K5 fun c9 bJ bK=>have bM:=A7.slc bK bI.u; bE H fun bN bO H=>have bP:=(((G.trans P).trans U).trans bJ); have bS:=n.2.1 _ _ _ _ bP y; To (O.A3R z z (X4.call n.u bM bS bO As _) z fun ch cl cv cz bU=>?_))
    obtain ⟨aC,rfl,bV,bW⟩:=bU
    refine P7 ((As ++ (aC ++ L))) bV<|Ni<|Bn<|Th<|Rg<|bE H fun bX bY H=>Vv (V.H8 z z bY)<|Mv z<|Nt<|T.ag (D,bN,bX,aC) ⟨(D8 H A),bW⟩
   refine T.skip<|Bn<|Th<|Rg<|bE H fun bZ b0 H=>Vv (V.H8 z z b0)<|Mv z<|Nt<|have b2:=((G.trans P).trans U); have b3:=n.2.1 _ _ _ _ b2 y; T.ag (D,c,bZ,a) ⟨(D8 H A),b3⟩
  refine Sk<|Kf z<|Nt<|Cf z<|T.skip<|Bn<|Th<|Rg<|bE H fun b4 b5 H=>Vv (V.H8 z z b5)<|Mv z<|Nt<|have b6:=((G.trans P).trans U); have b7:=n.2.1 _ _ _ _ b6 y; T.ag (D,c,b4,a) ⟨(D8 H A),b7⟩
 refine T.exit<|Te<|Te<|have H:=D6 H A; Be<|Th<|have H:=I7 H aS; ?_
 cases H
 exact T.A0Q results96 Li ⟨a,z,z,y⟩
theorem B8H {σ:Type} {R:σ→PH→List D9→Prop} {y:σ→Int→(List Int)→Option σ} {ar:σ} {q_s:σ} {h aw A ax a ay La} (aP:Pt M4 h aw A) (aS:H9 h ax a) (n:X4 R h ay y) (hRa:R ar h La) (H:A9c A a y ar=some q_s):∀ As L,J6 prog 98 [aw,.agg ax.toArray,ay] h ((As ++ (La ++ L))) (fun v h' L'=>∃ La',v=.tuple #[]∧L'=(As ++ (La' ++ L))∧R q_s h' La'):=by
 intro As L
 obtain rfl:=aS
 refine J6.enter func98 z z z<|Sr<|To (O.U5 z z z fun cm cn aU aA=>Nt<|Sm z<|have aV:=aP; ?_)
 obtain ⟨co,_,rfl,o,⟨cp,B,C,rfl,aW,f,D⟩⟩:=aV
 refine NL z P8 E5 o.u z<|Vv (V.Q3 A9 z f)<|Mv z<|Nt<|T.A0L ?_
 obtain ⟨aX,aY,aZ⟩:=K4 H
 have H:=aY
 refine Bl<|have a0:=n.2.1 _ _ _ _ aU hRa; T.lk [0,2,4,13,14] (FUEL,ar,(0:Int),La) (fun ⟨r,q,d,i⟩=>([(15,qi d)],(As ++ (i ++ L)),fun hh=>iter (A3y A a y) r (q,d)=some aX∧R q hh i)) ⟨H,a0⟩ ?_
 rintro ⟨r,q,d,i⟩ cq cr ⟨a1,aB⟩
 obtain ⟨a2,cs,rfl,H,aC⟩:=G8 a1
 refine T.norm [15,0,2,4,13,14] z<|P7 ((As ++ (i ++ L))) z<|Sr<|Wl z z<|Nt<|Sq<|T.cH H z (fun H=>?_) fun H=>?_
 ·refine Ks<|Sq<|Bl<|Sm z<|bE H fun a3 aD H=>?_
  obtain ⟨ct,a4,rfl⟩:=F8.at f aD
  refine Vv (V.ix A9 z z f (E9 aD))<|Vv (V.S9 D7 z a4.u z)<|Ag z<|An z<|Sm z<|bE H fun a5 a6 H=>Vv (V.H8 z z a6)<|An z<|T.A0L ?_
  obtain ⟨a7,a8,a9⟩:=K4 H
  have H:=a8
  refine Bl<|T.lk [0,2,4,6,7,13,14,15] (FUEL,q,a5,i) (fun ⟨s,c,g,b⟩=>([(8,qi g)],(As ++ (b ++ L)),fun hh=>iter (A3l A a y d a3) s (c,g)=some a7∧R c hh b)) ⟨H,aB⟩ ?_
  rintro ⟨s,c,g,b⟩ ah cu ⟨al,j⟩
  obtain ⟨p,cw,rfl,H,m⟩:=G8 al
  refine T.norm [8,0,2,4,6,7,13,14,15] z<|P7 ((As ++ (b ++ L))) z<|Sq<|Sm z<|Mv z<|NL z P8 E5 o.u z<|Vv (V.Q3 A9 z f)<|Wl z z<|Nt<|T.cH H z (fun H=>?_) fun H=>?_
  ·refine Ks<|Sq<|Bl<|Sm z<|NL z P8 E5 o.u z<|Mv z<|bE H fun cx aE H=>?_
   obtain ⟨cy,av,rfl⟩:=F8.at f aE
   refine Vv (V.ix A9 z z f (E9 aE))<|Vv (V.S9 D7 z av.u z)<|An z<|Sm z<|Vv (V.ge z z)<|Mv z<|T.bH 40 H z (fun H=>?_) fun H=>?_
   ·refine Mv z<|Vv (V.ge z z)<|Kt z<|Mv z<|T.bH 44 H z (fun H=>?_) fun H=>?_
    ·refine Mv z<|NL z G6 I9 o.u z<|have az:=aW; ?_
     obtain ⟨E,_,rfl,w,⟨G,I,J,K,M,N,P,S,U,W,X,Y,Z,aa,rfl,ab,ac,ad,ae,af,ai,aj,ak,am,an,ao,ap,aq,t⟩⟩:=az
     refine NL z A4F A7n w.u z<|Mv z<|bE H fun cA aG H=>?_
     obtain ⟨cB,ba,⟨cC,rfl,aI⟩⟩:=F8.at t aG
     refine Vv (V.ix A1E z z t (E9 aG))<|Vv (V.S9 B9Q z ba.u z)<|Mv z<|bE H fun cD aJ H=>?_
     obtain ⟨cE,bb,rfl⟩:=F8.at aI aJ
     refine Vv (V.ix A9t z z aI (E9 aJ))<|Vv (V.S9 B0A z bb.u z)<|We z z<|Kt z<|Mv z<|T.bH 60 H z (fun H=>?_) fun H=>?_
     ·refine Mv z<|Vv (V.ldS z aA.u (by exact K3)) ?_
      refine Mv z<|bE H fun cG bc H=>To (O.cs (A5m (Pt.mk o.u ⟨(.pointer (some E)),B,C,z,(Pt.mk w.u ⟨G,I,J,K,M,N,P,S,U,W,X,Y,Z,aa,z,ab.u,ac.u,ad.u,ae.u,af.u,ai.u,aj.u,ak.u,am.u,an.u,ao.u,ap.u,aq.u,t.u⟩),f.u,D.u⟩) (show H9 ah [.int .u8 a.H6,qi a.J3,.string a.fA,.string a.fB,.string a.J2,qi a.fN] a from z) bc _) fun bd x=>Mv z<|T.bH 65 H z (fun H=>?_) fun H=>?_)
      ·refine S2<|S2<|Kt z<|Kt z<|Mv z<|Mv z<|Mv z<|Mv z<|bE H fun cK bg H=>To (O.cs (A9J (Pt.mk o.u ⟨(.pointer (some E)),B,C,z,(Pt.mk w.u ⟨G,I,J,K,M,N,P,S,U,W,X,Y,Z,aa,z,ab.u,ac.u,ad.u,ae.u,af.u,ai.u,aj.u,ak.u,am.u,an.u,ao.u,ap.u,aq.u,t.u⟩),f.u,D.u⟩) bg _) fun bi aK=>Vv (V.not z)<|Kt z<|Nt<|T.cH H z (fun H=>?_) fun H=>?_)
       ·refine T.norm [0,2,4,6,7,8,13,14,15] z<|Rg<|Mv z<|Mv z<|Mv z<|To (O.bs A9 K8 z (e:=z) (hk:=z) (xs:=[.tmp 80,.tmp 81]) (hv:=CO.eq (CO.cons z (CO.cons z CO.nil))) (hw:=O3.of z) (hd:=z) fun cO=>have bm:A7 (VI .i64) bi [[qi d],[qi g]] ([d,g]:List Int):=(A7.cons z (A7.cons z A7.nil)); T.K5 fun cP bn bo=>have bp:=A7.slc bo bm.u; bE H fun bq br H=>have bt:=((x.trans aK).trans bn); have bu:=n.2.1 _ _ _ _ bt j; To (O.A3R z z (X4.call n.u bp bu br As _) z fun cS cU cV cW bw=>?_))
        obtain ⟨aM,rfl,bx,bA⟩:=bw
        refine P7 ((As ++ (aM ++ L))) bx<|Ni<|Bn<|Th<|Rg<|Mv z<|bE H fun bB bC H=>Vv (V.H8 z z bC)<|An z<|T.ag (p,bq,bB,aM) ⟨(D8 H m),bA⟩
       refine T.skip<|Bn<|Th<|T.norm [0,2,4,6,7,8,13,14,15] z<|Rg<|Mv z<|bE H fun bD bG H=>Vv (V.H8 z z bG)<|An z<|have bI:=(x.trans aK); have bJ:=n.2.1 _ _ _ _ bI j; T.ag (p,c,bD,b) ⟨(D8 H m),bJ⟩
      refine Mv z<|Vv (V.ldS z aA.u (by exact K3)) ?_
      refine Mv z<|bE H fun cX bK H=>To (O.cs (A5m (Pt.mk o.u ⟨(.pointer (some E)),B,C,z,(Pt.mk w.u ⟨G,I,J,K,M,N,P,S,U,W,X,Y,Z,aa,z,ab.u,ac.u,ad.u,ae.u,af.u,ai.u,aj.u,ak.u,am.u,an.u,ao.u,ap.u,aq.u,t.u⟩),f.u,D.u⟩) (show H9 bd [.int .u8 a.H6,qi a.J3,.string a.fA,.string a.fB,.string a.J2,qi a.fN] a from z) bK _) fun cZ au=>Kf z<|Kt z<|Mv z<|T.bH 72 H z (fun H=>?_) fun H=>?_)
      ·refine Mv z<|Mv z<|Mv z<|bE H fun c1 bO H=>To (O.cs (A9J (Pt.mk o.u ⟨(.pointer (some E)),B,C,z,(Pt.mk w.u ⟨G,I,J,K,M,N,P,S,U,W,X,Y,Z,aa,z,ab.u,ac.u,ad.u,ae.u,af.u,ai.u,aj.u,ak.u,am.u,an.u,ao.u,ap.u,aq.u,t.u⟩),f.u,D.u⟩) bO _) fun bP aN=>Vv (V.not z)<|Kt z<|Nt<|T.cH H z (fun H=>?_) fun H=>?_)
       ·refine T.norm [0,2,4,6,7,8,13,14,15] z<|Rg<|Mv z<|Mv z<|Mv z<|To (O.bs A9 K8 z (e:=z) (hk:=z) (xs:=[.tmp 80,.tmp 81]) (hv:=CO.eq (CO.cons z (CO.cons z CO.nil))) (hw:=O3.of z) (hd:=z) fun c4=>have bV:A7 (VI .i64) bP [[qi d],[qi g]] ([d,g]:List Int):=(A7.cons z (A7.cons z A7.nil)); T.K5 fun c5 bW bX=>have bY:=A7.slc bX bV.u; bE H fun bZ b0 H=>have b1:=(((x.trans au).trans aN).trans bW); have b2:=n.2.1 _ _ _ _ b1 j; To (O.A3R z z (X4.call n.u bY b2 b0 As _) z fun c6 c7 c8 c9 b3=>?_))
        obtain ⟨aO,rfl,b4,b5⟩:=b3
        refine P7 ((As ++ (aO ++ L))) b4<|Ni<|Bn<|Th<|Rg<|Mv z<|bE H fun b6 b7 H=>Vv (V.H8 z z b7)<|An z<|T.ag (p,bZ,b6,aO) ⟨(D8 H m),b5⟩
       refine T.skip<|Bn<|Th<|T.norm [0,2,4,6,7,8,13,14,15] z<|Rg<|Mv z<|bE H fun b8 b9 H=>Vv (V.H8 z z b9)<|An z<|have bh:=((x.trans au).trans aN); have bl:=n.2.1 _ _ _ _ bh j; T.ag (p,c,b8,b) ⟨(D8 H m),bl⟩
      refine S2<|S2<|Sk<|Kf z<|Nt<|Cf z<|T.skip<|Bn<|Th<|T.norm [0,2,4,6,7,8,13,14,15] z<|Rg<|Mv z<|bE H fun bv bz H=>Vv (V.H8 z z bz)<|An z<|have ca:=(x.trans au); have cb:=n.2.1 _ _ _ _ ca j; T.ag (p,c,bv,b) ⟨(D8 H m),cb⟩
     refine S2<|S2<|S2<|S2<|S2<|Kf z<|Mv z<|S2<|S2<|Sk<|Kf z<|Nt<|Cf z<|T.skip<|Bn<|Th<|T.norm [0,2,4,6,7,8,13,14,15] z<|Rg<|Mv z<|bE H fun cc cd H=>Vv (V.H8 z z cd)<|An z<|T.ag (p,c,cc,b) ⟨(D8 H m),j⟩
    refine S2<|S2<|S2<|S2<|S2<|S2<|S2<|Kf z<|Mv z<|S2<|S2<|S2<|S2<|S2<|Kf z<|Mv z<|S2<|S2<|Sk<|Kf z<|Nt<|Cf z<|T.skip<|Bn<|Th<|Rg<|Mv z<|bE H fun ce cf H=>Vv (V.H8 z z cf)<|An z<|T.ag (p,c,ce,b) ⟨(D8 H m),j⟩
   refine S2<|Kf z<|Mv z<|S2<|S2<|S2<|S2<|S2<|S2<|S2<|Kf z<|Mv z<|S2<|S2<|S2<|S2<|S2<|Kf z<|Mv z<|S2<|S2<|Sk<|Kf z<|Nt<|Cf z<|T.skip<|Bn<|Th<|Rg<|Mv z<|bE H fun cg ci H=>Vv (V.H8 z z ci)<|An z<|T.ag (p,c,cg,b) ⟨(D8 H m),j⟩
  refine T.exit<|Te<|Te<|have H:=D6 H m; Be<|Th<|have H:=I7 H a9; Bn<|Th<|Rg<|bE H fun cj ck H=>Vv (V.H8 z z ck)<|Mv z<|Nt<|T.ag (a2,c,cj,b) ⟨(D8 H aC),j⟩
 refine T.exit<|Te<|Te<|have H:=D6 H aC; Be<|Th<|have H:=I7 H aZ; ?_
 cases H
 exact T.A0Q results98 Li ⟨i,z,z,aB⟩
theorem B8Q {σ:Type} {R:σ→PH→List D9→Prop} {o:σ→Int→(List Int)→Option σ} {p:σ} {q_s:σ} {h w q x b y La} (J:Pt M4 h w q) (K:H9 h x b) (j:X4 R h y o) (hRa:R p h La) (H:A8V q b o p=some q_s):∀ As L,J6 prog 102 [w,.agg x.toArray,y] h ((As ++ (La ++ L))) (fun v h' L'=>∃ La',v=.tuple #[]∧L'=(As ++ (La' ++ L))∧R q_s h' La'):=by
 intro As L
 obtain rfl:=K
 refine J6.enter func102 z z z<|Sr<|To (O.U5 z z z fun be bf M A=>Nt<|Sm z<|have N:=J; ?_)
 obtain ⟨bg,_,rfl,r,⟨bi,P,S,rfl,U,m,W⟩⟩:=N
 refine NL z P8 E5 r.u z<|Vv (V.Q3 A9 z m)<|Mv z<|Nt<|T.A0L ?_
 obtain ⟨X,Y,Z⟩:=K4 H
 have H:=Y
 refine Bl<|have aa:=j.2.1 _ _ _ _ M hRa; T.lk [0,2,4,11,12] (FUEL,p,(0:Int),La) (fun ⟨d,c,e,a⟩=>([(13,qi e)],(As ++ (a ++ L)),fun hh=>iter (A3p q b o) d (c,e)=some X∧R c hh a)) ⟨H,aa⟩ ?_
 rintro ⟨d,c,e,a⟩ ab bj ⟨ac,f⟩
 obtain ⟨n,bk,rfl,H,i⟩:=G8 ac
 refine T.norm [13,0,2,4,11,12] z<|P7 ((As ++ (a ++ L))) z<|Sr<|Wl z z<|Nt<|Sq<|T.cH H z (fun H=>?_) fun H=>?_
 ·refine Ks<|Sq<|Bl<|Sm z<|bE H fun bm B H=>?_
  obtain ⟨bn,ad,rfl⟩:=F8.at m B
  refine Vv (V.ix A9 z z m (E9 B))<|Vv (V.S9 D7 z ad.u z)<|Ag z<|An z<|Sq<|T.N8 (t:=(.vs [0,1,2,3,4,5,6,7,8,9,10,11,12,13,14,15,16,17,18,19,20,21,22] (.alt 23 (.g (.v 24 (.v 25 .done))) .no))) 27 0 0 z z I5 (by kernel_rfl) ?_
  refine Tm z z<|Tv z (V.ge z z)<|Tm z z<|T.bH 20 H z (fun H=>?_) fun H=>?_
  ·refine Tm z z<|TL z z z z G6 I9 r.u z<|have ae:=U; ?_
   obtain ⟨af,_,rfl,C,⟨ai,aj,ak,am,an,ao,ap,aq,ar,au,aw,ax,ay,aA,rfl,aB,s,aC,aD,aE,aG,aI,aJ,aK,aM,aN,aO,aP,aS⟩⟩:=ae
   refine TF z z z M3<|Tv z (V.fa A0I z)<|Tv z (V.M5 (k:=1) O0 z C.u z)<|Tm z z<|bE H fun bo D H=>?_
   obtain ⟨bp,aU,⟨bq,rfl,br⟩⟩:=F8.at s D
   refine Tv z (V.ix O9 z z s (E9 D))<|Tv z (V.fa B0K z)<|Tv z (V.M5 (k:=5) J7 z aU.u z)<|Tv z (V.fa Z9 z)<|Tv z (V.M5 (k:=2) J7 z A.u z)<|Tv z (V.seq z z)<|Tv z (V.pkT z z)<|Tm z z<|T.bH 37 H z (fun H=>?_) fun H=>?_
   ·refine Tm z z<|Tv z (V.ldS z A.u (by exact K3)) ?_
    refine Tm z z<|bE H fun bs aV H=>Tp z z (X2 z z) (O.G9 z (A5m (Pt.mk r.u ⟨(.pointer (some af)),P,S,z,(Pt.mk C.u ⟨ai,aj,ak,am,an,ao,ap,aq,ar,au,aw,ax,ay,aA,z,aB.u,s.u,aC.u,aD.u,aE.u,aG.u,aI.u,aJ.u,aK.u,aM.u,aN.u,aO.u,aP.u,aS.u⟩),m.u,W.u⟩) (show H9 ab [.int .u8 b.H6,qi b.J3,.string b.fA,.string b.fB,.string b.J2,qi b.fN] b from z) aV _) z fun bt bu bw G aW=>?_) T.P5
    obtain ⟨rfl,aX⟩:=aW
    refine P7 _ aX<|T.O1 Li<|Tv z (V.not z)<|Tv z (V.pkT z z)<|T.O7 (X2 z z)<|Th<|T.cH H z (fun H=>?_) fun H=>?_
    ·refine T.norm [0,2,4,6,11,12,13] z<|Rg<|Mv z<|Mv z<|To (O.b1 (E:=VI .i64) A9 K8 z z z z z fun bx aY=>T.K5 fun bA aZ a0=>have a1:=A7.slc a0 aY.u; bE H fun a2 a3 H=>have a4:=(G.trans aZ); have a5:=j.2.1 _ _ _ _ a4 f; To (O.A3R z z (X4.call j.u a1 a5 a3 As _) z fun bB bC bD bG a6=>?_))
     obtain ⟨I,rfl,a7,a8⟩:=a6
     refine P7 ((As ++ (I ++ L))) a7<|Ni<|Bn<|Th<|Rg<|bE H fun a9 ah H=>Vv (V.H8 z z ah)<|Mv z<|Nt<|T.ag (n,a2,a9,I) ⟨(D8 H i),a8⟩
    refine T.skip<|Bn<|Th<|T.norm [0,2,4,11,12,13] z<|Rg<|bE H fun al av H=>Vv (V.H8 z z av)<|Mv z<|Nt<|have az:=j.2.1 _ _ _ _ G f; T.ag (n,c,al,a) ⟨(D8 H i),az⟩
   refine T2 z z<|Tk z<|T.A4a z z (X2 z z) z ?_ T.P5
   refine T.O1 Lr<|Tk z<|Tv z (V.pkF z z)<|T.O7 (X2 z z)<|Th<|Cf z<|T.skip<|Bn<|Th<|Rg<|bE H fun ba bb H=>Vv (V.H8 z z bb)<|Mv z<|Nt<|T.ag (n,c,ba,a) ⟨(D8 H i),f⟩
  refine T2 z z<|T2 z z<|T2 z z<|T2 z z<|T2 z z<|T2 z z<|T2 z z<|Tk z<|Tv z (V.pkF z z)<|Tm z z<|T2 z z<|Tk z<|T.A4a z z (X2 z z) z ?_ T.P5
  refine T.O1 Lr<|Tk z<|Tv z (V.pkF z z)<|T.O7 (X2 z z)<|Th<|Cf z<|T.skip<|Bn<|Th<|Rg<|bE H fun bc bd H=>Vv (V.H8 z z bd)<|Mv z<|Nt<|T.ag (n,c,bc,a) ⟨(D8 H i),f⟩
 refine T.exit<|Te<|Te<|have H:=D6 H i; Be<|Th<|have H:=I7 H Z; ?_
 cases H
 exact T.A0Q results102 Li ⟨a,z,z,f⟩
theorem A7U {σ:Type} {R:σ→PH→List D9→Prop} {x:σ→Int→(List Int)→Option σ} {D:σ} {q_s:σ} {h I y J c K A M La} (ac:Pt M4 h I y) (ad:H9 h J c) (ae:B0e h K A) (n:X4 R h M x) (hRa:R D h La) (H:A5L y c A x D=some q_s):∀ As L,J6 prog 146 [I,.agg J.toArray,K,M] h ((As ++ (La ++ L))) (fun v h' L'=>∃ La',v=.tuple #[]∧L'=(As ++ (La' ++ L))∧R q_s h' La'):=by
 intro As L
 obtain rfl:=ad
 refine J6.enter func146 z z z<|Sr<|To (O.U5 z z z fun bw bx af ai=>Nt<|Sm z<|have aj:=ac; ?_)
 obtain ⟨bA,_,rfl,o,⟨ak,am,an,rfl,N,m,ao⟩⟩:=aj
 refine NL z P8 E5 o.u z<|Vv (V.Q3 A9 z m)<|Mv z<|Nt<|T.A0L ?_
 obtain ⟨ap,aq,ar⟩:=K4 H
 have H:=aq
 refine Bl<|have au:=n.2.1 _ _ _ _ af hRa; T.lk [0,2,3,5,15,16] (FUEL,D,(0:Int),La) (fun ⟨p,i,f,a⟩=>([(17,qi f)],(As ++ (a ++ L)),fun hh=>iter (A5t y c A x) p (i,f)=some ap∧R i hh a)) ⟨H,au⟩ ?_
 rintro ⟨p,i,f,a⟩ aw bB ⟨ax,E⟩
 obtain ⟨P,bC,rfl,H,G⟩:=G8 ax
 refine T.norm [17,0,2,3,5,15,16] z<|P7 ((As ++ (a ++ L))) z<|Sr<|Wl z z<|Nt<|Sq<|T.cH H z (fun H=>?_) fun H=>?_
 ·refine Ks<|Sq<|Bl<|Sm z<|bE H fun ay S H=>?_
  obtain ⟨bD,aA,rfl⟩:=F8.at m S
  refine Vv (V.ix A9 z z m (E9 S))<|Vv (V.S9 D7 z aA.u z)<|Ag z<|An z<|Sq<|Sq ?_
  obtain ⟨aB,aC,aD⟩:=K4 H
  refine T.ck (α:=Bool) [0,2,3,5,8,9,15,16,17] (fun r=>([(30,.bool r)],(As ++ (a ++ L)),fun hh=>aB=r)) ?_ ?_
  ·have H:=aC
   refine Rg<|Mv z<|Wl z z<|Mv z<|T.bH 24 H z (fun H=>?_) fun H=>?_
   ·refine S2<|S2<|Sk<|Kt z<|Nt<|T.mt true (M7 H)
   refine Mv z<|Vv (V.ldS z ai.u (by exact K3)) ?_
   refine Mv z<|bE H fun aE aG H=>To (O.G9 z (A5m (Pt.mk o.u ⟨ak,am,an,z,N.u,m.u,ao.u⟩) (show H9 aw [.int .u8 c.H6,qi c.J3,.string c.fA,.string c.fB,.string c.J2,qi c.fN] c from z) aG _) z fun bG bI bJ bK aI=>?_)
   obtain ⟨rfl,aJ⟩:=aI
   refine P7 _ aJ<|Vv (V.not z)<|Kf z<|Nt<|T.mt (!aE) (M7 H)
  rintro r bM U aK
  have H:=I7 aK aD
  refine T.norm [30,0,2,3,5,8,9,15,16,17] z<|P7 ((As ++ (a ++ L))) z<|T.cH H z (fun H=>?_) fun H=>?_
  ·refine T.exit<|Te<|Be<|Th<|Rg<|bE H fun aM aN H=>Vv (V.H8 z z aN)<|Mv z<|Nt<|have aO:=n.2.1 _ _ _ _ U E; T.ag (P,i,aM,a) ⟨(D8 H G),aO⟩
  refine Ks<|Sm z<|bE H fun aP aS H=>Vv (V.H8 z z aS)<|An z<|T.A0L ?_
  obtain ⟨aU,aV,aW⟩:=K4 H
  have H:=aV
  refine Bl<|have aX:=n.2.1 _ _ _ _ U E; T.lk [0,2,3,5,8,9,15,16,17] (FUEL,i,aP,a) (fun ⟨q,d,j,b⟩=>([(10,qi j)],(As ++ (b ++ L)),fun hh=>iter (A5q y A x f ay) q (d,j)=some aU∧R d hh b)) ⟨H,aX⟩ ?_
  rintro ⟨q,d,j,b⟩ aY bN ⟨aZ,s⟩
  obtain ⟨B,bO,rfl,H,w⟩:=G8 aZ
  refine T.norm [10,0,2,3,5,8,9,15,16,17] z<|P7 ((As ++ (b ++ L))) z<|Sq<|Sm z<|Mv z<|NL z P8 E5 o.u z<|Vv (V.Q3 A9 z m)<|Wl z z<|Nt<|T.cH H z (fun H=>?_) fun H=>?_
  ·refine Ks<|Sq<|Bl<|Sm z<|NL z P8 E5 o.u z<|Mv z<|bE H fun bP W H=>?_
   obtain ⟨bS,a0,rfl⟩:=F8.at m W
   refine Vv (V.ix A9 z z m (E9 W))<|Vv (V.S9 D7 z a0.u z)<|An z<|Sq<|T.N8 (t:=(.vs [0,1,2,3,4,5,6,7,8,9,10,11,12,13,14,15,16,17,18,19,20,21,22,23,24,25,26,27,28] (.alt 29 (.g (.v 30 .done)) .no))) 32 0 0 z z I5 (by kernel_rfl) ?_
   refine Tm z z<|Tv z (V.ge z z)<|Tm z z<|T.bH 51 H z (fun H=>?_) fun H=>?_
   ·refine Tm z z<|TL z z z z G6 I9 o.u z<|have a1:=N; ?_
    obtain ⟨bU,_,rfl,X,⟨bV,bW,bX,bY,bZ,b0,b1,b2,b3,b4,b5,b6,b7,b8,rfl,b9,bh,bl,bv,bz,ca,C,cb,cc,cd,ce,cf,cg,ci⟩⟩:=a1
    refine TL z z z z U7 E5 X.u z<|Tm z z<|bE H fun cj Y H=>?_
    obtain ⟨ck,a2,rfl⟩:=F8.at C Y
    refine Tv z (V.ix A9 z z C (E9 Y))<|Tv z (V.S9 D7 z a2.u z)<|Tm z z<|TL z z z z G6 I9 o.u z<|TL z z z z U7 E5 X.u z<|Tm z z<|bE H fun cm Z H=>?_
    obtain ⟨cn,a3,rfl⟩:=F8.at C Z
    refine Tv z (V.ix A9 z z C (E9 Z))<|Tv z (V.S9 D7 z a3.u z)<|Tv z (V.eq z z)<|Tv z (V.pkT z z)<|Tm z z<|T.bH 74 H z (fun H=>?_) fun H=>?_
    ·refine Tm z z<|Tm z z<|Tm z z<|bE H fun co a4 H=>?_
     obtain ⟨cp,cq,cr,a5,a6⟩:=B0e.call (ae.u (g:=aY)) a4
     refine Tp z z (X2 z z) (O.A1e z a5 z (a6 _) z fun cs a7 ct aa a8=>?_) T.P5
     obtain ⟨rfl,a9⟩:=a8
     refine P7 _ a9<|T.O1 Li<|Tv z (V.pkT z z)<|T.O7 (X2 z z)<|Th<|T.cH H z (fun H=>?_) fun H=>?_
     ·refine T.norm [0,2,3,5,8,9,10,15,16,17] z<|Rg<|Mv z<|Mv z<|Mv z<|To (O.bs A9 K8 z (e:=z) (hk:=z) (xs:=[.tmp 81,.tmp 82]) (hv:=CO.eq (CO.cons z (CO.cons z CO.nil))) (hw:=O3.of z) (hd:=z) fun cu=>have ah:A7 (VI .i64) a7 [[qi f],[qi j]] ([f,j]:List Int):=(A7.cons z (A7.cons z A7.nil)); T.K5 fun cw al av=>have az:=A7.slc av ah.u; bE H fun ba bb H=>have bc:=(aa.trans al); have bd:=n.2.1 _ _ _ _ bc s; To (O.A3R z z (X4.call n.u az bd bb As _) z fun cx cy cA cB be=>?_))
      obtain ⟨ab,rfl,bf,bg⟩:=be
      refine P7 ((As ++ (ab ++ L))) bf<|Ni<|Bn<|Th<|Rg<|Mv z<|bE H fun bi bj H=>Vv (V.H8 z z bj)<|An z<|T.ag (B,ba,bi,ab) ⟨(D8 H w),bg⟩
     refine T.skip<|Bn<|Th<|T.norm [0,2,3,5,8,9,10,15,16,17] z<|Rg<|Mv z<|bE H fun bk bm H=>Vv (V.H8 z z bm)<|An z<|have bn:=n.2.1 _ _ _ _ aa s; T.ag (B,d,bk,b) ⟨(D8 H w),bn⟩
    refine T2 z z<|Tk z<|T.A4a z z (X2 z z) z ?_ T.P5
    refine T.O1 Lr<|Tv z (V.pkF z z)<|T.O7 (X2 z z)<|Th<|Cf z<|T.skip<|Bn<|Th<|T.norm [0,2,3,5,8,9,10,15,16,17] z<|Rg<|Mv z<|bE H fun bo bp H=>Vv (V.H8 z z bp)<|An z<|T.ag (B,d,bo,b) ⟨(D8 H w),s⟩
   refine T2 z z<|T2 z z<|T2 z z<|T2 z z<|T2 z z<|T2 z z<|T2 z z<|T2 z z<|T2 z z<|T2 z z<|Tk z<|Tv z (V.pkF z z)<|Tm z z<|T2 z z<|Tk z<|T.A4a z z (X2 z z) z ?_ T.P5
   refine T.O1 Lr<|Tv z (V.pkF z z)<|T.O7 (X2 z z)<|Th<|Cf z<|T.skip<|Bn<|Th<|Rg<|Mv z<|bE H fun bq br H=>Vv (V.H8 z z br)<|An z<|T.ag (B,d,bq,b) ⟨(D8 H w),s⟩
  refine T.exit<|Te<|Te<|have H:=D6 H w; Be<|Th<|have H:=I7 H aW; Bn<|Th<|Rg<|bE H fun bt bu H=>Vv (V.H8 z z bu)<|Mv z<|Nt<|T.ag (P,d,bt,b) ⟨(D8 H G),s⟩
 refine T.exit<|Te<|Te<|have H:=D6 H G; Be<|Th<|have H:=I7 H ar; ?_
 cases H
 exact T.A0Q results146 Li ⟨a,z,z,E⟩
theorem B2u {σ:Type} {R:σ→PH→List D9→Prop} {w:σ→(List Int)→Option σ} {x:σ} {q_s:σ} {h J q K r M La} (ae:Pt M4 h J q) (af:H9 h K r) (s:B1u R h M w) (hRa:R x h La) (H:A9q q r w x=some q_s):∀ As L,J6 prog 148 [J,.agg K.toArray,M] h ((As ++ (La ++ L))) (fun v h' L'=>∃ La',v=.tuple #[]∧L'=(As ++ (La' ++ L))∧R q_s h' La'):=by
 intro As L
 obtain rfl:=af
 refine J6.enter func148 z z z<|Sr<|To (O.U5 z z z fun bg bi ai N=>Nt<|Sm z<|have aj:=ae; ?_)
 obtain ⟨bj,_,rfl,y,⟨bk,bm,bn,rfl,ak,A,bo⟩⟩:=aj
 refine NL z G6 I9 y.u z<|have am:=ak; ?_
 obtain ⟨bp,_,rfl,P,⟨bq,br,bs,bt,bu,bw,bx,bA,bB,bC,bD,bG,bI,bJ,rfl,B,bK,bM,bN,bO,bP,S,bS,bU,bV,bW,bX,bY,bZ⟩⟩:=am
 refine NF z M3<|Vv (V.fa B0D z)<|Vv (V.M5 (k:=0) Q0 z P.u z)<|Vv (V.Q3 O6 z B)<|Mv z<|Nt<|T.A0L ?_
 obtain ⟨an,ao,aq⟩:=K4 H
 have H:=ao
 refine Bl<|have ar:=s.2.1 _ _ _ _ ai hRa; T.lk [0,2,4,18,19] (FUEL,x,(0:Int),La) (fun ⟨m,f,g,a⟩=>([(20,qi g)],(As ++ (a ++ L)),fun hh=>iter (A4D q r w) m (f,g)=some an∧R f hh a)) ⟨H,ar⟩ ?_
 rintro ⟨m,f,g,a⟩ b0 b2 ⟨au,C⟩
 obtain ⟨U,b3,rfl,H,D⟩:=G8 au
 refine T.norm [20,0,2,4,18,19] z<|P7 ((As ++ (a ++ L))) z<|Sr<|Wl z z<|Nt<|Sq<|T.cH H z (fun H=>?_) fun H=>?_
 ·refine Ks<|Sq<|Bl<|Sm z<|bE H fun i W H=>?_
  obtain ⟨b4,aw,⟨ax,rfl,ay⟩⟩:=F8.at B W
  refine Vv (V.ix O6 z z B (E9 W))<|Vv (V.ldS z aw.u (by exact J5)) ?_
  refine To (O.alloc A1J z z fun b5=>Ag z<|To (O.stF (vs:=[.string i.F7,.int .u8 i.Q4,qi i.fA,qi i.fB,ax,qi i.fX,qi i.fY]) J5 z z (j:=0) z z (by (simp only [BT,F8.one ay]) <;> rfl) z ?_))
  refine T.freeze fun b6 X aA=>have aB:=Z0.of aA; Nt<|Sq<|Sq ?_
  obtain ⟨aC,aD,aE⟩:=K4 H
  refine T.ck (α:=Bool) [0,2,4,6,18,19,20] (fun o=>([(34,.bool o)],(As ++ (a ++ L)),fun hh=>aC=o)) ?_ ?_
  ·have H:=aD
   refine Rg<|Vv (V.fa V7 z)<|Vv (V.M5 (k:=4) J7 z N.u z)<|Vv (V.sne z z)<|Mv z<|T.bH 28 H z (fun H=>?_) fun H=>?_
   ·refine Vv (V.fa V7 z)<|Vv (V.M5 (k:=4) J7 z N.u z)<|Vv (V.fa A0j z)<|Vv (V.M5 (k:=0) J7 z aB z)<|Vv (V.sne z z)<|Kt z<|Nt<|T.mt (!decide (r.J2=i.F7)) (M7 H)
   refine S2<|S2<|Sk<|Kf z<|Nt<|T.mt false (M7 H)
  rintro o aG Y aI
  have H:=I7 aI aE
  refine T.norm [34,0,2,4,6,18,19,20] z<|P7 ((As ++ (a ++ L))) z<|T.cH H z (fun H=>?_) fun H=>?_
  ·refine T.exit<|Te<|Be<|Th<|Rg<|bE H fun aJ aK H=>Vv (V.H8 z z aK)<|Mv z<|Nt<|have aM:=(X.trans Y); have aN:=s.2.1 _ _ _ _ aM C; T.ag (U,f,aJ,a) ⟨(D8 H D),aN⟩
  refine Ks<|Sr<|An z<|Sq<|Sm z<|NL z P8 E5 y.u z<|Vv (V.Q3 A9 z A)<|Mv z<|Nt ?_
  obtain ⟨aO,aP,aS⟩:=K4 H
  have H:=aP
  refine Bl<|T.R4 3 1<|have aU:A7 (VI .i64) aG [] ([]:List Int):=A7.nil; T.lk [0,2,4,6,18,19,20,38,39] (FUEL,(0:Int),([]:List Int),(qs),[]) (fun ⟨n,d,e,c,b⟩=>([(40,qi d),(8,c)],F5 3 1 c b::(As ++ (a ++ L)),fun hh=>iter (A3i q g) n (d,e)=some aO∧A7 (VI .i64) hh b e)) ⟨H,aU⟩ ?_
  rintro ⟨n,d,e,c,b⟩ aV aW ⟨aX,p⟩
  obtain ⟨G,b7,rfl,H,t⟩:=G8 aX
  refine T.norm [40,8,0,2,4,6,18,19,20,38,39] z<|P7 (F5 3 1 c b::(As ++ (a ++ L))) z<|Sr<|Wl z z<|Nt<|Sq<|T.cH H z (fun H=>?_) fun H=>?_
  ·refine Ks<|Sq<|Bl<|Sm z<|bE H fun b8 Z H=>?_
   obtain ⟨b9,aY,rfl⟩:=F8.at A Z
   refine Vv (V.ix A9 z z A (E9 Z))<|Vv (V.S9 D7 z aY.u z)<|Ag z<|An z<|Sm z<|Vv (V.ge z z)<|Mv z<|T.bH 47 H z (fun H=>?_) fun H=>?_
   ·refine Mv z<|NL z G6 I9 y.u z<|NL z U7 E5 P.u z<|Mv z<|bE H fun bh aa H=>?_
    obtain ⟨bl,aZ,rfl⟩:=F8.at S aa
    refine Vv (V.ix A9 z z S (E9 aa))<|Vv (V.S9 D7 z aZ.u z)<|Mv z<|We z z<|Kt z<|Nt<|T.cH H z (fun H=>?_) fun H=>?_
    ·refine Rg<|Mv z<|Mv z<|To (O.b1 (E:=VI .i64) A9 K8 z z z z z fun bv I=>bE H fun ab ac H=>To (O.apX A9 A9 K8 z z z (j:=1) z (Src.row (j:=0) z) (O3.of z) (A7.ones VI.plain I) p I ac z fun a0 bz ca=>have a1:A7 (VI .i64) aV (b ++ [[qi d]]) ab:=A7.ap p I ac; Fr_ 1 z<|T.drop<|Ag z<|Ni<|Bn<|Th<|Rg<|bE H fun a2 a3 H=>Vv (V.H8 z z a3)<|Mv z<|Nt<|T.ag (G,a2,ab,a0,(b ++ [[qi d]])) ⟨(D8 H t),a1⟩))
    refine T.skip<|Bn<|Th<|Rg<|bE H fun a4 a5 H=>Vv (V.H8 z z a5)<|Mv z<|Nt<|T.ag (G,a4,e,c,b) ⟨(D8 H t),p⟩
   refine S2<|S2<|S2<|S2<|S2<|S2<|Kf z<|Nt<|Cf z<|T.skip<|Bn<|Th<|Rg<|bE H fun a6 a7 H=>Vv (V.H8 z z a7)<|Mv z<|Nt<|T.ag (G,a6,e,c,b) ⟨(D8 H t),p⟩
  refine T.exit<|Te<|Te<|have H:=D6 H t; Be<|Th<|have H:=I7 H aS; Rg<|Mv z<|Mv z<|T.K5 fun cb a8 a9=>have ah:=A7.slc a9 p.u; bE H fun al av H=>have az:=(((X.trans Y).trans aW).trans a8); have ba:=s.2.1 _ _ _ _ az C; To (O.A3R z z (B1u.call s.u ah ba av As _) z fun cc cd ce cf bb=>?_)
  obtain ⟨ad,rfl,bc,bd⟩:=bb
  refine P7 ((As ++ (ad ++ L))) bc<|Ni<|Bn<|Th<|Rg<|bE H fun be bf H=>Vv (V.H8 z z bf)<|Mv z<|Nt<|T.ag (U,al,be,ad) ⟨(D8 H D),bd⟩
 refine T.exit<|Te<|Te<|have H:=D6 H D; Be<|Th<|have H:=I7 H aq; ?_
 cases H
 exact T.A0Q results148 Li ⟨a,z,z,C⟩
theorem B4G {h e f i j m n} (b:Z0 h i j) (s:(VPt M4) h j m) (H:A4u e f m=some n):∀ L,FnW prog 147 [.int .i64 e,.int .i64 f,.pointer (some i)] h L (.bool n):=by
 intro L
 obtain ⟨ay,rfl,u⟩:=s
 refine J6.enter func147 z z z<|Sr<|An z<|Sq<|T.N8 (t:=(.vs [0,1,2,3,4,5,6,7,8,9,10,11,12,13,14,15,16,17,18,19,20,21,22,23,24,25,26,27,28,29,30,31,32,33,34,35,36,37,38,39,40,41,42,43,44,45,46,47,48,49,50] (.alt 51 (.g (.v 52 (.alt 53 .done .no))) .no))) 55 0 0 z z I5 (by kernel_rfl) ?_
 refine Tv z (V.S9 R3 z b z)<|have w:=u; ?_
 obtain ⟨aA,_,rfl,c,⟨aB,x,y,rfl,A,B,C⟩⟩:=w
 refine TL z z z z G6 I9 c z<|have D:=A; ?_
 obtain ⟨E,_,rfl,d,⟨G,I,J,K,M,N,P,S,U,W,X,Y,Z,aa,rfl,ab,a,ac,ad,ae,af,ag,ai,aj,o,ak,am,an,ao⟩⟩:=D
 refine TF z z z M3<|Tv z (V.fa A0I z)<|Tv z (V.M5 (k:=1) O0 z d z)<|Tm z z<|bE H fun aC p H=>?_
 obtain ⟨aD,ap,⟨aE,rfl,aG⟩⟩:=F8.at a p
 refine Tv z (V.ix O9 z z a (E9 p))<|Tv z (V.fa A5p z)<|Tv z (V.M5 (k:=4) D7 z ap z)<|Tv z (V.gt z z)<|Tm z z<|T.bH 19 H z (fun H=>?_) fun H=>?_
 ·refine Tv z (V.S9 R3 z b z)<|TL z z z z G6 I9 c z<|TF z z z M3<|Tv z (V.fa A0I z)<|Tv z (V.M5 (k:=1) O0 z d z)<|Tm z z<|bE H fun aI q H=>?_
  obtain ⟨aJ,aq,⟨aK,rfl,aM⟩⟩:=F8.at a q
  refine Tv z (V.ix O9 z z a (E9 q))<|Tv z (V.fa A5p z)<|Tv z (V.M5 (k:=4) D7 z aq z)<|Tv z (V.S9 R3 z b z)<|TL z z z z G6 I9 c z<|TF z z z M3<|Tv z (V.fa A0I z)<|Tv z (V.M5 (k:=1) O0 z d z)<|Tm z z<|bE H fun aN r H=>?_
  obtain ⟨aO,ar,⟨aP,rfl,aS⟩⟩:=F8.at a r
  refine Tv z (V.ix O9 z z a (E9 r))<|Tv z (V.fa A5p z)<|Tv z (V.M5 (k:=4) D7 z ar z)<|Tv z (V.eq z z)<|Tv z (V.pkT z z)<|Tm z z<|T.bH 46 H z (fun H=>?_) fun H=>?_
  ·refine Tv z (V.S9 R3 z b z)<|Tv z (V.S9 R3 z b z)<|TL z z z z G6 I9 c z<|TL z z z z A2h U1 d z<|Tm z z<|Tm z z<|bE H fun aU au H=>Tp z z (X2 z z) (O.G9 z (A3E (Pt.mk c ⟨(.pointer (some E)),x,y,z,(Pt.mk d ⟨G,I,J,K,M,N,P,S,U,W,X,Y,Z,aa,z,ab,a,ac,ad,ae,af,ag,ai,aj,o,ak,am,an,ao⟩),B,C⟩) o au _) z fun aV aW aX aY aw=>?_) T.P5
   obtain ⟨rfl,ax⟩:=aw
   refine P7 _ ax<|T.O1 Li<|Tv z (V.pkT z z)<|Ts z z (X2 z z) (V.asg z) z ?_ T.P5
   exact T.O7 (X2 z z)<|Th<|T.ret<|E1 H
  refine T2 z z<|T2 z z<|T2 z z<|T2 z z<|T2 z z<|T.A4a z z (X2 z z) z ?_ T.P5
  refine T.O1 Lr<|Tv z (V.pkF z z)<|Ts z z (X2 z z) (V.asg z) z ?_ T.P5
  exact T.O7 (X2 z z)<|Th<|T.ret<|E1 H
 refine T2 z z<|T2 z z<|T2 z z<|T2 z z<|T2 z z<|T2 z z<|T2 z z<|T2 z z<|T2 z z<|T2 z z<|T2 z z<|T2 z z<|Tk z<|Tv z (V.pkF z z)<|Tm z z<|T2 z z<|T2 z z<|T2 z z<|T2 z z<|T2 z z<|T.A4a z z (X2 z z) z ?_ T.P5
 refine T.O1 Lr<|Tv z (V.pkF z z)<|Ts z z (X2 z z) (V.asg z) z ?_ T.P5
 exact T.O7 (X2 z z)<|Th<|T.ret<|E1 H
theorem B6z {σ:Type} {R:σ→PH→List D9→Prop} {e:σ→Int→(List Int)→Option σ} {f:σ} {q_s:σ} {h b c g a i La} (d:Pt M4 h b c) (o:H9 h g a) (j:X4 R h i e) (hRa:R f h La) (H:A6J c a e f=some q_s):∀ As L,J6 prog 93 [b,.agg g.toArray,i] h ((As ++ (La ++ L))) (fun v h' L'=>∃ La',v=.tuple #[]∧L'=(As ++ (La' ++ L))∧R q_s h' La'):=by
 intro As L
 obtain rfl:=o
 refine J6.enter func93 z z z<|Sr<|To (O.U5 z (Pt.cells d) z fun k J p m=>To (O.U5 z z z fun K n q r=>Nt<|Rg<|Vv (V.S9 R3 z m.u z)<|Vv (V.ldS z r (by exact K3)) ?_))
 refine Vv (V.mkf z z)<|Mv z<|have s:=(p.trans q); have t:=j.2.1 _ _ _ _ s hRa; bE H fun M w H=>To (O.G9 z (A7U d.u (show H9 n [.int .u8 a.H6,qi a.J3,.string a.fA,.string a.fB,.string a.J2,qi a.fN] a from z) (show B0e n (.func (.func 147) #[] #[qp k]) (fun x y=>A4u x y c) from ⟨⟨z,z⟩,.inr ⟨147,[],[qp k],z,fun A N P S U B C=>B4G m.u (show (VPt M4) A [b] c from ⟨b,z,d.u⟩) B C⟩⟩) j.u t w As _) z fun W X Y Z D=>?_)
 obtain ⟨E,rfl,G,I⟩:=D
 refine P7 _ G<|Ni ?_
 cases H
 exact T.A0Q results93 Li ⟨E,z,z,I⟩
theorem C1r {h e f i j m n} (b:Z0 h i j) (s:(VPt M4) h j m) (H:B2k e f m=some n):∀ L,FnW prog 156 [.int .i64 e,.int .i64 f,.pointer (some i)] h L (.bool n):=by
 intro L
 obtain ⟨ay,rfl,u⟩:=s
 refine J6.enter func156 z z z<|Sr<|An z<|Sq<|T.N8 (t:=(.vs [0,1,2,3,4,5,6,7,8,9,10,11,12,13,14,15,16,17,18,19,20,21,22,23,24,25,26,27,28,29,30,31,32,33,34,35,36,37,38,39,40,41,42,43,44,45,46,47,48,49,50] (.alt 51 (.g (.v 52 (.alt 53 .done .no))) .no))) 55 0 0 z z I5 (by kernel_rfl) ?_
 refine Tv z (V.S9 R3 z b z)<|have w:=u; ?_
 obtain ⟨aA,_,rfl,c,⟨aB,x,y,rfl,A,B,C⟩⟩:=w
 refine TL z z z z G6 I9 c z<|have D:=A; ?_
 obtain ⟨E,_,rfl,d,⟨G,I,J,K,M,N,P,S,U,W,X,Y,Z,aa,rfl,ab,a,ac,ad,ae,af,ag,ai,aj,o,ak,am,an,ao⟩⟩:=D
 refine TF z z z M3<|Tv z (V.fa A0I z)<|Tv z (V.M5 (k:=1) O0 z d z)<|Tm z z<|bE H fun aC p H=>?_
 obtain ⟨aD,ap,⟨aE,rfl,aG⟩⟩:=F8.at a p
 refine Tv z (V.ix O9 z z a (E9 p))<|Tv z (V.fa A8o z)<|Tv z (V.M5 (k:=2) J7 z ap z)<|Tv z (V.sne z z)<|Tm z z<|T.bH 19 H z (fun H=>?_) fun H=>?_
 ·refine Tv z (V.S9 R3 z b z)<|TL z z z z G6 I9 c z<|TF z z z M3<|Tv z (V.fa A0I z)<|Tv z (V.M5 (k:=1) O0 z d z)<|Tm z z<|bE H fun aI q H=>?_
  obtain ⟨aJ,aq,⟨aK,rfl,aM⟩⟩:=F8.at a q
  refine Tv z (V.ix O9 z z a (E9 q))<|Tv z (V.fa A8o z)<|Tv z (V.M5 (k:=2) J7 z aq z)<|Tv z (V.S9 R3 z b z)<|TL z z z z G6 I9 c z<|TF z z z M3<|Tv z (V.fa A0I z)<|Tv z (V.M5 (k:=1) O0 z d z)<|Tm z z<|bE H fun aN r H=>?_
  obtain ⟨aO,ar,⟨aP,rfl,aS⟩⟩:=F8.at a r
  refine Tv z (V.ix O9 z z a (E9 r))<|Tv z (V.fa A8o z)<|Tv z (V.M5 (k:=2) J7 z ar z)<|Tv z (V.seq z z)<|Tv z (V.pkT z z)<|Tm z z<|T.bH 46 H z (fun H=>?_) fun H=>?_
  ·refine Tv z (V.S9 R3 z b z)<|Tv z (V.S9 R3 z b z)<|TL z z z z G6 I9 c z<|TL z z z z A2h U1 d z<|Tm z z<|Tm z z<|bE H fun aU au H=>Tp z z (X2 z z) (O.G9 z (A3E (Pt.mk c ⟨(.pointer (some E)),x,y,z,(Pt.mk d ⟨G,I,J,K,M,N,P,S,U,W,X,Y,Z,aa,z,ab,a,ac,ad,ae,af,ag,ai,aj,o,ak,am,an,ao⟩),B,C⟩) o au _) z fun aV aW aX aY aw=>?_) T.P5
   obtain ⟨rfl,ax⟩:=aw
   refine P7 _ ax<|T.O1 Li<|Tv z (V.pkT z z)<|Ts z z (X2 z z) (V.asg z) z ?_ T.P5
   exact T.O7 (X2 z z)<|Th<|T.ret<|E1 H
  refine T2 z z<|T2 z z<|T2 z z<|T2 z z<|T2 z z<|T.A4a z z (X2 z z) z ?_ T.P5
  refine T.O1 Lr<|Tv z (V.pkF z z)<|Ts z z (X2 z z) (V.asg z) z ?_ T.P5
  exact T.O7 (X2 z z)<|Th<|T.ret<|E1 H
 refine T2 z z<|T2 z z<|T2 z z<|T2 z z<|T2 z z<|T2 z z<|T2 z z<|T2 z z<|T2 z z<|T2 z z<|T2 z z<|T2 z z<|Tk z<|Tv z (V.pkF z z)<|Tm z z<|T2 z z<|T2 z z<|T2 z z<|T2 z z<|T2 z z<|T.A4a z z (X2 z z) z ?_ T.P5
 refine T.O1 Lr<|Tv z (V.pkF z z)<|Ts z z (X2 z z) (V.asg z) z ?_ T.P5
 exact T.O7 (X2 z z)<|Th<|T.ret<|E1 H
theorem C4u {σ:Type} {R:σ→PH→List D9→Prop} {e:σ→Int→(List Int)→Option σ} {f:σ} {q_s:σ} {h b c g a i La} (d:Pt M4 h b c) (o:H9 h g a) (j:X4 R h i e) (hRa:R f h La) (H:B7i c a e f=some q_s):∀ As L,J6 prog 103 [b,.agg g.toArray,i] h ((As ++ (La ++ L))) (fun v h' L'=>∃ La',v=.tuple #[]∧L'=(As ++ (La' ++ L))∧R q_s h' La'):=by
 intro As L
 obtain rfl:=o
 refine J6.enter func103 z z z<|Sr<|To (O.U5 z (Pt.cells d) z fun k J p m=>To (O.U5 z z z fun K n q r=>Nt<|Rg<|Vv (V.S9 R3 z m.u z)<|Vv (V.ldS z r (by exact K3)) ?_))
 refine Vv (V.mkf z z)<|Mv z<|have s:=(p.trans q); have t:=j.2.1 _ _ _ _ s hRa; bE H fun M w H=>To (O.G9 z (A7U d.u (show H9 n [.int .u8 a.H6,qi a.J3,.string a.fA,.string a.fB,.string a.J2,qi a.fN] a from z) (show B0e n (.func (.func 156) #[] #[qp k]) (fun x y=>B2k x y c) from ⟨⟨z,z⟩,.inr ⟨156,[],[qp k],z,fun A N P S U B C=>C1r m.u (show (VPt M4) A [b] c from ⟨b,z,d.u⟩) B C⟩⟩) j.u t w As _) z fun W X Y Z D=>?_)
 obtain ⟨E,rfl,G,I⟩:=D
 refine P7 _ G<|Ni ?_
 cases H
 exact T.A0Q results103 Li ⟨E,z,z,I⟩
theorem B8Y {h b c d e f g} (i:Z0 h d e) (q:(VPt M4) h e f) (H:A8Q b c f=some g):∀ L,FnW prog 151 [.int .i64 b,.int .i64 c,.pointer (some d)] h L (.bool g):=by
 intro L
 obtain ⟨au,rfl,r⟩:=q
 refine J6.enter func151 z z z<|Sr<|An z<|Sr<|Vv (V.S9 R3 z i z)<|have s:=r; ?_
 obtain ⟨aw,_,rfl,j,⟨ax,t,u,rfl,w,x,y⟩⟩:=s
 refine NL z G6 I9 j z<|have A:=w; ?_
 obtain ⟨B,_,rfl,m,⟨C,D,E,G,I,J,K,M,N,P,S,U,W,X,rfl,Y,Z,aa,ab,ac,ad,ae,af,ag,ai,aj,ak,am,a⟩⟩:=A
 refine NL z A4F A7n m z<|Mv z<|bE H fun ay n H=>?_
 obtain ⟨aA,an,⟨aB,rfl,o⟩⟩:=F8.at a n
 refine Vv (V.ix A1E z z a (E9 n))<|Vv (V.S9 B9Q z an z)<|Mv z<|bE H fun aC p H=>?_
 obtain ⟨aD,ao,rfl⟩:=F8.at o p
 refine Vv (V.ix A9t z z o (E9 p))<|Vv (V.S9 B0A z ao z)<|We z z<|Mv z<|T.bH 20 H z (fun H=>?_) fun H=>?_
 ·exact Vv (V.S9 R3 z i z)<|Mv z<|Mv z<|bE H fun aE ap H=>To (O.cs (A9J (Pt.mk j ⟨(.pointer (some B)),t,u,z,(Pt.mk m ⟨C,D,E,G,I,J,K,M,N,P,S,U,W,X,z,Y,Z,aa,ab,ac,ad,ae,af,ag,ai,aj,ak,am,a⟩),x,y⟩) ap _) fun aI aK=>Kt z<|Ag z<|Nr<|E1 H)
 exact S2<|S2<|Kf z<|Ag z<|Nr<|E1 H
theorem C1o {σ:Type} {R:σ→PH→List D9→Prop} {e:σ→Int→(List Int)→Option σ} {f:σ} {q_s:σ} {h b c g a i La} (d:Pt M4 h b c) (o:H9 h g a) (j:X4 R h i e) (hRa:R f h La) (H:B1V c a e f=some q_s):∀ As L,J6 prog 97 [b,.agg g.toArray,i] h ((As ++ (La ++ L))) (fun v h' L'=>∃ La',v=.tuple #[]∧L'=(As ++ (La' ++ L))∧R q_s h' La'):=by
 intro As L
 obtain rfl:=o
 refine J6.enter func97 z z z<|Sr<|To (O.U5 z (Pt.cells d) z fun k J p m=>To (O.U5 z z z fun K n q r=>Nt<|Rg<|Vv (V.S9 R3 z m.u z)<|Vv (V.ldS z r (by exact K3)) ?_))
 refine Vv (V.mkf z z)<|Mv z<|have s:=(p.trans q); have t:=j.2.1 _ _ _ _ s hRa; bE H fun M w H=>To (O.G9 z (A7U d.u (show H9 n [.int .u8 a.H6,qi a.J3,.string a.fA,.string a.fB,.string a.J2,qi a.fN] a from z) (show B0e n (.func (.func 151) #[] #[qp k]) (fun x y=>A8Q x y c) from ⟨⟨z,z⟩,.inr ⟨151,[],[qp k],z,fun A N P S U B C=>B8Y m.u (show (VPt M4) A [b] c from ⟨b,z,d.u⟩) B C⟩⟩) j.u t w As _) z fun W X Y Z D=>?_)
 obtain ⟨E,rfl,G,I⟩:=D
 refine P7 _ G<|Ni ?_
 cases H
 exact T.A0Q results97 Li ⟨E,z,z,I⟩
theorem B7E {h g i n o p q} (a:Z0 h n o) (D:(VPt M4) h o p) (H:A7Z g i p=some q):∀ L,FnW prog 153 [.int .i64 g,.int .i64 i,.pointer (some n)] h L (.bool q):=by
 intro L
 obtain ⟨ab,rfl,E⟩:=D
 refine J6.enter func153 z z z<|Sr<|An z<|Sq<|Sq<|T.N8 (t:=(.vs [0,1,2,3,4,5,6,7,8,9,10,11,12,13,14,15,16,17,18,19,20,21,22] .done)) 24 0 0 z z I5 (by kernel_rfl) ?_
 refine Tv z (V.S9 R3 z a z)<|have G:=E; ?_
 obtain ⟨ac,_,rfl,b,⟨ad,ae,af,rfl,I,j,ag⟩⟩:=G
 refine TL z z z z G6 I9 b z<|have J:=I; ?_
 obtain ⟨ai,_,rfl,d,⟨aj,ak,am,an,ao,ap,aq,ar,au,aw,ax,ay,aA,aB,rfl,aC,aD,aE,c,aG,aI,aJ,m,aK,aM,aN,aO,aP,aS⟩⟩:=J
 refine TF z z z M3<|Tv z (V.fa A8u z)<|Tv z (V.M5 (k:=3) E5 z d z)<|Tm z z<|bE H fun aU r H=>?_
 obtain ⟨aV,K,rfl⟩:=F8.at c r
 refine Tv z (V.ix A9 z z c (E9 r))<|Tv z (V.S9 D7 z K z)<|Tv z (V.S9 R3 z a z)<|TL z z z z G6 I9 b z<|TF z z z M3<|Tv z (V.fa A8u z)<|Tv z (V.M5 (k:=3) E5 z d z)<|Tm z z<|bE H fun aW s H=>?_
 obtain ⟨aX,M,rfl⟩:=F8.at c s
 refine Tv z (V.ix A9 z z c (E9 s))<|Tv z (V.S9 D7 z M z)<|Tv z (V.gt z z)<|T.O7 (X2 z z)<|Th ?_
 obtain ⟨N,O,P⟩:=K4 H
 refine T.ck (α:=Int×Int) [2] (fun ⟨e,f⟩=>([(0,qi e),(1,qi f)],L,fun hh=>N=(e,f))) ?_ ?_
 ·have H:=O
  refine T.cH H z (fun H=>?_) fun H=>?_
  ·refine Rg<|Mv z<|Mv z<|Ag z<|An z<|T.mt (i,g) (M7 H)
  refine Ks<|T.mt (g,i) (M7 H)
 rintro ⟨e,f⟩ aY aZ S
 have H:=I7 S P
 refine T.norm [0,1,2] z<|T.fl ?_
 refine Sq<|T.N8 (t:=(.vs [0,1,2,3,4,5,6,7,8,9,10,11,12,13,14,15,16,17,18,19,20,21,22,23,24,25,26,27,28,29,30,31,32,33,34,35,36,37,38,39,40,41,42,43,44,45,46,47,48,49,50,51,52,53,54,55,56,57] (.alt 58 .done .no))) 60 0 0 z z I5 (by kernel_rfl) ?_
 refine Tv z (V.S9 R3 z a.u z)<|TL z z z z G6 I9 b.u z<|TF z z z M3<|Tv z (V.fa A8u z)<|Tv z (V.M5 (k:=3) E5 z d.u z)<|Tm z z<|bE H fun a0 w H=>?_
 obtain ⟨a1,U,rfl⟩:=F8.at c w
 refine Tv z (V.ix A9 z z c (E9 w))<|Tv z (V.S9 D7 z U.u z)<|Tv z (V.S9 R3 z a.u z)<|TL z z z z G6 I9 b.u z<|TF z z z M3<|Tv z (V.fa A8u z)<|Tv z (V.M5 (k:=3) E5 z d.u z)<|Tm z z<|bE H fun a2 x H=>?_
 obtain ⟨a3,W,rfl⟩:=F8.at c x
 refine Tv z (V.ix A9 z z c (E9 x))<|Tv z (V.S9 D7 z W.u z)<|Tv z (V.lt z z)<|Tm z z<|T.bH 54 H z (fun H=>?_) fun H=>?_
 ·refine Tv z (V.S9 R3 z a.u z)<|TL z z z z G6 I9 b.u z<|TL z z z z A8U E5 d.u z<|Tv z (V.S9 R3 z a.u z)<|TL z z z z P8 E5 b.u z<|Tm z z<|bE H fun a4 y H=>?_
  obtain ⟨a5,X,rfl⟩:=F8.at j y
  refine Tv z (V.ix A9 z z j (E9 y))<|Tv z (V.S9 D7 z X.u z)<|bE H fun a6 A H=>?_
  obtain ⟨a7,Y,rfl⟩:=F8.at m A
  refine Tv z (V.ix A9 z z m (E9 A))<|Tv z (V.S9 D7 z Y.u z)<|Tv z (V.S9 R3 z a.u z)<|TL z z z z G6 I9 b.u z<|TL z z z z A8U E5 d.u z<|Tv z (V.S9 R3 z a.u z)<|TL z z z z P8 E5 b.u z<|Tm z z<|bE H fun a8 B H=>?_
  obtain ⟨a9,Z,rfl⟩:=F8.at j B
  refine Tv z (V.ix A9 z z j (E9 B))<|Tv z (V.S9 D7 z Z.u z)<|bE H fun ah C H=>?_
  obtain ⟨al,aa,rfl⟩:=F8.at m C
  refine Tv z (V.ix A9 z z m (E9 C))<|Tv z (V.S9 D7 z aa.u z)<|Tv z (V.gt z z)<|Tv z (V.pkT z z)<|Ts z z (X2 z z) (V.asg z) z ?_ T.P5
  exact T.O7 (X2 z z)<|Th<|T.ret<|E1 H
 refine T2 z z<|T2 z z<|T2 z z<|T2 z z<|T2 z z<|T2 z z<|T2 z z<|T2 z z<|T2 z z<|T2 z z<|T2 z z<|T2 z z<|T2 z z<|T2 z z<|T2 z z<|T2 z z<|Tk z<|Tv z (V.pkF z z)<|Ts z z (X2 z z) (V.asg z) z ?_ T.P5
 exact T.O7 (X2 z z)<|Th<|T.ret<|E1 H
theorem B9u {σ:Type} {R:σ→PH→List D9→Prop} {i:σ→Int→(List Int)→Option σ} {j:σ} {q_s:σ} {h m b n a o La} (p:Pt M4 h m b) (ao:H9 h n a) (c:X4 R h o i) (hRa:R j h La) (H:B0N b a i j=some q_s):∀ As L,J6 prog 99 [m,.agg n.toArray,o] h ((As ++ (La ++ L))) (fun v h' L'=>∃ La',v=.tuple #[]∧L'=(As ++ (La' ++ L))∧R q_s h' La'):=by
 intro As L
 obtain rfl:=ao
 refine J6.enter func99 z z z<|Sr<|To (O.U5 z (Pt.cells p) z fun q aP r d=>To (O.U5 z z z fun aS s t ap=>Nt<|Sq<|Sr<|Vv (V.S9 R3 z d.u z)<|have aq:=p; ?_))
 obtain ⟨w,_,rfl,e,⟨aU,x,y,rfl,ar,A,B⟩⟩:=aq
 refine NL z G6 I9 e.u z<|have au:=ar; ?_
 obtain ⟨C,_,rfl,f,⟨D,E,G,I,J,K,M,N,P,S,U,W,X,Y,rfl,Z,aa,ab,g,ac,ad,ae,af,ag,ai,aj,ak,am,an⟩⟩:=au
 refine NF z M3<|Vv (V.fa A8u z)<|Vv (V.M5 (k:=3) E5 z f.u z)<|Vv (V.Q3 A9 z g)<|We z z<|Nt<|T.cH H z (fun H=>?_) fun H=>?_
 ·refine T.ret<|Tr<|have aw:=(r.trans t); have ax:=c.2.1 _ _ _ _ aw hRa; ?_
  cases H
  exact T.C5a results99 Li ⟨La,z,z,ax⟩
 refine Ks<|Rg<|Vv (V.S9 R3 z d.u z)<|Vv (V.ldS z ap (by exact K3)) ?_
 refine Vv (V.mkf z z)<|Mv z<|have ay:=(r.trans t); have aA:=c.2.1 _ _ _ _ ay hRa; bE H fun aV aB H=>To (O.G9 z (A7U (Pt.mk e.u ⟨(.pointer (some C)),x,y,z,(Pt.mk f.u ⟨D,E,G,I,J,K,M,N,P,S,U,W,X,Y,z,Z.u,aa.u,ab.u,g.u,ac.u,ad.u,ae.u,af.u,ag.u,ai.u,aj.u,ak.u,am.u,an.u⟩),A.u,B.u⟩) (show H9 s [.int .u8 a.H6,qi a.J3,.string a.fA,.string a.fB,.string a.J2,qi a.fN] a from z) (show B0e s (.func (.func 153) #[] #[qp q]) (fun aC aD=>A7Z aC aD b) from ⟨⟨z,z⟩,.inr ⟨153,[],[qp q],z,fun aE aG aW aX aY aI aJ=>B7E d.u (show (VPt M4) aE [.pointer (some w)] b from ⟨(.pointer (some w)),z,(Pt.mono M4.mono (Pt.mk e.u ⟨(.pointer (some C)),x,y,z,(Pt.mk f.u ⟨D,E,G,I,J,K,M,N,P,S,U,W,X,Y,z,Z.u,aa.u,ab.u,g.u,ac.u,ad.u,ae.u,af.u,ag.u,ai.u,aj.u,ak.u,am.u,an.u⟩),A.u,B.u⟩) aG)⟩) aI aJ⟩⟩) c.u aA aB As _) z fun aZ a0 a1 a2 aK=>?_)
 obtain ⟨aM,rfl,aN,aO⟩:=aK
 refine P7 _ aN<|Ni ?_
 cases H
 exact T.A0Q results99 Li ⟨aM,z,z,aO⟩
theorem B9D {σ:Type} {R:σ→PH→List D9→Prop} {m:σ→Int→(List Int)→Option σ} {e:σ} {q_s:σ} {h n f o p g q r La} (c:F8 (VI .i64) 1 h n f) (A:Z0 h o p) (B:(VPt M4) h p g) (C:Z0 h q [r]) (d:X4 R h r m) (hRa:R e h La) (H:B0x f g m e=some q_s):∀ As L,J6 prog 149 [n,.pointer (some o),.pointer (some q)] h ((As ++ (La ++ L))) (fun v h' L'=>∃ La',v=.tuple #[]∧L'=(As ++ (La' ++ L))∧R q_s h' La'):=by
 intro As L
 obtain ⟨ai,rfl,D⟩:=B
 refine J6.enter func149 z z z<|Sq<|Sm z<|Vv (V.Q3 A9 z c)<|Mv z<|Nt ?_
 obtain ⟨E,G,s⟩:=K4 H
 have H:=G
 refine Bl<|T.lk [0,1,2,6,7] (FUEL,(0:Int)) (fun ⟨a,b⟩=>([(8,qi b)],(As ++ (La ++ L)),fun hh=>iter (A4m f g e) a b=some E)) H ?_
 rintro ⟨a,b⟩ aj i I
 obtain ⟨J,ak,rfl,H,j⟩:=G8 I
 refine T.norm [8,0,1,2,6,7] z<|P7 ((As ++ (La ++ L))) z<|Sr<|Wl z z<|Nt<|Sq<|T.cH H z (fun H=>?_) fun H=>?_
 ·refine Ks<|Sq<|Bl<|Sr<|bE H fun am t H=>?_
  obtain ⟨an,K,rfl⟩:=F8.at c t
  refine Vv (V.ix A9 z z c (E9 t))<|Vv (V.S9 D7 z K.u z)<|An z<|Sr<|Vv (V.S9 R3 z A.u z)<|have M:=D; ?_
  obtain ⟨ao,_,rfl,N,⟨ap,aq,ar,rfl,P,au,aw⟩⟩:=M
  refine NL z G6 I9 N.u z<|have S:=P; ?_
  obtain ⟨ax,_,rfl,U,⟨ay,aA,aB,aC,aD,aE,aG,aI,aJ,aK,aM,aN,aO,aP,rfl,aS,w,aU,aV,aW,aX,aY,aZ,a0,a1,a2,a3,a4,a5⟩⟩:=S
  refine NF z M3<|Vv (V.fa A0I z)<|Vv (V.M5 (k:=1) O0 z U.u z)<|Mv z<|bE H fun a6 x H=>?_
  obtain ⟨a7,W,⟨a8,rfl,a9⟩⟩:=F8.at w x
  refine Vv (V.ix O9 z z w (E9 x))<|Vv (V.fa B6v z)<|Vv (V.M5 (k:=6) U8 z W.u z)<|Nt<|T.cH H z (fun H=>?_) fun H=>?_
  ·refine T.ret<|Br<|Tr<|Tr<|have H:=D6 H j; Br<|Tr<|have H:=I7 H s; have X:=d.2.1 _ _ _ _ i hRa; ?_
   cases H
   exact T.C5a results149 Li ⟨La,z,z,X⟩
  refine T.skip<|Bn<|Th<|Rg<|bE H fun Y Z H=>Vv (V.H8 z z Z)<|Mv z<|Nt<|T.ag (J,Y) (D8 H j)
 refine T.exit<|Te<|Te<|have H:=D6 H j; Be<|Th<|have H:=I7 H s; Sm z<|Vv (V.Q3 A9 z c)<|Wg z z<|Nt<|T.cH H z (fun H=>?_) fun H=>?_
 ·refine Rg<|Vv (V.S9 B5A z C.u z)<|Mv z<|bE H fun ah aa H=>have ab:=d.2.1 _ _ _ _ i hRa; To (O.A3R z z (X4.call d.u c.u ab aa As _) z fun al av az ba ac=>?_)
  obtain ⟨y,rfl,ad,ae⟩:=ac
  refine P7 ((As ++ (y ++ L))) ad<|Ni ?_
  cases H
  exact T.A0Q results149 Li ⟨y,z,z,ae⟩
 refine T.skip<|have af:=d.2.1 _ _ _ _ i hRa; ?_
 cases H
 exact T.A0Q results149 Li ⟨La,z,z,af⟩
theorem C3l {σ:Type} {R:σ→PH→List D9→Prop} {e:σ→Int→(List Int)→Option σ} {g:σ} {q_s:σ} {h b c i a j La} (f:Pt M4 h b c) (p:H9 h i a) (d:X4 R h j e) (hRa:R g h La) (H:B4a c a e g=some q_s):∀ As L,J6 prog 94 [b,.agg i.toArray,j] h ((As ++ (La ++ L))) (fun v h' L'=>∃ La',v=.tuple #[]∧L'=(As ++ (La' ++ L))∧R q_s h' La'):=by
 intro As L
 obtain rfl:=p
 refine J6.enter func94 z z z<|Sr<|To (O.U5 z (Pt.cells f) z fun k S q m=>To (O.U5 z z z fun U W r s=>To (O.U5 z d.1.2 z fun n o t w=>Nt<|Rg<|Vv (V.S9 R3 z m.u z)<|Vv (V.ldS z s.u (by exact K3)) ?_)))
 refine Vv (V.mkf z z)<|have x:=((q.trans r).trans t); have y:=d.2.1 _ _ _ _ x hRa; bE H fun X A H=>To (O.G9 z (B2u f.u (show H9 o [.int .u8 a.H6,qi a.J3,.string a.fA,.string a.fB,.string a.J2,qi a.fN] a from z) (show B1u R o (.func (.func 149) #[] #[qp k,qp n]) (fun s_ B=>B0x B c e s_) from ⟨⟨z,z⟩,d.2.1,fun C Y=>fun D=>fun E G I J=>Yld.fn (us:=[]) (cs:=[qp k,qp n]) (B9D D m.u (show (VPt M4) C [b] c from ⟨b,z,f.u⟩) w.u d.u E G I J)⟩) y A As _) z fun Z aa ab ac K=>?_)
 obtain ⟨M,rfl,N,P⟩:=K
 refine P7 _ N<|Ni ?_
 cases H
 exact T.A0Q results94 Li ⟨M,z,z,P⟩
theorem C0b {σ:Type} {R:σ→PH→List D9→Prop} {b:σ→Int→(List Int)→Option σ} {c:σ} {q_s:σ} {h d e f g i j m La} (a:F8 (VI .i64) 1 h d e) (n:Z0 h f g) (p:H9 h g i) (q:Z0 h j [m]) (r:X4 R h m b) (hRa:R c h La) (H:B0J e i b c=some q_s):∀ As L,J6 prog 154 [d,.pointer (some f),.pointer (some j)] h ((As ++ (La ++ L))) (fun v h' L'=>∃ La',v=.tuple #[]∧L'=(As ++ (La' ++ L))∧R q_s h' La'):=by
 intro As L
 obtain rfl:=p
 refine J6.enter func154 z z z<|Sm z<|Vv (V.Q3 A9 z a)<|Vv (V.fa U3 z)<|Vv (V.M5 (k:=5) D7 z n z)<|Wl z z<|Nt<|T.cH H z (fun H=>?_) fun H=>?_
 ·refine Rg<|Vv (V.S9 B5A z q z)<|Vv (V.fa U3 z)<|Vv (V.M5 (k:=5) D7 z n z)<|Mv z<|Vv (V.Q3 A9 z a)<|bE H fun y s H=>Vv (V.Y9 z z s)<|Mv z<|bE H fun A t H=>To (O.A3R z z (X4.call r a hRa t As _) z fun B C D E u=>?_)
  obtain ⟨o,rfl,w,x⟩:=u
  refine P7 ((As ++ (o ++ L))) w<|Ni ?_
  cases H
  exact T.A0Q results154 Li ⟨o,z,z,x⟩
 refine T.skip ?_
 cases H
 exact T.A0Q results154 Lr ⟨La,z,z,hRa⟩
theorem C2Y {σ:Type} {R:σ→PH→List D9→Prop} {c:σ→Int→(List Int)→Option σ} {d:σ} {q_s:σ} {h e f g a i La} (o:Pt M4 h e f) (p:H9 h g a) (b:X4 R h i c) (hRa:R d h La) (H:B4i f a c d=some q_s):∀ As L,J6 prog 100 [e,.agg g.toArray,i] h ((As ++ (La ++ L))) (fun v h' L'=>∃ La',v=.tuple #[]∧L'=(As ++ (La' ++ L))∧R q_s h' La'):=by
 intro As L
 obtain rfl:=p
 refine J6.enter func100 z z z<|Sr<|To (O.U5 z z z fun j N q k=>To (O.U5 z b.1.2 z fun m n r s=>Nt<|Rg<|Mv z<|Vv (V.ldS z k.u (by exact K3)) ?_))
 refine Vv (V.mkf z z)<|have t:=(q.trans r); have w:=b.2.1 _ _ _ _ t hRa; bE H fun P x H=>To (O.G9 z (B2u o.u (show H9 n [.int .u8 a.H6,qi a.J3,.string a.fA,.string a.fB,.string a.J2,qi a.fN] a from z) (show B1u R n (.func (.func 154) #[] #[qp j,qp m]) (fun s_ y=>B0J y a c s_) from ⟨⟨z,z⟩,b.2.1,fun A S=>fun B=>fun C D E G=>Yld.fn (us:=[]) (cs:=[qp j,qp m]) (C0b B k.u (show H9 A [.int .u8 a.H6,qi a.J3,.string a.fA,.string a.fB,.string a.J2,qi a.fN] a from z) s.u b.u C D E G)⟩) w x As _) z fun U W X Y I=>?_)
 obtain ⟨J,rfl,K,M⟩:=I
 refine P7 _ K<|Ni ?_
 cases H
 exact T.A0Q results100 Li ⟨J,z,z,M⟩
theorem B8T {σ:Type} {R:σ→PH→List D9→Prop} {b:σ→Int→(List Int)→Option σ} {c:σ} {q_s:σ} {h d e f g i j m La} (a:F8 (VI .i64) 1 h d e) (n:Z0 h f g) (p:H9 h g i) (q:Z0 h j [m]) (r:X4 R h m b) (hRa:R c h La) (H:A8X e i b c=some q_s):∀ As L,J6 prog 155 [d,.pointer (some f),.pointer (some j)] h ((As ++ (La ++ L))) (fun v h' L'=>∃ La',v=.tuple #[]∧L'=(As ++ (La' ++ L))∧R q_s h' La'):=by
 intro As L
 obtain rfl:=p
 refine J6.enter func155 z z z<|Sm z<|Vv (V.Q3 A9 z a)<|Vv (V.fa U3 z)<|Vv (V.M5 (k:=5) D7 z n z)<|Wg z z<|Nt<|T.cH H z (fun H=>?_) fun H=>?_
 ·refine Rg<|Vv (V.S9 B5A z q z)<|Mv z<|Vv (V.Q3 A9 z a)<|Vv (V.fa U3 z)<|Vv (V.M5 (k:=5) D7 z n z)<|bE H fun y s H=>Vv (V.Y9 z z s)<|Mv z<|bE H fun A t H=>To (O.A3R z z (X4.call r a hRa t As _) z fun B C D E u=>?_)
  obtain ⟨o,rfl,w,x⟩:=u
  refine P7 ((As ++ (o ++ L))) w<|Ni ?_
  cases H
  exact T.A0Q results155 Li ⟨o,z,z,x⟩
 refine T.skip ?_
 cases H
 exact T.A0Q results155 Lr ⟨La,z,z,hRa⟩
theorem C1p {σ:Type} {R:σ→PH→List D9→Prop} {c:σ→Int→(List Int)→Option σ} {d:σ} {q_s:σ} {h e f g a i La} (o:Pt M4 h e f) (p:H9 h g a) (b:X4 R h i c) (hRa:R d h La) (H:B2o f a c d=some q_s):∀ As L,J6 prog 101 [e,.agg g.toArray,i] h ((As ++ (La ++ L))) (fun v h' L'=>∃ La',v=.tuple #[]∧L'=(As ++ (La' ++ L))∧R q_s h' La'):=by
 intro As L
 obtain rfl:=p
 refine J6.enter func101 z z z<|Sr<|To (O.U5 z z z fun j N q k=>To (O.U5 z b.1.2 z fun m n r s=>Nt<|Rg<|Mv z<|Vv (V.ldS z k.u (by exact K3)) ?_))
 refine Vv (V.mkf z z)<|have t:=(q.trans r); have w:=b.2.1 _ _ _ _ t hRa; bE H fun P x H=>To (O.G9 z (B2u o.u (show H9 n [.int .u8 a.H6,qi a.J3,.string a.fA,.string a.fB,.string a.J2,qi a.fN] a from z) (show B1u R n (.func (.func 155) #[] #[qp j,qp m]) (fun s_ y=>A8X y a c s_) from ⟨⟨z,z⟩,b.2.1,fun A S=>fun B=>fun C D E G=>Yld.fn (us:=[]) (cs:=[qp j,qp m]) (B8T B k.u (show H9 A [.int .u8 a.H6,qi a.J3,.string a.fA,.string a.fB,.string a.J2,qi a.fN] a from z) s.u b.u C D E G)⟩) w x As _) z fun U W X Y I=>?_)
 obtain ⟨J,rfl,K,M⟩:=I
 refine P7 _ K<|Ni ?_
 cases H
 exact T.A0Q results101 Li ⟨J,z,z,M⟩
end Go.Proofs.X
open Go Go.Proofs Go.Proofs.Tryz Go.Sl Go.Dm
namespace Go.Proofs.X
theorem C4q:A5h prog 105=some ([.slice none 0 0,.slice none 0 0,.slice none 0 0,.slice none 0 0,.slice none 0 0,.map none,.slice none 0 0,.slice none 0 0,.slice none 0 0,.slice none 0 0,.slice none 0 0,.slice none 0 0,.slice none 0 0,.slice none 0 0],[(0,5),(5,1),(6,1),(7,1),(8,1),(9,1),(10,1),(11,1),(12,1),(13,1)]):=by kernel_rfl
theorem B8x:A5h prog 118=some ([.slice none 0 0,.slice none 0 0],[(0,1),(1,1)]):=by kernel_rfl
theorem C4z:A5h prog 134=some ([.pointer none,.slice none 0 0,.slice none 0 0],[(0,1),(1,1),(2,1)]):=by kernel_rfl
theorem V4:A5h prog 161=some ([.string ⟨#[]⟩,.int .u8 (0),.bool false,.int .u8 (0),.bool false,.int .i64 (0),.bool false,.nilFunc],[(0,1),(1,1),(2,1),(3,1),(4,1),(5,1),(6,1),(7,1)]):=by kernel_rfl
theorem C4s:A0B prog 105=true:=by kernel_rfl
theorem B8t:A0B prog 118=true:=by kernel_rfl
theorem C4E:A0B prog 134=true:=by kernel_rfl
theorem V5:A0B prog 161=true:=by kernel_rfl
theorem B5m:O5 prog 105 1=some 5:=by kernel_rfl
theorem C1j:O5 prog 161 0=some 0:=by kernel_rfl
theorem A8i:O5 prog 161 1=some 1:=by kernel_rfl
theorem A3C:O5 prog 161 2=some 2:=by kernel_rfl
theorem A2v:O5 prog 161 3=some 3:=by kernel_rfl
theorem A0S:O5 prog 161 4=some 4:=by kernel_rfl
theorem C1f:O5 prog 161 5=some 5:=by kernel_rfl
theorem C1g:O5 prog 161 6=some 6:=by kernel_rfl
theorem A4w:O5 prog 97 4=some 4:=by kernel_rfl
theorem C4O:U6 prog 159=some (false,1):=by kernel_rfl
theorem C4m:U6 prog 161=some (true,8):=by kernel_rfl
theorem B9F:U6 prog 98=some (false,1):=by kernel_rfl
theorem A8v:zer prog 100=some (.slice none 0 0):=by kernel_rfl
theorem B8y:zer prog 112=some (.map none):=by kernel_rfl
theorem A5O:zer prog 122=some (.slice none 0 0):=by kernel_rfl
theorem B8v:zer prog 124=some (.int .u8 (0)):=by kernel_rfl
theorem B8q:zer prog 161=some (.agg #[.string ⟨#[]⟩,.int .u8 (0),.bool false,.int .u8 (0),.bool false,.int .i64 (0),.bool false,.nilFunc]):=by kernel_rfl
theorem A9m:zer prog 4=some (.bool false):=by kernel_rfl
theorem C1l:D1r prog 161 7=some (7,159):=by kernel_rfl
theorem rfE {c:Prop} [Decidable c] {α:Type} {a b r:α} {P:Prop} (H:(if c then a else b)=r) (x:c→a=r→P) (y:¬c→b=r→P):P:=by
  by_cases h:c
  · rw [if_pos h] at H; exact x h H
  · rw [if_neg h] at H; exact y h H
theorem B9i {σ:Type} {R:σ→PH→List D9→Prop} {h:PH} {n:Nat} {pv1:Value} {v:F6} (pr1:Pt M4 h pv1 v) {pc2:List Value} {r:F3} (pr2:H9 h pc2 r) {pv3:Value} {f:σ→Int→(List Int)→Option σ} (pr3:X4 R h pv3 f) {s0:σ} {La:List D9} (hRa:R s0 h La) {q_s:σ} (H:B3T n v r f s0=some q_s) :
    ∃ fid us vs,fnV n=.func (.func fid) us.toArray vs.toArray∧∀ As L,J6 prog fid (us ++ [pv1,.agg pc2.toArray,pv3] ++ vs) h (As ++ (La ++ L)) (fun v h' L'=>∃ La',v=.tuple #[]∧L'=(As ++ (La' ++ L))∧R q_s h' La'):=by
  unfold B3T at H
  refine rfE H (fun e H=>?_) (fun _ H=>?_)
  · subst e; exact ⟨86,[],[],rfl,C1A pr1 pr2 pr3 hRa H⟩
  refine rfE H (fun e H=>?_) (fun _ H=>?_)
  · subst e; exact ⟨87,[],[],rfl,B5D pr1 pr2 pr3 hRa H⟩
  refine rfE H (fun e H=>?_) (fun _ H=>?_)
  · subst e; exact ⟨88,[],[],rfl,B5V pr1 pr2 pr3 hRa H⟩
  refine rfE H (fun e H=>?_) (fun _ H=>?_)
  · subst e; exact ⟨89,[],[],rfl,C0P pr1 pr2 pr3 hRa H⟩
  refine rfE H (fun e H=>?_) (fun _ H=>?_)
  · subst e; exact ⟨90,[],[],rfl,B7o pr1 pr2 pr3 hRa H⟩
  refine rfE H (fun e H=>?_) (fun _ H=>?_)
  · subst e; exact ⟨91,[],[],rfl,C5I pr1 pr2 pr3 hRa H⟩
  refine rfE H (fun e H=>?_) (fun _ H=>?_)
  · subst e; exact ⟨92,[],[],rfl,C3C pr1 pr2 pr3 hRa H⟩
  refine rfE H (fun e H=>?_) (fun _ H=>?_)
  · subst e; exact ⟨93,[],[],rfl,B6z pr1 pr2 pr3 hRa H⟩
  refine rfE H (fun e H=>?_) (fun _ H=>?_)
  · subst e; exact ⟨94,[],[],rfl,C3l pr1 pr2 pr3 hRa H⟩
  refine rfE H (fun e H=>?_) (fun _ H=>?_)
  · subst e; exact ⟨95,[],[],rfl,C1n pr1 pr2 pr3 hRa H⟩
  refine rfE H (fun e H=>?_) (fun _ H=>?_)
  · subst e; exact ⟨96,[],[],rfl,C1u pr1 pr2 pr3 hRa H⟩
  refine rfE H (fun e H=>?_) (fun _ H=>?_)
  · subst e; exact ⟨97,[],[],rfl,C1o pr1 pr2 pr3 hRa H⟩
  refine rfE H (fun e H=>?_) (fun _ H=>?_)
  · subst e; exact ⟨98,[],[],rfl,B8H pr1 pr2 pr3 hRa H⟩
  refine rfE H (fun e H=>?_) (fun _ H=>?_)
  · subst e; exact ⟨99,[],[],rfl,B9u pr1 pr2 pr3 hRa H⟩
  refine rfE H (fun e H=>?_) (fun _ H=>?_)
  · subst e; exact ⟨100,[],[],rfl,C2Y pr1 pr2 pr3 hRa H⟩
  refine rfE H (fun e H=>?_) (fun _ H=>?_)
  · subst e; exact ⟨101,[],[],rfl,C1p pr1 pr2 pr3 hRa H⟩
  refine rfE H (fun e H=>?_) (fun _ H=>?_)
  · subst e; exact ⟨102,[],[],rfl,B8Q pr1 pr2 pr3 hRa H⟩
  refine rfE H (fun e H=>?_) (fun _ H=>?_)
  · subst e; exact ⟨103,[],[],rfl,C4u pr1 pr2 pr3 hRa H⟩
  cases H
theorem B7V {h b c d a e q_2} (i:F8 (VI .i64) 1 h c d)  (H:A0W b d e=some q_2):∀ L,J6 prog 124 [.int .i64 b,c,.pointer (some ⟨a,0,none⟩)] h (blk a (.cells [.int .i64 e].toArray 3)::L) (fun v h' L'=>v=.tuple #[]∧L'=blk a (.cells [.int .i64 q_2].toArray 3)::L):=by
 intro L
 refine J6.enter func124 z z z<|Rg<|Vv (V.A8Z D7 z (j:=0) z z)<|Mv z<|bE H fun f g H=>Vv (V.H8 z z g)<|To (O.stF (vs:=[qi f]) D7 z z (j:=0) z z z z<|Ni ?_)
 cases H
 exact T.A0Q results124 Lr ⟨z,z⟩
theorem B3O {h g i m n} (r:Pt M4 h g i) (H:A4j i m=some n):∀ L,FnW prog 62 [g,.int .i64 m] h L (.int .i64 n):=by
 intro L
 refine J6.enter func62 z z z<|Sr<|An z<|Sr<|To (O.alloc K8 z z fun f=>To (O.stF (vs:=[qi 0]) D7 z z (j:=0) z z z z<|Nt<|Sq<|T.N8 (t:=(.vs [0,1,2,3,4,5,6,7,8,9,10,11,12,13,14,15,16,17,18,19,20,21,22,23,24,25,26,27,28,29,30,31,32,33] (.alt 34 .done .no))) 34 1 0 z z I5 (by kernel_rfl) ?_))
 refine Tm z z<|have s:=r; ?_
 obtain ⟨aJ,_,rfl,c,⟨aK,u,w,rfl,x,y,A⟩⟩:=s
 refine TL z z z z G6 I9 c z<|have B:=x; ?_
 obtain ⟨C,_,rfl,d,⟨D,E,G,I,J,K,M,N,P,S,U,W,X,Y,rfl,Z,aa,ab,ac,b,o,ad,ae,af,ag,ai,aj,ak,am⟩⟩:=B
 refine TL z z z z B5m B9F d z<|Tm z z<|TL z z z z G6 I9 c z<|TF z z z M3<|Tv z (V.fa A4w z)<|Tv z (V.M5 (k:=4) Y4 z d z)<|Tm z z<|bE H fun aM p H=>?_
 obtain ⟨aN,an,rfl⟩:=F8.at b p
 refine Tv z (V.ix U9 z z b (E9 p))<|Tv z (V.fa A2w z)<|Tv z (V.M5 (k:=0) A5d z an z)<|bE H fun ⟨aO,aP⟩ ao H=>?_
 obtain ⟨_,ap,rfl⟩:=Mp.look (zc:=[.string qe,.int .u8 0,.bool false,.int .u8 0,.bool false,qi 0,.bool false,(fnV (0:Nat))]) (agg:=true) underlying98 (A0u.int underlying41) B8q (show K7 h [.string qe,.int .u8 0,.bool false,.int .u8 0,.bool false,qi 0,.bool false,(fnV (0:Nat))] (G7.mk qe (0:Int) false (0:Int) false (0:Int) false (0:Nat)) from rfl) o ao
 refine Tv z (V.D2I z z ap)<|Tv z (V.fld C1l C4O z z)<|Tm z z<|Tm z z<|TL z z z z G6 I9 c z<|TF z z z M3<|Tv z (V.fa A4w z)<|Tv z (V.M5 (k:=4) Y4 z d z)<|Tm z z<|bE H fun a q H=>?_
 obtain ⟨aS,aq,rfl⟩:=F8.at b q
 refine Tv z (V.ix U9 z z b (E9 q))<|Tv z (V.ldS z aq (by exact K3)) ?_
 refine Tv z (V.mkf z z)<|bE H fun aU ar H=>?_
 obtain ⟨aV,aW,aX,au,aw⟩:=B9i (Pt.mk c ⟨(.pointer (some C)),u,w,rfl,(Pt.mk d ⟨D,E,G,I,J,K,M,N,P,S,U,W,X,Y,rfl,Z,aa,ab,ac,b,o,ad,ae,af,ag,ai,aj,ak,am⟩),y,A⟩) (show H9 h [.int .u8 a.H6,qi a.J3,.string a.fA,.string a.fB,.string a.J2,qi a.fN] a from rfl) (show X4 (fun x_ _ La_=>La_=[blk f (.cells [qi x_].toArray 3)]) h (.func (.func 124) #[] #[qp f]) (fun s_ ax ay=>A0W ax ay s_) from ⟨⟨rfl,rfl⟩,fun _ _ _ _ _ e=>e,fun aY aZ=>fun aA=>fun aB aC aD aE=>by subst aB; exact Yld.one (us:=[]) (cs:=[qp f]) (B7V aA aC) aD aE⟩) rfl ar
 refine Tp z z (X3 [] [0] z z) (O.A1e z au z (aw ([]:List D9) _) z fun a0 a1 a2 a3 aG=>?_) T.P5
 obtain ⟨a4,rfl,aI,rfl⟩:=aG
 refine P7 _ aI<|T.O7 (SX.one (XA.fr [] Li z) z)<|Th<|Sq<|T.norm [5] z<|T.fl ?_
 exact Rg<|Vv (V.A8Z D7 z (j:=0) z z)<|Ag z<|Nr<|T.drop<|E1 H
theorem B4S {h m f n o} (p:Pt M4 h m f) (H:A9r f n=some o):∀ L,FnW prog 191 [m,.int .i64 n] h L (.int .i64 o):=by
 intro L
 refine J6.enter func191 z z z<|Sr<|An z<|Sm z<|Mv z<|bE H fun ak A H=>To (O.cs (B3O p A _) fun an ap=>An z<|Sg z<|An z<|Sq<|Sm z<|have D:=p; ?_)
 obtain ⟨aq,_,rfl,g,⟨ar,au,aw,rfl,q,i,ax⟩⟩:=D
 refine NL z P8 E5 g.u z<|Vv (V.Q3 A9 z i)<|Mv z<|Nt ?_
 obtain ⟨E,G,I⟩:=K4 H
 have H:=G
 refine Bl<|T.lk [0,1,5,16,17] (FUEL,(0:Int),(0:Int),(0:Int)) (fun ⟨c,d,b,a⟩=>([(18,qi d),(6,qi b),(7,qi a)],L,fun hh=>iter (A2m f) c (d,b,a)=some E)) H ?_
 rintro ⟨c,d,b,a⟩ ay aA J
 obtain ⟨j,aB,rfl,H,e⟩:=G8 J
 refine T.norm [18,6,7,0,1,5,16,17] z<|T.fl ?_
 refine Sr<|Wl z z<|Nt<|Sq<|T.cH H z (fun H=>?_) fun H=>?_
 ·refine Ks<|Sq<|Bl<|Sm z<|bE H fun aC r H=>?_
  obtain ⟨aD,K,rfl⟩:=F8.at i r
  refine Vv (V.ix A9 z z i (E9 r))<|Vv (V.S9 D7 z K.u z)<|Ag z<|An z<|Sm z<|Wl z z<|Nt<|T.cH H z (fun H=>?_) fun H=>?_
  ·refine Sm z<|bE H fun s M H=>Vv (V.H8 z z M)<|An z<|Sm z<|NL z G6 I9 g.u z<|have N:=q; ?_
   obtain ⟨aE,_,rfl,P,⟨aG,aI,aJ,aK,aM,aN,aO,aP,aS,aU,aV,aW,aX,aY,rfl,aZ,t,a0,a1,a2,a3,a4,a5,a6,a7,a8,a9,ah,al⟩⟩:=N
   refine NF z M3<|Vv (V.fa A0I z)<|Vv (V.M5 (k:=1) O0 z P.u z)<|Mv z<|bE H fun av w H=>?_
   obtain ⟨az,S,⟨ba,rfl,bb⟩⟩:=F8.at t w
   refine Vv (V.ix O9 z z t (E9 w))<|Vv (V.fa B6v z)<|Vv (V.M5 (k:=6) U8 z S.u z)<|Nt<|T.cH H z (fun H=>?_) fun H=>?_
   ·refine Rg<|Mv z<|bE H fun U W H=>Vv (V.H8 z z W)<|Ag z<|Ni<|Bn<|Th<|Rg<|bE H fun X Y H=>Vv (V.H8 z z Y)<|Mv z<|Nt<|T.ag (j,X,s,U) (D8 H e)
   refine T.skip<|Bn<|Th<|Rg<|bE H fun Z aa H=>Vv (V.H8 z z aa)<|Mv z<|Nt<|T.ag (j,Z,s,a) (D8 H e)
  refine T.skip<|Bn<|Th<|Rg<|bE H fun ab ac H=>Vv (V.H8 z z ac)<|Mv z<|Nt<|T.ag (j,ab,b,a) (D8 H e)
 refine T.exit<|Te<|Te<|have H:=D6 H e; Be<|Th<|have H:=I7 H I; Sq<|Sm z<|NL z G6 I9 g.u z<|have ad:=q; ?_
 obtain ⟨bc,_,rfl,ae,⟨bd,be,bf,bg,bi,bj,bk,bm,bn,bo,bp,bq,br,bs,rfl,bt,bu,bw,bx,x,bA,bB,bC,bD,bG,bI,bJ,bK,bM⟩⟩:=ad
 refine NF z M3<|Vv (V.fa A4w z)<|Vv (V.M5 (k:=4) Y4 z ae.u z)<|Mv z<|bE H fun bN y H=>?_
 obtain ⟨bO,af,rfl⟩:=F8.at x y
 refine Vv (V.ix U9 z z x (E9 y))<|Vv (V.fa A2w z)<|Vv (V.M5 (k:=0) A5d z af.u z)<|Nt<|Bl<|Sr<|We z z<|An z<|T.cH H z (fun H=>?_) fun H=>?_
 ·exact Rg<|Mv z<|Mv z<|bE H fun bP ai H=>Vv (V.Y9 z z ai)<|Ag z<|Ni<|Bn<|Th<|Sm z<|Vv (V.max2 z z)<|Ag z<|Nr<|E1 H
 refine Sr<|We z z<|An z<|T.cH H z (fun H=>?_) fun H=>?_
 ·exact Rg<|Mv z<|Mv z<|bE H fun bS aj H=>Vv (V.Y9 z z aj)<|Ag z<|Ni<|Bn<|Th<|Sm z<|Vv (V.max2 z z)<|Ag z<|Nr<|E1 H
 refine Sr<|We z z<|An z<|T.cH H z (fun H=>?_) fun H=>?_
 ·refine Sm z<|Wg z z<|Nt<|T.cH H z (fun H=>?_) fun H=>?_
  ·exact Rg<|Ag z<|Ni<|Bn<|Th<|Sm z<|Vv (V.max2 z z)<|Ag z<|Nr<|E1 H
  exact T.skip<|Bn<|Th<|Sm z<|Vv (V.max2 z z)<|Ag z<|Nr<|E1 H
 exact T.skip<|Bn<|Th<|Sm z<|Vv (V.max2 z z)<|Ag z<|Nr<|E1 H
theorem B5f {h a} (H:A9C  = some a):∀ L,J6 prog 42 [] h (L) (fun v h' L'=>L'=L∧Mp (Value.int .u8) true K7 h' v a):=by
 intro L
 refine J6.enter func42 z z z<|Sr<|An z<|Sr<|To (O.mkM z fun ab=>have x:X7 (Value.int .u8) true K7 h 0 ([]:List MapEntry) ([]:List (Int×G7)):=trivial; Vv (V.bld (xs:=[(0,.const (.string ⟨#[97,112,97,114,116]⟩)),(1,.const (.int .u8 (103))),(2,.const (.bool true)),(4,.const (.bool true)),(7,.func 86)]) (cs:=[_,_,_,_,_,_,_,_]) V4 V5 z (F4.cons z z z (F4.cons z z z (F4.cons z z z (F4.cons z z z (F4.cons z z z F4.nil))))))<|bE H fun ac y H=>To (O.A9R (agg:=true) (E:=K7) (cs:=[.string (⟨#[97,112,97,114,116]⟩:ByteArray),.int .u8 103,.bool true,.int .u8 0,.bool true,qi 0,.bool false,(fnV (87:Nat))]) underlying98 (A0u.int underlying41) z z z (j:=0) z x (show K7 h [.string (⟨#[97,112,97,114,116]⟩:ByteArray),.int .u8 103,.bool true,.int .u8 0,.bool true,qi 0,.bool false,(fnV (87:Nat))] (G7.mk (⟨#[97,112,97,114,116]⟩:ByteArray) (103:Int) true (0:Int) true (0:Int) false (87:Nat)) from z) _ (.inr z) fun ad b=>?_))
 rw [Option.some.inj y] at b
 refine Vv (V.bld (xs:=[(0,.const (.string ⟨#[98,101,115,105,100,101]⟩)),(1,.const (.int .u8 (103))),(2,.const (.bool true)),(7,.func 87)]) (cs:=[_,_,_,_,_,_,_,_]) V4 V5 z (F4.cons z z z (F4.cons z z z (F4.cons z z z (F4.cons z z z F4.nil)))))<|bE H fun ae A H=>To (O.A9R (agg:=true) (E:=K7) (cs:=[.string (⟨#[98,101,115,105,100,101]⟩:ByteArray),.int .u8 103,.bool true,.int .u8 0,.bool false,qi 0,.bool false,(fnV (88:Nat))]) underlying98 (A0u.int underlying41) z z z (j:=0) z b (show K7 h [.string (⟨#[98,101,115,105,100,101]⟩:ByteArray),.int .u8 103,.bool true,.int .u8 0,.bool false,qi 0,.bool false,(fnV (88:Nat))] (G7.mk (⟨#[98,101,115,105,100,101]⟩:ByteArray) (103:Int) true (0:Int) false (0:Int) false (88:Nat)) from z) _ (.inr z) fun af c=>?_)
 rw [Option.some.inj A] at c
 refine Vv (V.bld (xs:=[(0,.const (.string ⟨#[97,99,114,111,115,115]⟩)),(1,.const (.int .u8 (103))),(2,.const (.bool true)),(7,.func 88)]) (cs:=[_,_,_,_,_,_,_,_]) V4 V5 z (F4.cons z z z (F4.cons z z z (F4.cons z z z (F4.cons z z z F4.nil)))))<|bE H fun ag B H=>To (O.A9R (agg:=true) (E:=K7) (cs:=[.string (⟨#[97,99,114,111,115,115]⟩:ByteArray),.int .u8 103,.bool true,.int .u8 0,.bool false,qi 0,.bool false,(fnV (89:Nat))]) underlying98 (A0u.int underlying41) z z z (j:=0) z c (show K7 h [.string (⟨#[97,99,114,111,115,115]⟩:ByteArray),.int .u8 103,.bool true,.int .u8 0,.bool false,qi 0,.bool false,(fnV (89:Nat))] (G7.mk (⟨#[97,99,114,111,115,115]⟩:ByteArray) (103:Int) true (0:Int) false (0:Int) false (89:Nat)) from z) _ (.inr z) fun ai d=>?_)
 rw [Option.some.inj B] at d
 refine Vv (V.bld (xs:=[(0,.const (.string ⟨#[110,101,97,114]⟩)),(1,.const (.int .u8 (103))),(2,.const (.bool true)),(4,.const (.bool true)),(5,.const (qi (1))),(7,.func 89)]) (cs:=[_,_,_,_,_,_,_,_]) V4 V5 z (F4.cons z z z (F4.cons z z z (F4.cons z z z (F4.cons z z z (F4.cons z z z (F4.cons z z z F4.nil)))))))<|bE H fun aj C H=>To (O.A9R (agg:=true) (E:=K7) (cs:=[.string (⟨#[110,101,97,114]⟩:ByteArray),.int .u8 103,.bool true,.int .u8 0,.bool true,qi 1,.bool false,(fnV (90:Nat))]) underlying98 (A0u.int underlying41) z z z (j:=0) z d (show K7 h [.string (⟨#[110,101,97,114]⟩:ByteArray),.int .u8 103,.bool true,.int .u8 0,.bool true,qi 1,.bool false,(fnV (90:Nat))] (G7.mk (⟨#[110,101,97,114]⟩:ByteArray) (103:Int) true (0:Int) true (1:Int) false (90:Nat)) from z) _ (.inr z) fun ak e=>?_)
 rw [Option.some.inj C] at e
 refine Vv (V.bld (xs:=[(0,.const (.string ⟨#[116,111,103,101,116,104,101,114]⟩)),(1,.const (.int .u8 (103))),(2,.const (.bool true)),(7,.func 90)]) (cs:=[_,_,_,_,_,_,_,_]) V4 V5 z (F4.cons z z z (F4.cons z z z (F4.cons z z z (F4.cons z z z F4.nil)))))<|bE H fun am D H=>To (O.A9R (agg:=true) (E:=K7) (cs:=[.string (⟨#[116,111,103,101,116,104,101,114]⟩:ByteArray),.int .u8 103,.bool true,.int .u8 0,.bool false,qi 0,.bool false,(fnV (91:Nat))]) underlying98 (A0u.int underlying41) z z z (j:=0) z e (show K7 h [.string (⟨#[116,111,103,101,116,104,101,114]⟩:ByteArray),.int .u8 103,.bool true,.int .u8 0,.bool false,qi 0,.bool false,(fnV (91:Nat))] (G7.mk (⟨#[116,111,103,101,116,104,101,114]⟩:ByteArray) (103:Int) true (0:Int) false (0:Int) false (91:Nat)) from z) _ (.inr z) fun an f=>?_)
 rw [Option.some.inj D] at f
 refine Vv (V.bld (xs:=[(0,.const (.string ⟨#[97,116]⟩)),(1,.const (.int .u8 (103))),(3,.const (.int .u8 (116))),(7,.func 91)]) (cs:=[_,_,_,_,_,_,_,_]) V4 V5 z (F4.cons z z z (F4.cons z z z (F4.cons z z z (F4.cons z z z F4.nil)))))<|bE H fun ao G H=>To (O.A9R (agg:=true) (E:=K7) (cs:=[.string (⟨#[97,116]⟩:ByteArray),.int .u8 103,.bool false,.int .u8 116,.bool false,qi 0,.bool false,(fnV (92:Nat))]) underlying98 (A0u.int underlying41) z z z (j:=0) z f (show K7 h [.string (⟨#[97,116]⟩:ByteArray),.int .u8 103,.bool false,.int .u8 116,.bool false,qi 0,.bool false,(fnV (92:Nat))] (G7.mk (⟨#[97,116]⟩:ByteArray) (103:Int) false (116:Int) false (0:Int) false (92:Nat)) from z) _ (.inr z) fun ap g=>?_)
 rw [Option.some.inj G] at g
 refine Vv (V.bld (xs:=[(0,.const (.string ⟨#[115,101,97,116]⟩)),(1,.const (.int .u8 (103))),(3,.const (.int .u8 (116))),(4,.const (.bool true)),(6,.const (.bool true)),(7,.func 92)]) (cs:=[_,_,_,_,_,_,_,_]) V4 V5 z (F4.cons z z z (F4.cons z z z (F4.cons z z z (F4.cons z z z (F4.cons z z z (F4.cons z z z F4.nil)))))))<|bE H fun aq I H=>To (O.A9R (agg:=true) (E:=K7) (cs:=[.string (⟨#[115,101,97,116]⟩:ByteArray),.int .u8 103,.bool false,.int .u8 116,.bool true,qi 0,.bool true,(fnV (93:Nat))]) underlying98 (A0u.int underlying41) z z z (j:=0) z g (show K7 h [.string (⟨#[115,101,97,116]⟩:ByteArray),.int .u8 103,.bool false,.int .u8 116,.bool true,qi 0,.bool true,(fnV (93:Nat))] (G7.mk (⟨#[115,101,97,116]⟩:ByteArray) (103:Int) false (116:Int) true (0:Int) true (93:Nat)) from z) _ (.inr z) fun ar i=>?_)
 rw [Option.some.inj I] at i
 refine Vv (V.bld (xs:=[(0,.const (.string ⟨#[97,108,116,101,114,110,97,116,101]⟩)),(3,.const (.int .u8 (101))),(7,.func 93)]) (cs:=[_,_,_,_,_,_,_,_]) V4 V5 z (F4.cons z z z (F4.cons z z z (F4.cons z z z F4.nil))))<|bE H fun au J H=>To (O.A9R (agg:=true) (E:=K7) (cs:=[.string (⟨#[97,108,116,101,114,110,97,116,101]⟩:ByteArray),.int .u8 0,.bool false,.int .u8 101,.bool false,qi 0,.bool false,(fnV (94:Nat))]) underlying98 (A0u.int underlying41) z z z (j:=0) z i (show K7 h [.string (⟨#[97,108,116,101,114,110,97,116,101]⟩:ByteArray),.int .u8 0,.bool false,.int .u8 101,.bool false,qi 0,.bool false,(fnV (94:Nat))] (G7.mk (⟨#[97,108,116,101,114,110,97,116,101]⟩:ByteArray) (0:Int) false (101:Int) false (0:Int) false (94:Nat)) from z) _ (.inr z) fun aw k=>?_)
 rw [Option.some.inj J] at k
 refine Vv (V.bld (xs:=[(0,.const (.string ⟨#[104,111,115,116]⟩)),(3,.const (.int .u8 (101))),(7,.func 94)]) (cs:=[_,_,_,_,_,_,_,_]) V4 V5 z (F4.cons z z z (F4.cons z z z (F4.cons z z z F4.nil))))<|bE H fun ax K H=>To (O.A9R (agg:=true) (E:=K7) (cs:=[.string (⟨#[104,111,115,116]⟩:ByteArray),.int .u8 0,.bool false,.int .u8 101,.bool false,qi 0,.bool false,(fnV (95:Nat))]) underlying98 (A0u.int underlying41) z z z (j:=0) z k (show K7 h [.string (⟨#[104,111,115,116]⟩:ByteArray),.int .u8 0,.bool false,.int .u8 101,.bool false,qi 0,.bool false,(fnV (95:Nat))] (G7.mk (⟨#[104,111,115,116]⟩:ByteArray) (0:Int) false (101:Int) false (0:Int) false (95:Nat)) from z) _ (.inr z) fun ay m=>?_)
 rw [Option.some.inj K] at m
 refine Vv (V.bld (xs:=[(0,.const (.string ⟨#[114,101,97,99,104]⟩)),(1,.const (.int .u8 (101))),(7,.func 95)]) (cs:=[_,_,_,_,_,_,_,_]) V4 V5 z (F4.cons z z z (F4.cons z z z (F4.cons z z z F4.nil))))<|bE H fun aA M H=>To (O.A9R (agg:=true) (E:=K7) (cs:=[.string (⟨#[114,101,97,99,104]⟩:ByteArray),.int .u8 101,.bool false,.int .u8 0,.bool false,qi 0,.bool false,(fnV (96:Nat))]) underlying98 (A0u.int underlying41) z z z (j:=0) z m (show K7 h [.string (⟨#[114,101,97,99,104]⟩:ByteArray),.int .u8 101,.bool false,.int .u8 0,.bool false,qi 0,.bool false,(fnV (96:Nat))] (G7.mk (⟨#[114,101,97,99,104]⟩:ByteArray) (101:Int) false (0:Int) false (0:Int) false (96:Nat)) from z) _ (.inr z) fun aB n=>?_)
 rw [Option.some.inj M] at n
 refine Vv (V.bld (xs:=[(0,.const (.string ⟨#[115,112,101,97,107]⟩)),(3,.const (.int .u8 (101))),(7,.func 96)]) (cs:=[_,_,_,_,_,_,_,_]) V4 V5 z (F4.cons z z z (F4.cons z z z (F4.cons z z z F4.nil))))<|bE H fun aC N H=>To (O.A9R (agg:=true) (E:=K7) (cs:=[.string (⟨#[115,112,101,97,107]⟩:ByteArray),.int .u8 0,.bool false,.int .u8 101,.bool false,qi 0,.bool false,(fnV (97:Nat))]) underlying98 (A0u.int underlying41) z z z (j:=0) z n (show K7 h [.string (⟨#[115,112,101,97,107]⟩:ByteArray),.int .u8 0,.bool false,.int .u8 101,.bool false,qi 0,.bool false,(fnV (97:Nat))] (G7.mk (⟨#[115,112,101,97,107]⟩:ByteArray) (0:Int) false (101:Int) false (0:Int) false (97:Nat)) from z) _ (.inr z) fun aD o=>?_)
 rw [Option.some.inj N] at o
 refine Vv (V.bld (xs:=[(0,.const (.string ⟨#[112,101,97,99,101]⟩)),(3,.const (.int .u8 (101))),(7,.func 97)]) (cs:=[_,_,_,_,_,_,_,_]) V4 V5 z (F4.cons z z z (F4.cons z z z (F4.cons z z z F4.nil))))<|bE H fun aE P H=>To (O.A9R (agg:=true) (E:=K7) (cs:=[.string (⟨#[112,101,97,99,101]⟩:ByteArray),.int .u8 0,.bool false,.int .u8 101,.bool false,qi 0,.bool false,(fnV (98:Nat))]) underlying98 (A0u.int underlying41) z z z (j:=0) z o (show K7 h [.string (⟨#[112,101,97,99,101]⟩:ByteArray),.int .u8 0,.bool false,.int .u8 101,.bool false,qi 0,.bool false,(fnV (98:Nat))] (G7.mk (⟨#[112,101,97,99,101]⟩:ByteArray) (0:Int) false (101:Int) false (0:Int) false (98:Nat)) from z) _ (.inr z) fun aG p=>?_)
 rw [Option.some.inj P] at p
 refine Vv (V.bld (xs:=[(0,.const (.string ⟨#[99,111,109,112,97,110,121]⟩)),(3,.const (.int .u8 (101))),(7,.func 98)]) (cs:=[_,_,_,_,_,_,_,_]) V4 V5 z (F4.cons z z z (F4.cons z z z (F4.cons z z z F4.nil))))<|bE H fun aI S H=>To (O.A9R (agg:=true) (E:=K7) (cs:=[.string (⟨#[99,111,109,112,97,110,121]⟩:ByteArray),.int .u8 0,.bool false,.int .u8 101,.bool false,qi 0,.bool false,(fnV (99:Nat))]) underlying98 (A0u.int underlying41) z z z (j:=0) z p (show K7 h [.string (⟨#[99,111,109,112,97,110,121]⟩:ByteArray),.int .u8 0,.bool false,.int .u8 101,.bool false,qi 0,.bool false,(fnV (99:Nat))] (G7.mk (⟨#[99,111,109,112,97,110,121]⟩:ByteArray) (0:Int) false (101:Int) false (0:Int) false (99:Nat)) from z) _ (.inr z) fun aJ q=>?_)
 rw [Option.some.inj S] at q
 refine Vv (V.bld (xs:=[(0,.const (.string ⟨#[104,111,110,111,117,114]⟩)),(3,.const (.int .u8 (101))),(7,.func 99)]) (cs:=[_,_,_,_,_,_,_,_]) V4 V5 z (F4.cons z z z (F4.cons z z z (F4.cons z z z F4.nil))))<|bE H fun aK U H=>To (O.A9R (agg:=true) (E:=K7) (cs:=[.string (⟨#[104,111,110,111,117,114]⟩:ByteArray),.int .u8 0,.bool false,.int .u8 101,.bool false,qi 0,.bool false,(fnV (100:Nat))]) underlying98 (A0u.int underlying41) z z z (j:=0) z q (show K7 h [.string (⟨#[104,111,110,111,117,114]⟩:ByteArray),.int .u8 0,.bool false,.int .u8 101,.bool false,qi 0,.bool false,(fnV (100:Nat))] (G7.mk (⟨#[104,111,110,111,117,114]⟩:ByteArray) (0:Int) false (101:Int) false (0:Int) false (100:Nat)) from z) _ (.inr z) fun aM r=>?_)
 rw [Option.some.inj U] at r
 refine Vv (V.bld (xs:=[(0,.const (.string ⟨#[102,105,108,108]⟩)),(3,.const (.int .u8 (101))),(4,.const (.bool true)),(7,.func 100)]) (cs:=[_,_,_,_,_,_,_,_]) V4 V5 z (F4.cons z z z (F4.cons z z z (F4.cons z z z (F4.cons z z z F4.nil)))))<|bE H fun aN W H=>To (O.A9R (agg:=true) (E:=K7) (cs:=[.string (⟨#[102,105,108,108]⟩:ByteArray),.int .u8 0,.bool false,.int .u8 101,.bool true,qi 0,.bool false,(fnV (101:Nat))]) underlying98 (A0u.int underlying41) z z z (j:=0) z r (show K7 h [.string (⟨#[102,105,108,108]⟩:ByteArray),.int .u8 0,.bool false,.int .u8 101,.bool true,qi 0,.bool false,(fnV (101:Nat))] (G7.mk (⟨#[102,105,108,108]⟩:ByteArray) (0:Int) false (101:Int) true (0:Int) false (101:Nat)) from z) _ (.inr z) fun aO s=>?_)
 rw [Option.some.inj W] at s
 refine Vv (V.bld (xs:=[(0,.const (.string ⟨#[108,105,109,105,116]⟩)),(3,.const (.int .u8 (101))),(4,.const (.bool true)),(7,.func 101)]) (cs:=[_,_,_,_,_,_,_,_]) V4 V5 z (F4.cons z z z (F4.cons z z z (F4.cons z z z (F4.cons z z z F4.nil)))))<|bE H fun aP X H=>To (O.A9R (agg:=true) (E:=K7) (cs:=[.string (⟨#[108,105,109,105,116]⟩:ByteArray),.int .u8 0,.bool false,.int .u8 101,.bool true,qi 0,.bool false,(fnV (102:Nat))]) underlying98 (A0u.int underlying41) z z z (j:=0) z s (show K7 h [.string (⟨#[108,105,109,105,116]⟩:ByteArray),.int .u8 0,.bool false,.int .u8 101,.bool true,qi 0,.bool false,(fnV (102:Nat))] (G7.mk (⟨#[108,105,109,105,116]⟩:ByteArray) (0:Int) false (101:Int) true (0:Int) false (102:Nat)) from z) _ (.inr z) fun aS t=>?_)
 rw [Option.some.inj X] at t
 refine Vv (V.bld (xs:=[(0,.const (.string ⟨#[107,105,116,99,104,101,110]⟩)),(1,.const (.int .u8 (100))),(3,.const (.int .u8 (116))),(7,.func 102)]) (cs:=[_,_,_,_,_,_,_,_]) V4 V5 z (F4.cons z z z (F4.cons z z z (F4.cons z z z (F4.cons z z z F4.nil)))))<|bE H fun aU Y H=>To (O.A9R (agg:=true) (E:=K7) (cs:=[.string (⟨#[107,105,116,99,104,101,110]⟩:ByteArray),.int .u8 100,.bool false,.int .u8 116,.bool false,qi 0,.bool false,(fnV (103:Nat))]) underlying98 (A0u.int underlying41) z z z (j:=0) z t (show K7 h [.string (⟨#[107,105,116,99,104,101,110]⟩:ByteArray),.int .u8 100,.bool false,.int .u8 116,.bool false,qi 0,.bool false,(fnV (103:Nat))] (G7.mk (⟨#[107,105,116,99,104,101,110]⟩:ByteArray) (100:Int) false (116:Int) false (0:Int) false (103:Nat)) from z) _ (.inr z) fun aV u=>?_)
 rw [Option.some.inj Y] at u
 refine Vv (V.bld (xs:=[(0,.const (.string ⟨#[109,105,120]⟩)),(3,.const (.int .u8 (101))),(7,.func 103)]) (cs:=[_,_,_,_,_,_,_,_]) V4 V5 z (F4.cons z z z (F4.cons z z z (F4.cons z z z F4.nil))))<|bE H fun aW Z H=>To (O.A9R (agg:=true) (E:=K7) (cs:=[.string (⟨#[109,105,120]⟩:ByteArray),.int .u8 0,.bool false,.int .u8 101,.bool false,qi 0,.bool false,(fnV (104:Nat))]) underlying98 (A0u.int underlying41) z z z (j:=0) z u (show K7 h [.string (⟨#[109,105,120]⟩:ByteArray),.int .u8 0,.bool false,.int .u8 101,.bool false,qi 0,.bool false,(fnV (104:Nat))] (G7.mk (⟨#[109,105,120]⟩:ByteArray) (0:Int) false (101:Int) false (0:Int) false (104:Nat)) from z) _ (.inr z) fun aX w=>?_)
 rw [Option.some.inj Z] at w
 refine Mv z<|Ag z<|Nr<|T.C5u K7.mono w fun aY aZ aa=>?_
 cases H
 exact T.rl z (Rv z) ⟨z,aa⟩
theorem C1B {h c d e f g} (i:K7 h c d) (j:H9 h e f) (H:A0w d f=some g):∀ L,FnW prog 139 [.agg c.toArray,.agg e.toArray] h L (.bool g):=by
 intro L
 obtain rfl:=i
 obtain rfl:=j
 refine J6.enter func139 z z z<|Sr<|To (O.U5 z z z fun m n o a=>To (O.U5 z z z fun p q r b=>An z<|Sr<|Vv (V.fa A8i z)<|Vv (V.M5 (k:=1) A3N z a.u z)<|Wn z z<|Mv z<|T.bH 8 H z (fun H=>?_) fun H=>?_))
 ·refine S2<|Sk<|Kt z<|Mv z<|Vv (V.fa A3C z)<|Vv (V.M5 (k:=2) U8 z a.u z)<|Mv z<|T.bH 16 H z (fun H=>?_) fun H=>?_
  ·refine S2<|Sk<|Kt z<|Kt z<|Mv z<|Vv (V.fa A2v z)<|Vv (V.M5 (k:=3) A3N z a.u z)<|Wn z z<|Mv z<|T.bH 26 H z (fun H=>?_) fun H=>?_
   ·refine S2<|Sk<|Kt z<|Kt z<|Mv z<|Vv (V.fa A0S z)<|Vv (V.M5 (k:=4) U8 z a.u z)<|Mv z<|T.bH 35 H z (fun H=>?_) fun H=>?_
    ·exact S2<|Sk<|Kt z<|Kt z<|Ag z<|Nr<|E1 H
    exact Vv (V.fa U3 z)<|Vv (V.M5 (k:=5) D7 z b z)<|We z z<|Kf z<|Kt z<|Ag z<|Nr<|E1 H
   refine Vv (V.fa V7 z)<|Vv (V.M5 (k:=4) J7 z b z)<|Vv (V.seq z z)<|Kf z<|Kt z<|Mv z<|T.bH 32 H z (fun H=>?_) fun H=>?_
   ·refine Vv (V.fa A0S z)<|Vv (V.M5 (k:=4) U8 z a.u z)<|Mv z<|T.bH 35 H z (fun H=>?_) fun H=>?_
    ·exact S2<|Sk<|Kt z<|Kt z<|Ag z<|Nr<|E1 H
    exact Vv (V.fa U3 z)<|Vv (V.M5 (k:=5) D7 z b z)<|We z z<|Kf z<|Kt z<|Ag z<|Nr<|E1 H
   exact S2<|S2<|S2<|Sk<|Kf z<|Ag z<|Nr<|E1 H
  refine Vv (V.fa A3U z)<|Vv (V.M5 (k:=3) J7 z b z)<|Vv (V.seq z z)<|Kf z<|Kt z<|Mv z<|T.bH 22 H z (fun H=>?_) fun H=>?_
  ·refine Vv (V.fa A2v z)<|Vv (V.M5 (k:=3) A3N z a.u z)<|Wn z z<|Mv z<|T.bH 26 H z (fun H=>?_) fun H=>?_
   ·refine S2<|Sk<|Kt z<|Kt z<|Mv z<|Vv (V.fa A0S z)<|Vv (V.M5 (k:=4) U8 z a.u z)<|Mv z<|T.bH 35 H z (fun H=>?_) fun H=>?_
    ·exact S2<|Sk<|Kt z<|Kt z<|Ag z<|Nr<|E1 H
    exact Vv (V.fa U3 z)<|Vv (V.M5 (k:=5) D7 z b z)<|We z z<|Kf z<|Kt z<|Ag z<|Nr<|E1 H
   refine Vv (V.fa V7 z)<|Vv (V.M5 (k:=4) J7 z b z)<|Vv (V.seq z z)<|Kf z<|Kt z<|Mv z<|T.bH 32 H z (fun H=>?_) fun H=>?_
   ·refine Vv (V.fa A0S z)<|Vv (V.M5 (k:=4) U8 z a.u z)<|Mv z<|T.bH 35 H z (fun H=>?_) fun H=>?_
    ·exact S2<|Sk<|Kt z<|Kt z<|Ag z<|Nr<|E1 H
    exact Vv (V.fa U3 z)<|Vv (V.M5 (k:=5) D7 z b z)<|We z z<|Kf z<|Kt z<|Ag z<|Nr<|E1 H
   exact S2<|S2<|S2<|Sk<|Kf z<|Ag z<|Nr<|E1 H
  exact S2<|S2<|S2<|S2<|Kf z<|Mv z<|S2<|S2<|S2<|Sk<|Kf z<|Ag z<|Nr<|E1 H
 refine Vv (V.fa Z9 z)<|Vv (V.M5 (k:=2) J7 z b z)<|Vv (V.seq z z)<|Kf z<|Mv z<|T.bH 13 H z (fun H=>?_) fun H=>?_
 ·refine Vv (V.fa A3C z)<|Vv (V.M5 (k:=2) U8 z a.u z)<|Mv z<|T.bH 16 H z (fun H=>?_) fun H=>?_
  ·refine S2<|Sk<|Kt z<|Kt z<|Mv z<|Vv (V.fa A2v z)<|Vv (V.M5 (k:=3) A3N z a.u z)<|Wn z z<|Mv z<|T.bH 26 H z (fun H=>?_) fun H=>?_
   ·refine S2<|Sk<|Kt z<|Kt z<|Mv z<|Vv (V.fa A0S z)<|Vv (V.M5 (k:=4) U8 z a.u z)<|Mv z<|T.bH 35 H z (fun H=>?_) fun H=>?_
    ·exact S2<|Sk<|Kt z<|Kt z<|Ag z<|Nr<|E1 H
    exact Vv (V.fa U3 z)<|Vv (V.M5 (k:=5) D7 z b z)<|We z z<|Kf z<|Kt z<|Ag z<|Nr<|E1 H
   refine Vv (V.fa V7 z)<|Vv (V.M5 (k:=4) J7 z b z)<|Vv (V.seq z z)<|Kf z<|Kt z<|Mv z<|T.bH 32 H z (fun H=>?_) fun H=>?_
   ·refine Vv (V.fa A0S z)<|Vv (V.M5 (k:=4) U8 z a.u z)<|Mv z<|T.bH 35 H z (fun H=>?_) fun H=>?_
    ·exact S2<|Sk<|Kt z<|Kt z<|Ag z<|Nr<|E1 H
    exact Vv (V.fa U3 z)<|Vv (V.M5 (k:=5) D7 z b z)<|We z z<|Kf z<|Kt z<|Ag z<|Nr<|E1 H
   exact S2<|S2<|S2<|Sk<|Kf z<|Ag z<|Nr<|E1 H
  refine Vv (V.fa A3U z)<|Vv (V.M5 (k:=3) J7 z b z)<|Vv (V.seq z z)<|Kf z<|Kt z<|Mv z<|T.bH 22 H z (fun H=>?_) fun H=>?_
  ·refine Vv (V.fa A2v z)<|Vv (V.M5 (k:=3) A3N z a.u z)<|Wn z z<|Mv z<|T.bH 26 H z (fun H=>?_) fun H=>?_
   ·refine S2<|Sk<|Kt z<|Kt z<|Mv z<|Vv (V.fa A0S z)<|Vv (V.M5 (k:=4) U8 z a.u z)<|Mv z<|T.bH 35 H z (fun H=>?_) fun H=>?_
    ·exact S2<|Sk<|Kt z<|Kt z<|Ag z<|Nr<|E1 H
    exact Vv (V.fa U3 z)<|Vv (V.M5 (k:=5) D7 z b z)<|We z z<|Kf z<|Kt z<|Ag z<|Nr<|E1 H
   refine Vv (V.fa V7 z)<|Vv (V.M5 (k:=4) J7 z b z)<|Vv (V.seq z z)<|Kf z<|Kt z<|Mv z<|T.bH 32 H z (fun H=>?_) fun H=>?_
   ·refine Vv (V.fa A0S z)<|Vv (V.M5 (k:=4) U8 z a.u z)<|Mv z<|T.bH 35 H z (fun H=>?_) fun H=>?_
    ·exact S2<|Sk<|Kt z<|Kt z<|Ag z<|Nr<|E1 H
    exact Vv (V.fa U3 z)<|Vv (V.M5 (k:=5) D7 z b z)<|We z z<|Kf z<|Kt z<|Ag z<|Nr<|E1 H
   exact S2<|S2<|S2<|Sk<|Kf z<|Ag z<|Nr<|E1 H
  exact S2<|S2<|S2<|S2<|Kf z<|Mv z<|S2<|S2<|S2<|Sk<|Kf z<|Ag z<|Nr<|E1 H
 exact S2<|S2<|S2<|Sk<|Kf z<|Mv z<|S2<|S2<|S2<|S2<|Kf z<|Mv z<|S2<|S2<|S2<|Sk<|Kf z<|Ag z<|Nr<|E1 H
theorem C1q {h C d D E G c I} (N:K7 h C d) (P:O8 h D E) (S:H9 h G c) (H:A1D d E c=some I):∀ L,FnW prog 78 [.agg C.toArray,.agg D.toArray,.agg G.toArray] h L (.int .i64 I):=by
 intro L
 obtain rfl:=N
 obtain ⟨i,j,m,n,o,rfl,e,p,q,r,s⟩:=P
 obtain rfl:=S
 refine J6.enter func78 z z z<|Sr<|To (O.U5 z z z fun bm bn bo b=>To (O.U5 z z z fun bp bq br f=>To (O.U5 z z z fun bs bt bu a=>An z<|Sq<|Bl<|Sr<|Vv (V.fa C1j z)<|Vv (V.M5 (k:=0) J7 z b.u z)<|Vv (V.seq z z)<|An z<|T.cH H z (fun H=>?_) fun H=>?_)))
 ·exact Sg z<|Nr<|Br<|Tr<|E1 H
 refine Sq ?_
 obtain ⟨U,W,X⟩:=K4 H
 refine T.ck (α:=Bool) [3,4,5] (fun t=>([(14,.bool t)],L,fun hh=>U=t)) ?_ ?_
 ·have H:=W
  refine Rg<|Vv (V.fa A4d z)<|Vv (V.M5 (k:=1) D7 z a z)<|Wl z z<|Mv z<|T.bH 18 H z (fun H=>?_) fun H=>?_
  ·refine S2<|Sk<|Kt z<|An z<|T.mt true (M7 H)
  refine Vv (V.fa A4d z)<|Vv (V.M5 (k:=1) D7 z a z)<|Wg z z<|Kf z<|An z<|T.mt (decide ((1000:Int) < c.J3)) (M7 H)
 rintro t J bw Y
 have H:=I7 Y X
 refine T.norm [14,3,4,5] z<|T.fl ?_
 refine T.cH H z (fun H=>?_) fun H=>?_
 ·exact Sg z<|Nr<|Br<|Tr<|E1 H
 refine Sr<|Vv (V.ldS z b.u (by exact C4m)) ?_
 refine Vv (V.ldS z a.u (by exact K3)) ?_
 refine bE H fun bx Z H=>To (O.cs (C1B (show K7 J [.string d.A7b,.int .u8 d.fa,.bool d.fb,.int .u8 d.ft,.bool d.fn,qi d.flo,.bool d.A6j,(fnV d.C4y)] d from z) (show H9 J [.int .u8 c.H6,qi c.J3,.string c.fA,.string c.fB,.string c.J2,qi c.fN] c from z) Z _) fun bB bD=>Vv (V.not z)<|An z<|T.cH H z (fun H=>?_) fun H=>?_)
 ·exact Sg z<|Nr<|Br<|Tr<|E1 H
 refine Sq<|Sq ?_
 obtain ⟨ac,ad,ae⟩:=K4 H
 refine T.ck (α:=Bool) [3,4,5] (fun g=>([(28,.bool g)],L,fun hh=>ac=g)) ?_ ?_
 ·have H:=ad
  refine Rg<|Vv (V.fa A8i z)<|Vv (V.M5 (k:=1) A3N z b.u z)<|We z z<|Mv z<|T.bH 32 H z (fun H=>?_) fun H=>?_
  ·refine Vv (V.ldS z f.u (by exact J4)) ?_
   refine Vv (V.fa Z9 z)<|Vv (V.M5 (k:=2) J7 z a.u z)<|bE H fun af ag H=>To (O.G9 z (A2k ⟨i,j,m,n,o,z,e.u,p.u,q.u,r.u,s.u⟩ ag _) z fun bG bI bJ bK ai=>?_)
   obtain ⟨rfl,aj⟩:=ai
   refine P7 _ aj<|Wl z z<|Kt z<|An z<|T.mt (decide (af < (0:Int))) (M7 H)
  refine S2<|S2<|Sk<|Kf z<|An z<|T.mt false (M7 H)
 rintro g bM bN ak
 have H:=I7 ak ae
 refine T.norm [28,3,4,5] z<|T.fl ?_
 obtain ⟨am,an,ao⟩:=K4 H
 refine T.ck (α:=Bool) [3,4,5] (fun w=>([(28,.bool w)],L,fun hh=>am=w)) ?_ ?_
 ·have H:=an
  refine T.cH H z (fun H=>?_) fun H=>?_
  ·refine Ks<|T.mt g (M7 H)
  refine Sr<|Vv (V.fa A8i z)<|Vv (V.M5 (k:=1) A3N z b.u z)<|We z z<|Mv z<|T.bH 42 H z (fun H=>?_) fun H=>?_
  ·refine Vv (V.fa Z9 z)<|Vv (V.M5 (k:=2) J7 z a.u z)<|Vv (V.sne z z)<|Kt z<|Mv z<|T.bH 47 H z (fun H=>?_) fun H=>?_
   ·refine Vv (V.ldS z f.u (by exact J4)) ?_
    refine Vv (V.fa Z9 z)<|Vv (V.M5 (k:=2) J7 z a.u z)<|bE H fun ap aq H=>To (O.cs (A2k ⟨i,j,m,n,o,z,e.u,p.u,q.u,r.u,s.u⟩ aq _) fun bP bU=>Wl z z<|Kt z<|An z<|T.cH H z (fun H=>?_) fun H=>?_)
    ·refine Ks<|T.mt (decide (ap < (0:Int))) (M7 H)
    refine Rg<|Vv (V.fa A3C z)<|Vv (V.M5 (k:=2) U8 z b.u z)<|Mv z<|T.bH 56 H z (fun H=>?_) fun H=>?_
    ·refine Vv (V.ldS z f.u (by exact J4)) ?_
     refine Vv (V.fa A3U z)<|Vv (V.M5 (k:=3) J7 z a.u z)<|bE H fun aw ax H=>To (O.G9 z (A2k ⟨i,j,m,n,o,z,e.u,p.u,q.u,r.u,s.u⟩ ax _) z fun bV bW bX bY ay=>?_)
     obtain ⟨rfl,aA⟩:=ay
     refine P7 _ aA<|Wl z z<|Kt z<|An z<|T.mt (decide (aw < (0:Int))) (M7 H)
    refine S2<|S2<|Sk<|Kf z<|An z<|T.mt false (M7 H)
   refine S2<|S2<|Sk<|Kf z<|An z<|Cf z<|Rg<|Vv (V.fa A3C z)<|Vv (V.M5 (k:=2) U8 z b.u z)<|Mv z<|T.bH 56 H z (fun H=>?_) fun H=>?_
   ·refine Vv (V.ldS z f.u (by exact J4)) ?_
    refine Vv (V.fa A3U z)<|Vv (V.M5 (k:=3) J7 z a.u z)<|bE H fun aB aC H=>To (O.G9 z (A2k ⟨i,j,m,n,o,z,e.u,p.u,q.u,r.u,s.u⟩ aC _) z fun bZ b0 b1 b2 aD=>?_)
    obtain ⟨rfl,aE⟩:=aD
    refine P7 _ aE<|Wl z z<|Kt z<|An z<|T.mt (decide (aB < (0:Int))) (M7 H)
   refine S2<|S2<|Sk<|Kf z<|An z<|T.mt false (M7 H)
  refine S2<|Sk<|Kf z<|Mv z<|S2<|S2<|Sk<|Kf z<|An z<|Cf z<|Rg<|Vv (V.fa A3C z)<|Vv (V.M5 (k:=2) U8 z b.u z)<|Mv z<|T.bH 56 H z (fun H=>?_) fun H=>?_
  ·refine Vv (V.ldS z f.u (by exact J4)) ?_
   refine Vv (V.fa A3U z)<|Vv (V.M5 (k:=3) J7 z a.u z)<|bE H fun aG aI H=>To (O.G9 z (A2k ⟨i,j,m,n,o,z,e.u,p.u,q.u,r.u,s.u⟩ aI _) z fun b3 b4 b5 b6 aJ=>?_)
   obtain ⟨rfl,aK⟩:=aJ
   refine P7 _ aK<|Wl z z<|Kt z<|An z<|T.mt (decide (aG < (0:Int))) (M7 H)
  refine S2<|S2<|Sk<|Kf z<|An z<|T.mt false (M7 H)
 rintro w b7 b8 aM
 have H:=I7 aM ao
 refine T.norm [28,3,4,5] z<|T.fl ?_
 refine T.cH H z (fun H=>?_) fun H=>?_
 ·exact Sg z<|Nr<|Br<|Tr<|E1 H
 refine Sq ?_
 obtain ⟨aN,aO,aP⟩:=K4 H
 refine T.ck (α:=Bool) [3,4,5] (fun x=>([(63,.bool x)],L,fun hh=>aN=x)) ?_ ?_
 ·have H:=aO
  refine Rg<|Vv (V.fa A8i z)<|Vv (V.M5 (k:=1) A3N z b.u z)<|We z z<|Mv z<|T.bH 67 H z (fun H=>?_) fun H=>?_
  ·refine Vv (V.fa Z9 z)<|Vv (V.M5 (k:=2) J7 z a.u z)<|bE H fun aS aU H=>To (O.G9 z (C3B aU _) z fun b9 bh bl bv aV=>?_)
   obtain ⟨rfl,aW⟩:=aV
   refine P7 _ aW<|Vv (V.not z)<|Kt z<|An z<|T.mt (!aS) (M7 H)
  refine S2<|S2<|Kf z<|An z<|T.mt false (M7 H)
 rintro x bz ca aX
 have H:=I7 aX aP
 refine T.norm [63,3,4,5] z<|T.fl ?_
 refine T.cH H z (fun H=>?_) fun H=>?_
 ·exact Sg z<|Nr<|Br<|Tr<|E1 H
 refine Sq ?_
 obtain ⟨aY,aZ,a0⟩:=K4 H
 refine T.ck (α:=Bool) [3,4,5] (fun y=>([(73,.bool y)],L,fun hh=>aY=y)) ?_ ?_
 ·have H:=aZ
  refine Rg<|Vv (V.fa A3C z)<|Vv (V.M5 (k:=2) U8 z b.u z)<|Mv z<|T.bH 76 H z (fun H=>?_) fun H=>?_
  ·refine Vv (V.fa Z9 z)<|Vv (V.M5 (k:=2) J7 z a.u z)<|Vv (V.fa A3U z)<|Vv (V.M5 (k:=3) J7 z a.u z)<|Vv (V.seq z z)<|Kt z<|An z<|T.mt (decide (c.fA=c.fB)) (M7 H)
  refine S2<|S2<|Sk<|Kf z<|An z<|T.mt false (M7 H)
 rintro y cb cc a1
 have H:=I7 a1 a0
 refine T.norm [73,3,4,5] z<|T.fl ?_
 refine T.cH H z (fun H=>?_) fun H=>?_
 ·exact Sg z<|Nr<|Br<|Tr<|E1 H
 refine T.skip<|Bn<|Th<|Sr<|Vv (V.fa N7 z)<|Vv (V.M5 (k:=0) Q0 z f.u z)<|Vv (V.fa V7 z)<|Vv (V.M5 (k:=4) J7 z a.u z)<|bE H fun ⟨cd,K⟩ a2 H=>To (O.cs (C3q e.u a2 _) fun cf ci=>Mv z<|Wx z z<|Wx z z<|Ag z<|An z<|Sq<|Sq ?_)
 obtain ⟨a5,a6,a7⟩:=K4 H
 refine T.ck (α:=Bool) [3,4,5,7] (fun A=>([(111,.bool A)],L,fun hh=>a5=A)) ?_ ?_
 ·have H:=a6
  refine Rg<|Vv (V.fa A2v z)<|Vv (V.M5 (k:=3) A3N z b.u z)<|We z z<|Mv z<|T.bH 94 H z (fun H=>?_) fun H=>?_
  ·refine Mv z<|Vv (V.not z)<|Kt z<|Mv z<|T.bH 98 H z (fun H=>?_) fun H=>?_
   ·refine S2<|S2<|S2<|S2<|S2<|S2<|Kt z<|Nt<|T.mt true (M7 H)
   refine Vv (V.fa A2v z)<|Vv (V.M5 (k:=3) A3N z b.u z)<|We z z<|Mv z<|T.bH 102 H z (fun H=>?_) fun H=>?_
   ·refine Vv (V.fa V7 z)<|Vv (V.M5 (k:=4) J7 z a.u z)<|Vv (V.sne z z)<|Kt z<|Mv z<|T.bH 107 H z (fun H=>?_) fun H=>?_
    ·refine Mv z<|Vv (V.not z)<|Kt z<|Kf z<|Nt<|T.mt (!K) (M7 H)
    refine S2<|Kf z<|Kf z<|Nt<|T.mt false (M7 H)
   refine S2<|Sk<|Kf z<|Mv z<|S2<|Kf z<|Kf z<|Nt<|T.mt false (M7 H)
  refine S2<|Kf z<|Mv z<|Vv (V.fa A2v z)<|Vv (V.M5 (k:=3) A3N z b.u z)<|We z z<|Mv z<|T.bH 102 H z (fun H=>?_) fun H=>?_
  ·refine Vv (V.fa V7 z)<|Vv (V.M5 (k:=4) J7 z a.u z)<|Vv (V.sne z z)<|Kt z<|Mv z<|T.bH 107 H z (fun H=>?_) fun H=>?_
   ·refine Mv z<|Vv (V.not z)<|Kt z<|Kf z<|Nt<|T.mt (!K) (M7 H)
   refine S2<|Kf z<|Kf z<|Nt<|T.mt false (M7 H)
  refine S2<|Sk<|Kf z<|Mv z<|S2<|Kf z<|Kf z<|Nt<|T.mt false (M7 H)
 rintro A a8 cj a9
 have H:=I7 a9 a7
 refine T.norm [111,3,4,5,7] z<|T.fl ?_
 refine T.cH H z (fun H=>?_) fun H=>?_
 ·exact Sg z<|Nr<|Tr<|E1 H
 refine Ks<|Sr<|An z<|Sq<|Sr<|Vv (V.fa C1g z)<|Vv (V.M5 (k:=6) U8 z b.u z)<|Nt ?_
 obtain ⟨ah,al,av⟩:=K4 H
 refine T.ck (α:=Int) [3,5] (fun B=>([(9,qi B)],L,fun hh=>ah=B)) ?_ ?_
 ·have H:=al
  refine T.cH H z (fun H=>?_) fun H=>?_
  ·refine Rg<|Vv (V.fa N7 z)<|Vv (V.M5 (k:=0) Q0 z f.u z)<|Mv z<|Mv z<|bE H fun ck az H=>Vv (V.H8 z z az)<|bE H fun ba M H=>T.slM z O6 z e.u (.inr ⟨_,_,z,z⟩) (.inr ⟨_,_,z,z⟩) (A3K M).2 z fun bb bc cm=>?_
   have bd:F8 I6 7 a8 bb ba:=by rw [(A3K M).1]; exact bc
   refine bE H fun cn be H=>To (O.G9 z (A7X bd be _) z fun co cp cq cr bf=>?_)
   obtain ⟨rfl,bg⟩:=bf
   refine P7 _ bg<|bE H fun bi bj H=>Vv (V.Y9 z z bj)<|An z<|T.mt bi (M7 H)
  refine Ks<|T.mt (24:Int) (M7 H)
 rintro B cs ct bk
 have H:=I7 bk av
 refine T.norm [9,3,5] z<|T.fl ?_
 refine Sq<|Sr<|Vv (V.fa A0S z)<|Vv (V.M5 (k:=4) U8 z b.u z)<|Mv z<|T.bH 124 H z (fun H=>?_) fun H=>?_
 ·refine Vv (V.fa U3 z)<|Vv (V.M5 (k:=5) D7 z a.u z)<|Vv (V.fa C1f z)<|Vv (V.M5 (k:=5) D7 z b.u z)<|Wl z z<|Mv z<|T.bH 130 H z (fun H=>?_) fun H=>?_
  ·exact S2<|S2<|Kt z<|Kt z<|Nt<|Ct z<|Sg z<|Nr<|Tr<|E1 H
  refine Vv (V.fa U3 z)<|Vv (V.M5 (k:=5) D7 z a.u z)<|Mv z<|Wg z z<|Kf z<|Kt z<|Nt<|T.cH H z (fun H=>?_) fun H=>?_
  ·exact Sg z<|Nr<|Tr<|E1 H
  exact Ks<|Sg z<|Nr<|E1 H
 exact S2<|S2<|S2<|S2<|S2<|Sk<|Kf z<|Nt<|Cf z<|Ks<|Sg z<|Nr<|E1 H
theorem C1O {h n d o p} (w:O8 h n d) (H:B2v d=some (o,p)):∀ L,FnW prog 77 [.agg n.toArray] h L (.tuple #[.int .i64 o,.int .i64 p]):=by
 intro L
 obtain ⟨ac,x,y,ad,ae,rfl,q,i,r,e,af⟩:=w
 refine J6.enter func77 z z z<|Sr<|To (O.U5 z z z fun ai aj ak a=>Ag z<|An z<|Sq<|Sr<|Vv (V.fa N7 z)<|Vv (V.M5 (k:=0) Q0 z a z)<|bE H fun ⟨am,an⟩ A H=>To (O.cs (B1m q.u A _) fun ap ar=>Mv z<|Wx z z<|Wx z z<|Ag z<|An z<|Sm z<|Wn z z<|Nt<|T.cH H z (fun H=>?_) fun H=>?_))
 ·exact Sm z<|Mv z<|Ag z<|Ag z<|Nr<|Tr<|E1 H
 refine Ks<|Sq<|Sr<|Vv (V.fa U4 z)<|Vv (V.M5 (k:=1) O0 z a.u z)<|Vv (V.fa A9L z)<|Vv (V.M5 (k:=2) A1H z a.u z)<|Vv (V.bld (xs:=[(0,.tmp 22),(1,.tmp 24)]) (cs:=[_,_]) B8x B8t z (F4.cons z (F8.cells i) z (F4.cons z (F8.cells r) z F4.nil)))<|bE H fun ⟨au,aw⟩ D H=>To (O.cs (B5U ⟨x,y,z,i.u,r.u⟩ D _) fun ay aB=>Mv z<|Wx z z<|Wx z z<|Ag z<|An z<|Sm z<|Wn z z<|Nt<|T.cH H z (fun H=>?_) fun H=>?_)
 ·exact Sm z<|Mv z<|Ag z<|Ag z<|Nr<|Tr<|E1 H
 refine Ks<|Sq<|Sq ?_
 obtain ⟨I,J,K⟩:=K4 H
 refine T.ck (α:=Bool) [1] (fun f=>([(45,.bool f)],L,fun hh=>I=f)) ?_ ?_
 ·have H:=J
  refine Rg<|Vv (V.fa A5F z)<|Vv (V.M5 (k:=3) E5 z a.u z)<|Vv (V.Q3 A9 z e)<|Wg z z<|Mv z<|T.bH 37 H z (fun H=>?_) fun H=>?_
  ·refine Vv (V.fa A5F z)<|Vv (V.M5 (k:=3) E5 z a.u z)<|Vv (V.Q3 A9 z e)<|Vv (V.fa U4 z)<|Vv (V.M5 (k:=1) O0 z a.u z)<|Vv (V.Q3 O9 z i)<|Wn z z<|Kt z<|Nt<|T.mt (!decide ((d.R8.length:Int)=(d.A8.length:Int))) (M7 H)
  refine S2<|S2<|S2<|Sk<|Kf z<|Nt<|T.mt false (M7 H)
 rintro f aC aD M
 have H:=I7 M K
 refine T.norm [45,1] z<|T.fl ?_
 refine T.cH H z (fun H=>?_) fun H=>?_
 ·exact Sg z<|Ag z<|Nr<|Tr<|E1 H
 refine Ks<|Sq<|Sr<|Vv (V.fa A5F z)<|Vv (V.M5 (k:=3) E5 z a.u z)<|Vv (V.Q3 A9 z e)<|Mv z<|Nt ?_
 obtain ⟨N,P,m⟩:=K4 H
 have H:=P
 refine Bl<|T.lk [1,47,48] (FUEL,(0:Int)) (fun ⟨b,c⟩=>([(49,qi c)],L,fun hh=>iter (A5r d) b c=some N)) H ?_
 rintro ⟨b,c⟩ aE aG S
 obtain ⟨U,aI,rfl,H,j⟩:=G8 S
 refine T.norm [49,1,47,48] z<|T.fl ?_
 refine Sr<|Wl z z<|Nt<|Sq<|T.cH H z (fun H=>?_) fun H=>?_
 ·refine Ks<|Sq<|Bl<|Sr<|bE H fun aJ s H=>?_
  obtain ⟨aK,W,rfl⟩:=F8.at e s
  refine Vv (V.ix A9 z z e (E9 s))<|Vv (V.S9 D7 z W.u z)<|An z<|Sm z<|Wl z z<|Mv z<|T.bH 55 H z (fun H=>?_) fun H=>?_
  ·exact S2<|Kt z<|Nt<|Ct z<|Sg z<|Ag z<|Nr<|Br<|Tr<|Tr<|have H:=D6 H j; Br<|Tr<|have H:=I7 H m; E1 H
  refine Mv z<|Vv (V.ge z z)<|Kf z<|Nt<|T.cH H z (fun H=>?_) fun H=>?_
  ·exact Sg z<|Ag z<|Nr<|Br<|Tr<|Tr<|have H:=D6 H j; Br<|Tr<|have H:=I7 H m; E1 H
  refine T.skip<|Bn<|Th<|Rg<|bE H fun X Y H=>Vv (V.H8 z z Y)<|Mv z<|Nt<|T.ag (U,X) (D8 H j)
 refine T.exit<|Te<|Te<|have H:=D6 H j; Be<|Th<|have H:=I7 H m; Sq<|Sq<|T.N8 (t:=(.vs [0,1,2,3,4] (.alt 5 (.g (.v 6 .done)) .no))) 8 0 0 z z I5 (by kernel_rfl) ?_
 refine Tv z (V.fa U4 z)<|Tv z (V.M5 (k:=1) O0 z a.u z)<|Tv z (V.Q3 O9 z i)<|Tv z (V.fa N7 z)<|Tv z (V.M5 (k:=0) Q0 z a.u z)<|bE H fun aM Z H=>Tp z z (X2 z z) (O.G9 z (A7X q.u Z _) z fun aN aO aP aS aa=>?_) T.P5
 obtain ⟨rfl,ab⟩:=aa
 refine P7 _ ab<|T.O1 Li<|Tv z (V.gt z z)<|T.O7 (X2 z z)<|Th<|T.cH H z (fun H=>?_) fun H=>?_
 ·exact Sg z<|Ag z<|Nr<|Tr<|E1 H
 exact Ks<|Sg z<|Ag z<|Nr<|E1 H
theorem A5j {h o g p q} (G:O8 h o g) (H:A2u g=some (p,q)):∀ L,FnW prog 37 [.agg o.toArray] h L (.tuple #[.int .i64 p,.int .i64 q]):=by
 intro L
 obtain ⟨r,s,t,w,x,rfl,y,A,B,C,e⟩:=G
 refine J6.enter func37 z z z<|Sr<|To (O.U5 z z z fun am an ao i=>Ag z<|An z<|Sq<|Sr<|Vv (V.ldS z i (by exact J4)) ?_)
 refine bE H fun ⟨ap,aq⟩ I H=>To (O.cs (C1O ⟨r,s,t,w,x,z,y.u,A.u,B.u,C.u,e.u⟩ I _) fun au ax=>Mv z<|Wx z z<|Wx z z<|Ag z<|An z<|Sm z<|Wn z z<|Nt<|T.cH H z (fun H=>?_) fun H=>?_)
 ·exact Sm z<|Mv z<|Ag z<|Ag z<|Nr<|Tr<|E1 H
 refine Ks<|Sr<|bE H fun M N H=>To (O.G9 z (B5f N _) z fun ay aA aB aC P=>?_)
 obtain ⟨S,U⟩:=P
 refine P7 _ S<|An z<|Sq<|Sr<|Vv (V.fa Y3 z)<|Vv (V.M5 (k:=4) Y4 z i.u z)<|Vv (V.Q3 U9 z e)<|Mv z<|Nt ?_
 obtain ⟨W,X,m⟩:=K4 H
 have H:=X
 refine Bl<|T.lk [1,6,21,22] (FUEL,(0:Int)) (fun ⟨c,d⟩=>([(23,qi d)],L,fun hh=>iter (A5g g M) c d=some W)) H ?_
 rintro ⟨c,d⟩ aD aE Y
 obtain ⟨Z,aG,rfl,H,f⟩:=G8 Y
 refine T.norm [23,1,6,21,22] z<|T.fl ?_
 refine Sr<|Wl z z<|Nt<|Sq<|T.cH H z (fun H=>?_) fun H=>?_
 ·refine Ks<|Sq<|Bl<|Sm z<|bE H fun a D H=>?_
  obtain ⟨aI,aa,rfl⟩:=F8.at e D
  refine Vv (V.ix U9 z z e (E9 D))<|Vv (V.ldS z aa.u (by exact K3)) ?_
  refine To (O.alloc A1R z z fun aJ=>Ag z<|To (O.stF (vs:=[.int .u8 a.H6,qi a.J3,.string a.fA,.string a.fB,.string a.J2,qi a.fN]) K3 z z (j:=0) z z z z<|T.freeze fun n aK ab=>have E:=Z0.of ab; Nt<|Sq<|Sm z<|Vv (V.fa A2w z)<|Vv (V.M5 (k:=0) A5d z E z)<|bE H fun ⟨b,aM⟩ ac H=>?_))
  obtain ⟨_,ad,rfl⟩:=Mp.look (zc:=[.string qe,.int .u8 0,.bool false,.int .u8 0,.bool false,qi 0,.bool false,(fnV (0:Nat))]) (agg:=true) underlying98 (A0u.int underlying41) B8q (show K7 n [.string qe,.int .u8 0,.bool false,.int .u8 0,.bool false,qi 0,.bool false,(fnV (0:Nat))] (G7.mk qe (0:Int) false (0:Int) false (0:Int) false (0:Nat)) from rfl) U.u ac
  refine Vv (V.D2I z z ad)<|Vv (V.ldS z i.u (by exact J4)) ?_
  refine Vv (V.ldS z E (by exact K3)) ?_
  refine bE H fun aN ae H=>To (O.cs (C1q (show K7 n [.string b.A7b,.int .u8 b.fa,.bool b.fb,.int .u8 b.ft,.bool b.fn,qi b.flo,.bool b.A6j,(fnV b.C4y)] b from z) ⟨r,s,t,w,x,z,y.u,A.u,B.u,C.u,e.u⟩ (show H9 n [.int .u8 a.H6,qi a.J3,.string a.fA,.string a.fB,.string a.J2,qi a.fN] a from z) ae _) fun aP aU=>An z<|Sm z<|Wn z z<|Nt<|T.cH H z (fun H=>?_) fun H=>?_)
  ·exact Sm z<|Mv z<|Ag z<|Ag z<|Nr<|Tr<|Br<|Tr<|Tr<|have H:=D6 H f; Br<|Tr<|have H:=I7 H m; E1 H
  refine Ks<|Sm z<|We z z<|Nt<|T.cH H z (fun H=>?_) fun H=>?_
  ·exact Sm z<|Ag z<|Ag z<|Nr<|Br<|Tr<|Tr<|have H:=D6 H f; Br<|Tr<|have H:=I7 H m; E1 H
  refine T.skip<|Bn<|Th<|Rg<|bE H fun aj ak H=>Vv (V.H8 z z ak)<|Mv z<|Nt<|T.ag (Z,aj) (D8 H f)
 exact T.exit<|Te<|Te<|have H:=D6 H f; Be<|Th<|have H:=I7 H m; Sg z<|Ag z<|Nr<|E1 H
theorem C1h {h a b c d e f g i} (j:Z0 h b c) (m:O8 h c d) (n:Z0 h e f) (o:(VI .i64) h f g) (H:B0d a d g=some i):∀ L,FnW prog 48 [.int .i64 a,.pointer (some b),.pointer (some e)] h L (.bool i):=by
 intro L
 obtain ⟨t,u,w,x,y,rfl,p,A,B,C,D⟩:=m
 obtain rfl:=o
 exact J6.enter func48 z z z<|Sr<|An z<|Sr<|Vv (V.fa N7 z)<|Vv (V.M5 (k:=0) Q0 z j z)<|Vv (V.S9 D7 z n z)<|Mv z<|bE H fun E q H=>To (O.cs (B9v p q _) fun I K=>Ag z<|Nr<|E1 H)
theorem C0W {h a b c d e f g i} (j:Z0 h b c) (m:O8 h c d) (n:Z0 h e f) (o:(VI .i64) h f g) (H:A9Z a d g=some i):∀ L,FnW prog 50 [.int .i64 a,.pointer (some b),.pointer (some e)] h L (.bool i):=by
 intro L
 obtain ⟨t,u,w,x,y,rfl,p,A,B,C,D⟩:=m
 obtain rfl:=o
 exact J6.enter func50 z z z<|Sr<|An z<|Sr<|Vv (V.fa N7 z)<|Vv (V.M5 (k:=0) Q0 z j z)<|Vv (V.S9 D7 z n z)<|Mv z<|bE H fun E q H=>To (O.cs (C0e p q _) fun I K=>Ag z<|Nr<|E1 H)
theorem C1L {h ae W S af} (aX:Pt Z7 h ae W) (H:B1X W S=some af):∀ L,J6 prog 52 [ae,.int .i64 S] h (L) (fun v h' L'=>∃ ai X,v=.map (some ai)∧L'=blk ai (.map X.toArray X.length)::L∧X7 (Value.int .i64) false (VI .i64) h' 0 X af):=by
 intro L
 refine J6.enter func52 z z z<|Sr<|An z<|Sr<|To (O.mkM z fun aY=>have aZ:X7 (Value.int .i64) false (VI .i64) h 0 ([]:List MapEntry) ([]:List (Int×Int)):=trivial; Mv z<|bE H fun a0 a1 H=>To (O.A9R (agg:=false) (E:=(VI .i64)) (cs:=[qi 0]) underlying112 (A0u.int underlying3) z z z (j:=0) z aZ (show (VI .i64) h [qi 0] (0:Int) from z) _ (.inr z) fun a2 aj=>?_))
 rw [Option.some.inj a1] at aj
 refine Mv z<|An z<|Sq<|Sm z<|To (O.b1 (E:=VI .i64) A9 K8 z z z z z fun a3 a4=>An z ?_)
 obtain ⟨a5,a6,a7⟩:=K4 H
 have H:=a6
 refine Bl<|Fr_ 1 z<|T.lk [0] (FUEL,a0,[S],aY,a2,(.slice (some ⟨a3,0,none⟩) 1 1),[[qi S]]) (fun ⟨D,s,w,x,i,y,A⟩=>([(5,.map (some x)),(6,y)],blk x (.map i.toArray i.length)::F5 3 1 y A::L,fun hh=>iter (A8d W) D (s,w)=some a5∧X7 (Value.int .i64) false (VI .i64) hh 0 i s∧A7 (VI .i64) hh A w)) ⟨H,aj,a4⟩ ?_
 rintro ⟨D,s,w,x,i,y,A⟩ a8 bY ⟨a9,ak,G⟩
 obtain ⟨ah,bZ,rfl,H,am⟩:=G8 a9
 refine T.norm [5,6,0] z<|T.fl ?_
 refine Sq<|Sm z<|Vv (V.A4x A9 z (j:=1) z G.len)<|Wg z z<|Nt<|T.cH H z (fun H=>?_) fun H=>?_
 ·refine Ks<|Sq<|Bl<|Sq<|Fr_ 1 z<|T.N8 (t:=(.vs [0,1,2,3,4,5,6,7,8,9,10,11,12,13,14,15,16,17,20] (.alt 18 (.g (.v 19 .done)) .no))) 22 1 1 z z I5 (by kernel_rfl) ?_
  refine Tm z z<|have al:=aX; ?_
  obtain ⟨b0,_,rfl,an,⟨b2,b3,b4,b5,b6,b7,b8,b9,bh,bl,bv,bz,ca,cb,rfl,cc,cd,ce,cf,cg,ci,cj,ck,cm,ao,aq,cn,co,cp⟩⟩:=al
  refine TL z z z z A2h U1 an.u z<|Tm z z<|bE H fun cq ar H=>?_
  obtain ⟨cr,av,rfl⟩:=A7.get G ar
  refine Tv z (Val.XA fun _ _ _=>V.ixR A9 z z (j:=0) z (A7.bd G ar))<|Tv z (Val.XA fun _ _ _=>V.ldR D7 z (j:=0) z av z)<|bE H fun au aw H=>?_
  obtain ⟨ct,az,⟨ax,rfl,ay⟩⟩:=F8.at ao aw
  refine Tv z (V.ix J9 z z ao (E9 aw))<|Tv z (V.S9 E5 z az.u z)<|Tm z z<|TL z z z z A4v U1 an.u z<|Tm z z<|bE H fun cu aA H=>?_
  obtain ⟨cw,ba,rfl⟩:=A7.get G aA
  refine Tv z (Val.XA fun _ _ _=>V.ixR A9 z z (j:=0) z (A7.bd G aA))<|Tv z (Val.XA fun _ _ _=>V.ldR D7 z (j:=0) z ba z)<|bE H fun aB aC H=>?_
  obtain ⟨cx,bb,⟨aD,rfl,aE⟩⟩:=F8.at aq aC
  refine Tv z (V.ix J9 z z aq (E9 aC))<|Tv z (V.S9 E5 z bb.u z)<|Tm z z<|Tp z z (X3 [0] [0] z z) (O.bs J9 A1I z (e:=z) (hk:=z) (xs:=[.tmp 31,.tmp 40]) (hv:=CO.eq (CO.cons (F8.cells ay) (CO.cons (F8.cells aE) CO.nil))) (hw:=O3.of z) (hd:=z) fun cy=>?_) T.P5
  have bc:A7 (VSl (VI .i64) 1) a8 [[ax],[aD]] ([au,aB]:List (List Int)):=(A7.cons ⟨ax,z,ay.u⟩ (A7.cons ⟨aD,z,aE.u⟩ A7.nil))
  refine T.K5 fun cA cB be=>have Y:=A7.slc be bc.u; T.O1 Li<|Tv z (V.Q3 J9 z Y)<|T.O7 (X3 [0] [0] z z)<|Th<|T.A0L ?_
  obtain ⟨bf,bg,bi⟩:=K4 H
  have H:=bg
  refine Bl<|Fr_ 1 z<|T.lk [0,41,42] (FUEL,(0:Int),s,w,x,i,y,A) (fun ⟨I,J,m,B,n,c,C,d⟩=>([(43,qi J),(5,.map (some n)),(6,C)],blk n (.map c.toArray c.length)::F5 3 1 C d::L,fun hh=>iter (A7H au aB) I (J,m,B)=some bf∧X7 (Value.int .i64) false (VI .i64) hh 0 c m∧A7 (VI .i64) hh d B)) ⟨H,ak.u,G.u⟩ ?_
  rintro ⟨I,J,m,B,n,c,C,d⟩ bj cC ⟨bk,aG,Z⟩
  obtain ⟨bm,cD,rfl,H,aI⟩:=G8 bk
  refine T.norm [43,5,6,0,41,42] z<|T.fl ?_
  refine Sr<|Wl z z<|Nt<|Sq<|T.cH H z (fun H=>?_) fun H=>?_
  ·refine Ks<|Sq<|Bl<|Sr<|bE H fun bn aJ H=>?_
   obtain ⟨cE,bo,⟨cG,rfl,aa⟩⟩:=F8.at Y aJ
   refine Vv (V.ix J9 z z Y (E9 aJ))<|Vv (V.S9 E5 z bo.u z)<|An z<|Sm z<|Vv (V.Q3 A9 z aa)<|Mv z<|Nt<|T.A0L ?_
   obtain ⟨bp,bq,br⟩:=K4 H
   have H:=bq
   refine Bl<|T.lk [0,41,42,43,47,48] (FUEL,(0:Int),m,B,n,c,C,d) (fun ⟨K,M,o,p,a,f,q,b⟩=>([(49,qi M),(5,.map (some a)),(6,q)],blk a (.map f.toArray f.length)::F5 3 1 q b::L,fun hh=>iter (A7K bn) K (M,o,p)=some bp∧X7 (Value.int .i64) false (VI .i64) hh 0 f o∧A7 (VI .i64) hh b p)) ⟨H,aG,Z⟩ ?_
   rintro ⟨K,M,o,p,a,f,q,b⟩ U cI ⟨bt,P,N⟩
   obtain ⟨aK,cJ,rfl,H,ab⟩:=G8 bt
   refine T.norm [49,5,6,0,41,42,43,47,48] z<|T.fl ?_
   refine Sr<|Wl z z<|Nt<|Sq<|T.cH H z (fun H=>?_) fun H=>?_
   ·refine Ks<|Sq<|Bl<|Sr<|bE H fun aM aN H=>?_
    obtain ⟨cK,bu,rfl⟩:=F8.at aa aN
    refine Vv (V.ix A9 z z aa (E9 aN))<|Vv (V.S9 D7 z bu.u z)<|An z<|Sm z<|Mv z<|bE H fun ⟨cM,cN⟩ bw H=>?_
    obtain ⟨_,bx,rfl⟩:=X7.lookO (r:=a) (zc:=[qi 0]) (agg:=false) underlying112 (A0u.int underlying3) K8 (show (VI .i64) U [qi 0] (0:Int) from rfl) P bw
    refine Vv (V.lkO z z (j:=0) z bx)<|Mv z<|Wx z z<|Wx z z<|Ag z<|An z<|Sm z<|Vv (V.not z)<|Nt<|T.cH H z (fun H=>?_) fun H=>?_
    ·refine Sm z<|Mv z<|Mv z<|Mv z<|bE H fun cO aO H=>?_
     obtain ⟨cP,bA,rfl⟩:=A7.get N aO
     refine Vv (V.ixR A9 z z (j:=1) z (A7.bd N aO))<|Vv (V.ldR D7 z (j:=1) z bA z)<|bE H fun ⟨cS,cU⟩ bB H=>?_
     obtain ⟨_,bC,rfl⟩:=X7.lookO (r:=a) (zc:=[qi 0]) (agg:=false) underlying112 (A0u.int underlying3) K8 (show (VI .i64) U [qi 0] (0:Int) from rfl) P bB
     refine Vv (V.D2X z z (j:=0) z bC)<|bE H fun ac bD H=>Vv (V.H8 z z bD)<|bE H fun bG bI H=>To (O.A9R (agg:=false) (E:=(VI .i64)) (cs:=[qi ac]) underlying112 (A0u.int underlying3) z z z (j:=0) z P (show (VI .i64) U [qi ac] ac from z) _ (.inl z) fun bJ aP=>?_)
     rw [Option.some.inj bI] at aP
     refine Nt<|Rg<|Mv z<|Mv z<|To (O.b1 (E:=VI .i64) A9 K8 z z z z z fun cV ad=>bE H fun aS aU H=>To (O.apX A9 A9 K8 z z z (j:=2) z (Src.row (j:=0) z) (O3.of z) (A7.ones VI.plain ad) N ad aU z fun bK cW cX=>have bM:A7 (VI .i64) U (b ++ [[qi aM]]) aS:=A7.ap N ad aU; T.fl ?_))
     refine T.fs [1] ?_
     refine T.drop<|Ag z<|Ni<|Bn<|Th<|Rg<|bE H fun bN bO H=>Vv (V.H8 z z bO)<|Mv z<|Nt<|Fr_ 1 z<|T.ag (aK,bN,bG,aS,a,bJ,bK,(b ++ [[qi aM]])) ⟨(D8 H ab),aP,bM⟩
    refine T.skip<|Bn<|Th<|Rg<|bE H fun bP bS H=>Vv (V.H8 z z bS)<|Mv z<|Nt<|T.ag (aK,bP,o,p,a,f,q,b) ⟨(D8 H ab),P,N⟩
   refine T.exit<|Te<|Te<|have H:=D6 H ab; Be<|Th<|have H:=I7 H br; Bn<|Th<|Rg<|bE H fun bU bV H=>Vv (V.H8 z z bV)<|Mv z<|Nt<|T.ag (bm,bU,o,p,a,f,q,b) ⟨(D8 H aI),P,N⟩
  refine T.exit<|Te<|Te<|have H:=D6 H aI; Be<|Th<|have H:=I7 H bi; Bn<|Th<|Rg<|Mv z<|bE H fun aV aW H=>To (O.slR A9 z z (j:=1) z (A7.slb Z aW) z fun bW=>have bX:A7 (VI .i64) bj (List.drop (1:Int).toNat d) aV:=A7.sl Z aW; An z<|Fr_ 1 z<|T.ag (ah,m,aV,n,c,bW,(List.drop (1:Int).toNat d)) ⟨(D8 H am),aG,bX⟩)
 refine T.exit<|Te<|Te<|have H:=D6 H am; Be<|Th<|have H:=I7 H a7; Sm z<|Ag z<|Nr<|Fr_ 1 z<|T.drop ?_
 cases H
 exact T.rl z (Rv z) ⟨_,_,z,z,ak⟩
theorem B5t {h a b c} (d:Pt Z7 h a b) (H:A5J b=some c):∀ L,FnW prog 123 [a] h L (.bool c):=by
 intro L
 refine J6.enter func123 z z z<|Sr<|An z<|Sm z<|have e:=d; ?_
 obtain ⟨j,_,rfl,f,⟨m,n,o,p,q,r,s,t,u,w,x,y,A,B,rfl,C,D,E,G,I,g,J,K,M,N,O,P,S,U⟩⟩:=e
 refine Vv (V.D0G underlying49 z)<|Mv z<|Mv z<|NL z B5m B9F f z<|have i:=g; ?_
 obtain ⟨W,_,rfl,_⟩:=i
 exact Vv (V.D2D underlying98 z)<|Kf z<|Ag z<|Nr<|E1 H
theorem C4Q {h bh af bl bv bz} (dp:O8 h bh af) (H:A6R af=some (bl,bv,bz)):∀ L,J6 prog 12 [.agg bh.toArray] h (L) (fun v h' L'=>∃ ca,v=.tuple #[ca,.int .i64 bv,.int .i64 bz]∧L'=L∧OPt Z7 h' ca bl):=by
 intro L
 obtain ⟨bc,av,az,bd,be,rfl,P,G,aY,bf,bg⟩:=dp
 refine J6.enter func12 z z z<|Sr<|To (O.U5 z z z fun bi gl gv y=>Ag z<|Ag z<|An z<|Sq<|Sr<|Vv (V.ldS z y (by exact J4)) ?_)
 refine bE H fun ⟨gz,ia⟩ dq H=>To (O.cs (A5j ⟨bc,av,az,bd,be,z,P.u,G.u,aY.u,bf.u,bg.u⟩ dq _) fun ic ie=>Mv z<|Wx z z<|Wx z z<|Ag z<|An z<|Sm z<|Wn z z<|Nt<|T.cH H z (fun H=>?_) fun H=>?_)
 ·refine Sm z<|Mv z<|Ag z<|Ag z<|Ag z<|Nr<|Tr ?_
  cases H
  exact T.rl z (RVs.cons (RV.tmp z) (RVs.cons (RV.tmp z) (Rv z))) ⟨_,z,z,OPt.nil⟩
 refine Ks<|Sr<|Vv (V.ldS z y.u (by exact J4)) ?_
 refine bE H fun dt du H=>To (O.G9 z (A9K ⟨bc,av,az,bd,be,z,P.u,G.u,aY.u,bf.u,bg.u⟩ du _) z fun ig ii ij ik dw=>?_)
 obtain ⟨ax,ay,aA,aB,aC,rfl,dx,cb,cc,cd,ce,cf⟩:=dw
 refine P7 _ dx<|bE H fun dy dA H=>To (O.G9 z (B5f dA _) z fun aD ba im io dB=>?_)
 obtain ⟨dC,bw⟩:=dB
 refine P7 _ dC<|Vv (V.bld (xs:=[(0,.tmp 34),(1,.tmp 35)]) (cs:=[_,_,_,_,_,_,_,_,_,_,_,_,_,_]) C4q C4s z (F4.cons z z z (F4.cons z (Mp.cells bw) z F4.nil)))<|To (O.box z z z fun bb=>An z<|Sq<|Sr<|Vv (V.fa N7 z)<|Vv (V.M5 (k:=0) Q0 z y.u z)<|Vv (V.Q3 O6 z P)<|Mv z<|Nt ?_)
 obtain ⟨dD,dE,dG⟩:=K4 H
 have H:=dE
 refine Bl<|T.R4 3 1<|have dI:A7 (VI .i64) ba [] ([]:List Int):=A7.nil; T.R4 3 1<|have dJ:A7 (VI .i64) ba [] ([]:List Int):=A7.nil; T.R4 4 1<|have dK:A7 VB ba [] ([]:List Bool):=A7.nil; T.R4 30 1<|have dM:A7 (VSl (VI .i64) 1) ba [] ([]:List (List Int)):=A7.nil; T.R4 30 1<|have dN:A7 (VSl (VI .i64) 1) ba [] ([]:List (List Int)):=A7.nil; T.fs [1,2,3,4,5] ?_
 refine T.lk [1,7,40] (FUEL,([]:List Int),([]:List Int),([]:List Bool),([]:List (List Int)),([]:List (List Int)),(0:Int),(qs),[],(qs),[],(qs),[],(qs),[],(qs),[]) (fun ⟨aZ,ai,aj,ak,am,an,S,p,J,o,I,f,A,d,w,b,s⟩=>([(41,qi S)],blk bb (.cells [ax,ay,aA,aB,aC,aD,p,o,f,d,b,qs,qs,qs].toArray 105)::F5 3 1 p J::F5 3 1 o I::F5 4 1 f A::F5 30 1 d w::F5 30 1 b s::L,fun hh=>iter (A5X af) aZ (ai,aj,ak,am,an,S)=some dD∧A7 (VI .i64) hh J ai∧A7 (VI .i64) hh I aj∧A7 VB hh A ak∧A7 (VSl (VI .i64) 1) hh w am∧A7 (VSl (VI .i64) 1) hh s an)) ⟨H,dI,dJ,dK,dM,dN⟩ ?_
 rintro ⟨aZ,ai,aj,ak,am,an,S,p,J,o,I,f,A,d,w,b,s⟩ dO ip ⟨dP,bj,bx,bA,bB,bC⟩
 obtain ⟨dS,iq,rfl,H,cg⟩:=G8 dP
 refine T.norm [41,1,7,40] z<|T.fl ?_
 refine Sr<|Wl z z<|Nt<|Sq<|T.cH H z (fun H=>?_) fun H=>?_
 ·refine Ks<|Sq<|Bl<|Sm z<|An z<|Sr<|Vv (V.fa N7 z)<|Vv (V.M5 (k:=0) Q0 z y.u z)<|Mv z<|bE H fun bD dU H=>To (O.cs (A4U P.u dU _) fun dV iu=>An z<|Sr<|Vv (V.fa N7 z)<|Vv (V.M5 (k:=0) Q0 z y.u z)<|Mv z<|Mv z<|bE H fun iw dY H=>Vv (V.H8 z z dY)<|bE H fun dZ ci H=>T.slM z O6 z P.u (.inr ⟨_,_,z,z⟩) (.inr ⟨_,_,z,z⟩) (A3K ci).2 z fun d0 d1 iy=>?_)
  have d2:F8 I6 7 dV d0 dZ:=by rw [(A3K ci).1]; exact d1
  refine bE H fun d3 d4 H=>To (O.cs (A7X d2 d4 _) fun iB iD=>An z<|Sm z<|To (O.alloc K8 z z fun d7=>To (O.stF (vs:=[qi bD]) D7 z z (j:=0) z z z z<|T.fl ?_)))
  refine Nt<|T.A0L ?_
  obtain ⟨d8,d9,dh⟩:=K4 H
  have H:=d9
  refine Bl<|T.fs [6,6,6,6,6,6] ?_
  refine T.lk [1,7,8,9,10,40,41] (FUEL,ai,aj,ak,am,an,bD,p,J,o,I,f,A,d,w,b,s,d7) (fun ⟨a0,aE,aG,aI,aJ,aK,B,aM,U,aN,W,aO,X,aP,Y,aS,Z,M⟩=>([(11,qp M)],blk bb (.cells [ax,ay,aA,aB,aC,aD,aM,aN,aO,aP,aS,qs,qs,qs].toArray 105)::F5 3 1 aM U::F5 3 1 aN W::F5 4 1 aO X::F5 30 1 aP Y::F5 30 1 aS Z::blk M (.cells [qi B].toArray 3)::L,fun hh=>iter (B0u af S bD d3) a0 (aE,aG,aI,aJ,aK,B)=some d8∧A7 (VI .i64) hh U aE∧A7 (VI .i64) hh W aG∧A7 VB hh X aI∧A7 (VSl (VI .i64) 1) hh Y aJ∧A7 (VSl (VI .i64) 1) hh Z aK)) ⟨H,bj.u,bx.u,bA.u,bB.u,bC.u⟩ ?_
  rintro ⟨a0,aE,aG,aI,aJ,aK,B,aM,U,aN,W,aO,X,aP,Y,aS,Z,M⟩ dl iE ⟨dv,bG,bI,bJ,bK,bM⟩
  obtain ⟨dz,iG,rfl,H,cj⟩:=G8 dv
  refine T.norm [11,1,7,8,9,10,40,41] z<|T.fl ?_
  refine Sq<|Sr<|Vv (V.A8Z D7 z (j:=6) z z)<|Mv z<|Mv z<|bE H fun iI ea H=>Vv (V.H8 z z ea)<|Wl z z<|Nt<|T.cH H z (fun H=>?_) fun H=>?_
  ·refine Ks<|Sq<|Bl<|Sm z<|Mv z<|NF z U7<|Vv (V.ldO (k:=6) E5 z (j:=0) z z)<|Mv z<|To (O.b1 (E:=VI .i64) A9 K8 z z z z z fun iJ bN=>bE H fun ck cm H=>To (O.apX A9 A9 K8 z z z (j:=2) z (Src.row (j:=0) z) (O3.of z) (A7.ones VI.plain bN) bG bN cm z fun cn iK iM=>have eb:A7 (VI .i64) dl (U ++ [[qi S]]) ck:=A7.ap bG bN cm; T.fl ?_))
   refine T.fs [1] ?_
   refine T.drop<|NF z U7<|T.Q9 0 z fun ec ed=>To (O.st (vs:=[cn]) (k:=6) E5 z z (j:=1) z ed (by (simp only [BT,ec]) <;> rfl) ?_)
   refine T.fl ?_
   refine Nt<|Sq<|T.fs [2,1,6] ?_
   refine T.N8 (t:=(.vs [0,1,2,3] (.x 4 (.vs [5,6,7] (.alt 8 (.g (.alt 9 (.alt 10 (.g (.v 11 (.v 12 (.alt 13 .done .no)))) .no) .no)) .no))))) 10 3 1 z z I5 (by kernel_rfl) ?_
   refine Tm z z<|Tm z z<|TF z z z A8U<|T.tx z z (Val.XA fun _ _ _=>V.ldO (k:=7) E5 z (j:=1) z z) z Calm.i<|Tv z (V.fa N7 z)<|Tv z (V.M5 (k:=0) Q0 z y.u z)<|Tv z (Val.XA fun _ _ _=>V.A8Z D7 z (j:=0) z z)<|bE H fun bk ee H=>Tp z z (X3 [0] [2,2,2] z z) (O.G9 z (C1k P.u ee _) z fun iN co iO iP ef=>?_) T.P5
   obtain ⟨rfl,eg⟩:=ef
   refine P7 _ eg<|T.O1 Li<|Tp z z (X3 [0] [2,2,2] z z) (O.bs A9 K8 z (e:=z) (hk:=z) (xs:=[.tmp 81]) (hv:=CO.eq (CO.cons z CO.nil)) (hw:=O3.of z) (hd:=z) fun iS=>?_) T.P5
   have bO:A7 (VI .i64) co [[qi bk]] ([bk]:List Int):=(A7.cons z A7.nil)
   refine bE H fun cp cq H=>Tp z z (X3 [1] [3,3,3] z z) (O.apX A9 A9 K8 z z z (j:=3) z (Src.row (j:=0) z) (O3.of z) (A7.ones VI.plain bO) bI.u bO cq z fun cr iU iV=>?_) T.P5
   have ei:A7 (VI .i64) co (W ++ [[qi bk]]) cp:=A7.ap bI.u bO cq
   refine T.fl ?_
   refine T.fs [1] ?_
   refine T.drop<|T.O1 Lr<|TF z z z A8U<|T.Q9 0 z fun ej ek=>Tp z z (SX.one (XA.fr [1] Lr z) z) (O.st (vs:=[cr]) (k:=7) E5 z z (j:=2) z ek (by (simp only [BT,ej]) <;> rfl) ?_) T.P5
   refine T.fl ?_
   refine T.O7 (SX.one (XA.fr [2] Lr z) z)<|Th<|Sq<|T.fs [4,1,3] ?_
   refine T.N8 (t:=(.vs [0,1,2,3] (.x 4 (.vs [5,6,7] (.alt 8 (.g (.alt 9 (.alt 10 (.g (.v 11 (.v 12 (.alt 13 .done .no)))) .no) .no)) .no))))) 10 3 1 z z I5 (by kernel_rfl) ?_
   refine Tm z z<|Tm z z<|TF z z z B2g<|T.tx z z (Val.XA fun _ _ _=>V.ldO (k:=8) B2q z (j:=1) z z) z Calm.i<|Tv z (V.fa N7 z)<|Tv z (V.M5 (k:=0) Q0 z y.u z)<|Tv z (Val.XA fun _ _ _=>V.A8Z D7 z (j:=0) z z)<|bE H fun bm em H=>Tp z z (X3 [0] [2,2,2] z z) (O.G9 z (C3s P.u em _) z fun iW ct iX iY en=>?_) T.P5
   obtain ⟨rfl,eo⟩:=en
   refine P7 _ eo<|T.O1 Li<|Tp z z (X3 [0] [2,2,2] z z) (O.bs A1m A9m z (e:=z) (hk:=z) (xs:=[.tmp 94]) (hv:=CO.eq (CO.cons z CO.nil)) (hw:=O3.of z) (hd:=z) fun iZ=>?_) T.P5
   have bP:A7 VB ct [[.bool bm]] ([bm]:List Bool):=(A7.cons z A7.nil)
   refine bE H fun cu cw H=>Tp z z (X3 [1] [3,3,3] z z) (O.apX A1m A1m A9m z z z (j:=3) z (Src.row (j:=0) z) (O3.of z) (A7.ones VB.plain bP) bJ.u bP cw z fun cx i0 i1=>?_) T.P5
   have ep:A7 VB ct (X ++ [[.bool bm]]) cu:=A7.ap bJ.u bP cw
   refine T.fl ?_
   refine T.fs [1] ?_
   refine T.drop<|T.O1 Lr<|TF z z z B2g<|T.Q9 0 z fun er es=>Tp z z (SX.one (XA.fr [1] Lr z) z) (O.st (vs:=[cx]) (k:=8) B2q z z (j:=2) z es (by (simp only [BT,er]) <;> rfl) ?_) T.P5
   refine T.fl ?_
   refine T.O7 (SX.one (XA.fr [2] Lr z) z)<|Th<|Sq<|T.norm [1,7,8,9,10,11,40,41] z<|T.fl ?_
   refine T.fs [2] ?_
   refine T.C0A fun et i2 bS=>T.fs [4,1] ?_
   refine T.N8 (t:=(.vs [0,1,2,3] (.x 4 (.vs [5,6,7] (.alt 8 (.g (.alt 9 (.alt 10 (.g (.v 11 (.v 12 (.alt 13 .done .no)))) .no) .no)) .no))))) 10 2 0 z z I5 (by kernel_rfl) ?_
   refine Tm z z<|Tm z z<|TF z z z A2h<|T.tx z z (Val.XA fun _ _ _=>V.ldO (k:=9) U1 z (j:=0) z z) z Calm.i<|Tm z z<|Tm z z<|Tv z (V.mkf z z)<|bE H fun eu ew H=>Tp z z (X3 [] [1,1] z z) (O.G9 z (B4Q (show A2z et (.func (.func 48) #[] #[qp bi,qp M]) (fun bU=>B0d bU af B) from ⟨⟨z,z⟩,.inr ⟨48,[],[qp bi,qp M],z,fun ex i3 i4 i5 ey eA=>C1h y.u ⟨bc,av,az,bd,be,z,P.u,G.u,aY.u,bf.u,bg.u⟩ bS.u (show (VI .i64) ex [qi B] B from z) ey eA⟩⟩) ew _) z fun bn i6 i7 i8 eB=>?_) T.P5
   obtain ⟨i9,eC,eD⟩:=eB
   refine P7 _ eC<|T.O1 Li<|T.K5 fun bV ih eE=>have cy:=A7.slc eE eD.u; Tp z z (SX.two (XA.fr [] Li z) (XA.fr [1,1] Li z)) (O.bs J9 A1I z (e:=z) (hk:=z) (xs:=[.tmp 107]) (hv:=CO.eq (CO.cons (F8.cells cy) CO.nil)) (hw:=O3.of z) (hd:=z) fun il=>?_) T.P5
   have bW:A7 (VSl (VI .i64) 1) bV [[bn]] ([eu]:List (List Int)):=(A7.cons ⟨bn,z,cy⟩ A7.nil)
   refine bE H fun cA cB H=>Tp z z (SX.two (XA.fr [] Li z) (XA.fr [2,2] Li z)) (O.apX J9 J9 A1I z z z (j:=2) z (Src.row (j:=0) z) (O3.of z) (A7.ones VSl.plain bW) bK.u bW cB z fun cC iv iz=>?_) T.P5
   have eG:A7 (VSl (VI .i64) 1) bV (Y ++ [[bn]]) cA:=A7.ap bK.u bW cB
   refine T.fl ?_
   refine T.fs [1] ?_
   refine T.drop<|T.O1 Li<|TF z z z A2h<|T.Q9 0 z fun eI eJ=>Tp z z (SX.one (XA.fr [] Lr z) z) (O.st (vs:=[cC]) (k:=9) U1 z z (j:=1) z eJ (by (simp only [BT,eI]) <;> rfl) ?_) T.P5
   refine T.fl ?_
   refine T.O7 (SX.one (XA.fr [] Lr z) z)<|Th<|T.fs [5,1] ?_
   refine T.N8 (t:=(.vs [0,1,2,3] (.x 4 (.vs [5,6,7] (.alt 8 (.g (.alt 9 (.alt 10 (.g (.v 11 (.v 12 (.alt 13 .done .no)))) .no) .no)) .no))))) 10 2 0 z z I5 (by kernel_rfl) ?_
   refine Tm z z<|Tm z z<|TF z z z A4v<|T.tx z z (Val.XA fun _ _ _=>V.ldO (k:=10) U1 z (j:=0) z z) z Calm.i<|Tm z z<|Tm z z<|Tv z (V.mkf z z)<|bE H fun eK eM H=>Tp z z (X3 [] [1,1] z z) (O.G9 z (B4Q (show A2z bV (.func (.func 50) #[] #[qp bi,qp M]) (fun bU=>A9Z bU af B) from ⟨⟨z,z⟩,.inr ⟨50,[],[qp bi,qp M],z,fun eN ja jb jc eO eP=>C0W y.u ⟨bc,av,az,bd,be,z,P.u,G.u,aY.u,bf.u,bg.u⟩ bS.u (show (VI .i64) eN [qi B] B from z) eO eP⟩⟩) eM _) z fun bo jd je jf eS=>?_) T.P5
   obtain ⟨jg,eU,eV⟩:=eS
   refine P7 _ eU<|T.O1 Li<|T.K5 fun cD ji eW=>have cE:=A7.slc eW eV.u; Tp z z (SX.two (XA.fr [] Li z) (XA.fr [1,1] Li z)) (O.bs J9 A1I z (e:=z) (hk:=z) (xs:=[.tmp 120]) (hv:=CO.eq (CO.cons (F8.cells cE) CO.nil)) (hw:=O3.of z) (hd:=z) fun jj=>?_) T.P5
   have bX:A7 (VSl (VI .i64) 1) cD [[bo]] ([eK]:List (List Int)):=(A7.cons ⟨bo,z,cE⟩ A7.nil)
   refine bE H fun cG cI H=>Tp z z (SX.two (XA.fr [] Li z) (XA.fr [2,2] Li z)) (O.apX J9 J9 A1I z z z (j:=2) z (Src.row (j:=0) z) (O3.of z) (A7.ones VSl.plain bX) bM.u bX cI z fun cJ jk jm=>?_) T.P5
   have eX:A7 (VSl (VI .i64) 1) cD (Z ++ [[bo]]) cG:=A7.ap bM.u bX cI
   refine T.fl ?_
   refine T.fs [1] ?_
   refine T.drop<|T.O1 Li<|TF z z z A4v<|T.Q9 0 z fun eY eZ=>Tp z z (SX.one (XA.fr [] Lr z) z) (O.st (vs:=[cJ]) (k:=10) U1 z z (j:=1) z eZ (by (simp only [BT,eY]) <;> rfl) ?_) T.P5
   refine T.fl ?_
   refine T.O7 (SX.one (XA.fr [] Lr z) z)<|Bn<|Th<|Sq<|Sr<|Vv (V.S9 D7 z bS.u z)<|Nt<|Rg<|To (O.alloc K8 z z fun e0=>To (O.stF (vs:=[qi B]) D7 z z (j:=0) z z z z<|T.fl ?_))
   refine Nt<|T.norm [1,7,8,9,10,11,40,41] z<|T.fl ?_
   refine Rg<|Vv (V.A8Z D7 z (j:=0) z z)<|bE H fun cK e1 H=>Vv (V.H8 z z e1)<|To (O.stF (vs:=[qi cK]) D7 z z (j:=0) z z z z<|T.fl ?_)
   refine Nt<|T.fs [2,3,4,5,6,6] ?_
   exact T.ag (dz,ck,cp,cu,cA,cG,cK,cn,(U ++ [[qi S]]),cr,(W ++ [[qi bk]]),cx,(X ++ [[.bool bm]]),cC,(Y ++ [[bn]]),cJ,(Z ++ [[bo]]),e0) ⟨(D8 H cj),eb.u,ei.u,ep.u,eG.u,eX⟩
  refine T.exit<|Te<|Te<|have H:=D6 H cj; Be<|Th<|have H:=I7 H dh; Bn<|Th<|Rg<|bE H fun e2 e3 H=>Vv (V.H8 z z e3)<|Mv z<|Nt<|T.fs [6] ?_
  refine T.drop<|T.ag (dS,aE,aG,aI,aJ,aK,e2,aM,U,aN,W,aO,X,aP,Y,aS,Z) ⟨(D8 H cg),bG,bI,bJ,bK,bM⟩
 refine T.exit<|Te<|Te<|have H:=D6 H cg; Be<|Th<|have H:=I7 H dG; Sq<|Sm z<|NF z U7<|Vv (V.ldO (k:=6) E5 z (j:=0) z z)<|Vv (V.A4x A9 z (j:=1) z bj.len)<|Mv z<|Nt ?_
 obtain ⟨e4,e5,e6⟩:=K4 H
 have H:=e5
 refine Bl<|T.R4 112 1<|have e7:A7 (VMp (Value.int .i64) false (VI .i64)) dO [] ([]:List (List (Int×Int))):=A7.nil; T.fs [6,6,6,6,6,6] ?_
 refine T.lk [1,7,131] (FUEL,([]:List (List (Int×Int))),(0:Int),(qs),[]) (fun ⟨a1,a2,a3,m,q⟩=>([(132,qi a3)],blk bb (.cells [ax,ay,aA,aB,aC,aD,p,o,f,d,b,m,qs,qs].toArray 105)::F5 3 1 p J::F5 3 1 o I::F5 4 1 f A::F5 30 1 d w::F5 30 1 b s::F5 112 1 m q::L,fun hh=>iter (A6f dt dy ai aj ak am an) a1 (a2,a3)=some e4∧A7 (VMp (Value.int .i64) false (VI .i64)) hh q a2)) ⟨H,e7⟩ ?_
 rintro ⟨a1,a2,a3,m,q⟩ jn jo ⟨e8,bp⟩
 obtain ⟨e9,jp,rfl,H,cM⟩:=G8 e8
 refine T.norm [132,1,7,131] z<|T.fl ?_
 refine Sr<|Wl z z<|Nt<|Sq<|T.cH H z (fun H=>?_) fun H=>?_
 ·refine Ks<|Sq<|Bl<|Sm z<|An z<|T.fs [6,1,6,6,6,6,6] ?_
  refine T.N8 (t:=(.vs [0,1,2,3] (.x 4 (.v 5 (.v 6 (.alt 7 (.g (.alt 8 (.alt 9 (.g (.v 10 (.v 11 (.alt 12 .done .no)))) .no) .no)) .no)))))) 9 7 5 z z I5 (by kernel_rfl) ?_
  refine Tm z z<|Tm z z<|TF z z z B1Y<|T.tx z z (Val.XA fun _ _ _=>V.ldO (k:=11) B5J z (j:=5) z z) z Calm.i<|Tm z z<|Tm z z<|T.fs [6,5,5,5,5,5,6] ?_
  refine bE H fun ao eh H=>Tp z z (X3 [5,5,5,5,5] [6,1,6,6,6,6,6] z z) (O.G9 z (J6.B1l (R:=fun v h' L'=>∃ L1_,L'=F5 3 1 p J::L1_∧(∃ L2_,L1_=F5 3 1 o I::L2_∧(∃ L3_,L2_=F5 4 1 f A::L3_∧(∃ L4_,L3_=F5 30 1 d w::L4_∧(∃ L5_,L4_=F5 30 1 b s::L5_∧(∃ L6_,L5_=F5 112 1 m q::L6_∧(∃ (c:Nat) (a:List MapEntry),v=.map (some c)∧L6_=blk c (.map a.toArray a.length)::L∧X7 (Value.int .i64) false (VI .i64) h' 0 a ao))))))) func52 z (fun _ _ _ _ ⟨a5_,b5_,⟨a4_,b4_,⟨a3_,b3_,⟨a2_,b2_,⟨a1_,b1_,⟨a0_,b0_,⟨e_0,e_1,v_,l_,f_0⟩⟩⟩⟩⟩⟩⟩=>⟨a5_,b5_,⟨a4_,b4_,⟨a3_,b3_,⟨a2_,b2_,⟨a1_,b1_,⟨a0_,b0_,⟨e_0,e_1,v_,l_,(X7.free VI.free f_0)⟩⟩⟩⟩⟩⟩⟩) C6w fun jq jr el=>J6.B1l (R:=fun v h' L'=>∃ L1_,L'=F5 3 1 o I::L1_∧(∃ L2_,L1_=F5 4 1 f A::L2_∧(∃ L3_,L2_=F5 30 1 d w::L3_∧(∃ L4_,L3_=F5 30 1 b s::L4_∧(∃ L5_,L4_=F5 112 1 m q::L5_∧(∃ (c:Nat) (a:List MapEntry),v=.map (some c)∧L5_=blk c (.map a.toArray a.length)::L∧X7 (Value.int .i64) false (VI .i64) h' 0 a ao)))))) func52 z (fun _ _ _ _ ⟨a4_,b4_,⟨a3_,b3_,⟨a2_,b2_,⟨a1_,b1_,⟨a0_,b0_,⟨e_0,e_1,v_,l_,f_0⟩⟩⟩⟩⟩⟩=>⟨a4_,b4_,⟨a3_,b3_,⟨a2_,b2_,⟨a1_,b1_,⟨a0_,b0_,⟨e_0,e_1,v_,l_,(X7.free VI.free f_0)⟩⟩⟩⟩⟩⟩) A1N fun js jt ev=>J6.B1l (R:=fun v h' L'=>∃ L1_,L'=F5 4 1 f A::L1_∧(∃ L2_,L1_=F5 30 1 d w::L2_∧(∃ L3_,L2_=F5 30 1 b s::L3_∧(∃ L4_,L3_=F5 112 1 m q::L4_∧(∃ (c:Nat) (a:List MapEntry),v=.map (some c)∧L4_=blk c (.map a.toArray a.length)::L∧X7 (Value.int .i64) false (VI .i64) h' 0 a ao))))) func52 z (fun _ _ _ _ ⟨a3_,b3_,⟨a2_,b2_,⟨a1_,b1_,⟨a0_,b0_,⟨e_0,e_1,v_,l_,f_0⟩⟩⟩⟩⟩=>⟨a3_,b3_,⟨a2_,b2_,⟨a1_,b1_,⟨a0_,b0_,⟨e_0,e_1,v_,l_,(X7.free VI.free f_0)⟩⟩⟩⟩⟩) A1N fun ju jw ez=>J6.B1l (R:=fun v h' L'=>∃ L1_,L'=F5 30 1 d w::L1_∧(∃ L2_,L1_=F5 30 1 b s::L2_∧(∃ L3_,L2_=F5 112 1 m q::L3_∧(∃ (c:Nat) (a:List MapEntry),v=.map (some c)∧L3_=blk c (.map a.toArray a.length)::L∧X7 (Value.int .i64) false (VI .i64) h' 0 a ao)))) func52 z (fun _ _ _ _ ⟨a2_,b2_,⟨a1_,b1_,⟨a0_,b0_,⟨e_0,e_1,v_,l_,f_0⟩⟩⟩⟩=>⟨a2_,b2_,⟨a1_,b1_,⟨a0_,b0_,⟨e_0,e_1,v_,l_,(X7.free VI.free f_0)⟩⟩⟩⟩) A1N fun jx jy fb=>J6.B1l (R:=fun v h' L'=>∃ L1_,L'=F5 30 1 b s::L1_∧(∃ L2_,L1_=F5 112 1 m q::L2_∧(∃ (c:Nat) (a:List MapEntry),v=.map (some c)∧L2_=blk c (.map a.toArray a.length)::L∧X7 (Value.int .i64) false (VI .i64) h' 0 a ao))) func52 z (fun _ _ _ _ ⟨a1_,b1_,⟨a0_,b0_,⟨e_0,e_1,v_,l_,f_0⟩⟩⟩=>⟨a1_,b1_,⟨a0_,b0_,⟨e_0,e_1,v_,l_,(X7.free VI.free f_0)⟩⟩⟩) A1N fun jA jB fc=>J6.B1l (R:=fun v h' L'=>∃ L1_,L'=F5 112 1 m q::L1_∧(∃ (c:Nat) (a:List MapEntry),v=.map (some c)∧L1_=blk c (.map a.toArray a.length)::L∧X7 (Value.int .i64) false (VI .i64) h' 0 a ao)) func52 z (fun _ _ _ _ ⟨a0_,b0_,⟨e_0,e_1,v_,l_,f_0⟩⟩=>⟨a0_,b0_,⟨e_0,e_1,v_,l_,(X7.free VI.free f_0)⟩⟩) A1N fun jC jD fd=>J6.B1l (R:=fun v h' L'=>∃ (c:Nat) (a:List MapEntry),v=.map (some c)∧L'=blk c (.map a.toArray a.length)::L∧X7 (Value.int .i64) false (VI .i64) h' 0 a ao) func52 z (fun _ _ _ _ ⟨e_0,e_1,v_,l_,f_0⟩=>⟨e_0,e_1,v_,l_,(X7.free VI.free f_0)⟩) A1N fun jE jG fe=>?_) z fun jI jJ jK jM ff=>?_) T.P5
  ·have fg:=A7.slc ev bj.u
   have fi:=A7.slc ez bx.u
   have fj:=A7.slc fb bA.u
   have fk:=A7.slc fc bB.u
   have fm:=A7.slc fd bC.u
   have fn:=A7.slc fe bp.u
   exact C1L (Pt.mk el.u ⟨ax,ay,aA,aB,aC,aD,p,o,f,d,b,m,(qs),(qs),z,cb.u,cc.u,cd.u,ce.u,cf.u,bw.u,fg.u,fi.u,fj.u,fk.u,fm.u,fn,F8.nil,F8.nil⟩) eh _
  obtain ⟨_,rfl,⟨_,rfl,⟨_,rfl,⟨_,rfl,⟨_,rfl,⟨_,rfl,⟨_,rfl,⟨bq,jN,rfl,rfl,fo⟩⟩⟩⟩⟩⟩⟩⟩:=ff
  refine T.fl ?_
  refine T.O1 Li<|T.fs [7] ?_
  refine T.C5u VI.mono fo fun cN jO cO=>Tp z z (SX.two (XA.fr [5,5,5,5,5] Li z) (XA.fr [6,1,6,6,6,6,6] Li z)) (O.bs B1Z B8y z (e:=z) (hk:=z) (xs:=[.tmp 142]) (hv:=CO.eq (CO.cons (Mp.cells cO) CO.nil)) (hw:=O3.of z) (hd:=z) fun jP=>?_) T.P5
  have bY:A7 (VMp (Value.int .i64) false (VI .i64)) cN [[(.map (some bq))]] ([ao]:List (List (Int×Int))):=(A7.cons ⟨(.map (some bq)),z,cO⟩ A7.nil)
  refine bE H fun cP cS H=>Tp z z (SX.two (XA.fr [6,6,6,6,6] Li z) (XA.fr [7,2,7,7,7,7,7] Li z)) (O.apX B1Z B1Z B8y z z z (j:=7) z (Src.row (j:=0) z) (O3.of z) (A7.ones VMp.plain bY) bp.u bY cS z fun cU jS jU=>?_) T.P5
  have fp:A7 (VMp (Value.int .i64) false (VI .i64)) cN (q ++ [[(.map (some bq))]]) cP:=A7.ap bp.u bY cS
  refine T.fl ?_
  refine T.fs [1] ?_
  refine T.drop<|T.O1 Li<|TF z z z B1Y<|T.Q9 0 z fun fq fs=>Tp z z (SX.one (XA.fr [6,6,6,6,6] Lr z) z) (O.st (vs:=[cU]) (k:=11) B5J z z (j:=1) z fs (by (simp only [BT,fq]) <;> rfl) ?_) T.P5
  refine T.fl ?_
  refine T.O7 (SX.one (XA.fr [6,6,6,6,6] Lr z) z)<|Bn<|Th<|Rg<|bE H fun ft fu H=>Vv (V.H8 z z fu)<|Mv z<|Nt<|T.fs [1,6,6,6,6,6,6] ?_
  exact T.ag (e9,cP,ft,cU,(q ++ [[(.map (some bq))]])) ⟨(D8 H cM),fp⟩
 refine T.exit<|Te<|Te<|have H:=D6 H cM; Be<|Th<|have H:=I7 H e6; Sr<|Vv (V.fa U4 z)<|Vv (V.M5 (k:=1) O0 z y.u z)<|Vv (V.fa A9L z)<|Vv (V.M5 (k:=2) A1H z y.u z)<|Vv (V.bld (xs:=[(0,.tmp 150),(1,.tmp 152)]) (cs:=[_,_]) B8x B8t z (F4.cons z (F8.cells G) z (F4.cons z (F8.cells aY) z F4.nil)))<|bE H fun ⟨fw,jV,jW⟩ fx H=>To (O.G9 z (B5w ⟨av,az,z,G.u,aY.u⟩ fx _) z fun jX cV jY jZ fy=>?_)
 obtain ⟨fA,rfl,fB,fC⟩:=fy
 refine P7 _ fB<|Mv z<|Wx z z<|Wx z z<|Wx z z<|Ag z<|Ag z<|An z<|Sq<|Sr<|Vv (V.fa U4 z)<|Vv (V.M5 (k:=1) O0 z y.u z)<|Vv (V.Q3 O9 z G)<|Mv z<|Nt ?_
 obtain ⟨fD,fE,fG⟩:=K4 H
 have H:=fE
 refine Bl<|T.R4 100 1<|have fI:A7 (VSl VB 1) cV [] ([]:List (List Bool)):=A7.nil; T.R4 122 1<|have fJ:A7 (VSl (VI .u8) 1) cV [] ([]:List (List Int)):=A7.nil; T.fs [1,8,8,8,8,8,8,8] ?_
 refine T.lk [1,7,159,160] (FUEL,([]:List (List Bool)),([]:List (List Int)),fw,(0:Int),(qs),[],(qs),[],fA) (fun ⟨a4,a5,a6,aU,a7,aa,C,ab,D,aV⟩=>([(13,aV),(161,qi a7)],blk bb (.cells [ax,ay,aA,aB,aC,aD,p,o,f,d,b,m,aa,ab].toArray 105)::F5 3 1 p J::F5 3 1 o I::F5 4 1 f A::F5 30 1 d w::F5 30 1 b s::F5 112 1 m q::F5 100 1 aa C::F5 122 1 ab D::L,fun hh=>iter (A5R af) a4 (a5,a6,aU,a7)=some fD∧A7 (VSl VB 1) hh C a5∧A7 (VSl (VI .u8) 1) hh D a6∧OPt A1l hh aV aU)) ⟨H,fI,fJ,fC⟩ ?_
 rintro ⟨a4,a5,a6,aU,a7,aa,C,ab,D,aV⟩ j0 j1 ⟨fK,aW,aX,fM⟩
 obtain ⟨bZ,j2,rfl,H,br⟩:=G8 fK
 refine T.norm [13,161,1,7,159,160] z<|T.fl ?_
 refine Sr<|Wl z z<|Nt<|Sq<|T.cH H z (fun H=>?_) fun H=>?_
 ·refine Ks<|Sq<|Bl<|Sr<|bE H fun ac cW H=>?_
  obtain ⟨j3,fN,⟨fO,rfl,fP⟩⟩:=F8.at G cW
  refine Vv (V.ix O9 z z G (E9 cW))<|Vv (V.ldS z fN.u (by exact V8)) ?_
  refine To (O.alloc A1K z z fun j4=>To (O.stF (vs:=[.string ac.F7,.string ac.A1S,.string ac.W9,qi ac.A0h,qi ac.A0r,.string ac.A0t,.bool ac.A0s,.bool ac.Y6,fO]) V8 z z (j:=0) z z (by (simp only [BT,F8.one fP]) <;> rfl) z ?_))
  refine T.fl ?_
  refine T.freeze fun cX j5 fS=>have cY:=Z0.of fS; Nt<|Sr<|An z<|Sr<|An z<|Sq<|Sr<|Vv (V.fa U4 z)<|Vv (V.M5 (k:=1) O0 z y.u z)<|Vv (V.Q3 O9 z G)<|Mv z<|Nt ?_
  obtain ⟨fU,fV,fW⟩:=K4 H
  have H:=fV
  refine Bl<|T.R4 4 1<|have fX:A7 VB cX [] ([]:List Bool):=A7.nil; T.R4 124 1<|have fY:A7 (VI .u8) cX [] ([]:List Int):=A7.nil; T.fs [1,10,10,10,10,10,10,10,10,10] ?_
  refine T.lk [1,7,17,159,160,161,166,167] (FUEL,aU,(0:Int),([]:List Bool),([]:List Int),aV,(qs),[],(qs),[]) (fun ⟨a8,ad,a9,aq,ae,N,r,ar,n,au⟩=>([(13,N),(168,qi a9),(18,r),(19,n)],blk bb (.cells [ax,ay,aA,aB,aC,aD,p,o,f,d,b,m,aa,ab].toArray 105)::F5 3 1 p J::F5 3 1 o I::F5 4 1 f A::F5 30 1 d w::F5 30 1 b s::F5 112 1 m q::F5 100 1 aa C::F5 122 1 ab D::F5 4 1 r ar::F5 124 1 n au::L,fun hh=>iter (B0M af ac) a8 (ad,a9,aq,ae)=some fU∧OPt A1l hh N ad∧A7 VB hh ar aq∧A7 (VI .u8) hh au ae)) ⟨H,fM.u,fX,fY⟩ ?_
  rintro ⟨a8,ad,a9,aq,ae,N,r,ar,n,au⟩ j6 j7 ⟨fZ,bt,b0,b2⟩
  obtain ⟨f0,j8,rfl,H,cZ⟩:=G8 fZ
  refine T.norm [13,168,18,19,1,7,17,159,160,161,166,167] z<|T.fl ?_
  refine Sr<|Wl z z<|Nt<|Sq<|T.cH H z (fun H=>?_) fun H=>?_
  ·refine Ks<|Sq<|Bl<|Sr<|bE H fun aw c0 H=>?_
   obtain ⟨j9,f1,⟨f2,rfl,f3⟩⟩:=F8.at G c0
   refine Vv (V.ix O9 z z G (E9 c0))<|Vv (V.ldS z f1.u (by exact V8)) ?_
   refine To (O.alloc A1K z z fun jh=>To (O.stF (vs:=[.string aw.F7,.string aw.A1S,.string aw.W9,qi aw.A0h,qi aw.A0r,.string aw.A0t,.bool aw.A0s,.bool aw.Y6,f2]) V8 z z (j:=0) z z (by (simp only [BT,F8.one f3]) <;> rfl) z ?_))
   refine T.fl ?_
   refine T.freeze fun jl jv f4=>have c1:=Z0.of f4; Nt<|Sm z<|Mv z<|Vv (V.fa A0k z)<|Vv (V.M5 (k:=0) J7 z cY.u z)<|Vv (V.fa A0k z)<|Vv (V.M5 (k:=0) J7 z c1 z)<|bE H fun f5 f6 H=>have b3:=OPt.get bt f6; bE H fun c2 f7 H=>To (O.G9 z (C0R b3.u f7 _) z fun jz f8 ka kb f9=>?_)
   obtain ⟨kc,fh,fv⟩:=f9
   refine P7 _ fh<|Vv (V.A4x X5 z (j:=0) z fv.len)<|Wg z z<|To (O.b1 (E:=VB) A1m A9m z z z z z fun kd b4=>bE H fun c3 c4 H=>To (O.apX A1m A1m A9m z z z (j:=11) z (Src.row (j:=0) z) (O3.of z) (A7.ones VB.plain b4) b0.u b4 c4 z fun fz ke kf=>have ga:A7 VB f8 (ar ++ [[.bool (decide ((0:Int) < (c2.length:Int)))]]) c3:=A7.ap b0.u b4 c4; T.fl ?_))
   refine T.fs [1] ?_
   refine T.drop<|An z<|Sm z<|Vv (V.fa A0k z)<|Vv (V.M5 (k:=0) J7 z cY.u z)<|Vv (V.fa A0k z)<|Vv (V.M5 (k:=0) J7 z c1.u z)<|bE H fun ⟨c5,kg⟩ gb H=>To (O.cs (C3L b3.u gb _) fun gc kk=>Mv z<|Wx z z<|Wx z z<|Ag z<|An z<|Rg<|Mv z<|Mv z<|To (O.b1 (E:=VI .u8) A9t B8v z z z z z fun km b5=>bE H fun c6 c7 H=>To (O.apX A9t A9t B8v z z z (j:=12) z (Src.row (j:=0) z) (O3.of z) (A7.ones VI.plain b5) b2.u b5 c7 z fun gf kn ko=>have gg:A7 (VI .u8) gc (au ++ [[.int .u8 c5]]) c6:=A7.ap b2.u b5 c7; T.fl ?_)))
   refine T.fs [1] ?_
   refine T.drop<|Ag z<|Ni<|Bn<|Th<|T.norm [1,7,13,17,18,19,159,160,161,166,167,168] z<|T.fl ?_
   refine Rg<|bE H fun gi gj H=>Vv (V.H8 z z gj)<|Mv z<|Nt<|T.fs [2] ?_
   refine T.drop<|T.fs [1,10,10,10,10,10,10,10,10,10] ?_
   exact T.ag (f0,(some f5),gi,c3,c6,N,fz,(ar ++ [[.bool (decide ((0:Int) < (c2.length:Int)))]]),gf,(au ++ [[.int .u8 c5]])) ⟨(D8 H cZ),(OPt.some b3.u),ga.u,gg⟩
  refine T.exit<|Te<|Te<|have H:=D6 H cZ; Be<|Th<|have H:=I7 H fW; T.fs [9] ?_
  refine T.K5 fun kp kq gk=>have bu:=A7.slc gk b0.u; T.fs [9] ?_
  refine T.K5 fun K kr gm=>have ah:=A7.slc gm b2.u; T.N8 (t:=(.vs [0,1,2,3,4] (.x 5 (.vs [6,9,10,11] (.x 12 (.v 13 (.alt 7 (.alt 8 (.g (.alt 14 (.alt 15 (.g (.v 16 (.v 17 (.alt 18 (.g (.v 19 (.v 20 (.alt 21 .done .no)))) .no)))) .no) .no)) (.alt 14 (.alt 8 (.g (.alt 15 (.g (.v 16 (.v 17 (.alt 18 (.g (.v 19 (.v 20 (.alt 21 .done .no)))) .no)))) .no)) .no) .no)) (.alt 14 (.alt 7 (.alt 8 (.g (.alt 15 (.g (.v 16 (.v 17 (.alt 18 (.g (.v 19 (.v 20 (.alt 21 .done .no)))) .no)))) .no)) .no) .no) .no)))))))) 18 1 0 z z I5 (by kernel_rfl) ?_
  refine Tm z z<|Tm z z<|Tm z z<|TF z z z A6v<|T.tx z z (Val.XA fun _ _ _=>V.ldO (k:=12) A9B z (j:=0) z z) z Calm.i<|Tm z z<|Tm z z<|TF z z z A4F<|T.tx z z (Val.XA fun _ _ _=>V.ldO (k:=13) A7n z (j:=0) z z) z Calm.i<|Tm z z<|T.C2A ?_ ?_
  ·refine Tp z z (X3 [] [0] z z) (O.bs A2Z A8v z (e:=z) (hk:=z) (xs:=[.tmp 203]) (hv:=CO.eq (CO.cons (F8.cells bu) CO.nil)) (hw:=O3.of z) (hd:=z) fun ks=>?_) T.P5
   have al:A7 (VSl VB 1) K [[r]] ([aq]:List (List Bool)):=(A7.cons ⟨r,z,bu.u⟩ A7.nil)
   refine T.C2A ?_ ?_
   ·refine bE H fun c8 c9 H=>Tp z z (X3 [] [1] z z) (O.apX A2Z A2Z A8v z z z (j:=8) z (Src.row (j:=0) z) (O3.of z) (A7.ones VSl.plain al) aW.u al c9 z fun ch kt ku=>?_) T.P5
    have gn:A7 (VSl VB 1) K (C ++ [[r]]) c8:=A7.ap aW.u al c9
    refine T.fl ?_
    refine T.fs [1] ?_
    refine T.drop<|T.O1 Lr<|Tp z z (X3 [] [1] z z) (O.bs A1E A5O z (e:=z) (hk:=z) (xs:=[.tmp 210]) (hv:=CO.eq (CO.cons (F8.cells ah) CO.nil)) (hw:=O3.of z) (hd:=z) fun kw=>?_) T.P5
    have b6:A7 (VSl (VI .u8) 1) K [[n]] ([ae]:List (List Int)):=(A7.cons ⟨n,z,ah⟩ A7.nil)
    refine bE H fun cl cv H=>Tp z z (X3 [] [2] z z) (O.apX A1E A1E A5O z z z (j:=9) z (Src.row (j:=0) z) (O3.of z) (A7.ones VSl.plain b6) aX.u b6 cv z fun cz kx ky=>?_) T.P5
    have go:A7 (VSl (VI .u8) 1) K (D ++ [[n]]) cl:=A7.ap aX.u b6 cv
    refine T.fl ?_
    refine T.fs [1] ?_
    refine T.drop<|T.O1 Lr<|TF z z z A6v<|T.Q9 1 z fun gp gq=>Tp z z (X3 [] [2] z z) (O.st (vs:=[ch]) (k:=12) A9B z z (j:=2) z gq (by (simp only [BT,gp]) <;> rfl) ?_) T.P5
    refine T.fl ?_
    refine T.O1 Lr<|TF z z z A4F<|T.Q9 1 z fun gr gs=>Tp z z (SX.one (XA.fr [] Lr z) z) (O.st (vs:=[cz]) (k:=13) A7n z z (j:=0) z gs (by (simp only [BT,gr]) <;> rfl) ?_) T.P5
    refine T.fl ?_
    refine T.O7 (SX.one (XA.fr [] Lr z) z)<|Bn<|Th<|Rg<|bE H fun gu gw H=>Vv (V.H8 z z gw)<|Mv z<|Nt<|T.fs [1,2,8,8,8,8,8,8,8] ?_
    exact T.ag (bZ,c8,cl,ad,gu,ch,(C ++ [[r]]),cz,(D ++ [[n]]),N) ⟨(D8 H br),gn,go,bt.u⟩
   refine Tp z z (X3 [] [1] z z) (O.bs A1E A5O z (e:=z) (hk:=z) (xs:=[.tmp 210]) (hv:=CO.eq (CO.cons (F8.cells ah) CO.nil)) (hw:=O3.of z) (hd:=z) fun kA=>?_) T.P5
   have b7:A7 (VSl (VI .u8) 1) K [[n]] ([ae]:List (List Int)):=(A7.cons ⟨n,z,ah⟩ A7.nil)
   refine bE H fun da db H=>Tp z z (X3 [] [2] z z) (O.apX A2Z A2Z A8v z z z (j:=9) z (Src.row (j:=1) z) (O3.of z) (A7.ones VSl.plain al) aW.u al db z fun dc kB kC=>?_) T.P5
   have gx:A7 (VSl VB 1) K (C ++ [[r]]) da:=A7.ap aW.u al db
   refine T.fl ?_
   refine T.fs [2] ?_
   refine T.drop<|T.O1 Lr<|bE H fun dd de H=>Tp z z (X3 [] [2] z z) (O.apX A1E A1E A5O z z z (j:=9) z (Src.row (j:=1) z) (O3.of z) (A7.ones VSl.plain b7) aX.u b7 de z fun df kD kE=>?_) T.P5
   have gy:A7 (VSl (VI .u8) 1) K (D ++ [[n]]) dd:=A7.ap aX.u b7 de
   refine T.fl ?_
   refine T.fs [2] ?_
   refine T.drop<|T.O1 Lr<|TF z z z A6v<|T.Q9 1 z fun gA gB=>Tp z z (X3 [] [2] z z) (O.st (vs:=[dc]) (k:=12) A9B z z (j:=2) z gB (by (simp only [BT,gA]) <;> rfl) ?_) T.P5
   refine T.fl ?_
   refine T.O1 Lr<|TF z z z A4F<|T.Q9 1 z fun gC gD=>Tp z z (SX.one (XA.fr [] Lr z) z) (O.st (vs:=[df]) (k:=13) A7n z z (j:=0) z gD (by (simp only [BT,gC]) <;> rfl) ?_) T.P5
   refine T.fl ?_
   refine T.O7 (SX.one (XA.fr [] Lr z) z)<|Bn<|Th<|Rg<|bE H fun gE gG H=>Vv (V.H8 z z gG)<|Mv z<|Nt<|T.fs [1,2,8,8,8,8,8,8,8] ?_
   exact T.ag (bZ,da,dd,ad,gE,dc,(C ++ [[r]]),df,(D ++ [[n]]),N) ⟨(D8 H br),gx,gy,bt.u⟩
  refine Tp z z (X3 [] [0] z z) (O.bs A1E A5O z (e:=z) (hk:=z) (xs:=[.tmp 210]) (hv:=CO.eq (CO.cons (F8.cells ah) CO.nil)) (hw:=O3.of z) (hd:=z) fun kG=>?_) T.P5
  have b8:A7 (VSl (VI .u8) 1) K [[n]] ([ae]:List (List Int)):=(A7.cons ⟨n,z,ah⟩ A7.nil)
  refine Tp z z (X3 [] [1] z z) (O.bs A2Z A8v z (e:=z) (hk:=z) (xs:=[.tmp 203]) (hv:=CO.eq (CO.cons (F8.cells bu) CO.nil)) (hw:=O3.of z) (hd:=z) fun kI=>?_) T.P5
  have b9:A7 (VSl VB 1) K [[r]] ([aq]:List (List Bool)):=(A7.cons ⟨r,z,bu.u⟩ A7.nil)
  refine bE H fun dg di H=>Tp z z (X3 [] [2] z z) (O.apX A2Z A2Z A8v z z z (j:=9) z (Src.row (j:=0) z) (O3.of z) (A7.ones VSl.plain b9) aW.u b9 di z fun dj kJ kK=>?_) T.P5
  have gI:A7 (VSl VB 1) K (C ++ [[r]]) dg:=A7.ap aW.u b9 di
  refine T.fl ?_
  refine T.fs [1] ?_
  refine T.drop<|T.O1 Lr<|bE H fun dk dm H=>Tp z z (X3 [] [2] z z) (O.apX A1E A1E A5O z z z (j:=9) z (Src.row (j:=1) z) (O3.of z) (A7.ones VSl.plain b8) aX.u b8 dm z fun dn kM kN=>?_) T.P5
  have gJ:A7 (VSl (VI .u8) 1) K (D ++ [[n]]) dk:=A7.ap aX.u b8 dm
  refine T.fl ?_
  refine T.fs [2] ?_
  refine T.drop<|T.O1 Lr<|TF z z z A6v<|T.Q9 1 z fun gK gM=>Tp z z (X3 [] [2] z z) (O.st (vs:=[dj]) (k:=12) A9B z z (j:=2) z gM (by (simp only [BT,gK]) <;> rfl) ?_) T.P5
  refine T.fl ?_
  refine T.O1 Lr<|TF z z z A4F<|T.Q9 1 z fun gN gO=>Tp z z (SX.one (XA.fr [] Lr z) z) (O.st (vs:=[dn]) (k:=13) A7n z z (j:=0) z gO (by (simp only [BT,gN]) <;> rfl) ?_) T.P5
  refine T.fl ?_
  refine T.O7 (SX.one (XA.fr [] Lr z) z)<|Bn<|Th<|Rg<|bE H fun gP gS H=>Vv (V.H8 z z gS)<|Mv z<|Nt<|T.fs [1,2,8,8,8,8,8,8,8] ?_
  exact T.ag (bZ,dg,dk,ad,gP,dj,(C ++ [[r]]),dn,(D ++ [[n]]),N) ⟨(D8 H br),gI,gJ,bt.u⟩
 refine T.exit<|Te<|Te<|have H:=D6 H br; Be<|Th<|have H:=I7 H fG; Sm z<|Ag z<|Ag z<|Ag z<|Nr<|T.fs [1] ?_
 refine T.K5 fun kO kP gU=>have gV:=A7.slc gU bj.u; T.fs [1] ?_
 refine T.K5 fun kS kU gW=>have gX:=A7.slc gW bx.u; T.fs [1] ?_
 refine T.K5 fun kV kW gY=>have gZ:=A7.slc gY bA.u; T.fs [1] ?_
 refine T.K5 fun kX kY g0=>have g1:=A7.slc g0 bB.u; T.fs [1] ?_
 refine T.K5 fun kZ k0 g2=>have g3:=A7.slc g2 bC.u; T.fs [1] ?_
 refine T.K5 fun k1 k2 g4=>have g5:=A7.slc g4 bp.u; T.fs [1] ?_
 refine T.K5 fun k3 k4 g6=>have g7:=A7.slc g6 aW.u; Fr_ 1 z<|T.K5 fun k5 k6 g8=>have g9:=A7.slc g8 aX.u; T.C0A fun k7 k8 gh=>?_
 cases H
 exact T.rl z (RVs.cons (RV.tmp z) (RVs.cons (RV.tmp z) (Rv z))) ⟨_,z,z,(OPt.some (Pt.mk gh ⟨ax,ay,aA,aB,aC,aD,p,o,f,d,b,m,aa,ab,z,cb.u,cc.u,cd.u,ce.u,cf.u,bw.u,gV.u,gX.u,gZ.u,g1.u,g3.u,g5.u,g7.u,g9.u⟩))⟩
theorem B7P {h b c a} (d:Pt Z7 h b c) (H:A7Q c=some a):∀ L,J6 prog 119 [b] h (L) (fun v h' L'=>∃ v0_1 v0_3 v0_5 v0_7 v0_9,v=.agg #[v0_1,v0_3,v0_5,v0_7,v0_9]∧L'=L∧F8 I6 7 h' v0_1 a.C8∧F8 I8 9 h' v0_3 a.A8∧F8 L8 3 h' v0_5 a.M9∧F8 (VI .i64) 1 h' v0_7 a.R8∧F8 H9 6 h' v0_9 a.F9):=by
 intro L
 refine J6.enter func119 z z z<|Sr<|To (O.alloc A3q z z fun U=>Nt<|Sq<|Sm z<|bE H fun W n H=>To (O.cs (B5t d n _) fun Y aa=>Nt<|T.cH H z (fun H=>?_) fun H=>?_))
 ·refine Sr<|Vv (V.bld (xs:=[]) (cs:=[_,_,_,_,_]) C0G C0J z F4.nil)<|To (O.stF (vs:=[qs,qs,qs,qs,qs]) J4 z z (j:=0) z z z z<|Nr<|Tr ?_)
  cases H
  exact T.A9b (L':=L) results119 (RVs.cons (RV.cellS z (j:=0) z J4) RVs.nil) Li (fun _ iv=>iv.drop) ⟨_,_,_,_,_,z,z,F8.nil,F8.nil,F8.nil,F8.nil,F8.nil⟩
 refine Ks<|Sm z<|have q:=d; ?_
 obtain ⟨ab,_,rfl,r,⟨s,t,w,x,y,ac,ad,ae,af,ag,ai,aj,ak,am,rfl,A,B,C,D,E,an,ao,ap,aq,ar,au,aw,ax,ay⟩⟩:=q
 refine NF z M3<|Vv (V.C9C (k:=0) B1n z r.u (Nat.le_of_ble_eq_true z))<|bE H fun aA G H=>To (O.G9 z (A9K ⟨s,t,w,x,y,z,A.u,B.u,C.u,D.u,E.u⟩ G _) z fun aB aC aD aE I=>?_)
 obtain ⟨J,K,M,N,P,rfl,S,e,f,g,i,m⟩:=I
 refine P7 _ S<|To (O.stF (vs:=[J,K,M,N,P]) J4 z z (j:=0) z z (by (simp only [BT,F8.one e,F8.one f,F8.one g,F8.one i,F8.one m]) <;> rfl) z ?_)
 refine Nr ?_
 cases H
 exact T.A9b (L':=L) results119 (RVs.cons (RV.cellS z (j:=0) z J4) RVs.nil) Li (fun _ iv=>iv.drop) ⟨_,_,_,_,_,z,z,e,f,g,i,m⟩
theorem B0W {h y o g p A} (r:Pt Z7 h y o) (e:F8 (VI .i64) 1 h g p) (H:A7h o p=some A):∀ L,J6 prog 61 [y,g] h (L) (fun v h' L'=>L'=L∧OPt M4 h' v A):=by
 intro L
 refine J6.enter func61 z z z<|Sr<|An z<|Sq<|Sq ?_
 obtain ⟨N,P,S⟩:=K4 H
 refine T.ck (α:=Bool) [0,1] (fun i=>([(20,.bool i)],L,fun hh=>N=i)) ?_ ?_
 ·have H:=P
  refine Rg<|Mv z<|bE H fun bi U H=>To (O.cs (B5t r U _) fun bk bn=>Mv z<|T.bH 10 H z (fun H=>?_) fun H=>?_)
  ·refine S2<|S2<|S2<|S2<|Sk<|Kt z<|Nt<|T.mt true (M7 H)
  refine Mv z<|Vv (V.Q3 A9 z e)<|Mv z<|have Y:=r; ?_
  obtain ⟨bo,_,rfl,Z,⟨bp,bq,br,bs,bt,bu,bw,bx,bA,bB,bC,bD,bG,bI,rfl,bJ,aa,bK,bM,bN,bO,bP,bS,bU,bV,bW,bX,bY,bZ⟩⟩:=Y
  refine NF z M3<|Vv (V.fa A0I z)<|Vv (V.M5 (k:=1) O0 z Z.u z)<|Vv (V.Q3 O9 z aa)<|Wn z z<|Kf z<|Nt<|T.mt (!decide ((p.length:Int)=(o.P6.A8.length:Int))) (M7 H)
 rintro i b0 b2 ab
 have H:=I7 ab S
 refine T.norm [20,0,1] z<|T.fl ?_
 refine T.cH H z (fun H=>?_) fun H=>?_
 ·refine Sg z<|Nr<|Tr ?_
  cases H
  exact T.rl z (Rv z) ⟨z,OPt.nil⟩
 refine Ks<|Sm z<|Mv z<|To (O.b1 (E:=VI .i64) A9 K8 z z z z z fun b3 ac=>Mv z<|have ad:=r; ?_)
 obtain ⟨s,_,rfl,t,⟨ae,af,ai,aj,ak,am,an,ao,ap,aq,ar,au,aw,ax,rfl,ay,aA,aB,aC,aD,aE,w,aG,aI,aJ,aK,aM,aN,aO⟩⟩:=ad
 refine NL z U7 E5 t.u z<|Vv (V.Q3 A9 z w)<|T.K5 fun b4 b5 aP=>have aS:=A7.slc aP ac.u; bE H fun aU aV H=>To (O.G9 z (A9h aS aV _) z fun m b6 b7 b8 aW=>?_)
 obtain ⟨aX,aY,aZ⟩:=aW
 refine P7 _ aY<|T.Q9 0 z fun b9 a0=>Vv (V.bld (xs:=[(0,.tmp 21),(1,.tmp 22),(2,.tmp 29)]) (cs:=[_,_,_]) C4z C4E z (F4.cons z z z (F4.cons z (F8.cells e) z (F4.cons z a0 z F4.nil))))<|To (O.box z z z fun B=>An z<|Sq<|Sm z<|Vv (V.Q3 A9 z e)<|Mv z<|Nt ?_)
 obtain ⟨a1,a2,C⟩:=K4 H
 have H:=a2
 refine Bl<|T.lk [0,5,32,33] (FUEL,aU,(0:Int),aX) (fun ⟨f,d,a,b⟩=>([(34,qi a)],blk B (.cells [.pointer (some s),g,m].toArray 134)::F5 3 1 m b::L,fun hh=>iter (A7F o p) f (d,a)=some a1∧A7 (VI .i64) hh b d)) ⟨H,aZ⟩ ?_
 rintro ⟨f,d,a,b⟩ bh bl ⟨a3,c⟩
 obtain ⟨D,bv,rfl,H,q⟩:=G8 a3
 refine T.norm [34,0,5,32,33] z<|T.fl ?_
 refine Sr<|Wl z z<|Nt<|Sq<|T.cH H z (fun H=>?_) fun H=>?_
 ·refine Ks<|Sq<|Bl<|Sm z<|bE H fun G I H=>?_
  obtain ⟨bz,a4,rfl⟩:=F8.at e I
  refine Vv (V.ix A9 z z e (E9 I))<|Vv (V.S9 D7 z a4.u z)<|Ag z<|An z<|Sq<|Sq ?_
  obtain ⟨a5,a6,a7⟩:=K4 H
  refine T.ck (α:=Bool) [0,5,6,7,32,33,34] (fun n=>([(63,.bool n)],blk B (.cells [.pointer (some s),g,m].toArray 134)::F5 3 1 m b::L,fun hh=>a5=n)) ?_ ?_
  ·have H:=a6
   refine Rg<|Mv z<|Wl z z<|Mv z<|T.bH 41 H z (fun H=>?_) fun H=>?_
   ·refine S2<|S2<|S2<|Sk<|Kt z<|Mv z<|S2<|S2<|S2<|S2<|S2<|S2<|Kt z<|Nt<|T.mt true (M7 H)
   refine Mv z<|Mv z<|NL z U7 E5 t.u z<|Vv (V.Q3 A9 z w)<|Vv (V.ge z z)<|Kf z<|Mv z<|T.bH 50 H z (fun H=>?_) fun H=>?_
   ·refine S2<|S2<|S2<|S2<|S2<|S2<|Kt z<|Nt<|T.mt true (M7 H)
   refine Mv z<|Vv (V.ge z z)<|Mv z<|T.bH 53 H z (fun H=>?_) fun H=>?_
   ·refine Mv z<|NF z B2t<|Vv (V.ldO (k:=2) E5 z (j:=0) z z)<|Mv z<|bE H fun a8 J H=>?_
    obtain ⟨ca,a9,rfl⟩:=A7.get c J
    refine Vv (V.ixR A9 z z (j:=1) z (A7.bd c J))<|Vv (V.ldR D7 z (j:=1) z a9 z)<|Vv (V.ge z z)<|Kt z<|Kf z<|Nt<|T.mt (decide ((0:Int)≤a8)) (M7 H)
   refine S2<|S2<|S2<|S2<|Kf z<|Kf z<|Nt<|T.mt false (M7 H)
  rintro n K cb ah
  have H:=I7 ah a7
  refine T.norm [63,0,5,6,7,32,33,34] z<|T.fl ?_
  refine T.cH H z (fun H=>?_) fun H=>?_
  ·refine Sg z<|Nr<|Tr<|Br<|Tr<|Tr<|have H:=D6 H q; Br<|Tr<|have H:=I7 H C; T.drop<|T.drop ?_
   cases H
   exact T.rl z (Rv z) ⟨z,OPt.nil⟩
  refine Ks<|Sm z<|Vv (V.ge z z)<|Nt<|T.cH H z (fun H=>?_) fun H=>?_
  ·refine Rg<|Mv z<|NF z B2t<|Vv (V.ldO (k:=2) E5 z (j:=0) z z)<|Mv z<|Mv z<|bE H fun cc x H=>?_
   obtain ⟨cd,ce,rfl⟩:=A7.get c x
   refine Vv (V.ixR A9 z z (j:=1) z (A7.bd c x))<|bE H fun M al H=>To (O.stR D7 z z (j:=1) z (A7.bdN c x) z<|have av:A7 (VI .i64) K (b.set G.toNat [qi a]) M:=A7.set c.u (show (VI .i64) K [qi a] a from z) al; Ni<|Bn<|Th<|Rg<|bE H fun az ba H=>Vv (V.H8 z z ba)<|Mv z<|Nt<|Fr_ 1 z<|T.ag (D,M,az,(b.set G.toNat [qi a])) ⟨(D8 H q),av⟩)
  refine T.skip<|Bn<|Th<|Rg<|bE H fun bb bc H=>Vv (V.H8 z z bc)<|Mv z<|Nt<|T.ag (D,d,bb,b) ⟨(D8 H q),c.u⟩
 refine T.exit<|Te<|Te<|have H:=D6 H q; Be<|Th<|have H:=I7 H C; Sm z<|Ag z<|Nr<|Fr_ 1 z<|T.K5 fun cf cg be=>have bf:=A7.slc be c.u; T.C0A fun ci cj bg=>?_
 cases H
 exact T.rl z (Rv z) ⟨z,(OPt.some (Pt.mk bg ⟨(.pointer (some s)),g,m,z,(Pt.mk t.u ⟨ae,af,ai,aj,ak,am,an,ao,ap,aq,ar,au,aw,ax,z,ay.u,aA.u,aB.u,aC.u,aD.u,aE.u,w.u,aG.u,aI.u,aJ.u,aK.u,aM.u,aN.u,aO.u⟩),e.u,bf.u⟩))⟩
theorem C0p {h a b c d e f} (n:Pt Z7 h a b) (o:F8 (VI .i64) 1 h c d) (H:B8l b d e=some f):∀ L,FnW prog 133 [a,c,.int .i64 e] h L (.int .i64 f):=by
 intro L
 refine J6.enter func133 z z z<|Sr<|An z<|Sm z<|Mv z<|bE H fun au p H=>To (O.G9 z (B0W n o p _) z fun aw ax ay aA q=>?_)
 obtain ⟨r,g⟩:=q
 refine P7 _ r<|An z<|Sq<|Sm z<|Vv (V.D1G underlying131 z g)<|Mv z<|T.bH 13 H z dead fun H=>Mv z<|Wl z z<|Kf z<|Mv z<|T.bH 17 H z dead fun H=>Mv z<|Mv z<|bE H fun aB s H=>have t:=OPt.get g s; have u:=t; ?_
 obtain ⟨aC,_,rfl,i,⟨aD,w,x,rfl,y,A,B⟩⟩:=u
 refine NL z G6 I9 i z<|have C:=y; ?_
 obtain ⟨D,_,rfl,j,⟨E,G,I,J,K,M,N,P,S,U,W,X,Y,Z,rfl,aa,ab,ac,ad,m,ae,af,ag,ai,aj,ak,am,an,ao⟩⟩:=C
 exact NF z M3<|Vv (V.fa A4w z)<|Vv (V.M5 (k:=4) Y4 z j z)<|Vv (V.Q3 U9 z m)<|Vv (V.ge z z)<|Kf z<|Nt<|T.cH H z dead fun H=>Ks<|Sm z<|Mv z<|bE H fun aE ap H=>To (O.cs (B4S (Pt.mk i ⟨(.pointer (some D)),w,x,z,(Pt.mk j ⟨E,G,I,J,K,M,N,P,S,U,W,X,Y,Z,z,aa,ab,ac,ad,m,ae,af,ag,ai,aj,ak,am,an,ao⟩),A,B⟩) ap _) fun aI aK=>Ag z<|Nr<|E1 H)
theorem C3t {h m n o p q f r} (C:Pt Z7 h m n) (D:F8 (VI .i64) 1 h o p) (E:B2B h q f) (H:B4f n p f=some r):∀ L,FnW prog 85 [m,o,q] h L (.int .i64 r):=by
 intro L
 refine J6.enter func85 z z z<|Sr<|An z<|Sm z<|Mv z<|bE H fun a8 G H=>To (O.G9 z (B0W C D G _) z fun a9 ah al av I=>?_)
 obtain ⟨J,s⟩:=I
 refine P7 _ J<|An z<|Sq<|Sm z<|Vv (V.D1G underlying131 z s)<|Nt<|T.cH H z (fun H=>?_) fun H=>?_
 ·exact Sg z<|Nr<|Tr<|E1 H
 refine Ks<|Sr<|An z<|Sq<|Sm z<|bE H fun K M H=>have N:=OPt.get s M; have P:=N; ?_
 obtain ⟨az,_,rfl,w,⟨ba,S,U,rfl,W,X,Y⟩⟩:=P
 refine NL z G6 I9 w z<|have Z:=W; ?_
 obtain ⟨aa,_,rfl,x,⟨ab,ac,ad,ae,af,ai,aj,ak,am,an,ao,ap,aq,ar,rfl,au,aw,ax,ay,e,aA,aB,aC,aD,aE,aG,aI,aJ,aK⟩⟩:=Z
 refine NF z M3<|Vv (V.fa A4w z)<|Vv (V.M5 (k:=4) Y4 z x z)<|Vv (V.Q3 U9 z e)<|Mv z<|Nt ?_
 obtain ⟨aM,aN,aO⟩:=K4 H
 have H:=aN
 refine Bl<|T.lk [2,7,23,24] (FUEL,(0:Int),(0:Int)) (fun ⟨b,c,a⟩=>([(25,qi c),(8,qi a)],L,fun hh=>iter (A6u f K) b (c,a)=some aM)) H ?_
 rintro ⟨b,c,a⟩ bb bc aP
 obtain ⟨y,bd,rfl,H,i⟩:=G8 aP
 refine T.norm [25,8,2,7,23,24] z<|T.fl ?_
 refine Sr<|Wl z z<|Nt<|Sq<|T.cH H z (fun H=>?_) fun H=>?_
 ·refine Ks<|Sq<|Bl<|Sm z<|bE H fun d A H=>?_
  obtain ⟨be,aS,rfl⟩:=F8.at e A
  refine Vv (V.ix U9 z z e (E9 A))<|Vv (V.ldS z aS.u (by exact K3)) ?_
  refine To (O.alloc A1R z z fun bf=>Ag z<|To (O.stF (vs:=[.int .u8 d.H6,qi d.J3,.string d.fA,.string d.fB,.string d.J2,qi d.fN]) K3 z z (j:=0) z z z z<|T.freeze fun aU bg aV=>have B:=Z0.of aV; Nt<|Sr<|Vv (V.fa A4d z)<|Vv (V.M5 (k:=1) D7 z B z)<|Wg z z<|Nt<|T.cH H z (fun H=>?_) fun H=>?_))
  ·refine T.N8 (t:=(.vs [0,1,2,3,4,5] (.alt 6 (.g (.v 7 (.v 8 (.alt 9 .done .no)))) .no))) 11 0 0 z z I5 (by kernel_rfl) ?_
   refine Tm z z<|Tv z (V.fa A4d z)<|Tv z (V.M5 (k:=1) D7 z B z)<|Tm z z<|Tm z z<|Tm z z<|bE H fun bi aW H=>?_
   obtain ⟨bj,bk,bm,aX,aY⟩:=B2B.call (E.u (g:=aU)) (Pt.mk w.u ⟨(.pointer (some aa)),S,U,rfl,(Pt.mk x.u ⟨ab,ac,ad,ae,af,ai,aj,ak,am,an,ao,ap,aq,ar,rfl,au.u,aw.u,ax.u,ay.u,e.u,aA.u,aB.u,aC.u,aD.u,aE.u,aG.u,aI.u,aJ.u,aK.u⟩),X.u,Y.u⟩) aW
   refine Tp z z (X2 z z) (O.A1e z aX z (aY _) z fun bn bo bp bq aZ=>?_) T.P5
   obtain ⟨rfl,a0⟩:=aZ
   refine P7 _ a0<|T.O1 Li<|bE H fun br a1 H=>Tv z (V.B0g z z a1)<|bE H fun a2 a3 H=>Tv z (V.H8 z z a3)<|Ts z z (X2 z z) (V.asg z) z ?_ T.P5
   refine T.O7 (X2 z z)<|Bn<|Th<|Rg<|bE H fun a4 a5 H=>Vv (V.H8 z z a5)<|Mv z<|Nt<|T.ag (y,a4,a2) (D8 H i)
  refine T.skip<|Bn<|Th<|Rg<|bE H fun a6 a7 H=>Vv (V.H8 z z a7)<|Mv z<|Nt<|T.ag (y,a6,a) (D8 H i)
 exact T.exit<|Te<|Te<|have H:=D6 H i; Be<|Th<|have H:=I7 H aO; Sm z<|Ag z<|Nr<|E1 H
theorem C1U {h f g i m n o} (x:Pt Z7 h f g) (y:F8 (VI .i64) 1 h i m) (H:B2a g m=some (n,o)):∀ L,FnW prog 130 [f,i] h L (.tuple #[.int .i64 n,.bool o]):=by
 intro L
 refine J6.enter func130 z z z<|Sg z<|An z<|Sm z<|Mv z<|bE H fun aX A H=>To (O.G9 z (B0W x y A _) z fun aY aZ a0 a1 B=>?_)
 obtain ⟨C,p⟩:=B
 refine P7 _ C<|An z<|Sq<|Sm z<|Vv (V.D1G underlying131 z p)<|Nt<|T.cH H z (fun H=>?_) fun H=>?_
 ·exact Sg z<|Ag z<|Nr<|Tr<|E1 H
 refine Ks<|Sq<|Sm z<|bE H fun D E H=>have G:=OPt.get p E; have I:=G; ?_
 obtain ⟨a2,_,rfl,q,⟨a3,J,K,rfl,M,N,P⟩⟩:=I
 refine NL z G6 I9 q z<|have S:=M; ?_
 obtain ⟨U,_,rfl,r,⟨W,X,Y,Z,aa,ab,ac,ad,ae,af,ai,aj,ak,am,rfl,an,ao,ap,aq,d,ar,au,aw,ax,ay,aA,aB,aC,aD⟩⟩:=S
 refine NF z M3<|Vv (V.fa A4w z)<|Vv (V.M5 (k:=4) Y4 z r z)<|Vv (V.Q3 U9 z d)<|Mv z<|Nt ?_
 obtain ⟨aE,aG,s⟩:=K4 H
 have H:=aG
 refine Bl<|T.lk [6,21,22] (FUEL,(0:Int)) (fun ⟨a,b⟩=>([(23,qi b)],L,fun hh=>iter (A5f D) a b=some aE)) H ?_
 rintro ⟨a,b⟩ a4 a5 aI
 obtain ⟨t,a6,rfl,H,e⟩:=G8 aI
 refine T.norm [23,6,21,22] z<|T.fl ?_
 refine Sr<|Wl z z<|Nt<|Sq<|T.cH H z (fun H=>?_) fun H=>?_
 ·refine Ks<|Sq<|Bl<|Sm z<|bE H fun c w H=>?_
  obtain ⟨a7,aJ,rfl⟩:=F8.at d w
  refine Vv (V.ix U9 z z d (E9 w))<|Vv (V.ldS z aJ.u (by exact K3)) ?_
  refine To (O.alloc A1R z z fun a8=>Ag z<|To (O.stF (vs:=[.int .u8 c.H6,qi c.J3,.string c.fA,.string c.fB,.string c.J2,qi c.fN]) K3 z z (j:=0) z z z z<|T.freeze fun a9 ah aK=>have aM:=Z0.of aK; Nt<|Sr<|Vv (V.fa A4d z)<|Vv (V.M5 (k:=1) D7 z aM z)<|We z z<|Mv z<|T.bH 31 H z (fun H=>?_) fun H=>?_))
  ·refine Mv z<|Mv z<|bE H fun al aN H=>To (O.cs (B4S (Pt.mk q.u ⟨(.pointer (some U)),J,K,z,(Pt.mk r.u ⟨W,X,Y,Z,aa,ab,ac,ad,ae,af,ai,aj,ak,am,z,an.u,ao.u,ap.u,aq.u,d.u,ar.u,au.u,aw.u,ax.u,ay.u,aA.u,aB.u,aC.u,aD.u⟩),N.u,P.u⟩) aN _) fun az bb=>Wg z z<|Kt z<|Nt<|T.cH H z (fun H=>?_) fun H=>?_)
   ·exact Sm z<|Ag z<|Ag z<|Nr<|Br<|Tr<|Tr<|have H:=D6 H e; Br<|Tr<|have H:=I7 H s; E1 H
   refine T.skip<|Bn<|Th<|Rg<|bE H fun aS aU H=>Vv (V.H8 z z aU)<|Mv z<|Nt<|T.ag (t,aS) (D8 H e)
  refine S2<|S2<|Kf z<|Nt<|Cf z<|T.skip<|Bn<|Th<|Rg<|bE H fun aV aW H=>Vv (V.H8 z z aW)<|Mv z<|Nt<|T.ag (t,aV) (D8 H e)
 exact T.exit<|Te<|Te<|have H:=D6 H e; Be<|Th<|have H:=I7 H s; Sg z<|Ag z<|Nr<|E1 H
theorem B5v {h a b c d e} (f:Pt Z7 h a b) (g:F8 (VI .i64) 1 h c d) (H:A9D b d=some e):∀ L,FnW prog 40 [a,c] h L (.int .i64 e):=by
 intro L
 exact J6.enter func40 z z z<|Sr<|An z<|Sm z<|Mv z<|bE H fun p i H=>To (O.cs (C3t f g (show B2B h (.func (.func 62) #[] #[]) A4j from ⟨⟨z,z⟩,.inr ⟨62,[],[],z,fun q r s t j u w k m=>B3O j k m⟩⟩) i _) fun y B=>Ag z<|Nr<|E1 H)
theorem B7y {h b c d e f g i j k} (m:Z0 h d e) (q:(VSl (VI .i64) 1) h e f) (n:Z0 h g i) (r:(VI .i64) h i j) (H:A5e b c f j=some k):∀ L,FnW prog 249 [.int .i64 b,.int .i64 c,.pointer (some d),.pointer (some g)] h L (.int .i64 k):=by
 intro L
 obtain ⟨A,rfl,a⟩:=q
 obtain rfl:=r
 refine J6.enter func249 z z z<|Sr<|An z<|Sq<|T.N8 (t:=(.vs [0,1,2,3,4,5,6,7,8,9,10,11,12] (.alt 13 .done .no))) 15 0 0 z z I5 (by kernel_rfl) ?_
 refine Tv z (V.S9 E5 z m z)<|Tm z z<|Tv z (V.S9 D7 z n z)<|bE H fun B s H=>Tv z (V.Y9 z z s)<|bE H fun C o H=>?_
 obtain ⟨D,u,rfl⟩:=F8.at a o
 refine Tv z (V.ix A9 z z a (E9 o))<|Tv z (V.S9 D7 z u z)<|Tv z (V.S9 E5 z m z)<|Tm z z<|Tv z (V.S9 D7 z n z)<|bE H fun E w H=>Tv z (V.Y9 z z w)<|bE H fun G p H=>?_
 obtain ⟨I,x,rfl⟩:=F8.at a p
 refine Tv z (V.ix A9 z z a (E9 p))<|Tv z (V.S9 D7 z x z)<|bE H fun J y H=>Tv z (V.Y9 z z y)<|Ts z z (X2 z z) (V.asg z) z ?_ T.P5
 exact T.O7 (X2 z z)<|Th<|T.ret<|E1 H
theorem B3h {h s t w x} (e:F8 I6 7 h s t) (H:A8m t w=some x):∀ L,J6 prog 234 [s,.int .i64 w] h (L) (fun v h' L'=>∃ y,L'=F5 3 1 v y::L∧A7 (VI .i64) h' y x):=by
 intro L
 refine J6.enter func234 z z z<|Sr<|An z<|Sq<|Sq ?_
 obtain ⟨P,S,U⟩:=K4 H
 refine T.ck (α:=Bool) [0,1] (fun f=>([(21,.bool f)],L,fun hh=>P=f)) ?_ ?_
 ·have H:=S
  refine Rg<|Mv z<|Wl z z<|Mv z<|T.bH 11 H z (fun H=>?_) fun H=>?_
  ·refine S2<|S2<|Kt z<|Mv z<|S2<|Sk<|Kt z<|Nt<|T.mt true (M7 H)
  refine Mv z<|Mv z<|Vv (V.Q3 O6 z e)<|Vv (V.ge z z)<|Kf z<|Mv z<|T.bH 17 H z (fun H=>?_) fun H=>?_
  ·refine S2<|Sk<|Kt z<|Nt<|T.mt true (M7 H)
  refine Mv z<|bE H fun W X H=>To (O.G9 z (A5s e X _) z fun aW aX aY aZ Y=>?_)
  obtain ⟨rfl,Z⟩:=Y
  refine P7 _ Z<|Vv (V.not z)<|Kf z<|Nt<|T.mt (!W) (M7 H)
 rintro f aa a0 ab
 have H:=I7 ab U
 refine T.norm [21,0,1] z<|T.fl ?_
 refine T.cH H z (fun H=>?_) fun H=>?_
 ·refine Sg z<|Nr<|Tr<|T.R4 3 1<|have ac:A7 (VI .i64) aa [] ([]:List Int):=A7.nil; ?_
  cases H
  exact T.rl z (Rv z) ⟨_,z,ac⟩
 refine Ks<|Sm z<|Mv z<|bE H fun a1 A H=>?_
 obtain ⟨a2,ad,⟨ae,rfl,af⟩⟩:=F8.at e A
 refine Vv (V.ix O6 z z e (E9 A))<|Vv (V.ldS z ad.u (by exact J5)) ?_
 refine bE H fun n ai H=>To (O.G9 z (B2T ⟨ae,z,af.u⟩ ai _) z fun o a3 a4 a5 aj=>?_)
 obtain ⟨a6,ak,am⟩:=aj
 refine P7 _ ak<|To (O.alloc A1I z z fun B=>Fr_ 1 z<|T.K5 fun a7 a8 an=>have k:=A7.slc an am.u; To (O.stF (vs:=[o]) E5 z z (j:=0) z (F8.cells k) (by (simp only [BT,F8.one k]) <;> rfl) z ?_))
 refine T.freeze fun a9 ah ao=>have C:=Z0.of ao; Nt<|Sm z<|Mv z<|bE H fun g ap H=>To (O.cs (A4U e.u ap _) fun av ba=>To (O.alloc K8 z z fun D=>To (O.stF (vs:=[qi g]) D7 z z (j:=0) z z z z<|T.freeze fun au bb aw=>have E:=Z0.of aw; Nt<|Sr<|Vv (V.S9 E5 z C.u z)<|Vv (V.Q3 A9 z k)<|bE H fun p G H=>To (O.mkX A9 K8 z z z z G z fun I bc be=>have J:A7 (VI .i64) au _ p:=A7.rep z G; An z<|Sq<|Sm z<|Vv (V.A4x A9 z (j:=0) z J.len)<|Mv z<|Nt ?_))))
 obtain ⟨ax,ay,aA⟩:=K4 H
 have H:=ay
 refine Bl<|T.lk [5,6,34] (FUEL,(0:Int),p,(List.replicate (n.length:Int).toNat [qi 0])) (fun ⟨c,a,d,b⟩=>([(35,qi a),(7,I)],F5 3 1 I b::L,fun hh=>iter (A6z g p) c (a,d)=some ax∧A7 (VI .i64) hh b d)) ⟨H,J⟩ ?_
 rintro ⟨c,a,d,b⟩ q bf ⟨aB,i⟩
 obtain ⟨aC,bg,rfl,H,K⟩:=G8 aB
 refine T.norm [35,7,5,6,34] z<|T.fl ?_
 refine Sr<|Wl z z<|Nt<|Sq<|T.cH H z (fun H=>?_) fun H=>?_
 ·refine Ks<|Sq<|Bl<|Sm z<|An z<|Rg<|Mv z<|Mv z<|Vv (V.S9 D7 z E.u z)<|Mv z<|bE H fun m aD H=>Vv (V.H8 z z aD)<|bE H fun bi r H=>?_
  obtain ⟨bj,bk,rfl⟩:=A7.get i r
  refine Vv (V.ixR A9 z z (j:=0) z (A7.bd i r))<|bE H fun M aE H=>To (O.stR D7 z z (j:=0) z (A7.bdN i r) z<|have aG:A7 (VI .i64) q (b.set a.toNat [qi m]) M:=A7.set i (show (VI .i64) q [qi m] m from z) aE; Ni<|Bn<|Th<|Rg<|bE H fun aI aJ H=>Vv (V.H8 z z aJ)<|Mv z<|Nt<|T.ag (aC,aI,M,(b.set a.toNat [qi m])) ⟨(D8 H K),aG⟩)
 refine T.exit<|Te<|Te<|have H:=D6 H K; Be<|Th<|have H:=I7 H aA; Sm z<|Vv (V.mkf z z)<|bE H fun bm aK H=>To (O.G9 z (B4A i (show B0l q (.func (.func 249) #[] #[qp B,qp D]) (fun aM aN=>A5e aM aN n g) from ⟨⟨z,z⟩,.inr ⟨249,[],[qp B,qp D],z,fun N bn bo bp bq aO aP=>B7y C.u (show (VSl (VI .i64) 1) N [o] n from ⟨o,z,k.u⟩) E.u (show (VI .i64) N [qi g] g from z) aO aP⟩⟩) aK _) z fun br bs bt bu aS=>?_)
 obtain ⟨bw,rfl,aU,aV⟩:=aS
 refine P7 _ aU<|Nt<|Sm z<|Ag z<|Nr ?_
 cases H
 exact T.rl z (Rv z) ⟨_,z,aV⟩
theorem C0n {h I x y J} (ak:O8 h I x) (H:B0n x y=some J):∀ L,J6 prog 215 [.agg I.toArray,.int .i64 y] h (L) (fun v h' L'=>∃ K,L'=F5 3 1 v K::L∧A7 (VI .i64) h' K J):=by
 intro L
 obtain ⟨am,an,ao,aq,ar,rfl,b,au,aw,ax,A⟩:=ak
 refine J6.enter func215 z z z<|Sr<|To (O.U5 z z z fun bJ bK bM f=>An z<|Sq<|Sr<|Vv (V.ldS z f (by exact J4)) ?_)
 refine bE H fun ⟨bN,bO⟩ ay H=>To (O.cs (A5j ⟨am,an,ao,aq,ar,z,b.u,au.u,aw.u,ax.u,A.u⟩ ay _) fun bS bV=>Mv z<|Wx z z<|Wx z z<|Ag z<|An z<|Sq ?_)
 obtain ⟨aC,aD,aE⟩:=K4 H
 refine T.ck (α:=Bool) [1,2] (fun r=>([(27,.bool r)],L,fun hh=>aC=r)) ?_ ?_
 ·have H:=aD
  refine Rg<|Mv z<|Wn z z<|Mv z<|T.bH 17 H z (fun H=>?_) fun H=>?_
  ·refine S2<|Kt z<|Mv z<|S2<|S2<|Sk<|Kt z<|Nt<|T.mt true (M7 H)
  refine Mv z<|Wl z z<|Kf z<|Mv z<|T.bH 21 H z (fun H=>?_) fun H=>?_
  ·refine S2<|S2<|Sk<|Kt z<|Nt<|T.mt true (M7 H)
  refine Mv z<|Vv (V.fa N7 z)<|Vv (V.M5 (k:=0) Q0 z f.u z)<|Vv (V.Q3 O6 z b)<|Vv (V.ge z z)<|Kf z<|Nt<|T.mt (decide ((x.C8.length:Int)≤y)) (M7 H)
 rintro r M bW aG
 have H:=I7 aG aE
 refine T.norm [27,1,2] z<|T.fl ?_
 refine T.cH H z (fun H=>?_) fun H=>?_
 ·refine Sg z<|Nr<|Tr<|T.R4 3 1<|have aI:A7 (VI .i64) M [] ([]:List Int):=A7.nil; ?_
  cases H
  exact T.rl z (Rv z) ⟨_,z,aI⟩
 refine Ks<|Sr<|An z<|Sq<|Sr<|Vv (V.fa Y3 z)<|Vv (V.M5 (k:=4) Y4 z f.u z)<|Vv (V.Q3 U9 z A)<|Mv z<|Nt ?_
 obtain ⟨aJ,aK,aM⟩:=K4 H
 have H:=aK
 refine Bl<|T.R4 3 1<|have aN:A7 (VI .i64) M [] ([]:List Int):=A7.nil; T.lk [1,2,29,30] (FUEL,(0:Int),([]:List Int),(qs),[]) (fun ⟨n,o,i,c,a⟩=>([(31,qi o),(7,c)],F5 3 1 c a::L,fun hh=>iter (A6W x y) n (o,i)=some aJ∧A7 (VI .i64) hh a i)) ⟨H,aN⟩ ?_
 rintro ⟨n,o,i,c,a⟩ bX bY ⟨aO,d⟩
 obtain ⟨s,bZ,rfl,H,p⟩:=G8 aO
 refine T.norm [31,7,1,2,29,30] z<|T.fl ?_
 refine Sr<|Wl z z<|Nt<|Sq<|T.cH H z (fun H=>?_) fun H=>?_
 ·refine Ks<|Sq<|Bl<|Sr<|bE H fun m N H=>?_
  obtain ⟨b0,aP,rfl⟩:=F8.at A N
  refine Vv (V.ix U9 z z A (E9 N))<|Vv (V.ldS z aP.u (by exact K3)) ?_
  refine To (O.alloc A1R z z fun b2=>To (O.stF (vs:=[.int .u8 m.H6,qi m.J3,.string m.fA,.string m.fB,.string m.J2,qi m.fN]) K3 z z (j:=0) z z z z<|T.freeze fun b3 b4 aS=>have q:=Z0.of aS; Nt<|Bl<|Sq ?_))
  obtain ⟨aU,aV,aW⟩:=K4 H
  refine T.ck (α:=Bool) [1,2,7,9,29,30,31] (fun w=>([(35,.bool w)],F5 3 1 c a::L,fun hh=>aU=w)) ?_ ?_
  ·have H:=aV
   refine T.N8 (t:=(.vs [0,1,2,3,4,5,6,7,8,9,10,11,12,13] (.alt 14 .done .no))) 16 0 0 z z I5 (by kernel_rfl) ?_
   refine Tv z (V.fa A2w z)<|Tv z (V.M5 (k:=0) A5d z q z)<|Tv z (V.eq z z)<|Tm z z<|T.bH 39 H z (fun H=>?_) fun H=>?_
   ·refine Tv z (V.fa V7 z)<|Tv z (V.M5 (k:=4) J7 z q z)<|Tv z (V.fa N7 z)<|Tv z (V.M5 (k:=0) Q0 z f.u z)<|Tm z z<|bE H fun aX P H=>?_
    obtain ⟨b5,aY,⟨b6,rfl,b7⟩⟩:=F8.at b P
    refine Tv z (V.ix O6 z z b (E9 P))<|Tv z (V.fa A0j z)<|Tv z (V.M5 (k:=0) J7 z aY.u z)<|Tv z (V.seq z z)<|Tv z (V.pkT z z)<|Ts z z (X2 z z) (V.asg z) z ?_ T.P5
    refine T.O7 (X2 z z)<|Th<|T.mt (decide (m.J2=aX.F7)) (M7 H)
   refine T2 z z<|T2 z z<|T2 z z<|T2 z z<|Tk z<|Tv z (V.pkF z z)<|Ts z z (X2 z z) (V.asg z) z ?_ T.P5
   refine T.O7 (X2 z z)<|Th<|T.mt false (M7 H)
  rintro w b8 b9 aZ
  have H:=I7 aZ aW
  refine T.norm [35,1,2,7,9,29,30,31] z<|T.fl ?_
  refine T.cH H z (fun H=>?_) fun H=>?_
  ·refine T.N8 (t:=(.vs [0,1,2,3,5,6] (.alt 4 (.g (.v 7 (.alt 8 (.alt 9 (.alt 10 .done .no) .no) .no))) .no))) 9 1 0 z z I5 (by kernel_rfl) ?_
   refine Tm z z<|Tv z (V.fa N7 z)<|Tv z (V.M5 (k:=0) Q0 z f.u z)<|Tm z z<|Tv z (V.fa U3 z)<|Tv z (V.M5 (k:=5) D7 z q.u z)<|bE H fun bh a0 H=>Tp z z (X3 [] [0] z z) (O.G9 z (A4U b.u a0 _) z fun bl S bv bz a1=>?_) T.P5
   obtain ⟨rfl,a2⟩:=a1
   refine P7 _ a2<|T.O1 Li<|bE H fun B a3 H=>Tv z (V.H8 z z a3)<|Tp z z (X3 [] [0] z z) (O.bs A9 K8 z (e:=z) (hk:=z) (xs:=[.tmp 57]) (hv:=CO.eq (CO.cons z CO.nil)) (hw:=O3.of z) (hd:=z) fun ca=>?_) T.P5
   have C:A7 (VI .i64) S [[qi B]] ([B]:List Int):=(A7.cons z A7.nil)
   refine bE H fun U W H=>Tp z z (X3 [] [1] z z) (O.apX A9 A9 K8 z z z (j:=1) z (Src.row (j:=0) z) (O3.of z) (A7.ones VI.plain C) d.u C W z fun a4 cb cc=>?_) T.P5
   have a5:A7 (VI .i64) S (a ++ [[qi B]]) U:=A7.ap d.u C W
   refine Fr_ 1 z<|T.drop<|Ts z z (SX.one (XA.fr [] Lr z) z) (V.asg z) z ?_ T.P5
   refine T.O7 (SX.one (XA.fr [] Lr z) z)<|Bn<|Bn<|Th<|Rg<|bE H fun a6 a7 H=>Vv (V.H8 z z a7)<|Mv z<|Nt<|T.ag (s,a6,U,a4,(a ++ [[qi B]])) ⟨(D8 H p),a5⟩
  refine Sq<|T.N8 (t:=(.vs [0,1,2,3,4,5,6,7,8,9,10,11,12,13,14,15,16,17,18] (.alt 19 .done .no))) 21 0 0 z z I5 (by kernel_rfl) ?_
  refine Tv z (V.fa A2w z)<|Tv z (V.M5 (k:=0) A5d z q.u z)<|Tv z (V.eq z z)<|Tm z z<|T.bH 64 H z (fun H=>?_) fun H=>?_
  ·refine Tv z (V.fa V7 z)<|Tv z (V.M5 (k:=4) J7 z q.u z)<|Tv z (V.seq z z)<|Tm z z<|T.bH 68 H z (fun H=>?_) fun H=>?_
   ·refine T2 z z<|T2 z z<|T2 z z<|T2 z z<|Tk z<|Tv z (V.pkT z z)<|Tv z (V.pkT z z)<|Ts z z (X2 z z) (V.asg z) z ?_ T.P5
    refine T.O7 (X2 z z)<|Th<|Ct z<|Rg<|Mv z<|Vv (V.fa N7 z)<|Vv (V.M5 (k:=0) Q0 z f.u z)<|Mv z<|bE H fun cd a8 H=>To (O.G9 z (B3h b.u a8 _) z fun ce a9 cf cg ah=>?_)
    obtain ⟨ci,al,X⟩:=ah
    refine P7 _ al<|bE H fun Y Z H=>?_
    obtain ⟨cj,av,rfl⟩:=A7.get X Z
    refine Vv (V.ixR A9 z z (j:=0) z (A7.bd X Z))<|Vv (V.ldR D7 z (j:=0) z av z)<|To (O.b1 (E:=VI .i64) A9 K8 z z z z z fun ck D=>bE H fun aa ab H=>To (O.apX A9 A9 K8 z z z (j:=2) z (Src.row (j:=0) z) (O3.of z) (A7.ones VI.plain D) d.u D ab z fun az cm cn=>have ba:A7 (VI .i64) a9 (a ++ [[qi Y]]) aa:=A7.ap d.u D ab; T.fl ?_))
    refine T.fs [1] ?_
    refine T.drop<|Ag z<|Ni<|Bn<|Bn<|Th<|Rg<|bE H fun bb bc H=>Vv (V.H8 z z bc)<|Mv z<|Nt<|Fr_ 1 z<|T.drop<|T.ag (s,bb,aa,az,(a ++ [[qi Y]])) ⟨(D8 H p),ba⟩
   refine Tv z (V.fa V7 z)<|Tv z (V.M5 (k:=4) J7 z q.u z)<|Tv z (V.fa N7 z)<|Tv z (V.M5 (k:=0) Q0 z f.u z)<|Tm z z<|bE H fun co ac H=>?_
   obtain ⟨cp,be,⟨cq,rfl,cr⟩⟩:=F8.at b ac
   refine Tv z (V.ix O6 z z b (E9 ac))<|Tv z (V.fa A0j z)<|Tv z (V.M5 (k:=0) J7 z be.u z)<|Tv z (V.seq z z)<|Tv z (V.pkF z z)<|Tv z (V.pkT z z)<|Ts z z (X2 z z) (V.asg z) z ?_ T.P5
   refine T.O7 (X2 z z)<|Th<|T.cH H z (fun H=>?_) fun H=>?_
   ·refine Rg<|Mv z<|Vv (V.fa N7 z)<|Vv (V.M5 (k:=0) Q0 z f.u z)<|Mv z<|bE H fun cs bf H=>To (O.G9 z (B3h b.u bf _) z fun ct bg cu cw bi=>?_)
    obtain ⟨cx,bj,ad⟩:=bi
    refine P7 _ bj<|bE H fun ae af H=>?_
    obtain ⟨cy,bk,rfl⟩:=A7.get ad af
    refine Vv (V.ixR A9 z z (j:=0) z (A7.bd ad af))<|Vv (V.ldR D7 z (j:=0) z bk z)<|To (O.b1 (E:=VI .i64) A9 K8 z z z z z fun cA G=>bE H fun ai aj H=>To (O.apX A9 A9 K8 z z z (j:=2) z (Src.row (j:=0) z) (O3.of z) (A7.ones VI.plain G) d.u G aj z fun bm cB cC=>have bn:A7 (VI .i64) bg (a ++ [[qi ae]]) ai:=A7.ap d.u G aj; T.fl ?_))
    refine T.fs [1] ?_
    refine T.drop<|Ag z<|Ni<|Bn<|Bn<|Th<|Rg<|bE H fun bo bp H=>Vv (V.H8 z z bp)<|Mv z<|Nt<|Fr_ 1 z<|T.drop<|T.ag (s,bo,ai,bm,(a ++ [[qi ae]])) ⟨(D8 H p),bn⟩
   refine T.skip<|Bn<|Bn<|Th<|Rg<|bE H fun bq br H=>Vv (V.H8 z z br)<|Mv z<|Nt<|T.ag (s,bq,i,c,a) ⟨(D8 H p),d.u⟩
  refine T2 z z<|T2 z z<|T2 z z<|T2 z z<|T2 z z<|T2 z z<|T2 z z<|Tv z (V.pkF z z)<|Ts z z (X2 z z) (V.asg z) z ?_ T.P5
  refine T.O7 (X2 z z)<|Th<|Cf z<|T.skip<|Bn<|Bn<|Th<|Rg<|bE H fun bt bu H=>Vv (V.H8 z z bu)<|Mv z<|Nt<|T.ag (s,bt,i,c,a) ⟨(D8 H p),d.u⟩
 refine T.exit<|Te<|Te<|have H:=D6 H p; Be<|Th<|have H:=I7 H aM; Sm z<|bE H fun cD bw H=>To (O.G9 z (C1m d bw _) z fun cE cG cI cJ bx=>?_)
 obtain ⟨cK,rfl,bA,bB⟩:=bx
 refine P7 _ bA<|Nt<|Sm z<|bE H fun cM bC H=>To (O.G9 z (B7A bB bC _) z fun cN cO cP cS bD=>?_)
 obtain ⟨cU,bG,bI⟩:=bD
 refine P7 _ bG<|Ag z<|Nr ?_
 cases H
 exact T.rl z (Rv z) ⟨_,z,bI⟩
end Go.Proofs.X
open Go Go.Proofs Go.Proofs.Tryz Go.Sl Go.Dm
namespace Go.Proofs.X
theorem C1S:O5 prog 202 5=some 5:=by kernel_rfl
theorem C4k:U6 prog 200=some (false,1):=by kernel_rfl
theorem A9W:zer prog 84=some (.slice none 0 0):=by kernel_rfl
theorem C0F {h a b c d e} (f:Z0 h b c) (g:I6 h c d) (H:A8j a d=some e):∀ L,FnW prog 238 [.int .i64 a,.pointer (some b)] h L (.bool e):=by
 intro L
 obtain ⟨i,rfl,j⟩:=g
 refine J6.enter func238 z z z<|Sr<|An z<|Sm z<|Wl z z<|Mv z<|T.bH 6 H z (fun H=>?_) fun H=>?_
 ·exact S2<|S2<|Kt z<|Ag z<|Nr<|E1 H
 refine Mv z<|Vv (V.ldS z f (by exact J5)) ?_
 exact bE H fun o k H=>To (O.cs (A2j ⟨i,z,j⟩ k _) fun q s=>Vv (V.ge z z)<|Kf z<|Ag z<|Nr<|E1 H)
theorem C0Q {h a b c d e} (i:Z0 h b c) (j:(VSl (VI .i64) 1) h c d) (H:A8s a d=some e):∀ L,FnW prog 241 [.int .i64 a,.pointer (some b)] h L (.bool e):=by
 intro L
 obtain ⟨m,rfl,f⟩:=j
 refine J6.enter func241 z z z<|Sr<|An z<|Sr<|Vv (V.S9 E5 z i z)<|Mv z<|bE H fun n g H=>?_
 obtain ⟨o,k,rfl⟩:=F8.at f g
 exact Vv (V.ix A9 z z f (E9 g))<|Vv (V.S9 D7 z k z)<|Mv z<|Wn z z<|Ag z<|Nr<|E1 H
theorem C1w {h s m w n x} (E:I6 h s m) (a:F8 (VI .i64) 1 h w n) (H:A1F m n=some x):∀ L,FnW prog 240 [.agg s.toArray,w] h L (.bool x):=by
 intro L
 obtain ⟨o,rfl,c⟩:=E
 refine J6.enter func240 z z z<|Sr<|To (O.U5 z z z fun aD aE aG d=>An z<|Sq<|Sm z<|Vv (V.Q3 A9 z a)<|Mv z<|Nt ?_)
 obtain ⟨G,I,p⟩:=K4 H
 have H:=I
 refine Bl<|T.lk [1,2,8] (FUEL,(0:Int)) (fun ⟨e,b⟩=>([(9,qi b)],L,fun hh=>iter (A7I m n) e b=some G)) H ?_
 rintro ⟨e,b⟩ aI aJ J
 obtain ⟨K,aK,rfl,H,j⟩:=G8 J
 refine T.norm [9,1,2,8] z<|T.fl ?_
 refine Sr<|Wl z z<|Nt<|Sq<|T.cH H z (fun H=>?_) fun H=>?_
 ·refine Ks<|Sq<|Bl<|Sm z<|An z<|Sq<|Sq<|T.N8 (t:=(.vs [0,1,2,4,5,6,7,8,9] (.alt 3 (.g (.alt 10 (.g (.v 11 .done)) .no)) .no))) 13 0 0 z z I5 (by kernel_rfl) ?_
  refine Tv z (V.fa Y1 z)<|Tv z (V.M5 (k:=4) E5 z d.u z)<|Tm z z<|Tv z (V.fa Y1 z)<|Tv z (V.M5 (k:=4) E5 z d.u z)<|Tm z z<|Tm z z<|bE H fun aM y H=>?_
  obtain ⟨aN,M,rfl⟩:=F8.at a y
  refine Tv z (V.ix A9 z z a (E9 y))<|Tv z (V.S9 D7 z M.u z)<|bE H fun aO N H=>Tp z z (X2 z z) (O.G9 z (A1Z c.u N _) z fun aP aS aU aV P=>?_) T.P5
  obtain ⟨rfl,S⟩:=P
  refine P7 _ S<|T.O1 Li<|bE H fun aW U H=>Tp z z (X2 z z) (O.G9 z (A1Z c.u U _) z fun aX aY aZ a0 W=>?_) T.P5
  obtain ⟨rfl,X⟩:=W
  refine P7 _ X<|T.O1 Li<|Tv z (V.bne underlying4 z z)<|T.O7 (X2 z z)<|Th<|T.cH H z (fun H=>?_) fun H=>?_
  ·exact Sg z<|Nr<|Tr<|Br<|Tr<|Tr<|have H:=D6 H j; Br<|Tr<|have H:=I7 H p; E1 H
  refine Ks<|Sm z<|Mv z<|Nt<|T.A0L ?_
  obtain ⟨Y,Z,r⟩:=K4 H
  have H:=Z
  refine Bl<|T.lk [1,2,5,8,9,24] (FUEL,(0:Int)) (fun ⟨f,i⟩=>([(25,qi i)],L,fun hh=>iter (A4Z m n b) f i=some Y)) H ?_
  rintro ⟨f,i⟩ a1 a2 aa
  obtain ⟨ab,a3,rfl,H,q⟩:=G8 aa
  refine T.norm [25,1,2,5,8,9,24] z<|T.fl ?_
  refine Sr<|Wl z z<|Nt<|Sq<|T.cH H z (fun H=>?_) fun H=>?_
  ·refine Ks<|Sq<|Bl<|Sm z<|An z<|Sq<|T.N8 (t:=(.vs [0,1,2,4,5,6,7,8,9,10,11,12] (.alt 3 (.g (.alt 13 (.g (.vs [14,15,16,17,18,20,21,22,23,24,25,26,27,28] (.alt 19 (.g (.alt 29 (.g (.v 30 (.v 31 .done))) .no)) .no))) .no)) .no))) 33 0 0 z z I5 (by kernel_rfl) ?_
   refine Tv z (V.ldS z d.u (by exact J5)) ?_
   refine Tm z z<|Tm z z<|Tv z (V.ldS z d.u (by exact J5)) ?_
   refine Tm z z<|Tm z z<|bE H fun a4 A H=>?_
   obtain ⟨a5,ac,rfl⟩:=F8.at a A
   refine Tv z (V.ix A9 z z a (E9 A))<|Tv z (V.S9 D7 z ac.u z)<|Tm z z<|Tm z z<|bE H fun a6 B H=>?_
   obtain ⟨a7,ad,rfl⟩:=F8.at a B
   refine Tv z (V.ix A9 z z a (E9 B))<|Tv z (V.S9 D7 z ad.u z)<|bE H fun a8 ae H=>Tp z z (X2 z z) (O.G9 z (A6B ⟨o,z,c.u⟩ ae _) z fun a9 ah al av af=>?_) T.P5
   obtain ⟨rfl,ai⟩:=af
   refine P7 _ ai<|T.O1 Li<|bE H fun az aj H=>Tp z z (X2 z z) (O.G9 z (A6B ⟨o,z,c.u⟩ aj _) z fun ba bb bc bd ak=>?_) T.P5
   obtain ⟨rfl,am⟩:=ak
   refine P7 _ am<|T.O1 Li<|Tv z (V.bne underlying4 z z)<|Tm z z<|T.bH 43 H z (fun H=>?_) fun H=>?_
   ·refine T2 z z<|T2 z z<|T2 z z<|T2 z z<|T2 z z<|T2 z z<|T.A4a z z (X2 z z) z ?_ T.P5
    refine T.O1 Lr<|T.A4a z z (X2 z z) z ?_ T.P5
    exact T.O1 Lr<|Tk z<|Tv z (V.pkT z z)<|T.O7 (X2 z z)<|Th<|Ct z<|Sg z<|Nr<|Br<|Tr<|Tr<|have H:=D6 H q; Br<|Tr<|have H:=I7 H r; Br<|Tr<|Tr<|have H:=D6 H j; Br<|Tr<|have H:=I7 H p; E1 H
   refine Tv z (V.ldS z d.u (by exact J5)) ?_
   refine Tm z z<|Tm z z<|Tv z (V.ldS z d.u (by exact J5)) ?_
   refine Tm z z<|Tm z z<|bE H fun be C H=>?_
   obtain ⟨bf,an,rfl⟩:=F8.at a C
   refine Tv z (V.ix A9 z z a (E9 C))<|Tv z (V.S9 D7 z an.u z)<|Tm z z<|Tm z z<|bE H fun bg D H=>?_
   obtain ⟨bi,ao,rfl⟩:=F8.at a D
   refine Tv z (V.ix A9 z z a (E9 D))<|Tv z (V.S9 D7 z ao.u z)<|bE H fun bj ap H=>Tp z z (X2 z z) (O.G9 z (A6C ⟨o,z,c.u⟩ ap _) z fun bk bm bn bo aq=>?_) T.P5
   obtain ⟨rfl,ar⟩:=aq
   refine P7 _ ar<|T.O1 Li<|bE H fun bp au H=>Tp z z (X2 z z) (O.G9 z (A6C ⟨o,z,c.u⟩ au _) z fun bq br bs bt aw=>?_) T.P5
   obtain ⟨rfl,ax⟩:=aw
   refine P7 _ ax<|T.O1 Li<|Tv z (V.bne underlying4 z z)<|Tv z (V.pkF z z)<|T.O7 (X2 z z)<|Th<|T.cH H z (fun H=>?_) fun H=>?_
   ·exact Sq<|T.norm [] z<|Rg<|Ag z<|Nr<|Br<|Tr<|Tr<|have H:=D6 H q; Br<|Tr<|have H:=I7 H r; Br<|Tr<|Tr<|have H:=D6 H j; Br<|Tr<|have H:=I7 H p; E1 H
   refine T.skip<|Bn<|Th<|T.norm [1,2,5,8,9,24,25] z<|Rg<|bE H fun ay aA H=>Vv (V.H8 z z aA)<|Mv z<|Nt<|T.ag (ab,ay) (D8 H q)
  refine T.exit<|Te<|Te<|have H:=D6 H q; Be<|Th<|have H:=I7 H r; Bn<|Th<|Rg<|bE H fun aB aC H=>Vv (V.H8 z z aC)<|Mv z<|Nt<|T.ag (K,aB) (D8 H j)
 exact T.exit<|Te<|Te<|have H:=D6 H j; Be<|Th<|have H:=I7 H p; Sg z<|Nr<|E1 H
theorem B3w {σ:Type} {R:σ→PH→List D9→Prop} {q:σ→(List Int)→Option (σ×Bool)} {r:σ} {q_s:σ} {h C La D E G} (s:B9T R h C q) (hRa:R r h La) (o:Z0 h D E) (Z:I6 h E G) (H:A3M q r G=some q_s):∀ As L,J6 prog 252 [C,.pointer (some D)] h ((As ++ (La ++ L))) (fun v h' L'=>∃ La',v=.tuple #[]∧L'=(As ++ (La' ++ L))∧R q_s h' La'):=by
 intro As L
 obtain ⟨aa,rfl,ab⟩:=Z
 refine J6.enter func252 z z z<|Sr<|Vv (V.fa A2W z)<|Vv (V.M5 (k:=1) A5Z z o z)<|bE H fun ⟨ac,bs⟩ ad H=>To (O.G9 z (A2H ad _) z fun bt bu bw ae af=>?_)
 obtain ⟨ai,aj,ak,am,an,rfl,ao,ap,aq,ar,au,I⟩:=af
 refine P7 _ ao<|Mv z<|Wx z z<|Wx z z<|To (O.alloc A7p z z fun bx=>To (O.stF (vs:=[.string ac.A7b,ai,aj,ak,am,an]) A0y z z (j:=0) z z (by (simp only [BT,ap.1.1,aq.1.1,ar.1.1,au.1.1,I.1.1]) <;> rfl) z ?_))
 refine T.freeze fun bA aw ax=>have ay:=Z0.of ax; An z<|Sr<|Vv (V.ldS z o.u (by exact J5)) ?_
 refine bE H fun J aA H=>To (O.cs (A2j ⟨aa,z,ab.u⟩ aA _) fun aB aC=>An z<|Sr<|Vv (V.fa C1S z)<|Vv (V.M5 (k:=5) C4k z ay.u z)<|Vv (V.fa Y2 z)<|Vv (V.M5 (k:=2) D7 z o.u z)<|Vv (V.fa A0K z)<|Vv (V.M5 (k:=3) D7 z o.u z)<|bE H fun aG aI H=>?_)
 obtain ⟨bD,bG,bI,aJ,aK⟩:=B1B.call (I.u (g:=aB)) aI
 refine To (O.A1e z aJ z (aK _) z fun bJ bK bM aM aN=>?_)
 obtain ⟨aO,t⟩:=aN
 refine P7 _ aO<|Vv (V.Q3 A1L z t)<|Mv z<|Nt<|T.A0L ?_
 obtain ⟨aP,aS,K⟩:=K4 H
 have H:=aS
 refine Bl<|have aU:=(((ae.trans aw).trans aC).trans aM); have aV:=s.2.1 _ _ _ _ aU hRa; T.lk [0,5,24,25] (FUEL,r,(0:Int),La) (fun ⟨d,e,f,a⟩=>([(26,qi f)],(As ++ (a ++ L)),fun hh=>iter (A0C q J aG) d (e,f)=some aP∧R e hh a)) ⟨H,aV⟩ ?_
 rintro ⟨d,e,f,a⟩ aW bN ⟨aX,M⟩
 obtain ⟨aY,bO,rfl,H,w⟩:=G8 aX
 refine T.norm [26,0,5,24,25] z<|P7 ((As ++ (a ++ L))) z<|Sr<|Wl z z<|Nt<|Sq<|T.cH H z (fun H=>?_) fun H=>?_
 ·refine Ks<|Sq<|Bl<|Sr<|bE H fun aZ N H=>?_
  obtain ⟨bP,a0,⟨bS,rfl,a1⟩⟩:=F8.at t N
  refine Vv (V.ix A1L z z t (E9 N))<|Vv (V.S9 A5H z a0.u z)<|An z<|Sm z<|bE H fun x P H=>To (O.mkX A9 K8 z z z z P z fun y bU bV=>have S:A7 (VI .i64) aW _ x:=A7.rep z P; An z<|Sq<|Sm z<|Vv (V.A4x A9 z (j:=0) z S.len)<|Mv z<|Nt ?_)
  obtain ⟨a2,a3,a4⟩:=K4 H
  have H:=a3
  refine Bl<|T.lk [0,5,7,24,25,26,33] (FUEL,(0:Int),x,(List.replicate J.toNat [qi 0])) (fun ⟨i,c,m,b⟩=>([(34,qi c),(8,y)],F5 3 1 y b::(As ++ (a ++ L)),fun hh=>iter (A1a aZ x) i (c,m)=some a2∧A7 (VI .i64) hh b m)) ⟨H,S⟩ ?_
  rintro ⟨i,c,m,b⟩ a5 a6 ⟨a7,n⟩
  obtain ⟨a8,bW,rfl,H,U⟩:=G8 a7
  refine T.norm [34,8,0,5,7,24,25,26,33] z<|P7 (F5 3 1 y b::(As ++ (a ++ L))) z<|Sr<|Wl z z<|Nt<|Sq<|T.cH H z (fun H=>?_) fun H=>?_
  ·refine Ks<|Sq<|Bl<|Sm z<|An z<|Rg<|Mv z<|Mv z<|Mv z<|Mv z<|bE H fun p a9 H=>?_
   obtain ⟨bX,bY,bZ,ah,al⟩:=A8M.call (a1.u (g:=a5)) a9
   refine To (O.A1e z ah z (al _) z fun b0 W b1 b2 av=>?_)
   obtain ⟨rfl,az⟩:=av
   refine P7 _ az<|bE H fun b3 A H=>?_
   obtain ⟨b4,b5,rfl⟩:=A7.get n A
   refine Vv (V.ixR A9 z z (j:=0) z (A7.bd n A))<|bE H fun X ba H=>To (O.stR D7 z z (j:=0) z (A7.bdN n A) z<|have bb:A7 (VI .i64) W (b.set c.toNat [qi p]) X:=A7.set n.u (show (VI .i64) W [qi p] p from z) ba; Ni<|Bn<|Th<|Rg<|bE H fun bc be H=>Vv (V.H8 z z be)<|Mv z<|Nt<|T.ag (a8,bc,X,(b.set c.toNat [qi p])) ⟨(D8 H U),bb⟩)
  refine T.exit<|Te<|Te<|have H:=D6 H U; Be<|Th<|have H:=I7 H a4; Sm z<|Mv z<|T.K5 fun b6 bf bg=>have bi:=A7.slc bg n.u; bE H fun ⟨bj,b7⟩ bk H=>have bm:=(a6.trans bf); have bn:=s.2.1 _ _ _ _ bm M; To (O.A3R z z (B9T.call s.u bi bn bk As _) z fun b8 b9 bh bl bo=>?_)
  obtain ⟨B,rfl,bp,Y⟩:=bo
  refine P7 ((As ++ (B ++ L))) bp<|Vv (V.not z)<|Nt<|T.cH H z (fun H=>?_) fun H=>?_
  ·refine T.ret<|Br<|Tr<|Tr<|have H:=D6 H w; Br<|Tr<|have H:=I7 H K; ?_
   cases H
   exact T.C5a results252 Li ⟨B,z,z,Y⟩
  refine T.skip<|Bn<|Th<|Rg<|bE H fun bq br H=>Vv (V.H8 z z br)<|Mv z<|Nt<|T.ag (aY,bj,bq,B) ⟨(D8 H w),Y⟩
 refine T.exit<|Te<|Te<|have H:=D6 H w; Be<|Th<|have H:=I7 H K; ?_
 cases H
 exact T.A0Q results252 Li ⟨a,z,z,M⟩
theorem B6c {h b c a} (d:I6 h b c) (H:A8I c=some a):∀ L,J6 prog 239 [.agg b.toArray] h (L) (fun v h' L'=>∃ p0_1 v0_3,v=.func (.func 252) #[] #[.pointer (some p0_1)]∧L'=L∧Z0 h' p0_1 [.string a.F7,.int .u8 a.Q4,.int .i64 a.fA,.int .i64 a.fB,v0_3,.int .i64 a.fX,.int .i64 a.fY]∧F8 (VI .i64) 1 h' v0_3 a.A2M):=by
 intro L
 obtain ⟨g,rfl,e⟩:=d
 refine J6.enter func239 z z z<|Sr<|To (O.U5 z z z fun i j k f=>An z<|Sr<|Vv (V.mkf z z)<|Ag z<|Nr ?_)
 cases H
 exact T.rl z (Rv z) ⟨_,_,z,z,f,e.u⟩
theorem C3i {h B k C s D} (P:I6 h B k) (t:F8 (VI .i64) 1 h C s) (H:B4g k s=some D):∀ L,J6 prog 216 [.agg B.toArray,C] h (L) (fun v h' L'=>∃ E,L'=F5 30 1 v E::L∧A7 (VSl (VI .i64) 1) h' E D):=by
 intro L
 obtain ⟨m,rfl,n⟩:=P
 refine J6.B5X func216 z ntmps216 z<|Sr<|To (O.U5 z z z fun G bm bn o=>To (O.U5 z (F8.cells t) z fun bo bp bq I=>An z<|Sq<|Sq ?_))
 obtain ⟨U,W,X⟩:=K4 H
 refine T.ck (α:=Bool) [2,3] (fun g=>([(14,.bool g)],L,fun hh=>U=g)) ?_ ?_
 ·have H:=W
  refine Rg<|Vv (V.ldS z o.u (by exact J5)) ?_
  refine bE H fun br Y H=>To (O.cs (B0T ⟨m,z,n.u⟩ Y _) fun Z bw=>Wn z z<|Mv z<|T.bH 10 H z (fun H=>?_) fun H=>?_)
  ·refine S2<|Sk<|Kt z<|Nt<|T.mt true (M7 H)
  refine Vv (V.S9 E5 z I.u z)<|Vv (V.mkf z z)<|bE H fun ac ad H=>To (O.G9 z (A7f t.u (show A2z Z (.func (.func 238) #[] #[qp G]) (fun w=>A8j w k) from ⟨⟨z,z⟩,.inr ⟨238,[],[qp G],z,fun bx bA bB bC ae af=>C0F o.u ⟨m,z,n.u⟩ ae af⟩⟩) ad _) z fun bD bG bI bJ ag=>?_)
  obtain ⟨rfl,ai⟩:=ag
  refine P7 _ ai<|Kf z<|Nt<|T.mt ac (M7 H)
 rintro g aj bK ak
 have H:=I7 ak X
 refine T.norm [14,2,3] z<|T.fl ?_
 refine T.cH H z (fun H=>?_) fun H=>?_
 ·refine Sg z<|Nr<|Tr<|T.R4 30 1<|have am:A7 (VSl (VI .i64) 1) aj [] ([]:List (List Int)):=A7.nil; T.A6l ?_
  cases H
  exact T.A1U (L':=F5 30 1 (qs) []::L) results216 (Rv z) Li (fun _ iv=>iv) ⟨_,z,am⟩
 refine Ks<|Sr<|To (O.alloc A9W z z fun i=>Nt<|Sq<|Sr<|Vv (V.ldS z o.u (by exact J5)) ?_)
 refine bE H fun bM an H=>To (O.G9 z (B6c ⟨m,z,n.u⟩ an _) z fun bN J bO bP ao=>?_)
 obtain ⟨bS,aq,rfl,ar,au,aw⟩:=ao
 refine P7 _ ar<|Nt<|Bl ?_
 obtain ⟨bU,ax,ay⟩:=K4 H
 refine T.R4 30 1<|have aA:A7 (VSl (VI .i64) 1) J [] ([]:List (List Int)):=A7.nil; Fr_ 1 z<|T.B8d (S:=(List (List Int))) (O:=Unit) (La0:=[blk i (.cells [(qs)].toArray 84),F5 30 1 (qs) []]) (Lr:=L) (fun p hh aB=>∃ b:Value,∃ a:List (List Value),aB=([blk i (.cells [b].toArray 84),F5 30 1 b a]:List D9)∧A7 (VSl (VI .i64) 1) hh a p) (fun _ _ _ _=>False) z z ⟨(qs),[],z,aA⟩ (fun R_ y_=>B9T R_ J y_ (A9g k s)) (fun bV=>⟨⟨z,z⟩,RYs.mono (fun p _ _ _ l_ ⟨b,a,e_,f0_⟩=>⟨b,a,e_,A7.mono (VSl.mono VI.mono) f0_ l_⟩) (fun _ _ _ _ _ _ q_=>q_),?_⟩) (fun _ La_ aC aD aE=>J6.perm (List.Perm.refl _) (B3w aC aD au ⟨aq,z,aw⟩ ax [] aE) fun _ _ _ ⟨La_,_,e_,q_⟩=>⟨_,List.Perm.refl _,La_,e_,q_⟩) ?_ ?_
 ·intro bW bX c x d aG bY bZ b0 aI H As_ L_
  rcases aG with p | _
  rotate_left
  ·exact dead H
  obtain ⟨b1,_,rfl,q,aJ,b2,b,a,rfl,f⟩:=aI
  refine Yld.front fun L=>Yld.B7N (j:=0) z q z<|T.fl ?_
  refine Rg<|To (O.alloc A1I z z fun K=>To (O.stF (vs:=[c]) E5 z z (j:=0) z (F8.cells d) (by (simp only [BT,F8.one d]) <;> rfl) z ?_))
  refine T.fl ?_
  refine T.freeze fun b3 b4 aK=>have y:=Z0.of aK; Nt<|T.begin (j:=0) z aJ<|T.fl ?_
  refine Bl<|Sr<|Vv (V.ldS z o.u (by exact J5)) ?_
  refine Vv (V.S9 E5 z y z)<|bE H fun b5 aM H=>To (O.cs (C1w ⟨m,z,n.u⟩ d.u aM _) fun aN b8=>Mv z<|T.bH 21 H z (fun H=>?_) fun H=>?_)
  ·refine Vv (V.S9 E5 z I.u z)<|Vv (V.mkf z z)<|bE H fun b9 aS H=>To (O.cs (A7f t.u (show A2z aN (.func (.func 241) #[] #[qp K]) (fun w=>A8s w x) from ⟨⟨z,z⟩,.inr ⟨241,[],[qp K],z,fun aU bh bl bv aV aW=>C0Q y.u (show (VSl (VI .i64) 1) aU [c] x from ⟨c,z,d.u⟩) aV aW⟩⟩) aS _) fun M cb=>Vv (V.not z)<|Kt z<|Nt<|T.cH H z (fun H=>?_) fun H=>?_)
   ·refine Rg<|Vv (V.A8Z U1 z (j:=1) z z)<|Vv (V.S9 E5 z y.u z)<|To (O.bs J9 A1I z (e:=z) (hk:=z) (xs:=[.tmp 28]) (hv:=CO.eq (CO.cons (F8.cells d) CO.nil)) (hw:=O3.of z) (hd:=z) fun cc=>have A:A7 (VSl (VI .i64) 1) M [[c]] ([x]:List (List Int)):=(A7.cons ⟨c,z,d.u⟩ A7.nil); bE H fun aZ N H=>To (O.apX J9 J9 A1I z z z (j:=3) z (Src.row (j:=0) z) (O3.of z) (A7.ones VSl.plain A) f.u A N z fun r cd ce=>have a0:A7 (VSl (VI .i64) 1) M (a ++ [[c]]) aZ:=A7.ap f.u A N; T.fl ?_))
    refine T.fs [1] ?_
    refine T.drop<|T.Q9 0 z fun a1 a2=>To (O.stF (vs:=[r]) U1 z z (j:=2) z a2 (by (simp only [BT,a1]) <;> rfl) z ?_)
    refine T.fl ?_
    refine Ni<|Bn<|T.fs [1,1,2] ?_
    cases H
    exact T.B8D (j:=0) z Li ⟨_::[blk i (.cells [r].toArray 84),F5 30 1 r (a ++ [[c]])],z,z,⟨_,_,z,q.turn .ready none,z,z,⟨r,(a ++ [[c]]),z,a0⟩⟩⟩
   refine T.skip<|Bn ?_
   cases H
   exact T.B8D (j:=0) z Li ⟨_::[blk i (.cells [b].toArray 84),F5 30 1 b a],z,z,⟨_,_,z,q.turn .ready none,z,z,⟨b,a,z,f.u⟩⟩⟩
  refine S2<|S2<|Kf z<|Nt<|Cf z<|T.skip<|Bn ?_
  cases H
  exact T.B8D (j:=0) z Li ⟨_::[blk i (.cells [b].toArray 84),F5 30 1 b a],z,z,⟨_,_,z,q.turn .ready none,z,z,⟨b,a,z,f.u⟩⟩⟩
 ·rintro cf a3 _ p cg a4 ⟨b,a,rfl,f⟩
  have H:=I7 a4 ay
  refine T.fl ?_
  refine Bn<|Th<|Sr<|Vv (V.A8Z U1 z (j:=1) z z)<|T.fs [2] ?_
  refine bE H fun ci a5 H=>To (O.G9 z (B5O f (show B0B a3 (.func (.func 243) #[] #[]) A3B from ⟨⟨z,z⟩,.inr ⟨243,[],[],z,fun cj ck cm cn a6 co cp a7 cq a8 a9=>B8b a6 a7 a8 a9⟩⟩) a5 _) z fun cr ah cs ct al=>?_)
  obtain ⟨cu,rfl,av,az⟩:=al
  refine P7 _ av<|Nt<|Sr<|Vv (V.A8Z U1 z (j:=2) z z)<|bE H fun cw ba H=>To (O.G9 z (B2Q az (show B7s ah (.func (.func 245) #[] #[]) A2S from ⟨⟨z,z⟩,.inr ⟨245,[],[],z,fun cx cy cA cB bb cC cD bc cE bd be=>B9S bb bc bd be⟩⟩) ba _) z fun bf cG cI cJ bg=>?_)
  obtain ⟨bi,bj,bk⟩:=bg
  refine P7 _ bj<|Ag z<|Nr<|T.fs [2] ?_
  refine T.drop<|Fr_ 1 z<|T.A6l<|T.B1e (j:=0) z<|T.fl ?_
  cases H
  exact T.A1U (L':=F5 30 1 bf bi::L) results216 (Rv z) Li (fun _ iv=>iv) ⟨_,z,bk⟩
 rintro _ _ _ _ _ _ _ ⟨⟩
end Go.Proofs.X
open Go Go.Proofs Go.Proofs.Tryz Go.Sl Go.Dm
namespace Go.Proofs.X
theorem C1z {h q g i r} (C:O8 h q g) (H:B6e g i=some r):∀ L,J6 prog 167 [.agg q.toArray,.int .i64 i] h (L) (fun v h' L'=>∃ s,L'=F5 30 1 v s::L∧A7 (VSl (VI .i64) 1) h' s r):=by
 intro L
 obtain ⟨D,G,I,J,K,rfl,f,M,N,P,S⟩:=C
 refine J6.enter func167 z z z<|Sr<|To (O.U5 z z z fun aM aN aO m=>An z<|Sr<|An z<|Sq<|Sr<|Vv (V.ldS z m (by exact J4)) ?_)
 refine Mv z<|bE H fun U W H=>To (O.G9 z (C0n ⟨D,G,I,J,K,z,f.u,M.u,N.u,P.u,S.u⟩ W _) z fun X Y aP aS Z=>?_)
 obtain ⟨aa,ab,n⟩:=Z
 refine P7 _ ab<|Vv (V.A4x A9 z (j:=0) z n.len)<|Mv z<|Nt ?_
 obtain ⟨ac,ad,ae⟩:=K4 H
 have H:=ad
 refine Bl<|T.R4 3 1<|have af:A7 (VI .i64) Y [] ([]:List Int):=A7.nil; Fr_ 1 z<|T.lk [1,2,10,11] (FUEL,(0:Int),([]:List Int),(qs),[]) (fun ⟨b,c,d,e,a⟩=>([(12,qi c),(5,e)],F5 3 1 X aa::F5 3 1 e a::L,fun hh=>iter (A7R g i U) b (c,d)=some ac∧A7 (VI .i64) hh a d)) ⟨H,af⟩ ?_
 rintro ⟨b,c,d,e,a⟩ aU aV ⟨ai,o⟩
 obtain ⟨aj,aW,rfl,H,t⟩:=G8 ai
 refine T.norm [12,5,1,2,10,11] z<|T.fl ?_
 refine Sr<|Wl z z<|Nt<|Sq<|T.cH H z (fun H=>?_) fun H=>?_
 ·refine Ks<|Sq<|Bl<|Sr<|bE H fun aX w H=>?_
  obtain ⟨aY,ak,rfl⟩:=A7.get n w
  refine Vv (V.ixR A9 z z (j:=0) z (A7.bd n w))<|Vv (V.ldR D7 z (j:=0) z ak z)<|An z<|Rg<|Mv z<|Mv z<|Vv (V.fa N7 z)<|Vv (V.M5 (k:=0) Q0 z m.u z)<|Mv z<|bE H fun aZ am H=>To (O.cs (A4U f.u am _) fun an a2=>bE H fun x ar H=>Vv (V.Y9 z z ar)<|To (O.b1 (E:=VI .i64) A9 K8 z z z z z fun a3 p=>bE H fun y A H=>To (O.apX A9 A9 K8 z z z (j:=2) z (Src.row (j:=0) z) (O3.of z) (A7.ones VI.plain p) o.u p A z fun au a4 a5=>have aw:A7 (VI .i64) an (a ++ [[qi x]]) y:=A7.ap o.u p A; T.fl ?_)))
  refine T.fs [1] ?_
  refine T.drop<|Ag z<|Ni<|Bn<|Th<|Rg<|bE H fun ax ay H=>Vv (V.H8 z z ay)<|Mv z<|Nt<|Fr_ 1 z<|T.ag (aj,ax,y,au,(a ++ [[qi x]])) ⟨(D8 H t),aw⟩
 refine T.exit<|Te<|Te<|have H:=D6 H t; Be<|Th<|have H:=I7 H ae; Sr<|Vv (V.fa N7 z)<|Vv (V.M5 (k:=0) Q0 z m.u z)<|Mv z<|bE H fun a6 B H=>?_
 obtain ⟨a7,aA,⟨aB,rfl,aC⟩⟩:=F8.at f B
 refine Vv (V.ix O6 z z f (E9 B))<|Vv (V.ldS z aA.u (by exact J5)) ?_
 refine Mv z<|Fr_ 1 z<|T.K5 fun a8 a9 aD=>have aE:=A7.slc aD o.u; bE H fun ah aG H=>To (O.G9 z (C3i ⟨aB,z,aC.u⟩ aE aG _) z fun al av az ba aI=>?_)
 obtain ⟨bb,aJ,aK⟩:=aI
 refine P7 _ aJ<|Ag z<|Nr<|Fr_ 1 z<|T.drop ?_
 cases H
 exact T.rl z (Rv z) ⟨_,z,aK⟩
theorem C1D {h d e f g} (w:O8 h d e) (H:B2x e f=some g):∀ L,J6 prog 121 [.agg d.toArray,.int .i64 f] h (L) (fun v h' L'=>∃ i,L'=F5 30 1 v i::L∧A7 (VSl (VI .i64) 1) h' i g):=by
 intro L
 obtain ⟨j,m,n,o,p,rfl,a,q,r,s,t⟩:=w
 refine J6.enter func121 z z z<|Sr<|To (O.U5 z z z fun K M N b=>An z<|Sq<|Sr<|Vv (V.ldS z b (by exact J4)) ?_)
 refine bE H fun ⟨P,S⟩ x H=>To (O.cs (A5j ⟨j,m,n,o,p,z,a.u,q.u,r.u,s.u,t.u⟩ x _) fun c X=>Mv z<|Wx z z<|Wx z z<|Ag z<|An z<|Sm z<|Wn z z<|Mv z<|T.bH 14 H z (fun H=>?_) fun H=>?_)
 ·refine S2<|Kt z<|Mv z<|S2<|S2<|Sk<|Kt z<|Nt<|Ct z<|Sg z<|Nr<|Tr<|T.R4 30 1<|have B:A7 (VSl (VI .i64) 1) c [] ([]:List (List Int)):=A7.nil; ?_
  cases H
  exact T.rl z (Rv z) ⟨_,z,B⟩
 refine Mv z<|Wl z z<|Kf z<|Mv z<|T.bH 18 H z (fun H=>?_) fun H=>?_
 ·refine S2<|S2<|Sk<|Kt z<|Nt<|Ct z<|Sg z<|Nr<|Tr<|T.R4 30 1<|have C:A7 (VSl (VI .i64) 1) c [] ([]:List (List Int)):=A7.nil; ?_
  cases H
  exact T.rl z (Rv z) ⟨_,z,C⟩
 refine Mv z<|Vv (V.fa N7 z)<|Vv (V.M5 (k:=0) Q0 z b.u z)<|Vv (V.Q3 O6 z a)<|Vv (V.ge z z)<|Kf z<|Nt<|T.cH H z (fun H=>?_) fun H=>?_
 ·refine Sg z<|Nr<|Tr<|T.R4 30 1<|have D:A7 (VSl (VI .i64) 1) c [] ([]:List (List Int)):=A7.nil; ?_
  cases H
  exact T.rl z (Rv z) ⟨_,z,D⟩
 refine Ks<|Sr<|Vv (V.ldS z b.u (by exact J4)) ?_
 refine Mv z<|bE H fun Y E H=>To (O.G9 z (C1z ⟨j,m,n,o,p,z,a.u,q.u,r.u,s.u,t.u⟩ E _) z fun Z aa ab ac G=>?_)
 obtain ⟨ad,I,J⟩:=G
 refine P7 _ I<|Ag z<|Nr ?_
 cases H
 exact T.rl z (Rv z) ⟨_,z,J⟩
theorem C1a {h A B C t n D E} (S:O8 h A B) (o:F8 (VI .i64) 1 h C t) (H:B9P B t n=some (D,E)):∀ L,FnW prog 168 [.agg A.toArray,C,.bool n] h L (.tuple #[.int .i64 D,.int .i64 E]):=by
 intro L
 obtain ⟨aK,aM,aN,aO,aP,rfl,U,W,aS,aU,aV⟩:=S
 refine J6.enter func168 z z z<|Sr<|To (O.U5 z z z fun aW aX aY G=>Ag z<|An z<|Sq<|Sm z<|Vv (V.Q3 A9 z o)<|Vv (V.fa U4 z)<|Vv (V.M5 (k:=1) O0 z G z)<|Vv (V.Q3 O9 z W)<|Wn z z<|Nt<|T.cH H z (fun H=>?_) fun H=>?_)
 ·exact Sg z<|Ag z<|Nr<|Tr<|E1 H
 refine Ks<|Sr<|Vv (V.fa N7 z)<|Vv (V.M5 (k:=0) Q0 z G z)<|bE H fun w X H=>To (O.cs (A7X U.u X _) fun Y a1=>An z<|Sm z<|bE H fun I J H=>To (O.mkX A1m A9m z z z z J z fun p a2 a3=>have ab:A7 VB Y _ I:=A7.rep z J; An z<|Sq<|Sm z<|Vv (V.Q3 A9 z o)<|Mv z<|Nt ?_))
 obtain ⟨ac,ad,q⟩:=K4 H
 have H:=ad
 refine Bl<|T.lk [2,8,23,24] (FUEL,(0:Int),I,(List.replicate w.toNat [.bool false])) (fun ⟨e,f,c,a⟩=>([(25,qi f),(9,p)],F5 4 1 p a::L,fun hh=>iter (B5p t n w) e (f,c)=some ac∧A7 VB hh a c)) ⟨H,ab⟩ ?_
 rintro ⟨e,f,c,a⟩ a4 a5 ⟨ae,b⟩
 obtain ⟨r,a6,rfl,H,d⟩:=G8 ae
 refine T.norm [25,9,2,8,23,24] z<|T.fl ?_
 refine Sr<|Wl z z<|Nt<|Sq<|T.cH H z (fun H=>?_) fun H=>?_
 ·refine Ks<|Sq<|Bl<|Sm z<|bE H fun g K H=>?_
  obtain ⟨a7,af,rfl⟩:=F8.at o K
  refine Vv (V.ix A9 z z o (E9 K))<|Vv (V.S9 D7 z af.u z)<|Ag z<|An z<|Sq<|Bl<|Sq ?_
  obtain ⟨ai,aj,ak⟩:=K4 H
  refine T.ck (α:=Bool) [2,8,9,10,11,23,24,25] (fun i=>([(30,.bool i)],F5 4 1 p a::L,fun hh=>ai=i)) ?_ ?_
  ·have H:=aj
   refine Rg<|Mv z<|We z z<|Mv z<|T.bH 33 H z (fun H=>?_) fun H=>?_
   ·refine Mv z<|Kt z<|An z<|T.mt n (M7 H)
   refine Sk<|Kf z<|An z<|T.mt false (M7 H)
  rintro i a8 a9 am
  have H:=I7 am ak
  refine T.norm [30,2,8,9,10,11,23,24,25] z<|T.fl ?_
  refine T.cH H z (fun H=>?_) fun H=>?_
  ·exact Sm z<|Ag z<|Ag z<|Nr<|Br<|Tr<|Br<|Tr<|Tr<|have H:=D6 H d; Br<|Tr<|have H:=I7 H q; T.drop<|E1 H
  refine Sq ?_
  obtain ⟨an,ao,ap⟩:=K4 H
  refine T.ck (α:=Bool) [2,8,9,10,11,23,24,25] (fun m=>([(37,.bool m)],F5 4 1 p a::L,fun hh=>an=m)) ?_ ?_
  ·have H:=ao
   refine Rg<|Mv z<|Wl z z<|Mv z<|T.bH 40 H z (fun H=>?_) fun H=>?_
   ·refine S2<|Sk<|Kt z<|An z<|T.mt true (M7 H)
   refine Mv z<|Mv z<|Vv (V.ge z z)<|Kf z<|An z<|T.mt (decide (w≤g)) (M7 H)
  rintro m s ah aq
  have H:=I7 aq ap
  refine T.norm [37,2,8,9,10,11,23,24,25] z<|T.fl ?_
  refine T.cH H z (fun H=>?_) fun H=>?_
  ·exact Sm z<|Ag z<|Ag z<|Nr<|Br<|Tr<|Br<|Tr<|Tr<|have H:=D6 H d; Br<|Tr<|have H:=I7 H q; T.drop<|E1 H
  refine Sm z<|Vv (V.ge z z)<|Mv z<|T.bH 49 H z (fun H=>?_) fun H=>?_
  ·refine Mv z<|Mv z<|bE H fun al M H=>?_
   obtain ⟨av,ar,rfl⟩:=A7.get b M
   refine Vv (V.ixR A1m z z (j:=0) z (A7.bd b M))<|Vv (V.ldR U8 z (j:=0) z ar z)<|Kt z<|An z<|T.cH H z (fun H=>?_) fun H=>?_
   ·exact Sm z<|Ag z<|Ag z<|Nr<|Br<|Tr<|Br<|Tr<|Tr<|have H:=D6 H d; Br<|Tr<|have H:=I7 H q; T.drop<|E1 H
   refine T.skip<|Bn<|Th<|Sm z<|Vv (V.ge z z)<|Nt<|T.cH H z (fun H=>?_) fun H=>?_
   ·refine Rg<|Mv z<|Mv z<|bE H fun az x H=>?_
    obtain ⟨ba,bb,rfl⟩:=A7.get b x
    refine Vv (V.ixR A1m z z (j:=0) z (A7.bd b x))<|bE H fun N au H=>To (O.stR U8 z z (j:=0) z (A7.bdN b x) z<|have aw:A7 VB s (a.set g.toNat [.bool true]) N:=A7.set b.u (show VB s [.bool true] true from z) au; Ni<|Bn<|Th<|Rg<|bE H fun ax ay H=>Vv (V.H8 z z ay)<|Mv z<|Nt<|T.ag (r,ax,N,(a.set g.toNat [.bool true])) ⟨(D8 H d),aw⟩)
   refine T.skip<|Bn<|Th<|Rg<|bE H fun aA aB H=>Vv (V.H8 z z aB)<|Mv z<|Nt<|T.ag (r,aA,c,a) ⟨(D8 H d),b.u⟩
  refine S2<|S2<|Kf z<|An z<|Cf z<|T.skip<|Bn<|Th<|Sm z<|Vv (V.ge z z)<|Nt<|T.cH H z (fun H=>?_) fun H=>?_
  ·refine Rg<|Mv z<|Mv z<|bE H fun bc y H=>?_
   obtain ⟨be,bf,rfl⟩:=A7.get b y
   refine Vv (V.ixR A1m z z (j:=0) z (A7.bd b y))<|bE H fun P aC H=>To (O.stR U8 z z (j:=0) z (A7.bdN b y) z<|have aD:A7 VB s (a.set g.toNat [.bool true]) P:=A7.set b.u (show VB s [.bool true] true from z) aC; Ni<|Bn<|Th<|Rg<|bE H fun aE aG H=>Vv (V.H8 z z aG)<|Mv z<|Nt<|T.ag (r,aE,P,(a.set g.toNat [.bool true])) ⟨(D8 H d),aD⟩)
  refine T.skip<|Bn<|Th<|Rg<|bE H fun aI aJ H=>Vv (V.H8 z z aJ)<|Mv z<|Nt<|T.ag (r,aI,c,a) ⟨(D8 H d),b.u⟩
 exact T.exit<|Te<|Te<|have H:=D6 H d; Be<|Th<|have H:=I7 H q; Sg z<|Ag z<|Nr<|T.drop<|E1 H
theorem B8M {h a b c d e f g} (w:O8 h a b) (x:F8 (VI .i64) 1 h c d) (H:B6r b d e=some (f,g)):∀ L,FnW prog 122 [.agg a.toArray,c,.bool e] h L (.tuple #[.int .i64 f,.int .i64 g]):=by
 intro L
 obtain ⟨i,j,k,m,n,rfl,o,p,q,r,s⟩:=w
 refine J6.enter func122 z z z<|Sr<|To (O.U5 z z z fun G I J t=>Ag z<|An z<|Sq<|Sr<|Vv (V.ldS z t (by exact J4)) ?_)
 refine bE H fun ⟨K,M⟩ y H=>To (O.cs (A5j ⟨i,j,k,m,n,z,o.u,p.u,q.u,r.u,s.u⟩ y _) fun P U=>Mv z<|Wx z z<|Wx z z<|Ag z<|An z<|Sm z<|Wn z z<|Nt<|T.cH H z (fun H=>?_) fun H=>?_)
 ·exact Sm z<|Ag z<|Ag z<|Nr<|Tr<|E1 H
 refine Ks<|Sr<|Vv (V.ldS z t.u (by exact J4)) ?_
 exact Mv z<|Mv z<|bE H fun ⟨W,X⟩ C H=>To (O.cs (C1a ⟨i,j,k,m,n,z,o.u,p.u,q.u,r.u,s.u⟩ x.u C _) fun Z ab=>Wx z z<|Wx z z<|Ag z<|Ag z<|Nr<|E1 H)
theorem B6P {h a b c d e f} (g:O8 h a b) (i:F8 (VI .i64) 1 h c d) (H:B3d b d=some (e,f)):∀ L,FnW prog 59 [.agg a.toArray,c] h L (.tuple #[.int .i64 e,.int .i64 f]):=by
 intro L
 obtain ⟨j,k,m,n,o,rfl,p,q,r,s,t⟩:=g
 refine J6.enter func59 z z z<|Sr<|To (O.U5 z z z fun B C D w=>Ag z<|An z<|Sr<|Vv (V.ldS z w (by exact J4)) ?_)
 exact Mv z<|bE H fun ⟨E,G⟩ x H=>To (O.cs (B8M ⟨j,k,m,n,o,z,p.u,q.u,r.u,s.u,t.u⟩ i.u x _) fun J M=>Wx z z<|Wx z z<|Ag z<|Ag z<|Nr<|E1 H)
end Go.Proofs.X
