import Derived.Test.YthchjfilgaondaaGreatChecked
import Derived.KernelRfl
import Derived.Test.YthchjfilgaondaaGreatV
import Derived.Test.YthchjfilgaondaaGreatL13
import Derived.Test.YthchjfilgaondaaGreatDa
import Derived.Test.YthchjfilgaondaaGreatL9
import Derived.Test.YthchjfilgaondaaGreatWb
/- Walks. -/
set_option maxRecDepth 1000000
set_option maxHeartbeats 40000000
set_option linter.unusedVariables false
set_option linter.unusedSimpArgs false
set_option linter.unusedSectionVars false
set_option linter.unnecessarySimpa false
open Go Go.Proofs Go.Proofs.Tryz Go.Sl Go.Dm
namespace Go.Proofs.X
theorem C2u:A5A prog 150=some ([.int .i64 (0),.int .i64 (0)],[(0,1),(1,1)]):=by kernel_rfl
theorem C2x:A0B prog 150=true:=by kernel_rfl
theorem A3m:A0T prog 79=some (78,2,16):=by kernel_rfl
theorem A3C:O5 prog 153 0=some 0:=by kernel_rfl
theorem B2Z:O5 prog 153 2=some 2:=by kernel_rfl
theorem Z4:O5 prog 153 3=some 3:=by kernel_rfl
theorem A1m:O5 prog 153 4=some 4:=by kernel_rfl
theorem C1c:O5 prog 78 0=some 0:=by kernel_rfl
theorem V8:O5 prog 78 1=some 1:=by kernel_rfl
theorem A6I:O5 prog 95 0=some 0:=by kernel_rfl
theorem B5w:U1 prog 150=some (true,2):=by kernel_rfl
theorem P9:U1 prog 66=some (false,1):=by kernel_rfl
theorem C4v:U1 prog 76=some (false,1):=by kernel_rfl
theorem B7p:U1 prog 78=some (true,2):=by kernel_rfl
theorem B6J:U1 prog 79=some (false,1):=by kernel_rfl
theorem B7L:zer prog 78=some (.agg #[.int .u8 (0),.int .i64 (0)]):=by kernel_rfl
theorem B3t {h f b c g i k d q_1000} (n:Y2 h f [b]) (a:A8 (VI .i64) h c g) (o:Y2 h i k) (p:(VI .i64) h k d) (H:A6c g d=some q_1000):∀ L,FnZ prog 131 [.pointer (some f),.pointer (some i)] h (F3 3 1 b c::L) (λv h' L'=>∃ m,v=.tuple #[]∧L'=F3 3 1 b m::L∧A8 (VI .i64) h' m q_1000):=by
 intro L
 obtain rfl:=p
 refine FnZ.enter func131 z ntmps131 z<|Rg<|Vv (V.Q9 D9 z n z)<|Vv (V.Q9 D6 z o z)<|bE H λt e H=>?_
 obtain ⟨u,w,rfl⟩:=A8.get a e
 refine Vv (V.ixR A9 z z (j:=0) z (A8.bd a e))<|bE H λq r H=>To (O.stR D6 z z (j:=0) z (A8.bdN a e) z<|have s:A8 (VI .i64) h (c.set d.toNat [qi (-1)]) q:=A8.set a (show (VI .i64) h [qi (-1)] (-1:Int) from z) r; Ni ?_)
 cases H
 exact T.A0R results131 Lr ⟨_,z,z,s⟩
theorem C3K (n:Nat):∀ {h:PH} {σ:Type} {R:σ→PH→List E5→Prop} {pv0:Value} {h1:M3} (pr0:Pt Q0 h pv0 h1) {pv1:Value} {pcs1:List (List Value)} {part2:List Int} (pr1:A8 (VI .i64) h pcs1 part2) {pv2:Value} {yield4:σ→(List Int)→Option (σ×Bool)} (pr2:A7h R h pv2 yield4) {s0:σ} {La:List E5} (hRa:R s0 h La) {r_0:Bool} {q_1:List Int} {q_s:σ} (H:A6m n h1 part2 yield4 s0=some (r_0,q_1,q_s)) (As L:List E5),I7 prog 70 [pv0,pv1,pv2] h (F3 3 1 pv1 pcs1::(As++(La++L))) (λv h' L'=>∃ ls0 La',v=.bool r_0∧L'=F3 3 1 pv1 ls0::(As++(La'++L))∧A8 (VI .i64) h' ls0 q_1∧R q_s h' La'):=by
  induction n with
  | zero=>intros; rename_i H _ _; cases H
  | succ n self=>
    intro h σ R pv0 h1 pr0 pv1 pcs1 part2 pr1 pv2 yield4 pr2 s0 La hRa r_0 q_1 q_s H As L
    refine I7.B2M func70 z ntmps70 z<|Sr<|T.Q7 0 z λb2 ak=>To (O.T9 z ak z λb3 b4 B e=>An z<|T.scope<|Sq<|Sq<|T.dw (.vs [0,1,2,3,4] (.alt 5 (.g (.vs [6,7,8] (.alt 9 (.alt 10 .done .no) .no))) .no)) 12 1 1 ?_)
    refine Tm z z<|have am:=pr0; ?_
    obtain ⟨b5,_,rfl,C,⟨an,ao,ap,aq,ar,au,aw,ax,ay,rfl,S,aA,aB,aC,aD,aE,U,aG,aI⟩⟩:=am
    refine TL z z z z A6I I6 C.u z<|Tv z (V.Q9 D9 z e z)<|bE H λ⟨aJ,aK⟩ aM H=>Tp z z (X3 [0] [0] z z) (O.G6 z (I7.A6Z (val:=.tuple #[qi aJ,.bool aK]) func130 z A1x λb6 b7 aN=>?_) z λb8 b9 bh D aO=>?_) T.O4
    ·have aP:=A8.slc aN pr1.u
     exact C1X S.u aP aM _
    obtain ⟨rfl,aS⟩:=aO
    refine O8 _ aS<|T.N8 Li<|Tm z z<|Tv z (V.ext z z)<|Tv z (V.ext z z)<|Ts z z (X3 [0] [0] z z) (V.asg z) z ?_ T.O4
    refine Ts z z (X3 [0] [0] z z) (V.asg z) z ?_ T.O4
    refine T.M9 (X3 [0] [0] z z)<|Th<|Sm z<|Nt<|T.cH H z (λH=>?_) λH=>?_
    ·refine Sg z<|Nr<|Tr<|T.sgR<|T.A2Z<|have aU:=(B.trans D); have aV:=pr2.2.1 _ _ _ _ aU hRa; ?_
     cases H
     exact T.A0N (L':=F3 3 1 pv1 pcs1::(As++(La++L))) results70 (Rv z) Li (λ_ iv=>iv) ⟨_,La,z,z,pr1.u,aV⟩
    refine Ks<|Sr<|Vv (V.Q9 D9 z e.u z)<|bE H λc aW H=>To (O.G6 z (I7.A6Z (val:=qi c) func84 z A1x λbl bv aX=>?_) z λbz ca cb W aY=>?_)
    ·have aZ:=A8.slc aX pr1.u
     exact B3p aZ aW _
    obtain ⟨rfl,a0⟩:=aY
    refine O8 _ a0<|To (O.alloc J6 z z λcc=>To (O.stF (vs:=[qi c]) D6 z z (j:=0) z z z z<|T.freeze λcd X a1=>have y:=Y2.of a1; Nt<|Sq<|Sr<|Vv (V.Q9 D6 z y z)<|Wl z z<|Nt<|T.cH H z (λH=>?_) λH=>?_))
    ·refine Sm z<|Vv (V.Q9 D9 z e.u z)<|bE H λ⟨ce,cf⟩ a2 H=>have a3:=(((B.trans D).trans W).trans X); have a4:=pr2.2.1 _ _ _ _ a3 hRa; To (O.A4f z z (A7h.call pr2.u pr1.u a4 a2 As _) z λcg ci cj ck a5=>?_)
     obtain ⟨E,Y,rfl,a6,a7,a8⟩:=a5
     refine O8 (F3 3 1 pv1 Y::(As++(E++L))) a6<|Ag z<|Nr<|Tr<|T.sgR<|T.A2Z ?_
     cases H
     exact T.A0N (L':=F3 3 1 pv1 Y::(As++(E++L))) results70 (Rv z) Li (λ_ iv=>iv) ⟨_,E,z,z,a8,a7⟩
    refine Ks<|Sr<|Vv (V.mkf z z)<|To (T.dfr z<|Nt<|Sq<|T.label<|Th<|Sq<|Sm z<|NL z Z5 D9 C.u z<|Vv (V.P7 A9 z U)<|Mv z<|Nt ?_)
    obtain ⟨a9,ah,Z⟩:=J4 H
    have H:=ah
    refine Bl<|have al:=(((B.trans D).trans W).trans X); have av:=pr2.2.1 _ _ _ _ al hRa; T.lk [0,2,4,9,35] (FUEL,s0,part2,(0:Int),La,pcs1) (λ⟨q,i,m,d,a,b⟩=>([(1,pv1),(36,qi d)],F3 3 1 pv1 b::(As++(a++L)),λhh=>iter (A6M (A6m n) h1 yield4 c) q (i,m,d)=some a9∧R i hh a∧A8 (VI .i64) hh b m)) ⟨H,av,pr1.u⟩ ?_
    rintro ⟨q,i,m,d,a,b⟩ az cm ⟨ba,G,f⟩
    obtain ⟨bb,cn,rfl,H,I⟩:=G5 ba
    refine T.norm [1,36,0,2,4,9,35] z<|O8 (F3 3 1 pv1 b::(As++(a++L))) z<|Sr<|Wl z z<|Nt<|Sq<|T.cH H z (λH=>?_) λH=>?_
    ·refine Ks<|Sq ?_
     obtain ⟨bc,be,aa⟩:=J4 H
     refine T.ck (α:=σ×(List Int)×(List E5)×(List (List Value))) [0,2,4,9,35,36] (λ⟨r,s,o,p⟩=>([(1,pv1)],F3 3 1 pv1 p::(As++(o++L)),λhh=>bc=(Sum.inl (r,s))∧R r hh o∧A8 (VI .i64) hh p s)) ?_ ?_
     ·have H:=be
      refine Bl<|Sm z<|An z<|Sq<|Sr<|Vv (V.Q9 D9 z e.u z)<|Vv (V.A2p A9 z (j:=0) z f.len)<|Mv z<|Nt ?_
      obtain ⟨bf,bg,ab⟩:=J4 H
      have H:=bg
      refine Bl<|T.lk [0,1,2,4,9,10,35,36,39,40] (FUEL,(0:Int)) (λ⟨w,x⟩=>([(41,qi x)],F3 3 1 pv1 b::(As++(a++L)),λhh=>iter (A4s i m d) w x=some bf)) H ?_
      rintro ⟨w,x⟩ ac ad bi
      obtain ⟨bj,co,rfl,H,J⟩:=G5 bi
      refine T.norm [41,0,1,2,4,9,10,35,36,39,40] z<|O8 (F3 3 1 pv1 b::(As++(a++L))) z<|Sr<|Wl z z<|Nt<|Sq<|T.cH H z (λH=>?_) λH=>?_
      ·refine Ks<|Sq<|Bl<|Sr<|bE H λcp ae H=>?_
       obtain ⟨cq,bk,rfl⟩:=A8.get f ae
       refine Vv (V.ixR A9 z z (j:=0) z (A8.bd f ae))<|Vv (V.ldR D6 z (j:=0) z bk z)<|An z<|Sm z<|Mv z<|We z z<|Nt<|T.cH H z (λH=>?_) λH=>?_
       ·refine T.exit<|T.blX z<|Te<|Te<|have H:=D5 H J; T.blX z<|Te<|have H:=H7 H ab; Be<|Th<|have bm:=pr2.2.1 _ _ _ _ ad G; T.mt (i,m,a,b) ⟨(K9 H),bm,f.u⟩
       refine T.skip<|Bn<|Th<|Rg<|bE H λbn bo H=>Ws z z bo<|Mv z<|Nt<|T.ag (bj,bn) (D8 H J)
      refine Xt<|have H:=D5 H J; Be<|Th<|have H:=H7 H ab; Sr<|Vv (V.Q9 D9 z e.u z)<|Vv (V.Q9 D6 z y.u z)<|Mv z<|bE H λcr K H=>?_
      obtain ⟨cs,ct,rfl⟩:=A8.get f K
      refine Vv (V.ixR A9 z z (j:=0) z (A8.bd f K))<|bE H λbp bq H=>To (O.stR D6 z z (j:=0) z (A8.bdN f K) z<|have br:A8 (VI .i64) ac (b.set c.toNat [qi d]) bp:=A8.set f.u (show (VI .i64) ac [qi d] d from z) bq; Nt<|Sq<|Sm z<|Vv (V.Q9 D9 z e.u z)<|Mv z<|have bs:=pr2.2.1 _ _ _ _ ad G; bE H λ⟨cu,cw,bt⟩ bu H=>To (O.G6 z (self (Pt.mk C.u ⟨an,ao,ap,aq,ar,au,aw,ax,ay,z,S.u,aA.u,aB.u,aC.u,aD.u,aE.u,U.u,aG.u,aI.u⟩) br pr2.u bs bu As _) z λcx M cy cA bw=>?_))
      obtain ⟨af,N,rfl,bx,A,ai⟩:=bw
      refine O8 _ bx<|Vv (V.not z)<|Nt<|T.cH H z (λH=>?_) λH=>?_
      ·refine Sg z<|Nr<|Tr<|Br<|Tr<|have H:=D4g H aa; Tr<|have H:=D5 H I; Br<|Tr<|have H:=H7 H Z; T.sgR<|T.A2Z<|bE H λcB bA H=>T.lvZ (B3t e.u A y.u (show (VI .i64) M [qi c] c from z) bA _) λcC cD cE bB bC=>?_
       obtain ⟨bD,rfl,bG,bI⟩:=bC
       refine O8 _ bG<|have bJ:=pr2.2.1 _ _ _ _ bB ai; ?_
       cases H
       exact T.A0N (L':=F3 3 1 pv1 bD::(As++(N++L))) results70 (Rv z) Li (λ_ iv=>iv) ⟨_,N,z,z,bI,bJ⟩
      refine Ks<|Rg<|Vv (V.Q9 D9 z e.u z)<|Vv (V.Q9 D6 z y.u z)<|bE H λcG P H=>?_
      obtain ⟨cI,cJ,rfl⟩:=A8.get A P
      refine Vv (V.ixR A9 z z (j:=0) z (A8.bd A P))<|bE H λaj bK H=>To (O.stR D6 z z (j:=0) z (A8.bdN A P) z<|have bM:A8 (VI .i64) M (af.set c.toNat [qi (-1)]) aj:=A8.set A (show (VI .i64) M [qi (-1)] (-1:Int) from z) bK; Ni<|Bn<|Th<|T.mt (bt,aj,N,(af.set c.toNat [qi (-1)])) ⟨(K9 H),ai,bM⟩)
     rintro ⟨r,s,o,p⟩ cK cM ⟨bN,bO,bP⟩
     have H:=H7 bN aa
     refine T.norm [1,0,2,4,9,35,36] z<|O8 (F3 3 1 pv1 p::(As++(o++L))) z<|Rg<|bE H λbS bU H=>Ws z z bU<|Mv z<|Nt<|T.ag (bb,r,s,bS,o,p) ⟨(D8 H I),bO,bP⟩
    refine Xt<|have H:=D5 H I; Be<|Th<|have H:=H7 H Z; Sg z<|Nr<|T.sgR<|T.A2Z<|bE H λcN bV H=>T.lvZ (B3t e.u f y.u (show (VI .i64) az [qi c] c from z) bV _) λcO cP cS bW bX=>?_
    obtain ⟨bY,rfl,bZ,b0⟩:=bX
    refine O8 _ bZ<|have b1:=pr2.2.1 _ _ _ _ bW G; ?_
    cases H
    exact T.A0N (L':=F3 3 1 pv1 bY::(As++(a++L))) results70 (Rv z) Li (λ_ iv=>iv) ⟨_,a,z,z,b0,b1⟩
theorem A1r {σ:Type} {R:σ→PH→List E5→Prop} {a:σ→(List Int)→Option (σ×Bool)} {b:σ} {q_s:σ} {h c La d e f g i j} (k:A7h R h c a) (hRa:R b h La) (m:Y2 h d e) (n:(VPt Q0) h e f) (o:Y2 h g i) (p:(VSl (VI .i64) 1) h i j) (H:A0U a b f j=some q_s):∀ As L,I7 prog 69 [c,.pointer (some d),.pointer (some g)] h ((As++(La++L))) (λv h' L'=>∃ La',v=.tuple #[]∧L'=(As++(La'++L))∧R q_s h' La'):=by
 intro As L
 obtain ⟨J,rfl,q⟩:=n
 obtain ⟨K,rfl,r⟩:=p
 refine I7.enter func69 z z z<|T.dw (.vs [0,1,3] (.alt 2 (.alt 4 .done .no) .no)) 6 0 0 ?_
 refine Tv z (V.Q9 P9 z m z)<|Tv z (V.Q9 D9 z o z)<|Tm z z<|bE H λM s H=>Tp z z (X2 z z) (O.G6 z (A1f r s _) z λN P S w x=>?_) T.O4
 obtain ⟨U,y,A⟩:=x
 refine O8 _ y<|have B:=k.2.1 _ _ _ _ w hRa; bE H λ⟨W,X,Y⟩ C H=>Tp z z (SX.two (XA.fr [] Li z) (XA.fr [] Li z)) (O.G6 z (C3K _ q.u A k.u B C As _) z λZ aa ab ac D=>?_) T.O4
 obtain ⟨ad,E,rfl,G,ae,I⟩:=D
 refine O8 _ G<|T.M9 (SX.two (XA.fr [] Li z) (XA.fr [] Li z))<|T.drop ?_
 cases H
 exact T.A0R results69 Li ⟨E,z,z,I⟩
theorem A2w {h b c d e a} (f:Pt Q0 h b c) (g:G9 (VI .i64) 1 h d e) (H:A2r c e=some a):∀ L,I7 prog 28 [b,d] h (L) (λv h' L'=>∃ p0_1 v0_3 p0_5 v0_7,v=.func (.func 69) #[] #[.pointer (some p0_1),.pointer (some p0_5)]∧L'=L∧Y2 h' p0_1 [v0_3]∧Pt Q0 h' v0_3 a.1∧Y2 h' p0_5 [v0_7]∧G9 (VI .i64) 1 h' v0_7 a.2):=by
 intro L
 refine I7.enter func28 z z z<|Sr<|To (O.T9 z (Pt.cells f) z λk m n i=>To (O.T9 z (G9.cells g) z λo p q j=>An z<|Sr<|Vv (V.mkf z z)<|Ag z<|Nr ?_))
 cases H
 exact T.rl z (Rv z) ⟨_,_,_,_,z,z,i.u,f.u,j,g.u⟩
theorem B4m {h a r1 v0_1 v0_3 v0_5 css0_6 b o_} (hP0_2:Pt Q0 h v0_1 r1.A9J) (hS0_4:G9 A3B 2 h v0_3 r1.A3o) (hR0_7:A8 (VI .i64) h css0_6 r1.Q4) (H:B4c r1 b=some o_):∀ L,FnE prog 74 [.pointer (some ⟨a,0,none⟩),.int .i64 b] h (blk a (.cells [v0_1,.int .i64 r1.A7C,v0_3,.int .i64 r1.fat,v0_5].toArray 153)::F3 3 1 v0_5 css0_6::L) (PE (λq_0 v h' L'=>∃ vl0_1 cssl0_2,v=.tuple #[]∧L'=blk a (.cells [v0_1,.int .i64 r1.A7C,v0_3,.int .i64 q_0.1,vl0_1].toArray 153)::F3 3 1 vl0_1 cssl0_2::L∧A8 (VI .i64) h' cssl0_2 q_0.2) (λx_=>.iface 150 (.agg #[.int .i64 x_.fat,.int .i64 x_.fe])) L o_):=by
 intro L
 refine FnE.enter func74 z ntmps74 z<|Rg<|Mv z<|NF z Z4<|Vv (V.ldO (k:=3) D6 z (j:=0) z z)<|Mv z<|Vv (V.bld (xs:=[(0,.tmp 7),(1,.tmp 8)]) (cs:=[_,_]) C2u C2x z (F6.cons z z z (F6.cons z z z F6.nil)))<|Vv (V.mki B5w z)<|To (O.panic z<|T.drop<|T.drop ?_)
 cases H
 exact T.D1O (P:=prog) (fn:=Tryz.f74) Lr (PE.pan z)
theorem B3D (n:Nat):∀ {h:PH} {pb0:Nat} {r1:Q6} {v0_1:Value} {v0_3:Value} {v0_5:Value} {css0_6:List (List Value)} (hP0_2:Pt Q0 h v0_1 r1.A9J) (hS0_4:G9 A3B 2 h v0_3 r1.A3o) (hR0_7:A8 (VI .i64) h css0_6 r1.Q4) {last2:Int} {o_:(Int×(List Int))⊕Y9} (H:B0y n r1 last2=some o_) (L:List E5),FnE prog 73 [.pointer (some ⟨pb0,0,none⟩),.int .i64 last2] h (blk pb0 (.cells [v0_1,.int .i64 r1.A7C,v0_3,.int .i64 r1.fat,v0_5].toArray 153)::F3 3 1 v0_5 css0_6::L) (PE (λq_0 v h' L'=>∃ vl0_1 cssl0_2,v=.tuple #[]∧L'=blk pb0 (.cells [v0_1,.int .i64 r1.A7C,v0_3,.int .i64 q_0.1,vl0_1].toArray 153)::F3 3 1 vl0_1 cssl0_2::L∧A8 (VI .i64) h' cssl0_2 q_0.2) (λx_=>.iface 150 (.agg #[.int .i64 x_.fat,.int .i64 x_.fe])) L o_):=by
  induction n with
  | zero=>intros; rename_i H _; cases H
  | succ n self=>
    intro h pb0 r1 v0_1 v0_3 v0_5 css0_6 hP0_2 hS0_4 hR0_7 last2 o_ H L
    refine FnE.enter func73 z ntmps73 z<|Sq<|Sq<|T.dw (.vs [0,1,2,3,4,5,6,7,8,9] .done) 11 1 1 ?_
    refine Tm z z<|TF z z z Z4<|Tv z (Val.XA λ_ _ _=>V.ldO (k:=3) D6 z (j:=0) z z)<|Tm z z<|TF z z z B2Z<|Tv z (Val.XA λ_ _ _=>V.ldO (k:=2) B6J z (j:=0) z z)<|Tv z (V.P7 A3m z hS0_4)<|Tv z (V.eq z z)<|T.M9 (X3 [0] [0] z z)<|Th<|T.cH H z (λH=>?_) λH=>?_
    ·refine Rg<|Mv z<|bE H λax ay H=>?_
     rcases ax with br | bs
     rotate_left
     ·refine To (O.C7B z (B4m (r1:=(Q6.mk r1.A9J r1.A7C r1.A3o r1.fat r1.Q4)) hP0_2 hS0_4 hR0_7 ay _) (λ_ _ _ q=>q) λbt bu=>?_)
      cases H
      exact T.D1O (P:=prog) (fn:=Tryz.f73) Li (PE.pan z)
     exact dead H
    refine Ks<|Sq<|T.dw (.vs [0,1,2,3,4,5,6,7,8,9] (.alt 10 (.alt 11 .done .no) .no)) 13 1 1 ?_
    refine Tm z z<|TF z z z B2Z<|Tv z (Val.XA λ_ _ _=>V.ldO (k:=2) B6J z (j:=0) z z)<|Tm z z<|TF z z z Z4<|Tv z (Val.XA λ_ _ _=>V.ldO (k:=3) D6 z (j:=0) z z)<|bE H λo G H=>?_
    obtain ⟨bw,aA,rfl⟩:=G9.at hS0_4 G
    refine Tv z (V.ix A3m z z hS0_4 (E8 G))<|Tv z (V.ldS z aA (by exact B7p)) ?_
    refine Tp z z (X3 [0] [0] z z) (O.alloc B7L z z λbx=>?_) T.O4
    refine Tp z z (X3 [1] [1] z z) (O.stF (vs:=[.int .u8 o.F9,qi o.fN]) B7p z z (j:=0) z z z z ?_) T.O4
    refine T.fl ?_
    refine T.freeze λbA bB aB=>have a:=Y2.of aB; T.M9 (SX.two (XA.fr [0] Li z) (XA.fr [0] Li z))<|Th<|Sq<|Sr<|Vv (V.fa C1c z)<|Wd 0 C4v z a z<|Nt<|Bl<|Sr<|We z z<|An z<|T.cH H z (λH=>?_) λH=>?_
    ·refine Sq<|Sq<|T.dw (.vs [0,1,2,3,4,5,6,7,8,9,10,11,12,13,14,15,16,17,18,19,20,21,22,23] .done) 25 2 2 ?_
     refine Tv z (V.fa V8 z)<|Td z 1 D6 z a z<|Tv z (V.lt z z)<|Tm z z<|T.bH 37 H z dead λH=>Tv z (V.fa V8 z)<|Td z 1 D6 z a z<|Tm z z<|TF z z z A1m<|Tv z (Val.XA λ_ _ _=>V.ldO (k:=4) D9 z (j:=0) z z)<|Tv z (Val.XA λ_ _ _=>V.A2p A9 z (j:=1) z hR0_7.len)<|Tv z (V.ge z z)<|Tv z (V.pkF z z)<|Tm z z<|T.bH 47 H z dead λH=>Tm z z<|TF z z z A1m<|Tv z (Val.XA λ_ _ _=>V.ldO (k:=4) D9 z (j:=0) z z)<|Tv z (V.fa V8 z)<|Td z 1 D6 z a z<|bE H λbC I H=>?_
     obtain ⟨bD,aC,rfl⟩:=A8.get hR0_7 I
     refine Tv z (Val.XA λ_ _ _=>V.ixR A9 z z (j:=1) z (A8.bd hR0_7 I))<|Tv z (Val.XA λ_ _ _=>V.ldR D6 z (j:=1) z aC z)<|Tv z (V.ge z z)<|Tv z (V.pkF z z)<|T.M9 (X3 [1,1] [1,1] z z)<|Th<|T.cH H z dead λH=>Ks<|Sq<|T.norm [0,4] z<|T.fl ?_
     refine Rg<|Mv z<|NF z Z4<|Vv (V.ldO (k:=3) D6 z (j:=0) z z)<|bE H λJ aD H=>Ws z z aD<|NF z Z4<|To (O.st (vs:=[qi J]) (k:=3) D6 z z (j:=0) z z z<|Nt<|Sq<|Sm z<|NF z A3C<|Vv (V.ldO (k:=0) P9 z (j:=0) z z)<|have aE:=hP0_2; ?_)
     obtain ⟨aG,_,rfl,w,⟨K,M,N,S,U,W,X,Y,Z,rfl,aa,ab,ac,ad,ae,af,y,ai,aj⟩⟩:=aE
     refine NL z Z5 D9 w.u z<|Vv (V.P7 A9 z y)<|Mv z<|Nt ?_
     obtain ⟨aI,aJ,ak⟩:=J4 H
     have H:=aJ
     refine Bl<|T.lk [0,4,74] (FUEL,J,r1.Q4,(0:Int),v0_5,css0_6) (λ⟨p,b,e,c,f,d⟩=>([(75,qi c)],blk pb0 (.cells [.pointer (some aG),qi r1.A7C,v0_3,qi b,f].toArray 153)::F3 3 1 f d::L,λhh=>iter (B3G (B0y n) r1 o) p (b,e,c)=some aI∧A8 (VI .i64) hh d e)) ⟨H,hR0_7.u⟩ ?_
     rintro ⟨p,b,e,c,f,d⟩ bG bI ⟨aK,m⟩
     obtain ⟨am,bJ,rfl,H,r⟩:=G5 aK
     refine T.norm [75,0,4,74] z<|T.fl ?_
     refine Sr<|Wl z z<|Nt<|Sq<|T.cH H z (λH=>?_) λH=>?_
     ·refine Ks<|Sq<|Bl<|Sm z<|An z<|Sm z<|NF z A1m<|Vv (V.ldO (k:=4) D9 z (j:=0) z z)<|Mv z<|Fr_ 1 z<|bE H λaM aN H=>To (O.G6 z (I7.A6Z (val:=.bool aM) func39 z A1x λbK bM aO=>?_) z λbN an bO bP aP=>?_)
      ·have aS:=A8.slc aO m.u
       exact A2f aS aN _
      obtain ⟨rfl,aU⟩:=aP
      refine O8 _ aU<|Vv (V.not z)<|Nt<|T.cH H z (λH=>?_) λH=>?_
      ·refine Sq<|Fr_ 1 z<|T.dw (.vs [0,1,2,3,4,5,6] (.x 7 (.alt 8 .done .no))) 8 2 1 ?_
       refine Tm z z<|TF z z z A1m<|Tv z (Val.XA λ_ _ _=>V.ldO (k:=4) D9 z (j:=0) z z)<|Tv z (V.fa V8 z)<|Td z 1 D6 z a.u z<|Tm z z<|bE H λbS A H=>?_
       obtain ⟨bU,bV,rfl⟩:=A8.get m A
       refine T.tx z z (Val.XA λ_ _ _=>V.ixR A9 z z (j:=1) z (A8.bd m A)) z Calm.i<|bE H λB aV H=>Tp z z (X3 [0] [1,1] z z) (O.stR D6 z z (j:=1) z (A8.bdN m A) z ?_) T.O4
       have ao:A8 (VI .i64) an (d.set o.fN.toNat [qi c]) B:=A8.set m.u (show (VI .i64) an [qi c] c from z) aV
       refine T.M9 (SX.one (XA.fr [1] Lr z) z)<|Th<|Sm z<|Vv (V.fa V8 z)<|Wd 1 D6 z a.u z<|Fr_ 1 z<|bE H λaW ap H=>?_
       rcases aW with aX | bW
       rotate_left
       ·refine To (O.C7B z (self (r1:=(Q6.mk r1.A9J r1.A7C r1.A3o b B)) (Pt.mk w.u ⟨K,M,N,S,U,W,X,Y,Z,z,aa.u,ab.u,ac.u,ad.u,ae.u,af.u,y.u,ai.u,aj.u⟩) hS0_4.u ao ap _) (λ_ _ _ q=>q) λbX bY=>have H:=D5 H r; have H:=H7 H ak; ?_)
        cases H
        exact T.D1O (P:=prog) (fn:=Tryz.f73) Li (PE.pan z)
       refine To (O.G6 z (FnE.toS (self (r1:=(Q6.mk r1.A9J r1.A7C r1.A3o b B)) (Pt.mk w.u ⟨K,M,N,S,U,W,X,Y,Z,z,aa.u,ab.u,ac.u,ad.u,ae.u,af.u,y.u,ai.u,aj.u⟩) hS0_4.u ao ap _) λ_ _ _ q=>q) z λbZ aq b0 b1 aY=>?_)
       obtain ⟨aZ,ar,rfl,a0,s⟩:=aY
       refine O8 _ a0<|Nt<|T.dw (.vs [0,1,2,3,4,5] (.x 6 (.alt 7 .done .no))) 7 2 1 ?_
       refine Tm z z<|TF z z z A1m<|Tv z (Val.XA λ_ _ _=>V.ldO (k:=4) D9 z (j:=0) z z)<|Tv z (V.fa V8 z)<|Td z 1 D6 z a.u z<|bE H λb2 C H=>?_
       obtain ⟨b3,b4,rfl⟩:=A8.get s C
       refine T.tx z z (Val.XA λ_ _ _=>V.ixR A9 z z (j:=1) z (A8.bd s C)) z Calm.i<|bE H λau a1 H=>Tp z z (X3 [0] [1,1] z z) (O.stR D6 z z (j:=1) z (A8.bdN s C) z ?_) T.O4
       have a2:A8 (VI .i64) aq (ar.set o.fN.toNat [qi (-1)]) au:=A8.set s (show (VI .i64) aq [qi (-1)] (-1:Int) from z) a1
       refine T.M9 (SX.one (XA.fr [1] Lr z) z)<|Bn<|Th<|T.norm [0,4,74,75] z<|T.fl ?_
       refine Rg<|bE H λa3 a4 H=>Ws z z a4<|Mv z<|Nt<|Fr_ 1 z<|T.ag (am,aX.1,au,a3,aZ,(ar.set o.fN.toNat [qi (-1)])) ⟨(D8 H r),a2⟩
      refine T.skip<|Bn<|Th<|Rg<|bE H λa5 a6 H=>Ws z z a6<|Mv z<|Nt<|Fr_ 1 z<|T.ag (am,b,e,a5,f,d) ⟨(D8 H r),m.u⟩
     refine Xt<|have H:=D5 H r; Be<|Th<|have H:=H7 H ak; T.ret<|Br<|Tr ?_
     cases H
     exact T.D3w results73 Li (PE.ret ⟨_,_,z,z,m⟩)
    refine Sr<|We z z<|An z<|T.cH H z (λH=>?_) λH=>?_
    ·refine Sq<|T.dw (.vs [0,1,2,3,4,5,6,7,8,9,10,11,12,13,14,15,16,17,18,19,20,21,22,23,24,25,26,27,28,29,30,31,32,33,34,35,36,37,38,39,40,41,42,43,44,45,46] (.alt 47 (.g (.v 48 (.v 49 .done))) .no)) 51 2 2 ?_
     refine Tv z (V.fa V8 z)<|Td z 1 D6 z a z<|Tv z (V.lt z z)<|Tm z z<|T.bH 110 H z dead λH=>Tv z (V.fa V8 z)<|Td z 1 D6 z a z<|Tm z z<|TF z z z A3C<|Tv z (Val.XA λ_ _ _=>V.ldO (k:=0) P9 z (j:=0) z z)<|have a7:=hP0_2; ?_
     obtain ⟨b5,_,rfl,D,⟨b6,b7,b8,b9,bh,bl,bv,bz,ca,rfl,a8,cb,cc,cd,ce,E,cf,cg,ci⟩⟩:=a7
     refine TF z z z B1i<|Tv z (V.fa A2v z)<|Td z 5 A1h z D.u z<|Tv z (V.P7 A0f z E)<|Tv z (V.ge z z)<|Tv z (V.pkF z z)<|Tm z z<|T.bH 124 H z dead λH=>Tm z z<|TF z z z A3C<|Tv z (Val.XA λ_ _ _=>V.ldO (k:=0) P9 z (j:=0) z z)<|TF z z z B1i<|Tv z (V.fa A2v z)<|Td z 5 A1h z D.u z<|Tv z (V.fa V8 z)<|Td z 1 D6 z a z<|bE H λcj aw H=>?_
     obtain ⟨ck,a9,rfl⟩:=G9.at E aw
     refine Tv z (V.ix A0f z z E (E8 aw))<|Tv z (V.fa A4d z)<|Td z 1 D6 z a9.u z<|Tv z (V.gt z z)<|Tv z (V.pkF z z)<|Tm z z<|T.bH 140 H z dead λH=>Tm z z<|TF z z z A3C<|Tv z (Val.XA λ_ _ _=>V.ldO (k:=0) P9 z (j:=0) z z)<|TL z z z z A6I I6 D.u z<|Tm z z<|TF z z z A1m<|Tv z (Val.XA λ_ _ _=>V.ldO (k:=4) D9 z (j:=0) z z)<|Tv z (V.fa V8 z)<|Td z 1 D6 z a z<|Fr_ 1 z<|bE H λah al H=>Tp z z (X3 [0,1] [0,1] z z) (O.G6 z (I7.A6Z (val:=qi ah) func133 z A1x λcm cn av=>?_) z λco cp cq cr az=>?_) T.O4
     ·have ba:=A8.slc av hR0_7.u
      exact C1i a8.u ba al _
     obtain ⟨rfl,bb⟩:=az
     refine O8 _ bb<|T.N8 Li<|Tv z (V.eq z z)<|Tv z (V.pkF z z)<|T.M9 (X3 [0,1] [0,1] z z)<|Th<|T.cH H z dead λH=>T.skip<|Bn<|Th<|T.norm [0] z<|T.fl ?_
     refine Rg<|Mv z<|NF z Z4<|Vv (V.ldO (k:=3) D6 z (j:=1) z z)<|bE H λbc be H=>Ws z z be<|NF z Z4<|To (O.st (vs:=[qi bc]) (k:=3) D6 z z (j:=1) z z z<|Ni ?_)
     cases H
     exact T.D1W results73 Li (PE.ret ⟨_,_,z,z,hR0_7.u⟩)
    refine Sr<|We z z<|An z<|T.cH H z dead λH=>Sr<|We z z<|An z<|T.cH H z (λH=>?_) λH=>?_
    ·refine Sq<|T.norm [0,1,4] z<|T.fl ?_
     refine T.dw (.vs [0,1,2,3,4,5,6,7,8,9,10,11,12,13] (.alt 14 (.g (.v 15 (.v 16 .done))) .no)) 18 2 2 ?_
     refine Tm z z<|Tv z (V.lt z z)<|Tm z z<|T.bH 191 H z dead λH=>Tm z z<|TF z z z A3C<|Tv z (Val.XA λ_ _ _=>V.ldO (k:=0) P9 z (j:=0) z z)<|Tm z z<|TF z z z A1m<|Tv z (Val.XA λ_ _ _=>V.ldO (k:=4) D9 z (j:=0) z z)<|Tm z z<|Tv z (V.fa V8 z)<|Td z 1 D6 z a z<|Fr_ 1 z<|bE H λbf bg H=>Tp z z (X3 [0,1] [0,1] z z) (O.G6 z (I7.A6Z (val:=.bool bf) func135 z A1x λcs ct bi=>?_) z λcu cw cx cy bj=>?_) T.O4
     ·have bk:=A8.slc bi hR0_7.u
      exact C2H hP0_2.u bk bg _
     obtain ⟨rfl,bm⟩:=bj
     refine O8 _ bm<|T.N8 Li<|Tv z (V.not z)<|Tv z (V.pkF z z)<|T.M9 (X3 [0,1] [0,1] z z)<|Th<|T.cH H z (λH=>?_) λH=>?_
     ·refine Rg<|Mv z<|Fr_ 1 z<|bE H λbn bo H=>?_
      rcases bn with cA | cB
      rotate_left
      ·refine To (O.C7B z (B4m (r1:=(Q6.mk r1.A9J r1.A7C r1.A3o r1.fat r1.Q4)) hP0_2.u hS0_4.u hR0_7.u bo _) (λ_ _ _ q=>q) λcC cD=>?_)
       cases H
       exact T.D1O (P:=prog) (fn:=Tryz.f73) Li (PE.pan z)
      exact dead H
     refine T.skip<|Bn<|Th<|Rg<|Mv z<|NF z Z4<|Vv (V.ldO (k:=3) D6 z (j:=1) z z)<|bE H λbp bq H=>Ws z z bq<|NF z Z4<|To (O.st (vs:=[qi bp]) (k:=3) D6 z z (j:=1) z z z<|Ni ?_)
     cases H
     exact T.D1W results73 Li (PE.ret ⟨_,_,z,z,hR0_7.u⟩)
    exact dead H
end Go.Proofs.X
open Go Go.Proofs Go.Proofs.Tryz Go.Sl Go.Dm
namespace Go.Proofs.X
theorem C2b:A5A prog 153=some ([.pointer none,.int .i64 (0),.slice none 0 0,.int .i64 (0),.slice none 0 0],[(0,1),(1,1),(2,1),(3,1),(4,1)]):=by kernel_rfl
theorem C1Z:A0B prog 153=true:=by kernel_rfl
theorem B9K:O5 prog 150 0=some 0:=by kernel_rfl
theorem B9y:O5 prog 150 1=some 1:=by kernel_rfl
theorem R5:U1 prog 35=some (false,1):=by kernel_rfl
theorem C2h:zer prog 150=some (.agg #[.int .i64 (0),.int .i64 (0)]):=by kernel_rfl
theorem B2m:zer prog 35=some (.int .i64 (0)):=by kernel_rfl
theorem A9n:zer prog 66=some (.pointer none):=by kernel_rfl
theorem B4S {h:PH} {b0 b1:Nat} (L:List E5):FnQ prog 72 [.pointer (some ⟨b0,0,none⟩),.pointer (some ⟨b1,0,none⟩)] h L (λ_ L'=>L'=L):=by
  refine FnQ.enter func72 rfl ntmps72 results72 rfl rfl rfl ?_
  refine T.seq ?_
  refine T.region ?_
  refine T.v rfl (V.mv rfl) rfl ?_
  refine T.v rfl (V.neN underlying20 rfl) rfl ?_
  refine T.nil ?_
  refine T.thN ?_
  refine T.D2a rfl ?_
  refine T.skip ?_
  exact T.D3R (Le.refl _) rfl
theorem B6q {h:PH} {pb0:Nat} {t1:Int}  {pb1:Nat} {t2:Int}  {x_:Y9} {q_0:Int} {q_1:Int} (H:B9v t1 t2 x_=some (q_0,q_1)):∀ L,FnR prog 72 [.pointer (some ⟨pb0,0,none⟩),.pointer (some ⟨pb1,0,none⟩)] h (blk pb0 (.cells [.int .i64 t1].toArray 3)::blk pb1 (.cells [.int .i64 t2].toArray 35)::L) (.iface 150 (.agg #[.int .i64 x_.fat,.int .i64 x_.fe])) (λh' L'=>L'=blk pb0 (.cells [.int .i64 q_0].toArray 3)::blk pb1 (.cells [.int .i64 q_1].toArray 35)::L):=by
  intro L
  refine FnR.enter func72 rfl ntmps72 results72 rfl rfl rfl ?_
  refine T.seq ?_
  refine T.region ?_
  refine T.v rfl (V.mv rfl) rfl ?_
  refine T.v rfl (V.neI underlying20 rfl) rfl ?_
  refine T.nil ?_
  refine T.thN ?_
  refine T.D1Y rfl ?_
  refine T.seq ?_
  refine T.region ?_
  refine T.v rfl (V.mv rfl) rfl ?_
  refine T.v rfl (V.ta underlying150 rfl) rfl ?_
  refine T.op rfl (O.alloc C2h rfl rfl λb3=>?_)
  refine T.op rfl (O.stF (vs:=[.int .i64 x_.fat,.int .i64 x_.fe]) B5w rfl rfl (j:=0) rfl rfl rfl rfl ?_)
  refine T.D1U (blk b3 (.cells [.int .i64 x_.fat,.int .i64 x_.fe].toArray 150)::blk pb0 (.cells [.int .i64 t1].toArray 3)::blk pb1 (.cells [.int .i64 t2].toArray 35)::L) rfl ?_
  refine T.freeze λh4 le5 e6=>?_
  have hA7:=Y2.of e6
  refine T.nil ?_
  refine T.thN ?_
  refine T.D2d (t:=(.v 0 (.v 1 (.v 2 (.v 3 (.alt 4 (.alt 5 .done .no) .no)))))) 4 2 0 rfl rfl MixC.m (by kernel_rfl) ?_
  refine T.tv rfl rfl (V.fa B9K rfl) rfl Calm.rec ?_
  refine T.tv rfl rfl (V.ldf (k:=0) D6 rfl hA7 rfl) rfl Calm.rec ?_
  refine T.tv rfl rfl (V.fa B9y rfl) rfl Calm.rec ?_
  refine T.tv rfl rfl (V.ldf (k:=1) R5 rfl hA7 rfl) rfl Calm.rec ?_
  refine T.top rfl rfl (SX.two (XA.fr [] (Le.refl _) rfl) (XA.fr [1,1] (Le.refl _) rfl)) (O.stF (vs:=[.int .i64 x_.fat]) D6 rfl rfl (j:=0) rfl rfl rfl rfl ?_) T.O4
  refine T.top rfl rfl (SX.one (XA.fr [] (Le.refl _) rfl) rfl) (O.stF (vs:=[.int .i64 x_.fe]) R5 rfl rfl (j:=1) rfl rfl rfl rfl ?_) T.O4
  refine T.M9 (SX.one (XA.fr [] (Le.refl _) rfl) rfl) ?_
  refine T.front 1 rfl ?_
  obtain ⟨rfl,rfl⟩:=inj2 H
  exact T.D3R Li rfl
theorem A7y {h e f b g c i m} (s:M7 h e f) (a:G9 A3B 2 h g c) (H:A7X f b c=some (i,m)):∀ L,FnW prog 33 [.agg e.toArray,.int .i64 b,g] h L (.tuple #[.int .i64 i,.int .i64 m]):=by
 intro L
 obtain ⟨t,w,x,y,A,rfl,B,C,D,E,G⟩:=s
 refine I7.D3e func33 z ntmps33 z<|Sr<|To (O.T9 z z z λaf ag ai I=>To (O.alloc J6 z z λaj=>To (O.alloc B2m z z λak=>Nt<|Sr<|Vv (V.ldS z I (by exact J7)) ?_)))
 refine bE H λ⟨am,an,J⟩ K H=>To (O.G6 z (A9O ⟨t,w,x,y,A,z,B.u,C.u,D.u,E.u,G.u⟩ K _) z λao ap aq ar M=>?_)
 obtain ⟨au,rfl,N,P⟩:=M
 refine O8 _ N<|Mv z<|Wx z z<|Wx z z<|Wx z z<|Ag z<|Ag z<|To (O.stF (vs:=[qi J]) R5 z z (j:=0) z z z z<|Nt<|Sq<|Sr<|Vv (V.A4V R5 z (j:=0) z z)<|Wn z z<|Nt<|T.cH H z (λH=>?_) λH=>?_)
 ·exact dead H
 refine Ks<|Sq<|Sm z<|Vv (V.P7 A3m z a)<|Wg z z<|Nt<|T.cH H z dead λH=>Ks<|Sr<|Vv (V.mkf z z)<|To (T.dfr z<|Nt<|Sm z<|Mv z<|Mv z<|Mv z<|bE H λn S H=>have d:=OPt.get P S; bE H λo U H=>To (O.G6 z (A1L d U _) z λaw ax ay aA W=>?_))
 obtain ⟨aB,X,p⟩:=W
 refine O8 _ X<|T.Q7 0 z λaC Y=>Vv (V.bld (xs:=[(0,.tmp 24),(1,.tmp 25),(2,.tmp 26),(4,.tmp 28)]) (cs:=[_,_,_,_,_]) C2b C1Z z (F6.cons z (Pt.cells d) z (F6.cons z z z (F6.cons z (G9.cells a) z (F6.cons z Y z F6.nil)))))<|To (O.box z z z λaD=>An z<|Sm z<|bE H λZ r H=>?_)
 rcases Z with aE | aa
 rotate_left
 ·refine To (O.C7B z (B3D _ (r1:=(Q6.mk n b c (0:Int) o)) d.u a.u p r _) (λ_ _ _ q=>q) λaG aI=>Fr_ 1 z<|T.lvR (B6q (x_:=aa) (H:=z) _) λaJ aK aM ab=>O8 _ ab ?_)
  cases H
  exact T.A0N (L':=L) results33 (RVs.cons (RV.cell D6 z (j:=0) z z) (RVs.cons (RV.cell R5 z (j:=1) z z) RVs.nil)) Li (λ_ iv=>iv.drop.drop) ⟨z,z⟩
 refine To (O.G6 z (FnE.toS (B3D _ (r1:=(Q6.mk n b c (0:Int) o)) d.u a.u p r _) λ_ _ _ q=>q) z λaN aO aP aS ac=>?_)
 obtain ⟨aU,aV,rfl,ad,aW⟩:=ac
 refine O8 _ ad<|Nt<|Sq<|Sm z<|NF z Z4<|Vv (V.ldO (k:=3) D6 z (j:=0) z z)<|Mv z<|Vv (V.P7 A3m z a)<|Wl z z<|Nt<|T.cH H z dead λH=>Ks<|Sq<|T.norm [6,7] z<|T.fl ?_
 refine Rg<|To (O.stF (vs:=[qi 0]) D6 z z (j:=3) z z z z<|T.fl ?_)
 refine To (O.stF (vs:=[qi 0]) R5 z z (j:=3) z z z z<|T.fl ?_)
 refine Nr<|T.D3B<|T.lvQ (B4S _) λaX aY aZ ae=>O8 _ ae<|T.fs [2] ?_
 refine T.drop<|T.fs [2] ?_
 refine T.drop<|Fr_ 1 z ?_
 cases H
 exact T.A0N (L':=L) results33 (RVs.cons (RV.cell D6 z (j:=0) z z) (RVs.cons (RV.cell R5 z (j:=1) z z) RVs.nil)) Li (λ_ iv=>iv.drop.drop) ⟨z,z⟩
theorem B2P {h p q r s w} (E:M7 h p q) (H:B2q q=some (r,s,w)):∀ L,FnW prog 7 [.agg p.toArray] h L (.tuple #[.int .i64 r,.int .i64 s,.int .i64 w]):=by
 intro L
 obtain ⟨G,I,J,K,M,rfl,N,P,U,W,X⟩:=E
 refine I7.B2M func7 z ntmps7 z<|Sr<|To (O.T9 z z z λaX aY aZ Y=>To (O.alloc J6 z z λc=>To (O.alloc J6 z z λd=>An z<|Sr<|Vv (V.ldS z Y (by exact J7)) ?_)))
 refine bE H λ⟨a0,a1⟩ Z H=>To (O.G6 z (A1v ⟨G,I,J,K,M,z,N.u,P.u,U.u,W.u,X.u⟩ Z _) z λa2 a3 a4 a5 aa=>?_)
 obtain ⟨ab,rfl,ac,e⟩:=aa
 refine O8 _ ac<|Mv z<|Wx z z<|Wx z z<|To (O.alloc A9n z z λa6=>To (O.stF (vs:=[ab]) P9 z z (j:=0) z (OPt.cells e) (by (simp only [BT,OPt.one e]) <;> rfl) z ?_))
 refine T.fl ?_
 refine T.freeze λa7 a8 ad=>have f:=Y2.of ad; An z<|Sq<|Sm z<|Wn z z<|Nt<|T.cH H z (λH=>?_) λH=>?_
 ·refine Sm z<|To (O.stF (vs:=[qi 0]) D6 z z (j:=1) z z z z<|To (O.stF (vs:=[qi 0]) D6 z z (j:=1) z z z z<|Ag z<|Nr<|Tr<|Fr_ 1 z<|T.A2Z ?_))
  cases H
  exact T.A0N (L':=L) results7 (RVs.cons (RV.cell D6 z (j:=0) z z) (RVs.cons (RV.cell D6 z (j:=1) z z) (Rv z))) Li (λ_ iv=>iv.drop.drop) ⟨z,z⟩
 refine Ks<|Sq<|Sq<|T.dw (.v 0 (.v 1 (.alt 2 (.alt 3 .done .no) .no))) 5 0 0 ?_
 refine Tv z (V.Q9 P9 z f z)<|Tv z (V.Q9 P9 z f z)<|bE H λae af H=>have g:=OPt.get e af; bE H λa9 ag H=>Tp z z (X2 z z) (O.G6 z (A1L g.u ag _) z λah al av az ai=>?_) T.O4
 obtain ⟨ba,aj,ak⟩:=ai
 refine O8 _ aj<|T.J8 λbb bc am=>have an:=A8.slc am ak.u; bE H λy ao H=>Tp z z (SX.two (XA.fr [] Li z) (XA.fr [] Li z)) (O.G6 z (A2w g.u an ao _) z λbd k be bf ap=>?_) T.O4
 obtain ⟨bg,A,bi,B,rfl,aq,ar,au,aw,ax⟩:=ap
 refine O8 _ aq<|T.M9 (SX.two (XA.fr [] Li z) (XA.fr [] Li z))<|Th<|Bl ?_
 obtain ⟨bj,ay,aA⟩:=J4 H
 refine T.B3S (S:=(Int×Int)) (O:=Unit) (La0:=[blk d (.cells [qi 0].toArray 3),blk c (.cells [qi 0].toArray 3)]) (Lr:=L) (λ⟨b,a⟩ hh aB=>aB=([blk d (.cells [qi a].toArray 3),blk c (.cells [qi b].toArray 3)]:List E5)) (λ_ _ _ _=>False) z z z (λR_ y_=>A7h R_ k y_ (B2W ae)) (λbk=>⟨⟨z,z⟩,RYs.mono (λ⟨b,a⟩ _ _ _ l_ e_=>e_) (λ_ _ _ _ _ _ q_=>q_),?_⟩) (λ_ La_ aC aD aE=>I7.perm (List.Perm.refl _) (A1r aC aD ar (show (VPt Q0) k [A] y.1 from ⟨A,z,au⟩) aw (show (VSl (VI .i64) 1) k [B] y.2 from ⟨B,z,ax⟩) ay [] aE) λ_ _ _ ⟨La_,_,e_,q_⟩=>⟨_,List.Perm.refl _,La_,e_,q_⟩) ?_ ?_
 ·intro bm bn bo C bp m aG bq br bs aI H As_ L_
  rcases aG with ⟨b,a⟩ | _
  rotate_left
  ·exact dead H
  obtain ⟨bt,_,rfl,n,aJ,bu,rfl⟩:=aI
  refine Yld.B6c λL=>Yld.B3q (j:=0) z n z<|T.fl ?_
  refine Rg<|An z<|T.begin (j:=0) z aJ<|T.fl ?_
  refine Bl<|Sr<|Vv (V.A4V D6 z (j:=2) z z)<|bE H λo aK H=>Ws z z aK<|To (O.stF (vs:=[qi o]) D6 z z (j:=2) z z z z<|T.fl ?_)
  refine Nt<|Sr<|Vv (V.Q9 P9 z f.u z)<|Mv z<|T.fs [3] ?_
  refine bE H λaM aN H=>To (O.G6 z (I7.A6Z (val:=.bool aM) func30 z A1x λbw bx aO=>?_) z λbA bB bC bD aP=>?_)
  ·have aS:=A8.slc aO m.u
   exact A6L g.u aS aN _
  obtain ⟨rfl,aU⟩:=aP
  refine O8 _ aU<|Nt<|T.cH H z (λH=>?_) λH=>?_
  ·refine Rg<|Vv (V.A4V D6 z (j:=3) z z)<|bE H λD aV H=>Ws z z aV<|To (O.stF (vs:=[qi D]) D6 z z (j:=3) z z z z<|T.fl ?_)
   refine Ni<|Bn<|T.fs [1,2,2,3] ?_
   cases H
   exact T.B7T (j:=0) z Li ⟨_::[blk d (.cells [qi D].toArray 3),blk c (.cells [qi o].toArray 3)],C,z,z,⟨_,_,z,n.turn .ready none,z,z,z⟩,m.u⟩
  refine T.skip<|Bn<|T.fs [1,3,3] ?_
  cases H
  exact T.B7T (j:=0) z Li ⟨_::[blk d (.cells [qi a].toArray 3),blk c (.cells [qi o].toArray 3)],C,z,z,⟨_,_,z,n.turn .ready none,z,z,z⟩,m.u⟩
 ·rintro bG bI _ ⟨b,a⟩ bJ aW rfl
  have H:=H7 aW aA
  refine T.fl ?_
  refine Bn<|Th<|Sq<|T.fs [2,2] ?_
  refine T.dw (.x 0 (.alt 1 (.alt 2 (.alt 3 (.alt 4 .done .no) .no) .no) (.alt 2 (.alt 1 (.alt 3 (.alt 4 .done .no) .no) .no) .no))) 2 2 0 ?_
  refine T.tx z z (Val.XA λ_ _ _=>V.A4V D6 z (j:=1) z z) z Calm.i<|T.C3n ?_ ?_
  ·refine Ts z z (X3 [] [1,1] z z) (V.A4V D6 z (j:=0) z z) z ?_ T.O4
   refine Tp z z (X3 [] [1,1] z z) (O.stF (vs:=[qi b]) D6 z z (j:=1) z z z z ?_) T.O4
   refine T.fl ?_
   refine Tp z z (SX.one (XA.fr [] Lr z) z) (O.stF (vs:=[qi a]) D6 z z (j:=1) z z z z ?_) T.O4
   refine T.fl ?_
   refine Ts z z (SX.one (XA.fr [] Lr z) z) (V.asg z) z ?_ T.O4
   refine T.M9 (SX.one (XA.fr [] Lr z) z)<|Th<|T.ret<|T.fs [1,2] ?_
   refine T.A2Z<|T.A7t (j:=0) z<|T.fl ?_
   cases H
   exact T.A0N (L':=L) results7 (RVs.cons (RV.cell D6 z (j:=0) z z) (RVs.cons (RV.cell D6 z (j:=1) z z) (Rv z))) Li (λ_ iv=>iv.drop.drop) ⟨z,z⟩
  refine Tp z z (X3 [] [1,1] z z) (O.stF (vs:=[qi b]) D6 z z (j:=1) z z z z ?_) T.O4
  refine T.fl ?_
  refine Ts z z (SX.one (XA.fr [] Lr z) z) (V.A4V D6 z (j:=1) z z) z ?_ T.O4
  refine Tp z z (SX.one (XA.fr [] Lr z) z) (O.stF (vs:=[qi a]) D6 z z (j:=1) z z z z ?_) T.O4
  refine T.fl ?_
  refine Ts z z (SX.one (XA.fr [] Lr z) z) (V.asg z) z ?_ T.O4
  refine T.M9 (SX.one (XA.fr [] Lr z) z)<|Th<|T.ret<|T.fs [1,2] ?_
  refine T.A2Z<|T.A7t (j:=0) z<|T.fl ?_
  cases H
  exact T.A0N (L':=L) results7 (RVs.cons (RV.cell D6 z (j:=0) z z) (RVs.cons (RV.cell D6 z (j:=1) z z) (Rv z))) Li (λ_ iv=>iv.drop.drop) ⟨z,z⟩
 rintro _ _ _ _ _ _ _ ⟨⟩
end Go.Proofs.X
open Go Go.Proofs Go.Proofs.Tryz Go.Sl Go.Dm
namespace Go.Proofs.X
theorem A6t:A5A prog 45=some ([.slice none 0 0,.int .i64 (0)],[(0,1),(1,1)]):=by kernel_rfl
theorem A6y:A0B prog 45=true:=by kernel_rfl
theorem B3l:O5 prog 45 1=some 1:=by kernel_rfl
theorem A0E:U1 prog 45=some (true,2):=by kernel_rfl
theorem B1V:zer prog 45=some (.agg #[.slice none 0 0,.int .i64 (0)]):=by kernel_rfl
theorem C1b {h D E w G} (W:M7 h D E) (H:B9c E=some (w,G)):∀ L,I7 prog 11 [.agg D.toArray] h (L) (λv h' L'=>∃ v0_1,v=.tuple #[.agg #[v0_1,.int .i64 w.A3v],.int .i64 G]∧L'=L∧G9 (VI .i64) 1 h' v0_1 w.C9B):=by
 intro L
 obtain ⟨X,Y,Z,aa,ab,rfl,ac,ad,ae,af,ag⟩:=W
 refine I7.B2M func11 z ntmps11 z<|Sr<|To (O.T9 z z z λbo bp bq ai=>To (O.alloc B1V z z λd=>An z<|Sr<|Vv (V.ldS z ai (by exact J7)) ?_))
 refine bE H λ⟨br,bs⟩ aj H=>To (O.G6 z (A1v ⟨X,Y,Z,aa,ab,z,ac.u,ad.u,ae.u,af.u,ag.u⟩ aj _) z λbt bu bw bx ak=>?_)
 obtain ⟨am,rfl,an,x⟩:=ak
 refine O8 _ an<|Mv z<|Wx z z<|Wx z z<|To (O.alloc A9n z z λbA=>To (O.stF (vs:=[am]) P9 z z (j:=0) z (OPt.cells x) (by (simp only [BT,OPt.one x]) <;> rfl) z ?_))
 refine T.freeze λbB bC ao=>have y:=Y2.of ao; An z<|Sq<|Sm z<|Wn z z<|Nt<|T.cH H z (λH=>?_) λH=>?_
 ·refine Sr<|Vv (V.bld (xs:=[]) (cs:=[_,_]) A6t A6y z F6.nil)<|Mv z<|To (O.stF (vs:=[qs,qi 0]) A0E z z (j:=0) z z z z<|Ag z<|Nr<|Tr<|T.A2Z ?_)
  cases H
  exact T.A0N (L':=L) results11 (RVs.cons (RV.cellS z (j:=0) z A0E) (Rv z)) Li (λ_ iv=>iv.drop) ⟨_,z,z,G9.nil⟩
 refine Ks<|Sr<|Vv (V.bld (xs:=[]) (cs:=[_,_]) A6t A6y z F6.nil)<|To (O.alloc B1V z z λe=>To (O.alloc A5V z z λf=>To (O.stF (vs:=[qs,qi 0]) A0E z z (j:=1) z z z z<|T.fl ?_)))
 refine To (O.stF (vs:=[.bool false]) R3 z z (j:=1) z z z z<|T.fl ?_)
 refine Nt<|Sq<|Sq<|T.dw (.v 0 (.v 1 (.alt 2 (.alt 3 .done .no) .no))) 5 0 0 ?_
 refine Tv z (V.Q9 P9 z y z)<|Tv z (V.Q9 P9 z y z)<|bE H λap aq H=>have A:=OPt.get x aq; bE H λbD ar H=>Tp z z (X2 z z) (O.G6 z (A1L A.u ar _) z λbG bI bJ bK au=>?_) T.O4
 obtain ⟨bM,aw,ax⟩:=au
 refine O8 _ aw<|T.J8 λbN bO ay=>have aA:=A8.slc ay ax.u; bE H λI aB H=>Tp z z (SX.two (XA.fr [] Li z) (XA.fr [] Li z)) (O.G6 z (A2w A.u aA aB _) z λbP o bS bU aC=>?_) T.O4
 obtain ⟨bV,J,bW,K,rfl,aD,aE,aG,aI,aJ⟩:=aC
 refine O8 _ aD<|T.M9 (SX.two (XA.fr [] Li z) (XA.fr [] Li z))<|Th<|Bl ?_
 obtain ⟨bX,aK,aM⟩:=J4 H
 refine T.rn (VI .i64) 3 1 λaN=>T.fs [3,3,3] ?_
 refine T.B3S (S:=((List Int)×Int×Bool)) (O:=Unit) (La0:=[blk f (.cells [.bool false].toArray 4),blk e (.cells [(qs),qi 0].toArray 45),blk d (.cells [qs,qi 0].toArray 45),F3 3 1 (qs) []]) (Lr:=L) (λ⟨p,c,g⟩ hh aO=>∃ a:Value,∃ b:List (List Value),aO=([blk f (.cells [.bool g].toArray 4),blk e (.cells [a,qi c].toArray 45),blk d (.cells [qs,qi 0].toArray 45),F3 3 1 a b]:List E5)∧A8 (VI .i64) hh b p) (λ_ _ _ _=>False) z z ⟨(qs),[],z,aN⟩ (λR_ y_=>A7h R_ o y_ (B3T ap)) (λM=>⟨⟨z,z⟩,RYs.mono (λ⟨p,c,g⟩ _ _ _ l_ ⟨a,b,e_,f0_⟩=>⟨a,b,e_,A8.mono VI.mono f0_ l_⟩) (λ_ _ _ _ _ _ q_=>q_),?_⟩) (λ_ La_ aP aS aU=>I7.perm (List.Perm.refl _) (A1r aP aS aE (show (VPt Q0) o [J] I.1 from ⟨J,z,aG⟩) aI (show (VSl (VI .i64) 1) o [K] I.2 from ⟨K,z,aJ⟩) aK [] aU) λ_ _ _ ⟨La_,_,e_,q_⟩=>⟨_,List.Perm.refl _,La_,e_,q_⟩) ?_ ?_
 ·intro bY bZ b0 B b1 i aV b2 b3 b4 aW H As_ L_
  rcases aV with ⟨p,c,g⟩ | _
  rotate_left
  ·exact dead H
  obtain ⟨N,_,rfl,q,aX,b5,a,b,rfl,C⟩:=aW
  refine Yld.B6c λL=>Yld.B3q (j:=0) z q z<|T.fl ?_
  refine Rg<|An z<|T.begin (j:=0) z aX<|T.fl ?_
  refine Bl<|Sr<|Vv (V.Q9 P9 z y.u z)<|have aY:=A; ?_
  obtain ⟨b6,_,rfl,aZ,⟨b7,b8,b9,bh,bl,bv,bz,ca,cb,rfl,a0,cc,cd,ce,cf,cg,ci,cj,ck⟩⟩:=aY
  refine NL z A6I I6 aZ.u z<|Mv z<|T.fs [5] ?_
  refine bE H λm a1 H=>To (O.G6 z (I7.A6Z (val:=qi m) func40 z A1x λcm cn a2=>?_) z λco cp cq cr a3=>?_)
  ·have a4:=A8.slc a2 i.u
   exact B5z a0.u a4 a1 _
  obtain ⟨rfl,a5⟩:=a3
  refine O8 _ a5<|An z<|Sr<|Vv (V.A4V R3 z (j:=2) z z)<|Vv (V.not z)<|Mv z<|T.bH 33 H z (λH=>?_) λH=>?_
  ·refine S2<|S2<|Kt z<|Nt<|Ct z<|Rg<|Mv z<|bE H λa6 a7 H=>To (O.G6 z (I7.B0u (R:=λv h' L'=>∃ (n:List (List Value)),L'=F3 3 1 v n::blk M (.loop { N with state:=.busy })::blk f (.cells [.bool g].toArray 4)::blk e (.cells [a,qi c].toArray 45)::blk d (.cells [qs,qi 0].toArray 45)::F3 3 1 a b::L∧A8 (VI .i64) h' n a6) func41 z (λ_ _ _ _ ⟨e_0,l_,f_0⟩=>⟨e_0,l_,(A8.free VI.free f_0)⟩) A1x λct cu a8=>?_) z λr cw cx cy a9=>?_)
   ·have ah:=A8.slc a8 i.u
    exact A1f ah a7 _
   obtain ⟨_,rfl,⟨P,rfl,al⟩⟩:=a9
   refine T.fl ?_
   refine Mv z<|T.Q7 1 z λcA av=>Vv (V.bld (xs:=[(0,.tmp 40),(1,.tmp 41)]) (cs:=[_,_]) A6t A6y z (F6.cons z av z (F6.cons z z z F6.nil)))<|T.Q7 1 z λaz cB=>To (O.stF (vs:=[r,qi m]) A0E z z (j:=4) z z (by (simp only [BT,az]) <;> rfl) z ?_)
   refine T.fl ?_
   refine To (O.stF (vs:=[.bool true]) R3 z z (j:=4) z z z z<|T.fl ?_)
   refine Ni<|Bn<|T.fs [6] ?_
   refine T.drop<|T.fs [2,3,5,4,4,5] ?_
   cases H
   exact T.B7T (j:=0) z Li ⟨_::[blk f (.cells [.bool true].toArray 4),blk e (.cells [r,qi m].toArray 45),blk d (.cells [qs,qi 0].toArray 45),F3 3 1 r P],B,z,z,⟨_,_,z,q.turn .ready none,z,z,⟨r,P,z,al⟩⟩,i.u⟩
  refine Mv z<|Vv (V.fa B3l z)<|Vv (V.ldO (k:=1) D6 z (j:=3) z z)<|Wl z z<|Kf z<|Nt<|T.cH H z (λH=>?_) λH=>?_
  ·refine Rg<|Mv z<|bE H λba bb H=>To (O.G6 z (I7.B0u (R:=λv h' L'=>∃ (n:List (List Value)),L'=F3 3 1 v n::blk M (.loop { N with state:=.busy })::blk f (.cells [.bool g].toArray 4)::blk e (.cells [a,qi c].toArray 45)::blk d (.cells [qs,qi 0].toArray 45)::F3 3 1 a b::L∧A8 (VI .i64) h' n ba) func41 z (λ_ _ _ _ ⟨e_0,l_,f_0⟩=>⟨e_0,l_,(A8.free VI.free f_0)⟩) A1x λcC cD bc=>?_) z λs cE cG cI bd=>?_)
   ·have be:=A8.slc bc i.u
    exact A1f be bb _
   obtain ⟨_,rfl,⟨U,rfl,bf⟩⟩:=bd
   refine T.fl ?_
   refine Mv z<|T.Q7 1 z λcJ bg=>Vv (V.bld (xs:=[(0,.tmp 40),(1,.tmp 41)]) (cs:=[_,_]) A6t A6y z (F6.cons z bg z (F6.cons z z z F6.nil)))<|T.Q7 1 z λbi cK=>To (O.stF (vs:=[s,qi m]) A0E z z (j:=4) z z (by (simp only [BT,bi]) <;> rfl) z ?_)
   refine T.fl ?_
   refine To (O.stF (vs:=[.bool true]) R3 z z (j:=4) z z z z<|T.fl ?_)
   refine Ni<|Bn<|T.fs [6] ?_
   refine T.drop<|T.fs [2,3,5,4,4,5] ?_
   cases H
   exact T.B7T (j:=0) z Li ⟨_::[blk f (.cells [.bool true].toArray 4),blk e (.cells [s,qi m].toArray 45),blk d (.cells [qs,qi 0].toArray 45),F3 3 1 s U],B,z,z,⟨_,_,z,q.turn .ready none,z,z,⟨s,U,z,bf⟩⟩,i.u⟩
  refine T.skip<|Bn<|T.fs [5,5,5,5,5] ?_
  cases H
  exact T.B7T (j:=0) z Li ⟨_::[blk f (.cells [.bool g].toArray 4),blk e (.cells [a,qi c].toArray 45),blk d (.cells [qs,qi 0].toArray 45),F3 3 1 a b],B,z,z,⟨_,_,z,q.turn .ready none,z,z,⟨a,b,z,C.u⟩⟩,i.u⟩
 ·rintro cM cN _ ⟨p,c,g⟩ cO bj ⟨a,b,rfl,C⟩
  have H:=H7 bj aM
  refine T.fl ?_
  refine Bn<|Th<|Sq<|Sr<|Vv (V.A4V R3 z (j:=1) z z)<|Vv (V.not z)<|Nt<|T.cH H z (λH=>?_) λH=>?_
  ·refine Sr<|Vv (V.bld (xs:=[]) (cs:=[_,_]) A6t A6y z F6.nil)<|To (O.stF (vs:=[qs,qi 0]) A0E z z (j:=3) z z z z<|T.fl ?_)
   refine Ag z<|Nr<|Tr<|T.fs [2] ?_
   refine T.drop<|T.fs [2] ?_
   refine T.drop<|T.fs [2] ?_
   refine T.drop<|Fr_ 1 z<|T.A2Z<|T.A7t (j:=0) z<|T.fl ?_
   cases H
   exact T.A0N (L':=L) results11 (RVs.cons (RV.cellS z (j:=0) z A0E) (Rv z)) Li (λ_ iv=>iv.drop) ⟨_,z,z,G9.nil⟩
  refine Ks<|Sr<|Vv (V.A5r (j:=2) (by exact A0E) z z) ?_
  refine T.Q7 4 z λbk cP=>To (O.stF (vs:=[a,qi c]) A0E z z (j:=3) z z (by (simp only [BT,bk]) <;> rfl) z ?_)
  refine T.fl ?_
  refine Ag z<|Nr<|T.fs [4] ?_
  refine T.J8 λcS cU bm=>have bn:=A8.slc bm C.u; T.fs [2] ?_
  refine T.drop<|T.fs [2] ?_
  refine T.drop<|Fr_ 1 z<|T.A2Z<|T.A7t (j:=0) z<|T.fl ?_
  cases H
  exact T.A0N (L':=L) results11 (RVs.cons (RV.cellS z (j:=0) z A0E) (Rv z)) Li (λ_ iv=>iv.drop) ⟨_,z,z,bn⟩
 rintro _ _ _ _ _ _ _ ⟨⟩
theorem B5G {h E G r I J} (ab:M7 h E G) (H:B6C G r=some (I,J)):∀ L,I7 prog 35 [.agg E.toArray,.int .i64 r] h (L) (λv h' L'=>∃ K,v=.tuple #[K,.int .i64 J]∧L'=L∧G9 (VSl (VI .i64) 1) 1 h' K I):=by
 intro L
 obtain ⟨ac,ad,ae,af,ag,rfl,ai,aj,ak,am,an⟩:=ab
 refine I7.B2M func35 z ntmps35 z<|Sr<|To (O.T9 z z z λbp bq br ao=>To (O.T9 z z z λbt bu bw aq=>To (O.alloc A9D z z λg=>To (O.alloc B2m z z λk=>Nt<|Sr<|Vv (V.ldS z ao.u (by exact J7)) ?_))))
 refine bE H λ⟨bx,bA⟩ ar H=>To (O.G6 z (A1v ⟨ac,ad,ae,af,ag,z,ai.u,aj.u,ak.u,am.u,an.u⟩ ar _) z λbB bC bD bG au=>?_)
 obtain ⟨aw,rfl,ax,s⟩:=au
 refine O8 _ ax<|Mv z<|Wx z z<|Wx z z<|To (O.alloc A9n z z λbI=>To (O.stF (vs:=[aw]) P9 z z (j:=0) z (OPt.cells s) (by (simp only [BT,OPt.one s]) <;> rfl) z ?_))
 refine T.fl ?_
 refine T.freeze λbJ bK ay=>have w:=Y2.of ay; An z<|Sq<|Sm z<|Wn z z<|Nt<|T.cH H z dead λH=>Ks<|Sr<|To (O.alloc A9D z z λm=>Nt<|Sq<|Sq<|T.dw (.v 0 (.v 1 (.alt 2 (.alt 3 .done .no) .no))) 5 0 0 ?_)
 refine Tv z (V.Q9 P9 z w z)<|Tv z (V.Q9 P9 z w z)<|bE H λaA aB H=>have y:=OPt.get s aB; bE H λbM aC H=>Tp z z (X2 z z) (O.G6 z (A1L y.u aC _) z λbN bO bP bS aD=>?_) T.O4
 obtain ⟨bU,aE,aG⟩:=aD
 refine O8 _ aE<|T.J8 λbV bW aI=>have aJ:=A8.slc aI aG.u; bE H λM aK H=>Tp z z (SX.two (XA.fr [] Li z) (XA.fr [] Li z)) (O.G6 z (A2w y.u aJ aK _) z λbX p bY bZ aM=>?_) T.O4
 obtain ⟨b0,N,b1,P,rfl,aN,aO,aP,aS,aU⟩:=aM
 refine O8 _ aN<|T.M9 (SX.two (XA.fr [] Li z) (XA.fr [] Li z))<|Th<|Bl ?_
 obtain ⟨b2,aV,U⟩:=J4 H
 refine T.rn (VSl (VI .i64) 1) 30 1 λaW=>T.fs [3,3,3] ?_
 refine T.B3S (S:=(Int×(List (List Int)))) (O:=(Int×(List (List Int)))) (La0:=[blk m (.cells [(qs)].toArray 84),blk k (.cells [qi 0].toArray 35),blk g (.cells [qs].toArray 84),F3 30 1 (qs) []]) (Lr:=L) (λ⟨c,d⟩ hh A=>∃ a:Value,∃ b:List (List Value),A=([blk m (.cells [a].toArray 84),blk k (.cells [qi c].toArray 35),blk g (.cells [qs].toArray 84),F3 30 1 a b]:List E5)∧A8 (VSl (VI .i64) 1) hh b d) (λ⟨c,d⟩ c_ hh A=>c_=(.ret:Code)∧∃ a:Value,∃ b:List (List Value),A=([blk m (.cells [a].toArray 84),blk k (.cells [qi c].toArray 35),blk g (.cells [qs].toArray 84),F3 30 1 a b]:List E5)∧A8 (VSl (VI .i64) 1) hh b d) z z ⟨(qs),[],z,aW⟩ (λR_ y_=>A7h R_ p y_ (B5C r aA)) (λaX=>⟨⟨z,z⟩,RYs.mono (λ⟨c,d⟩ _ _ _ l_ ⟨a,b,e_,f0_⟩=>⟨a,b,e_,A8.mono (VSl.mono VI.mono) f0_ l_⟩) (λ⟨c,d⟩ _ _ _ _ l_ ⟨c_,a,b,e_,f0_⟩=>⟨c_,a,b,e_,A8.mono (VSl.mono VI.mono) f0_ l_⟩),?_⟩) (λ_ La_ aY aZ a0=>I7.perm (List.Perm.refl _) (A1r aY aZ aO (show (VPt Q0) p [N] M.1 from ⟨N,z,aP⟩) aS (show (VSl (VI .i64) 1) p [P] M.2 from ⟨P,z,aU⟩) aV [] a0) λ_ _ _ ⟨La_,_,e_,q_⟩=>⟨_,List.Perm.refl _,La_,e_,q_⟩) ?_ ?_
 ·intro b3 b4 b5 B b6 n a1 b7 b8 b9 a2 H As_ L_
  rcases a1 with ⟨c,d⟩ | _
  rotate_left
  ·exact dead H
  obtain ⟨a3,_,rfl,C,a4,bh,a,b,rfl,f⟩:=a2
  refine Yld.B6c λL=>Yld.B3q (j:=0) z C z<|T.fl ?_
  refine Rg<|An z<|T.begin (j:=0) z a4<|T.fl ?_
  refine Bl<|Sq<|Sr<|Vv (V.Q9 P9 z w.u z)<|Mv z<|T.fs [5] ?_
  refine bE H λa5 a6 H=>To (O.G6 z (I7.A6Z (val:=.bool a5) func30 z A1x λbl bv a7=>?_) z λbz ca cb cc a8=>?_)
  ·have a9:=A8.slc a7 n.u
   exact A6L y.u a9 a6 _
  obtain ⟨rfl,ah⟩:=a8
  refine O8 _ ah<|Vv (V.not z)<|Nt<|T.cH H z (λH=>?_) λH=>?_
  ·refine T.exit<|Te<|Be<|T.fs [5,5,5,5,5] ?_
   cases H
   exact T.B7T (j:=0) z Li ⟨_::[blk m (.cells [a].toArray 84),blk k (.cells [qi c].toArray 35),blk g (.cells [qs].toArray 84),F3 30 1 a b],B,z,z,⟨_,_,z,C.turn .ready none,z,z,⟨a,b,z,f.u⟩⟩,n.u⟩
  refine Ks<|Sq<|Sr<|Vv (V.A4V S9 z (j:=2) z z)<|Vv (V.A2p K7 z (j:=5) z f.len)<|Vv (V.Q9 D6 z aq.u z)<|Vv (V.ge z z)<|Nt<|T.cH H z (λH=>?_) λH=>?_
  ·refine Sr<|To (O.stF (vs:=[qs]) S9 z z (j:=4) z z z z<|T.fl ?_)
   refine To (O.stF (vs:=[qi 7]) R5 z z (j:=4) z z z z<|T.fl ?_)
   refine Nr<|Tr<|Br<|T.fs [2,5,3,3,5,5] ?_
   cases H
   exact T.D3G (j:=0) z Li ⟨_::[blk m (.cells [a].toArray 84),blk k (.cells [qi 7].toArray 35),blk g (.cells [qs].toArray 84),F3 30 1 a b],B,z,z,⟨_,_,_,z,z,z,⟨z,⟨a,b,z,f.u⟩⟩⟩,n.u⟩
  refine Ks<|T.fs [5,3,2] ?_
  refine T.dw (.x 0 (.v 1 (.alt 2 (.alt 3 (.alt 4 (.alt 5 .done .no) .no) .no) .no))) 4 3 1 ?_
  refine T.tx z z (Val.XA λ_ _ _=>V.A4V S9 z (j:=1) z z) z Calm.i<|Tm z z<|bE H λW al H=>Tp z z (X3 [0] [2,2,2] z z) (O.G6 z (I7.B0u (R:=λv h' L'=>∃ (X:List (List Value)),L'=F3 3 1 v X::blk m (.cells [a].toArray 84)::F3 30 1 a b::blk aX (.loop { a3 with state:=.busy })::blk k (.cells [qi c].toArray 35)::blk g (.cells [qs].toArray 84)::L∧A8 (VI .i64) h' X W) func41 z (λ_ _ _ _ ⟨e_0,l_,f_0⟩=>⟨e_0,l_,(A8.free VI.free f_0)⟩) A1x λcd ce av=>?_) z λo cf cg ci az=>?_) T.O4
  ·have ba:=A8.slc av n.u
   exact A1f ba al _
  obtain ⟨_,rfl,⟨cj,rfl,bb⟩⟩:=az
  refine T.fl ?_
  refine T.fs [1] ?_
  refine T.J8 λY ck bc=>have Z:=A8.slc bc bb.u; Tp z z (SX.two (XA.fr [0] Li z) (XA.fr [2,2,2] Li z)) (O.bq K7 A1d [.tmp 33] (VSl (VI .i64) 1) [[o]] [W] (hE:=(A8.cons ⟨o,z,Z⟩ A8.nil)) λcm D=>?_) T.O4
  refine bE H λbd aa H=>Tp z z (SX.two (XA.fr [1] Li z) (XA.fr [3,3,3] Li z)) (O.ax K7 A1d 3 f.u D aa VSl.plain λq be=>?_) T.O4
  refine T.fl ?_
  refine T.fs [1] ?_
  refine T.drop<|T.Q7 0 z λbf bg=>Tp z z (SX.one (XA.fr [1] Li z) z) (O.stF (vs:=[q]) S9 z z (j:=2) z bg (by (simp only [BT,bf]) <;> rfl) z ?_) T.O4
  refine T.fl ?_
  refine T.M9 (SX.one (XA.fr [2] Li z) z)<|Bn<|T.fs [2,2,5,5,4,5] ?_
  cases H
  exact T.B7T (j:=0) z Li ⟨_::[blk m (.cells [q].toArray 84),blk k (.cells [qi c].toArray 35),blk g (.cells [qs].toArray 84),F3 30 1 q (b++[[o]])],B,z,z,⟨_,_,z,C.turn .ready none,z,z,⟨q,(b++[[o]]),z,be⟩⟩,n.u⟩
 ·rintro cp cq _ ⟨c,d⟩ cr bi ⟨a,b,rfl,f⟩
  have H:=H7 bi U
  refine T.fl ?_
  refine Bn<|Th<|Sr<|Vv (V.A4V S9 z (j:=1) z z)<|T.Q7 4 z λbj bk=>To (O.stF (vs:=[a]) S9 z z (j:=3) z bk (by (simp only [BT,bj]) <;> rfl) z ?_)
  refine T.fl ?_
  refine To (O.stF (vs:=[qi 0]) R5 z z (j:=3) z z z z<|T.fl ?_)
  refine Nr<|T.fs [4] ?_
  refine T.J8 λcs ct bm=>have bn:=A8.slc bm f.u; T.fs [3] ?_
  refine T.drop<|T.fs [1,2] ?_
  refine T.A2Z<|T.A7t (j:=0) z<|T.fl ?_
  cases H
  exact T.A0N (L':=L) results35 (RVs.cons (RV.cell S9 z (j:=0) z z) (RVs.cons (RV.cell R5 z (j:=1) z z) RVs.nil)) Li (λ_ iv=>iv.drop.drop) ⟨_,z,z,bn⟩
 rintro cu cw _ ⟨c,d⟩ _ cx bo ⟨rfl,a,b,rfl,f⟩
 have H:=H7 bo U
 refine T.fl ?_
 refine T.ret<|Br<|Tr<|T.fs [1] ?_
 refine T.drop<|T.fs [3] ?_
 refine T.drop<|T.fs [1,2,2] ?_
 refine T.A2Z<|T.A7t (j:=0) z<|T.fl ?_
 cases H
 exact T.A0N (L':=L) results35 (RVs.cons (RV.cell S9 z (j:=0) z z) (RVs.cons (RV.cell R5 z (j:=1) z z) RVs.nil)) Li (λ_ iv=>iv.drop.drop) ⟨_,z,z,G9.nil⟩
theorem B8M {h t w x p y A} (aj:M7 h t w) (e:G9 (VI .i64) 1 h x p) (H:B5o w p=some (y,A)):∀ L,I7 prog 15 [.agg t.toArray,x] h (L) (λv h' L'=>∃ B,v=.tuple #[B,.int .i64 A]∧L'=L∧G9 (VI .i64) 1 h' B y):=by
 intro L
 obtain ⟨C,D,E,G,I,rfl,J,K,M,N,P⟩:=aj
 refine I7.B2M func15 z ntmps15 z<|Sr<|To (O.T9 z z z λbO bP bS U=>To (O.alloc A1d z z λf=>To (O.alloc B2m z z λg=>Nt<|Sr<|Vv (V.ldS z U (by exact J7)) ?_)))
 refine bE H λ⟨bU,bV,ak⟩ am H=>To (O.G6 z (A9O ⟨C,D,E,G,I,z,J.u,K.u,M.u,N.u,P.u⟩ am _) z λbW bX bY bZ an=>?_)
 obtain ⟨b0,rfl,ao,ap⟩:=an
 refine O8 _ ao<|Mv z<|Wx z z<|Wx z z<|Wx z z<|Ag z<|Ag z<|An z<|Sq<|Sm z<|Wn z z<|Nt<|T.cH H z (λH=>?_) λH=>?_
 ·refine Sm z<|To (O.stF (vs:=[qs]) D9 z z (j:=1) z z z z<|To (O.stF (vs:=[qi ak]) R5 z z (j:=1) z z z z<|Nr<|Tr<|Fr_ 1 z<|T.A2Z ?_))
  cases H
  exact T.A0N (L':=L) results15 (RVs.cons (RV.cell D9 z (j:=0) z z) (RVs.cons (RV.cell R5 z (j:=1) z z) RVs.nil)) Li (λ_ iv=>iv.drop.drop) ⟨_,z,z,G9.nil⟩
 refine Ks<|Sq<|Sr<|Vv (V.ldS z U.u (by exact J7)) ?_
 refine Mv z<|bE H λ⟨b1,aq⟩ ar H=>To (O.cs (B7q ⟨C,D,E,G,I,z,J.u,K.u,M.u,N.u,P.u⟩ e.u ar _) λb3 b5=>Mv z<|Wx z z<|Wx z z<|Ag z<|An z<|Sm z<|Wn z z<|Nt<|T.cH H z (λH=>?_) λH=>?_)
 ·refine Sm z<|To (O.stF (vs:=[qs]) D9 z z (j:=1) z z z z<|To (O.stF (vs:=[qi aq]) R5 z z (j:=1) z z z z<|Nr<|Tr<|Fr_ 1 z<|T.A2Z ?_))
  cases H
  exact T.A0N (L':=L) results15 (RVs.cons (RV.cell D9 z (j:=0) z z) (RVs.cons (RV.cell R5 z (j:=1) z z) RVs.nil)) Li (λ_ iv=>iv.drop.drop) ⟨_,z,z,G9.nil⟩
 refine Ks<|Sr<|An z<|Sq<|Sm z<|Vv (V.P7 A9 z e)<|Mv z<|Nt ?_
 obtain ⟨ax,ay,aA⟩:=J4 H
 have H:=ay
 refine Bl<|T.lk [1,4,5,6,33,34] (FUEL,(0:Int),(0:Int)) (λ⟨i,d,m⟩=>([(11,qi d),(35,qi m)],blk g (.cells [qi 0].toArray 35)::blk f (.cells [qs].toArray 30)::L,λhh=>iter (B1B p) i (d,m)=some ax)) H ?_
 rintro ⟨i,d,m⟩ b6 b7 aB
 obtain ⟨W,b8,rfl,H,q⟩:=G5 aB
 refine T.norm [11,35,1,4,5,6,33,34] z<|T.fl ?_
 refine Sr<|Wl z z<|Nt<|Sq<|T.cH H z (λH=>?_) λH=>?_
 ·refine Ks<|Sq<|Bl<|Sr<|bE H λb9 X H=>?_
  obtain ⟨bh,aC,rfl⟩:=G9.at e X
  refine Vv (V.ix A9 z z e (E8 X))<|Vv (V.Q9 D6 z aC.u z)<|An z<|Sm z<|Vv (V.ge z z)<|Nt<|T.cH H z (λH=>?_) λH=>?_
  ·refine Rg<|Mv z<|bE H λaD aE H=>Ws z z aE<|Ag z<|Ni<|Bn<|Th<|Rg<|bE H λaG aI H=>Ws z z aI<|Mv z<|Nt<|T.ag (W,aD,aG) (D8 H q)
  refine T.skip<|Bn<|Th<|Rg<|bE H λaJ aK H=>Ws z z aK<|Mv z<|Nt<|T.ag (W,d,aJ) (D8 H q)
 refine Xt<|have H:=D5 H q; Be<|Th<|have H:=H7 H aA; Sq<|Sm z<|bE H λbl aM H=>have aN:=OPt.get ap aM; have aO:=aN; ?_
 obtain ⟨bv,_,rfl,Y,⟨aP,aS,aU,aV,aW,aX,aY,aZ,a0,rfl,a1,a2,a3,a4,a5,a6,Z,a7,a8⟩⟩:=aO
 refine NL z Z5 D9 Y.u z<|Vv (V.P7 A9 z Z)<|Mv z<|bE H λbz a9 H=>Vv (V.X9 z z a9)<|Mv z<|Vv (V.P7 A9 z e)<|Mv z<|bE H λca ah H=>Vv (V.X9 z z ah)<|bE H λcb al H=>To (O.cs (B0h al _) λcd cf=>Wg z z<|Nt<|T.cH H z (λH=>?_) λH=>?_)
 ·refine Sr<|To (O.stF (vs:=[qs]) D9 z z (j:=1) z z z z<|To (O.stF (vs:=[qi 8]) R5 z z (j:=1) z z z z<|Nr<|Tr<|Fr_ 1 z<|T.A2Z ?_))
  cases H
  exact T.A0N (L':=L) results15 (RVs.cons (RV.cell D9 z (j:=0) z z) (RVs.cons (RV.cell R5 z (j:=1) z z) RVs.nil)) Li (λ_ iv=>iv.drop.drop) ⟨_,z,z,G9.nil⟩
 refine Ks<|Sq<|Sm z<|Mv z<|bE H λaa ba H=>To (O.G6 z (A2w (Pt.mk Y.u ⟨aP,aS,aU,aV,aW,aX,aY,aZ,a0,z,a1.u,a2.u,a3.u,a4.u,a5.u,a6.u,Z.u,a7.u,a8.u⟩) e.u ba _) z λcg n ci cj bb=>?_)
 obtain ⟨ck,ab,cm,ac,rfl,bc,bd,be,bf,bg⟩:=bb
 refine O8 _ bc<|Nt<|Bl ?_
 obtain ⟨cn,bi,ad⟩:=J4 H
 refine T.rn (VI .i64) 3 1 λbj=>T.fs [2,2] ?_
 refine T.B3S (S:=(List Int)) (O:=(List Int)) (La0:=[blk g (.cells [qi 0].toArray 35),blk f (.cells [(qs)].toArray 30),F3 3 1 (qs) []]) (Lr:=L) (λc hh r=>∃ a:Value,∃ b:List (List Value),r=([blk g (.cells [qi 0].toArray 35),blk f (.cells [a].toArray 30),F3 3 1 a b]:List E5)∧A8 (VI .i64) hh b c) (λc c_ hh r=>c_=(.ret:Code)∧∃ a:Value,∃ b:List (List Value),r=([blk g (.cells [qi 0].toArray 35),blk f (.cells [a].toArray 30),F3 3 1 a b]:List E5)∧A8 (VI .i64) hh b c) z z ⟨(qs),[],z,bj⟩ (λR_ y_=>A7h R_ n y_ B1G) (λbk=>⟨⟨z,z⟩,RYs.mono (λc _ _ _ l_ ⟨a,b,e_,f0_⟩=>⟨a,b,e_,A8.mono VI.mono f0_ l_⟩) (λc _ _ _ _ l_ ⟨c_,a,b,e_,f0_⟩=>⟨c_,a,b,e_,A8.mono VI.mono f0_ l_⟩),?_⟩) (λ_ La_ bm bn bo=>I7.perm (List.Perm.refl _) (A1r bm bn bd (show (VPt Q0) n [ab] aa.1 from ⟨ab,z,be⟩) bf (show (VSl (VI .i64) 1) n [ac] aa.2 from ⟨ac,z,bg⟩) bi [] bo) λ_ _ _ ⟨La_,_,e_,q_⟩=>⟨_,List.Perm.refl _,La_,e_,q_⟩) ?_ ?_
 ·intro co cp cq bp cr ae bq cs ct cu br H As_ L_
  rcases bq with c | _
  rotate_left
  ·exact dead H
  obtain ⟨bs,_,rfl,bt,bu,cw,a,b,rfl,s⟩:=br
  refine Yld.B6c λL=>Yld.B3q (j:=0) z bt z<|T.fl ?_
  refine Rg<|An z<|T.begin (j:=0) z bu<|T.fl ?_
  refine Bl<|Sm z<|T.fs [4] ?_
  refine bE H λbw bx H=>To (O.G6 z (I7.B0u (R:=λv h' L'=>∃ (af:List (List Value)),L'=F3 3 1 v af::blk bk (.loop { bs with state:=.busy })::blk g (.cells [qi 0].toArray 35)::blk f (.cells [a].toArray 30)::F3 3 1 a b::L∧A8 (VI .i64) h' af bw) func41 z (λ_ _ _ _ ⟨e_0,l_,f_0⟩=>⟨e_0,l_,(A8.free VI.free f_0)⟩) A1x λcx cy bA=>?_) z λo cA cB cC bB=>?_)
  ·have bC:=A8.slc bA ae.u
   exact A1f bC bx _
  obtain ⟨_,rfl,⟨ai,rfl,bD⟩⟩:=bB
  refine T.fl ?_
  refine T.Q7 1 z λbG bI=>To (O.stF (vs:=[o]) D9 z z (j:=4) z bI (by (simp only [BT,bG]) <;> rfl) z ?_)
  refine T.fl ?_
  refine To (O.stF (vs:=[qi 0]) R5 z z (j:=4) z z z z<|T.fl ?_)
  refine Nr<|Br<|T.fs [5] ?_
  refine T.drop<|T.fs [2,3,3,3,4] ?_
  cases H
  exact T.D3G (j:=0) z Li ⟨_::[blk g (.cells [qi 0].toArray 35),blk f (.cells [o].toArray 30),F3 3 1 o ai],bp,z,z,⟨_,_,_,z,z,z,⟨z,⟨o,ai,z,bD⟩⟩⟩,ae.u⟩
 ·rintro cD cE _ c cG bJ ⟨a,b,rfl,s⟩
  have H:=H7 bJ ad
  refine T.fl ?_
  refine Bn<|Th<|Sr<|To (O.stF (vs:=[qs]) D9 z z (j:=2) z z z z<|T.fl ?_)
  refine To (O.stF (vs:=[qi 9]) R5 z z (j:=2) z z z z<|T.fl ?_)
  refine Nr<|T.fs [3] ?_
  refine T.drop<|T.fs [1,2] ?_
  refine T.A2Z<|T.A7t (j:=0) z<|T.fl ?_
  cases H
  exact T.A0N (L':=L) results15 (RVs.cons (RV.cell D9 z (j:=0) z z) (RVs.cons (RV.cell R5 z (j:=1) z z) RVs.nil)) Li (λ_ iv=>iv.drop.drop) ⟨_,z,z,G9.nil⟩
 rintro cI cJ _ c _ cK bK ⟨rfl,a,b,rfl,s⟩
 have H:=H7 bK ad
 refine T.fl ?_
 refine T.ret<|Br<|Tr<|T.fs [3] ?_
 refine T.J8 λcM cN bM=>have bN:=A8.slc bM s.u; T.fs [1,2,2] ?_
 refine T.A2Z<|T.A7t (j:=0) z<|T.fl ?_
 cases H
 exact T.A0N (L':=L) results15 (RVs.cons (RV.cell D9 z (j:=0) z z) (RVs.cons (RV.cell R5 z (j:=1) z z) RVs.nil)) Li (λ_ iv=>iv.drop.drop) ⟨_,z,z,bN⟩
end Go.Proofs.X
open Go Go.Proofs Go.Proofs.Tryz Go.Sl Go.Dm
namespace Go.Proofs.X
theorem A9W:O5 prog 88 0=some 0:=by kernel_rfl
theorem B3Y:O5 prog 88 1=some 1:=by kernel_rfl
theorem B4a:O5 prog 88 2=some 2:=by kernel_rfl
theorem A5q:U1 prog 156=some (false,1):=by kernel_rfl
theorem C2t:zer prog 156=some (.map none):=by kernel_rfl
theorem A6F:zer prog 88=some (.agg #[.int .i64 (0),.int .i64 (0),.int .i64 (0)]):=by kernel_rfl
theorem B6U {h a b c d e} (f:M5 h a b) (g:M5 h c d) (H:B0e b d=some e):∀ L,FnW prog 76 [.agg a.toArray,.agg c.toArray] h L (.int .i64 e):=by
 intro L
 obtain rfl:=f
 obtain rfl:=g
 refine I7.enter func76 z z z<|Sr<|To (O.T9 z z z λn o p i=>To (O.T9 z z z λq r s j=>An z<|Sr<|Vv (V.fa A9W z)<|Wd 0 D6 z i.u z<|Vv (V.fa A9W z)<|Wd 0 D6 z j z<|bE H λt m H=>Vv (V.X9 z z m)<|Ag z<|Nr ?_))
 exact E1 H
theorem B9L {h Y Z D G} (ay:M7 h Y Z) (H:B6P Z=some (D,G)):∀ L,I7 prog 34 [.agg Y.toArray] h (L) (λv h' L'=>∃ aa ab,v=.tuple #[aa,.int .i64 G]∧L'=F3 88 3 aa ab::L∧A8 M5 h' ab D):=by
 intro L
 obtain ⟨aA,aB,aC,aD,aE,rfl,aG,aI,aJ,aK,aM⟩:=ay
 refine I7.B2M func34 z ntmps34 z<|Sr<|To (O.T9 z z z λcr ct cu aN=>Ag z<|An z<|Sr<|Vv (V.ldS z aN (by exact J7)) ?_)
 refine bE H λ⟨cw,cx⟩ aO H=>To (O.G6 z (A1v ⟨aA,aB,aC,aD,aE,z,aG.u,aI.u,aJ.u,aK.u,aM.u⟩ aO _) z λcy cA cB cC aP=>?_)
 obtain ⟨aS,rfl,aU,I⟩:=aP
 refine O8 _ aU<|Mv z<|Wx z z<|Wx z z<|To (O.alloc A9n z z λcD=>To (O.stF (vs:=[aS]) P9 z z (j:=0) z (OPt.cells I) (by (simp only [BT,OPt.one I]) <;> rfl) z ?_))
 refine T.freeze λaV cE aW=>have x:=Y2.of aW; An z<|Sq<|Sm z<|Wn z z<|Nt<|T.cH H z dead λH=>Ks<|Sr<|To (O.mkM z λy=>have aX:V7 (Value.int .i64) true M5 aV 0 ([]:List MapEntry) ([]:List (Int×H8)):=trivial; To (O.alloc C2t z z λA=>To (O.stF (vs:=[.map (some y)]) A5q z z (j:=0) z z z z<|Nt<|Sq<|Sq<|T.dw (.v 0 (.v 1 (.alt 2 (.alt 3 .done .no) .no))) 5 0 0 ?_)))
 refine Tv z (V.Q9 P9 z x z)<|Tv z (V.Q9 P9 z x z)<|bE H λaY aZ H=>have J:=OPt.get I aZ; bE H λcG a0 H=>Tp z z (X2 z z) (O.G6 z (A1L J.u a0 _) z λcI cJ cK cM a1=>?_) T.O4
 obtain ⟨cN,a2,a3⟩:=a1
 refine O8 _ a2<|T.J8 λcO cP a4=>have a5:=A8.slc a4 a3.u; bE H λac a6 H=>Tp z z (SX.two (XA.fr [] Li z) (XA.fr [] Li z)) (O.G6 z (A2w J.u a5 a6 _) z λcS K cU cV a7=>?_) T.O4
 obtain ⟨cW,ad,cX,ae,rfl,a8,a9,ah,al,av⟩:=a7
 refine O8 _ a8<|T.M9 (SX.two (XA.fr [] Li z) (XA.fr [] Li z))<|Th<|Bl ?_
 obtain ⟨cY,az,ba⟩:=J4 H
 refine T.B3S (S:=(List (Int×H8))) (O:=Unit) (La0:=[blk A (.cells [.map (some y)].toArray 156),blk y (.map ([]:List MapEntry).toArray ([]:List MapEntry).length)]) (Lr:=L) (λw hh bb=>∃ a:Nat,∃ c:List MapEntry,bb=([blk A (.cells [.map (some a)].toArray 156),blk a (.map c.toArray c.length)]:List E5)∧V7 (Value.int .i64) true M5 hh 0 c w) (λ_ _ _ _=>False) z z ⟨y,([]:List MapEntry),z,aX.u⟩ (λR_ y_=>A7h R_ K y_ (B2Q aY)) (λcZ=>⟨⟨z,z⟩,RYs.mono (λw _ _ _ l_ ⟨a,c,e_,f0_⟩=>⟨a,c,e_,V7.mono M5.mono l_ f0_⟩) (λ_ _ _ _ _ _ q_=>q_),?_⟩) (λ_ La_ bc bd be=>I7.perm (List.Perm.refl _) (A1r bc bd a9 (show (VPt Q0) K [ad] ac.1 from ⟨ad,z,ah⟩) al (show (VSl (VI .i64) 1) K [ae] ac.2 from ⟨ae,z,av⟩) az [] be) λ_ _ _ ⟨La_,_,e_,q_⟩=>⟨_,List.Perm.refl _,La_,e_,q_⟩) ?_ ?_
 ·intro c0 c1 c2 af c3 B bf c4 c5 c6 bg H As_ L_
  rcases bf with w | _
  rotate_left
  ·exact dead H
  obtain ⟨c7,_,rfl,M,bi,c8,a,c,rfl,d⟩:=bg
  refine Yld.B6c λL=>Yld.B3q (j:=0) z M z<|T.fl ?_
  refine Rg<|An z<|T.begin (j:=0) z bi<|T.fl ?_
  refine Bl<|Sr<|Vv (V.Q9 P9 z x.u z)<|have bj:=J; ?_
  obtain ⟨c9,_,rfl,ag,⟨bk,bm,bn,bo,bp,bq,br,bt,bu,rfl,ai,bw,bx,bA,bB,bC,bD,bG,bI⟩⟩:=bj
  refine NL z A6I I6 ag.u z<|Mv z<|T.fs [3] ?_
  refine bE H λf bJ H=>To (O.G6 z (I7.A6Z (val:=qi f) func40 z A1x λch cl bK=>?_) z λcv bM cz da bN=>?_)
  ·have bO:=A8.slc bK B.u
   exact B5z ai.u bO bJ _
  obtain ⟨rfl,bP⟩:=bN
  refine O8 _ bP<|An z<|Sr<|Vv (V.A4V A5q z (j:=2) z z)<|Mv z<|bE H λ⟨q,db⟩ bS H=>?_
  obtain ⟨_,bU,rfl⟩:=V7.lookO (r:=a) (zc:=[qi 0,qi 0,qi 0]) (agg:=true) underlying156 (A0t.int underlying3) A6F (show M5 bM [qi 0,qi 0,qi 0] (H8.mk (0:Int) (0:Int) (0:Int)) from rfl) d.u bS
  refine Vv (V.D4m z z (j:=3) z bU)<|To (O.alloc A6F z z λdc=>To (O.stF (vs:=[qi q.A3v,qi q.Y6,qi q.A3h]) A1E z z (j:=0) z z z z<|T.fl ?_))
  refine Nt<|Sm z<|Vv (V.fa A9W z)<|To (O.st (vs:=[qi f]) (k:=0) D6 z z (j:=0) z z z<|T.fl ?_)
  refine Nt<|Sr<|Vv (V.fa B4a z)<|Vv (V.ldO (k:=2) D6 z (j:=0) z z)<|bE H λm bV H=>Ws z z bV<|Vv (V.fa B4a z)<|To (O.st (vs:=[qi m]) (k:=2) D6 z z (j:=0) z z z<|T.fl ?_)
  refine Nt<|Sq<|Sr<|Vv (V.Q9 P9 z x.u z)<|Mv z<|T.fs [1] ?_
  refine bE H λbW bX H=>To (O.G6 z (I7.A6Z (val:=.bool bW) func30 z A1x λdd de bY=>?_) z λdf aj dg di bZ=>?_)
  ·have b0:=A8.slc bY B.u
   exact A6L (Pt.mk ag.u ⟨bk,bm,bn,bo,bp,bq,br,bt,bu,z,ai.u,bw.u,bx.u,bA.u,bB.u,bC.u,bD.u,bG.u,bI.u⟩) b0 bX _
  obtain ⟨rfl,b1⟩:=bZ
  refine O8 _ b1<|Nt<|T.cH H z (λH=>?_) λH=>?_
  ·refine Rg<|Vv (V.fa B3Y z)<|Vv (V.ldO (k:=1) D6 z (j:=1) z z)<|bE H λC b2 H=>Ws z z b2<|Vv (V.fa B3Y z)<|To (O.st (vs:=[qi C]) (k:=1) D6 z z (j:=1) z z z<|T.fl ?_)
   refine Nt<|Rg<|Vv (V.A4V A5q z (j:=3) z z)<|Mv z<|Vv (V.A5r (j:=0) (by exact A1E) z z) ?_
   refine bE H λdj b3 H=>To (O.B0n (agg:=true) (E:=M5) (cs:=[qi f,qi C,qi m]) underlying156 (A0t.int underlying3) z z z (j:=4) z d.u (show M5 aj [qi f,qi C,qi m] (H8.mk f C m) from z) _ (.inl z) λN ak=>?_)
   rw [Option.some.inj b3] at ak
   refine T.fl ?_
   refine Ni<|Bn<|T.fs [1] ?_
   refine T.drop<|T.fs [1,1,3,3] ?_
   cases H
   exact T.B7T (j:=0) z Li ⟨_::[blk A (.cells [.map (some a)].toArray 156),blk a (.map N.toArray N.length)],af,z,z,⟨_,_,z,M.turn .ready none,z,z,⟨a,N,z,ak⟩⟩,B.u⟩
  refine Ks<|Rg<|Vv (V.A4V A5q z (j:=3) z z)<|Mv z<|Vv (V.A5r (j:=1) (by exact A1E) z z) ?_
  refine bE H λdk b4 H=>To (O.B0n (agg:=true) (E:=M5) (cs:=[qi f,qi q.Y6,qi m]) underlying156 (A0t.int underlying3) z z z (j:=4) z d.u (show M5 aj [qi f,qi q.Y6,qi m] (H8.mk f q.Y6 m) from z) _ (.inl z) λP am=>?_)
  rw [Option.some.inj b4] at am
  refine T.fl ?_
  refine Ni<|Bn<|T.fs [2] ?_
  refine T.drop<|T.fs [1,1,3,3] ?_
  cases H
  exact T.B7T (j:=0) z Li ⟨_::[blk A (.cells [.map (some a)].toArray 156),blk a (.map P.toArray P.length)],af,z,z,⟨_,_,z,M.turn .ready none,z,z,⟨a,P,z,am⟩⟩,B.u⟩
 ·rintro b5 b6 _ w dm b7 ⟨a,c,rfl,d⟩
  have H:=H7 b7 ba
  refine T.fl ?_
  refine Bn<|Th<|Sr<|An z<|Sq<|Sr<|Vv (V.A4V A5q z (j:=1) z z)<|To (O.range underlying156 z (j:=2) z z λb8=>Nt<|Bl<|T.rn M5 88 3 λb9=>T.fs [3] ?_)
  refine T.drop<|T.fs [3,3,3] ?_
  have bh:=C6u H
  refine T.C3f (α:=(List (Int×H8))×(List H8)×(Array Nat)×Value×(List (List Value))) [53] z (λ⟨n,s,o,p,i⟩=>[(10,p)]) (λ⟨n,s,o,p,i⟩=>blk b8 (.mapIter (some a) c.length o c.length)::blk b5 (.deferred (some []))::blk a (.map c.toArray c.length)::F3 88 3 p i::L) (λ⟨n,s,o,p,i⟩ hh=>(∀ l_,l_.Perm n→Option.bind (Z9 B3f s l_) B3e=some (D,G))∧Lf (Value.int .i64) true M5 hh c o n∧A8 M5 hh i s) (λ⟨n,s,o,p,i⟩=>n.length) (w,([]:List H8),#[],(qs),[]) ⟨z,trivial⟩ z ⟨bh,Lf.start d,b9⟩ ?_
  rintro ⟨n,s,o,p,i⟩ U dn ⟨an,ao,W⟩
  refine T.norm [10,53] z<|T.fl ?_
  refine Sr<|To (O.next z (j:=0) z (jm:=2) z (V7.hold (d.u (g:=U))) (Nat.le_refl _) z (λbl=>?_) (λdp aq=>?_))
  ·obtain rfl:=Lf.nil ao bl
   have H:=D1C (an [] (List.Perm.refl _))
   refine Wx z z<|Nt<|Sq<|Cf z<|Xt<|Be<|Th<|Sm z<|T.fs [3] ?_
   refine bE H λdq bv H=>To (O.G6 z (B7C W (show B0Q U (.func (.func 76) #[] #[]) B0e from ⟨⟨z,z⟩,.inr ⟨76,[],[],z,λdr ds dt du bz dw dx ca dy cb cc=>B6U bz ca cb cc⟩⟩) bv _) z λdA dB dC dD cd=>?_)
   obtain ⟨ce,rfl,cf,cg⟩:=cd
   refine O8 _ cf<|Nt<|Sm z<|Ag z<|Ag z<|Nr<|T.fs [1] ?_
   refine T.drop<|T.fs [2] ?_
   refine T.drop<|Fr_ 1 z<|T.A2Z<|T.A7t (j:=0) z<|T.fl ?_
   cases H
   exact T.A0N (L':=F3 88 3 p ce::L) results34 (RVs.cons (RV.tmp z) (Rv z)) Li (λ_ iv=>iv) ⟨_,_,z,z,cg⟩
  obtain ⟨dE,b,dG,ci,cj,rfl,rfl,ar,ck⟩:=Lf.step ao aq (V7.born (d.u (g:=U))).2
  obtain ⟨dI,H,cm⟩:=D0U an ar
  refine T.fl ?_
  refine Wx z z<|Nt<|Sq<|Ct z<|Ks<|Bl<|Sr<|Vv (V.entry z (j:=0) z (jm:=2) z (List.mem_filter.1 aq).1 (V7.born d).2)<|Wx z z<|To (O.alloc A6F z z λdJ=>To (O.stF (vs:=[qi b.A3v,qi b.Y6,qi b.A3h]) A1E z z (j:=0) z z z z<|T.fl ?_))
  refine T.freeze λau dK cn=>have co:=Y2.of cn; Nt<|Rg<|Mv z<|Vv (V.ldS z co (by exact A1E)) ?_
  refine To (O.bq A2a A6F [.tmp 59] M5 [[qi b.A3v,qi b.Y6,qi b.A3h]] [b] λdM X=>bE H λaw ax H=>To (O.ax A2a A6F 4 W.u X ax M5.plain λcp cq=>T.fl ?_))
  refine T.fs [1] ?_
  refine T.drop<|Ag z<|Ni<|Bn<|Th<|T.fs [3,3,3] ?_
  cases H
  exact T.again (ci,dI,(o.push cj),cp,(i++[[qi b.A3v,qi b.Y6,qi b.A3h]])) Li (Perm.lt ar) ⟨cm,ck.u,cq⟩ (A5b.app ⟨z,trivial⟩ ⟨z,trivial⟩) z
 rintro _ _ _ _ _ _ _ ⟨⟩
end Go.Proofs.X
open Go Go.Proofs Go.Proofs.Tryz Go.Sl Go.Dm
namespace Go.Proofs.X
end Go.Proofs.X
open Go Go.Proofs Go.Proofs.Tryz Go.Sl Go.Dm
namespace Go.Proofs.X
theorem A6j:A5A prog 78=some ([.int .u8 (0),.int .i64 (0)],[(0,1),(1,1)]):=by kernel_rfl
theorem C2P:A5A prog 88=some ([.int .i64 (0),.int .i64 (0),.int .i64 (0)],[(0,1),(1,1),(2,1)]):=by kernel_rfl
theorem A5Y:A0B prog 78=true:=by kernel_rfl
theorem C2S:A0B prog 88=true:=by kernel_rfl
theorem C5F:O5 prog 45 0=some 0:=by kernel_rfl
theorem C3o:D1I prog 88=some [(0,.i .i64),(1,.i .i64),(2,.i .i64)]:=by kernel_rfl
theorem A8X {h i d j e k} (c:G9 (VI .i64) 1 h i d) (f:G9 (VI .i64) 1 h j e) (H:A9k d e=some k):∀ L,FnW prog 19 [i,j] h L (.bool k):=by
 intro L
 refine I7.enter func19 z z z<|Sr<|An z<|Sq<|Sm z<|Vv (V.P7 A9 z c)<|Mv z<|Vv (V.P7 A9 z f)<|Wn z z<|Nt<|T.cH H z (λH=>?_) λH=>?_
 ·exact Sg z<|Nr<|Tr<|E1 H
 refine Ks<|Sq<|Sr<|An z ?_
 obtain ⟨p,q,m⟩:=J4 H
 have H:=q
 refine Bl<|T.lk [0,1] (FUEL,(0:Int)) (λ⟨a,b⟩=>([(5,qi b)],L,λhh=>iter (B3a d e) a b=some p)) H ?_
 rintro ⟨a,b⟩ B C r
 obtain ⟨s,D,rfl,H,g⟩:=G5 r
 refine T.norm [5,0,1] z<|T.fl ?_
 refine Sq<|Sm z<|Mv z<|Vv (V.P7 A9 z c)<|Wl z z<|Nt<|T.cH H z (λH=>?_) λH=>?_
 ·refine Ks<|Sq<|Bl<|Sq<|T.dw (.vs [0,1,2,3,4,5,6,7,8] .done) 10 0 0 ?_
  refine Tm z z<|Tm z z<|bE H λE n H=>?_
  obtain ⟨G,w,rfl⟩:=G9.at c n
  refine Tv z (V.ix A9 z z c (E8 n))<|Tv z (V.Q9 D6 z w.u z)<|Tm z z<|Tm z z<|bE H λI o H=>?_
  obtain ⟨J,x,rfl⟩:=G9.at f o
  refine Tv z (V.ix A9 z z f (E8 o))<|Tv z (V.Q9 D6 z x.u z)<|Tv z (V.ne z z)<|T.M9 (X2 z z)<|Th<|T.cH H z (λH=>?_) λH=>?_
  ·exact Sg z<|Nr<|Br<|Tr<|Tr<|have H:=D5 H g; Br<|Tr<|have H:=H7 H m; E1 H
  refine T.skip<|Bn<|Th<|Rg<|Mv z<|bE H λy A H=>Ws z z A<|An z<|T.ag (s,y) (D8 H g)
 exact Xt<|have H:=D5 H g; Be<|Th<|have H:=H7 H m; Sg z<|Nr<|E1 H
theorem B8b {h i d j e k} (c:G9 (VSl (VI .i64) 1) 1 h i d) (f:G9 (VSl (VI .i64) 1) 1 h j e) (H:B5T d e=some k):∀ L,FnW prog 36 [i,j] h L (.bool k):=by
 intro L
 refine I7.enter func36 z z z<|Sr<|An z<|Sq<|Sm z<|Vv (V.P7 K7 z c)<|Mv z<|Vv (V.P7 K7 z f)<|Wn z z<|Nt<|T.cH H z dead λH=>Ks<|Sq<|Sr<|An z ?_
 obtain ⟨p,q,r⟩:=J4 H
 have H:=q
 refine Bl<|T.lk [0,1] (FUEL,(0:Int)) (λ⟨a,b⟩=>([(5,qi b)],L,λhh=>iter (B1O d e) a b=some p)) H ?_
 rintro ⟨a,b⟩ J K s
 obtain ⟨w,M,rfl,H,m⟩:=G5 s
 refine T.norm [5,0,1] z<|T.fl ?_
 refine Sq<|Sm z<|Mv z<|Vv (V.P7 K7 z c)<|Wl z z<|Nt<|T.cH H z (λH=>?_) λH=>?_
 ·refine Ks<|Sq<|Bl<|Sq<|T.dw (.vs [0,1,2,3,4,5,6,7] (.alt 8 (.g (.v 9 .done)) .no)) 11 0 0 ?_
  refine Tm z z<|Tm z z<|bE H λN n H=>?_
  obtain ⟨P,x,⟨S,rfl,y⟩⟩:=G9.at c n
  refine Tv z (V.ix K7 z z c (E8 n))<|Tv z (V.Q9 D9 z x.u z)<|Tm z z<|Tm z z<|bE H λU o H=>?_
  obtain ⟨W,A,⟨X,rfl,B⟩⟩:=G9.at f o
  refine Tv z (V.ix K7 z z f (E8 o))<|Tv z (V.Q9 D9 z A.u z)<|bE H λY C H=>Tp z z (X2 z z) (O.G6 z (A8X y.u B.u C _) z λZ aa ab ac D=>?_) T.O4
  obtain ⟨rfl,E⟩:=D
  refine O8 _ E<|T.N8 Li<|Tv z (V.not z)<|T.M9 (X2 z z)<|Th<|T.cH H z dead λH=>T.skip<|Bn<|Th<|Rg<|Mv z<|bE H λG I H=>Ws z z I<|An z<|T.ag (w,G) (D8 H m)
 exact Xt<|have H:=D5 H m; Be<|Th<|have H:=H7 H r; Sg z<|Nr<|E1 H
theorem B3J {h U} (H:A6g  = some U):∀ L,FnW prog 8 [] h L (.bool U):=by
 intro L
 refine I7.enter func8 z z z<|Sr<|An z<|Sr<|Vv (V.bld (xs:=[(0,.const (.int .u8 (1))),(2,.const (.string ⟨#[97,110,110,97]⟩)),(3,.const (.string ⟨#[98,111,114,105,115]⟩)),(5,.const (qi (2)))]) (cs:=[_,_,_,_,_,_]) C0F C1h z (F6.cons z z z (F6.cons z z z (F6.cons z z z (F6.cons z z z F6.nil)))))<|To (O.bq A0f A2H [.tmp 20] I4 [[.int .u8 1,qi 0,.string (⟨#[97,110,110,97]⟩:ByteArray),.string (⟨#[98,111,114,105,115]⟩:ByteArray),.string qe,qi 2]] [(F7.mk (1:Int) (0:Int) (⟨#[97,110,110,97]⟩:ByteArray) (⟨#[98,111,114,105,115]⟩:ByteArray) qe (2:Int))] λcD ak=>T.J8 λcE cG am=>have an:=A8.slc am ak.u; bE H λcI ao H=>To (O.G6 z (A9L an ao _) z λcJ cK cM cN ap=>?_))
 obtain ⟨a,b,c,d,f,rfl,aq,i,m,n,o,p⟩:=ap
 refine O8 _ aq<|To (O.alloc A6Y z z λcO=>To (O.stF (vs:=[a,b,c,d,f]) J7 z z (j:=0) z z (by (simp only [BT,G9.one i,G9.one m,G9.one n,G9.one o,G9.one p]) <;> rfl) z ?_))
 refine T.freeze λcP cS ar=>have I:=Y2.of ar; Nt<|Sr<|Vv (V.ldS z I (by exact J7)) ?_
 refine bE H λ⟨cU,cV,cW⟩ au H=>To (O.cs (B2P ⟨a,b,c,d,f,z,i.u,m.u,n.u,o.u,p.u⟩ au _) λcY c0=>Mv z<|Wx z z<|Wx z z<|Wx z z<|Ag z<|Ag z<|An z<|Sr<|Vv (V.ldS z I.u (by exact J7)) ?_)
 refine bE H λ⟨c1,c2⟩ ay H=>To (O.cs (C0T ⟨a,b,c,d,f,z,i.u,m.u,n.u,o.u,p.u⟩ ay _) λaA c5=>Mv z<|Wx z z<|Wx z z<|Ag z<|An z<|Sr<|Vv (V.bld (xs:=[(0,.const (.int .u8 (1))),(1,.const (qi (0)))]) (cs:=[_,_]) A6j A5Y z (F6.cons z z z (F6.cons z z z F6.nil)))<|Vv (V.bld (xs:=[(0,.const (.int .u8 (1))),(1,.const (qi (1)))]) (cs:=[_,_]) A6j A5Y z (F6.cons z z z (F6.cons z z z F6.nil)))<|Vv (V.bld (xs:=[(0,.const (.int .u8 (2)))]) (cs:=[_,_]) A6j A5Y z (F6.cons z z z F6.nil))<|Vv (V.bld (xs:=[(0,.const (.int .u8 (2)))]) (cs:=[_,_]) A6j A5Y z (F6.cons z z z F6.nil))<|Vv (V.bld (xs:=[(0,.const (.int .u8 (2)))]) (cs:=[_,_]) A6j A5Y z (F6.cons z z z F6.nil))<|Vv (V.bld (xs:=[(0,.const (.int .u8 (4))),(1,.const (qi (2)))]) (cs:=[_,_]) A6j A5Y z (F6.cons z z z (F6.cons z z z F6.nil)))<|Vv (V.bld (xs:=[(0,.const (.int .u8 (4))),(1,.const (qi (4)))]) (cs:=[_,_]) A6j A5Y z (F6.cons z z z (F6.cons z z z F6.nil)))<|Vv (V.bld (xs:=[(0,.const (.int .u8 (4))),(1,.const (qi (1)))]) (cs:=[_,_]) A6j A5Y z (F6.cons z z z (F6.cons z z z F6.nil)))<|To (O.bq A3m B7L [.tmp 34,.tmp 35,.tmp 36,.tmp 37,.tmp 38,.tmp 39,.tmp 40,.tmp 41] A3B [[.int .u8 1,qi 0],[.int .u8 1,qi 1],[.int .u8 2,qi 0],[.int .u8 2,qi 0],[.int .u8 2,qi 0],[.int .u8 4,qi 2],[.int .u8 4,qi 4],[.int .u8 4,qi 1]] [(N9.mk (1:Int) (0:Int)),(N9.mk (1:Int) (1:Int)),(N9.mk (2:Int) (0:Int)),(N9.mk (2:Int) (0:Int)),(N9.mk (2:Int) (0:Int)),(N9.mk (4:Int) (2:Int)),(N9.mk (4:Int) (4:Int)),(N9.mk (4:Int) (1:Int))] λc6 q=>An z<|Sq<|T.norm [1,2,3,4,5,6,7] z<|T.fl ?_))
 refine Rg<|Vv (V.ldS z I.u (by exact J7)) ?_
 refine Mv z<|bE H λ⟨aD,aE⟩ aG H=>To (O.G6 z (I7.A6Z (val:=.tuple #[qi aD,qi aE]) func33 z A1x λc7 c8 aI=>?_) z λc9 ch cl cv aJ=>?_)
 ·have aK:=A8.slc aI q.u
  exact A7y ⟨a,b,c,d,f,z,i.u,m.u,n.u,o.u,p.u⟩ aK aG _
 obtain ⟨rfl,aM⟩:=aJ
 refine O8 _ aM<|Mv z<|Wx z z<|Wx z z<|Ag z<|An z<|Sq<|Sm z<|Mv z<|bE H λcz aN H=>Ws z z aN<|Wn z z<|Mv z<|T.bH 53 H z dead λH=>Mv z<|Wn z z<|Kf z<|Mv z<|T.bH 57 H z dead λH=>Mv z<|Wn z z<|Kf z<|Mv z<|T.bH 61 H z dead λH=>Mv z<|Wn z z<|Kf z<|Mv z<|T.bH 65 H z dead λH=>Mv z<|Wn z z<|Kf z<|Mv z<|T.bH 69 H z dead λH=>Mv z<|Wn z z<|Kf z<|Nt<|T.cH H z dead λH=>Ks<|Sq<|T.norm [1,7] z<|T.fl ?_
 refine T.dw (.vs [0,1,2] (.alt 3 (.g (.vs [4,5,6] (.alt 7 (.alt 8 .done .no) .no))) .no)) 10 1 1 ?_
 refine Tv z (V.ldS z I.u (by exact J7)) ?_
 refine Tm z z<|bE H λda W H=>Tv z (Val.XA λ_ _ _=>V.C3J A3m z (j:=0) z q.len (.inl ⟨z,z⟩) (.inr ⟨_,_,z,z⟩) (A4S W))<|bE H λ⟨aO,aP⟩ aS H=>Tp z z (X3 [0] [0] z z) (O.G6 z (I7.A6Z (val:=.tuple #[qi aO,qi aP]) func33 z A1x λdb dc aU=>?_) z λdd X de df aV=>?_) T.O4
 ·have aW:=A8.slc aU q.u
  have aX:=G9.D3T aW (A4S W)
  exact A7y ⟨a,b,c,d,f,z,i.u,m.u,n.u,o.u,p.u⟩ aX aS _
 obtain ⟨rfl,aY⟩:=aV
 refine O8 _ aY<|T.N8 Li<|Tm z z<|Tv z (V.ext z z)<|Tv z (V.ext z z)<|Ts z z (X3 [0] [0] z z) (V.asg z) z ?_ T.O4
 refine Ts z z (X3 [0] [0] z z) (V.asg z) z ?_ T.O4
 refine T.M9 (X3 [0] [0] z z)<|Th<|Sm z<|bE H λJ Y H=>?_
 obtain ⟨dg,aZ,rfl⟩:=A8.get q Y
 refine Vv (V.ixR A3m z z (j:=0) z (A8.bd q Y))<|Vv (V.fa V8 z)<|bE H λa0 a1 H=>To (O.D2N (k:=1) D6 z z (j:=0) z z z z aZ<|have a2:A8 A3B X ([[.int .u8 1,qi 0],[.int .u8 1,qi 1],[.int .u8 2,qi 0],[.int .u8 2,qi 0],[.int .u8 2,qi 0],[.int .u8 4,qi 2],[.int .u8 4,qi 4],[.int .u8 4,qi 1]].set (5:Int).toNat (over [.int .u8 J.F9,qi J.fN] [qi 0] 1)) a0:=A8.set q.u (show A3B X (over [.int .u8 J.F9,qi J.fN] [qi 0] 1) (N9.mk J.F9 (0:Int)) from z) a1; Nt<|Sr<|Vv (V.ldS z I.u (by exact J7)) ?_)
 refine Mv z<|bE H λ⟨a3,a4⟩ a5 H=>To (O.G6 z (I7.A6Z (val:=.tuple #[qi a3,qi a4]) func33 z A1x λdi dj a6=>?_) z λdk dm dn dp a7=>?_)
 ·have a8:=A8.slc a6 a2.u
  exact A7y ⟨a,b,c,d,f,z,i.u,m.u,n.u,o.u,p.u⟩ a8 a5 _
 obtain ⟨rfl,a9⟩:=a7
 refine O8 _ a9<|Mv z<|Wx z z<|Wx z z<|Ag z<|An z<|Sq<|Sm z<|Wn z z<|Mv z<|T.bH 91 H z dead λH=>Mv z<|Wn z z<|Kf z<|Mv z<|T.bH 95 H z dead λH=>Mv z<|Wn z z<|Kf z<|Mv z<|T.bH 99 H z dead λH=>Mv z<|Wn z z<|Kf z<|Nt<|T.cH H z dead λH=>Ks<|Sq<|T.norm [] z<|T.fl ?_
 refine Rg<|bE H λdq ah H=>To (O.G6 z (A9L G9.nil ah _) z λdr ds dt du al=>?_)
 obtain ⟨av,az,ba,bb,bc,rfl,be,bf,bg,bi,bj,bk⟩:=al
 refine O8 _ be<|bE H λ⟨dw,dx,dy⟩ bm H=>To (O.cs (B2P ⟨av,az,ba,bb,bc,z,bf,bg,bi,bj,bk⟩ bm _) λbn dC=>Mv z<|Wx z z<|Wx z z<|Wx z z<|Ag z<|Ag z<|An z<|Sq<|Sm z<|Wn z z<|Mv z<|T.bH 111 H z dead λH=>Mv z<|Wn z z<|Kf z<|Mv z<|T.bH 115 H z dead λH=>Mv z<|Wn z z<|Kf z<|Nt<|T.cH H z dead λH=>Ks<|Sr<|Vv (V.bld (xs:=[(0,.const (.int .u8 (3))),(2,.const (.string ⟨#[97,110,110,97]⟩)),(3,.const (.string ⟨#[98,111,114,105,115]⟩)),(1,.const (qi (5)))]) (cs:=[_,_,_,_,_,_]) C0F C1h z (F6.cons z z z (F6.cons z z z (F6.cons z z z (F6.cons z z z F6.nil)))))<|To (O.bq A0f A2H [.tmp 119] I4 [[.int .u8 3,qi 5,.string (⟨#[97,110,110,97]⟩:ByteArray),.string (⟨#[98,111,114,105,115]⟩:ByteArray),.string qe,qi 0]] [(F7.mk (3:Int) (5:Int) (⟨#[97,110,110,97]⟩:ByteArray) (⟨#[98,111,114,105,115]⟩:ByteArray) qe (0:Int))] λdD bq=>T.J8 λdE dG br=>have bt:=A8.slc br bq.u; bE H λdI bu H=>To (O.G6 z (A9L bt bu _) z λdJ dK dM dN bw=>?_)))
 obtain ⟨s,w,x,y,A,rfl,bx,B,C,D,E,G⟩:=bw
 refine O8 _ bx<|To (O.alloc A6Y z z λdO=>To (O.stF (vs:=[s,w,x,y,A]) J7 z z (j:=0) z z (by (simp only [BT,G9.one B,G9.one C,G9.one D,G9.one E,G9.one G]) <;> rfl) z ?_))
 refine T.freeze λdP dS bA=>have K:=Y2.of bA; Nt<|Sr<|Vv (V.ldS z K (by exact J7)) ?_
 refine bE H λ⟨dU,dV⟩ bB H=>To (O.G6 z (B9L ⟨s,w,x,y,A,z,B.u,C.u,D.u,E.u,G.u⟩ bB _) z λdW dX dY dZ bC=>?_)
 obtain ⟨d0,d1,rfl,bD,M⟩:=bC
 refine O8 _ bD<|Mv z<|Wx z z<|Wx z z<|Ag z<|An z<|Sq<|T.norm [4,12,13] z<|T.fl ?_
 refine Rg<|Vv (V.ldS z K.u (by exact J7)) ?_
 refine bE H λ⟨bG,d2⟩ bI H=>To (O.G6 z (C1b ⟨s,w,x,y,A,z,B.u,C.u,D.u,E.u,G.u⟩ bI _) z λd3 d4 d5 d6 bJ=>?_)
 obtain ⟨bK,rfl,bM,Z⟩:=bJ
 refine O8 _ bM<|Mv z<|Wx z z<|Wx z z<|To (O.alloc B1V z z λd7=>To (O.stF (vs:=[bK,qi bG.A3v]) A0E z z (j:=0) z z (by (simp only [BT,G9.one Z]) <;> rfl) z ?_))
 refine T.fl ?_
 refine T.freeze λd8 d9 bN=>have aa:=Y2.of bN; An z<|Sr<|Vv (V.ldS z K.u (by exact J7)) ?_
 refine bE H λ⟨dh,dl⟩ bO H=>To (O.G6 z (B5G ⟨s,w,x,y,A,z,B.u,C.u,D.u,E.u,G.u⟩ bO _) z λdv dz ea eb bP=>?_)
 obtain ⟨ec,rfl,bS,bU⟩:=bP
 refine O8 _ bS<|Mv z<|Wx z z<|Wx z z<|Ag z<|An z<|Sr<|Vv (V.ldS z K.u (by exact J7)) ?_
 refine bE H λ⟨ed,ee⟩ bV H=>To (O.G6 z (B5G ⟨s,w,x,y,A,z,B.u,C.u,D.u,E.u,G.u⟩ bV _) z λef bW eg ei bX=>?_)
 obtain ⟨ej,rfl,bY,ek⟩:=bX
 refine O8 _ bY<|Mv z<|Wx z z<|Wx z z<|Ag z<|An z<|Sr<|Vv (V.ldS z K.u (by exact J7)) ?_
 refine To (O.bq A9 J6 [.const (qi (-1)),.const (qi (0)),.const (qi (-1))] (VI .i64) [[qi (-1)],[qi 0],[qi (-1)]] [(-1:Int),(0:Int),(-1:Int)] λem bZ=>T.J8 λen eo b0=>have b1:=A8.slc b0 bZ.u; bE H λ⟨ep,er⟩ b2 H=>To (O.G6 z (B8M ⟨s,w,x,y,A,z,B.u,C.u,D.u,E.u,G.u⟩ b1 b2 _) z λes b3 et eu b4=>?_))
 obtain ⟨ew,rfl,b5,b6⟩:=b4
 refine O8 _ b5<|Mv z<|Wx z z<|Wx z z<|Ag z<|An z<|Sm z<|Mv z<|bE H λex b7 H=>Ws z z b7<|Mv z<|bE H λey b8 H=>Ws z z b8<|Mv z<|bE H λeA b9 H=>Ws z z b9<|We z z<|Mv z<|T.bH 156 H z (λH=>?_) λH=>?_
 ·refine Mv z<|We z z<|Kt z<|Mv z<|T.bH 160 H z (λH=>?_) λH=>?_
  ·refine Mv z<|Vv (V.A2p A2a z (j:=0) z M.len)<|We z z<|Kt z<|Mv z<|T.bH 165 H z (λH=>?_) λH=>?_
   ·refine Mv z<|bE H λN ab H=>?_
    obtain ⟨eB,bh,rfl⟩:=A8.get M ab
    refine Vv (V.ixR A2a z z (j:=0) z (A8.bd M ab))<|Vv (V.C7Z z (j:=0) z bh A1E)<|Vv (V.bld (xs:=[(0,.const (qi (0))),(1,.const (qi (1))),(2,.const (qi (8)))]) (cs:=[_,_,_]) C2P C2S z (F6.cons z z z (F6.cons z z z (F6.cons z z z F6.nil))))<|Vv (V.D4s C3o z z (r:=(decide (N.A3v=(0:Int)) && (decide (N.Y6=(1:Int)) && (decide (N.A3h=(8:Int)) && true)))) z)<|Kt z<|Mv z<|T.bH 172 H z (λH=>?_) λH=>?_
    ·refine Mv z<|bE H λP ac H=>?_
     obtain ⟨eC,bl,rfl⟩:=A8.get M ac
     refine Vv (V.ixR A2a z z (j:=0) z (A8.bd M ac))<|Vv (V.C7Z z (j:=0) z bl A1E)<|Vv (V.bld (xs:=[(0,.const (qi (5))),(1,.const (qi (2))),(2,.const (qi (16)))]) (cs:=[_,_,_]) C2P C2S z (F6.cons z z z (F6.cons z z z (F6.cons z z z F6.nil))))<|Vv (V.D4s C3o z z (r:=(decide (P.A3v=(5:Int)) && (decide (P.Y6=(2:Int)) && (decide (P.A3h=(16:Int)) && true)))) z)<|Kt z<|Mv z<|T.bH 179 H z (λH=>?_) λH=>?_
     ·refine Vv (V.fa B3l z)<|Wd 1 D6 z aa.u z<|We z z<|Kt z<|Mv z<|T.bH 184 H z (λH=>?_) λH=>?_
      ·refine Vv (V.fa C5F z)<|Wd 0 D9 z aa.u z<|To (O.bq A9 J6 [.const (qi (0)),.const (qi (2)),.const (qi (1))] (VI .i64) [[qi 0],[qi 2],[qi 1]] [(0:Int),(2:Int),(1:Int)] λeD bv=>T.J8 λeE eG bz=>have ca:=A8.slc bz bv.u; bE H λeI cb H=>To (O.cs (A8X Z.u ca cb _) λS eM=>Kt z<|Mv z<|T.bH 190 H z (λH=>?_) λH=>?_))
       ·refine Mv z<|To (O.bq A9 J6 [.const (qi (0)),.const (qi (1)),.const (qi (2))] (VI .i64) [[qi 0],[qi 1],[qi 2]] [(0:Int),(1:Int),(2:Int)] λad ce=>To (O.bq A9 J6 [.const (qi (0)),.const (qi (1)),.const (qi (3))] (VI .i64) [[qi 0],[qi 1],[qi 3]] [(0:Int),(1:Int),(3:Int)] λae cf=>To (O.bq A9 J6 [.const (qi (0)),.const (qi (2)),.const (qi (1))] (VI .i64) [[qi 0],[qi 2],[qi 1]] [(0:Int),(2:Int),(1:Int)] λaf cg=>T.fs [2] ?_)))
        refine T.J8 λeN eO ci=>have ag:=A8.slc ci ce.u; T.fs [1] ?_
        refine T.J8 λeP eS cj=>have ai:=A8.slc cj cf.u; T.J8 λck eU cm=>have aj:=A8.slc cm cg.u; To (O.bq K7 A1d [.tmp 192,.tmp 193,.tmp 194] (VSl (VI .i64) 1) [[(.slice (some ⟨ad,0,none⟩) 3 3)],[(.slice (some ⟨ae,0,none⟩) 3 3)],[(.slice (some ⟨af,0,none⟩) 3 3)]] [[(0:Int),(1:Int),(2:Int)],[(0:Int),(1:Int),(3:Int)],[(0:Int),(2:Int),(1:Int)]] (hE:=(A8.cons ⟨(.slice (some ⟨ad,0,none⟩) 3 3),z,ag.u⟩ (A8.cons ⟨(.slice (some ⟨ae,0,none⟩) 3 3),z,ai.u⟩ (A8.cons ⟨(.slice (some ⟨af,0,none⟩) 3 3),z,aj⟩ A8.nil)))) λeV cn=>T.J8 λeW eX co=>have cp:=A8.slc co cn.u; bE H λeY cq H=>To (O.cs (B8b bU.u cp cq _) λcr e1=>Kt z<|Mv z<|T.bH 198 H z (λH=>?_) λH=>?_))
        ·exact Mv z<|To (O.bq A9 J6 [.const (qi (1)),.const (qi (0)),.const (qi (2))] (VI .i64) [[qi 1],[qi 0],[qi 2]] [(1:Int),(0:Int),(2:Int)] λe2 cw=>T.J8 λe3 e4 cx=>have cy:=A8.slc cx cw.u; bE H λe5 cA H=>To (O.cs (A8X b6.u cy cA _) λe7 e9=>Kt z<|Ag z<|Nr<|T.drop<|T.drop<|E1 H))
        exact dead H
       exact dead H
      exact dead H
     exact dead H
    exact dead H
   exact dead H
  exact dead H
 exact dead H
theorem C4Y {h a b c} (H:B6L a b=some c):∀ L,FnW prog 9 [.int .i64 a,.int .i64 b] h L (.int .i64 c):=by
 intro L
 refine I7.enter func9 z z z<|Sr<|An z<|Sm z<|Mv z<|bE H λf d H=>Vv (V.A0Z z z d)<|An z<|Sq<|Sm z<|Wl z z<|Nt<|T.cH H z (λH=>?_) λH=>?_
 ·exact Rg<|Mv z<|Mv z<|bE H λg e H=>Ws z z e<|An z<|Sm z<|Ag z<|Nr<|E1 H
 exact Ks<|Sm z<|Ag z<|Nr<|E1 H
theorem B8G {h f d g} (n:M7 h f d) (H:A8m d=some g):∀ L,FnW prog 56 [.agg f.toArray] h L (.int .i64 g):=by
 intro L
 obtain ⟨G,I,J,K,M,rfl,e,N,P,S,U⟩:=n
 refine I7.enter func56 z z z<|Sr<|To (O.T9 z z z λW X Y i=>An z<|Sr<|An z<|Sq<|Sr<|An z ?_)
 obtain ⟨o,p,q⟩:=J4 H
 have H:=p
 refine Bl<|T.lk [1] (FUEL,(0:Int),(0:Int)) (λ⟨a,b,c⟩=>([(3,qi b),(4,qi c)],L,λhh=>iter (A2W d) a (b,c)=some o)) H ?_
 rintro ⟨a,b,c⟩ Z aa r
 obtain ⟨s,ab,rfl,H,j⟩:=G5 r
 refine T.norm [3,4,1] z<|T.fl ?_
 refine Sq<|Sm z<|Vv (V.fa M0 z)<|Wd 0 O7 z i.u z<|Vv (V.P7 O1 z e)<|Wl z z<|Nt<|T.cH H z (λH=>?_) λH=>?_
 ·refine Ks<|Sq<|Bl<|Rg<|Mv z<|Vv (V.fa M0 z)<|Wd 0 O7 z i.u z<|Mv z<|bE H λac m H=>?_
  obtain ⟨ad,t,⟨w,rfl,ae⟩⟩:=G9.at e m
  refine Vv (V.ix O1 z z e (E8 m))<|Vv (V.ldS z t.u (by exact I8)) ?_
  refine bE H λaf x H=>To (O.G6 z (A1B ⟨w,z⟩ x _) z λai aj ak am y=>?_)
  obtain ⟨rfl,A⟩:=y
  refine O8 _ A<|bE H λB C H=>Ws z z C<|Ag z<|Ni<|Bn<|Th<|Rg<|Mv z<|bE H λD E H=>Ws z z E<|An z<|T.ag (s,B,D) (D8 H j)
 exact Xt<|have H:=D5 H j; Be<|Th<|have H:=H7 H q; Sm z<|Ag z<|Nr<|E1 H
theorem B4p {h d e f g m q_0} (a:A8 VB h e f) (H:A6f f g=some (m,q_0)):∀ L,I7 prog 57 [d,.int .i64 g] h (F3 4 1 d e::L) (λv h' L'=>∃ n,v=.int .i64 m∧L'=F3 4 1 d n::L∧A8 VB h' n q_0):=by
 intro L
 refine I7.enter func57 z z z<|Sr<|An z<|Sq<|Sr<|An z ?_
 obtain ⟨r,s,o⟩:=J4 H
 have H:=s
 refine Bl<|T.lk [0,1] (FUEL,(0:Int)) (λ⟨b,c⟩=>([(5,qi c)],F3 4 1 d e::L,λhh=>iter (A7a f g) b c=some r)) H ?_
 rintro ⟨b,c⟩ p J t
 obtain ⟨w,K,rfl,H,i⟩:=G5 t
 refine T.norm [5,0,1] z<|T.fl ?_
 refine Sq<|Sm z<|Mv z<|Vv (V.A2p A0b z (j:=0) z a.len)<|Wl z z<|Nt<|T.cH H z (λH=>?_) λH=>?_
 ·refine Ks<|Sq<|Bl<|Sm z<|Mv z<|bE H λM x H=>Ws z z x<|Mv z<|Vv (V.A2p A0b z (j:=0) z a.len)<|bE H λy A H=>Vv (V.A0Z z z A)<|An z<|Sm z<|Mv z<|bE H λN q H=>?_
  obtain ⟨P,B,rfl⟩:=A8.get a q
  refine Vv (V.ixR A0b z z (j:=0) z (A8.bd a q))<|Vv (V.ldR R3 z (j:=0) z B z)<|Vv (V.not z)<|Nt<|T.cH H z (λH=>?_) λH=>?_
  ·refine Sm z<|Mv z<|bE H λS k H=>?_
   obtain ⟨U,W,rfl⟩:=A8.get a k
   refine Vv (V.ixR A0b z z (j:=0) z (A8.bd a k))<|bE H λC D H=>To (O.stR R3 z z (j:=0) z (A8.bdN a k) z<|have E:A8 VB p (e.set y.toNat [.bool true]) C:=A8.set a.u (show VB p [.bool true] true from z) D; Nt<|Sm z<|Ag z<|Nr<|Br<|Tr<|Tr<|have H:=D5 H i; Br<|Tr<|have H:=H7 H o; ?_)
   cases H
   exact T.rl z (Rv z) ⟨_,z,z,E⟩
  refine T.skip<|Bn<|Th<|Rg<|Mv z<|bE H λG I H=>Ws z z I<|An z<|T.ag (w,G) (D8 H i)
 refine Xt<|have H:=D5 H i; Be<|Th<|have H:=H7 H o; Sg z<|Nr ?_
 cases H
 exact T.rl z (Rv z) ⟨_,z,z,a.u⟩
theorem C2c {h K M N r P w S} (aw:M7 h K M) (c:G9 (VI .i64) 1 h N r) (x:G9 (VI .i64) 1 h P w) (H:B2L M r w=some S):∀ L,I7 prog 14 [.agg K.toArray,N,P] h (L) (λv h' L'=>∃ U,L'=F3 3 1 v U::L∧A8 (VI .i64) h' U S):=by
 intro L
 obtain ⟨ax,ay,aA,aB,aC,rfl,aD,aE,aG,aI,aJ⟩:=aw
 refine I7.enter func14 z z z<|Sr<|To (O.T9 z z z λbN bO bP aK=>An z<|Sr<|Vv (V.ldS z aK (by exact J7)) ?_)
 refine bE H λW aM H=>To (O.cs (B8G ⟨ax,ay,aA,aB,aC,z,aD.u,aE.u,aG.u,aI.u,aJ.u⟩ aM _) λaN bV=>An z<|Sm z<|bE H λX Y H=>To (O.mkX A0b A5V z z z z Y z λs bW bX=>have aS:A8 VB aN _ X:=A8.rep z Y; An z<|Sq<|Sr<|An z ?_))
 obtain ⟨aU,aV,aW⟩:=J4 H
 have H:=aV
 refine Bl<|T.lk [1,2,7] (FUEL,X,(0:Int),(List.replicate W.toNat [.bool false])) (λ⟨i,d,k,b⟩=>([(8,s),(9,qi k)],F3 4 1 s b::L,λhh=>iter (A8i r) i (d,k)=some aU∧A8 VB hh b d)) ⟨H,aS⟩ ?_
 rintro ⟨i,d,k,b⟩ y bY ⟨aX,m⟩
 obtain ⟨Z,bZ,rfl,H,A⟩:=G5 aX
 refine T.norm [8,9,1,2,7] z<|T.fl ?_
 refine Sq<|Sm z<|Mv z<|Vv (V.P7 A9 z c)<|Wl z z<|Nt<|T.cH H z (λH=>?_) λH=>?_
 ·refine Ks<|Sq<|Bl<|Sm z<|Mv z<|bE H λb0 aa H=>?_
  obtain ⟨b2,aY,rfl⟩:=G9.at c aa
  refine Vv (V.ix A9 z z c (E8 aa))<|Vv (V.Q9 D6 z aY.u z)<|Vv (V.ge z z)<|Nt<|T.cH H z (λH=>?_) λH=>?_
  ·refine Rg<|Mv z<|Mv z<|Mv z<|bE H λab ac H=>?_
   obtain ⟨b3,aZ,rfl⟩:=G9.at c ac
   refine Vv (V.ix A9 z z c (E8 ac))<|Vv (V.Q9 D6 z aZ.u z)<|bE H λb4 B H=>?_
   obtain ⟨b5,b6,rfl⟩:=A8.get m B
   refine Vv (V.ixR A0b z z (j:=0) z (A8.bd m B))<|bE H λad a0 H=>To (O.stR R3 z z (j:=0) z (A8.bdN m B) z<|have a1:A8 VB y (b.set ab.toNat [.bool true]) ad:=A8.set m (show VB y [.bool true] true from z) a0; Ni<|Bn<|Th<|Rg<|Mv z<|bE H λa2 a3 H=>Ws z z a3<|An z<|T.ag (Z,ad,a2,(b.set ab.toNat [.bool true])) ⟨(D8 H A),a1⟩)
  refine T.skip<|Bn<|Th<|Rg<|Mv z<|bE H λa4 a5 H=>Ws z z a5<|An z<|T.ag (Z,d,a4,b) ⟨(D8 H A),m⟩
 refine Xt<|have H:=D5 H A; Be<|Th<|have H:=H7 H aW; Sr<|An z<|Sq<|Sr<|An z ?_
 obtain ⟨a6,a7,a8⟩:=J4 H
 have H:=a7
 refine Bl<|T.rn (VI .i64) 3 1 λa9=>T.lk [1,2,7] (FUEL,([]:List Int),(0:Int),d,(qs),[],b) (λ⟨n,o,p,e,q,a,f⟩=>([(10,q),(11,qi p),(8,s)],F3 3 1 q a::F3 4 1 s f::L,λhh=>iter (A7T r w W) n (o,p,e)=some a6∧A8 (VI .i64) hh a o∧A8 VB hh f e)) ⟨H,a9,m⟩ ?_
 rintro ⟨n,o,p,e,q,a,f⟩ ah b7 ⟨al,g,C⟩
 obtain ⟨D,b8,rfl,H,t⟩:=G5 al
 refine T.norm [10,11,8,1,2,7] z<|T.fl ?_
 refine Sq<|Sm z<|Mv z<|Vv (V.P7 A9 z c)<|Wl z z<|Nt<|T.cH H z (λH=>?_) λH=>?_
 ·refine Ks<|Sq<|Bl<|Sm z<|Mv z<|bE H λae af H=>?_
  obtain ⟨b9,av,rfl⟩:=G9.at c af
  refine Vv (V.ix A9 z z c (E8 af))<|Vv (V.Q9 D6 z av.u z)<|An z<|Sq<|Sm z<|Wl z z<|Nt<|T.cH H z (λH=>?_) λH=>?_
  ·refine Sr<|An z<|Sq<|Sm z<|Mv z<|Vv (V.P7 A9 z x)<|Wl z z<|Nt<|T.cH H z (λH=>?_) λH=>?_
   ·refine Rg<|Mv z<|Mv z<|bE H λbh ai H=>?_
    obtain ⟨bl,az,rfl⟩:=G9.at x ai
    refine Vv (V.ix A9 z z x (E8 ai))<|Vv (V.Q9 D6 z az.u z)<|Mv z<|bE H λbv ba H=>To (O.cs (C4Y ba _) λca cc=>An z<|Rg<|Mv z<|Mv z<|Fr_ 1 z<|bE H λ⟨aj,be⟩ bf H=>To (O.G6 z (B4p C.u bf _) z λcd bg ce cf bi=>?_))
    obtain ⟨bj,rfl,bk,bm⟩:=bi
    refine O8 _ bk<|An z<|Rg<|Mv z<|Mv z<|To (O.b1 (E:=VI .i64) A9 J6 z z z z z λcg G=>bE H λak am H=>To (O.ax A9 J6 2 g.u G am VI.plain λbn bo=>T.fl ?_))
    refine T.fs [1] ?_
    refine T.drop<|Ag z<|Ni<|Bn<|Th<|T.norm [1,2,7,8,10,11] z<|T.fl ?_
    refine Rg<|Mv z<|bE H λbp bq H=>Ws z z bq<|An z<|T.ag (D,ak,bp,be,bn,(a++[[qi aj]]),bj) ⟨(D8 H t),bo,bm⟩
   refine Ks<|Rg<|Mv z<|Mv z<|Fr_ 1 z<|bE H λ⟨an,br⟩ bs H=>To (O.G6 z (B4p C bs _) z λck bt cm cn bu=>?_)
   obtain ⟨bw,rfl,bx,bA⟩:=bu
   refine O8 _ bx<|An z<|Rg<|Mv z<|Mv z<|To (O.b1 (E:=VI .i64) A9 J6 z z z z z λco I=>bE H λao aq H=>To (O.ax A9 J6 2 g.u I aq VI.plain λbB bC=>T.fl ?_))
   refine T.fs [1] ?_
   refine T.drop<|Ag z<|Ni<|Bn<|Th<|Rg<|Mv z<|bE H λbD bG H=>Ws z z bG<|An z<|T.ag (D,ao,bD,br,bB,(a++[[qi an]]),bw) ⟨(D8 H t),bC,bA⟩
  refine Ks<|Rg<|Mv z<|Mv z<|To (O.b1 (E:=VI .i64) A9 J6 z z z z z λcr J=>bE H λar au H=>To (O.ax A9 J6 1 g J au VI.plain λbI bJ=>T.fl ?_))
  refine T.fs [1] ?_
  refine T.drop<|Ag z<|Ni<|Bn<|Th<|Rg<|Mv z<|bE H λbK bM H=>Ws z z bM<|An z<|T.ag (D,ar,bK,e,bI,(a++[[qi ae]]),f) ⟨(D8 H t),bJ,C⟩
 refine Xt<|have H:=D5 H t; Be<|Th<|have H:=H7 H a8; Sm z<|Ag z<|Nr<|Fr_ 1 z<|T.drop ?_
 cases H
 exact T.rl z (Rv z) ⟨_,z,g⟩
theorem B3E {h g i m n o} (y:Pt V3 h g i) (p:G9 (VI .i64) 1 h m n) (H:A6o i n=some o):∀ L,FnW prog 16 [g,m] h L (.bool o):=by
 intro L
 refine I7.enter func16 z z z<|Sr<|An z<|Sm z<|Mv z<|bE H λa5 A H=>To (O.G6 z (A8n y p A _) z λa6 a7 a8 a9 B=>?_)
 obtain ⟨C,q⟩:=B
 refine O8 _ C<|An z<|Sq<|Sq ?_
 obtain ⟨D,E,G⟩:=J4 H
 refine T.ck (α:=Bool) [5] (λd=>([(16,.bool d)],L,λhh=>D=d)) ?_ ?_
 ·have H:=E
  refine Rg<|Mv z<|Vv (V.C9x underlying131 z q)<|Mv z<|T.bH 13 H z (λH=>?_) λH=>?_
  ·refine S2<|Kt z<|Nt<|T.mt true (K9 H)
  refine Mv z<|bE H λI J H=>To (O.G6 z (A2f p.u J _) z λah al av az K=>?_)
  obtain ⟨rfl,M⟩:=K
  refine O8 _ M<|Kf z<|Nt<|T.mt I (K9 H)
 rintro d ba bb N
 have H:=H7 N G
 refine T.norm [16,5] z<|T.fl ?_
 refine T.cH H z (λH=>?_) λH=>?_
 ·exact Sg z<|Nr<|Tr<|E1 H
 refine Ks<|Sq<|Sm z<|bE H λP S H=>have U:=OPt.get q S; have W:=U; ?_
 obtain ⟨bc,_,rfl,r,⟨bd,X,Y,rfl,Z,aa,ab⟩⟩:=W
 refine NL z G8 I6 r.u z<|have ac:=Z; ?_
 obtain ⟨ad,_,rfl,s,⟨ae,af,ai,aj,ak,am,an,ao,ap,aq,ar,au,aw,ax,rfl,ay,aA,aB,aC,e,aD,aE,aG,aI,aJ,aK,aM,aN,aO⟩⟩:=ac
 refine NF z L8<|Vv (V.fa A3p z)<|Wd 4 A1h z s.u z<|Vv (V.P7 A0f z e)<|Mv z<|Nt ?_
 obtain ⟨aP,aS,t⟩:=J4 H
 have H:=aS
 refine Bl<|T.lk [5,24,25] (FUEL,(0:Int)) (λ⟨a,b⟩=>([(26,qi b)],L,λhh=>iter (A4h P) a b=some aP)) H ?_
 rintro ⟨a,b⟩ be bf aU
 obtain ⟨w,bg,rfl,H,f⟩:=G5 aU
 refine T.norm [26,5,24,25] z<|T.fl ?_
 refine Sr<|Wl z z<|Nt<|Sq<|T.cH H z (λH=>?_) λH=>?_
 ·refine Ks<|Sq<|Bl<|Sm z<|bE H λc x H=>?_
  obtain ⟨bi,aV,rfl⟩:=G9.at e x
  refine Vv (V.ix A0f z z e (E8 x))<|Vv (V.ldS z aV.u (by exact K3)) ?_
  refine To (O.alloc A2H z z λbj=>Ag z<|To (O.stF (vs:=[.int .u8 c.F9,qi c.K6,.string c.fA,.string c.fB,.string c.I5,qi c.fN]) K3 z z (j:=0) z z z z<|T.freeze λbk bm aW=>have aX:=Y2.of aW; Nt<|Sr<|Vv (V.fa A4d z)<|Wd 1 D6 z aX z<|We z z<|Mv z<|T.bH 34 H z (λH=>?_) λH=>?_))
  ·refine Mv z<|Mv z<|bE H λbn aY H=>To (O.cs (B0f (Pt.mk r.u ⟨(.pointer (some ad)),X,Y,z,(Pt.mk s.u ⟨ae,af,ai,aj,ak,am,an,ao,ap,aq,ar,au,aw,ax,z,ay.u,aA.u,aB.u,aC.u,e.u,aD.u,aE.u,aG.u,aI.u,aJ.u,aK.u,aM.u,aN.u,aO.u⟩),aa.u,ab.u⟩) aY _) λbp br=>Wg z z<|Kt z<|Nt<|T.cH H z (λH=>?_) λH=>?_)
   ·exact Sg z<|Nr<|Br<|Tr<|Tr<|have H:=D5 H f; Br<|Tr<|have H:=H7 H t; E1 H
   refine T.skip<|Bn<|Th<|Rg<|bE H λa1 a2 H=>Ws z z a2<|Mv z<|Nt<|T.ag (w,a1) (D8 H f)
  refine S2<|S2<|Kf z<|Nt<|Cf z<|T.skip<|Bn<|Th<|Rg<|bE H λa3 a4 H=>Ws z z a4<|Mv z<|Nt<|T.ag (w,a3) (D8 H f)
 exact Xt<|have H:=D5 H f; Be<|Th<|have H:=H7 H t; Sg z<|Nr<|E1 H
theorem B9x {h m f n} (s:M7 h m f) (H:A9f f=some n):∀ L,I7 prog 18 [.agg m.toArray] h (L) (λv h' L'=>∃ o,L'=F3 3 1 v o::L∧A8 (VI .i64) h' o n):=by
 intro L
 obtain ⟨P,S,U,W,X,rfl,Y,t,Z,aa,ab⟩:=s
 refine I7.enter func18 z z z<|Sr<|To (O.T9 z z z λac w ad x=>An z<|Sr<|An z<|Sq<|Sr<|An z ?_)
 obtain ⟨y,A,B⟩:=J4 H
 have H:=A
 refine Bl<|T.rn (VI .i64) 3 1 λC=>T.lk [1] (FUEL,([]:List Int),(0:Int),(qs),[]) (λ⟨b,c,d,e,a⟩=>([(3,e),(4,qi d)],F3 3 1 e a::L,λhh=>iter (A5E f) b (c,d)=some y∧A8 (VI .i64) hh a c)) ⟨H,C⟩ ?_
 rintro ⟨b,c,d,e,a⟩ D ae ⟨G,g⟩
 obtain ⟨I,af,rfl,H,p⟩:=G5 G
 refine T.norm [3,4,1] z<|T.fl ?_
 refine Sq<|Sm z<|Vv (V.fa Q3 z)<|Wd 1 M8 z x.u z<|Vv (V.P7 O3 z t)<|Wl z z<|Nt<|T.cH H z (λH=>?_) λH=>?_
 ·refine Ks<|Sq<|Bl<|Rg<|Mv z<|To (O.b1 (E:=VI .i64) A9 J6 z z z z z λai i=>bE H λq r H=>To (O.ax A9 J6 1 g i r VI.plain λJ K=>Fr_ 1 z<|T.drop<|Ag z<|Ni<|Bn<|Th<|Rg<|Mv z<|bE H λM N H=>Ws z z N<|An z<|T.ag (I,q,M,J,(a++[[qi (-1)]])) ⟨(D8 H p),K⟩))
 refine Xt<|have H:=D5 H p; Be<|Th<|have H:=H7 H B; Sm z<|Ag z<|Nr ?_
 cases H
 exact T.rl z (Rv z) ⟨_,z,g⟩
theorem C1L {h a b c d e} (w:M7 h a b) (x:G9 (VI .i64) 1 h c d) (H:B1X b d=some e):∀ L,I7 prog 21 [.agg a.toArray,c] h (L) (λv h' L'=>∃ f,L'=F3 3 1 v f::L∧A8 (VI .i64) h' f e):=by
 intro L
 obtain ⟨g,i,j,k,m,rfl,n,o,p,q,r⟩:=w
 refine I7.enter func21 z z z<|Sr<|To (O.T9 z z z λM N P s=>An z<|Sq<|T.dw (.vs [0,1,3] (.alt 2 (.alt 4 (.alt 5 .done .no) .no) .no)) 7 0 0 ?_)
 refine Tv z (V.ldS z s (by exact J7)) ?_
 refine Tv z (V.ldS z s (by exact J7)) ?_
 refine Tm z z<|bE H λS y H=>Tp z z (X2 z z) (O.G6 z (B9x ⟨g,i,j,k,m,z,n.u,o.u,p.u,q.u,r.u⟩ y _) z λU W X Y A=>?_) T.O4
 obtain ⟨Z,B,C⟩:=A
 refine O8 _ B<|T.J8 λaa ab D=>have E:=A8.slc D C.u; bE H λac G H=>Tp z z (SX.two (XA.fr [] Li z) (XA.fr [] Li z)) (O.G6 z (C2c ⟨g,i,j,k,m,z,n.u,o.u,p.u,q.u,r.u⟩ E x.u G _) z λad ae af ag I=>?_) T.O4
 obtain ⟨ai,J,K⟩:=I
 refine O8 _ J<|Ts z z (SX.two (XA.fr [] Li z) (XA.fr [] Li z)) (V.asg z) z ?_ T.O4
 refine T.M9 (SX.two (XA.fr [] Li z) (XA.fr [] Li z))<|Th<|T.ret ?_
 cases H
 exact T.rl z (Rv z) ⟨_,z,K⟩
theorem B8z {h E G I J} (af:M7 h E G) (H:A3K G=some (I,J)):∀ L,I7 prog 22 [.agg E.toArray] h (L) (λv h' L'=>∃ K r,v=.tuple #[K,.int .i64 J]∧L'=F3 3 1 K r::L∧A8 (VI .i64) h' r I):=by
 intro L
 obtain ⟨ai,aj,ak,am,an,rfl,ao,ap,aq,ar,au⟩:=af
 refine I7.B2M func22 z ntmps22 z<|Sr<|To (O.T9 z z z λbD bG bI aw=>Ag z<|An z<|Sr<|Vv (V.ldS z aw (by exact J7)) ?_)
 refine bE H λ⟨bJ,bK⟩ ax H=>To (O.G6 z (A1v ⟨ai,aj,ak,am,an,z,ao.u,ap.u,aq.u,ar.u,au.u⟩ ax _) z λbM ay bN bO aA=>?_)
 obtain ⟨bP,rfl,aB,aC⟩:=aA
 refine O8 _ aB<|Mv z<|Wx z z<|Wx z z<|Ag z<|An z<|Sq<|Sm z<|Wn z z<|Nt<|T.cH H z (λH=>?_) λH=>?_
 ·refine Sm z<|Ag z<|Ag z<|Nr<|Tr<|T.rn (VI .i64) 3 1 λaD=>T.A2Z ?_
  cases H
  exact T.A0N (L':=F3 3 1 (qs) []::L) results22 (RVs.cons (RV.tmp z) (Rv z)) Li (λ_ iv=>iv) ⟨_,_,z,z,aD⟩
 refine Ks<|Sr<|To (O.alloc A1d z z λk=>Nt<|Sr<|To (O.alloc A5V z z λm=>To (O.stF (vs:=[.bool false]) R3 z z (j:=0) z z z z<|Nt<|Sq<|Sm z<|Mv z<|bE H λbS aE H=>have M:=OPt.get aC aE; bE H λbU aG H=>To (O.G6 z (A1L M aG _) z λbV bW bX bY aI=>?_))))
 obtain ⟨bZ,aJ,aK⟩:=aI
 refine O8 _ aJ<|T.J8 λb0 b1 aM=>have aN:=A8.slc aM aK.u; bE H λN aO H=>To (O.G6 z (A2w M.u aN aO _) z λb2 w b3 b4 aP=>?_)
 obtain ⟨b5,P,b6,U,rfl,aS,aU,aV,aW,aX⟩:=aP
 refine O8 _ aS<|Nt<|Bl ?_
 obtain ⟨b7,aY,aZ⟩:=J4 H
 refine T.rn (VI .i64) 3 1 λa0=>T.fs [2,2] ?_
 refine T.B3S (S:=((List Int)×Bool)) (O:=Unit) (La0:=[blk m (.cells [.bool false].toArray 4),blk k (.cells [(qs)].toArray 30),F3 3 1 (qs) []]) (Lr:=L) (λ⟨s,n⟩ hh a1=>∃ b:Value,∃ d:List (List Value),a1=([blk m (.cells [.bool n].toArray 4),blk k (.cells [b].toArray 30),F3 3 1 b d]:List E5)∧A8 (VI .i64) hh d s) (λ_ _ _ _=>False) z z ⟨(qs),[],z,a0⟩ (λR_ y_=>A7h R_ w y_ A4H) (λx=>⟨⟨z,z⟩,RYs.mono (λ⟨s,n⟩ _ _ _ l_ ⟨b,d,e_,f0_⟩=>⟨b,d,e_,A8.mono VI.mono f0_ l_⟩) (λ_ _ _ _ _ _ q_=>q_),?_⟩) (λ_ La_ a2 a3 a4=>I7.perm (List.Perm.refl _) (A1r a2 a3 aU (show (VPt Q0) w [P] N.1 from ⟨P,z,aV⟩) aW (show (VSl (VI .i64) 1) w [U] N.2 from ⟨U,z,aX⟩) aY [] a4) λ_ _ _ ⟨La_,_,e_,q_⟩=>⟨_,List.Perm.refl _,La_,e_,q_⟩) ?_ ?_
 ·intro b8 b9 W y a5 t a6 bh bl bv a7 H As_ L_
  rcases a6 with ⟨s,n⟩ | _
  rotate_left
  ·exact dead H
  obtain ⟨A,_,rfl,X,a8,bz,b,d,rfl,B⟩:=a7
  refine Yld.B6c λL=>Yld.B3q (j:=0) z X z<|T.fl ?_
  refine Rg<|An z<|T.begin (j:=0) z a8<|T.fl ?_
  refine Bl<|Sq<|Sr<|Vv (V.A4V R3 z (j:=1) z z)<|Vv (V.not z)<|Nt ?_
  obtain ⟨a9,ah,al⟩:=J4 H
  refine T.ck (α:=(List Int)×Bool×Value×(List (List Value))) [6,7,8,22,23] (λ⟨o,g,c,p⟩=>([],blk x (.loop { A with state:=.busy })::blk m (.cells [.bool g].toArray 4)::blk k (.cells [c].toArray 30)::F3 3 1 W y::F3 3 1 c p::L,λhh=>a9=(o,g)∧A8 (VI .i64) hh p o)) ?_ ?_
  ·have H:=ah
   refine T.cH H z (λH=>?_) λH=>?_
   ·refine Rg<|Mv z<|T.fs [4] ?_
    refine bE H λY av H=>To (O.G6 z (I7.B0u (R:=λv h' L'=>∃ (r:List (List Value)),L'=F3 3 1 v r::blk x (.loop { A with state:=.busy })::blk m (.cells [.bool n].toArray 4)::blk k (.cells [b].toArray 30)::F3 3 1 b d::L∧A8 (VI .i64) h' r Y) func41 z (λ_ _ _ _ ⟨e_0,l_,f_0⟩=>⟨e_0,l_,(A8.free VI.free f_0)⟩) A1x λca cb az=>?_) z λZ cc cd ce ba=>?_)
    ·have bb:=A8.slc az t.u
     exact A1f bb av _
    obtain ⟨_,rfl,⟨bc,rfl,be⟩⟩:=ba
    refine T.fl ?_
    refine T.Q7 1 z λbf bg=>To (O.stF (vs:=[Z]) D9 z z (j:=4) z bg (by (simp only [BT,bf]) <;> rfl) z ?_)
    refine T.fl ?_
    refine To (O.stF (vs:=[.bool true]) R3 z z (j:=4) z z z z<|T.fl ?_)
    refine Nt<|T.fs [5] ?_
    refine T.drop<|T.fs [3,3,3,3,4] ?_
    exact T.mt (Y,true,Z,bc) ⟨(K9 H),be⟩
   refine Ks<|T.fs [3,4,4,4,4] ?_
   exact T.mt (s,n,b,d) ⟨(K9 H),B⟩
  rintro ⟨o,g,c,p⟩ cf cg ⟨bi,bj⟩
  have H:=H7 bi al
  refine T.norm [6,7,8,22,23] z<|T.fl ?_
  refine Sm z<|Vv (V.A2p A9 z (j:=3) z t.len)<|Mv z<|Nt<|T.A0G ?_
  obtain ⟨bk,bm,bn⟩:=J4 H
  have H:=bm
  refine Bl<|T.lk [6,7,22,23,28,29] (FUEL,o,(0:Int),p) (λ⟨q,i,e,a⟩=>([(30,qi e)],blk x (.loop { A with state:=.busy })::blk m (.cells [.bool g].toArray 4)::blk k (.cells [c].toArray 30)::F3 3 1 W y::F3 3 1 c a::L,λhh=>iter (A2K a5) q (i,e)=some bk∧A8 (VI .i64) hh a i)) ⟨H,bj⟩ ?_
  rintro ⟨q,i,e,a⟩ aa ci ⟨bo,f⟩
  obtain ⟨ab,cj,rfl,H,C⟩:=G5 bo
  refine T.norm [30,6,7,22,23,28,29] z<|T.fl ?_
  refine Sr<|Wl z z<|Nt<|Sq<|T.cH H z (λH=>?_) λH=>?_
  ·refine Ks<|Sq<|Bl<|Sm z<|bE H λck ac H=>?_
   obtain ⟨cm,bp,rfl⟩:=A8.get t ac
   refine Vv (V.ixR A9 z z (j:=3) z (A8.bd t ac))<|Vv (V.ldR D6 z (j:=3) z bp z)<|Ag z<|An z<|Sr<|Vv (V.A4V D9 z (j:=2) z z)<|Mv z<|bE H λcn ad H=>?_
   obtain ⟨co,bq,rfl⟩:=A8.get f ad
   refine Vv (V.ixR A9 z z (j:=4) z (A8.bd f ad))<|Vv (V.ldR D6 z (j:=4) z bq z)<|Mv z<|Wn z z<|Nt<|T.cH H z (λH=>?_) λH=>?_
   ·refine Rg<|Vv (V.A4V D9 z (j:=2) z z)<|Mv z<|bE H λcp D H=>?_
    obtain ⟨cq,cr,rfl⟩:=A8.get f D
    refine Vv (V.ixR A9 z z (j:=4) z (A8.bd f D))<|bE H λae br H=>To (O.stR D6 z z (j:=4) z (A8.bdN f D) z<|have bs:A8 (VI .i64) aa (a.set e.toNat [qi (-1)]) ae:=A8.set f (show (VI .i64) aa [qi (-1)] (-1:Int) from z) br; Ni<|Bn<|Th<|Rg<|bE H λbt bu H=>Ws z z bu<|Mv z<|Nt<|T.fs [4] ?_)
    refine T.fs [4,4,4] ?_
    exact T.ag (ab,ae,bt,(a.set e.toNat [qi (-1)])) ⟨(D8 H C),bs⟩
   refine T.skip<|Bn<|Th<|Rg<|bE H λbw bx H=>Ws z z bx<|Mv z<|Nt<|T.ag (ab,i,bw,a) ⟨(D8 H C),f⟩
  refine Xt<|have H:=D5 H C; Be<|Th<|have H:=H7 H bn; Bn<|T.fs [3,4,4,4,4] ?_
  cases H
  exact T.B7T (j:=0) z Li ⟨_::[blk m (.cells [.bool g].toArray 4),blk k (.cells [c].toArray 30),F3 3 1 c a],y,z,z,⟨_,_,z,X.turn .ready none,z,z,⟨c,a,z,f⟩⟩,t.u⟩
 ·rintro cs bA _ ⟨s,n⟩ ct bB ⟨b,d,rfl,B⟩
  have H:=H7 bB aZ
  refine T.fl ?_
  refine Bn<|Th<|Sq<|Sr<|Vv (V.A4V R3 z (j:=1) z z)<|Vv (V.not z)<|Nt<|T.cH H z (λH=>?_) λH=>?_
  ·refine Sg z<|Ag z<|Nr<|Tr<|T.rn (VI .i64) 3 1 λbC=>T.fs [2] ?_
   refine T.drop<|T.fs [2] ?_
   refine T.drop<|T.fs [2] ?_
   refine T.drop<|Fr_ 1 z<|T.A2Z<|T.A7t (j:=0) z<|T.fl ?_
   cases H
   exact T.A0N (L':=F3 3 1 (qs) []::L) results22 (RVs.cons (RV.tmp z) (Rv z)) Li (λ_ iv=>iv) ⟨_,_,z,z,bC⟩
  refine Ks<|Sr<|Vv (V.A4V D9 z (j:=2) z z)<|Ag z<|Ag z<|Nr<|T.fs [1] ?_
  refine T.drop<|T.fs [1] ?_
  refine T.drop<|T.A2Z<|T.A7t (j:=0) z<|T.fl ?_
  cases H
  exact T.A0N (L':=F3 3 1 b d::L) results22 (RVs.cons (RV.tmp z) (Rv z)) Li (λ_ iv=>iv) ⟨_,_,z,z,B⟩
 rintro _ _ _ _ _ _ _ ⟨⟩
theorem B8s {h G t n I J} (aD:M7 h G t) (H:A8f t n=some (I,J)):∀ L,I7 prog 23 [.agg G.toArray,.int .i64 n] h (L) (λv h' L'=>∃ K M,v=.tuple #[K,.int .i64 J]∧L'=F3 3 1 K M::L∧A8 (VI .i64) h' M I):=by
 intro L
 obtain ⟨aE,aG,aI,aJ,aK,rfl,aM,N,aN,aO,aP⟩:=aD
 refine I7.B2M func23 z ntmps23 z<|Sr<|To (O.T9 z z z λbX bY bZ P=>Ag z<|An z<|Sr<|Vv (V.ldS z P (by exact J7)) ?_)
 refine bE H λ⟨b0,b2⟩ aS H=>To (O.G6 z (A1v ⟨aE,aG,aI,aJ,aK,z,aM.u,N.u,aN.u,aO.u,aP.u⟩ aS _) z λb3 aU b4 b5 aV=>?_)
 obtain ⟨b6,rfl,aW,aX⟩:=aV
 refine O8 _ aW<|Mv z<|Wx z z<|Wx z z<|Ag z<|An z<|Sq<|Sm z<|Wn z z<|Nt<|T.cH H z (λH=>?_) λH=>?_
 ·refine Sm z<|Ag z<|Ag z<|Nr<|Tr<|T.rn (VI .i64) 3 1 λaY=>T.A2Z ?_
  cases H
  exact T.A0N (L':=F3 3 1 (qs) []::L) results23 (RVs.cons (RV.tmp z) (Rv z)) Li (λ_ iv=>iv) ⟨_,_,z,z,aY⟩
 refine Ks<|Sq<|Sq ?_
 obtain ⟨aZ,a0,a1⟩:=J4 H
 refine T.ck (α:=Bool) [1,6] (λo=>([(27,.bool o)],L,λhh=>aZ=o)) ?_ ?_
 ·have H:=a0
  refine Rg<|Mv z<|Wl z z<|Mv z<|T.bH 21 H z (λH=>?_) λH=>?_
  ·refine S2<|S2<|Sk<|Kt z<|Nt<|T.mt true (K9 H)
  refine Mv z<|Vv (V.fa Q3 z)<|Wd 1 M8 z P.u z<|Vv (V.P7 O3 z N)<|Vv (V.ge z z)<|Kf z<|Nt<|T.mt (decide ((t.A7.length:Int)≤n)) (K9 H)
 rintro o U b7 a2
 have H:=H7 a2 a1
 refine T.norm [27,1,6] z<|T.fl ?_
 refine T.cH H z (λH=>?_) λH=>?_
 ·refine Sg z<|Ag z<|Nr<|Tr<|T.rn (VI .i64) 3 1 λa3=>T.A2Z ?_
  cases H
  exact T.A0N (L':=F3 3 1 (qs) []::L) results23 (RVs.cons (RV.tmp z) (Rv z)) Li (λ_ iv=>iv) ⟨_,_,z,z,a3⟩
 refine Ks<|Sr<|To (O.alloc A1d z z λp=>Nt<|Sq<|Sm z<|bE H λa4 a5 H=>have a6:=OPt.get aX a5; have a7:=a6; ?_)
 obtain ⟨b8,_,rfl,w,⟨W,X,Y,Z,aa,ab,ac,ad,ae,rfl,af,ai,aj,ak,am,an,x,ao,aq⟩⟩:=a7
 refine NL z Z5 D9 w.u z<|Vv (V.P7 A9 z x)<|Mv z<|Nt ?_
 obtain ⟨a8,a9,ah⟩:=J4 H
 have H:=a9
 refine Bl<|T.rn (VI .i64) 3 1 λal=>Fr_ 1 z<|T.lkM [1,6,8,32] (FUEL,[],([]:List Int),(0:Int),(qs),[]) (λ⟨g,ms,i,a,d,f⟩=>([(33,qi a)],blk p (.cells [d].toArray 30)::F3 3 1 d f::(mkB ms++L),λhh=>iter (A4v n a4) g (i,a)=some a8∧A8 (VI .i64) hh f i)) z ⟨H,al⟩ ?_
 rintro ⟨g,ms,i,a,d,f⟩ b9 bh ⟨av,ar⟩
 obtain ⟨au,bl,rfl,H,y⟩:=G5 av
 refine T.norm [33,1,6,8,32] z<|T.fl ?_
 refine Sr<|Wl z z<|Nt<|Sq<|T.cH H z (λH=>?_) λH=>?_
 ·refine Ks<|Sq<|Bl<|Sm z<|To (O.alloc J6 z z λq=>To (O.stF (vs:=[qi a]) D6 z z (j:=0) z z z z<|T.fl ?_))
  refine Nt<|Sm z<|bE H λbv az H=>To (O.G6 z (A1L (Pt.mk w.u ⟨W,X,Y,Z,aa,ab,ac,ad,ae,z,af.u,ai.u,aj.u,ak.u,am.u,an.u,x.u,ao.u,aq.u⟩) az _) z λbz aw ca cb ba=>?_)
  obtain ⟨bb,bc,r⟩:=ba
  refine O8 _ bc<|An z<|Sm z<|Mv z<|Vv (V.A4V D6 z (j:=1) z z)<|bE H λcc A H=>?_
  obtain ⟨cd,ce,rfl⟩:=A8.get r A
  refine Vv (V.ixR A9 z z (j:=0) z (A8.bd r A))<|bE H λbe bf H=>To (O.stR D6 z z (j:=0) z (A8.bdN r A) z<|have bg:A8 (VI .i64) aw (bb.set n.toNat [qi a]) be:=A8.set r (show (VI .i64) aw [qi a] a from z) bf; Nt<|Sm z<|Mv z<|T.J8 λcf cg bi=>have bj:=A8.slc bi bg.u; bE H λax bk H=>To (O.G6 z (A2w (Pt.mk w.u ⟨W,X,Y,Z,aa,ab,ac,ad,ae,z,af.u,ai.u,aj.u,ak.u,am.u,an.u,x.u,ao.u,aq.u⟩) bj bk _) z λci B cj ck bm=>?_))
  obtain ⟨cm,ay,cn,aA,rfl,bn,bo,bp,bq,br⟩:=bm
  refine O8 _ bn<|Nt<|Bl ?_
  obtain ⟨co,bs,aB⟩:=J4 H
  refine T.B3S (S:=(List Int)) (O:=(List Int)) (La0:=[blk q (.cells [qi a].toArray 3),blk p (.cells [d].toArray 30),F3 3 1 d f]) (Lr:=mkB ms++L) (λe hh C=>∃ c:Value,∃ b:List (List Value),C=([blk q (.cells [qi a].toArray 3),blk p (.cells [c].toArray 30),F3 3 1 c b]:List E5)∧A8 (VI .i64) hh b e) (λe c_ hh C=>c_=(.exit 2:Code)∧∃ c:Value,∃ b:List (List Value),C=([blk q (.cells [qi a].toArray 3),blk p (.cells [c].toArray 30),F3 3 1 c b]:List E5)∧A8 (VI .i64) hh b e) z z ⟨d,f,z,ar.u⟩ (λR_ y_=>A7h R_ B y_ (A4C a)) (λcp=>⟨⟨z,z⟩,RYs.mono (λe _ _ _ l_ ⟨c,b,e_,f0_⟩=>⟨c,b,e_,A8.mono VI.mono f0_ l_⟩) (λe _ _ _ _ l_ ⟨c_,c,b,e_,f0_⟩=>⟨c_,c,b,e_,A8.mono VI.mono f0_ l_⟩),?_⟩) (λ_ La_ bt bu bw=>I7.perm (List.Perm.refl _) (A1r bt bu bo (show (VPt Q0) B [ay] ax.1 from ⟨ay,z,bp⟩) bq (show (VSl (VI .i64) 1) B [aA] ax.2 from ⟨aA,z,br⟩) bs [] bw) λ_ _ _ ⟨La_,_,e_,q_⟩=>⟨_,List.Perm.refl _,La_,e_,q_⟩) ?_ ?_
  ·intro bx cq cr bA cs bB bC ct cu cw bD H As_ L_
   rcases bC with e | _
   rotate_left
   ·exact dead H
   obtain ⟨cx,_,rfl,bG,bI,cy,c,b,rfl,m⟩:=bD
   refine Yld.B6c λL=>Yld.B3q (j:=0) z bG z<|T.fl ?_
   refine Ks<|T.begin (j:=0) z bI<|T.fl ?_
   refine Bl<|Sr<|Vv (V.A4V D9 z (j:=2) z z)<|Vv (V.A4V D6 z (j:=1) z z)<|To (O.b1 (E:=VI .i64) A9 J6 z z z z z λcA D=>bE H λbJ aC H=>To (O.ax A9 J6 4 m D aC VI.plain λs bK=>T.fl ?_))
   refine T.fs [1] ?_
   refine T.drop<|T.Q7 0 z λbM bN=>To (O.stF (vs:=[s]) D9 z z (j:=3) z bN (by (simp only [BT,bM]) <;> rfl) z ?_)
   refine T.fl ?_
   refine Nt<|T.exit<|T.blX z<|T.fs [4,2,2,4,4] ?_
   cases H
   exact T.D4I (j:=0) z Lr ⟨_::[blk q (.cells [qi a].toArray 3),blk p (.cells [s].toArray 30),F3 3 1 s (b++[[qi a]])],bA,z,z,⟨_,_,_,z,z,z,⟨z,⟨s,(b++[[qi a]]),z,bK⟩⟩⟩,bB⟩
  ·rintro cD cE _ e cG bO ⟨c,b,rfl,m⟩
   have H:=H7 bO aB
   refine T.fl ?_
   refine Bn<|Bn<|Th<|Rg<|bE H λbP bS H=>Ws z z bS<|Mv z<|Nt<|T.fs [1] ?_
   refine T.drop<|T.fs [2,2] ?_
   exact T.agM (au,cD::ms,e,bP,c,b) ⟨(D8 H y),m⟩
  rintro cI cJ _ e _ cK bU ⟨rfl,c,b,rfl,m⟩
  have H:=H7 bU aB
  refine T.fl ?_
  refine T.exit<|Be<|Bn<|Th<|Rg<|bE H λbV bW H=>Ws z z bW<|Mv z<|Nt<|T.fs [1] ?_
  refine T.drop<|T.fs [2,2] ?_
  exact T.agM (au,cI::ms,e,bV,c,b) ⟨(D8 H y),m⟩
 refine Xt<|have H:=D5 H y; Be<|Th<|have H:=H7 H ah; Sr<|Vv (V.A4V D9 z (j:=0) z z)<|Ag z<|Ag z<|Nr<|T.drop<|T.A2Z<|T.D4n ?_
 cases H
 exact T.A0N (L':=F3 3 1 d f::L) results23 (RVs.cons (RV.tmp z) (Rv z)) Li (λ_ iv=>iv) ⟨_,_,z,z,ar⟩
theorem B3h {h ad ae af ai aj} (aE:Z0 h ad ae) (aG:G9 (VI .i64) 1 h af ai) (H:A5Q ae ai=some aj):∀ L,FnW prog 5 [.agg ad.toArray,af] h L (.bool aj):=by
 intro L
 obtain ⟨aI,aJ,aK,aM,rfl,aN,aO,aP,aS⟩:=aE
 refine I7.enter func5 z z z<|Sr<|To (O.T9 z z z λct cu cw aU=>An z<|Sr<|Vv (V.ldS z aU (by exact C5w)) ?_)
 refine bE H λak aV H=>To (O.G6 z (C0O ⟨aI,aJ,aK,aM,z,aN.u,aO.u,aP.u,aS.u⟩ aV _) z λcx cy cA cB aW=>?_)
 obtain ⟨B,C,D,E,G,rfl,aX,r,f,I,J,K⟩:=aW
 refine O8 _ aX<|To (O.alloc A6Y z z λcC=>To (O.stF (vs:=[B,C,D,E,G]) J7 z z (j:=0) z z (by (simp only [BT,G9.one r,G9.one f,G9.one I,G9.one J,G9.one K]) <;> rfl) z ?_))
 refine T.freeze λcD cE aY=>have i:=Y2.of aY; Nt<|Sr<|Vv (V.ldS z i (by exact J7)) ?_
 refine bE H λ⟨aZ,cG,a0⟩ a1 H=>To (O.G6 z (B9n ⟨B,C,D,E,G,z,r.u,f.u,I.u,J.u,K.u⟩ a1 _) z λcI cJ cK cM a2=>?_)
 obtain ⟨a3,rfl,a4,am⟩:=a2
 refine O8 _ a4<|Mv z<|Wx z z<|Wx z z<|Wx z z<|Ag z<|Ag z<|An z<|Sq<|Sq ?_
 obtain ⟨a5,a6,a7⟩:=J4 H
 refine T.ck (α:=Bool) [1,5,6] (λM=>([(32,.bool M)],L,λhh=>a5=M)) ?_ ?_
 ·have H:=a6
  refine Rg<|Mv z<|Vv (V.C9x underlying49 z am)<|Mv z<|T.bH 29 H z (λH=>?_) λH=>?_
  ·refine S2<|Kt z<|Nt<|T.mt true (K9 H)
  refine Mv z<|Wn z z<|Kf z<|Nt<|T.mt (!decide (a0=(0:Int))) (K9 H)
 rintro M cN cO a8
 have H:=H7 a8 a7
 refine T.norm [32,1,5,6] z<|T.fl ?_
 refine T.cH H z (λH=>?_) λH=>?_
 ·exact Sg z<|Nr<|Tr<|E1 H
 refine Ks<|Sr<|Vv (V.ldS z i.u (by exact J7)) ?_
 refine Mv z<|bE H λa9 ah H=>To (O.G6 z (C1L ⟨B,C,D,E,G,z,r.u,f.u,I.u,J.u,K.u⟩ aG.u ah _) z λal cP cS cU av=>?_)
 obtain ⟨cV,az,ba⟩:=av
 refine O8 _ az<|An z<|Sr<|Vv (V.ldS z i.u (by exact J7)) ?_
 refine bE H λ⟨bb,an⟩ bc H=>To (O.G6 z (B8z ⟨B,C,D,E,G,z,r.u,f.u,I.u,J.u,K.u⟩ bc _) z λcW cX cY cZ be=>?_)
 obtain ⟨N,P,rfl,bf,m⟩:=be
 refine O8 _ bf<|Mv z<|Wx z z<|Wx z z<|Ag z<|An z<|Sq<|Sr<|An z ?_
 obtain ⟨bg,bi,s⟩:=J4 H
 have H:=bi
 refine Bl<|Fr_ 1 z<|T.J8 λc0 c1 bj=>have bk:=A8.slc bj ba.u; T.lk [5,8,10] (FUEL,(0:Int),aZ,a9,a3,al) (λ⟨w,n,o,b,c,d⟩=>([(11,qi n),(6,c),(9,d)],F3 3 1 N P::L,λhh=>iter (A0k ak bb an) w (n,o,b)=some bg∧OPt V3 hh c o∧G9 (VI .i64) 1 hh d b)) ⟨H,am.u,bk⟩ ?_
 rintro ⟨w,n,o,b,c,d⟩ c2 c3 ⟨bm,Z,p⟩
 obtain ⟨aa,c4,rfl,H,e⟩:=G5 bm
 refine T.norm [11,6,9,5,8,10] z<|T.fl ?_
 refine Sq<|Sm z<|Vv (V.fa Q3 z)<|Wd 1 M8 z i.u z<|Vv (V.P7 O3 z f)<|Wl z z<|Nt<|T.cH H z (λH=>?_) λH=>?_
 ·refine Ks<|Sq<|Bl<|Sr<|Vv (V.ldS z i.u (by exact J7)) ?_
  refine Mv z<|bE H λ⟨ao,c5⟩ bn H=>To (O.G6 z (B8s ⟨B,C,D,E,G,z,r.u,f.u,I.u,J.u,K.u⟩ bn _) z λc6 c7 c8 c9 bo=>?_)
  obtain ⟨X,Y,rfl,bp,a⟩:=bo
  refine O8 _ bp<|Mv z<|Wx z z<|Wx z z<|Ag z<|An z<|Sq<|Sq ?_
  obtain ⟨bq,br,bs⟩:=J4 H
  refine T.ck (α:=Bool) [5,6,8,9,10,11,12] (λS=>([(63,.bool S)],F3 3 1 X Y::F3 3 1 N P::L,λhh=>bq=S)) ?_ ?_
  ·have H:=br
   refine Rg<|Mv z<|Wn z z<|Mv z<|T.bH 56 H z (λH=>?_) λH=>?_
   ·refine S2<|S2<|S2<|Kt z<|Nt<|T.mt true (K9 H)
   refine Mv z<|We z z<|Mv z<|Vv (V.A2p A9 z (j:=0) z a.len)<|We z z<|Vv (V.bne underlying4 z z)<|Kf z<|Nt<|T.mt (!(decide (an=(9:Int)) == decide ((ao.length:Int)=(0:Int)))) (K9 H)
  rintro S ch cl bt
  have H:=H7 bt bs
  refine T.norm [63,5,6,8,9,10,11,12] z<|T.fl ?_
  refine T.cH H z (λH=>?_) λH=>?_
  ·exact Sg z<|Nr<|Tr<|Br<|Tr<|Tr<|have H:=D5 H e; Br<|Tr<|have H:=H7 H s; T.drop<|T.drop<|E1 H
  refine Ks<|Sq<|Sm z<|Wn z z<|Nt<|T.cH H z (λH=>?_) λH=>?_
  ·refine T.exit<|Te<|Be<|Th<|Rg<|Mv z<|bE H λbu bw H=>Ws z z bw<|An z<|T.drop<|T.ag (aa,bu,o,b,c,d) ⟨(D8 H e),Z.u,p.u⟩
  refine Ks<|Sq<|Sq ?_
  obtain ⟨bx,bA,bB⟩:=J4 H
  refine T.ck (α:=Bool) [5,6,8,9,10,11,12] (λU=>([(98,.bool U)],F3 3 1 X Y::F3 3 1 N P::L,λhh=>bx=U)) ?_ ?_
  ·have H:=bA
   refine T.dw (.vs [0,1,2,3,4,5,6,7,8,9,10,11,12,13,14,15,16,17,18,19,20,21,22,23,24,25,26,27,28,29,30,31,32] .done) 34 2 2 ?_
   refine Tm z z<|Tv z (Val.XA λ_ _ _=>V.A2p A9 z (j:=1) z m.len)<|Tv z (V.fa Q3 z)<|Td z 1 M8 z i.u z<|Tv z (V.P7 O3 z f)<|Tv z (V.ne z z)<|Tm z z<|T.bH 72 H z (λH=>?_) λH=>?_
   ·refine T2 z z<|T2 z z<|T2 z z<|T2 z z<|T2 z z<|T2 z z<|Tk z<|Tv z (V.pkT z z)<|Tm z z<|T2 z z<|T2 z z<|T2 z z<|T2 z z<|T2 z z<|Tv z (V.pkT z z)<|T.M9 (X3 [1,1] [1,1] z z)<|Th<|T.mt true (K9 H)
   refine Tm z z<|Tv z (Val.XA λ_ _ _=>V.A2p A9 z (j:=0) z a.len)<|Tv z (V.eq z z)<|Tm z z<|T.bH 76 H z (λH=>?_) λH=>?_
   ·refine Tm z z<|Tm z z<|bE H λcv ap H=>?_
    obtain ⟨cz,bC,rfl⟩:=A8.get m ap
    refine Tv z (Val.XA λ_ _ _=>V.ixR A9 z z (j:=1) z (A8.bd m ap))<|Tv z (Val.XA λ_ _ _=>V.ldR D6 z (j:=1) z bC z)<|Tm z z<|bE H λda aq H=>?_
    obtain ⟨db,bD,rfl⟩:=A8.get a aq
    refine Tv z (Val.XA λ_ _ _=>V.ixR A9 z z (j:=0) z (A8.bd a aq))<|Tv z (Val.XA λ_ _ _=>V.ldR D6 z (j:=0) z bD z)<|Tv z (V.ne z z)<|Tv z (V.pkT z z)<|Tv z (V.pkF z z)<|Tm z z<|T.bH 87 H z (λH=>?_) λH=>?_
    ·refine T2 z z<|T2 z z<|T2 z z<|T2 z z<|T2 z z<|Tv z (V.pkT z z)<|T.M9 (X3 [1,1] [1,1] z z)<|Th<|T.mt true (K9 H)
    refine Tm z z<|Tv z (Val.XA λ_ _ _=>V.A2p A9 z (j:=0) z a.len)<|Tv z (V.gt z z)<|Tm z z<|T.bH 91 H z (λH=>?_) λH=>?_
    ·refine Tm z z<|Tm z z<|bE H λbG ar H=>?_
     obtain ⟨dc,bI,rfl⟩:=A8.get m ar
     refine Tv z (Val.XA λ_ _ _=>V.ixR A9 z z (j:=1) z (A8.bd m ar))<|Tv z (Val.XA λ_ _ _=>V.ldR D6 z (j:=1) z bI z)<|Tv z (V.ne z z)<|Tv z (V.pkT z z)<|Tv z (V.pkF z z)<|T.M9 (X3 [1,1] [1,1] z z)<|Th<|T.mt (!decide (bG=(-1:Int))) (K9 H)
    refine T2 z z<|T2 z z<|Tk z<|Tv z (V.pkF z z)<|Tv z (V.pkF z z)<|T.M9 (X3 [1,1] [1,1] z z)<|Th<|T.mt false (K9 H)
   refine T2 z z<|T2 z z<|T2 z z<|T2 z z<|Tv z (V.pkF z z)<|Tv z (V.pkF z z)<|Tm z z<|Tm z z<|Tv z (Val.XA λ_ _ _=>V.A2p A9 z (j:=0) z a.len)<|Tv z (V.gt z z)<|Tm z z<|T.bH 91 H z (λH=>?_) λH=>?_
   ·refine Tm z z<|Tm z z<|bE H λbJ au H=>?_
    obtain ⟨dd,bK,rfl⟩:=A8.get m au
    refine Tv z (Val.XA λ_ _ _=>V.ixR A9 z z (j:=1) z (A8.bd m au))<|Tv z (Val.XA λ_ _ _=>V.ldR D6 z (j:=1) z bK z)<|Tv z (V.ne z z)<|Tv z (V.pkT z z)<|Tv z (V.pkF z z)<|T.M9 (X3 [1,1] [1,1] z z)<|Th<|T.mt (!decide (bJ=(-1:Int))) (K9 H)
   refine T2 z z<|T2 z z<|Tk z<|Tv z (V.pkF z z)<|Tv z (V.pkF z z)<|T.M9 (X3 [1,1] [1,1] z z)<|Th<|T.mt false (K9 H)
  rintro U de df bM
  have H:=H7 bM bB
  refine T.norm [98,5,6,8,9,10,11,12] z<|T.fl ?_
  refine T.cH H z (λH=>?_) λH=>?_
  ·exact Sg z<|Nr<|Tr<|Br<|Tr<|Tr<|have H:=D5 H e; Br<|Tr<|have H:=H7 H s; T.drop<|T.drop<|E1 H
  refine Ks<|Sr<|An z<|Sq<|Sr<|An z ?_
  obtain ⟨bN,bO,ab⟩:=J4 H
  have H:=bO
  refine Bl<|T.lk [5,6,8,9,10,11,12] (FUEL,false,(0:Int)) (λ⟨x,y,A⟩=>([(14,.bool y),(15,qi A)],F3 3 1 X Y::F3 3 1 N P::L,λhh=>iter (A0O ak n b ao) x (y,A)=some bN)) H ?_
  rintro ⟨x,y,A⟩ dg di bP
  obtain ⟨aw,dj,rfl,H,W⟩:=G5 bP
  refine T.norm [14,15,5,6,8,9,10,11,12] z<|T.fl ?_
  refine Sq<|Sm z<|Mv z<|Vv (V.A2p A9 z (j:=0) z a.len)<|Wl z z<|Nt<|T.cH H z (λH=>?_) λH=>?_
  ·refine Ks<|Sq<|Bl<|Sq ?_
   obtain ⟨bS,bU,bV⟩:=J4 H
   refine T.ck (α:=Bool) [5,6,8,9,10,11,12,15] (λq=>([(14,.bool q)],F3 3 1 X Y::F3 3 1 N P::L,λhh=>bS=q)) ?_ ?_
   ·have H:=bU
    refine T.dw (.vs [0,1,2,3,4,5,6,7,8,9,10,11] (.alt 12 .done .no)) 14 1 1 ?_
    refine Tm z z<|Tm z z<|T.bH 106 H z (λH=>?_) λH=>?_
    ·refine T2 z z<|T2 z z<|T2 z z<|T2 z z<|Tk z<|Tv z (V.pkT z z)<|Ts z z (X3 [0] [0] z z) (V.asg z) z ?_ T.O4
     refine T.M9 (X3 [0] [0] z z)<|Th<|T.mt true (K9 H)
    refine Tm z z<|Tm z z<|bE H λbW ax H=>?_
    obtain ⟨dk,bX,rfl⟩:=A8.get a ax
    refine Tv z (Val.XA λ_ _ _=>V.ixR A9 z z (j:=0) z (A8.bd a ax))<|Tv z (Val.XA λ_ _ _=>V.ldR D6 z (j:=0) z bX z)<|Tm z z<|Tm z z<|bE H λbY ay H=>?_
    obtain ⟨dm,bZ,rfl⟩:=G9.at p ay
    refine Tv z (V.ix A9 z z p (E8 ay))<|Tv z (V.Q9 D6 z bZ.u z)<|Tv z (V.eq z z)<|Tv z (V.pkF z z)<|Ts z z (X3 [0] [0] z z) (V.asg z) z ?_ T.O4
    refine T.M9 (X3 [0] [0] z z)<|Th<|T.mt (decide (bW=bY)) (K9 H)
   rintro q dn dp b0
   have H:=H7 b0 bV
   refine T.norm [14,5,6,8,9,10,11,12,15] z<|T.fl ?_
   refine Sq<|T.dw (.vs [0,1,2,3,4,5] (.alt 6 (.g (.vs [7,8,9,10] (.alt 11 (.alt 12 (.alt 13 .done .no) .no) .no))) .no)) 15 1 1 ?_
   refine Tv z (V.fa M0 z)<|Td z 0 O7 z i.u z<|Tm z z<|Tm z z<|bE H λdq aA H=>?_
   obtain ⟨dr,b1,rfl⟩:=A8.get a aA
   refine Tv z (Val.XA λ_ _ _=>V.ixR A9 z z (j:=0) z (A8.bd a aA))<|Tv z (Val.XA λ_ _ _=>V.ldR D6 z (j:=0) z b1 z)<|bE H λ⟨ds,dt,du⟩ b2 H=>Tp z z (X3 [0] [0] z z) (O.G6 z (A5z r.u b2 _) z λdw dx dy dA b3=>?_) T.O4
   obtain ⟨rfl,b4⟩:=b3
   refine O8 _ b4<|T.N8 Li<|Tm z z<|Tv z (V.ext z z)<|Tv z (V.ext z z)<|Tv z (V.ext z z)<|Ts z z (X3 [0] [0] z z) (V.asg z) z ?_ T.O4
   refine Ts z z (X3 [0] [0] z z) (V.asg z) z ?_ T.O4
   refine Ts z z (X3 [0] [0] z z) (V.asg z) z ?_ T.O4
   refine T.M9 (X3 [0] [0] z z)<|Th<|Sq<|T.dw (.vs [0,1,2,3,4,5,6,7,8,9,10,11,12,13,14,15,16,17] .done) 19 1 1 ?_
   refine Tm z z<|Tv z (V.not z)<|Tm z z<|T.bH 130 H z (λH=>?_) λH=>?_
   ·exact T2 z z<|T2 z z<|T2 z z<|T2 z z<|T2 z z<|T2 z z<|T2 z z<|Tv z (V.pkT z z)<|T.M9 (X3 [0] [0] z z)<|Th<|Ct z<|Sg z<|Nr<|Br<|Tr<|Tr<|have H:=D5 H W; Br<|Tr<|have H:=H7 H ab; Br<|Tr<|Tr<|have H:=D5 H e; Br<|Tr<|have H:=H7 H s; T.drop<|T.drop<|E1 H
   refine Tm z z<|Tv z (V.gt z z)<|Tm z z<|T.bH 133 H z (λH=>?_) λH=>?_
   ·refine Tm z z<|Tm z z<|bE H λdB aB H=>?_
    obtain ⟨dC,b5,rfl⟩:=A8.get a aB
    refine Tv z (Val.XA λ_ _ _=>V.ixR A9 z z (j:=0) z (A8.bd a aB))<|Tv z (Val.XA λ_ _ _=>V.ldR D6 z (j:=0) z b5 z)<|Tm z z<|Tm z z<|bE H λdD b6 H=>Tv z (V.X9 z z b6)<|bE H λdE aC H=>?_
    obtain ⟨dG,b7,rfl⟩:=A8.get a aC
    refine Tv z (Val.XA λ_ _ _=>V.ixR A9 z z (j:=0) z (A8.bd a aC))<|Tv z (Val.XA λ_ _ _=>V.ldR D6 z (j:=0) z b7 z)<|Tv z (V.le z z)<|Tv z (V.pkT z z)<|Tv z (V.pkF z z)<|T.M9 (X3 [0] [0] z z)<|Th<|T.cH H z (λH=>?_) λH=>?_
    ·refine Sq<|T.norm [] z<|T.fl ?_
     exact Rg<|Ag z<|Nr<|Br<|Tr<|Tr<|have H:=D5 H W; Br<|Tr<|have H:=H7 H ab; Br<|Tr<|Tr<|have H:=D5 H e; Br<|Tr<|have H:=H7 H s; T.drop<|T.drop<|E1 H
    refine T.skip<|Bn<|Th<|T.norm [5,6,8,9,10,11,12,14,15] z<|T.fl ?_
    refine Rg<|Mv z<|bE H λb8 b9 H=>Ws z z b9<|An z<|T.ag (aw,q,b8) (D8 H W)
   refine T2 z z<|T2 z z<|T2 z z<|T2 z z<|T2 z z<|Tv z (V.pkF z z)<|Tv z (V.pkF z z)<|T.M9 (X3 [0] [0] z z)<|Th<|Cf z<|T.skip<|Bn<|Th<|Rg<|Mv z<|bE H λbh bl H=>Ws z z bl<|An z<|T.ag (aw,q,bh) (D8 H W)
  refine Xt<|have H:=D5 H W; Be<|Th<|have H:=H7 H ab; Sm z<|Mv z<|bE H λaD bv H=>have ac:=OPt.get Z bv; bE H λdI bz H=>To (O.cs (B3E ac.u p.u bz _) λdK dN=>Mv z<|T.bH 149 H z (λH=>?_) λH=>?_)
  ·refine Mv z<|Vv (V.not z)<|Kt z<|Nt<|T.cH H z (λH=>?_) λH=>?_
   ·exact Sg z<|Nr<|Br<|Tr<|Tr<|have H:=D5 H e; Br<|Tr<|have H:=H7 H s; T.drop<|T.drop<|E1 H
   refine T.skip<|Bn<|Th<|Rg<|Mv z<|bE H λcc cd H=>Ws z z cd<|An z<|T.drop<|T.ag (aa,cc,(some aD),b,c,d) ⟨(D8 H e),(OPt.some ac.u),p.u⟩
  refine S2<|Kf z<|Nt<|Cf z<|T.skip<|Bn<|Th<|Rg<|Mv z<|bE H λce cf H=>Ws z z cf<|An z<|T.drop<|T.ag (aa,ce,(some aD),b,c,d) ⟨(D8 H e),(OPt.some ac.u),p.u⟩
 refine Xt<|have H:=D5 H e; Be<|Th<|have H:=H7 H s; Sm z<|We z z<|Mv z<|T.bH 155 H z (λH=>?_) λH=>?_
 ·exact S2<|S2<|S2<|S2<|Kt z<|Mv z<|bE H λdO cg H=>To (O.cs (B3J cg _) λdS dV=>Kt z<|Ag z<|Nr<|T.drop<|E1 H)
 refine Mv z<|We z z<|Mv z<|T.bH 158 H z (λH=>?_) λH=>?_
 ·refine Mv z<|Mv z<|bE H λdW ck H=>have cm:=OPt.get Z ck; bE H λdX cn H=>To (O.cs (B3E cm p cn _) λdZ d1=>Vv (V.not z)<|Kt z<|Kf z<|Mv z<|T.bH 165 H z (λH=>?_) λH=>?_)
  ·exact bE H λd2 cq H=>To (O.cs (B3J cq _) λd4 d6=>Kt z<|Ag z<|Nr<|T.drop<|E1 H)
  exact Sk<|Kf z<|Ag z<|Nr<|T.drop<|E1 H
 exact S2<|S2<|Kf z<|Kf z<|Mv z<|Sk<|Kf z<|Ag z<|Nr<|T.drop<|E1 H
end Go.Proofs.X
