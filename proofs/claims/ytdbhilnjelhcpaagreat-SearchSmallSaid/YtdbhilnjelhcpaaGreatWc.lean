import Derived.Test.YtdbhilnjelhcpaaGreatChecked
import Derived.KernelRfl
import Derived.Test.YtdbhilnjelhcpaaGreatV
import Derived.Test.YtdbhilnjelhcpaaGreatL9
import Derived.Test.YtdbhilnjelhcpaaGreatDa
import Derived.Test.YtdbhilnjelhcpaaGreatWb
/- The walks: each function computes what its Lean function says. -/
set_option maxRecDepth 1000000
set_option maxHeartbeats 40000000
set_option linter.unusedVariables false
set_option linter.unusedSimpArgs false
set_option linter.unnecessarySimpa false
open Go Go.Proofs Go.Sl Go.Dm
namespace Go.Proofs.X
theorem search3mixed : Tryz.prog.follows .mixedOrders = true := by kernel_rfl
theorem blsearch3_76 : bldSh Tryz.prog 76 = some ([.pointer none, .int .i64 (0), .slice none 0 0, .int .i64 (0), .slice none 0 0], [(0, 1), (1, 1), (2, 1), (3, 1), (4, 1)]) := by kernel_rfl
theorem bosearch3_76 : fieldsOK Tryz.prog 76 = true := by kernel_rfl
theorem elsearch3_46 : elSh Tryz.prog 46 = some (52, 2, 16) := by kernel_rfl
theorem fdsearch3_73_0 : fldOf Tryz.prog 73 0 = some 0 := by kernel_rfl
theorem fdsearch3_73_1 : fldOf Tryz.prog 73 1 = some 1 := by kernel_rfl
theorem fdsearch3_76_3 : fldOf Tryz.prog 76 3 = some 3 := by kernel_rfl
theorem shsearch3_3 : tySh Tryz.prog 3 = some (false, 1) := by kernel_rfl
theorem shsearch3_32 : tySh Tryz.prog 32 = some (true, 5) := by kernel_rfl
theorem shsearch3_33 : tySh Tryz.prog 33 = some (false, 1) := by kernel_rfl
theorem shsearch3_54 : tySh Tryz.prog 54 = some (false, 1) := by kernel_rfl
theorem shsearch3_73 : tySh Tryz.prog 73 = some (true, 2) := by kernel_rfl
theorem zesearch3_3 : zer Tryz.prog 3 = some (.int .i64 (0)) := by kernel_rfl
theorem zesearch3_33 : zer Tryz.prog 33 = some (.int .i64 (0)) := by kernel_rfl
theorem zesearch3_54 : zer Tryz.prog 54 = some (.pointer none) := by kernel_rfl
theorem zesearch3_73 : zer Tryz.prog 73 = some (.agg #[.int .i64 (0), .int .i64 (0)]) := by kernel_rfl
theorem search_Verify_1_nil {h : PH} {b0 b1 : Nat} (L : List HProp) : FnQ Tryz.prog 20 [.pointer (some ⟨b0, 0, none⟩), .pointer (some ⟨b1, 0, none⟩)] h L (fun _ L' => L' = L) := by
  refine FnQ.enter Tryz.func20 rfl Tryz.ntmps20 Tryz.results20 rfl rfl rfl ?_
  refine T.seq ?_
  refine T.region ?_
  refine T.v rfl (V.mv rfl) rfl ?_
  refine T.v rfl (V.neN Tryz.underlying20 rfl) rfl ?_
  refine T.nil ?_
  refine T.thN ?_
  refine T.condF rfl ?_
  refine T.skip ?_
  exact T.recN (Le.refl _) rfl
theorem search_Verify_1_ok {h : PH} {pb0 : Nat} {t1 : Int}  {pb1 : Nat} {t2 : Int}  {x_ : searchwrong} {q_0 : Int} {q_1 : Int} (H : search_Verify_1 t1 t2 x_ = some (q_0, q_1)) : ∀ L, FnR Tryz.prog 20 [.pointer (some ⟨pb0, 0, none⟩), .pointer (some ⟨pb1, 0, none⟩)] h (blk pb0 (.cells [.int .i64 t1].toArray 3) :: blk pb1 (.cells [.int .i64 t2].toArray 33) :: L) (.iface 73 (.agg #[.int .i64 x_.fat, .int .i64 x_.fe])) (fun h' L' => L' = blk pb0 (.cells [.int .i64 q_0].toArray 3) :: blk pb1 (.cells [.int .i64 q_1].toArray 33) :: L) := by
  intro L
  refine FnR.enter Tryz.func20 rfl Tryz.ntmps20 Tryz.results20 rfl rfl rfl ?_
  refine T.seq ?_
  refine T.region ?_
  refine T.v rfl (V.mv rfl) rfl ?_
  refine T.v rfl (V.neI Tryz.underlying20 rfl) rfl ?_
  refine T.nil ?_
  refine T.thN ?_
  refine T.condT rfl ?_
  refine T.seq ?_
  refine T.region ?_
  refine T.v rfl (V.mv rfl) rfl ?_
  refine T.v rfl (V.ta Tryz.underlying73 rfl) rfl ?_
  refine T.op rfl (O.alloc zesearch3_73 rfl rfl fun b3 => ?_)
  refine T.op rfl (O.stF (vs := [.int .i64 x_.fat, .int .i64 x_.fe]) shsearch3_73 rfl rfl (j := 0) rfl rfl rfl rfl ?_)
  refine T.sameL (blk b3 (.cells [.int .i64 x_.fat, .int .i64 x_.fe].toArray 73) :: blk pb0 (.cells [.int .i64 t1].toArray 3) :: blk pb1 (.cells [.int .i64 t2].toArray 33) :: L) rfl ?_
  refine T.freeze fun h4 le5 e6 => ?_
  have hA7 := AtC.of e6
  refine T.nil ?_
  refine T.thN ?_
  refine T.drawF (t := (.v 0 (.v 1 (.v 2 (.v 3 (.alt 4 (.alt 5 .done .no) .no)))))) 4 2 0 rfl rfl search3mixed (by kernel_rfl) ?_
  refine T.tv rfl rfl (V.fa fdsearch3_73_0 rfl) rfl Calm.rec ?_
  refine T.tv rfl rfl (V.ldf (k := 0) shsearch3_3 rfl hA7 rfl) rfl Calm.rec ?_
  refine T.tv rfl rfl (V.fa fdsearch3_73_1 rfl) rfl Calm.rec ?_
  refine T.tv rfl rfl (V.ldf (k := 1) shsearch3_33 rfl hA7 rfl) rfl Calm.rec ?_
  refine T.top rfl rfl (SX.two (XA.fr [] (Le.refl _) rfl) (XA.fr [1, 1] (Le.refl _) rfl)) (O.stF (vs := [.int .i64 x_.fat]) shsearch3_3 rfl rfl (j := 0) rfl rfl rfl rfl ?_) T.tno
  refine T.top rfl rfl (SX.one (XA.fr [] (Le.refl _) rfl) rfl) (O.stF (vs := [.int .i64 x_.fe]) shsearch3_33 rfl rfl (j := 1) rfl rfl rfl rfl ?_) T.tno
  refine T.tnil (SX.one (XA.fr [] (Le.refl _) rfl) rfl) ?_
  refine T.front 1 rfl ?_
  obtain ⟨rfl, rfl⟩ := inj2 H
  exact T.recN le5 rfl
theorem search_Verify_ok {h:PH} {pc0:List Value} {p1:apiProblem} (pr0:VapiProblem h pc0 p1) {bound12:Int} {pv2:Value} {steps13:List apiStep} (pr2:Slc VapiStep 2 h pv2 steps13) {r_0:Int} {r_1:Int} (H:search_Verify p1 bound12 steps13 = some (r_0,r_1)):∀ L,FnS Tryz.prog 10 [.agg pc0.toArray,.int .i64 bound12,pv2] h (L) (fun v h' L'=>v = .tuple #[.int .i64 r_0,.int .i64 r_1]∧L' = L):=by
 intro L
 obtain ⟨o,p,r,s,t,rfl,K,M,N,P,S⟩:=pr0
 refine FnS.enterR Tryz.func10 rfl Tryz.ntmps10 rfl<|Sr<|To (O.boxF rfl rfl rfl fun aN U a W=>To (O.alloc zesearch3_3 rfl rfl fun u=>To (O.alloc zesearch3_33 rfl rfl fun w=>Nt<|Sr<|Vv (V.ldS rfl W (by exact shsearch3_32)) ?_)))
 have X:=Slc.mono VapiTable.mono K a
 have Y:=Slc.mono VapiGuest.mono M a
 have Z:=Slc.mono VapiTie.mono N a
 have aa:=Slc.mono VI.mono P a
 have ab:=Slc.mono VapiRule.mono S a
 obtain ⟨⟨m,aO,n⟩,ac,H⟩:=bnd H
 refine To (O.callS z (search_open_ok (show VapiProblem U [o,p,r,s,t] p1 from ⟨o,p,r,s,t,z,X,Y,Z,aa,ab⟩) ac _) z fun aP aS aU ad ae=>?_)
 obtain ⟨x,rfl,af,y⟩:=ae
 refine Sl_ _ af<|Mv z<|Vv (V.ext z z)<|Vv (V.ext z z)<|Vv (V.ext z z)<|Ag z<|Ag z<|To (O.stF (vs:=[.int .i64 n]) shsearch3_33 z z (j:=0) z z z z<|Nt<|Sq<|Sr<|Vv (V.ldO0 shsearch3_33 z (j:=0) z z)<|Vv (V.ne z z)<|Nt<|T.cH H z (fun H=>?_) (fun H=>?_))
 ·exact dead H
 refine T.skip<|Th<|Sq<|Sr<|Mv z<|have b:=(a.trans ad); have A:=Slc.mono VapiStep.mono pr2 b; Vv (V.lenS elsearch3_46 z A)<|Vv (V.gt z z)<|Nt<|T.cH H z (fun H=>?_) (fun H=>?_)
 ·refine Sr<|To (O.stF (vs:=[.int .i64 (0:Int)]) shsearch3_3 z z (j:=1) z z z z<|To (O.stF (vs:=[.int .i64 (7:Int)]) shsearch3_33 z z (j:=1) z z z z<|Nt<|T.ret<|Tr<|Fr_ 1 z<|T.lrRet ?_))
  obtain ⟨rfl,rfl⟩:=inj2 H
  exact T.lvDone (L':=L) Tryz.results10 (RVs.cons (RV.cell shsearch3_3 z (j:=0) z z) (RVs.cons (RV.cell shsearch3_33 z (j:=1) z z) RVs.nil)) b (fun _ iv=>iv.drop.drop) ⟨z,z⟩
 refine T.skip<|Th<|Sr<|Vv (V.mkf z z)<|To (T.dfr z<|Nt<|Sr<|Mv z<|Mv z<|Mv z<|Mv z ?_)
 obtain ⟨B,ag,H⟩:=bnd H
 refine To (O.callS z (hunt_nobody_ok y ag _) z fun aV aW aX c ai=>?_)
 obtain ⟨aY,aj,C⟩:=ai
 refine Sl_ _ aj<|T.rowOne 0 z fun aZ ak=>have d:=Slc.mono VapiStep.mono A c; have e:=Pt.mono Vsearchhunt.mono y c; Vv (V.bld (xs:=[(0,.tmp 24),(1,.tmp 25),(2,.tmp 26),(4,.tmp 28)]) (cs:=[_,_,_,_,_]) blsearch3_76 bosearch3_76 z (Fills.cons z (Pt.cells e) z (Fills.cons z z z (Fills.cons z (Slc.cells d) z (Fills.cons z ak z Fills.nil)))))<|To (O.box z z z fun D=>Ag z<|Nt<|Sr<|Mv z ?_)
 obtain ⟨am,E,H⟩:=bnd H
 rcases am with f | an
 rotate_left
 ·refine To (O.callP z (reader_node_ok _ (r1:=(searchreader.mk m bound12 steps13 (0:Int) B)) e d C E _) (fun _ _ _ q=>q) fun a0 ao=>Fr_ 1 z<|T.lvR (search_Verify_1_ok (x_:=an) (H:=z) _) fun a1 a2 ap aq=>Sl_ _ aq ?_)
  obtain ⟨rfl,rfl⟩:=inj2 H
  have ar:=(((b.trans c).trans ao).trans ap)
  exact T.lvDone (L':=L) Tryz.results10 (RVs.cons (RV.cell shsearch3_3 z (j:=0) z z) (RVs.cons (RV.cell shsearch3_33 z (j:=1) z z) RVs.nil)) ar (fun _ iv=>iv.drop.drop) ⟨z,z⟩
 refine To (O.callS z (FnE.toS (reader_node_ok _ (r1:=(searchreader.mk m bound12 steps13 (0:Int) B)) e d C E _) fun _ _ _ q=>q) z fun a3 a4 a5 g au=>?_)
 obtain ⟨i,I,rfl,aw,ax⟩:=au
 refine Sl_ _ aw<|Nt<|Sq<|Sr<|Mv z<|Vv (V.nck z)<|Vv (V.fa fdsearch3_76_3 z)<|Vv (V.ldO (k:=3) shsearch3_3 z (j:=0) z z)<|Mv z<|have J:=Slc.mono VapiStep.mono d g; Vv (V.lenS elsearch3_46 z J)<|Vv (V.lt z z)<|Nt<|T.cH H z (fun H=>?_) (fun H=>?_)
 ·refine T.norm [6,7,10] z<|Sl_ (blk D (.cells [x,.int .i64 bound12,pv2,.int .i64 f.1,i].toArray 76)::rowR 3 1 i I::blk w (.cells [.int .i64 n].toArray 33)::blk u (.cells [.int .i64 (0:Int)].toArray 3)::L) z<|Rg<|Mv z<|have ay:=Pt.mono Vsearchhunt.mono e g; ?_
  obtain ⟨aA,aB,H⟩:=bnd H
  rcases aA with a6 | aC
  rotate_left
  ·refine To (O.callP z (reader_fail_ok (r1:=(searchreader.mk m bound12 steps13 f.1 f.2)) ay J ax aB _) (fun _ _ _ q=>q) fun a7 aD=>Fr_ 1 z<|T.lvR (search_Verify_1_ok (x_:=aC) (H:=z) _) fun a8 a9 aE aG=>Sl_ _ aG ?_)
   obtain ⟨rfl,rfl⟩:=inj2 H
   have aI:=((((b.trans c).trans g).trans aD).trans aE)
   exact T.lvDone (L':=L) Tryz.results10 (RVs.cons (RV.cell shsearch3_3 z (j:=0) z z) (RVs.cons (RV.cell shsearch3_33 z (j:=1) z z) RVs.nil)) aI (fun _ iv=>iv.drop.drop) ⟨z,z⟩
  exact dead H
 refine T.skip<|Th<|Sq<|T.norm [6,7] z<|Sl_ (blk D (.cells [x,.int .i64 bound12,pv2,.int .i64 f.1,i].toArray 76)::rowR 3 1 i I::blk w (.cells [.int .i64 n].toArray 33)::blk u (.cells [.int .i64 (0:Int)].toArray 3)::L) z<|Rg<|To (O.stF (vs:=[.int .i64 (0:Int)]) shsearch3_3 z z (j:=3) z z z z<|T.fl ?_)
 refine To (O.stF (vs:=[.int .i64 (0:Int)]) shsearch3_33 z z (j:=3) z z z z<|T.fl ?_)
 refine Nt<|T.ret<|T.lrRet<|T.lvQ (search_Verify_1_nil _) fun ah al aJ aK=>Sl_ _ aK<|Fr_ 2 z<|T.fl ?_
 refine T.drop<|Fr_ 2 z<|T.fl ?_
 refine T.drop<|Fr_ 1 z ?_
 obtain ⟨rfl,rfl⟩:=inj2 H
 have aM:=(((b.trans c).trans g).trans aJ)
 exact T.lvDone (L':=L) Tryz.results10 (RVs.cons (RV.cell shsearch3_3 z (j:=0) z z) (RVs.cons (RV.cell shsearch3_33 z (j:=1) z z) RVs.nil)) aM (fun _ iv=>iv.drop.drop) ⟨z,z⟩
theorem search_Count_ok {h:PH} {pc0:List Value} {p1:apiProblem} (pr0:VapiProblem h pc0 p1) {r_0:Int} {r_1:Int} {r_2:Int} (H:search_Count p1 = some (r_0,r_1,r_2)):∀ L,FnS Tryz.prog 7 [.agg pc0.toArray] h (L) (fun v h' L'=>v = .tuple #[.int .i64 r_0,.int .i64 r_1,.int .i64 r_2]∧L' = L):=by
 intro L
 obtain ⟨A,B,C,D,E,rfl,Y,Z,aa,ab,ac⟩:=pr0
 refine FnS.enterM Tryz.func7 rfl Tryz.ntmps7 rfl<|Sr<|To (O.boxF rfl rfl rfl fun bk ad e ae=>To (O.alloc zesearch3_3 rfl rfl fun c=>To (O.alloc zesearch3_3 rfl rfl fun d=>Ag z<|Nt<|Sr<|Vv (V.ldS rfl ae (by exact shsearch3_32)) ?_)))
 have af:=Slc.mono VapiTable.mono Y e
 have ag:=Slc.mono VapiGuest.mono Z e
 have ai:=Slc.mono VapiTie.mono aa e
 have aj:=Slc.mono VI.mono ab e
 have ak:=Slc.mono VapiRule.mono ac e
 obtain ⟨⟨bm,bn⟩,am,H⟩:=bnd H
 refine To (O.callS z (search_begin_ok (show VapiProblem ad [A,B,C,D,E] p1 from ⟨A,B,C,D,E,z,af,ag,ai,aj,ak⟩) am _) z fun bo bp bq G an=>?_)
 obtain ⟨ao,rfl,ap,n⟩:=an
 refine Sl_ _ ap<|Mv z<|Vv (V.ext rfl rfl)<|Vv (V.ext rfl rfl)<|To (O.alloc zesearch3_54 rfl rfl fun br=>To (O.stF (vs:=[ao]) shsearch3_54 rfl rfl (j:=0) rfl (OPt.cells n) (by (simp only [Sl.ones,OPt.one n,Bool.and_true,Bool.true_and]) <;> rfl) rfl ?_))
 refine T.fl ?_
 refine T.freeze fun bs o aq=>have p:=AtC.of aq; Ag z<|Nt<|Sq<|Sr<|Mv z<|Vv (V.ne z z)<|Nt<|T.cH H z (fun H=>?_) (fun H=>?_)
 ·exact dead H
 refine T.skip<|Th<|Sq<|Sq<|T.drawF (t:=(.v 0 (.v 1 (.alt 2 (.alt 3 .done .no) .no)))) 5 0 0 rfl rfl search3mixed (by kernel_rfl) ?_
 refine Tv z (V.ld0 shsearch3_54 z p z)<|Tv z (V.ld0 shsearch3_54 z p z) ?_
 obtain ⟨ar,au,H⟩:=bnd H
 have aw:=OPt.mono Vsearchhunt.mono n o
 have I:=OPt.get aw au
 obtain ⟨bt,ax,H⟩:=bnd H
 refine Tp z z (SX.two (XA.fr [] Lr z) (XA.fr [] Lr z)) (O.callS z (hunt_nobody_ok I ax _) z fun bu bw bx q ay=>?_) T.tno
 obtain ⟨bA,aA,aB⟩:=ay
 refine Sl_ _ aA<|T.rowFix fun bB k aC=>have aD:=RowF.mono VI.mono aB k; have aE:=RowF.slc aC aD; have f:=(q.trans k); have J:=Pt.mono Vsearchhunt.mono I f; ?_
 obtain ⟨K,aG,H⟩:=bnd H
 refine Tp z z (SX.two (XA.fr [] f z) (XA.fr [] f z)) (O.callS z (hunt_plans_ok J aE aG _) z fun bC r bD g aI=>?_) T.tno
 obtain ⟨bE,M,bG,N,rfl,aJ,aK,aM,aN,aO⟩:=aI
 refine Sl_ _ aJ<|T.tnil (SX.two (XA.fr [] (f.trans g) z) (XA.fr [] (f.trans g) z))<|Th<|Bl ?_
 obtain ⟨bI,aP,aS⟩:=bndK H
 refine T.rangeY (S:=(Int×Int)) (O:=Unit) (La0:=[blk d (.cells [.int .i64 (0:Int)].toArray 3),blk c (.cells [.int .i64 (0:Int)].toArray 3)]) (Lr:=L) (fun ⟨b,a⟩ hh aU=>aU = ([blk d (.cells [.int .i64 a].toArray 3),blk c (.cells [.int .i64 b].toArray 3)]:List HProp)) (fun _ _ _ _=>False) z z z (fun R_ y_=>CY65l R_ r y_ (search_Count_l0 ar)) (fun aV=>⟨⟨z,z⟩,RYs.mono (fun ⟨b,a⟩ _ _ _ l_ e_=>e_) (fun _ _ _ _ _ _ q_=>q_),?_⟩) (fun _ La_ aW aX aY=>FnS.perm (List.Perm.refl _) (hunt_plans_1_ok aW aX aK (show (VPt Vsearchhunt) r [M] K.1 from ⟨M,z,aM⟩) aN (show (VSl (VI .i64) 1) r [N] K.2 from ⟨N,z,aO⟩) aP [] aY) fun _ _ _ ⟨La_,_,e_,q_⟩=>⟨_,List.Perm.refl _,La_,e_,q_⟩) ?_ ?_
 ·intro bJ P aZ s bK u a0 bM bN bO a1 H As_ L_
  rcases a0 with ⟨b,a⟩ | _
  rotate_left
  ·exact dead H
  obtain ⟨a2,_,rfl,w,a3,bP,rfl⟩:=a1
  refine Yld.frontR fun L=>Yld.round1 (j:=0) z w z<|Sl_ (blk aV (.loop a2)::blk d (.cells [.int .i64 a].toArray 3)::blk c (.cells [.int .i64 b].toArray 3)::rowR 3 1 aZ s::L) z<|Rg<|Ag z<|Nt<|T.begin (j:=0) z a3<|T.fl ?_
  refine Bl<|Sr<|Vv (V.ldO0 shsearch3_3 z (j:=2) z z) ?_
  obtain ⟨y,a4,H⟩:=bnd H
  refine Vv (V.addS z z a4)<|To (O.stF (vs:=[.int .i64 y]) shsearch3_3 z z (j:=2) z z z z<|T.fl ?_)
  refine Nt<|Sr<|have a5:=((f.trans g).trans P); have a6:=p.mono a5; Vv (V.ld0 shsearch3_54 z a6 z)<|Mv z<|Fr_ 3 z<|T.fl ?_
  obtain ⟨a7,a8,H⟩:=bnd H
  refine To (O.callS z (FnS.lend (val:=.bool a7) Tryz.func16 z lendR fun bS U a9=>?_) z fun bU bV bW m ah=>?_)
  ·have al:=RowF.mono VI.mono u U
   have av:=RowF.slc a9 al
   have az:=((g.trans P).trans U)
   have ba:=Pt.mono Vsearchhunt.mono J az
   exact hunt_canonical_ok ba av a8 _
  obtain ⟨rfl,bb⟩:=ah
  refine Sl_ _ bb<|Nt<|T.cH H z (fun H=>?_) (fun H=>?_)
  ·refine Rg<|Vv (V.ldO0 shsearch3_3 z (j:=3) z z) ?_
   obtain ⟨W,bc,H⟩:=bnd H
   refine Vv (V.addS z z bc)<|To (O.stF (vs:=[.int .i64 W]) shsearch3_3 z z (j:=3) z z z z<|T.fl ?_)
   refine Ni<|Bn<|Fr_ 1 z<|T.fl ?_
   refine Fr_ 2 z<|T.fl ?_
   refine Fr_ 2 z<|T.fl ?_
   refine Fr_ 3 z<|T.fl ?_
   obtain ⟨rfl,rfl⟩:=inj2 H
   have bd:=RowF.mono VI.mono u m
   exact T.endN (j:=0) z m ⟨_::[blk d (.cells [.int .i64 W].toArray 3),blk c (.cells [.int .i64 y].toArray 3)],s,z,z,⟨_,_,z,w.turn .ready none,z,z,z⟩,bd⟩
  refine T.skip<|Bn<|Fr_ 1 z<|T.fl ?_
  refine Fr_ 3 z<|T.fl ?_
  refine Fr_ 3 z<|T.fl ?_
  obtain ⟨rfl,rfl⟩:=inj2 H
  have be:=RowF.mono VI.mono u m
  exact T.endN (j:=0) z m ⟨_::[blk d (.cells [.int .i64 a].toArray 3),blk c (.cells [.int .i64 y].toArray 3)],s,z,z,⟨_,_,z,w.turn .ready none,z,z,z⟩,be⟩
 ·rintro bf bX _ ⟨b,a⟩ X bg rfl
  have H:=cutE bg aS
  refine Sl_ (blk bf (.deferred (some []))::blk d (.cells [.int .i64 a].toArray 3)::blk c (.cells [.int .i64 b].toArray 3)::L) z<|Bn<|Th<|Sq<|Fr_ 2 z<|T.fl ?_
  refine Fr_ 2 z<|T.fl ?_
  refine T.drawF (t:=(.x 0 (.alt 1 (.alt 2 (.alt 3 (.alt 4 .done .no) .no) .no) (.alt 2 (.alt 1 (.alt 3 (.alt 4 .done .no) .no) .no) .no)))) 2 2 0 rfl rfl search3mixed (by kernel_rfl) ?_
  refine T.tx z z (Val.XA fun _ _ _=>V.ldO0 shsearch3_3 z (j:=1) z z) z Calm.i<|T.tfork ?_ ?_
  ·refine Ts z z (SX.two (XA.fr [] Lr z) (XA.fr [1,1] Lr z)) (V.ldO0 shsearch3_3 z (j:=0) z z) z ?_ T.tno
   refine Tp z z (SX.two (XA.fr [] Lr z) (XA.fr [1,1] Lr z)) (O.stF (vs:=[.int .i64 b]) shsearch3_3 z z (j:=1) z z z z ?_) T.tno
   refine T.fl ?_
   refine Tp z z (SX.one (XA.fr [] Lr z) z) (O.stF (vs:=[.int .i64 a]) shsearch3_3 z z (j:=1) z z z z ?_) T.tno
   refine T.fl ?_
   refine Ts z z (SX.one (XA.fr [] Lr z) z) (V.asg z) z ?_ T.tno
   refine T.tnil (SX.one (XA.fr [] Lr z) z)<|Th<|T.ret<|Fr_ 1 z<|T.fl ?_
   refine Fr_ 2 z<|T.fl ?_
   refine T.lvRet<|T.lvMark (j:=0) z<|Sl_ (blk c (.cells [.int .i64 b].toArray 3)::blk d (.cells [.int .i64 a].toArray 3)::L) z ?_
   obtain ⟨rfl,rfl,rfl⟩:=inj3 H
   have bi:=((((((e.trans G).trans o).trans q).trans k).trans g).trans X)
   exact T.lvDone (L':=L) Tryz.results7 (RVs.cons (RV.cell shsearch3_3 z (j:=0) z z) (RVs.cons (RV.cell shsearch3_3 z (j:=1) z z) (Rv z))) bi (fun _ iv=>iv.drop.drop) ⟨z,z⟩
  refine Tp z z (SX.two (XA.fr [] Lr z) (XA.fr [1,1] Lr z)) (O.stF (vs:=[.int .i64 b]) shsearch3_3 z z (j:=1) z z z z ?_) T.tno
  refine T.fl ?_
  refine Ts z z (SX.one (XA.fr [] Lr z) z) (V.ldO0 shsearch3_3 z (j:=1) z z) z ?_ T.tno
  refine Tp z z (SX.one (XA.fr [] Lr z) z) (O.stF (vs:=[.int .i64 a]) shsearch3_3 z z (j:=1) z z z z ?_) T.tno
  refine T.fl ?_
  refine Ts z z (SX.one (XA.fr [] Lr z) z) (V.asg z) z ?_ T.tno
  refine T.tnil (SX.one (XA.fr [] Lr z) z)<|Th<|T.ret<|Fr_ 1 z<|T.fl ?_
  refine Fr_ 2 z<|T.fl ?_
  refine T.lvRet<|T.lvMark (j:=0) z<|Sl_ (blk c (.cells [.int .i64 b].toArray 3)::blk d (.cells [.int .i64 a].toArray 3)::L) z ?_
  obtain ⟨rfl,rfl,rfl⟩:=inj3 H
  have bj:=((((((e.trans G).trans o).trans q).trans k).trans g).trans X)
  exact T.lvDone (L':=L) Tryz.results7 (RVs.cons (RV.cell shsearch3_3 z (j:=0) z z) (RVs.cons (RV.cell shsearch3_3 z (j:=1) z z) (Rv z))) bj (fun _ iv=>iv.drop.drop) ⟨z,z⟩
 rintro _ _ _ _ _ _ _ ⟨⟩
end Go.Proofs.X
open Go Go.Proofs Go.Sl Go.Dm
namespace Go.Proofs.X
theorem search4mixed : Tryz.prog.follows .mixedOrders = true := by kernel_rfl
theorem blsearch4_84 : bldSh Tryz.prog 84 = some ([.slice none 0 0, .int .i64 (0)], [(0, 1), (1, 1)]) := by kernel_rfl
theorem bosearch4_84 : fieldsOK Tryz.prog 84 = true := by kernel_rfl
theorem elsearch4_24 : elSh Tryz.prog 24 = some (3, 1, 8) := by kernel_rfl
theorem elsearch4_87 : elSh Tryz.prog 87 = some (24, 1, 24) := by kernel_rfl
theorem fdsearch4_60_0 : fldOf Tryz.prog 60 0 = some 0 := by kernel_rfl
theorem fdsearch4_60_2 : fldOf Tryz.prog 60 2 = some 6 := by kernel_rfl
theorem fdsearch4_84_1 : fldOf Tryz.prog 84 1 = some 1 := by kernel_rfl
theorem shsearch4_24 : tySh Tryz.prog 24 = some (false, 1) := by kernel_rfl
theorem shsearch4_3 : tySh Tryz.prog 3 = some (false, 1) := by kernel_rfl
theorem shsearch4_32 : tySh Tryz.prog 32 = some (true, 5) := by kernel_rfl
theorem shsearch4_33 : tySh Tryz.prog 33 = some (false, 1) := by kernel_rfl
theorem shsearch4_4 : tySh Tryz.prog 4 = some (false, 1) := by kernel_rfl
theorem shsearch4_54 : tySh Tryz.prog 54 = some (false, 1) := by kernel_rfl
theorem shsearch4_57 : tySh Tryz.prog 57 = some (false, 1) := by kernel_rfl
theorem shsearch4_84 : tySh Tryz.prog 84 = some (true, 2) := by kernel_rfl
theorem shsearch4_87 : tySh Tryz.prog 87 = some (false, 1) := by kernel_rfl
theorem zesearch4_24 : zer Tryz.prog 24 = some (.slice none 0 0) := by kernel_rfl
theorem zesearch4_33 : zer Tryz.prog 33 = some (.int .i64 (0)) := by kernel_rfl
theorem zesearch4_4 : zer Tryz.prog 4 = some (.bool false) := by kernel_rfl
theorem zesearch4_54 : zer Tryz.prog 54 = some (.pointer none) := by kernel_rfl
theorem zesearch4_84 : zer Tryz.prog 84 = some (.agg #[.slice none 0 0, .int .i64 (0)]) := by kernel_rfl
theorem zesearch4_87 : zer Tryz.prog 87 = some (.slice none 0 0) := by kernel_rfl
theorem search_Best_ok {h:PH} {pc0:List Value} {p1:apiProblem} (pr0:VapiProblem h pc0 p1) {r_0:apiRanked} {r_1:Int} (H:search_Best p1 = some (r_0,r_1)):∀ L,FnS Tryz.prog 25 [.agg pc0.toArray] h (L) (fun v h' L'=>∃ v0_1,v = .tuple #[.agg #[v0_1,.int .i64 r_0.fCost],.int .i64 r_1]∧L' = L∧Slc (VI .i64) 1 h' v0_1 r_0.fPlan):=by
 intro L
 obtain ⟨N,P,U,W,X,rfl,am,an,ao,ap,aq⟩:=pr0
 refine FnS.enterM Tryz.func25 rfl Tryz.ntmps25 rfl<|Sr<|To (O.boxF rfl rfl rfl fun bh ar m au=>To (O.alloc zesearch4_84 rfl rfl fun d=>Ag z<|Nt<|Sr<|Vv (V.ldS rfl au (by exact shsearch4_32)) ?_))
 have aw:=Slc.mono VapiTable.mono am m
 have ax:=Slc.mono VapiGuest.mono an m
 have ay:=Slc.mono VapiTie.mono ao m
 have aA:=Slc.mono VI.mono ap m
 have aB:=Slc.mono VapiRule.mono aq m
 obtain ⟨⟨bl,bv⟩,aC,H⟩:=bnd H
 refine To (O.callS z (search_begin_ok (show VapiProblem ar [N,P,U,W,X] p1 from ⟨N,P,U,W,X,z,aw,ax,ay,aA,aB⟩) aC _) z fun bz ca cb aD aE=>?_)
 obtain ⟨aG,rfl,aI,D⟩:=aE
 refine Sl_ _ aI<|Mv z<|Vv (V.ext rfl rfl)<|Vv (V.ext rfl rfl)<|To (O.alloc zesearch4_54 rfl rfl fun cc=>To (O.stF (vs:=[aG]) shsearch4_54 rfl rfl (j:=0) rfl (OPt.cells D) (by (simp only [Sl.ones,OPt.one D,Bool.and_true,Bool.true_and]) <;> rfl) rfl ?_))
 refine T.freeze fun cd Y aJ=>have E:=AtC.of aJ; Ag z<|Nt<|Sq<|Sr<|Mv z<|Vv (V.ne z z)<|Nt<|T.cH H z (fun H=>?_) (fun H=>?_)
 ·exact dead H
 refine T.skip<|Th<|Sr<|Vv (V.bld (xs:=[]) (cs:=[_,_]) blsearch4_84 bosearch4_84 z Fills.nil)<|To (O.alloc zesearch4_84 z z fun e=>To (O.alloc zesearch4_4 z z fun f=>To (O.stF (vs:=[.slice none 0 0,.int .i64 (0:Int)]) shsearch4_84 z z (j:=1) z z z z<|T.fl ?_)))
 refine To (O.stF (vs:=[.bool false]) shsearch4_4 z z (j:=1) z z z z<|T.fl ?_)
 refine Nt<|Sq<|Sq<|T.drawF (t:=(.v 0 (.v 1 (.alt 2 (.alt 3 .done .no) .no)))) 5 0 0 rfl rfl search4mixed (by kernel_rfl) ?_
 refine Tv z (V.ld0 shsearch4_54 z E z)<|Tv z (V.ld0 shsearch4_54 z E z) ?_
 obtain ⟨aK,aM,H⟩:=bnd H
 have aN:=OPt.mono Vsearchhunt.mono D Y
 have Z:=OPt.get aN aM
 obtain ⟨ce,aO,H⟩:=bnd H
 refine Tp z z (SX.two (XA.fr [] Lr z) (XA.fr [] Lr z)) (O.callS z (hunt_nobody_ok Z aO _) z fun cf cg ci aa aP=>?_) T.tno
 obtain ⟨cj,aS,aU⟩:=aP
 refine Sl_ _ aS<|T.rowFix fun ck G aV=>have aW:=RowF.mono VI.mono aU G; have aX:=RowF.slc aV aW; have n:=(aa.trans G); have ab:=Pt.mono Vsearchhunt.mono Z n; ?_
 obtain ⟨ac,aY,H⟩:=bnd H
 refine Tp z z (SX.two (XA.fr [] n z) (XA.fr [] n z)) (O.callS z (hunt_plans_ok ab aX aY _) z fun cm A cn q aZ=>?_) T.tno
 obtain ⟨co,ad,cp,ae,rfl,a0,a1,a2,a3,a4⟩:=aZ
 refine Sl_ _ a0<|T.tnil (SX.two (XA.fr [] (n.trans q) z) (XA.fr [] (n.trans q) z))<|Th<|Bl ?_
 obtain ⟨cq,a5,a6⟩:=bndK H
 refine T.rowNil 3 1<|have a7:RowF (VI .i64) A [] ([]:List Int):=RowF.nil; Fr_ 3 z<|T.fl ?_
 refine Fr_ 3 z<|T.fl ?_
 refine Fr_ 3 z<|T.fl ?_
 refine T.rangeY (S:=((List Int)×Int×Bool)) (O:=Unit) (La0:=[blk f (.cells [.bool false].toArray 4),blk e (.cells [(.slice none 0 0),.int .i64 (0:Int)].toArray 84),blk d (.cells [.slice none 0 0,.int .i64 (0:Int)].toArray 84),rowR 3 1 (.slice none 0 0) []]) (Lr:=L) (fun ⟨B,c,g⟩ hh a8=>∃ a:Value,∃ b:List (List Value),a8 = ([blk f (.cells [.bool g].toArray 4),blk e (.cells [a,.int .i64 c].toArray 84),blk d (.cells [.slice none 0 0,.int .i64 (0:Int)].toArray 84),rowR 3 1 a b]:List HProp)∧RowF (VI .i64) hh b B) (fun _ _ _ _=>False) z z ⟨(.slice none 0 0),[],z,a7⟩ (fun R_ y_=>CY65l R_ A y_ (search_Best_l0 aK)) (fun r=>⟨⟨z,z⟩,RYs.mono (fun ⟨B,c,g⟩ _ _ _ l_ ⟨a,b,e_,f0_⟩=>⟨a,b,e_,RowF.mono VI.mono f0_ l_⟩) (fun _ _ _ _ _ _ q_=>q_),?_⟩) (fun _ La_ a9 ah al=>FnS.perm (List.Perm.refl _) (hunt_plans_1_ok a9 ah a1 (show (VPt Vsearchhunt) A [ad] ac.1 from ⟨ad,z,a2⟩) a3 (show (VSl (VI .i64) 1) A [ae] ac.2 from ⟨ae,z,a4⟩) a5 [] al) fun _ _ _ ⟨La_,_,e_,q_⟩=>⟨_,List.Perm.refl _,La_,e_,q_⟩) ?_ ?_
 ·intro cr af I o ct p av cu cw cx az H As_ L_
  rcases av with ⟨B,c,g⟩ | _
  rotate_left
  ·exact dead H
  obtain ⟨s,_,rfl,C,ba,cy,a,b,rfl,J⟩:=az
  refine Yld.frontR fun L=>Yld.round1 (j:=0) z C z<|Sl_ (blk r (.loop s)::blk f (.cells [.bool g].toArray 4)::blk e (.cells [a,.int .i64 c].toArray 84)::blk d (.cells [.slice none 0 0,.int .i64 (0:Int)].toArray 84)::rowR 3 1 a b::rowR 3 1 I o::L) z<|Rg<|Ag z<|Nt<|T.begin (j:=0) z ba<|T.fl ?_
  refine Bl<|Sr<|have bb:=((n.trans q).trans af); have bc:=E.mono bb; Vv (V.ld0 shsearch4_54 z bc z)<|have bd:=(q.trans af); have be:=Pt.mono Vsearchhunt.mono ab bd; have bf:=be; ?_
  obtain ⟨cA,_,rfl,bg,⟨cB,cC,cD,cE,cG,cI,cJ,cK,cM,rfl,bi,cN,cO,cP,cS,cU,cV,cW,cX⟩⟩:=bf
  refine Vv (V.nck z)<|Vv (V.fa fdsearch4_60_0 z)<|Vv (V.ldf (k:=0) shsearch4_57 z bg z)<|Mv z<|Fr_ 5 z<|T.fl ?_
  obtain ⟨u,bj,H⟩:=bnd H
  refine To (O.callS z (FnS.lend (val:=.int .i64 u) Tryz.func45 z lendR fun cY ag bk=>?_) z fun cZ c0 c1 i bm=>?_)
  ·have bn:=RowF.mono VI.mono p ag
   have bo:=RowF.slc bk bn
   have bp:=Pt.mono VruleJudge.mono bi ag
   exact Judge_Cost_ok bp bo bj _
  obtain ⟨rfl,bq⟩:=bm
  refine Sl_ _ bq<|Ag z<|Nt<|Sr<|Vv (V.ldO0 shsearch4_4 z (j:=2) z z)<|Vv (V.not z)<|Mv z<|T.bH 33 H z (fun H=>?_) (fun H=>?_)
  ·refine Sk<|Sk<|Sk<|Sk<|Vv (V.pkT z z)<|Nt<|Ct z<|Rg<|Mv z ?_
   obtain ⟨br,bs,H⟩:=bnd H
   refine To (O.callS z (FnS.lendG (R:=fun v h' L'=>∃ (w:List (List Value)),L' = rowR 3 1 v w::blk r (.loop { s with state:=.busy })::blk f (.cells [.bool g].toArray 4)::blk e (.cells [a,.int .i64 c].toArray 84)::blk d (.cells [.slice none 0 0,.int .i64 (0:Int)].toArray 84)::rowR 3 1 a b::L∧RowF (VI .i64) h' w br) Tryz.func17 z (fun _ _ _ _ ⟨e_0,l_,f_0⟩=>⟨e_0,l_,(RowF.free VI.free f_0)⟩) lendR fun c2 bt bu=>?_) z fun x c3 c4 bw bx=>?_)
   ·have bA:=(i.trans bt)
    have bB:=RowF.mono VI.mono p bA
    have bC:=RowF.slc bu bB
    exact sl_CloneInt_ok bC bs _
   obtain ⟨_,rfl,⟨K,rfl,bD⟩⟩:=bx
   refine Sl_ (rowR 3 1 I o::rowR 3 1 x K::blk r (.loop { s with state:=.busy })::blk f (.cells [.bool g].toArray 4)::blk e (.cells [a,.int .i64 c].toArray 84)::blk d (.cells [.slice none 0 0,.int .i64 (0:Int)].toArray 84)::rowR 3 1 a b::L) rfl<|Mv z<|T.rowOne 1 rfl fun c5 bE=>Vv (V.bld (xs:=[(0,.tmp 40),(1,.tmp 41)]) (cs:=[_,_]) blsearch4_84 bosearch4_84 rfl (Fills.cons rfl bE rfl (Fills.cons rfl rfl rfl Fills.nil)))<|T.rowOne 1 rfl fun bG c6=>To (O.stF (vs:=[x,.int .i64 u]) shsearch4_84 rfl rfl (j:=4) rfl rfl (by (simp only [Sl.ones,bG,Bool.and_true,Bool.true_and]) <;> rfl) rfl ?_)
   refine T.fl ?_
   refine To (O.stF (vs:=[.bool true]) shsearch4_4 z z (j:=4) z z z z<|T.fl ?_)
   refine Ni<|Bn<|Fr_ 6 z<|T.fl ?_
   refine T.drop<|Fr_ 2 z<|T.fl ?_
   refine Fr_ 3 z<|T.fl ?_
   refine Fr_ 5 z<|T.fl ?_
   refine Fr_ 4 z<|T.fl ?_
   refine Fr_ 4 z<|T.fl ?_
   refine Fr_ 5 z<|T.fl ?_
   obtain ⟨rfl,rfl⟩:=inj2 H
   have ai:=(i.trans bw)
   have bI:=RowF.mono VI.mono p ai
   exact T.endN (j:=0) z ai ⟨_::[blk f (.cells [.bool true].toArray 4),blk e (.cells [x,.int .i64 u].toArray 84),blk d (.cells [.slice none 0 0,.int .i64 (0:Int)].toArray 84),rowR 3 1 x K],o,z,z,⟨_,_,z,C.turn .ready none,z,z,⟨x,K,z,bD⟩⟩,bI⟩
  refine Mv z<|Vv (V.fa fdsearch4_84_1 z)<|Vv (V.ldO (k:=1) shsearch4_3 z (j:=3) z z)<|Vv (V.lt z z)<|Vv (V.pkF z z)<|Nt<|T.cH H z (fun H=>?_) (fun H=>?_)
  ·refine Rg<|Mv z ?_
   obtain ⟨bJ,bK,H⟩:=bnd H
   refine To (O.callS z (FnS.lendG (R:=fun v h' L'=>∃ (w:List (List Value)),L' = rowR 3 1 v w::blk r (.loop { s with state:=.busy })::blk f (.cells [.bool g].toArray 4)::blk e (.cells [a,.int .i64 c].toArray 84)::blk d (.cells [.slice none 0 0,.int .i64 (0:Int)].toArray 84)::rowR 3 1 a b::L∧RowF (VI .i64) h' w bJ) Tryz.func17 z (fun _ _ _ _ ⟨e_0,l_,f_0⟩=>⟨e_0,l_,(RowF.free VI.free f_0)⟩) lendR fun c7 bM bN=>?_) z fun y c8 c9 bO bP=>?_)
   ·have bS:=(i.trans bM)
    have bU:=RowF.mono VI.mono p bS
    have bV:=RowF.slc bN bU
    exact sl_CloneInt_ok bV bK _
   obtain ⟨_,rfl,⟨M,rfl,bW⟩⟩:=bP
   refine Sl_ (rowR 3 1 I o::rowR 3 1 y M::blk r (.loop { s with state:=.busy })::blk f (.cells [.bool g].toArray 4)::blk e (.cells [a,.int .i64 c].toArray 84)::blk d (.cells [.slice none 0 0,.int .i64 (0:Int)].toArray 84)::rowR 3 1 a b::L) rfl<|Mv z<|T.rowOne 1 rfl fun ch bX=>Vv (V.bld (xs:=[(0,.tmp 40),(1,.tmp 41)]) (cs:=[_,_]) blsearch4_84 bosearch4_84 rfl (Fills.cons rfl bX rfl (Fills.cons rfl rfl rfl Fills.nil)))<|T.rowOne 1 rfl fun bY cl=>To (O.stF (vs:=[y,.int .i64 u]) shsearch4_84 rfl rfl (j:=4) rfl rfl (by (simp only [Sl.ones,bY,Bool.and_true,Bool.true_and]) <;> rfl) rfl ?_)
   refine T.fl ?_
   refine To (O.stF (vs:=[.bool true]) shsearch4_4 z z (j:=4) z z z z<|T.fl ?_)
   refine Ni<|Bn<|Fr_ 6 z<|T.fl ?_
   refine T.drop<|Fr_ 2 z<|T.fl ?_
   refine Fr_ 3 z<|T.fl ?_
   refine Fr_ 5 z<|T.fl ?_
   refine Fr_ 4 z<|T.fl ?_
   refine Fr_ 4 z<|T.fl ?_
   refine Fr_ 5 z<|T.fl ?_
   obtain ⟨rfl,rfl⟩:=inj2 H
   have aj:=(i.trans bO)
   have bZ:=RowF.mono VI.mono p aj
   exact T.endN (j:=0) z aj ⟨_::[blk f (.cells [.bool true].toArray 4),blk e (.cells [y,.int .i64 u].toArray 84),blk d (.cells [.slice none 0 0,.int .i64 (0:Int)].toArray 84),rowR 3 1 y M],o,z,z,⟨_,_,z,C.turn .ready none,z,z,⟨y,M,z,bW⟩⟩,bZ⟩
  refine T.skip<|Bn<|have b0:=RowF.mono VI.mono J i; Fr_ 5 z<|T.fl ?_
  refine Fr_ 5 z<|T.fl ?_
  refine Fr_ 5 z<|T.fl ?_
  refine Fr_ 5 z<|T.fl ?_
  refine Fr_ 5 z<|T.fl ?_
  obtain ⟨rfl,rfl⟩:=inj2 H
  have b1:=RowF.mono VI.mono p i
  exact T.endN (j:=0) z i ⟨_::[blk f (.cells [.bool g].toArray 4),blk e (.cells [a,.int .i64 c].toArray 84),blk d (.cells [.slice none 0 0,.int .i64 (0:Int)].toArray 84),rowR 3 1 a b],o,z,z,⟨_,_,z,C.turn .ready none,z,z,⟨a,b,z,b0⟩⟩,b1⟩
 ·rintro b2 cv _ ⟨B,c,g⟩ b3 b4 ⟨a,b,rfl,J⟩
  have H:=cutE b4 a6
  refine Sl_ (blk b2 (.deferred (some []))::blk f (.cells [.bool g].toArray 4)::blk e (.cells [a,.int .i64 c].toArray 84)::blk d (.cells [.slice none 0 0,.int .i64 (0:Int)].toArray 84)::rowR 3 1 a b::L) z<|Bn<|Th<|Sq<|Sr<|Vv (V.ldO0 shsearch4_4 z (j:=1) z z)<|Vv (V.not z)<|Nt<|T.cH H z (fun H=>?_) (fun H=>?_)
  ·exact dead H
  refine T.skip<|Th<|Sr<|Vv (V.ldOS (j:=2) (by exact shsearch4_84) rfl rfl) ?_
  refine T.rowOne 4 rfl fun b5 cz=>To (O.stF (vs:=[a,.int .i64 c]) shsearch4_84 rfl rfl (j:=3) rfl rfl (by (simp only [Sl.ones,b5,Bool.and_true,Bool.true_and]) <;> rfl) rfl ?_)
  refine T.fl ?_
  refine Ag z<|Nt<|T.ret<|Fr_ 4 z<|T.fl ?_
  refine T.rowFix fun da ak b6=>have b7:=RowF.mono VI.mono J ak; have b8:=RowF.slc b6 b7; Fr_ 2 z<|T.fl ?_
  refine T.drop<|Fr_ 2 z<|T.fl ?_
  refine T.drop<|Fr_ 1 z<|T.lvRet<|T.lvMark (j:=0) z<|Sl_ (blk d (.cells [a,.int .i64 c].toArray 84)::L) z ?_
  obtain ⟨rfl,rfl⟩:=inj2 H
  have b9:=(((((((m.trans aD).trans Y).trans aa).trans G).trans q).trans b3).trans ak)
  exact T.lvDone (L':=L) Tryz.results25 (RVs.cons (RV.cellS z (j:=0) z shsearch4_84) (Rv z)) b9 (fun _ iv=>iv.drop) ⟨_,z,z,b8⟩
 rintro _ _ _ _ _ _ _ ⟨⟩
theorem search_All_ok {h:PH} {pc0:List Value} {p1:apiProblem} (pr0:VapiProblem h pc0 p1) {limit12:Int} {r_0:List (List Int)} {r_1:Int} (H:search_All p1 limit12 = some (r_0,r_1)):∀ L,FnS Tryz.prog 26 [.agg pc0.toArray,.int .i64 limit12] h (L) (fun v h' L'=>∃ w0,v = .tuple #[w0,.int .i64 r_1]∧L' = L∧Slc (VSl (VI .i64) 1) 1 h' w0 r_0):=by
 intro L
 obtain ⟨aa,ab,ac,ad,ae,rfl,aC,aD,aE,aG,aI⟩:=pr0
 refine FnS.enterM Tryz.func26 rfl Tryz.ntmps26 rfl<|Sr<|To (O.boxF rfl rfl rfl fun cf cg aJ aK=>To (O.boxF rfl rfl rfl fun ci aM af aN=>To (O.alloc zesearch4_87 rfl rfl fun d=>To (O.alloc zesearch4_33 rfl rfl fun f=>Nt<|Sr<|have aO:=aK.mono af; Vv (V.ldS rfl aO (by exact shsearch4_32)) ?_))))
 have o:=(aJ.trans af)
 have aP:=Slc.mono VapiTable.mono aC o
 have aS:=Slc.mono VapiGuest.mono aD o
 have aU:=Slc.mono VapiTie.mono aE o
 have aV:=Slc.mono VI.mono aG o
 have aW:=Slc.mono VapiRule.mono aI o
 obtain ⟨⟨cj,ck⟩,aX,H⟩:=bnd H
 refine To (O.callS z (search_begin_ok (show VapiProblem aM [aa,ab,ac,ad,ae] p1 from ⟨aa,ab,ac,ad,ae,z,aP,aS,aU,aV,aW⟩) aX _) z fun cm cn co K aY=>?_)
 obtain ⟨aZ,rfl,a0,M⟩:=aY
 refine Sl_ _ a0<|Mv z<|Vv (V.ext rfl rfl)<|Vv (V.ext rfl rfl)<|To (O.alloc zesearch4_54 rfl rfl fun cp=>To (O.stF (vs:=[aZ]) shsearch4_54 rfl rfl (j:=0) rfl (OPt.cells M) (by (simp only [Sl.ones,OPt.one M,Bool.and_true,Bool.true_and]) <;> rfl) rfl ?_))
 refine T.fl ?_
 refine T.freeze fun cq C a1=>have N:=AtC.of a1; Ag z<|Nt<|Sq<|Sr<|Mv z<|Vv (V.ne z z)<|Nt<|T.cH H z (fun H=>?_) (fun H=>?_)
 ·exact dead H
 refine T.skip<|Th<|Sr<|To (O.alloc zesearch4_87 rfl rfl fun g=>Nt<|Sq<|Sq<|T.drawF (t:=(.v 0 (.v 1 (.alt 2 (.alt 3 .done .no) .no)))) 5 0 0 rfl rfl search4mixed (by kernel_rfl) ?_)
 refine Tv z (V.ld0 shsearch4_54 z N z)<|Tv z (V.ld0 shsearch4_54 z N z) ?_
 obtain ⟨a2,a3,H⟩:=bnd H
 have a4:=OPt.mono Vsearchhunt.mono M C
 have ag:=OPt.get a4 a3
 obtain ⟨cr,a5,H⟩:=bnd H
 refine Tp z z (SX.two (XA.fr [] Lr z) (XA.fr [] Lr z)) (O.callS z (hunt_nobody_ok ag a5 _) z fun cs ct cu D a6=>?_) T.tno
 obtain ⟨cw,a7,a8⟩:=a6
 refine Sl_ _ a7<|T.rowFix fun cx s a9=>have ah:=RowF.mono VI.mono a8 s; have al:=RowF.slc a9 ah; have q:=(D.trans s); have ai:=Pt.mono Vsearchhunt.mono ag q; ?_
 obtain ⟨aj,av,H⟩:=bnd H
 refine Tp z z (SX.two (XA.fr [] q z) (XA.fr [] q z)) (O.callS z (hunt_plans_ok ai al av _) z fun cy E cA p az=>?_) T.tno
 obtain ⟨cB,ak,cC,am,rfl,ba,bb,bc,bd,be⟩:=az
 refine Sl_ _ ba<|T.tnil (SX.two (XA.fr [] (q.trans p) z) (XA.fr [] (q.trans p) z))<|Th<|Bl ?_
 obtain ⟨cD,bf,an⟩:=bndK H
 refine T.rowNil 24 1<|have bg:RowF (VSl (VI .i64) 1) E [] ([]:List (List Int)):=RowF.nil; Fr_ 3 z<|T.fl ?_
 refine Fr_ 3 z<|T.fl ?_
 refine Fr_ 3 z<|T.fl ?_
 refine T.rangeY (S:=(Int×(List (List Int)))) (O:=(Int×(List (List Int)))) (La0:=[blk g (.cells [(.slice none 0 0)].toArray 87),blk f (.cells [.int .i64 (0:Int)].toArray 33),blk d (.cells [.slice none 0 0].toArray 87),rowR 24 1 (.slice none 0 0) []]) (Lr:=L) (fun ⟨c,m⟩ hh P=>∃ a:Value,∃ b:List (List Value),P = ([blk g (.cells [a].toArray 87),blk f (.cells [.int .i64 c].toArray 33),blk d (.cells [.slice none 0 0].toArray 87),rowR 24 1 a b]:List HProp)∧RowF (VSl (VI .i64) 1) hh b m) (fun ⟨c,m⟩ c_ hh P=>c_ = (.ret:Code)∧∃ a:Value,∃ b:List (List Value),P = ([blk g (.cells [a].toArray 87),blk f (.cells [.int .i64 c].toArray 33),blk d (.cells [.slice none 0 0].toArray 87),rowR 24 1 a b]:List HProp)∧RowF (VSl (VI .i64) 1) hh b m) z z ⟨(.slice none 0 0),[],z,bg⟩ (fun R_ y_=>CY65l R_ E y_ (search_All_l0 limit12 a2)) (fun G=>⟨⟨z,z⟩,RYs.mono (fun ⟨c,m⟩ _ _ _ l_ ⟨a,b,e_,f0_⟩=>⟨a,b,e_,RowF.mono (VSl.mono VI.mono) f0_ l_⟩) (fun ⟨c,m⟩ _ _ _ _ l_ ⟨c_,a,b,e_,f0_⟩=>⟨c_,a,b,e_,RowF.mono (VSl.mono VI.mono) f0_ l_⟩),?_⟩) (fun _ La_ bi bj bk=>FnS.perm (List.Perm.refl _) (hunt_plans_1_ok bi bj bb (show (VPt Vsearchhunt) E [ak] aj.1 from ⟨ak,z,bc⟩) bd (show (VSl (VI .i64) 1) E [am] aj.2 from ⟨am,z,be⟩) bf [] bk) fun _ _ _ ⟨La_,_,e_,q_⟩=>⟨_,List.Perm.refl _,La_,e_,q_⟩) ?_ ?_
 ·intro cE U W r cG u bm cI cJ cK bn H As_ L_
  rcases bm with ⟨c,m⟩ | _
  rotate_left
  ·exact dead H
  obtain ⟨I,_,rfl,X,bo,cM,a,b,rfl,w⟩:=bn
  refine Yld.frontR fun L=>Yld.round1 (j:=0) z X z<|Sl_ (blk G (.loop I)::blk g (.cells [a].toArray 87)::blk f (.cells [.int .i64 c].toArray 33)::blk d (.cells [.slice none 0 0].toArray 87)::rowR 24 1 a b::rowR 3 1 W r::L) z<|Rg<|Ag z<|Nt<|T.begin (j:=0) z bo<|T.fl ?_
  refine Bl<|Sq<|Sr<|have bp:=((q.trans p).trans U); have bq:=N.mono bp; Vv (V.ld0 shsearch4_54 z bq z)<|Mv z<|Fr_ 5 z<|T.fl ?_
  obtain ⟨br,bt,H⟩:=bnd H
  refine To (O.callS z (FnS.lend (val:=.bool br) Tryz.func16 z lendR fun cN ao bu=>?_) z fun cO cP cS k bw=>?_)
  ·have bx:=RowF.mono VI.mono u ao
   have bA:=RowF.slc bu bx
   have bB:=((p.trans U).trans ao)
   have bC:=Pt.mono Vsearchhunt.mono ai bB
   exact hunt_canonical_ok bC bA bt _
  obtain ⟨rfl,bD⟩:=bw
  refine Sl_ _ bD<|Vv (V.not z)<|Nt<|T.cH H z (fun H=>?_) (fun H=>?_)
  ·refine T.exit<|Te<|Be<|have bE:=RowF.mono (VSl.mono VI.mono) w k; Fr_ 5 z<|T.fl ?_
   refine Fr_ 5 z<|T.fl ?_
   refine Fr_ 5 z<|T.fl ?_
   refine Fr_ 5 z<|T.fl ?_
   refine Fr_ 5 z<|T.fl ?_
   obtain ⟨rfl,rfl⟩:=inj2 H
   have bG:=RowF.mono VI.mono u k
   exact T.endN (j:=0) z k ⟨_::[blk g (.cells [a].toArray 87),blk f (.cells [.int .i64 c].toArray 33),blk d (.cells [.slice none 0 0].toArray 87),rowR 24 1 a b],r,z,z,⟨_,_,z,X.turn .ready none,z,z,⟨a,b,z,bE⟩⟩,bG⟩
  refine T.skip<|Th<|Sq<|Sr<|Vv (V.ldO0 shsearch4_87 z (j:=2) z z)<|have Y:=RowF.mono (VSl.mono VI.mono) w k; Vv (V.lenX elsearch4_87 z (j:=5) z Y.len)<|have bI:=((((((K.trans C).trans D).trans s).trans p).trans U).trans k); have bJ:=aN.mono bI; Vv (V.ld0 shsearch4_3 z bJ z)<|Vv (V.ge z z)<|Nt<|T.cH H z (fun H=>?_) (fun H=>?_)
  ·refine Sr<|To (O.stF (vs:=[.slice none 0 0]) shsearch4_87 z z (j:=4) z z z z<|T.fl ?_)
   refine To (O.stF (vs:=[.int .i64 (7:Int)]) shsearch4_33 z z (j:=4) z z z z<|T.fl ?_)
   refine Nt<|T.ret<|Tr<|Br<|Fr_ 2 z<|T.fl ?_
   refine Fr_ 5 z<|T.fl ?_
   refine Fr_ 3 z<|T.fl ?_
   refine Fr_ 3 z<|T.fl ?_
   refine Fr_ 5 z<|T.fl ?_
   refine Fr_ 5 z<|T.fl ?_
   obtain ⟨rfl,rfl⟩:=inj2 H
   have bK:=RowF.mono VI.mono u k
   exact T.endR (j:=0) z k ⟨_::[blk g (.cells [a].toArray 87),blk f (.cells [.int .i64 (7:Int)].toArray 33),blk d (.cells [.slice none 0 0].toArray 87),rowR 24 1 a b],r,z,z,⟨_,_,_,z,z,z,⟨z,⟨a,b,z,Y⟩⟩⟩,bK⟩
  refine T.skip<|Th<|Fr_ 5 z<|T.fl ?_
  refine Fr_ 3 z<|T.fl ?_
  refine Fr_ 2 z<|T.fl ?_
  refine T.drawF (t:=(.x 0 (.v 1 (.alt 2 (.alt 3 (.alt 4 (.alt 5 .done .no) .no) .no) .no)))) 4 3 1 rfl rfl search4mixed (by kernel_rfl) ?_
  refine T.tx z z (Val.XA fun _ _ _=>V.ldO0 shsearch4_87 z (j:=1) z z) z Calm.i<|Tm z z ?_
  obtain ⟨aq,bM,H⟩:=bnd H
  refine Tp z z (SX.two (XA.fr [0] Lr z) (XA.fr [2,2,2] Lr z)) (O.callS z (FnS.lendG (R:=fun v h' L'=>∃ (ar:List (List Value)),L' = rowR 3 1 v ar::blk g (.cells [a].toArray 87)::rowR 24 1 a b::blk G (.loop { I with state:=.busy })::blk f (.cells [.int .i64 c].toArray 33)::blk d (.cells [.slice none 0 0].toArray 87)::L∧RowF (VI .i64) h' ar aq) Tryz.func17 z (fun _ _ _ _ ⟨e_0,l_,f_0⟩=>⟨e_0,l_,(RowF.free VI.free f_0)⟩) lendR fun cU bN bO=>?_) z fun n cV cW J bP=>?_) T.tno
  ·have bS:=(k.trans bN)
   have bU:=RowF.mono VI.mono u bS
   have bV:=RowF.slc bO bU
   exact sl_CloneInt_ok bV bM _
  obtain ⟨_,rfl,⟨bW,rfl,bX⟩⟩:=bP
  refine Sl_ (rowR 3 1 W r::rowR 3 1 n bW::blk g (.cells [a].toArray 87)::rowR 24 1 a b::blk G (.loop { I with state:=.busy })::blk f (.cells [.int .i64 c].toArray 33)::blk d (.cells [.slice none 0 0].toArray 87)::L) z<|Fr_ 1 z<|T.fl ?_
  refine T.rowFix fun au y bY=>have bZ:=RowF.mono VI.mono bX y; have aw:=RowF.slc bY bZ; Tp z z (SX.two (XA.fr [0] (J.trans y) z) (XA.fr [2,2,2] (J.trans y) z)) (O.bs elsearch4_87 zesearch4_24 z (e:=z) (hk:=z) (xs:=[.tmp 33]) (hv:=CO.eq (CO.cons (Slc.cells aw) CO.nil)) (hw:=Wide.of z) (hd:=z) fun b0=>?_) T.tno
  have Z:RowF (VSl (VI .i64) 1) au [[n]] ([aq]:List (List Int)):=(RowF.cons ⟨n,z,aw⟩ RowF.nil)
  obtain ⟨b1,ax,H⟩:=bnd H
  have A:=(J.trans y)
  have ay:=RowF.mono (VSl.mono VI.mono) Y A
  refine Tp z z (SX.two (XA.fr [1] A z) (XA.fr [3,3,3] A z)) (O.apX elsearch4_87 elsearch4_87 zesearch4_24 z z z (j:=3) z (Src.row (j:=0) z) (Wide.of z) (RowF.ones VSl.plain Z) ay Z ax z fun B cX cY=>?_) T.tno
  have b2:RowF (VSl (VI .i64) 1) au (b ++ [[n]]) b1:=RowF.ap ay Z ax
  refine Sl_ (rowR 24 1 B (b ++ [[n]])::rowR 24 1 (.slice (some ⟨b0,0,none⟩) 1 1) [[n]]::rowR 3 1 W r::blk g (.cells [a].toArray 87)::blk G (.loop { I with state:=.busy })::blk f (.cells [.int .i64 c].toArray 33)::blk d (.cells [.slice none 0 0].toArray 87)::L) z<|Fr_ 1 z<|T.fl ?_
  refine T.drop<|T.rowOne 0 rfl fun b3 b4=>Tp z z (SX.one (XA.fr [1] A rfl) rfl) (O.stF (vs:=[B]) shsearch4_87 rfl rfl (j:=2) rfl b4 (by (simp only [Sl.ones,b3,Bool.and_true,Bool.true_and]) <;> rfl) rfl ?_) T.tno
  refine T.fl ?_
  refine T.tnil (SX.one (XA.fr [2] A z) z)<|Bn<|Fr_ 2 z<|T.fl ?_
  refine Fr_ 2 z<|T.fl ?_
  refine Fr_ 5 z<|T.fl ?_
  refine Fr_ 5 z<|T.fl ?_
  refine Fr_ 4 z<|T.fl ?_
  refine Fr_ 5 z<|T.fl ?_
  obtain ⟨rfl,rfl⟩:=inj2 H
  have aA:=((k.trans J).trans y)
  have b5:=RowF.mono VI.mono u aA
  exact T.endN (j:=0) z aA ⟨_::[blk g (.cells [B].toArray 87),blk f (.cells [.int .i64 c].toArray 33),blk d (.cells [.slice none 0 0].toArray 87),rowR 24 1 B (b ++ [[n]])],r,z,z,⟨_,_,z,X.turn .ready none,z,z,⟨B,(b ++ [[n]]),z,b2⟩⟩,b5⟩
 ·rintro b6 cZ _ ⟨c,m⟩ b7 b8 ⟨a,b,rfl,w⟩
  have H:=cutE b8 an
  refine Sl_ (blk b6 (.deferred (some []))::blk g (.cells [a].toArray 87)::blk f (.cells [.int .i64 c].toArray 33)::blk d (.cells [.slice none 0 0].toArray 87)::rowR 24 1 a b::L) rfl<|Bn<|Th<|Sr<|Vv (V.ldO0 shsearch4_87 rfl (j:=1) rfl rfl)<|T.rowOne 4 rfl fun b9 bh=>To (O.stF (vs:=[a]) shsearch4_87 rfl rfl (j:=3) rfl bh (by (simp only [Sl.ones,b9,Bool.and_true,Bool.true_and]) <;> rfl) rfl ?_)
  refine T.fl ?_
  refine To (O.stF (vs:=[.int .i64 (0:Int)]) shsearch4_33 z z (j:=3) z z z z<|T.fl ?_)
  refine Nt<|T.ret<|Fr_ 4 z<|T.fl ?_
  refine T.rowFix fun c0 aB bl=>have bv:=RowF.mono (VSl.mono VI.mono) w aB; have bz:=RowF.slc bl bv; Fr_ 3 z<|T.fl ?_
  refine T.drop<|Fr_ 1 z<|T.fl ?_
  refine Fr_ 2 z<|T.fl ?_
  refine T.lvRet<|T.lvMark (j:=0) z<|Sl_ (blk d (.cells [a].toArray 87)::blk f (.cells [.int .i64 (0:Int)].toArray 33)::L) z ?_
  obtain ⟨rfl,rfl⟩:=inj2 H
  have ca:=(((((((o.trans K).trans C).trans D).trans s).trans p).trans b7).trans aB)
  exact T.lvDone (L':=L) Tryz.results26 (RVs.cons (RV.cell shsearch4_87 z (j:=0) z z) (RVs.cons (RV.cell shsearch4_33 z (j:=1) z z) RVs.nil)) ca (fun _ iv=>iv.drop.drop) ⟨_,z,z,bz⟩
 rintro cb c1 _ ⟨c,m⟩ _ cc cd ⟨rfl,a,b,rfl,w⟩
 have H:=cutE cd an
 refine Sl_ (blk cb (.deferred (some []))::blk g (.cells [a].toArray 87)::blk f (.cells [.int .i64 c].toArray 33)::blk d (.cells [.slice none 0 0].toArray 87)::rowR 24 1 a b::L) z<|T.ret<|Br<|Tr<|Fr_ 1 z<|T.fl ?_
 refine T.drop<|Fr_ 3 z<|T.fl ?_
 refine T.drop<|Fr_ 1 z<|T.fl ?_
 refine Fr_ 2 z<|T.fl ?_
 refine Fr_ 2 z<|T.fl ?_
 refine T.lvRet<|T.lvMark (j:=0) z<|Sl_ (blk d (.cells [.slice none 0 0].toArray 87)::blk f (.cells [.int .i64 c].toArray 33)::L) z ?_
 obtain ⟨rfl,rfl⟩:=inj2 H
 have ce:=((((((o.trans K).trans C).trans D).trans s).trans p).trans cc)
 exact T.lvDone (L':=L) Tryz.results26 (RVs.cons (RV.cell shsearch4_87 z (j:=0) z z) (RVs.cons (RV.cell shsearch4_33 z (j:=1) z z) RVs.nil)) ce (fun _ iv=>iv.drop.drop) ⟨_,z,z,Slc.nil⟩
theorem search_Extend_ok {h:PH} {pc0:List Value} {p1:apiProblem} (pr0:VapiProblem h pc0 p1) {pv1:Value} {part12:List Int} (pr1:Slc (VI .i64) 1 h pv1 part12) {r_0:List Int} {r_1:Int} (H:search_Extend p1 part12 = some (r_0,r_1)):∀ L,FnS Tryz.prog 27 [.agg pc0.toArray,pv1] h (L) (fun v h' L'=>∃ w0,v = .tuple #[w0,.int .i64 r_1]∧L' = L∧Slc (VI .i64) 1 h' w0 r_0):=by
 intro L
 obtain ⟨r,s,t,u,w,rfl,aJ,aK,aM,aN,aO⟩:=pr0
 refine FnS.enterM Tryz.func27 rfl Tryz.ntmps27 rfl<|Sr<|To (O.boxF rfl rfl rfl fun cs aP m P=>To (O.alloc zesearch4_24 rfl rfl fun c=>To (O.alloc zesearch4_33 rfl rfl fun d=>Nt<|Sr<|Vv (V.ldS rfl P (by exact shsearch4_32)) ?_)))
 have U:=Slc.mono VapiTable.mono aJ m
 have W:=Slc.mono VapiGuest.mono aK m
 have X:=Slc.mono VapiTie.mono aM m
 have Y:=Slc.mono VI.mono aN m
 have Z:=Slc.mono VapiRule.mono aO m
 obtain ⟨⟨aS,ct,cu⟩,aU,H⟩:=bnd H
 refine To (O.callS z (search_open_ok (show VapiProblem aP [r,s,t,u,w] p1 from ⟨r,s,t,u,w,z,U,W,X,Y,Z⟩) aU _) z fun cw aV cx i aW=>?_)
 obtain ⟨cy,rfl,aX,aY⟩:=aW
 refine Sl_ _ aX<|Mv z<|Vv (V.ext z z)<|Vv (V.ext z z)<|Vv (V.ext z z)<|Ag z<|Ag z<|Ag z<|Nt<|Sq<|Sr<|Mv z<|Vv (V.ne z z)<|Nt<|T.cH H z (fun H=>?_) (fun H=>?_)
 ·exact dead H
 refine T.skip<|Th<|Sq<|Sr<|have aZ:=P.mono i; Vv (V.ldS rfl aZ (by exact shsearch4_32)) ?_
 refine Mv z<|have a0:=Slc.mono VapiTable.mono U i; have a1:=Slc.mono VapiGuest.mono W i; have a2:=Slc.mono VapiTie.mono X i; have a3:=Slc.mono VI.mono Y i; have a4:=Slc.mono VapiRule.mono Z i; have C:=(m.trans i); have aa:=Slc.mono VI.mono pr1 C; ?_
 obtain ⟨⟨cA,cB⟩,a5,H⟩:=bnd H
 refine To (O.callS z (plan_CheckPart_ok (show VapiProblem aV [r,s,t,u,w] p1 from ⟨r,s,t,u,w,z,a0,a1,a2,a3,a4⟩) aa a5 _) z fun cC cD cE x a6=>?_)
 obtain ⟨rfl,a7⟩:=a6
 refine Sl_ _ a7<|Mv z<|Vv (V.ext z z)<|Vv (V.ext z z)<|Ag z<|Ag z<|Nt<|Sr<|Mv z<|Vv (V.ne z z)<|Nt<|T.cH H z (fun H=>?_) (fun H=>?_)
 ·exact dead H
 refine T.skip<|Th<|Sr<|Ag z<|Nt<|Sq<|Sr<|Mv z<|have D:=Slc.mono VI.mono aa x; Vv (V.lenS elsearch4_24 z D)<|Mv z<|Nt ?_
 obtain ⟨ab,a8,a9⟩:=bndK H
 refine T.cutK (α:=Int) [1,4,5,6] z (fun p=>[(11,.int .i64 p)]) (fun p=>blk d (.cells [.int .i64 (0:Int)].toArray 33)::blk c (.cells [.slice none 0 0].toArray 24)::L) (fun p hh=>ab = p) ?_ ?_
 ·have H:=a8
  refine Bl<|T.loopK (α:=Nat×Int×Int) [1,4,5,6,33,34] z (fun ⟨n,f,o⟩=>[(11,.int .i64 f),(35,.int .i64 o)]) (fun ⟨n,f,o⟩=>blk d (.cells [.int .i64 (0:Int)].toArray 33)::blk c (.cells [.slice none 0 0].toArray 24)::L) (fun ⟨n,f,o⟩ hh=>iter (search_Extend_l0 part12) n (f,o) = some ab) (fun ⟨n,f,o⟩=>n) (FUEL,(0:Int),(0:Int)) ⟨z,z,trivial⟩ z H ?_
  rintro ⟨n,f,o⟩ cG y ah
  obtain ⟨ac,cI,rfl,H,E⟩:=iter_go ah
  refine T.norm [11,35,1,4,5,6,33,34] z<|Sl_ (blk d (.cells [.int .i64 (0:Int)].toArray 33)::blk c (.cells [.slice none 0 0].toArray 24)::L) z<|Sr<|Vv (V.lt z z)<|Nt<|Sq<|T.cH H z (fun H=>?_) (fun H=>?_)
  ·refine T.skip<|Th<|Sq<|Bl<|Sr ?_
   obtain ⟨cJ,ad,H⟩:=bnd H
   have ae:=Slc.mono VI.mono D y
   obtain ⟨cK,al,rfl⟩:=Slc.at ae ad
   refine Vv (V.ix elsearch4_24 z z ae (getI_bd ad))<|Vv (V.ld0 shsearch4_3 z al z)<|Ag z<|Nt<|Sr<|Mv z<|Vv (V.ge z z)<|Nt<|T.cH H z (fun H=>?_) (fun H=>?_)
   ·refine Rg<|Mv z ?_
    obtain ⟨av,az,H⟩:=bnd H
    refine Vv (V.addS z z az)<|Ag z<|Ni<|Bn<|Th<|Rg ?_
    obtain ⟨ba,bb,H⟩:=bnd H
    refine Vv (V.addS z z bb)<|Mv z<|Nt<|T.again (ac,av,ba) y (Nat.lt_succ_self _) (iterK_in H E) (AllIn.app ⟨z,z,trivial⟩ ⟨z,z,z,z,z,z,trivial⟩) z
   refine T.skip<|Bn<|Th<|Rg ?_
   obtain ⟨bc,bd,H⟩:=bnd H
   refine Vv (V.addS z z bd)<|Mv z<|Nt<|T.again (ac,f,bc) y (Nat.lt_succ_self _) (iterK_in H E) (AllIn.app ⟨z,z,trivial⟩ ⟨z,z,z,z,z,z,trivial⟩) z
  refine T.exit<|Te<|Te<|have H:=iterK_out H E; Be<|Th<|T.met f y H (AllIn.app ⟨z,trivial⟩ ⟨z,z,z,z,trivial⟩) z
 rintro p cM A be
 have H:=cutE be a9
 refine T.norm [11,1,4,5,6] z<|Sl_ (blk d (.cells [.int .i64 (0:Int)].toArray 33)::blk c (.cells [.slice none 0 0].toArray 24)::L) z<|Sq<|Sr<|Mv z<|have bf:=(x.trans A); have bg:=Pt.mono Vsearchhunt.mono aY bf; have bi:=bg; ?_
 obtain ⟨cN,_,rfl,af,⟨ag,ai,aj,ak,am,an,ao,ap,aq,rfl,bj,bk,bm,bn,bo,bp,ar,bq,br⟩⟩:=bi
 refine Vv (V.nck z)<|Vv (V.fa fdsearch4_60_2 z)<|Vv (V.ldf (k:=6) shsearch4_24 z af z)<|Vv (V.lenS elsearch4_24 z ar)<|Mv z ?_
 obtain ⟨cO,bs,H⟩:=bnd H
 refine Vv (V.subS z z bs)<|Mv z<|have au:=Slc.mono VI.mono D A; Vv (V.lenS elsearch4_24 z au)<|Mv z ?_
 obtain ⟨cP,bt,H⟩:=bnd H
 refine Vv (V.subS z z bt) ?_
 obtain ⟨cS,bu,H⟩:=bnd H
 refine To (O.callS z (search_work_ok bu _) z fun cU bw cV e bx=>?_)
 obtain ⟨rfl,bA⟩:=bx
 refine Sl_ _ bA<|Vv (V.gt z z)<|Nt<|T.cH H z (fun H=>?_) (fun H=>?_)
 ·exact dead H
 refine T.skip<|Th<|Sq<|Sr<|Mv z<|Mv z<|have bB:=af.mono e; have bC:=Pt.mono VruleJudge.mono bj e; have bD:=Slc.mono VapiTable.mono bk e; have bE:=Slc.mono VapiGuest.mono bm e; have bG:=Slc.mono VapiTie.mono bn e; have bI:=Slc.mono VI.mono bo e; have bJ:=Slc.mono VapiRule.mono bp e; have bK:=Slc.mono VI.mono ar e; have bM:=Slc.mono VI.mono bq e; have bN:=Slc.mono (VSl.mono (VSl.mono VI.mono)) br e; have bO:=Slc.mono VI.mono au e; ?_
 obtain ⟨aw,bP,H⟩:=bnd H
 refine To (O.callS z (hunt_plans_ok (Pt.mk bB (show Vsearchhunt bw [ag,ai,aj,ak,am,an,ao,ap,aq] aS from ⟨ag,ai,aj,ak,am,an,ao,ap,aq,z,bC,bD,bE,bG,bI,bJ,bK,bM,bN⟩)) bO bP _) z fun cW B cX ax bS=>?_)
 obtain ⟨cY,ay,cZ,aA,rfl,bU,bV,bW,bX,bY⟩:=bS
 refine Sl_ _ bU<|Nt<|Bl ?_
 obtain ⟨c0,bZ,aB⟩:=bndK H
 refine T.rowNil 3 1<|have b0:RowF (VI .i64) B [] ([]:List Int):=RowF.nil; Fr_ 2 z<|T.fl ?_
 refine Fr_ 2 z<|T.fl ?_
 refine T.rangeY (S:=(List Int)) (O:=(List Int)) (La0:=[blk d (.cells [.int .i64 (0:Int)].toArray 33),blk c (.cells [(.slice none 0 0)].toArray 24),rowR 3 1 (.slice none 0 0) []]) (Lr:=L) (fun g hh G=>∃ a:Value,∃ b:List (List Value),G = ([blk d (.cells [.int .i64 (0:Int)].toArray 33),blk c (.cells [a].toArray 24),rowR 3 1 a b]:List HProp)∧RowF (VI .i64) hh b g) (fun g c_ hh G=>c_ = (.ret:Code)∧∃ a:Value,∃ b:List (List Value),G = ([blk d (.cells [.int .i64 (0:Int)].toArray 33),blk c (.cells [a].toArray 24),rowR 3 1 a b]:List HProp)∧RowF (VI .i64) hh b g) z z ⟨(.slice none 0 0),[],z,b0⟩ (fun R_ y_=>CY65l R_ B y_ search_Extend_l1) (fun I=>⟨⟨z,z⟩,RYs.mono (fun g _ _ _ l_ ⟨a,b,e_,f0_⟩=>⟨a,b,e_,RowF.mono VI.mono f0_ l_⟩) (fun g _ _ _ _ l_ ⟨c_,a,b,e_,f0_⟩=>⟨c_,a,b,e_,RowF.mono VI.mono f0_ l_⟩),?_⟩) (fun _ La_ b1 b2 b3=>FnS.perm (List.Perm.refl _) (hunt_plans_1_ok b1 b2 bV (show (VPt Vsearchhunt) B [ay] aw.1 from ⟨ay,z,bW⟩) bX (show (VSl (VI .i64) 1) B [aA] aw.2 from ⟨aA,z,bY⟩) bZ [] b3) fun _ _ _ ⟨La_,_,e_,q_⟩=>⟨_,List.Perm.refl _,La_,e_,q_⟩) ?_ ?_
 ·intro c1 c2 aC J c3 aD b4 c4 c5 c6 b5 H As_ L_
  rcases b4 with g | _
  rotate_left
  ·exact dead H
  obtain ⟨K,_,rfl,b6,b7,c7,a,b,rfl,M⟩:=b5
  refine Yld.frontR fun L=>Yld.round1 (j:=0) z b6 z<|Sl_ (blk I (.loop K)::blk d (.cells [.int .i64 (0:Int)].toArray 33)::blk c (.cells [a].toArray 24)::rowR 3 1 a b::rowR 3 1 aC J::L) z<|Rg<|Ag z<|Nt<|T.begin (j:=0) z b7<|T.fl ?_
  refine Bl<|Sr<|Mv z<|Fr_ 4 z<|T.fl ?_
  obtain ⟨b8,b9,H⟩:=bnd H
  refine To (O.callS z (FnS.lendG (R:=fun v h' L'=>∃ (aE:List (List Value)),L' = rowR 3 1 v aE::blk I (.loop { K with state:=.busy })::blk d (.cells [.int .i64 (0:Int)].toArray 33)::blk c (.cells [a].toArray 24)::rowR 3 1 a b::L∧RowF (VI .i64) h' aE b8) Tryz.func17 z (fun _ _ _ _ ⟨e_0,l_,f_0⟩=>⟨e_0,l_,(RowF.free VI.free f_0)⟩) lendR fun c8 bh bl=>?_) z fun q c9 ch aG bv=>?_)
  ·have bz:=RowF.mono VI.mono aD bh
   have ca:=RowF.slc bl bz
   exact sl_CloneInt_ok ca b9 _
  obtain ⟨_,rfl,⟨N,rfl,cb⟩⟩:=bv
  refine Sl_ (rowR 3 1 aC J::rowR 3 1 q N::blk I (.loop { K with state:=.busy })::blk d (.cells [.int .i64 (0:Int)].toArray 33)::blk c (.cells [a].toArray 24)::rowR 3 1 a b::L) rfl<|T.rowOne 1 rfl fun cc cd=>To (O.stF (vs:=[q]) shsearch4_24 rfl rfl (j:=4) rfl cd (by (simp only [Sl.ones,cc,Bool.and_true,Bool.true_and]) <;> rfl) rfl ?_)
  refine T.fl ?_
  refine To (O.stF (vs:=[.int .i64 (0:Int)]) shsearch4_33 z z (j:=4) z z z z<|T.fl ?_)
  refine Nt<|T.ret<|Br<|Fr_ 5 z<|T.fl ?_
  refine T.drop<|Fr_ 2 z<|T.fl ?_
  refine Fr_ 3 z<|T.fl ?_
  refine Fr_ 3 z<|T.fl ?_
  refine Fr_ 3 z<|T.fl ?_
  refine Fr_ 4 z<|T.fl ?_
  obtain ⟨rfl,rfl⟩:=inj2 H
  have ce:=RowF.mono VI.mono aD aG
  exact T.endR (j:=0) z aG ⟨_::[blk d (.cells [.int .i64 (0:Int)].toArray 33),blk c (.cells [q].toArray 24),rowR 3 1 q N],J,z,z,⟨_,_,_,z,z,z,⟨z,⟨q,N,z,cb⟩⟩⟩,ce⟩
 ·rintro cf cl _ g cg ci ⟨a,b,rfl,M⟩
  have H:=cutE ci aB
  refine Sl_ (blk cf (.deferred (some []))::blk d (.cells [.int .i64 (0:Int)].toArray 33)::blk c (.cells [a].toArray 24)::rowR 3 1 a b::L) z<|Bn<|Th<|Sr<|To (O.stF (vs:=[.slice none 0 0]) shsearch4_24 z z (j:=2) z z z z<|T.fl ?_)
  refine To (O.stF (vs:=[.int .i64 (9:Int)]) shsearch4_33 z z (j:=2) z z z z<|T.fl ?_)
  refine Nt<|T.ret<|Fr_ 3 z<|T.fl ?_
  refine T.drop<|Fr_ 1 z<|T.fl ?_
  refine Fr_ 2 z<|T.fl ?_
  refine T.lvRet<|T.lvMark (j:=0) z<|Sl_ (blk c (.cells [.slice none 0 0].toArray 24)::blk d (.cells [.int .i64 (9:Int)].toArray 33)::L) z ?_
  obtain ⟨rfl,rfl⟩:=inj2 H
  have cj:=(((((C.trans x).trans A).trans e).trans ax).trans cg)
  exact T.lvDone (L':=L) Tryz.results27 (RVs.cons (RV.cell shsearch4_24 z (j:=0) z z) (RVs.cons (RV.cell shsearch4_33 z (j:=1) z z) RVs.nil)) cj (fun _ iv=>iv.drop.drop) ⟨_,z,z,Slc.nil⟩
 rintro ck cv _ g _ cm cn ⟨rfl,a,b,rfl,M⟩
 have H:=cutE cn aB
 refine Sl_ (blk ck (.deferred (some []))::blk d (.cells [.int .i64 (0:Int)].toArray 33)::blk c (.cells [a].toArray 24)::rowR 3 1 a b::L) z<|T.ret<|Br<|Tr<|Fr_ 3 z<|T.fl ?_
 refine T.rowFix fun cz aI co=>have cp:=RowF.mono VI.mono M aI; have cq:=RowF.slc co cp; Fr_ 1 z<|T.fl ?_
 refine Fr_ 2 z<|T.fl ?_
 refine Fr_ 2 z<|T.fl ?_
 refine T.lvRet<|T.lvMark (j:=0) z<|Sl_ (blk c (.cells [a].toArray 24)::blk d (.cells [.int .i64 (0:Int)].toArray 33)::L) z ?_
 obtain ⟨rfl,rfl⟩:=inj2 H
 have cr:=((((((C.trans x).trans A).trans e).trans ax).trans cm).trans aI)
 exact T.lvDone (L':=L) Tryz.results27 (RVs.cons (RV.cell shsearch4_24 z (j:=0) z z) (RVs.cons (RV.cell shsearch4_33 z (j:=1) z z) RVs.nil)) cr (fun _ iv=>iv.drop.drop) ⟨_,z,z,cq⟩
end Go.Proofs.X
open Go Go.Proofs Go.Sl Go.Dm
namespace Go.Proofs.X
theorem search5mixed : Tryz.prog.follows .mixedOrders = true := by kernel_rfl
theorem elsearch5_80 : elSh Tryz.prog 80 = some (92, 3, 24) := by kernel_rfl
theorem fdsearch5_60_0 : fldOf Tryz.prog 60 0 = some 0 := by kernel_rfl
theorem fdsearch5_92_0 : fldOf Tryz.prog 92 0 = some 0 := by kernel_rfl
theorem fdsearch5_92_1 : fldOf Tryz.prog 92 1 = some 1 := by kernel_rfl
theorem fdsearch5_92_2 : fldOf Tryz.prog 92 2 = some 2 := by kernel_rfl
theorem shsearch5_109 : tySh Tryz.prog 109 = some (false, 1) := by kernel_rfl
theorem shsearch5_3 : tySh Tryz.prog 3 = some (false, 1) := by kernel_rfl
theorem shsearch5_32 : tySh Tryz.prog 32 = some (true, 5) := by kernel_rfl
theorem shsearch5_54 : tySh Tryz.prog 54 = some (false, 1) := by kernel_rfl
theorem shsearch5_57 : tySh Tryz.prog 57 = some (false, 1) := by kernel_rfl
theorem shsearch5_92 : tySh Tryz.prog 92 = some (true, 3) := by kernel_rfl
theorem zesearch5_109 : zer Tryz.prog 109 = some (.map none) := by kernel_rfl
theorem zesearch5_54 : zer Tryz.prog 54 = some (.pointer none) := by kernel_rfl
theorem zesearch5_92 : zer Tryz.prog 92 = some (.agg #[.int .i64 (0), .int .i64 (0), .int .i64 (0)]) := by kernel_rfl
theorem search_Costs_1_ok {h:PH} {pc0:List Value} {a1:searchBar} (pr0:VsearchBar h pc0 a1) {pc1:List Value} {b2:searchBar} (pr1:VsearchBar h pc1 b2) {r_0:Int} (H:search_Costs_1 a1 b2 = some r_0):∀ L,FnS Tryz.prog 47 [.agg pc0.toArray,.agg pc1.toArray] h (L) (fun v h' L'=>v = .int .i64 r_0∧L' = L):=by
 intro L
 obtain rfl:=pr0
 obtain rfl:=pr1
 refine FnS.enter Tryz.func47 z Tryz.ntmps47 z<|Sr<|To (O.boxF z z z fun i j b c=>To (O.boxF z z z fun m n a d=>Ag z<|Nt<|Sr<|Vv (V.fa fdsearch5_92_0 z)<|have e:=c.mono a; Vv (V.ldf (k:=0) shsearch5_3 z e z)<|Vv (V.fa fdsearch5_92_0 z)<|Vv (V.ldf (k:=0) shsearch5_3 z d z) ?_))
 obtain ⟨o,f,H⟩:=bnd H
 refine Vv (V.subS z z f)<|Ag z<|Nt<|T.ret ?_
 obtain rfl:=Option.some.inj H
 have g:=(b.trans a)
 exact T.retL Tryz.results47 (Rv z) g ⟨z,z⟩
theorem search_Costs_ok {h:PH} {pc0:List Value} {p1:apiProblem} (pr0:VapiProblem h pc0 p1) {r_0:List searchBar} {r_1:Int} (H:search_Costs p1 = some (r_0,r_1)):∀ L,FnS Tryz.prog 24 [.agg pc0.toArray] h (L) (fun v h' L'=>∃ w0 cs0,v = .tuple #[w0,.int .i64 r_1]∧L' = rowR 92 3 w0 cs0::L∧RowF VsearchBar h' cs0 r_0):=by
 intro L
 obtain ⟨ak,am,an,ao,aq,rfl,bb,bc,bd,be,bf⟩:=pr0
 refine FnS.enterM Tryz.func24 rfl Tryz.ntmps24 rfl<|Sr<|To (O.boxF rfl rfl rfl fun dr bg s bi=>Ag z<|Ag z<|Nt<|Sr<|Vv (V.ldS rfl bi (by exact shsearch5_32)) ?_)
 have bj:=Slc.mono VapiTable.mono bb s
 have bk:=Slc.mono VapiGuest.mono bc s
 have bm:=Slc.mono VapiTie.mono bd s
 have bn:=Slc.mono VI.mono be s
 have bo:=Slc.mono VapiRule.mono bf s
 obtain ⟨⟨ds,dt⟩,bp,H⟩:=bnd H
 refine To (O.callS z (search_begin_ok (show VapiProblem bg [ak,am,an,ao,aq] p1 from ⟨ak,am,an,ao,aq,z,bj,bk,bm,bn,bo⟩) bp _) z fun du dw dx bq br=>?_)
 obtain ⟨bt,rfl,bu,U⟩:=br
 refine Sl_ _ bu<|Mv z<|Vv (V.ext rfl rfl)<|Vv (V.ext rfl rfl)<|To (O.alloc zesearch5_54 rfl rfl fun dy=>To (O.stF (vs:=[bt]) shsearch5_54 rfl rfl (j:=0) rfl (OPt.cells U) (by (simp only [Sl.ones,OPt.one U,Bool.and_true,Bool.true_and]) <;> rfl) rfl ?_))
 refine T.freeze fun bw ar bx=>have W:=AtC.of bx; Ag z<|Nt<|Sq<|Sr<|Mv z<|Vv (V.ne z z)<|Nt<|T.cH H z (fun H=>?_) (fun H=>?_)
 ·exact dead H
 refine T.skip<|Th<|Sr<|To (O.mkM rfl fun J=>have bA:MapG (Value.int .i64) true VsearchBar bw 0 ([]:List MapEntry) ([]:List (Int×searchBar)):=trivial; To (O.alloc zesearch5_109 rfl rfl fun o=>To (O.stF (vs:=[.map (some J)]) shsearch5_109 rfl rfl (j:=0) rfl rfl rfl rfl<|Nt<|Sq<|Sq<|T.drawF (t:=(.v 0 (.v 1 (.alt 2 (.alt 3 .done .no) .no)))) 5 0 0 rfl rfl search5mixed (by kernel_rfl) ?_)))
 refine Tv z (V.ld0 shsearch5_54 z W z)<|Tv z (V.ld0 shsearch5_54 z W z) ?_
 obtain ⟨au,bB,H⟩:=bnd H
 have bC:=OPt.mono Vsearchhunt.mono U ar
 have aw:=OPt.get bC bB
 obtain ⟨dA,bD,H⟩:=bnd H
 refine Tp z z (SX.two (XA.fr [] Lr z) (XA.fr [] Lr z)) (O.callS z (hunt_nobody_ok aw bD _) z fun dB dC dD ax bE=>?_) T.tno
 obtain ⟨dE,bG,bI⟩:=bE
 refine Sl_ _ bG<|T.rowFix fun dG X bJ=>have bK:=RowF.mono VI.mono bI X; have bM:=RowF.slc bJ bK; have u:=(ax.trans X); have ay:=Pt.mono Vsearchhunt.mono aw u; ?_
 obtain ⟨aA,bN,H⟩:=bnd H
 refine Tp z z (SX.two (XA.fr [] u z) (XA.fr [] u z)) (O.callS z (hunt_plans_ok ay bM bN _) z fun dI Y dJ x bO=>?_) T.tno
 obtain ⟨dK,aB,dM,aC,rfl,bP,bS,bU,bV,bW⟩:=bO
 refine Sl_ _ bP<|T.tnil (SX.two (XA.fr [] (u.trans x) z) (XA.fr [] (u.trans x) z))<|Th<|Bl ?_
 obtain ⟨dN,bX,bY⟩:=bndK H
 have aD:=(u.trans x)
 have bZ:=MapG.mono VsearchBar.mono aD bA
 refine T.rangeY (S:=(List (Int×searchBar))) (O:=Unit) (La0:=[blk o (.cells [.map (some J)].toArray 109),blk J (.map ([]:List MapEntry).toArray ([]:List MapEntry).length)]) (Lr:=L) (fun y hh b0=>∃ a:Nat,∃ b:List MapEntry,b0 = ([blk o (.cells [.map (some a)].toArray 109),blk a (.map b.toArray b.length)]:List HProp)∧MapG (Value.int .i64) true VsearchBar hh 0 b y) (fun _ _ _ _=>False) z z ⟨J,([]:List MapEntry),z,bZ⟩ (fun R_ y_=>CY65l R_ Y y_ (search_Costs_l0 au)) (fun Z=>⟨⟨z,z⟩,RYs.mono (fun y _ _ _ l_ ⟨a,b,e_,f0_⟩=>⟨a,b,e_,MapG.mono VsearchBar.mono l_ f0_⟩) (fun _ _ _ _ _ _ q_=>q_),?_⟩) (fun _ La_ b1 b2 b3=>FnS.perm (List.Perm.refl _) (hunt_plans_1_ok b1 b2 bS (show (VPt Vsearchhunt) Y [aB] aA.1 from ⟨aB,z,bU⟩) bV (show (VSl (VI .i64) 1) Y [aC] aA.2 from ⟨aC,z,bW⟩) bX [] b3) fun _ _ _ ⟨La_,_,e_,q_⟩=>⟨_,List.Perm.refl _,La_,e_,q_⟩) ?_ ?_
 ·intro dO aE aa A dP K b4 dS dU dV b5 H As_ L_
  rcases b4 with y | _
  rotate_left
  ·exact dead H
  obtain ⟨ab,_,rfl,ac,b6,dW,a,b,rfl,M⟩:=b5
  refine Yld.frontR fun L=>Yld.round1 (j:=0) z ac z<|Sl_ (blk Z (.loop ab)::blk o (.cells [.map (some a)].toArray 109)::blk a (.map b.toArray b.length)::rowR 3 1 aa A::L) z<|Rg<|Ag z<|Nt<|T.begin (j:=0) z b6<|T.fl ?_
  refine Bl<|Sr<|have b7:=(aD.trans aE); have aG:=W.mono b7; Vv (V.ld0 shsearch5_54 z aG z)<|have b8:=(x.trans aE); have b9:=Pt.mono Vsearchhunt.mono ay b8; have bh:=b9; ?_
  obtain ⟨dX,_,rfl,aI,⟨aJ,aK,aM,aN,aO,aP,aS,aU,aV,rfl,aW,bl,bv,bz,ca,cb,cc,cd,ce⟩⟩:=bh
  refine Vv (V.nck z)<|Vv (V.fa fdsearch5_60_0 z)<|Vv (V.ldf (k:=0) shsearch5_57 z aI z)<|Mv z<|Fr_ 3 z<|T.fl ?_
  obtain ⟨g,cf,H⟩:=bnd H
  refine To (O.callS z (FnS.lend (val:=.int .i64 g) Tryz.func45 z lendR fun dY aX cg=>?_) z fun dZ ci d0 B cj=>?_)
  ·have ck:=RowF.mono VI.mono K aX
   have cm:=RowF.slc cg ck
   have cn:=Pt.mono VruleJudge.mono aW aX
   exact Judge_Cost_ok cn cm cf _
  obtain ⟨rfl,co⟩:=cj
  refine Sl_ _ co<|Ag z<|Nt<|Sr<|Vv (V.ldO0 shsearch5_109 z (j:=2) z z)<|Mv z ?_
  obtain ⟨⟨p,d1⟩,cp,H⟩:=bnd H
  have ad:=MapG.mono VsearchBar.mono B M
  obtain ⟨_,cq,rfl⟩:=MapG.lookO (r:=a) (zc:=[.int .i64 (0:Int),.int .i64 (0:Int),.int .i64 (0:Int)]) (agg:=true) Tryz.underlying109 (KeyOK.int Tryz.underlying3) zesearch5_92 (show VsearchBar ci [.int .i64 (0:Int),.int .i64 (0:Int),.int .i64 (0:Int)] (searchBar.mk (0:Int) (0:Int) (0:Int)) from rfl) ad cp
  refine Vv (V.lkO1 z z (j:=3) z cq)<|To (O.alloc zesearch5_92 z z fun aY=>To (O.stF (vs:=[.int .i64 p.fCost,.int .i64 p.fClasses,.int .i64 p.fPlans]) shsearch5_92 z z (j:=0) z z z z<|T.fl ?_))
  refine Nt<|Sr<|Mv z<|Vv (V.fa fdsearch5_92_0 z)<|To (O.st (vs:=[.int .i64 g]) (k:=0) shsearch5_3 z z (j:=0) z z z<|T.fl ?_)
  refine Nt<|Sr<|Vv (V.fa fdsearch5_92_2 z)<|Vv (V.ldO (k:=2) shsearch5_3 z (j:=0) z z) ?_
  obtain ⟨n,cr,H⟩:=bnd H
  refine Vv (V.addS z z cr)<|Vv (V.fa fdsearch5_92_2 z)<|To (O.st (vs:=[.int .i64 n]) (k:=2) shsearch5_3 z z (j:=0) z z z<|T.fl ?_)
  refine Nt<|Sq<|Sr<|have ct:=aG.mono B; Vv (V.ld0 shsearch5_54 z ct z)<|Mv z<|Fr_ 1 z<|T.fl ?_
  obtain ⟨cu,cw,H⟩:=bnd H
  refine To (O.callS z (FnS.lend (val:=.bool cu) Tryz.func16 z lendR fun cx cy cA=>?_) z fun d2 aZ d3 N cB=>?_)
  ·have d:=(B.trans cy)
   have cC:=RowF.mono VI.mono K d
   have cD:=RowF.slc cA cC
   have cE:=aI.mono d
   have cG:=Pt.mono VruleJudge.mono aW d
   have cI:=Slc.mono VapiTable.mono bl d
   have cJ:=Slc.mono VapiGuest.mono bv d
   have cK:=Slc.mono VapiTie.mono bz d
   have cM:=Slc.mono VI.mono ca d
   have cN:=Slc.mono VapiRule.mono cb d
   have cO:=Slc.mono VI.mono cc d
   have cP:=Slc.mono VI.mono cd d
   have cS:=Slc.mono (VSl.mono (VSl.mono VI.mono)) ce d
   exact hunt_canonical_ok (Pt.mk cE (show Vsearchhunt cx [aJ,aK,aM,aN,aO,aP,aS,aU,aV] au from ⟨aJ,aK,aM,aN,aO,aP,aS,aU,aV,z,cG,cI,cJ,cK,cM,cN,cO,cP,cS⟩)) cD cw _
  obtain ⟨rfl,cU⟩:=cB
  refine Sl_ _ cU<|Nt<|T.cH H z (fun H=>?_) (fun H=>?_)
  ·refine Rg<|Vv (V.fa fdsearch5_92_1 z)<|Vv (V.ldO (k:=1) shsearch5_3 z (j:=1) z z) ?_
   obtain ⟨C,cV,H⟩:=bnd H
   refine Vv (V.addS z z cV)<|Vv (V.fa fdsearch5_92_1 z)<|To (O.st (vs:=[.int .i64 C]) (k:=1) shsearch5_3 z z (j:=1) z z z<|T.fl ?_)
   refine Nt<|Rg<|Vv (V.ldO0 shsearch5_109 rfl (j:=3) rfl rfl)<|Mv z<|Vv (V.ldOS (j:=0) (by exact shsearch5_92) rfl rfl) ?_
   obtain ⟨d4,cW,H⟩:=bnd H
   have cX:=MapG.mono VsearchBar.mono N ad
   refine To (O.updM (agg:=true) (E:=VsearchBar) (cs:=[.int .i64 g,.int .i64 C,.int .i64 n]) Tryz.underlying109 (KeyOK.int Tryz.underlying3) z z z (j:=4) z cX (show VsearchBar aZ [.int .i64 g,.int .i64 C,.int .i64 n] (searchBar.mk g C n) from z) _ (.inl z) fun D a0=>?_)
   rw [Option.some.inj cW] at a0
   refine Sl_ (blk a (.map D.toArray D.length)::blk aY (.cells [.int .i64 g,.int .i64 C,.int .i64 n].toArray 92)::rowR 3 1 aa A::blk Z (.loop { ab with state:=.busy })::blk o (.cells [.map (some a)].toArray 109)::L) z<|Ni<|Bn<|Fr_ 1 z<|T.fl ?_
   refine T.drop<|Fr_ 1 z<|T.fl ?_
   refine Fr_ 1 z<|T.fl ?_
   refine Fr_ 3 z<|T.fl ?_
   refine Fr_ 3 z<|T.fl ?_
   obtain ⟨rfl,rfl⟩:=inj2 H
   have a1:=(B.trans N)
   have cY:=RowF.mono VI.mono K a1
   exact T.endN (j:=0) z a1 ⟨_::[blk o (.cells [.map (some a)].toArray 109),blk a (.map D.toArray D.length)],A,z,z,⟨_,_,z,ac.turn .ready none,z,z,⟨a,D,z,a0⟩⟩,cY⟩
  refine T.skip<|Th<|Rg<|Vv (V.ldO0 shsearch5_109 rfl (j:=3) rfl rfl)<|Mv z<|Vv (V.ldOS (j:=1) (by exact shsearch5_92) rfl rfl) ?_
  obtain ⟨d5,cZ,H⟩:=bnd H
  have c0:=MapG.mono VsearchBar.mono N ad
  refine To (O.updM (agg:=true) (E:=VsearchBar) (cs:=[.int .i64 g,.int .i64 p.fClasses,.int .i64 n]) Tryz.underlying109 (KeyOK.int Tryz.underlying3) z z z (j:=4) z c0 (show VsearchBar aZ [.int .i64 g,.int .i64 p.fClasses,.int .i64 n] (searchBar.mk g p.fClasses n) from z) _ (.inl z) fun G a2=>?_)
  rw [Option.some.inj cZ] at a2
  refine Sl_ (blk a (.map G.toArray G.length)::rowR 3 1 aa A::blk aY (.cells [.int .i64 g,.int .i64 p.fClasses,.int .i64 n].toArray 92)::blk Z (.loop { ab with state:=.busy })::blk o (.cells [.map (some a)].toArray 109)::L) z<|Ni<|Bn<|Fr_ 2 z<|T.fl ?_
  refine T.drop<|Fr_ 1 z<|T.fl ?_
  refine Fr_ 1 z<|T.fl ?_
  refine Fr_ 3 z<|T.fl ?_
  refine Fr_ 3 z<|T.fl ?_
  obtain ⟨rfl,rfl⟩:=inj2 H
  have a3:=(B.trans N)
  have c1:=RowF.mono VI.mono K a3
  exact T.endN (j:=0) z a3 ⟨_::[blk o (.cells [.map (some a)].toArray 109),blk a (.map G.toArray G.length)],A,z,z,⟨_,_,z,ac.turn .ready none,z,z,⟨a,G,z,a2⟩⟩,c1⟩
 ·rintro I c2 _ y c3 c4 ⟨a,b,rfl,M⟩
  have H:=cutE c4 bY
  refine Sl_ (blk I (.deferred (some []))::blk o (.cells [.map (some a)].toArray 109)::blk a (.map b.toArray b.length)::L) z<|Bn<|Th<|Sr<|Ag z<|Nt<|Sq<|Sr<|Vv (V.ldO0 shsearch5_109 z (j:=1) z z)<|To (O.range Tryz.underlying109 z (j:=2) z z fun P=>Nt<|Bl<|T.rowNil 92 3<|have c5:RowF VsearchBar c2 [] ([]:List searchBar):=RowF.nil; Fr_ 3 z<|T.fl ?_)
  refine T.drop<|Fr_ 3 z<|T.fl ?_
  refine Fr_ 3 z<|T.fl ?_
  refine Fr_ 3 z<|T.fl ?_
  have c6:=mapAll_all H
  refine T.loopK (α:=(List (Int×searchBar))×(List searchBar)×(Array Nat)×Value×(List (List Value))) [53] z (fun ⟨q,w,i,m,f⟩=>[(10,m)]) (fun ⟨q,w,i,m,f⟩=>blk P (.mapIter (some a) b.length i b.length)::blk I (.deferred (some []))::blk a (.map b.toArray b.length)::rowR 92 3 m f::L) (fun ⟨q,w,i,m,f⟩ hh=>(∀ l_,l_.Perm q→Option.bind (foldO search_Costs_l1 w l_) search_Costs_r1 = some (r_0,r_1))∧Lf (Value.int .i64) true VsearchBar hh b i q∧RowF VsearchBar hh f w) (fun ⟨q,w,i,m,f⟩=>q.length) (y,([]:List searchBar),#[],(.slice none 0 0),[]) ⟨z,trivial⟩ z ⟨c6,Lf.start M,c5⟩ ?_
  rintro ⟨q,w,i,m,f⟩ c7 ae ⟨a4,a5,a6⟩
  refine T.norm [10,53] z<|Sl_ (blk P (.mapIter (some a) b.length i b.length)::blk I (.deferred (some []))::blk a (.map b.toArray b.length)::rowR 92 3 m f::L) z<|Sr<|have af:=MapG.mono VsearchBar.mono ae M; To (O.next z (j:=0) z (jm:=2) z (MapG.hold af) (Nat.le_refl _) z (fun c8=>?_) (fun d6 a7=>?_))
  ·obtain rfl:=Lf.nil a5 c8
   have H:=foldNil (a4 [] (List.Perm.refl _))
   refine Vv (V.ext z z)<|Nt<|Sq<|Cf z<|T.exit<|Te<|Te<|Be<|Th<|Sr<|Mv z<|Fr_ 3 z<|T.fl ?_
   obtain ⟨d7,c9,H⟩:=bnd H
   refine To (O.callS z (sl_SortFuncBar_ok a6 (show CF111 c7 (.func (.func 47) #[] #[]) search_Costs_1 from ⟨⟨z,z⟩,.inr ⟨47,[],[],z,fun d8 d9 dh dl ch dv dz cl ea cv cz=>search_Costs_1_ok ch cl cv cz⟩⟩) c9 _) z fun eb ec ed da db=>?_)
   obtain ⟨a8,rfl,dc,dd⟩:=db
   refine Sl_ _ dc<|Nt<|Sr<|Mv z<|Ag z<|Ag z<|Nt<|T.ret<|Fr_ 1 z<|T.fl ?_
   refine T.drop<|Fr_ 2 z<|T.fl ?_
   refine T.drop<|Fr_ 1 z<|T.lvRet<|T.lvMark (j:=0) z<|Sl_ (rowR 92 3 m a8::L) z ?_
   obtain ⟨rfl,rfl⟩:=inj2 H
   have de:=((((((((s.trans bq).trans ar).trans ax).trans X).trans x).trans c3).trans ae).trans da)
   exact T.lvDone (L':=rowR 92 3 m a8::L) Tryz.results24 (RVs.cons (RV.tmp z) (Rv z)) de (fun _ iv=>iv) ⟨_,_,z,z,dd⟩
  obtain ⟨ee,c,ef,df,ag,rfl,rfl,a9,dg⟩:=Lf.step a5 a7 (MapG.born af).2
  obtain ⟨eg,H,di⟩:=foldAll a4 a9
  refine Sl_ (blk P (.mapIter (some a) b.length (i.push ag) b.length)::blk I (.deferred (some []))::blk a (.map b.toArray b.length)::rowR 92 3 m f::L) z<|Vv (V.ext z z)<|Nt<|Sq<|Ct z<|T.skip<|Th<|Bl<|Sr<|Vv (V.entry z (j:=0) z (jm:=2) z (List.mem_filter.1 a7).1 (MapG.born af).2)<|Vv (V.ext z z)<|To (O.alloc zesearch5_92 z z fun ei=>To (O.stF (vs:=[.int .i64 c.fCost,.int .i64 c.fClasses,.int .i64 c.fPlans]) shsearch5_92 z z (j:=0) z z z z<|T.fl ?_))
  refine T.freeze fun ah ai dj=>have dk:=AtC.of dj; Nt<|Rg<|Mv z<|Vv (V.ldS rfl dk (by exact shsearch5_92)) ?_
  refine To (O.bs elsearch5_80 zesearch5_92 z (e:=z) (hk:=z) (xs:=[.tmp 59]) (hv:=CO.eq (CO.cons z CO.nil)) (hw:=Wide.of z) (hd:=z) fun dm=>have aj:RowF VsearchBar ah [[.int .i64 c.fCost,.int .i64 c.fClasses,.int .i64 c.fPlans]] ([c]:List searchBar):=(RowF.cons z RowF.nil); ?_)
  obtain ⟨al,av,H⟩:=bnd H
  have az:=RowF.mono VsearchBar.mono a6 ai
  refine To (O.apX elsearch5_80 elsearch5_80 zesearch5_92 z z z (j:=4) z (Src.row (j:=0) z) (Wide.of z) (RowF.ones VsearchBar.plain aj) az aj av z fun ba ej ek=>have dn:RowF VsearchBar ah (f ++ [[.int .i64 c.fCost,.int .i64 c.fClasses,.int .i64 c.fPlans]]) al:=RowF.ap az aj av; Sl_ (rowR 92 3 ba (f ++ [[.int .i64 c.fCost,.int .i64 c.fClasses,.int .i64 c.fPlans]])::rowR 92 3 (.slice (some ⟨dm,0,none⟩) 1 1) [[.int .i64 c.fCost,.int .i64 c.fClasses,.int .i64 c.fPlans]]::blk P (.mapIter (some a) b.length (i.push ag) b.length)::blk I (.deferred (some []))::blk a (.map b.toArray b.length)::L) z<|Fr_ 1 z<|T.fl ?_)
  refine T.drop<|Ag z<|Ni<|Bn<|Th<|Fr_ 3 z<|T.fl ?_
  refine Fr_ 3 z<|T.fl ?_
  refine Fr_ 3 z<|T.fl ?_
  obtain rfl:=Option.some.inj H
  have dp:=(ae.trans ai)
  have dq:=Lf.mono VsearchBar.mono dg ai
  exact T.again (df,al,(i.push ag),ba,(f ++ [[.int .i64 c.fCost,.int .i64 c.fClasses,.int .i64 c.fPlans]])) dp (Perm.lt a9) ⟨di,dq,dn⟩ (AllIn.app ⟨z,trivial⟩ ⟨z,trivial⟩) z
 rintro _ _ _ _ _ _ _ ⟨⟩
end Go.Proofs.X
open Go Go.Proofs Go.Sl Go.Dm
namespace Go.Proofs.X
theorem search6mixed : Tryz.prog.follows .mixedOrders = true := by kernel_rfl
theorem blsearch6_52 : bldSh Tryz.prog 52 = some ([.int .u8 (0), .int .i64 (0)], [(0, 1), (1, 1)]) := by kernel_rfl
theorem blsearch6_69 : bldSh Tryz.prog 69 = some ([.pointer none, .int .i64 (0), .slice none 0 0, .slice none 0 0], [(0, 1), (1, 1), (2, 1), (3, 1)]) := by kernel_rfl
theorem bosearch6_52 : fieldsOK Tryz.prog 52 = true := by kernel_rfl
theorem bosearch6_69 : fieldsOK Tryz.prog 69 = true := by kernel_rfl
theorem elsearch6_46 : elSh Tryz.prog 46 = some (52, 2, 16) := by kernel_rfl
theorem fdsearch6_60_0 : fldOf Tryz.prog 60 0 = some 0 := by kernel_rfl
theorem fdsearch6_69_0 : fldOf Tryz.prog 69 0 = some 0 := by kernel_rfl
theorem fdsearch6_69_2 : fldOf Tryz.prog 69 2 = some 2 := by kernel_rfl
theorem fdsearch6_69_3 : fldOf Tryz.prog 69 3 = some 3 := by kernel_rfl
theorem shsearch6_24 : tySh Tryz.prog 24 = some (false, 1) := by kernel_rfl
theorem shsearch6_32 : tySh Tryz.prog 32 = some (true, 5) := by kernel_rfl
theorem shsearch6_33 : tySh Tryz.prog 33 = some (false, 1) := by kernel_rfl
theorem shsearch6_46 : tySh Tryz.prog 46 = some (false, 1) := by kernel_rfl
theorem shsearch6_54 : tySh Tryz.prog 54 = some (false, 1) := by kernel_rfl
theorem shsearch6_57 : tySh Tryz.prog 57 = some (false, 1) := by kernel_rfl
theorem zesearch6_24 : zer Tryz.prog 24 = some (.slice none 0 0) := by kernel_rfl
theorem zesearch6_33 : zer Tryz.prog 33 = some (.int .i64 (0)) := by kernel_rfl
theorem zesearch6_52 : zer Tryz.prog 52 = some (.agg #[.int .u8 (0), .int .i64 (0)]) := by kernel_rfl
theorem search_First_ok {h:PH} {pc0:List Value} {p1:apiProblem} (pr0:VapiProblem h pc0 p1) {r_0:List Int} {r_1:Int} (H:search_First p1 = some (r_0,r_1)):∀ L,FnS Tryz.prog 8 [.agg pc0.toArray] h (L) (fun v h' L'=>∃ w0,v = .tuple #[w0,.int .i64 r_1]∧L' = L∧Slc (VI .i64) 1 h' w0 r_0):=by
 intro L
 obtain ⟨t,u,w,x,y,rfl,U,W,X,Y,Z⟩:=pr0
 refine FnS.enterM Tryz.func8 rfl Tryz.ntmps8 rfl<|Sr<|To (O.boxF rfl rfl rfl fun bf aa f ab=>To (O.alloc zesearch6_24 rfl rfl fun c=>To (O.alloc zesearch6_33 rfl rfl fun d=>Nt<|Sr<|Vv (V.ldS rfl ab (by exact shsearch6_32)) ?_)))
 have ac:=Slc.mono VapiTable.mono U f
 have ad:=Slc.mono VapiGuest.mono W f
 have ae:=Slc.mono VapiTie.mono X f
 have af:=Slc.mono VI.mono Y f
 have ag:=Slc.mono VapiRule.mono Z f
 obtain ⟨⟨bg,bi⟩,ai,H⟩:=bnd H
 refine To (O.callS z (search_begin_ok (show VapiProblem aa [t,u,w,x,y] p1 from ⟨t,u,w,x,y,z,ac,ad,ae,af,ag⟩) ai _) z fun bj bk bm A aj=>?_)
 obtain ⟨bn,rfl,ak,am⟩:=aj
 refine Sl_ _ ak<|Mv z<|Vv (V.ext z z)<|Vv (V.ext z z)<|Ag z<|Ag z<|Nt<|Sq<|Sr<|Mv z<|Vv (V.ne z z)<|Nt<|T.cH H z (fun H=>?_) (fun H=>?_)
 ·exact dead H
 refine T.skip<|Th<|Sq<|Sr<|Mv z<|Mv z ?_
 obtain ⟨bo,an,H⟩:=bnd H
 have B:=OPt.get am an
 obtain ⟨bp,ao,H⟩:=bnd H
 refine To (O.callS z (hunt_nobody_ok B ao _) z fun bq br bs m ap=>?_)
 obtain ⟨bt,aq,ar⟩:=ap
 refine Sl_ _ aq<|T.rowFix fun bu i au=>have aw:=RowF.mono VI.mono ar i; have ax:=RowF.slc au aw; have ay:=(m.trans i); have aA:=Pt.mono Vsearchhunt.mono B ay; ?_
 obtain ⟨C,aB,H⟩:=bnd H
 refine To (O.callS z (hunt_plans_ok aA ax aB _) z fun bw k bx D aC=>?_)
 obtain ⟨bA,E,bB,G,rfl,aD,aE,aG,aI,aJ⟩:=aC
 refine Sl_ _ aD<|Nt<|Bl ?_
 obtain ⟨bC,aK,I⟩:=bndK H
 refine T.rowNil 3 1<|have aM:RowF (VI .i64) k [] ([]:List Int):=RowF.nil; Fr_ 2 z<|T.fl ?_
 refine Fr_ 2 z<|T.fl ?_
 refine T.rangeY (S:=(List Int)) (O:=(List Int)) (La0:=[blk d (.cells [.int .i64 (0:Int)].toArray 33),blk c (.cells [(.slice none 0 0)].toArray 24),rowR 3 1 (.slice none 0 0) []]) (Lr:=L) (fun e hh n=>∃ a:Value,∃ b:List (List Value),n = ([blk d (.cells [.int .i64 (0:Int)].toArray 33),blk c (.cells [a].toArray 24),rowR 3 1 a b]:List HProp)∧RowF (VI .i64) hh b e) (fun e c_ hh n=>c_ = (.ret:Code)∧∃ a:Value,∃ b:List (List Value),n = ([blk d (.cells [.int .i64 (0:Int)].toArray 33),blk c (.cells [a].toArray 24),rowR 3 1 a b]:List HProp)∧RowF (VI .i64) hh b e) z z ⟨(.slice none 0 0),[],z,aM⟩ (fun R_ y_=>CY65l R_ k y_ search_First_l0) (fun o=>⟨⟨z,z⟩,RYs.mono (fun e _ _ _ l_ ⟨a,b,e_,f0_⟩=>⟨a,b,e_,RowF.mono VI.mono f0_ l_⟩) (fun e _ _ _ _ l_ ⟨c_,a,b,e_,f0_⟩=>⟨c_,a,b,e_,RowF.mono VI.mono f0_ l_⟩),?_⟩) (fun _ La_ aN aO aP=>FnS.perm (List.Perm.refl _) (hunt_plans_1_ok aN aO aE (show (VPt Vsearchhunt) k [E] C.1 from ⟨E,z,aG⟩) aI (show (VSl (VI .i64) 1) k [G] C.2 from ⟨G,z,aJ⟩) aK [] aP) fun _ _ _ ⟨La_,_,e_,q_⟩=>⟨_,List.Perm.refl _,La_,e_,q_⟩) ?_ ?_
 ·intro bD bE J p bG K aS bI bJ bK aU H As_ L_
  rcases aS with e | _
  rotate_left
  ·exact dead H
  obtain ⟨q,_,rfl,aV,aW,bM,a,b,rfl,r⟩:=aU
  refine Yld.frontR fun L=>Yld.round1 (j:=0) z aV z<|Sl_ (blk o (.loop q)::blk d (.cells [.int .i64 (0:Int)].toArray 33)::blk c (.cells [a].toArray 24)::rowR 3 1 a b::rowR 3 1 J p::L) z<|Rg<|Ag z<|Nt<|T.begin (j:=0) z aW<|T.fl ?_
  refine Bl<|Sr<|Mv z<|Fr_ 4 z<|T.fl ?_
  obtain ⟨aX,aY,H⟩:=bnd H
  refine To (O.callS z (FnS.lendG (R:=fun v h' L'=>∃ (M:List (List Value)),L' = rowR 3 1 v M::blk o (.loop { q with state:=.busy })::blk d (.cells [.int .i64 (0:Int)].toArray 33)::blk c (.cells [a].toArray 24)::rowR 3 1 a b::L∧RowF (VI .i64) h' M aX) Tryz.func17 z (fun _ _ _ _ ⟨e_0,l_,f_0⟩=>⟨e_0,l_,(RowF.free VI.free f_0)⟩) lendR fun bN aZ a0=>?_) z fun g bO bP N a1=>?_)
  ·have a2:=RowF.mono VI.mono K aZ
   have a3:=RowF.slc a0 a2
   exact sl_CloneInt_ok a3 aY _
  obtain ⟨_,rfl,⟨s,rfl,a4⟩⟩:=a1
  refine Sl_ (rowR 3 1 J p::rowR 3 1 g s::blk o (.loop { q with state:=.busy })::blk d (.cells [.int .i64 (0:Int)].toArray 33)::blk c (.cells [a].toArray 24)::rowR 3 1 a b::L) rfl<|T.rowOne 1 rfl fun a5 a6=>To (O.stF (vs:=[g]) shsearch6_24 rfl rfl (j:=4) rfl a6 (by (simp only [Sl.ones,a5,Bool.and_true,Bool.true_and]) <;> rfl) rfl ?_)
  refine T.fl ?_
  refine To (O.stF (vs:=[.int .i64 (0:Int)]) shsearch6_33 z z (j:=4) z z z z<|T.fl ?_)
  refine Nt<|T.ret<|Br<|Fr_ 5 z<|T.fl ?_
  refine T.drop<|Fr_ 2 z<|T.fl ?_
  refine Fr_ 3 z<|T.fl ?_
  refine Fr_ 3 z<|T.fl ?_
  refine Fr_ 3 z<|T.fl ?_
  refine Fr_ 4 z<|T.fl ?_
  obtain ⟨rfl,rfl⟩:=inj2 H
  have a7:=RowF.mono VI.mono K N
  exact T.endR (j:=0) z N ⟨_::[blk d (.cells [.int .i64 (0:Int)].toArray 33),blk c (.cells [g].toArray 24),rowR 3 1 g s],p,z,z,⟨_,_,_,z,z,z,⟨z,⟨g,s,z,a4⟩⟩⟩,a7⟩
 ·rintro a8 bS _ e a9 ah ⟨a,b,rfl,r⟩
  have H:=cutE ah I
  refine Sl_ (blk a8 (.deferred (some []))::blk d (.cells [.int .i64 (0:Int)].toArray 33)::blk c (.cells [a].toArray 24)::rowR 3 1 a b::L) z<|Bn<|Th<|Sr<|To (O.stF (vs:=[.slice none 0 0]) shsearch6_24 z z (j:=2) z z z z<|T.fl ?_)
  refine To (O.stF (vs:=[.int .i64 (9:Int)]) shsearch6_33 z z (j:=2) z z z z<|T.fl ?_)
  refine Nt<|T.ret<|Fr_ 3 z<|T.fl ?_
  refine T.drop<|Fr_ 1 z<|T.fl ?_
  refine Fr_ 2 z<|T.fl ?_
  refine T.lvRet<|T.lvMark (j:=0) z<|Sl_ (blk c (.cells [.slice none 0 0].toArray 24)::blk d (.cells [.int .i64 (9:Int)].toArray 33)::L) z ?_
  obtain ⟨rfl,rfl⟩:=inj2 H
  have al:=(((((f.trans A).trans m).trans i).trans D).trans a9)
  exact T.lvDone (L':=L) Tryz.results8 (RVs.cons (RV.cell shsearch6_24 z (j:=0) z z) (RVs.cons (RV.cell shsearch6_33 z (j:=1) z z) RVs.nil)) al (fun _ iv=>iv.drop.drop) ⟨_,z,z,Slc.nil⟩
 rintro av bU _ e _ az ba ⟨rfl,a,b,rfl,r⟩
 have H:=cutE ba I
 refine Sl_ (blk av (.deferred (some []))::blk d (.cells [.int .i64 (0:Int)].toArray 33)::blk c (.cells [a].toArray 24)::rowR 3 1 a b::L) z<|T.ret<|Br<|Tr<|Fr_ 3 z<|T.fl ?_
 refine T.rowFix fun bV P bb=>have bc:=RowF.mono VI.mono r P; have bd:=RowF.slc bb bc; Fr_ 1 z<|T.fl ?_
 refine Fr_ 2 z<|T.fl ?_
 refine Fr_ 2 z<|T.fl ?_
 refine T.lvRet<|T.lvMark (j:=0) z<|Sl_ (blk c (.cells [a].toArray 24)::blk d (.cells [.int .i64 (0:Int)].toArray 33)::L) z ?_
 obtain ⟨rfl,rfl⟩:=inj2 H
 have be:=((((((f.trans A).trans m).trans i).trans D).trans az).trans P)
 exact T.lvDone (L':=L) Tryz.results8 (RVs.cons (RV.cell shsearch6_24 z (j:=0) z z) (RVs.cons (RV.cell shsearch6_33 z (j:=1) z z) RVs.nil)) be (fun _ iv=>iv.drop.drop) ⟨_,z,z,bd⟩
theorem hunt_turned_ok {h:PH} {pv0:Value} {h1:searchhunt} (pr0:Pt Vsearchhunt h pv0 h1) {pv1:Value} {part2:List Int} (pr1:Slc (VI .i64) 1 h pv1 part2) {g3:Int} {r_0:Int} (H:hunt_turned h1 part2 g3 = some r_0):∀ L,FnS Tryz.prog 38 [pv0,pv1,.int .i64 g3] h (L) (fun v h' L'=>v = .int .i64 r_0∧L' = L):=by
 intro L
 exact dead H
theorem prover_say_ok {h:PH} {pb0:Nat} {p1:searchprover} {v0_1:Value} {v0_3:Value} {css0_4:List (List Value)} {v0_6:Value} {css0_7:List (List Value)} (hP0_2:Pt Vsearchhunt h v0_1 p1.fhunt) (hR0_5:RowF VapiStep h css0_4 p1.fsteps) (hR0_8:RowF (VI .i64) h css0_7 p1.fpart) {kind2:Int} {n3:Int} {r_0:Bool} {q_0:(List apiStep)×(List Int)} (H:prover_say p1 kind2 n3 = some (r_0,q_0)):∀ L,FnS Tryz.prog 34 [.pointer (some ⟨pb0,0,none⟩),.int .u8 kind2,.int .i64 n3] h (blk pb0 (.cells [v0_1,.int .i64 p1.fbound,v0_3,v0_6].toArray 69)::rowR 52 2 v0_3 css0_4::rowR 3 1 v0_6 css0_7::L) (fun v h' L'=>∃ vl0_1 cssl0_2 vl0_4 cssl0_5,v = .bool r_0∧L' = blk pb0 (.cells [v0_1,.int .i64 p1.fbound,vl0_1,vl0_4].toArray 69)::rowR 52 2 vl0_1 cssl0_2::rowR 3 1 vl0_4 cssl0_5::L∧RowF VapiStep h' cssl0_2 q_0.1∧RowF (VI .i64) h' cssl0_5 q_0.2):=by
 intro L
 refine FnS.enter Tryz.func34 z Tryz.ntmps34 z<|Sr<|Ag z<|Nt<|Sr<|Mv z<|Mv z<|Vv (V.nck z)<|Vv (V.fa fdsearch6_69_2 z)<|Vv (V.ldO (k:=2) shsearch6_46 z (j:=0) z z)<|Mv z<|Mv z<|Vv (V.bld (xs:=[(0,.tmp 12),(1,.tmp 13)]) (cs:=[_,_]) blsearch6_52 bosearch6_52 z (Fills.cons z z z (Fills.cons z z z Fills.nil)))<|To (O.bs elsearch6_46 zesearch6_52 z (e:=z) (hk:=z) (xs:=[.tmp 14]) (hv:=CO.eq (CO.cons z CO.nil)) (hw:=Wide.of z) (hd:=z) fun d=>have a:RowF VapiStep h [[.int .u8 kind2,.int .i64 n3]] ([(apiStep.mk kind2 n3)]:List apiStep):=(RowF.cons z RowF.nil); ?_)
 obtain ⟨f,b,H⟩:=bnd H
 refine To (O.apX elsearch6_46 elsearch6_46 zesearch6_52 z z z (j:=2) z (Src.row (j:=0) z) (Wide.of z) (RowF.ones VapiStep.plain a) hR0_5 a b z fun c n o=>have g:RowF VapiStep h (css0_4 ++ [[.int .u8 kind2,.int .i64 n3]]) f:=RowF.ap hR0_5 a b; Sl_ (rowR 52 2 c (css0_4 ++ [[.int .u8 kind2,.int .i64 n3]])::rowR 52 2 (.slice (some ⟨d,0,none⟩) 1 1) [[.int .u8 kind2,.int .i64 n3]]::blk pb0 (.cells [v0_1,.int .i64 p1.fbound,v0_3,v0_6].toArray 69)::rowR 3 1 v0_6 css0_7::L) z<|Fr_ 1 z<|T.fl ?_)
 refine T.drop<|Vv (V.nck rfl)<|Vv (V.fa fdsearch6_69_2 rfl)<|T.rowOne 0 rfl fun i m=>To (O.st (vs:=[c]) (k:=2) shsearch6_46 rfl rfl (j:=1) rfl m (by (simp only [Sl.ones,i,Bool.and_true,Bool.true_and]) <;> rfl) ?_)
 refine T.fl ?_
 refine Nt<|Sr<|Ag z<|Nt<|T.ret ?_
 obtain ⟨rfl,rfl⟩:=inj2 H
 exact T.retL Tryz.results34 (Rv z) Lr ⟨_,_,_,_,z,z,g,hR0_8⟩
theorem prover_node_ok (n:Nat):∀ {h:PH} {pb0:Nat} {p1:searchprover} {v0_1:Value} {v0_3:Value} {css0_4:List (List Value)} {v0_6:Value} {css0_7:List (List Value)} (hP0_2:Pt Vsearchhunt h v0_1 p1.fhunt) (hR0_5:RowF VapiStep h css0_4 p1.fsteps) (hR0_8:RowF (VI .i64) h css0_7 p1.fpart) {r_0:Bool} {q_0:(List apiStep)×(List Int)} (H:prover_node n p1 = some (r_0,q_0)) (L:List HProp),FnS Tryz.prog 18 [.pointer (some ⟨pb0,0,none⟩)] h (blk pb0 (.cells [v0_1,.int .i64 p1.fbound,v0_3,v0_6].toArray 69)::rowR 52 2 v0_3 css0_4::rowR 3 1 v0_6 css0_7::L) (fun v h' L'=>∃ vl0_1 cssl0_2 vl0_4 cssl0_5,v = .bool r_0∧L' = blk pb0 (.cells [v0_1,.int .i64 p1.fbound,vl0_1,vl0_4].toArray 69)::rowR 52 2 vl0_1 cssl0_2::rowR 3 1 vl0_4 cssl0_5::L∧RowF VapiStep h' cssl0_2 q_0.1∧RowF (VI .i64) h' cssl0_5 q_0.2):=by
  induction n with
  | zero => intros; rename_i H _; cases H
  | succ n self =>
    intro h pb0 p1 v0_1 v0_3 css0_4 v0_6 css0_7 hP0_2 hR0_5 hR0_8 r_0 q_0 H L
    refine FnS.enter Tryz.func18 z Tryz.ntmps18 z<|Sr<|Ag z<|Nt<|Sq<|Sq<|Fr_ 2 z<|T.fl ?_
    refine Fr_ 1 z<|T.fl ?_
    refine T.drawF (t:=(.v 0 (.v 1 (.v 2 (.v 3 (.v 4 (.v 5 (.v 6 (.v 7 (.v 8 (.v 9 (.v 10 (.alt 11 (.g (.v 12 (.v 13 (.v 14 (.alt 15 (.alt 16 .done .no) .no))))) .no))))))))))))) 18 2 2 rfl rfl search6mixed (by kernel_rfl) ?_
    refine Tm z z<|Tv z (V.nck z)<|Tv z (V.fa fdsearch6_69_0 z)<|Tv z (Val.XA fun _ _ _=>V.ldO (k:=0) shsearch6_54 z (j:=0) z z)<|have u:=hP0_2; ?_
    obtain ⟨au,_,rfl,b,⟨c,d,e,f,i,m,o,p,q,rfl,r,w,x,y,A,B,C,D,E⟩⟩:=u
    refine Tv z (V.nck z)<|Tv z (V.fa fdsearch6_60_0 z)<|Tv z (V.ldf (k:=0) shsearch6_57 z b z)<|Tm z z<|Tv z (V.nck z)<|Tv z (V.fa fdsearch6_69_3 z)<|Tv z (Val.XA fun _ _ _=>V.ldO (k:=3) shsearch6_24 z (j:=0) z z)<|Fr_ 1 z<|T.fl ?_
    obtain ⟨⟨G,I⟩,J,H⟩:=bnd H
    refine Tp z z (SX.two (XA.fr [0,1] Lr z) (XA.fr [0,1] Lr z)) (O.callS z (FnS.lend (val:=.tuple #[.int .i64 G,.bool I]) Tryz.func33 z lendR fun aw s K=>?_) z fun ax M ay a N=>?_) T.tno
    ·have P:=RowF.mono VI.mono hR0_8 s
     have S:=RowF.slc K P
     have U:=Pt.mono VruleJudge.mono r s
     exact Judge_Dead_ok U S J _
    obtain ⟨rfl,W⟩:=N
    refine Sl_ _ W<|T.tgrow a<|Tm z z<|Tv z (V.ext z z)<|Tv z (V.ext z z)<|Ts z z (SX.two (XA.fr [0,1] Lr z) (XA.fr [0,1] Lr z)) (V.asg z) z ?_ T.tno
    refine Ts z z (SX.two (XA.fr [0,1] Lr z) (XA.fr [0,1] Lr z)) (V.asg z) z ?_ T.tno
    refine T.tnil (SX.two (XA.fr [0,1] Lr z) (XA.fr [0,1] Lr z))<|Th<|Sr<|Mv z<|Nt<|T.cH H z (fun H=>?_) (fun H=>?_)
    ·refine Sr<|Mv z<|Mv z<|have X:=b.mono a; have Y:=Pt.mono VruleJudge.mono r a; have Z:=Slc.mono VapiTable.mono w a; have aa:=Slc.mono VapiGuest.mono x a; have ab:=Slc.mono VapiTie.mono y a; have ac:=Slc.mono VI.mono A a; have ad:=Slc.mono VapiRule.mono B a; have ae:=Slc.mono VI.mono C a; have af:=Slc.mono VI.mono D a; have ag:=Slc.mono (VSl.mono (VSl.mono VI.mono)) E a; have ai:=RowF.mono VapiStep.mono hR0_5 a; have aj:=RowF.mono VI.mono hR0_8 a; Fr_ 2 z<|T.fl ?_
     refine Fr_ 2 z<|T.fl ?_
     obtain ⟨⟨aA,aB⟩,ak,H⟩:=bnd H
     refine To (O.callS z (prover_say_ok (p1:=(searchprover.mk p1.fhunt p1.fbound p1.fsteps p1.fpart)) (Pt.mk X (show Vsearchhunt M [c,d,e,f,i,m,o,p,q] p1.fhunt from ⟨c,d,e,f,i,m,o,p,q,z,Y,Z,aa,ab,ac,ad,ae,af,ag⟩)) ai aj ak _) z fun aC aD aE am an=>?_)
     obtain ⟨aG,aI,aJ,aK,rfl,ao,ap,aq⟩:=an
     refine Sl_ _ ao<|Ag z<|Nt<|T.ret<|Tr ?_
     obtain ⟨rfl,rfl⟩:=inj2 H
     have ar:=(a.trans am)
     exact T.retL Tryz.results18 (Rv z) ar ⟨_,_,_,_,z,z,ap,aq⟩
    exact dead H
theorem search_Prove_ok {h:PH} {pc0:List Value} {p1:apiProblem} (pr0:VapiProblem h pc0 p1) {bound12:Int} {r_0:List apiStep} {r_1:Int} (H:search_Prove p1 bound12 = some (r_0,r_1)):∀ L,FnS Tryz.prog 9 [.agg pc0.toArray,.int .i64 bound12] h (L) (fun v h' L'=>∃ w0 cs0,v = .tuple #[w0,.int .i64 r_1]∧L' = rowR 52 2 w0 cs0::L∧RowF VapiStep h' cs0 r_0):=by
 intro L
 obtain ⟨b,c,d,e,f,rfl,n,o,p,q,r⟩:=pr0
 refine FnS.enter Tryz.func9 rfl Tryz.ntmps9 rfl<|Sr<|To (O.boxF rfl rfl rfl fun ae s a t=>Ag z<|Ag z<|Nt<|Sr<|Vv (V.ldS rfl t (by exact shsearch6_32)) ?_)
 have u:=Slc.mono VapiTable.mono n a
 have w:=Slc.mono VapiGuest.mono o a
 have x:=Slc.mono VapiTie.mono p a
 have y:=Slc.mono VI.mono q a
 have A:=Slc.mono VapiRule.mono r a
 obtain ⟨⟨af,ag⟩,B,H⟩:=bnd H
 refine To (O.callS z (search_begin_ok (show VapiProblem s [b,c,d,e,f] p1 from ⟨b,c,d,e,f,z,u,w,x,y,A⟩) B _) z fun ai aj ak C D=>?_)
 obtain ⟨am,rfl,E,G⟩:=D
 refine Sl_ _ E<|Mv z<|Vv (V.ext z z)<|Vv (V.ext z z)<|Ag z<|Ag z<|Nt<|Sq<|Sr<|Mv z<|Vv (V.ne z z)<|Nt<|T.cH H z (fun H=>?_) (fun H=>?_)
 ·exact dead H
 refine T.skip<|Th<|Sr<|Mv z<|Mv z<|Mv z ?_
 obtain ⟨I,J,H⟩:=bnd H
 have g:=OPt.get G J
 obtain ⟨K,M,H⟩:=bnd H
 refine To (O.callS z (hunt_nobody_ok g M _) z fun an N ao i P=>?_)
 obtain ⟨ap,S,U⟩:=P
 refine Sl_ _ S<|T.rowOne 0 z fun aq W=>have m:=Pt.mono Vsearchhunt.mono g i; Vv (V.bld (xs:=[(0,.tmp 17),(1,.tmp 18),(3,.tmp 20)]) (cs:=[_,_,_,_]) blsearch6_69 bosearch6_69 z (Fills.cons z (Pt.cells m) z (Fills.cons z z z (Fills.cons z W z Fills.nil))))<|To (O.box z z z fun ar=>Ag z<|Nt<|Sq<|Sr<|Mv z<|T.rowNil 52 2<|have X:RowF VapiStep N [] ([]:List apiStep):=RowF.nil; Fr_ 2 z<|T.fl ?_)
 refine Fr_ 1 z<|T.fl ?_
 refine Fr_ 2 z<|T.fl ?_
 obtain ⟨⟨au,aw⟩,Y,H⟩:=bnd H
 refine To (O.callS z (prover_node_ok _ (p1:=(searchprover.mk I bound12 ([]:List apiStep) K)) m X U Y _) z fun ax ay aA Z aa=>?_)
 obtain ⟨aB,aC,aD,aE,rfl,ab,ac,aG⟩:=aa
 refine Sl_ _ ab<|Vv (V.not z)<|Nt<|T.cH H z (fun H=>?_) (fun H=>?_)
 ·exact dead H
 refine T.skip<|Th<|Sr<|Mv z<|Vv (V.nck z)<|Vv (V.fa fdsearch6_69_2 z)<|Vv (V.ldO (k:=2) shsearch6_46 z (j:=0) z z)<|Ag z<|Ag z<|Nt<|T.ret<|T.drop<|Fr_ 1 z<|T.drop ?_
 obtain ⟨rfl,rfl⟩:=inj2 H
 have ad:=(((a.trans C).trans i).trans Z)
 exact T.retL Tryz.results9 (RVs.cons (RV.tmp z) (Rv z)) ad ⟨_,_,z,z,ac⟩
end Go.Proofs.X
open Go Go.Proofs Go.Sl Go.Dm
namespace Go.Proofs.X
theorem smallmixed : Tryz.prog.follows .mixedOrders = true := by kernel_rfl
theorem blsmall_26 : bldSh Tryz.prog 26 = some ([.string ⟨#[]⟩, .int .u8 (0), .int .i64 (0), .int .i64 (0), .slice none 0 0, .int .i64 (0), .int .i64 (0)], [(0, 1), (1, 1), (2, 1), (3, 1), (4, 1), (5, 1), (6, 1)]) := by kernel_rfl
theorem blsmall_32 : bldSh Tryz.prog 32 = some ([.slice none 0 0, .slice none 0 0, .slice none 0 0, .slice none 0 0, .slice none 0 0], [(0, 1), (1, 1), (2, 1), (3, 1), (4, 1)]) := by kernel_rfl
theorem blsmall_38 : bldSh Tryz.prog 38 = some ([.string ⟨#[]⟩, .string ⟨#[]⟩, .string ⟨#[]⟩, .int .i64 (0), .int .i64 (0), .string ⟨#[]⟩, .bool false, .bool false, .slice none 0 0], [(0, 1), (1, 1), (2, 1), (3, 1), (4, 1), (5, 1), (6, 1), (7, 1), (8, 1)]) := by kernel_rfl
theorem blsmall_41 : bldSh Tryz.prog 41 = some ([.int .u8 (0), .int .i64 (0), .string ⟨#[]⟩, .string ⟨#[]⟩, .string ⟨#[]⟩, .int .i64 (0)], [(0, 1), (1, 1), (2, 1), (3, 1), (4, 1), (5, 1)]) := by kernel_rfl
theorem blsmall_52 : bldSh Tryz.prog 52 = some ([.int .u8 (0), .int .i64 (0)], [(0, 1), (1, 1)]) := by kernel_rfl
theorem blsmall_92 : bldSh Tryz.prog 92 = some ([.int .i64 (0), .int .i64 (0), .int .i64 (0)], [(0, 1), (1, 1), (2, 1)]) := by kernel_rfl
theorem bosmall_26 : fieldsOK Tryz.prog 26 = true := by kernel_rfl
theorem bosmall_32 : fieldsOK Tryz.prog 32 = true := by kernel_rfl
theorem bosmall_38 : fieldsOK Tryz.prog 38 = true := by kernel_rfl
theorem bosmall_41 : fieldsOK Tryz.prog 41 = true := by kernel_rfl
theorem bosmall_52 : fieldsOK Tryz.prog 52 = true := by kernel_rfl
theorem bosmall_92 : fieldsOK Tryz.prog 92 = true := by kernel_rfl
theorem elsmall_22 : elSh Tryz.prog 22 = some (9, 1, 16) := by kernel_rfl
theorem elsmall_24 : elSh Tryz.prog 24 = some (3, 1, 8) := by kernel_rfl
theorem elsmall_27 : elSh Tryz.prog 27 = some (26, 7, 80) := by kernel_rfl
theorem elsmall_28 : elSh Tryz.prog 28 = some (38, 9, 112) := by kernel_rfl
theorem elsmall_30 : elSh Tryz.prog 30 = some (41, 6, 72) := by kernel_rfl
theorem elsmall_46 : elSh Tryz.prog 46 = some (52, 2, 16) := by kernel_rfl
theorem elsmall_80 : elSh Tryz.prog 80 = some (92, 3, 24) := by kernel_rfl
theorem elsmall_87 : elSh Tryz.prog 87 = some (24, 1, 24) := by kernel_rfl
theorem fdsmall_32_1 : fldOf Tryz.prog 32 1 = some 1 := by kernel_rfl
theorem fdsmall_52_1 : fldOf Tryz.prog 52 1 = some 1 := by kernel_rfl
theorem fdsmall_84_0 : fldOf Tryz.prog 84 0 = some 0 := by kernel_rfl
theorem fdsmall_84_1 : fldOf Tryz.prog 84 1 = some 1 := by kernel_rfl
theorem shsmall_24 : tySh Tryz.prog 24 = some (false, 1) := by kernel_rfl
theorem shsmall_28 : tySh Tryz.prog 28 = some (false, 1) := by kernel_rfl
theorem shsmall_3 : tySh Tryz.prog 3 = some (false, 1) := by kernel_rfl
theorem shsmall_32 : tySh Tryz.prog 32 = some (true, 5) := by kernel_rfl
theorem shsmall_84 : tySh Tryz.prog 84 = some (true, 2) := by kernel_rfl
theorem shsmall_9 : tySh Tryz.prog 9 = some (false, 1) := by kernel_rfl
theorem shsmall_92 : tySh Tryz.prog 92 = some (true, 3) := by kernel_rfl
theorem zesmall_24 : zer Tryz.prog 24 = some (.slice none 0 0) := by kernel_rfl
theorem zesmall_26 : zer Tryz.prog 26 = some (.agg #[.string ⟨#[]⟩, .int .u8 (0), .int .i64 (0), .int .i64 (0), .slice none 0 0, .int .i64 (0), .int .i64 (0)]) := by kernel_rfl
theorem zesmall_3 : zer Tryz.prog 3 = some (.int .i64 (0)) := by kernel_rfl
theorem zesmall_32 : zer Tryz.prog 32 = some (.agg #[.slice none 0 0, .slice none 0 0, .slice none 0 0, .slice none 0 0, .slice none 0 0]) := by kernel_rfl
theorem zesmall_38 : zer Tryz.prog 38 = some (.agg #[.string ⟨#[]⟩, .string ⟨#[]⟩, .string ⟨#[]⟩, .int .i64 (0), .int .i64 (0), .string ⟨#[]⟩, .bool false, .bool false, .slice none 0 0]) := by kernel_rfl
theorem zesmall_41 : zer Tryz.prog 41 = some (.agg #[.int .u8 (0), .int .i64 (0), .string ⟨#[]⟩, .string ⟨#[]⟩, .string ⟨#[]⟩, .int .i64 (0)]) := by kernel_rfl
theorem zesmall_52 : zer Tryz.prog 52 = some (.agg #[.int .u8 (0), .int .i64 (0)]) := by kernel_rfl
theorem zesmall_84 : zer Tryz.prog 84 = some (.agg #[.slice none 0 0, .int .i64 (0)]) := by kernel_rfl
theorem zesmall_9 : zer Tryz.prog 9 = some (.string ⟨#[]⟩) := by kernel_rfl
theorem stsmall_92 : stSh Tryz.prog 92 = some [(0, .i .i64), (1, .i .i64), (2, .i .i64)] := by kernel_rfl
theorem kit_SameInts_ok {h:PH} {pv0:Value} {a1:List Int} (pr0:Slc (VI .i64) 1 h pv0 a1) {pv1:Value} {b2:List Int} (pr1:Slc (VI .i64) 1 h pv1 b2) {r_0:Bool} (H:kit_SameInts a1 b2 = some r_0):∀ L,FnS Tryz.prog 28 [pv0,pv1] h (L) (fun v h' L'=>v = .bool r_0∧L' = L):=by
 intro L
 refine FnS.enter Tryz.func28 z Tryz.ntmps28 z<|Sr<|Ag z<|Nt<|Sq<|Sr<|Mv z<|Vv (V.lenS elsmall_24 z pr0)<|Mv z<|Vv (V.lenS elsmall_24 z pr1)<|Vv (V.ne z z)<|Nt<|T.cH H z (fun H=>?_) (fun H=>?_)
 ·exact dead H
 refine T.skip<|Th<|Sq<|Sr<|Ag z<|Nt ?_
 obtain ⟨e,k,m⟩:=bndK H
 refine T.cutK (α:=Unit) [] z (fun _u=>[]) (fun _u=>L) (fun _u hh=>e = ()) ?_ ?_
 ·have H:=k
  refine Bl<|T.loopK (α:=Nat×Int) [0,1] z (fun ⟨a,b⟩=>[(5,.int .i64 b)]) (fun ⟨a,b⟩=>L) (fun ⟨a,b⟩ hh=>iter (kit_SameInts_l0 a1 b2) a b = some e) (fun ⟨a,b⟩=>a) (FUEL,(0:Int)) ⟨z,trivial⟩ z H ?_
  rintro ⟨a,b⟩ x c n
  obtain ⟨o,y,rfl,H,f⟩:=iter_go n
  refine T.norm [5,0,1] z<|Sl_ (L) z<|Sq<|Sr<|Mv z<|Mv z<|have d:=Slc.mono VI.mono pr0 c; Vv (V.lenS elsmall_24 z d)<|Vv (V.lt z z)<|Nt<|T.cH H z (fun H=>?_) (fun H=>?_)
  ·refine T.skip<|Th<|Sq<|Bl<|Sq<|T.drawF (t:=(.v 0 (.v 1 (.v 2 (.v 3 (.v 4 (.v 5 (.v 6 (.v 7 (.v 8 .done)))))))))) 10 0 0 rfl rfl smallmixed (by kernel_rfl) ?_
   refine Tm z z<|Tm z z ?_
   obtain ⟨A,g,H⟩:=bnd H
   obtain ⟨B,p,rfl⟩:=Slc.at d g
   refine Tv z (V.ix elsmall_24 z z d (getI_bd g))<|Tv z (V.ld0 shsmall_3 z p z)<|Tm z z<|Tm z z ?_
   obtain ⟨C,i,H⟩:=bnd H
   have j:=Slc.mono VI.mono pr1 c
   obtain ⟨D,q,rfl⟩:=Slc.at j i
   refine Tv z (V.ix elsmall_24 z z j (getI_bd i))<|Tv z (V.ld0 shsmall_3 z q z)<|Tv z (V.ne z z)<|T.tnil (SX.two (XA.fr [] Lr z) (XA.fr [] Lr z))<|Th<|T.cH H z (fun H=>?_) (fun H=>?_)
   ·exact dead H
   refine T.skip<|Bn<|Th<|Rg<|Mv z ?_
   obtain ⟨r,s,H⟩:=bnd H
   refine Vv (V.addS z z s)<|Ag z<|Nt<|T.again (o,r) c (Nat.lt_succ_self _) (iterK_in H f) (AllIn.app ⟨z,trivial⟩ ⟨z,z,trivial⟩) z
  refine T.exit<|Te<|Te<|have H:=iterK_out H f; Be<|Th<|T.met () c H (AllIn.app trivial trivial) z
 rintro _ E u w
 have H:=cutE w m
 refine T.norm [] z<|Sl_ (L) z<|Sr<|Ag z<|Nt<|T.ret ?_
 obtain rfl:=Option.some.inj H
 exact T.retL Tryz.results28 (Rv z) u ⟨z,z⟩
theorem kit_SameLists_ok {h:PH} {pv0:Value} {a1:List (List Int)} (pr0:Slc (VSl (VI .i64) 1) 1 h pv0 a1) {pv1:Value} {b2:List (List Int)} (pr1:Slc (VSl (VI .i64) 1) 1 h pv1 b2) {r_0:Bool} (H:kit_SameLists a1 b2 = some r_0):∀ L,FnS Tryz.prog 29 [pv0,pv1] h (L) (fun v h' L'=>v = .bool r_0∧L' = L):=by
 intro L
 refine FnS.enter Tryz.func29 z Tryz.ntmps29 z<|Sr<|Ag z<|Nt<|Sq<|Sr<|Mv z<|Vv (V.lenS elsmall_87 z pr0)<|Mv z<|Vv (V.lenS elsmall_87 z pr1)<|Vv (V.ne z z)<|Nt<|T.cH H z (fun H=>?_) (fun H=>?_)
 ·exact dead H
 refine T.skip<|Th<|Sq<|Sr<|Ag z<|Nt ?_
 obtain ⟨e,n,o⟩:=bndK H
 refine T.cutK (α:=Unit) [] z (fun _u=>[]) (fun _u=>L) (fun _u hh=>e = ()) ?_ ?_
 ·have H:=n
  refine Bl<|T.loopK (α:=Nat×Int) [0,1] z (fun ⟨a,b⟩=>[(5,.int .i64 b)]) (fun ⟨a,b⟩=>L) (fun ⟨a,b⟩ hh=>iter (kit_SameLists_l0 a1 b2) a b = some e) (fun ⟨a,b⟩=>a) (FUEL,(0:Int)) ⟨z,trivial⟩ z H ?_
  rintro ⟨a,b⟩ I c p
  obtain ⟨q,J,rfl,H,f⟩:=iter_go p
  refine T.norm [5,0,1] z<|Sl_ (L) z<|Sq<|Sr<|Mv z<|Mv z<|have d:=Slc.mono (VSl.mono VI.mono) pr0 c; Vv (V.lenS elsmall_87 z d)<|Vv (V.lt z z)<|Nt<|T.cH H z (fun H=>?_) (fun H=>?_)
  ·refine T.skip<|Th<|Sq<|Bl<|Sq<|T.drawF (t:=(.v 0 (.v 1 (.v 2 (.v 3 (.v 4 (.v 5 (.v 6 (.v 7 (.alt 8 (.g (.v 9 .done)) .no)))))))))) 11 0 0 rfl rfl smallmixed (by kernel_rfl) ?_
   refine Tm z z<|Tm z z ?_
   obtain ⟨K,i,H⟩:=bnd H
   obtain ⟨M,r,⟨N,rfl,s⟩⟩:=Slc.at d i
   refine Tv z (V.ix elsmall_87 z z d (getI_bd i))<|Tv z (V.ld0 shsmall_24 z r z)<|Tm z z<|Tm z z ?_
   obtain ⟨P,j,H⟩:=bnd H
   have k:=Slc.mono (VSl.mono VI.mono) pr1 c
   obtain ⟨S,u,⟨U,rfl,w⟩⟩:=Slc.at k j
   refine Tv z (V.ix elsmall_87 z z k (getI_bd j))<|Tv z (V.ld0 shsmall_24 z u z) ?_
   obtain ⟨W,x,H⟩:=bnd H
   refine Tp z z (SX.two (XA.fr [] Lr z) (XA.fr [] Lr z)) (O.callS z (kit_SameInts_ok s w x _) z fun X Y Z m y=>?_) T.tno
   obtain ⟨rfl,A⟩:=y
   refine Sl_ _ A<|T.tgrow m<|Tv z (V.not z)<|T.tnil (SX.two (XA.fr [] Lr z) (XA.fr [] Lr z))<|Th<|T.cH H z (fun H=>?_) (fun H=>?_)
   ·exact dead H
   refine T.skip<|Bn<|Th<|Rg<|Mv z ?_
   obtain ⟨B,C,H⟩:=bnd H
   refine Vv (V.addS z z C)<|Ag z<|Nt<|have D:=(c.trans m); T.again (q,B) D (Nat.lt_succ_self _) (iterK_in H f) (AllIn.app ⟨z,trivial⟩ ⟨z,z,trivial⟩) z
  refine T.exit<|Te<|Te<|have H:=iterK_out H f; Be<|Th<|T.met () c H (AllIn.app trivial trivial) z
 rintro _ aa E G
 have H:=cutE G o
 refine T.norm [] z<|Sl_ (L) z<|Sr<|Ag z<|Nt<|T.ret ?_
 obtain rfl:=Option.some.inj H
 exact T.retL Tryz.results29 (Rv z) E ⟨z,z⟩
theorem ref06_Work_ok {h:PH} {free1:Int} {guests2:Int} {r_0:Int} (H:ref06_Work free1 guests2 = some r_0):∀ L,FnS Tryz.prog 5 [.int .i64 free1,.int .i64 guests2] h (L) (fun v h' L'=>v = .int .i64 r_0∧L' = L):=by
 intro L
 refine FnS.enter Tryz.func5 z Tryz.ntmps5 z<|Sr<|Ag z<|Nt<|Sr<|Ag z<|Nt<|Sq<|Sr<|Ag z<|Nt ?_
 obtain ⟨e,i,j⟩:=bndK H
 refine T.cutK (α:=Int) [] z (fun d=>[(5,.int .i64 d)]) (fun d=>L) (fun d hh=>e = d) ?_ ?_
 ·have H:=i
  refine Bl<|T.loopK (α:=Nat×Int×Int) [0,1] z (fun ⟨b,a,c⟩=>[(5,.int .i64 a),(6,.int .i64 c)]) (fun ⟨b,a,c⟩=>L) (fun ⟨b,a,c⟩ hh=>iter (ref06_Work_l0 free1 guests2) b (a,c) = some e) (fun ⟨b,a,c⟩=>b) (FUEL,(1:Int),(0:Int)) ⟨z,z,trivial⟩ z H ?_
  rintro ⟨b,a,c⟩ u f k
  obtain ⟨m,w,rfl,H,g⟩:=iter_go k
  refine T.norm [5,6,0,1] z<|Sl_ (L) z<|Sq<|Sr<|Mv z<|Mv z<|Vv (V.lt z z)<|Nt<|T.cH H z (fun H=>?_) (fun H=>?_)
  ·refine T.skip<|Th<|Sq<|Bl<|Rg<|Mv z<|Mv z<|Mv z ?_
   obtain ⟨x,n,H⟩:=bnd H
   refine Vv (V.subS z z n) ?_
   obtain ⟨o,p,H⟩:=bnd H
   refine Vv (V.mulS z z p)<|Vv (V.min2 z z)<|Ag z<|Ni<|Bn<|Th<|Rg<|Mv z ?_
   obtain ⟨q,r,H⟩:=bnd H
   refine Vv (V.addS z z r)<|Ag z<|Nt<|T.again (m,(min o (20001:Int)),q) f (Nat.lt_succ_self _) (iterK_in H g) (AllIn.app ⟨z,z,trivial⟩ ⟨z,z,trivial⟩) z
  refine T.exit<|Te<|Te<|have H:=iterK_out H g; Be<|Th<|T.met a f H (AllIn.app ⟨z,trivial⟩ trivial) z
 rintro d y s t
 have H:=cutE t j
 refine T.norm [5] z<|Sl_ (L) z<|Sr<|Mv z<|Ag z<|Nt<|T.ret ?_
 obtain rfl:=Option.some.inj H
 exact T.retL Tryz.results5 (Rv z) s ⟨z,z⟩
theorem ref06_Tree_ok {h:PH} {seats1:Int} {guests2:Int} {r_0:Int} (H:ref06_Tree seats1 guests2 = some r_0):∀ L,FnS Tryz.prog 6 [.int .i64 seats1,.int .i64 guests2] h (L) (fun v h' L'=>v = .int .i64 r_0∧L' = L):=by
 intro L
 refine FnS.enter Tryz.func6 z Tryz.ntmps6 z<|Sr<|Ag z<|Nt<|Sr<|Ag z<|Nt<|Sq<|Sr<|Ag z<|Nt ?_
 obtain ⟨e,i,j⟩:=bndK H
 refine T.cutK (α:=Int) [] z (fun d=>[(5,.int .i64 d)]) (fun d=>L) (fun d hh=>e = d) ?_ ?_
 ·have H:=i
  refine Bl<|T.loopK (α:=Nat×Int×Int) [0,1] z (fun ⟨b,a,c⟩=>[(5,.int .i64 a),(6,.int .i64 c)]) (fun ⟨b,a,c⟩=>L) (fun ⟨b,a,c⟩ hh=>iter (ref06_Tree_l0 seats1 guests2) b (a,c) = some e) (fun ⟨b,a,c⟩=>b) (FUEL,(0:Int),(0:Int)) ⟨z,z,trivial⟩ z H ?_
  rintro ⟨b,a,c⟩ A f k
  obtain ⟨m,B,rfl,H,g⟩:=iter_go k
  refine T.norm [5,6,0,1] z<|Sl_ (L) z<|Sq<|Sr<|Mv z<|Mv z<|Vv (V.le z z)<|Nt<|T.cH H z (fun H=>?_) (fun H=>?_)
  ·refine T.skip<|Th<|Sq<|Bl<|Rg<|Mv z<|Mv z<|Mv z ?_
   obtain ⟨C,n,H⟩:=bnd H
   refine To (O.callS z (ref06_Work_ok n _) z fun D E G o p=>?_)
   obtain ⟨rfl,q⟩:=p
   refine Sl_ _ q ?_
   obtain ⟨r,s,H⟩:=bnd H
   refine Vv (V.addS z z s)<|Ag z<|Ni<|Bn<|Th<|Rg<|Mv z ?_
   obtain ⟨t,u,H⟩:=bnd H
   refine Vv (V.addS z z u)<|Ag z<|Nt<|have w:=(f.trans o); T.again (m,r,t) w (Nat.lt_succ_self _) (iterK_in H g) (AllIn.app ⟨z,z,trivial⟩ ⟨z,z,trivial⟩) z
  refine T.exit<|Te<|Te<|have H:=iterK_out H g; Be<|Th<|T.met a f H (AllIn.app ⟨z,trivial⟩ trivial) z
 rintro d I x y
 have H:=cutE y j
 refine T.norm [5] z<|Sl_ (L) z<|Sr<|Mv z<|Ag z<|Nt<|T.ret ?_
 obtain rfl:=Option.some.inj H
 exact T.retL Tryz.results6 (Rv z) x ⟨z,z⟩
theorem law06_three_ok {h:PH} {pv0:Value} {rules1:List apiRule} (pr0:Slc VapiRule 6 h pv0 rules1) {r_0:apiProblem} (H:law06_three rules1 = some r_0):∀ L,FnS Tryz.prog 23 [pv0] h (L) (fun v h' L'=>∃ v0_1 v0_3 v0_5 v0_7 v0_9,v = .agg #[v0_1,v0_3,v0_5,v0_7,v0_9]∧L' = L∧Slc VapiTable 7 h' v0_1 r_0.fTables∧Slc VapiGuest 9 h' v0_3 r_0.fGuests∧Slc VapiTie 3 h' v0_5 r_0.fTies∧Slc (VI .i64) 1 h' v0_7 r_0.fClass∧Slc VapiRule 6 h' v0_9 r_0.fRules):=by
 intro L
 refine FnS.enter Tryz.func23 z Tryz.ntmps23 z<|Sr<|To (O.alloc zesmall_32 z z fun E=>Nt<|Sr<|Vv (V.bld (xs:=[(0,.const (.string ⟨#[114]⟩)),(1,.const (.int .u8 (1))),(2,.const (.int .i64 (4)))]) (cs:=[_,_,_,_,_,_,_]) blsmall_26 bosmall_26 z (Fills.cons z z z (Fills.cons z z z (Fills.cons z z z Fills.nil))))<|To (O.bs elsmall_27 zesmall_26 z (e:=z) (hk:=z) (xs:=[.tmp 3]) (hv:=CO.eq (CO.cons z CO.nil)) (hw:=Wide.of z) (hd:=z) fun k=>have m:RowF VapiTable h [[.string (⟨#[114]⟩:ByteArray),.int .u8 (1:Int),.int .i64 (4:Int),.int .i64 (0:Int),.slice none 0 0,.int .i64 (0:Int),.int .i64 (0:Int)]] ([(apiTable.mk (⟨#[114]⟩:ByteArray) (1:Int) (4:Int) (0:Int) ([]:List Int) (0:Int) (0:Int))]:List apiTable):=(RowF.cons ⟨(.slice none 0 0),z,Slc.nil⟩ RowF.nil); Vv (V.bld (xs:=[(0,.const (.string ⟨#[97,110,110,97]⟩))]) (cs:=[_,_,_,_,_,_,_,_,_]) blsmall_38 bosmall_38 z (Fills.cons z z z Fills.nil))<|Vv (V.bld (xs:=[(0,.const (.string ⟨#[98,111,114,105,115]⟩))]) (cs:=[_,_,_,_,_,_,_,_,_]) blsmall_38 bosmall_38 z (Fills.cons z z z Fills.nil))<|Vv (V.bld (xs:=[(0,.const (.string ⟨#[99,97,114,108]⟩))]) (cs:=[_,_,_,_,_,_,_,_,_]) blsmall_38 bosmall_38 z (Fills.cons z z z Fills.nil))<|To (O.bs elsmall_28 zesmall_38 z (e:=z) (hk:=z) (xs:=[.tmp 5,.tmp 6,.tmp 7]) (hv:=CO.eq (CO.cons z (CO.cons z (CO.cons z CO.nil)))) (hw:=Wide.of z) (hd:=z) fun n=>have o:RowF VapiGuest h [[.string (⟨#[97,110,110,97]⟩:ByteArray),.string (⟨#[]⟩:ByteArray),.string (⟨#[]⟩:ByteArray),.int .i64 (0:Int),.int .i64 (0:Int),.string (⟨#[]⟩:ByteArray),.bool false,.bool false,.slice none 0 0],[.string (⟨#[98,111,114,105,115]⟩:ByteArray),.string (⟨#[]⟩:ByteArray),.string (⟨#[]⟩:ByteArray),.int .i64 (0:Int),.int .i64 (0:Int),.string (⟨#[]⟩:ByteArray),.bool false,.bool false,.slice none 0 0],[.string (⟨#[99,97,114,108]⟩:ByteArray),.string (⟨#[]⟩:ByteArray),.string (⟨#[]⟩:ByteArray),.int .i64 (0:Int),.int .i64 (0:Int),.string (⟨#[]⟩:ByteArray),.bool false,.bool false,.slice none 0 0]] ([(apiGuest.mk (⟨#[97,110,110,97]⟩:ByteArray) (⟨#[]⟩:ByteArray) (⟨#[]⟩:ByteArray) (0:Int) (0:Int) (⟨#[]⟩:ByteArray) false false ([]:List ByteArray)),(apiGuest.mk (⟨#[98,111,114,105,115]⟩:ByteArray) (⟨#[]⟩:ByteArray) (⟨#[]⟩:ByteArray) (0:Int) (0:Int) (⟨#[]⟩:ByteArray) false false ([]:List ByteArray)),(apiGuest.mk (⟨#[99,97,114,108]⟩:ByteArray) (⟨#[]⟩:ByteArray) (⟨#[]⟩:ByteArray) (0:Int) (0:Int) (⟨#[]⟩:ByteArray) false false ([]:List ByteArray))]:List apiGuest):=(RowF.cons ⟨(.slice none 0 0),z,Slc.nil⟩ (RowF.cons ⟨(.slice none 0 0),z,Slc.nil⟩ (RowF.cons ⟨(.slice none 0 0),z,Slc.nil⟩ RowF.nil))); Mv z<|T.rowOne 0 z fun G p=>T.rowOne 1 z fun I q=>Vv (V.bld (xs:=[(0,.tmp 4),(1,.tmp 8),(4,.tmp 9)]) (cs:=[_,_,_,_,_]) blsmall_32 bosmall_32 z (Fills.cons z q z (Fills.cons z p z (Fills.cons z (Slc.cells pr0) z Fills.nil))))<|Fr_ 1 z<|T.fl ?_)))
 refine T.rowFix fun J c r=>have s:=RowF.mono VapiTable.mono m c; have t:=RowF.slc r s; T.rowFix fun K d u=>have b:=(c.trans d); have w:=RowF.mono VapiGuest.mono o b; have f:=RowF.slc u w; have g:=Slc.mono VapiTable.mono t d; have i:=Slc.mono VapiRule.mono pr0 b; To (O.stF (vs:=[(.slice (some ⟨k,0,none⟩) 1 1),(.slice (some ⟨n,0,none⟩) 3 3),.slice none 0 0,.slice none 0 0,pv0]) shsmall_32 rfl rfl (j:=0) rfl rfl (by (simp only [Sl.ones,Slc.one g,Slc.one f,Slc.one i,Bool.and_true,Bool.true_and]) <;> rfl) rfl ?_)
 refine T.freeze fun M a x=>have y:=AtC.of x; Nt<|T.ret<|have A:=Slc.mono VapiTable.mono g a; have B:=Slc.mono VapiGuest.mono f a; have C:=Slc.mono VapiRule.mono i a; ?_
 obtain rfl:=Option.some.inj H
 have D:=(b.trans a)
 exact T.retL Tryz.results23 (RVs.cons (RV.cellA z y shsmall_32) RVs.nil) D ⟨_,_,_,_,_,z,z,A,B,Slc.nil,Slc.nil,C⟩
theorem law06_awake_ok {h:PH}  {r_0:Bool} (H:law06_awake  = some r_0):∀ L,FnS Tryz.prog 11 [] h (L) (fun v h' L'=>v = .bool r_0∧L' = L):=by
 intro L
 refine FnS.enter Tryz.func11 z Tryz.ntmps11 z<|Sr<|Ag z<|Nt<|Sr<|Vv (V.bld (xs:=[(0,.const (.int .u8 (1))),(2,.const (.string ⟨#[97,110,110,97]⟩)),(3,.const (.string ⟨#[98,111,114,105,115]⟩)),(5,.const (.int .i64 (2)))]) (cs:=[_,_,_,_,_,_]) blsmall_41 bosmall_41 z (Fills.cons z z z (Fills.cons z z z (Fills.cons z z z (Fills.cons z z z Fills.nil)))))<|To (O.bs elsmall_30 zesmall_41 z (e:=z) (hk:=z) (xs:=[.tmp 20]) (hv:=CO.eq (CO.cons z CO.nil)) (hw:=Wide.of z) (hd:=z) fun ev=>have bP:RowF VapiRule h [[.int .u8 (1:Int),.int .i64 (0:Int),.string (⟨#[97,110,110,97]⟩:ByteArray),.string (⟨#[98,111,114,105,115]⟩:ByteArray),.string (⟨#[]⟩:ByteArray),.int .i64 (2:Int)]] ([(apiRule.mk (1:Int) (0:Int) (⟨#[97,110,110,97]⟩:ByteArray) (⟨#[98,111,114,105,115]⟩:ByteArray) (⟨#[]⟩:ByteArray) (2:Int))]:List apiRule):=(RowF.cons z RowF.nil); T.rowFix fun ez ar bS=>have bU:=RowF.mono VapiRule.mono bP ar; have bV:=RowF.slc bS bU; ?_)
 obtain ⟨G,bW,H⟩:=bnd H
 refine To (O.callS z (law06_three_ok bV bW _) z fun fb fc fd bX bY=>?_)
 obtain ⟨a,b,c,d,f,rfl,bZ,au,aw,ax,ay,aA⟩:=bY
 refine Sl_ _ bZ<|To (O.alloc zesmall_32 rfl rfl fun fe=>To (O.stF (vs:=[a,b,c,d,f]) shsmall_32 rfl rfl (j:=0) rfl rfl (by (simp only [Sl.ones,Slc.one au,Slc.one aw,Slc.one ax,Slc.one ay,Slc.one aA,Bool.and_true,Bool.true_and]) <;> rfl) rfl ?_))
 refine T.freeze fun b0 y b1=>have aB:=AtC.of b1; Nt<|Sr<|Vv (V.ldS rfl aB (by exact shsmall_32)) ?_
 have aC:=Slc.mono VapiTable.mono au y
 have aD:=Slc.mono VapiGuest.mono aw y
 have aE:=Slc.mono VapiTie.mono ax y
 have aG:=Slc.mono VI.mono ay y
 have aI:=Slc.mono VapiRule.mono aA y
 obtain ⟨⟨ff,fg,fi⟩,b2,H⟩:=bnd H
 refine To (O.callS z (search_Count_ok (show VapiProblem b0 [a,b,c,d,f] G from ⟨a,b,c,d,f,z,aC,aD,aE,aG,aI⟩) b2 _) z fun fj b3 fk u b4=>?_)
 obtain ⟨rfl,b5⟩:=b4
 refine Sl_ _ b5<|Mv z<|Vv (V.ext rfl rfl)<|Vv (V.ext rfl rfl)<|Vv (V.ext rfl rfl)<|Ag z<|Ag z<|Ag z<|Nt<|Sr<|have aJ:=aB.mono u; Vv (V.ldS rfl aJ (by exact shsmall_32)) ?_
 have aa:=Slc.mono VapiTable.mono aC u
 have ab:=Slc.mono VapiGuest.mono aD u
 have ac:=Slc.mono VapiTie.mono aE u
 have ad:=Slc.mono VI.mono aG u
 have ae:=Slc.mono VapiRule.mono aI u
 obtain ⟨⟨fm,fn⟩,b6,H⟩:=bnd H
 refine To (O.callS z (search_Tree_ok (show VapiProblem b3 [a,b,c,d,f] G from ⟨a,b,c,d,f,z,aa,ab,ac,ad,ae⟩) b6 _) z fun fo b7 fp I b8=>?_)
 obtain ⟨rfl,b9⟩:=b8
 refine Sl_ _ b9<|Mv z<|Vv (V.ext rfl rfl)<|Vv (V.ext rfl rfl)<|Ag z<|Ag z<|Nt<|Sr<|Vv (V.bld (xs:=[(0,.const (.int .u8 (1))),(1,.const (.int .i64 (0)))]) (cs:=[_,_]) blsmall_52 bosmall_52 rfl (Fills.cons rfl rfl rfl (Fills.cons rfl rfl rfl Fills.nil)))<|Vv (V.bld (xs:=[(0,.const (.int .u8 (1))),(1,.const (.int .i64 (1)))]) (cs:=[_,_]) blsmall_52 bosmall_52 rfl (Fills.cons rfl rfl rfl (Fills.cons rfl rfl rfl Fills.nil)))<|Vv (V.bld (xs:=[(0,.const (.int .u8 (2)))]) (cs:=[_,_]) blsmall_52 bosmall_52 rfl (Fills.cons rfl rfl rfl Fills.nil))<|Vv (V.bld (xs:=[(0,.const (.int .u8 (2)))]) (cs:=[_,_]) blsmall_52 bosmall_52 rfl (Fills.cons rfl rfl rfl Fills.nil))<|Vv (V.bld (xs:=[(0,.const (.int .u8 (2)))]) (cs:=[_,_]) blsmall_52 bosmall_52 rfl (Fills.cons rfl rfl rfl Fills.nil))<|Vv (V.bld (xs:=[(0,.const (.int .u8 (4))),(1,.const (.int .i64 (2)))]) (cs:=[_,_]) blsmall_52 bosmall_52 rfl (Fills.cons rfl rfl rfl (Fills.cons rfl rfl rfl Fills.nil)))<|Vv (V.bld (xs:=[(0,.const (.int .u8 (4))),(1,.const (.int .i64 (4)))]) (cs:=[_,_]) blsmall_52 bosmall_52 rfl (Fills.cons rfl rfl rfl (Fills.cons rfl rfl rfl Fills.nil)))<|Vv (V.bld (xs:=[(0,.const (.int .u8 (4))),(1,.const (.int .i64 (1)))]) (cs:=[_,_]) blsmall_52 bosmall_52 rfl (Fills.cons rfl rfl rfl (Fills.cons rfl rfl rfl Fills.nil)))<|To (O.bs elsmall_46 zesmall_52 rfl (e:=rfl) (hk:=rfl) (xs:=[.tmp 34,.tmp 35,.tmp 36,.tmp 37,.tmp 38,.tmp 39,.tmp 40,.tmp 41]) (hv:=CO.eq (CO.cons rfl (CO.cons rfl (CO.cons rfl (CO.cons rfl (CO.cons rfl (CO.cons rfl (CO.cons rfl (CO.cons rfl CO.nil))))))))) (hw:=Wide.of rfl) (hd:=rfl) fun af=>have aK:RowF VapiStep b7 [[.int .u8 (1:Int),.int .i64 (0:Int)],[.int .u8 (1:Int),.int .i64 (1:Int)],[.int .u8 (2:Int),.int .i64 (0:Int)],[.int .u8 (2:Int),.int .i64 (0:Int)],[.int .u8 (2:Int),.int .i64 (0:Int)],[.int .u8 (4:Int),.int .i64 (2:Int)],[.int .u8 (4:Int),.int .i64 (4:Int)],[.int .u8 (4:Int),.int .i64 (1:Int)]] ([(apiStep.mk (1:Int) (0:Int)),(apiStep.mk (1:Int) (1:Int)),(apiStep.mk (2:Int) (0:Int)),(apiStep.mk (2:Int) (0:Int)),(apiStep.mk (2:Int) (0:Int)),(apiStep.mk (4:Int) (2:Int)),(apiStep.mk (4:Int) (4:Int)),(apiStep.mk (4:Int) (1:Int))]:List apiStep):=(RowF.cons rfl (RowF.cons rfl (RowF.cons rfl (RowF.cons rfl (RowF.cons rfl (RowF.cons rfl (RowF.cons rfl (RowF.cons rfl RowF.nil)))))))); Ag z<|Nt<|Sq<|T.norm [1,2,3,4,5,6,7] rfl<|Sl_ (rowR 52 2 (.slice (some ⟨af,0,none⟩) 8 8) [[.int .u8 (1:Int),.int .i64 (0:Int)],[.int .u8 (1:Int),.int .i64 (1:Int)],[.int .u8 (2:Int),.int .i64 (0:Int)],[.int .u8 (2:Int),.int .i64 (0:Int)],[.int .u8 (2:Int),.int .i64 (0:Int)],[.int .u8 (4:Int),.int .i64 (2:Int)],[.int .u8 (4:Int),.int .i64 (4:Int)],[.int .u8 (4:Int),.int .i64 (1:Int)]]::L) rfl<|Rg<|have aM:=aJ.mono I; Vv (V.ldS rfl aM (by exact shsmall_32)) ?_)
 refine Mv z ?_
 obtain ⟨⟨bh,bl⟩,bv,H⟩:=bnd H
 refine To (O.callS z (FnS.lend (val:=.tuple #[.int .i64 bh,.int .i64 bl]) Tryz.func10 z lendR fun bz aN ca=>?_) z fun fq fs ft J cb=>?_)
 ·have cc:=RowF.mono VapiStep.mono aK aN
  have cd:=RowF.slc ca cc
  have K:=(I.trans aN)
  have ce:=Slc.mono VapiTable.mono aa K
  have cf:=Slc.mono VapiGuest.mono ab K
  have cg:=Slc.mono VapiTie.mono ac K
  have ci:=Slc.mono VI.mono ad K
  have cj:=Slc.mono VapiRule.mono ae K
  exact search_Verify_ok (show VapiProblem bz [a,b,c,d,f] G from ⟨a,b,c,d,f,z,ce,cf,cg,ci,cj⟩) cd bv _
 obtain ⟨rfl,ck⟩:=cb
 refine Sl_ _ ck<|Mv z<|Vv (V.ext z z)<|Vv (V.ext z z)<|Ag z<|Ag z<|Nt<|Sq<|Sr<|Mv z<|Mv z ?_
 obtain ⟨fu,cm,H⟩:=bnd H
 refine Vv (V.addS z z cm)<|Vv (V.ne z z)<|Mv z<|T.bH 53 H z (fun H=>?_) (fun H=>?_)
 ·exact dead H
 refine Mv z<|Vv (V.ne z z)<|Vv (V.pkF z z)<|Mv z<|T.bH 57 H z (fun H=>?_) (fun H=>?_)
 ·exact dead H
 refine Mv z<|Vv (V.ne z z)<|Vv (V.pkF z z)<|Mv z<|T.bH 61 H z (fun H=>?_) (fun H=>?_)
 ·exact dead H
 refine Mv z<|Vv (V.ne z z)<|Vv (V.pkF z z)<|Mv z<|T.bH 65 H z (fun H=>?_) (fun H=>?_)
 ·exact dead H
 refine Mv z<|Vv (V.ne z z)<|Vv (V.pkF z z)<|Mv z<|T.bH 69 H z (fun H=>?_) (fun H=>?_)
 ·exact dead H
 refine Mv z<|Vv (V.ne z z)<|Vv (V.pkF z z)<|Nt<|T.cH H z (fun H=>?_) (fun H=>?_)
 ·exact dead H
 refine T.skip<|Th<|Sq<|T.norm [1,7] rfl<|Sl_ (rowR 52 2 (.slice (some ⟨af,0,none⟩) 8 8) [[.int .u8 (1:Int),.int .i64 (0:Int)],[.int .u8 (1:Int),.int .i64 (1:Int)],[.int .u8 (2:Int),.int .i64 (0:Int)],[.int .u8 (2:Int),.int .i64 (0:Int)],[.int .u8 (2:Int),.int .i64 (0:Int)],[.int .u8 (4:Int),.int .i64 (2:Int)],[.int .u8 (4:Int),.int .i64 (4:Int)],[.int .u8 (4:Int),.int .i64 (1:Int)]]::L) rfl<|T.drawF (t:=(.v 0 (.v 1 (.v 2 (.alt 3 (.g (.v 4 (.v 5 (.v 6 (.alt 7 (.alt 8 .done .no) .no))))) .no))))) 10 1 1 rfl rfl smallmixed (by kernel_rfl) ?_
 have aO:=aM.mono J
 refine Tv z (V.ldS rfl aO (by exact shsmall_32)) ?_
 refine Tm z z ?_
 obtain ⟨fw,aP,H⟩:=bnd H
 have ai:=RowF.mono VapiStep.mono aK J
 refine Tv z (Val.XA fun _ _ _=>V.slVx elsmall_46 z (j:=0) z ai.len (.inl ⟨z,z⟩) (.inr ⟨_,_,z,z⟩) (bdV_eq aP)) ?_
 obtain ⟨⟨cn,co⟩,cp,H⟩:=bnd H
 refine Tp z z (SX.two (XA.fr [0] Lr z) (XA.fr [0] Lr z)) (O.callS z (FnS.lend (val:=.tuple #[.int .i64 cn,.int .i64 co]) Tryz.func10 z lendR fun cq aS cr=>?_) z fun fx aU fy M ct=>?_) T.tno
 ·have cu:=RowF.mono VapiStep.mono ai aS
  have cw:=RowF.slc cr cu
  have cx:=Slc.viewV cw (bdV_eq aP)
  have N:=((I.trans J).trans aS)
  have cy:=Slc.mono VapiTable.mono aa N
  have cA:=Slc.mono VapiGuest.mono ab N
  have cB:=Slc.mono VapiTie.mono ac N
  have cC:=Slc.mono VI.mono ad N
  have cD:=Slc.mono VapiRule.mono ae N
  exact search_Verify_ok (show VapiProblem cq [a,b,c,d,f] G from ⟨a,b,c,d,f,z,cy,cA,cB,cC,cD⟩) cx cp _
 obtain ⟨rfl,cE⟩:=ct
 refine Sl_ _ cE<|T.tgrow M<|Tm z z<|Tv z (V.ext z z)<|Tv z (V.ext z z)<|Ts z z (SX.two (XA.fr [0] Lr z) (XA.fr [0] Lr z)) (V.asg z) z ?_ T.tno
 refine Ts z z (SX.two (XA.fr [0] Lr z) (XA.fr [0] Lr z)) (V.asg z) z ?_ T.tno
 refine T.tnil (SX.two (XA.fr [0] Lr z) (XA.fr [0] Lr z))<|Th<|Sr<|Mv z ?_
 obtain ⟨s,aV,H⟩:=bnd H
 have aj:=RowF.mono VapiStep.mono ai M
 obtain ⟨fA,cG,rfl⟩:=RowF.get aj aV
 refine Vv (V.ixR elsmall_46 z z (j:=0) z (RowF.bd aj aV))<|Vv (V.fa fdsmall_52_1 z) ?_
 obtain ⟨cI,cJ,H⟩:=bnd H
 refine To (O.stXk (k:=1) shsmall_3 rfl rfl (j:=0) rfl rfl rfl rfl cG<|have cK:RowF VapiStep aU ([[.int .u8 (1:Int),.int .i64 (0:Int)],[.int .u8 (1:Int),.int .i64 (1:Int)],[.int .u8 (2:Int),.int .i64 (0:Int)],[.int .u8 (2:Int),.int .i64 (0:Int)],[.int .u8 (2:Int),.int .i64 (0:Int)],[.int .u8 (4:Int),.int .i64 (2:Int)],[.int .u8 (4:Int),.int .i64 (4:Int)],[.int .u8 (4:Int),.int .i64 (1:Int)]].set (5:Int).toNat (over [.int .u8 s.fKind,.int .i64 s.fN] [.int .i64 (0:Int)] 1)) cI:=RowF.set aj (show VapiStep aU (over [.int .u8 s.fKind,.int .i64 s.fN] [.int .i64 (0:Int)] 1) (apiStep.mk s.fKind (0:Int)) from rfl) cJ; Nt<|Sr<|have cM:=aO.mono M; Vv (V.ldS rfl cM (by exact shsmall_32)) ?_)
 refine Mv z ?_
 obtain ⟨⟨cN,cO⟩,cP,H⟩:=bnd H
 refine To (O.callS z (FnS.lend (val:=.tuple #[.int .i64 cN,.int .i64 cO]) Tryz.func10 z lendR fun cS aW cU=>?_) z fun fB fC fD cV cW=>?_)
 ·have cX:=RowF.mono VapiStep.mono cK aW
  have cY:=RowF.slc cU cX
  have P:=(((I.trans J).trans M).trans aW)
  have cZ:=Slc.mono VapiTable.mono aa P
  have c0:=Slc.mono VapiGuest.mono ab P
  have c1:=Slc.mono VapiTie.mono ac P
  have c2:=Slc.mono VI.mono ad P
  have c3:=Slc.mono VapiRule.mono ae P
  exact search_Verify_ok (show VapiProblem cS [a,b,c,d,f] G from ⟨a,b,c,d,f,z,cZ,c0,c1,c2,c3⟩) cY cP _
 obtain ⟨rfl,c4⟩:=cW
 refine Sl_ _ c4<|Mv z<|Vv (V.ext z z)<|Vv (V.ext z z)<|Ag z<|Ag z<|Nt<|Sq<|Sr<|Mv z<|Vv (V.ne z z)<|Mv z<|T.bH 91 H z (fun H=>?_) (fun H=>?_)
 ·exact dead H
 refine Mv z<|Vv (V.ne z z)<|Vv (V.pkF z z)<|Mv z<|T.bH 95 H z (fun H=>?_) (fun H=>?_)
 ·exact dead H
 refine Mv z<|Vv (V.ne z z)<|Vv (V.pkF z z)<|Mv z<|T.bH 99 H z (fun H=>?_) (fun H=>?_)
 ·exact dead H
 refine Mv z<|Vv (V.ne z z)<|Vv (V.pkF z z)<|Nt<|T.cH H z (fun H=>?_) (fun H=>?_)
 ·exact dead H
 refine T.skip<|Th<|Sq<|T.norm [] z<|Sl_ (rowR 52 2 (.slice (some ⟨af,0,none⟩) 8 8) ([[.int .u8 (1:Int),.int .i64 (0:Int)],[.int .u8 (1:Int),.int .i64 (1:Int)],[.int .u8 (2:Int),.int .i64 (0:Int)],[.int .u8 (2:Int),.int .i64 (0:Int)],[.int .u8 (2:Int),.int .i64 (0:Int)],[.int .u8 (4:Int),.int .i64 (2:Int)],[.int .u8 (4:Int),.int .i64 (4:Int)],[.int .u8 (4:Int),.int .i64 (1:Int)]].set (5:Int).toNat (over [.int .u8 s.fKind,.int .i64 s.fN] [.int .i64 (0:Int)] 1))::L) z<|Rg ?_
 obtain ⟨c5,c6,H⟩:=bnd H
 refine To (O.callS z (law06_three_ok Slc.nil c6 _) z fun fE c7 fG c8 c9=>?_)
 obtain ⟨aX,aY,aZ,a0,a1,rfl,ch,cl,cv,cz,da,db⟩:=c9
 refine Sl_ _ ch ?_
 obtain ⟨⟨fI,fJ,fK⟩,dc,H⟩:=bnd H
 refine To (O.callS z (search_Count_ok (show VapiProblem c7 [aX,aY,aZ,a0,a1] c5 from ⟨aX,aY,aZ,a0,a1,z,cl,cv,cz,da,db⟩) dc _) z fun fM dd fO de df=>?_)
 obtain ⟨rfl,dg⟩:=df
 refine Sl_ _ dg<|Mv z<|Vv (V.ext z z)<|Vv (V.ext z z)<|Vv (V.ext z z)<|Ag z<|Ag z<|Ag z<|Nt<|Sq<|Sr<|Mv z<|Vv (V.ne z z)<|Mv z<|T.bH 111 H z (fun H=>?_) (fun H=>?_)
 ·exact dead H
 refine Mv z<|Vv (V.ne z z)<|Vv (V.pkF z z)<|Mv z<|T.bH 115 H z (fun H=>?_) (fun H=>?_)
 ·exact dead H
 refine Mv z<|Vv (V.ne z z)<|Vv (V.pkF z z)<|Nt<|T.cH H z (fun H=>?_) (fun H=>?_)
 ·exact dead H
 refine T.skip<|Th<|Sr<|Vv (V.bld (xs:=[(0,.const (.int .u8 (3))),(2,.const (.string ⟨#[97,110,110,97]⟩)),(3,.const (.string ⟨#[98,111,114,105,115]⟩)),(1,.const (.int .i64 (5)))]) (cs:=[_,_,_,_,_,_]) blsmall_41 bosmall_41 z (Fills.cons z z z (Fills.cons z z z (Fills.cons z z z (Fills.cons z z z Fills.nil)))))<|To (O.bs elsmall_30 zesmall_41 z (e:=z) (hk:=z) (xs:=[.tmp 119]) (hv:=CO.eq (CO.cons z CO.nil)) (hw:=Wide.of z) (hd:=z) fun fP=>have di:RowF VapiRule dd [[.int .u8 (3:Int),.int .i64 (5:Int),.string (⟨#[97,110,110,97]⟩:ByteArray),.string (⟨#[98,111,114,105,115]⟩:ByteArray),.string (⟨#[]⟩:ByteArray),.int .i64 (0:Int)]] ([(apiRule.mk (3:Int) (5:Int) (⟨#[97,110,110,97]⟩:ByteArray) (⟨#[98,111,114,105,115]⟩:ByteArray) (⟨#[]⟩:ByteArray) (0:Int))]:List apiRule):=(RowF.cons z RowF.nil); T.rowFix fun fS a2 dj=>have dk:=RowF.mono VapiRule.mono di a2; have dm:=RowF.slc dj dk; ?_)
 obtain ⟨S,dn,H⟩:=bnd H
 refine To (O.callS z (law06_three_ok dm dn _) z fun fU fV fW dp dq=>?_)
 obtain ⟨i,m,n,o,p,rfl,dr,a3,a4,a5,a6,a7⟩:=dq
 refine Sl_ _ dr<|To (O.alloc zesmall_32 rfl rfl fun fX=>To (O.stF (vs:=[i,m,n,o,p]) shsmall_32 rfl rfl (j:=0) rfl rfl (by (simp only [Sl.ones,Slc.one a3,Slc.one a4,Slc.one a5,Slc.one a6,Slc.one a7,Bool.and_true,Bool.true_and]) <;> rfl) rfl ?_))
 refine T.freeze fun ds A dt=>have a8:=AtC.of dt; Nt<|Sr<|Vv (V.ldS rfl a8 (by exact shsmall_32)) ?_
 have a9:=Slc.mono VapiTable.mono a3 A
 have ah:=Slc.mono VapiGuest.mono a4 A
 have al:=Slc.mono VapiTie.mono a5 A
 have av:=Slc.mono VI.mono a6 A
 have az:=Slc.mono VapiRule.mono a7 A
 obtain ⟨⟨fY,fZ⟩,du,H⟩:=bnd H
 refine To (O.callS z (search_Costs_ok (show VapiProblem ds [i,m,n,o,p] S from ⟨i,m,n,o,p,z,a9,ah,al,av,az⟩) du _) z fun f0 dw f1 w dx=>?_)
 obtain ⟨dy,dA,rfl,dB,dC⟩:=dx
 refine Sl_ _ dB<|Mv z<|Vv (V.ext rfl rfl)<|Vv (V.ext rfl rfl)<|Ag z<|Ag z<|Nt<|Sq<|T.norm [4,12,13] rfl<|Sl_ (rowR 92 3 dy dA::rowR 52 2 (.slice (some ⟨af,0,none⟩) 8 8) ([[.int .u8 (1:Int),.int .i64 (0:Int)],[.int .u8 (1:Int),.int .i64 (1:Int)],[.int .u8 (2:Int),.int .i64 (0:Int)],[.int .u8 (2:Int),.int .i64 (0:Int)],[.int .u8 (2:Int),.int .i64 (0:Int)],[.int .u8 (4:Int),.int .i64 (2:Int)],[.int .u8 (4:Int),.int .i64 (4:Int)],[.int .u8 (4:Int),.int .i64 (1:Int)]].set (5:Int).toNat (over [.int .u8 s.fKind,.int .i64 s.fN] [.int .i64 (0:Int)] 1))::L) rfl<|Rg<|have ba:=a8.mono w; Vv (V.ldS rfl ba (by exact shsmall_32)) ?_
 have bb:=Slc.mono VapiTable.mono a9 w
 have bc:=Slc.mono VapiGuest.mono ah w
 have be:=Slc.mono VapiTie.mono al w
 have bf:=Slc.mono VI.mono av w
 have bg:=Slc.mono VapiRule.mono az w
 obtain ⟨⟨dD,f2⟩,dE,H⟩:=bnd H
 refine To (O.callS z (search_Best_ok (show VapiProblem dw [i,m,n,o,p] S from ⟨i,m,n,o,p,z,bb,bc,be,bf,bg⟩) dE _) z fun f3 f4 f5 bi dG=>?_)
 obtain ⟨dI,rfl,dJ,bj⟩:=dG
 refine Sl_ _ dJ<|Mv z<|Vv (V.ext rfl rfl)<|Vv (V.ext rfl rfl)<|To (O.alloc zesmall_84 rfl rfl fun f6=>To (O.stF (vs:=[dI,.int .i64 dD.fCost]) shsmall_84 rfl rfl (j:=0) rfl rfl (by (simp only [Sl.ones,Slc.one bj,Bool.and_true,Bool.true_and]) <;> rfl) rfl ?_))
 refine T.fl ?_
 refine T.freeze fun dK ak dM=>have dN:=AtC.of dM; Ag z<|Nt<|Sr<|have x:=(bi.trans ak); have bk:=ba.mono x; Vv (V.ldS rfl bk (by exact shsmall_32)) ?_
 have bm:=Slc.mono VapiTable.mono bb x
 have bn:=Slc.mono VapiGuest.mono bc x
 have bo:=Slc.mono VapiTie.mono be x
 have bp:=Slc.mono VI.mono bf x
 have bq:=Slc.mono VapiRule.mono bg x
 obtain ⟨⟨f7,f8⟩,dO,H⟩:=bnd H
 refine To (O.callS z (search_All_ok (show VapiProblem dK [i,m,n,o,p] S from ⟨i,m,n,o,p,z,bm,bn,bo,bp,bq⟩) dO _) z fun f9 dP fh q dS=>?_)
 obtain ⟨fv,rfl,dU,dV⟩:=dS
 refine Sl_ _ dU<|Mv z<|Vv (V.ext rfl rfl)<|Vv (V.ext rfl rfl)<|Ag z<|Ag z<|Nt<|Sr<|have br:=bk.mono q; Vv (V.ldS rfl br (by exact shsmall_32)) ?_
 have bt:=Slc.mono VapiTable.mono bm q
 have bu:=Slc.mono VapiGuest.mono bn q
 have bw:=Slc.mono VapiTie.mono bo q
 have bx:=Slc.mono VI.mono bp q
 have bA:=Slc.mono VapiRule.mono bq q
 obtain ⟨⟨fz,ga⟩,dW,H⟩:=bnd H
 refine To (O.callS z (search_All_ok (show VapiProblem dP [i,m,n,o,p] S from ⟨i,m,n,o,p,z,bt,bu,bw,bx,bA⟩) dW _) z fun gb dX gc B dY=>?_)
 obtain ⟨gd,rfl,dZ,ge⟩:=dY
 refine Sl_ _ dZ<|Mv z<|Vv (V.ext rfl rfl)<|Vv (V.ext rfl rfl)<|Ag z<|Ag z<|Nt<|Sr<|have d0:=br.mono B; Vv (V.ldS rfl d0 (by exact shsmall_32)) ?_
 refine To (O.bs elsmall_24 zesmall_3 z (e:=z) (hk:=z) (xs:=[.const (.int .i64 (-1)),.const (.int .i64 (0)),.const (.int .i64 (-1))]) (hv:=CO.eq (CO.cons z (CO.cons z (CO.cons z CO.nil)))) (hw:=Wide.of z) (hd:=z) fun gf=>have d1:RowF (VI .i64) dX [[.int .i64 (-1:Int)],[.int .i64 (0:Int)],[.int .i64 (-1:Int)]] ([(-1:Int),(0:Int),(-1:Int)]:List Int):=(RowF.cons z (RowF.cons z (RowF.cons z RowF.nil))); T.rowFix fun d2 C d3=>have d4:=RowF.mono VI.mono d1 C; have d5:=RowF.slc d3 d4; have D:=(B.trans C); have d6:=Slc.mono VapiTable.mono bt D; have d7:=Slc.mono VapiGuest.mono bu D; have d8:=Slc.mono VapiTie.mono bw D; have d9:=Slc.mono VI.mono bx D; have dh:=Slc.mono VapiRule.mono bA D; ?_)
 obtain ⟨⟨gg,gi⟩,dl,H⟩:=bnd H
 refine To (O.callS z (search_Extend_ok (show VapiProblem d2 [i,m,n,o,p] S from ⟨i,m,n,o,p,z,d6,d7,d8,d9,dh⟩) d5 dl _) z fun gj dv gk U dz=>?_)
 obtain ⟨gm,rfl,ea,eb⟩:=dz
 refine Sl_ _ ea<|Mv z<|Vv (V.ext z z)<|Vv (V.ext z z)<|Ag z<|Ag z<|Nt<|Sr<|Mv z<|Mv z ?_
 obtain ⟨gn,ec,H⟩:=bnd H
 refine Vv (V.addS z z ec)<|Mv z ?_
 obtain ⟨go,ed,H⟩:=bnd H
 refine Vv (V.addS z z ed)<|Mv z ?_
 obtain ⟨gp,ee,H⟩:=bnd H
 refine Vv (V.addS z z ee)<|Vv (V.eq z z)<|Mv z<|T.bH 156 H z (fun H=>?_) (fun H=>?_)
 ·refine Mv z<|Vv (V.eq z z)<|Vv (V.pkT z z)<|Mv z<|T.bH 160 H z (fun H=>?_) (fun H=>?_)
  ·refine Mv z<|have ef:=((((x.trans q).trans B).trans C).trans U); have W:=RowF.mono VsearchBar.mono dC ef; Vv (V.lenX elsmall_80 z (j:=0) z W.len)<|Vv (V.eq z z)<|Vv (V.pkT z z)<|Mv z<|T.bH 165 H z (fun H=>?_) (fun H=>?_)
   ·refine Mv z ?_
    obtain ⟨am,bB,H⟩:=bnd H
    obtain ⟨gq,eg,rfl⟩:=RowF.get W bB
    refine Vv (V.ixR elsmall_80 z z (j:=0) z (RowF.bd W bB))<|Vv (V.ldXS z (j:=0) z eg shsmall_92)<|Vv (V.bld (xs:=[(0,.const (.int .i64 (0))),(1,.const (.int .i64 (1))),(2,.const (.int .i64 (8)))]) (cs:=[_,_,_]) blsmall_92 bosmall_92 z (Fills.cons z z z (Fills.cons z z z (Fills.cons z z z Fills.nil))))<|Vv (V.eqSt stsmall_92 z z (r:=(decide (am.fCost = (0:Int)) && (decide (am.fClasses = (1:Int)) && (decide (am.fPlans = (8:Int)) && true)))) z)<|Vv (V.pkT z z)<|Mv z<|T.bH 172 H z (fun H=>?_) (fun H=>?_)
    ·refine Mv z ?_
     obtain ⟨an,bC,H⟩:=bnd H
     obtain ⟨gr,ei,rfl⟩:=RowF.get W bC
     refine Vv (V.ixR elsmall_80 z z (j:=0) z (RowF.bd W bC))<|Vv (V.ldXS z (j:=0) z ei shsmall_92)<|Vv (V.bld (xs:=[(0,.const (.int .i64 (5))),(1,.const (.int .i64 (2))),(2,.const (.int .i64 (16)))]) (cs:=[_,_,_]) blsmall_92 bosmall_92 z (Fills.cons z z z (Fills.cons z z z (Fills.cons z z z Fills.nil))))<|Vv (V.eqSt stsmall_92 z z (r:=(decide (an.fCost = (5:Int)) && (decide (an.fClasses = (2:Int)) && (decide (an.fPlans = (16:Int)) && true)))) z)<|Vv (V.pkT z z)<|Mv z<|T.bH 179 H z (fun H=>?_) (fun H=>?_)
     ·refine Vv (V.fa fdsmall_84_1 z)<|have ej:=(((q.trans B).trans C).trans U); have bD:=dN.mono ej; Vv (V.ldf (k:=1) shsmall_3 z bD z)<|Vv (V.eq z z)<|Vv (V.pkT z z)<|Mv z<|T.bH 184 H z (fun H=>?_) (fun H=>?_)
      ·refine Vv (V.fa fdsmall_84_0 z)<|Vv (V.ldf (k:=0) shsmall_24 z bD z)<|To (O.bs elsmall_24 zesmall_3 z (e:=z) (hk:=z) (xs:=[.const (.int .i64 (0)),.const (.int .i64 (2)),.const (.int .i64 (1))]) (hv:=CO.eq (CO.cons z (CO.cons z (CO.cons z CO.nil)))) (hw:=Wide.of z) (hd:=z) fun gs=>have ek:RowF (VI .i64) dv [[.int .i64 (0:Int)],[.int .i64 (2:Int)],[.int .i64 (1:Int)]] ([(0:Int),(2:Int),(1:Int)]:List Int):=(RowF.cons z (RowF.cons z (RowF.cons z RowF.nil))); T.rowFix fun gt X em=>have en:=RowF.mono VI.mono ek X; have eo:=RowF.slc em en; have ep:=(((((ak.trans q).trans B).trans C).trans U).trans X); have er:=Slc.mono VI.mono bj ep; ?_)
       obtain ⟨gu,es,H⟩:=bnd H
       refine To (O.callS z (kit_SameInts_ok er eo es _) z fun gw ao gx ap et=>?_)
       obtain ⟨rfl,eu⟩:=et
       refine Sl_ _ eu<|Vv (V.pkT z z)<|Mv z<|T.bH 190 H z (fun H=>?_) (fun H=>?_)
       ·refine Mv z<|To (O.bs elsmall_24 zesmall_3 z (e:=z) (hk:=z) (xs:=[.const (.int .i64 (0)),.const (.int .i64 (1)),.const (.int .i64 (2))]) (hv:=CO.eq (CO.cons z (CO.cons z (CO.cons z CO.nil)))) (hw:=Wide.of z) (hd:=z) fun bE=>have ew:RowF (VI .i64) ao [[.int .i64 (0:Int)],[.int .i64 (1:Int)],[.int .i64 (2:Int)]] ([(0:Int),(1:Int),(2:Int)]:List Int):=(RowF.cons z (RowF.cons z (RowF.cons z RowF.nil))); To (O.bs elsmall_24 zesmall_3 z (e:=z) (hk:=z) (xs:=[.const (.int .i64 (0)),.const (.int .i64 (1)),.const (.int .i64 (3))]) (hv:=CO.eq (CO.cons z (CO.cons z (CO.cons z CO.nil)))) (hw:=Wide.of z) (hd:=z) fun bG=>have ex:RowF (VI .i64) ao [[.int .i64 (0:Int)],[.int .i64 (1:Int)],[.int .i64 (3:Int)]] ([(0:Int),(1:Int),(3:Int)]:List Int):=(RowF.cons z (RowF.cons z (RowF.cons z RowF.nil))); To (O.bs elsmall_24 zesmall_3 z (e:=z) (hk:=z) (xs:=[.const (.int .i64 (0)),.const (.int .i64 (2)),.const (.int .i64 (1))]) (hv:=CO.eq (CO.cons z (CO.cons z (CO.cons z CO.nil)))) (hw:=Wide.of z) (hd:=z) fun bI=>have ey:RowF (VI .i64) ao [[.int .i64 (0:Int)],[.int .i64 (2:Int)],[.int .i64 (1:Int)]] ([(0:Int),(2:Int),(1:Int)]:List Int):=(RowF.cons z (RowF.cons z (RowF.cons z RowF.nil))); Fr_ 2 z<|T.fl ?_)))
        refine T.rowFix fun gy Y eA=>have eB:=RowF.mono VI.mono ew Y; have eC:=RowF.slc eA eB; Fr_ 1 z<|T.fl ?_
        refine T.rowFix fun gA Z eD=>have bJ:=(Y.trans Z); have eE:=RowF.mono VI.mono ex bJ; have eG:=RowF.slc eD eE; T.rowFix fun eI E eJ=>have eK:=(bJ.trans E); have eM:=RowF.mono VI.mono ey eK; have bK:=RowF.slc eJ eM; have bM:=Slc.mono VI.mono eG E; have eN:=(Z.trans E); have bN:=Slc.mono VI.mono eC eN; To (O.bs elsmall_87 zesmall_24 z (e:=z) (hk:=z) (xs:=[.tmp 192,.tmp 193,.tmp 194]) (hv:=CO.eq (CO.cons (Slc.cells bN) (CO.cons (Slc.cells bM) (CO.cons (Slc.cells bK) CO.nil)))) (hw:=Wide.of z) (hd:=z) fun gB=>have eO:RowF (VSl (VI .i64) 1) eI [[(.slice (some ⟨bE,0,none⟩) 3 3)],[(.slice (some ⟨bG,0,none⟩) 3 3)],[(.slice (some ⟨bI,0,none⟩) 3 3)]] ([[(0:Int),(1:Int),(2:Int)],[(0:Int),(1:Int),(3:Int)],[(0:Int),(2:Int),(1:Int)]]:List (List Int)):=(RowF.cons ⟨(.slice (some ⟨bE,0,none⟩) 3 3),z,bN⟩ (RowF.cons ⟨(.slice (some ⟨bG,0,none⟩) 3 3),z,bM⟩ (RowF.cons ⟨(.slice (some ⟨bI,0,none⟩) 3 3),z,bK⟩ RowF.nil))); T.rowFix fun gC ag eP=>have eS:=RowF.mono (VSl.mono VI.mono) eO ag; have eU:=RowF.slc eP eS; have eV:=(((((((D.trans U).trans X).trans ap).trans Y).trans Z).trans E).trans ag); have eW:=Slc.mono (VSl.mono VI.mono) dV eV; ?_)
        obtain ⟨gD,eX,H⟩:=bnd H
        refine To (O.callS z (kit_SameLists_ok eW eU eX _) z fun gE eY gG bO eZ=>?_)
        obtain ⟨rfl,e0⟩:=eZ
        refine Sl_ _ e0<|Vv (V.pkT z z)<|Mv z<|T.bH 198 H z (fun H=>?_) (fun H=>?_)
        ·refine Mv z<|To (O.bs elsmall_24 zesmall_3 z (e:=z) (hk:=z) (xs:=[.const (.int .i64 (1)),.const (.int .i64 (0)),.const (.int .i64 (2))]) (hv:=CO.eq (CO.cons z (CO.cons z (CO.cons z CO.nil)))) (hw:=Wide.of z) (hd:=z) fun gI=>have e1:RowF (VI .i64) eY [[.int .i64 (1:Int)],[.int .i64 (0:Int)],[.int .i64 (2:Int)]] ([(1:Int),(0:Int),(2:Int)]:List Int):=(RowF.cons z (RowF.cons z (RowF.cons z RowF.nil))); T.rowFix fun gJ aq e2=>have e3:=RowF.mono VI.mono e1 aq; have e4:=RowF.slc e2 e3; have e5:=(((((((X.trans ap).trans Y).trans Z).trans E).trans ag).trans bO).trans aq); have e6:=Slc.mono VI.mono eb e5; ?_)
         obtain ⟨gK,e7,H⟩:=bnd H
         refine To (O.callS z (kit_SameInts_ok e6 e4 e7 _) z fun gM gN gO e8 e9=>?_)
         obtain ⟨rfl,eh⟩:=e9
         refine Sl_ _ eh<|Vv (V.pkT z z)<|Ag z<|Nt<|T.ret<|T.drop<|T.drop ?_
         obtain rfl:=Option.some.inj H
         have el:=((((((((((((((((((((((((((((ar.trans bX).trans y).trans u).trans I).trans J).trans M).trans cV).trans c8).trans de).trans a2).trans dp).trans A).trans w).trans bi).trans ak).trans q).trans B).trans C).trans U).trans X).trans ap).trans Y).trans Z).trans E).trans ag).trans bO).trans aq).trans e8)
         exact T.retL Tryz.results11 (Rv z) el ⟨z,z⟩
        exact dead H
       exact dead H
      exact dead H
     exact dead H
    exact dead H
   exact dead H
  exact dead H
 exact dead H
theorem law06_SearchSmall_ok {h:PH}  {r_0:Bool} (H:law06_SearchSmall  = some r_0):∀ L,FnS Tryz.prog 3 [] h (L) (fun v h' L'=>v = .bool r_0∧L' = L):=by
 intro L
 refine FnS.enter Tryz.func3 z Tryz.ntmps3 z<|Sr<|Ag z<|Nt<|Sr<|To (O.bs elsmall_22 zesmall_9 z (e:=z) (hk:=z) (xs:=[.const (.string ⟨#[97]⟩),.const (.string ⟨#[98]⟩),.const (.string ⟨#[99]⟩),.const (.string ⟨#[100]⟩),.const (.string ⟨#[101]⟩),.const (.string ⟨#[102]⟩),.const (.string ⟨#[103]⟩)]) (hv:=CO.eq (CO.cons z (CO.cons z (CO.cons z (CO.cons z (CO.cons z (CO.cons z (CO.cons z CO.nil)))))))) (hw:=Wide.of z) (hd:=z) fun m=>have bc:RowF VS h [[.string (⟨#[97]⟩:ByteArray)],[.string (⟨#[98]⟩:ByteArray)],[.string (⟨#[99]⟩:ByteArray)],[.string (⟨#[100]⟩:ByteArray)],[.string (⟨#[101]⟩:ByteArray)],[.string (⟨#[102]⟩:ByteArray)],[.string (⟨#[103]⟩:ByteArray)]] ([(⟨#[97]⟩:ByteArray),(⟨#[98]⟩:ByteArray),(⟨#[99]⟩:ByteArray),(⟨#[100]⟩:ByteArray),(⟨#[101]⟩:ByteArray),(⟨#[102]⟩:ByteArray),(⟨#[103]⟩:ByteArray)]:List ByteArray):=(RowF.cons z (RowF.cons z (RowF.cons z (RowF.cons z (RowF.cons z (RowF.cons z (RowF.cons z RowF.nil))))))); Ag z<|Nt<|Sq<|Sr<|Ag z<|Nt ?_)
 obtain ⟨ac,be,bf⟩:=bndK H
 refine T.cutK (α:=Unit) [] z (fun _u=>[]) (fun _u=>L) (fun _u hh=>ac = ()) ?_ ?_
 ·have H:=be
  refine Bl<|T.loopK (α:=Nat×Int) [1] z (fun ⟨q,b⟩=>[(2,.int .i64 b)]) (fun ⟨q,b⟩=>rowR 9 1 (.slice (some ⟨m,0,none⟩) 7 7) [[.string (⟨#[97]⟩:ByteArray)],[.string (⟨#[98]⟩:ByteArray)],[.string (⟨#[99]⟩:ByteArray)],[.string (⟨#[100]⟩:ByteArray)],[.string (⟨#[101]⟩:ByteArray)],[.string (⟨#[102]⟩:ByteArray)],[.string (⟨#[103]⟩:ByteArray)]]::L) (fun ⟨q,b⟩ hh=>iter law06_SearchSmall_l0 q b = some ac) (fun ⟨q,b⟩=>q) (FUEL,(1:Int)) ⟨z,trivial⟩ z H ?_
  rintro ⟨q,b⟩ ad G bg
  obtain ⟨bi,d3,rfl,H,ae⟩:=iter_go bg
  refine T.norm [2,1] z<|Sl_ (rowR 9 1 (.slice (some ⟨m,0,none⟩) 7 7) [[.string (⟨#[97]⟩:ByteArray)],[.string (⟨#[98]⟩:ByteArray)],[.string (⟨#[99]⟩:ByteArray)],[.string (⟨#[100]⟩:ByteArray)],[.string (⟨#[101]⟩:ByteArray)],[.string (⟨#[102]⟩:ByteArray)],[.string (⟨#[103]⟩:ByteArray)]]::L) z<|Sq<|Sr<|Mv z<|Vv (V.le z z)<|Nt<|T.cH H z (fun H=>?_) (fun H=>?_)
  ·refine T.skip<|Th<|Sq<|Bl<|Sr<|Mv z<|Vv (V.bld (xs:=[(0,.const (.string ⟨#[114]⟩)),(1,.const (.int .u8 (4))),(2,.tmp 25)]) (cs:=[_,_,_,_,_,_,_]) blsmall_26 bosmall_26 rfl (Fills.cons rfl rfl rfl (Fills.cons rfl rfl rfl (Fills.cons rfl rfl rfl Fills.nil))))<|To (O.bs elsmall_27 zesmall_26 rfl (e:=rfl) (hk:=rfl) (xs:=[.tmp 26]) (hv:=CO.eq (CO.cons rfl CO.nil)) (hw:=Wide.of rfl) (hd:=rfl) fun c=>have bj:RowF VapiTable ad [[.string (⟨#[114]⟩:ByteArray),.int .u8 (4:Int),.int .i64 b,.int .i64 (0:Int),.slice none 0 0,.int .i64 (0:Int),.int .i64 (0:Int)]] ([(apiTable.mk (⟨#[114]⟩:ByteArray) (4:Int) b (0:Int) ([]:List Int) (0:Int) (0:Int))]:List apiTable):=(RowF.cons ⟨(.slice none 0 0),rfl,Slc.nil⟩ RowF.nil); T.rowOne 0 rfl fun d4 bk=>Vv (V.bld (xs:=[(0,.tmp 27)]) (cs:=[_,_,_,_,_]) blsmall_32 bosmall_32 rfl (Fills.cons rfl bk rfl Fills.nil))<|To (O.alloc zesmall_32 rfl rfl fun n=>T.rowOne 1 rfl fun bm d5=>To (O.stF (vs:=[(.slice (some ⟨c,0,none⟩) 1 1),.slice none 0 0,.slice none 0 0,.slice none 0 0,.slice none 0 0]) shsmall_32 rfl rfl (j:=0) rfl rfl (by (simp only [Sl.ones,bm,Bool.and_true,Bool.true_and]) <;> rfl) rfl ?_)))
   refine T.fl ?_
   refine Nt<|Sr<|Ag z<|Nt<|T.asThen ?_
   obtain ⟨af,bn,bo⟩:=bndK H
   refine T.cutK (α:=Unit) [1,2] z (fun _u=>[]) (fun _u=>rowR 9 1 (.slice (some ⟨m,0,none⟩) 7 7) [[.string (⟨#[97]⟩:ByteArray)],[.string (⟨#[98]⟩:ByteArray)],[.string (⟨#[99]⟩:ByteArray)],[.string (⟨#[100]⟩:ByteArray)],[.string (⟨#[101]⟩:ByteArray)],[.string (⟨#[102]⟩:ByteArray)],[.string (⟨#[103]⟩:ByteArray)]]::L) (fun _u hh=>af = ()) ?_ ?_
   ·have H:=bn
    refine Bl<|T.rowNil 38 9<|have bp:RowF VapiGuest ad [] ([]:List apiGuest):=RowF.nil; Fr_ 3 z<|T.fl ?_
    refine Fr_ 3 z<|T.fl ?_
    refine Fr_ 3 z<|T.fl ?_
    refine T.loopK (α:=Nat×(List apiGuest)×Int×Value×(List (List Value))) [1,2,3] z (fun ⟨r,o,p,a,i⟩=>[(4,.int .i64 p)]) (fun ⟨r,o,p,a,i⟩=>blk n (.cells [(.slice (some ⟨c,0,none⟩) 1 1),a,.slice none 0 0,.slice none 0 0,.slice none 0 0].toArray 32)::rowR 26 7 (.slice (some ⟨c,0,none⟩) 1 1) [[.string (⟨#[114]⟩:ByteArray),.int .u8 (4:Int),.int .i64 b,.int .i64 (0:Int),.slice none 0 0,.int .i64 (0:Int),.int .i64 (0:Int)]]::rowR 9 1 (.slice (some ⟨m,0,none⟩) 7 7) [[.string (⟨#[97]⟩:ByteArray)],[.string (⟨#[98]⟩:ByteArray)],[.string (⟨#[99]⟩:ByteArray)],[.string (⟨#[100]⟩:ByteArray)],[.string (⟨#[101]⟩:ByteArray)],[.string (⟨#[102]⟩:ByteArray)],[.string (⟨#[103]⟩:ByteArray)]]::rowR 38 9 a i::L) (fun ⟨r,o,p,a,i⟩ hh=>iter (law06_SearchSmall_l1 b) r (o,p) = some af∧RowF VapiGuest hh i o) (fun ⟨r,o,p,a,i⟩=>r) (FUEL,([]:List apiGuest),(0:Int),(.slice none 0 0),[]) ⟨z,trivial⟩ z ⟨H,bp⟩ ?_
    rintro ⟨r,o,p,a,i⟩ d6 B ⟨bq,ag⟩
    obtain ⟨br,d7,rfl,H,ai⟩:=iter_go bq
    refine T.norm [4,1,2,3] z<|Sl_ (blk n (.cells [(.slice (some ⟨c,0,none⟩) 1 1),a,.slice none 0 0,.slice none 0 0,.slice none 0 0].toArray 32)::rowR 26 7 (.slice (some ⟨c,0,none⟩) 1 1) [[.string (⟨#[114]⟩:ByteArray),.int .u8 (4:Int),.int .i64 b,.int .i64 (0:Int),.slice none 0 0,.int .i64 (0:Int),.int .i64 (0:Int)]]::rowR 9 1 (.slice (some ⟨m,0,none⟩) 7 7) [[.string (⟨#[97]⟩:ByteArray)],[.string (⟨#[98]⟩:ByteArray)],[.string (⟨#[99]⟩:ByteArray)],[.string (⟨#[100]⟩:ByteArray)],[.string (⟨#[101]⟩:ByteArray)],[.string (⟨#[102]⟩:ByteArray)],[.string (⟨#[103]⟩:ByteArray)]]::rowR 38 9 a i::L) z<|Sq<|Sq ?_
    obtain ⟨bt,bu,bw⟩:=bndK H
    refine T.cutK (α:=Bool) [1,2,3,4] z (fun y=>[(35,.bool y)]) (fun y=>blk n (.cells [(.slice (some ⟨c,0,none⟩) 1 1),a,.slice none 0 0,.slice none 0 0,.slice none 0 0].toArray 32)::rowR 26 7 (.slice (some ⟨c,0,none⟩) 1 1) [[.string (⟨#[114]⟩:ByteArray),.int .u8 (4:Int),.int .i64 b,.int .i64 (0:Int),.slice none 0 0,.int .i64 (0:Int),.int .i64 (0:Int)]]::rowR 9 1 (.slice (some ⟨m,0,none⟩) 7 7) [[.string (⟨#[97]⟩:ByteArray)],[.string (⟨#[98]⟩:ByteArray)],[.string (⟨#[99]⟩:ByteArray)],[.string (⟨#[100]⟩:ByteArray)],[.string (⟨#[101]⟩:ByteArray)],[.string (⟨#[102]⟩:ByteArray)],[.string (⟨#[103]⟩:ByteArray)]]::rowR 38 9 a i::L) (fun y hh=>bt = y) ?_ ?_
    ·have H:=bu
     refine Rg<|Mv z<|Vv (V.le z z)<|Mv z<|T.bH 31 H z (fun H=>?_) (fun H=>?_)
     ·refine Mv z<|Mv z<|Vv (V.le z z)<|Vv (V.pkT z z)<|Nt<|T.met (decide (p ≤ b)) Lr (sinj H) (AllIn.app ⟨z,trivial⟩ ⟨z,z,z,z,trivial⟩) z
     refine Sk<|Sk<|Sk<|Vv (V.pkF z z)<|Nt<|T.met false Lr (sinj H) (AllIn.app ⟨z,trivial⟩ ⟨z,z,z,z,trivial⟩) z
    rintro y d8 s bx
    have H:=cutE bx bw
    refine T.norm [35,1,2,3,4] z<|Sl_ (blk n (.cells [(.slice (some ⟨c,0,none⟩) 1 1),a,.slice none 0 0,.slice none 0 0,.slice none 0 0].toArray 32)::rowR 26 7 (.slice (some ⟨c,0,none⟩) 1 1) [[.string (⟨#[114]⟩:ByteArray),.int .u8 (4:Int),.int .i64 b,.int .i64 (0:Int),.slice none 0 0,.int .i64 (0:Int),.int .i64 (0:Int)]]::rowR 9 1 (.slice (some ⟨m,0,none⟩) 7 7) [[.string (⟨#[97]⟩:ByteArray)],[.string (⟨#[98]⟩:ByteArray)],[.string (⟨#[99]⟩:ByteArray)],[.string (⟨#[100]⟩:ByteArray)],[.string (⟨#[101]⟩:ByteArray)],[.string (⟨#[102]⟩:ByteArray)],[.string (⟨#[103]⟩:ByteArray)]]::rowR 38 9 a i::L) z<|T.cH H z (fun H=>?_) (fun H=>?_)
    ·refine T.skip<|Th<|Sq<|Bl<|Sr<|Vv (V.ldOS (j:=0) (by exact shsmall_32) rfl rfl) ?_
     refine Fr_ 3 z<|T.fl ?_
     refine Fr_ 2 z<|T.fl ?_
     obtain ⟨⟨aj,ak⟩,bA,H⟩:=bnd H
     refine To (O.callS z (FnS.lend (val:=.tuple #[.int .i64 aj,.int .i64 ak]) Tryz.func4 z lendR fun d9 am bB=>FnS.lend (val:=.tuple #[.int .i64 aj,.int .i64 ak]) Tryz.func4 z lendR fun bC an bD=>?_) z fun dh dl dv I bE=>?_)
     ·have bG:=((B.trans s).trans am)
      have bI:=RowF.mono VapiTable.mono bj bG
      have bJ:=RowF.slc bB bI
      have bK:=((s.trans am).trans an)
      have bM:=RowF.mono VapiGuest.mono ag bK
      have bN:=RowF.slc bD bM
      have bO:=Slc.mono VapiTable.mono bJ an
      exact search_Tree_ok (show VapiProblem bC [(.slice (some ⟨c,0,none⟩) 1 1),a,.slice none 0 0,.slice none 0 0,.slice none 0 0] (apiProblem.mk [(apiTable.mk (⟨#[114]⟩:ByteArray) (4:Int) b (0:Int) ([]:List Int) (0:Int) (0:Int))] o ([]:List apiTie) ([]:List Int) ([]:List apiRule)) from ⟨(.slice (some ⟨c,0,none⟩) 1 1),a,(.slice none 0 0),(.slice none 0 0),(.slice none 0 0),z,bO,bN,Slc.nil,Slc.nil,Slc.nil⟩) bA _
     obtain ⟨rfl,bP⟩:=bE
     refine Sl_ _ bP<|Mv z<|Vv (V.ext z z)<|Vv (V.ext z z)<|Ag z<|Ag z<|Nt<|Sq<|Sr<|Mv z<|Mv z ?_
     obtain ⟨dz,bS,H⟩:=bnd H
     refine To (O.callS z (ref06_Work_ok bS _) z fun ea eb ec J bU=>?_)
     obtain ⟨rfl,bV⟩:=bU
     refine Sl_ _ bV<|Ag z<|Nt<|Sr<|Mv z<|Vv (V.gt z z)<|Nt ?_
     obtain ⟨bW,bX,bY⟩:=bndK H
     refine T.cutK (α:=Unit) [1,2,3,4] z (fun _u=>[]) (fun _u=>rowR 26 7 (.slice (some ⟨c,0,none⟩) 1 1) [[.string (⟨#[114]⟩:ByteArray),.int .u8 (4:Int),.int .i64 b,.int .i64 (0:Int),.slice none 0 0,.int .i64 (0:Int),.int .i64 (0:Int)]]::rowR 38 9 a i::blk n (.cells [(.slice (some ⟨c,0,none⟩) 1 1),a,.slice none 0 0,.slice none 0 0,.slice none 0 0].toArray 32)::rowR 9 1 (.slice (some ⟨m,0,none⟩) 7 7) [[.string (⟨#[97]⟩:ByteArray)],[.string (⟨#[98]⟩:ByteArray)],[.string (⟨#[99]⟩:ByteArray)],[.string (⟨#[100]⟩:ByteArray)],[.string (⟨#[101]⟩:ByteArray)],[.string (⟨#[102]⟩:ByteArray)],[.string (⟨#[103]⟩:ByteArray)]]::L) (fun _u hh=>bW = ()) ?_ ?_
     ·have H:=bX
      refine T.cH H z (fun H=>?_) (fun H=>?_)
      ·refine Sr<|Mv z<|Vv (V.ne z z)<|Mv z<|T.bH 50 H z (fun H=>?_) (fun H=>?_)
       ·exact dead H
       refine Mv z<|Vv (V.ne z z)<|Vv (V.pkF z z)<|Nt<|T.cH H z (fun H=>?_) (fun H=>?_)
       ·exact dead H
       refine T.skip<|Th<|T.met () Lr (sinj H) (AllIn.app trivial ⟨z,z,z,z,trivial⟩) z
      refine Sr<|Mv z<|Mv z<|Mv z ?_
      obtain ⟨ed,bZ,H⟩:=bnd H
      refine To (O.callS z (ref06_Tree_ok bZ _) z fun ee ef eg b0 b1=>?_)
      obtain ⟨rfl,b2⟩:=b1
      refine Sl_ _ b2<|Vv (V.ne z z)<|Mv z<|T.bH 59 H z (fun H=>?_) (fun H=>?_)
      ·exact dead H
      refine Mv z<|Vv (V.ne z z)<|Vv (V.pkF z z)<|Nt<|T.cH H z (fun H=>?_) (fun H=>?_)
      ·exact dead H
      refine T.skip<|Th<|T.met () b0 (sinj H) (AllIn.app trivial ⟨z,z,z,z,trivial⟩) z
     rintro _ ao K b3
     have H:=cutE b3 bY
     refine T.norm [1,2,3,4] z<|Sl_ (rowR 26 7 (.slice (some ⟨c,0,none⟩) 1 1) [[.string (⟨#[114]⟩:ByteArray),.int .u8 (4:Int),.int .i64 b,.int .i64 (0:Int),.slice none 0 0,.int .i64 (0:Int),.int .i64 (0:Int)]]::rowR 38 9 a i::blk n (.cells [(.slice (some ⟨c,0,none⟩) 1 1),a,.slice none 0 0,.slice none 0 0,.slice none 0 0].toArray 32)::rowR 9 1 (.slice (some ⟨m,0,none⟩) 7 7) [[.string (⟨#[97]⟩:ByteArray)],[.string (⟨#[98]⟩:ByteArray)],[.string (⟨#[99]⟩:ByteArray)],[.string (⟨#[100]⟩:ByteArray)],[.string (⟨#[101]⟩:ByteArray)],[.string (⟨#[102]⟩:ByteArray)],[.string (⟨#[103]⟩:ByteArray)]]::L) z<|Sr<|Vv (V.fa fdsmall_32_1 z)<|Vv (V.ldO (k:=1) shsmall_28 z (j:=2) z z)<|Ag z<|Nt<|Rg<|Mv z<|Mv z<|Mv z ?_
     obtain ⟨u,aq,H⟩:=bnd H
     have b4:=(((((G.trans B).trans s).trans I).trans J).trans K)
     have ar:=RowF.mono VS.mono bc b4
     obtain ⟨ei,b5,rfl⟩:=RowF.get ar aq
     refine Vv (V.ixR elsmall_22 z z (j:=3) z (RowF.bd ar aq))<|Vv (V.ldR shsmall_9 z (j:=3) z b5 z)<|Vv (V.bld (xs:=[(0,.tmp 69)]) (cs:=[_,_,_,_,_,_,_,_,_]) blsmall_38 bosmall_38 z (Fills.cons z z z Fills.nil))<|To (O.bs elsmall_28 zesmall_38 z (e:=z) (hk:=z) (xs:=[.tmp 70]) (hv:=CO.eq (CO.cons z CO.nil)) (hw:=Wide.of z) (hd:=z) fun b6=>have M:RowF VapiGuest ao [[.string u,.string (⟨#[]⟩:ByteArray),.string (⟨#[]⟩:ByteArray),.int .i64 (0:Int),.int .i64 (0:Int),.string (⟨#[]⟩:ByteArray),.bool false,.bool false,.slice none 0 0]] ([(apiGuest.mk u (⟨#[]⟩:ByteArray) (⟨#[]⟩:ByteArray) (0:Int) (0:Int) (⟨#[]⟩:ByteArray) false false ([]:List ByteArray))]:List apiGuest):=(RowF.cons ⟨(.slice none 0 0),z,Slc.nil⟩ RowF.nil); ?_)
     obtain ⟨au,aw,H⟩:=bnd H
     have b7:=(((s.trans I).trans J).trans K)
     have ax:=RowF.mono VapiGuest.mono ag b7
     refine To (O.apX elsmall_28 elsmall_28 zesmall_38 z z z (j:=2) z (Src.row (j:=0) z) (Wide.of z) (RowF.ones VapiGuest.plain M) ax M aw z fun N ej ek=>have b8:RowF VapiGuest ao (i ++ [[.string u,.string (⟨#[]⟩:ByteArray),.string (⟨#[]⟩:ByteArray),.int .i64 (0:Int),.int .i64 (0:Int),.string (⟨#[]⟩:ByteArray),.bool false,.bool false,.slice none 0 0]]) au:=RowF.ap ax M aw; Sl_ (rowR 38 9 N (i ++ [[.string u,.string (⟨#[]⟩:ByteArray),.string (⟨#[]⟩:ByteArray),.int .i64 (0:Int),.int .i64 (0:Int),.string (⟨#[]⟩:ByteArray),.bool false,.bool false,.slice none 0 0]])::rowR 38 9 (.slice (some ⟨b6,0,none⟩) 1 1) [[.string u,.string (⟨#[]⟩:ByteArray),.string (⟨#[]⟩:ByteArray),.int .i64 (0:Int),.int .i64 (0:Int),.string (⟨#[]⟩:ByteArray),.bool false,.bool false,.slice none 0 0]]::rowR 26 7 (.slice (some ⟨c,0,none⟩) 1 1) [[.string (⟨#[114]⟩:ByteArray),.int .u8 (4:Int),.int .i64 b,.int .i64 (0:Int),.slice none 0 0,.int .i64 (0:Int),.int .i64 (0:Int)]]::blk n (.cells [(.slice (some ⟨c,0,none⟩) 1 1),a,.slice none 0 0,.slice none 0 0,.slice none 0 0].toArray 32)::rowR 9 1 (.slice (some ⟨m,0,none⟩) 7 7) [[.string (⟨#[97]⟩:ByteArray)],[.string (⟨#[98]⟩:ByteArray)],[.string (⟨#[99]⟩:ByteArray)],[.string (⟨#[100]⟩:ByteArray)],[.string (⟨#[101]⟩:ByteArray)],[.string (⟨#[102]⟩:ByteArray)],[.string (⟨#[103]⟩:ByteArray)]]::L) z<|Fr_ 1 z<|T.fl ?_)
     refine T.drop<|Vv (V.fa fdsmall_32_1 rfl)<|T.rowOne 0 rfl fun b9 bh=>To (O.st (vs:=[N]) (k:=1) shsmall_28 rfl rfl (j:=2) rfl bh (by (simp only [Sl.ones,b9,Bool.and_true,Bool.true_and]) <;> rfl) ?_)
     refine T.fl ?_
     refine Ni<|Bn<|Th<|Rg<|Mv z ?_
     obtain ⟨bl,bv,H⟩:=bnd H
     refine Vv (V.addS z z bv)<|Ag z<|Nt<|Fr_ 1 z<|T.fl ?_
     refine Fr_ 3 z<|T.fl ?_
     refine Fr_ 3 z<|T.fl ?_
     refine Fr_ 3 z<|T.fl ?_
     have bz:=((((B.trans s).trans I).trans J).trans K)
     exact T.again (br,au,bl,N,(i ++ [[.string u,.string (⟨#[]⟩:ByteArray),.string (⟨#[]⟩:ByteArray),.int .i64 (0:Int),.int .i64 (0:Int),.string (⟨#[]⟩:ByteArray),.bool false,.bool false,.slice none 0 0]])) bz (Nat.lt_succ_self _) ⟨(iterK_in H ai),b8⟩ (AllIn.app ⟨z,trivial⟩ ⟨z,z,z,trivial⟩) z
    refine T.exit<|Te<|Te<|have H:=iterK_out H ai; Be<|Th<|T.drop<|T.drop<|Fr_ 1 z<|T.drop<|have ca:=(B.trans s); T.met () ca H (AllIn.app trivial ⟨z,z,trivial⟩) z
   rintro _ em cb cc
   have H:=cutE cc bo
   refine T.norm [1,2] z<|Sl_ (rowR 9 1 (.slice (some ⟨m,0,none⟩) 7 7) [[.string (⟨#[97]⟩:ByteArray)],[.string (⟨#[98]⟩:ByteArray)],[.string (⟨#[99]⟩:ByteArray)],[.string (⟨#[100]⟩:ByteArray)],[.string (⟨#[101]⟩:ByteArray)],[.string (⟨#[102]⟩:ByteArray)],[.string (⟨#[103]⟩:ByteArray)]]::L) z<|Bn<|Th<|Rg<|Mv z ?_
   obtain ⟨cd,ce,H⟩:=bnd H
   refine Vv (V.addS z z ce)<|Ag z<|Nt<|have cf:=(G.trans cb); T.again (bi,cd) cf (Nat.lt_succ_self _) (iterK_in H ae) (AllIn.app ⟨z,trivial⟩ ⟨z,trivial⟩) z
  refine T.exit<|Te<|Te<|have H:=iterK_out H ae; Be<|Th<|T.drop<|T.met () G H (AllIn.app trivial trivial) z
 rintro _ cg ci cj
 have H:=cutE cj bf
 refine T.norm [] rfl<|Sl_ (L) rfl<|Sr<|Vv (V.bld (xs:=[(0,.const (.int .u8 (15))),(5,.const (.int .i64 (1)))]) (cs:=[_,_,_,_,_,_]) blsmall_41 bosmall_41 rfl (Fills.cons rfl rfl rfl (Fills.cons rfl rfl rfl Fills.nil)))<|To (O.bs elsmall_30 zesmall_41 rfl (e:=rfl) (hk:=rfl) (xs:=[.tmp 74]) (hv:=CO.eq (CO.cons rfl CO.nil)) (hw:=Wide.of rfl) (hd:=rfl) fun A=>have ck:RowF VapiRule cg [[.int .u8 (15:Int),.int .i64 (0:Int),.string (⟨#[]⟩:ByteArray),.string (⟨#[]⟩:ByteArray),.string (⟨#[]⟩:ByteArray),.int .i64 (1:Int)]] ([(apiRule.mk (15:Int) (0:Int) (⟨#[]⟩:ByteArray) (⟨#[]⟩:ByteArray) (⟨#[]⟩:ByteArray) (1:Int))]:List apiRule):=(RowF.cons rfl RowF.nil); T.rowOne 0 rfl fun en cm=>Vv (V.bld (xs:=[(4,.tmp 75)]) (cs:=[_,_,_,_,_]) blsmall_32 bosmall_32 rfl (Fills.cons rfl cm rfl Fills.nil))<|To (O.alloc zesmall_32 rfl rfl fun eo=>Fr_ 1 z<|T.rowFix fun ep ay cn=>have co:=RowF.mono VapiRule.mono ck ay; have aA:=RowF.slc cn co; To (O.stF (vs:=[.slice none 0 0,.slice none 0 0,.slice none 0 0,.slice none 0 0,(.slice (some ⟨A,0,none⟩) 1 1)]) shsmall_32 rfl rfl (j:=0) rfl rfl (by (simp only [Sl.ones,Slc.one aA,Bool.and_true,Bool.true_and]) <;> rfl) rfl ?_)))
 refine T.freeze fun cp aB cq=>have aC:=AtC.of cq; Nt<|Sr<|Vv (V.ldS rfl aC (by exact shsmall_32)) ?_
 have aD:=Slc.mono VapiRule.mono aA aB
 obtain ⟨⟨er,es,et⟩,cr,H⟩:=bnd H
 refine To (O.callS z (search_Count_ok (show VapiProblem cp [.slice none 0 0,.slice none 0 0,.slice none 0 0,.slice none 0 0,(.slice (some ⟨A,0,none⟩) 1 1)] (apiProblem.mk ([]:List apiTable) ([]:List apiGuest) ([]:List apiTie) ([]:List Int) [(apiRule.mk (15:Int) (0:Int) (⟨#[]⟩:ByteArray) (⟨#[]⟩:ByteArray) (⟨#[]⟩:ByteArray) (1:Int))]) from ⟨(.slice none 0 0),(.slice none 0 0),(.slice none 0 0),(.slice none 0 0),(.slice (some ⟨A,0,none⟩) 1 1),z,Slc.nil,Slc.nil,Slc.nil,Slc.nil,aD⟩) cr _) z fun eu ct ew P cu=>?_)
 obtain ⟨rfl,cw⟩:=cu
 refine Sl_ _ cw<|Mv z<|Vv (V.ext rfl rfl)<|Vv (V.ext rfl rfl)<|Vv (V.ext rfl rfl)<|Ag z<|Ag z<|Ag z<|Nt<|Sr<|have cx:=aC.mono P; Vv (V.ldS rfl cx (by exact shsmall_32)) ?_
 have cy:=Slc.mono VapiRule.mono aD P
 obtain ⟨⟨ex,ey⟩,cA,H⟩:=bnd H
 refine To (O.callS z (search_First_ok (show VapiProblem ct [.slice none 0 0,.slice none 0 0,.slice none 0 0,.slice none 0 0,(.slice (some ⟨A,0,none⟩) 1 1)] (apiProblem.mk ([]:List apiTable) ([]:List apiGuest) ([]:List apiTie) ([]:List Int) [(apiRule.mk (15:Int) (0:Int) (⟨#[]⟩:ByteArray) (⟨#[]⟩:ByteArray) (⟨#[]⟩:ByteArray) (1:Int))]) from ⟨(.slice none 0 0),(.slice none 0 0),(.slice none 0 0),(.slice none 0 0),(.slice (some ⟨A,0,none⟩) 1 1),z,Slc.nil,Slc.nil,Slc.nil,Slc.nil,cy⟩) cA _) z fun eA aE eB cB cC=>?_)
 obtain ⟨eC,rfl,cD,cE⟩:=cC
 refine Sl_ _ cD<|Mv z<|Vv (V.ext z z)<|Vv (V.ext z z)<|Ag z<|Ag z<|Nt<|Sq<|Sr<|Mv z<|Vv (V.ne z z)<|Mv z<|T.bH 90 H z (fun H=>?_) (fun H=>?_)
 ·exact dead H
 refine Mv z<|Vv (V.ne z z)<|Vv (V.pkF z z)<|Mv z<|T.bH 94 H z (fun H=>?_) (fun H=>?_)
 ·exact dead H
 refine Mv z<|Vv (V.ne z z)<|Vv (V.pkF z z)<|Mv z<|T.bH 98 H z (fun H=>?_) (fun H=>?_)
 ·exact dead H
 refine Mv z<|Vv (V.lenS elsmall_24 z cE)<|Vv (V.ne z z)<|Vv (V.pkF z z)<|Mv z<|T.bH 103 H z (fun H=>?_) (fun H=>?_)
 ·exact dead H
 refine Mv z<|Vv (V.ne z z)<|Vv (V.pkF z z)<|Nt<|T.cH H z (fun H=>?_) (fun H=>?_)
 ·exact dead H
 refine T.skip<|Th<|Sq<|T.norm [] z<|Rg<|Vv (V.bld (xs:=[(0,.const (.string ⟨#[114]⟩)),(1,.const (.int .u8 (1))),(2,.const (.int .i64 (3)))]) (cs:=[_,_,_,_,_,_,_]) blsmall_26 bosmall_26 z (Fills.cons z z z (Fills.cons z z z (Fills.cons z z z Fills.nil))))<|To (O.bs elsmall_27 zesmall_26 z (e:=z) (hk:=z) (xs:=[.tmp 107]) (hv:=CO.eq (CO.cons z CO.nil)) (hw:=Wide.of z) (hd:=z) fun d=>have cG:RowF VapiTable aE [[.string (⟨#[114]⟩:ByteArray),.int .u8 (1:Int),.int .i64 (3:Int),.int .i64 (0:Int),.slice none 0 0,.int .i64 (0:Int),.int .i64 (0:Int)]] ([(apiTable.mk (⟨#[114]⟩:ByteArray) (1:Int) (3:Int) (0:Int) ([]:List Int) (0:Int) (0:Int))]:List apiTable):=(RowF.cons ⟨(.slice none 0 0),z,Slc.nil⟩ RowF.nil); Vv (V.bld (xs:=[(0,.const (.int .u8 (15))),(5,.const (.int .i64 (1)))]) (cs:=[_,_,_,_,_,_]) blsmall_41 bosmall_41 z (Fills.cons z z z (Fills.cons z z z Fills.nil)))<|To (O.bs elsmall_30 zesmall_41 z (e:=z) (hk:=z) (xs:=[.tmp 109]) (hv:=CO.eq (CO.cons z CO.nil)) (hw:=Wide.of z) (hd:=z) fun f=>have cI:RowF VapiRule aE [[.int .u8 (15:Int),.int .i64 (0:Int),.string (⟨#[]⟩:ByteArray),.string (⟨#[]⟩:ByteArray),.string (⟨#[]⟩:ByteArray),.int .i64 (1:Int)]] ([(apiRule.mk (15:Int) (0:Int) (⟨#[]⟩:ByteArray) (⟨#[]⟩:ByteArray) (⟨#[]⟩:ByteArray) (1:Int))]:List apiRule):=(RowF.cons z RowF.nil); T.rowOne 0 z fun eD cJ=>T.rowOne 1 z fun eE cK=>Vv (V.bld (xs:=[(0,.tmp 108),(4,.tmp 110)]) (cs:=[_,_,_,_,_]) blsmall_32 bosmall_32 z (Fills.cons z cK z (Fills.cons z cJ z Fills.nil)))<|To (O.alloc zesmall_32 z z fun eG=>Fr_ 2 z<|T.fl ?_)))
 refine T.rowFix fun eI S cM=>have cN:=RowF.mono VapiTable.mono cG S; have cO:=RowF.slc cM cN; Fr_ 1 z<|T.rowFix fun eJ U cP=>have cS:=(S.trans U); have cU:=RowF.mono VapiRule.mono cI cS; have aG:=RowF.slc cP cU; have aI:=Slc.mono VapiTable.mono cO U; To (O.stF (vs:=[(.slice (some ⟨d,0,none⟩) 1 1),.slice none 0 0,.slice none 0 0,.slice none 0 0,(.slice (some ⟨f,0,none⟩) 1 1)]) shsmall_32 rfl rfl (j:=0) rfl rfl (by (simp only [Sl.ones,Slc.one aI,Slc.one aG,Bool.and_true,Bool.true_and]) <;> rfl) rfl ?_)
 refine T.freeze fun cV W cW=>have aJ:=AtC.of cW; Nt<|Sr<|Vv (V.ldS rfl aJ (by exact shsmall_32)) ?_
 have aK:=Slc.mono VapiTable.mono aI W
 have aM:=Slc.mono VapiRule.mono aG W
 obtain ⟨⟨eK,eM,eN⟩,cX,H⟩:=bnd H
 refine To (O.callS z (search_Count_ok (show VapiProblem cV [(.slice (some ⟨d,0,none⟩) 1 1),.slice none 0 0,.slice none 0 0,.slice none 0 0,(.slice (some ⟨f,0,none⟩) 1 1)] (apiProblem.mk [(apiTable.mk (⟨#[114]⟩:ByteArray) (1:Int) (3:Int) (0:Int) ([]:List Int) (0:Int) (0:Int))] ([]:List apiGuest) ([]:List apiTie) ([]:List Int) [(apiRule.mk (15:Int) (0:Int) (⟨#[]⟩:ByteArray) (⟨#[]⟩:ByteArray) (⟨#[]⟩:ByteArray) (1:Int))]) from ⟨(.slice (some ⟨d,0,none⟩) 1 1),(.slice none 0 0),(.slice none 0 0),(.slice none 0 0),(.slice (some ⟨f,0,none⟩) 1 1),z,aK,Slc.nil,Slc.nil,Slc.nil,aM⟩) cX _) z fun eO cY eP C cZ=>?_)
 obtain ⟨rfl,c0⟩:=cZ
 refine Sl_ _ c0<|Mv z<|Vv (V.ext rfl rfl)<|Vv (V.ext rfl rfl)<|Vv (V.ext rfl rfl)<|Ag z<|Ag z<|Ag z<|Nt<|Sr<|have aN:=aJ.mono C; Vv (V.ldS rfl aN (by exact shsmall_32)) ?_
 have aO:=Slc.mono VapiTable.mono aK C
 have aP:=Slc.mono VapiRule.mono aM C
 obtain ⟨⟨eS,eU⟩,c1,H⟩:=bnd H
 refine To (O.callS z (search_First_ok (show VapiProblem cY [(.slice (some ⟨d,0,none⟩) 1 1),.slice none 0 0,.slice none 0 0,.slice none 0 0,(.slice (some ⟨f,0,none⟩) 1 1)] (apiProblem.mk [(apiTable.mk (⟨#[114]⟩:ByteArray) (1:Int) (3:Int) (0:Int) ([]:List Int) (0:Int) (0:Int))] ([]:List apiGuest) ([]:List apiTie) ([]:List Int) [(apiRule.mk (15:Int) (0:Int) (⟨#[]⟩:ByteArray) (⟨#[]⟩:ByteArray) (⟨#[]⟩:ByteArray) (1:Int))]) from ⟨(.slice (some ⟨d,0,none⟩) 1 1),(.slice none 0 0),(.slice none 0 0),(.slice none 0 0),(.slice (some ⟨f,0,none⟩) 1 1),z,aO,Slc.nil,Slc.nil,Slc.nil,aP⟩) c1 _) z fun eV c2 eW D c3=>?_)
 obtain ⟨eX,rfl,c4,eY⟩:=c3
 refine Sl_ _ c4<|Mv z<|Vv (V.ext rfl rfl)<|Vv (V.ext rfl rfl)<|Ag z<|Nt<|Sr<|have aS:=aN.mono D; Vv (V.ldS rfl aS (by exact shsmall_32)) ?_
 have aU:=Slc.mono VapiTable.mono aO D
 have aV:=Slc.mono VapiRule.mono aP D
 obtain ⟨⟨eZ,e0⟩,c5,H⟩:=bnd H
 refine To (O.callS z (search_Prove_ok (show VapiProblem c2 [(.slice (some ⟨d,0,none⟩) 1 1),.slice none 0 0,.slice none 0 0,.slice none 0 0,(.slice (some ⟨f,0,none⟩) 1 1)] (apiProblem.mk [(apiTable.mk (⟨#[114]⟩:ByteArray) (1:Int) (3:Int) (0:Int) ([]:List Int) (0:Int) (0:Int))] ([]:List apiGuest) ([]:List apiTie) ([]:List Int) [(apiRule.mk (15:Int) (0:Int) (⟨#[]⟩:ByteArray) (⟨#[]⟩:ByteArray) (⟨#[]⟩:ByteArray) (1:Int))]) from ⟨(.slice (some ⟨d,0,none⟩) 1 1),(.slice none 0 0),(.slice none 0 0),(.slice none 0 0),(.slice (some ⟨f,0,none⟩) 1 1),z,aU,Slc.nil,Slc.nil,Slc.nil,aV⟩) c5 _) z fun e1 c6 e2 X c7=>?_)
 obtain ⟨aW,aX,rfl,c8,c9⟩:=c7
 refine Sl_ _ c8<|Mv z<|Vv (V.ext rfl rfl)<|Vv (V.ext rfl rfl)<|Ag z<|Ag z<|Nt<|Sr<|have aY:=aS.mono X; Vv (V.ldS rfl aY (by exact shsmall_32)) ?_
 refine Vv (V.bld (xs:=[(0,.const (.int .u8 (2)))]) (cs:=[_,_]) blsmall_52 bosmall_52 z (Fills.cons z z z Fills.nil))<|To (O.bs elsmall_46 zesmall_52 z (e:=z) (hk:=z) (xs:=[.tmp 130]) (hv:=CO.eq (CO.cons z CO.nil)) (hw:=Wide.of z) (hd:=z) fun e3=>have ch:RowF VapiStep c6 [[.int .u8 (2:Int),.int .i64 (0:Int)]] ([(apiStep.mk (2:Int) (0:Int))]:List apiStep):=(RowF.cons z RowF.nil); T.rowFix fun cl E cv=>have cz:=RowF.mono VapiStep.mono ch E; have da:=RowF.slc cv cz; have aZ:=(X.trans E); have a0:=Slc.mono VapiTable.mono aU aZ; have a1:=Slc.mono VapiRule.mono aV aZ; ?_)
 obtain ⟨⟨e4,e5⟩,db,H⟩:=bnd H
 refine To (O.callS z (search_Verify_ok (show VapiProblem cl [(.slice (some ⟨d,0,none⟩) 1 1),.slice none 0 0,.slice none 0 0,.slice none 0 0,(.slice (some ⟨f,0,none⟩) 1 1)] (apiProblem.mk [(apiTable.mk (⟨#[114]⟩:ByteArray) (1:Int) (3:Int) (0:Int) ([]:List Int) (0:Int) (0:Int))] ([]:List apiGuest) ([]:List apiTie) ([]:List Int) [(apiRule.mk (15:Int) (0:Int) (⟨#[]⟩:ByteArray) (⟨#[]⟩:ByteArray) (⟨#[]⟩:ByteArray) (1:Int))]) from ⟨(.slice (some ⟨d,0,none⟩) 1 1),(.slice none 0 0),(.slice none 0 0),(.slice none 0 0),(.slice (some ⟨f,0,none⟩) 1 1),z,a0,Slc.nil,Slc.nil,Slc.nil,a1⟩) da db _) z fun e6 dc e7 Y dd=>?_)
 obtain ⟨rfl,de⟩:=dd
 refine Sl_ _ de<|Mv z<|Vv (V.ext z z)<|Vv (V.ext z z)<|Ag z<|Ag z<|Nt<|Sq<|Sq<|T.norm [10,11,12,14,15,16,17,18,19] z<|Sl_ (rowR 52 2 aW aX::L) z<|Rg<|Mv z<|Mv z ?_
 obtain ⟨e8,df,H⟩:=bnd H
 refine Vv (V.addS z z df)<|Vv (V.ne z z)<|Mv z<|T.bH 139 H z (fun H=>?_) (fun H=>?_)
 ·exact dead H
 refine Mv z<|Vv (V.ne z z)<|Vv (V.pkF z z)<|Mv z<|T.bH 143 H z (fun H=>?_) (fun H=>?_)
 ·exact dead H
 refine Mv z<|Vv (V.ne z z)<|Vv (V.pkF z z)<|Mv z<|T.bH 147 H z (fun H=>?_) (fun H=>?_)
 ·exact dead H
 refine Mv z<|Vv (V.ne z z)<|Vv (V.pkF z z)<|Mv z<|T.bH 151 H z (fun H=>?_) (fun H=>?_)
 ·exact dead H
 refine Mv z<|have a2:=(E.trans Y); have dg:=RowF.mono VapiStep.mono c9 a2; Vv (V.lenX elsmall_46 z (j:=0) z dg.len)<|Vv (V.ne z z)<|Vv (V.pkF z z)<|Mv z<|T.bH 156 H z (fun H=>?_) (fun H=>?_)
 ·exact dead H
 refine Mv z<|Vv (V.ne z z)<|Vv (V.pkF z z)<|Mv z<|T.bH 160 H z (fun H=>?_) (fun H=>?_)
 ·exact dead H
 refine Mv z<|Vv (V.ne z z)<|Vv (V.pkF z z)<|Nt<|T.cH H z (fun H=>?_) (fun H=>?_)
 ·exact dead H
 refine T.skip<|Th<|Sq<|T.drawF (t:=(.v 0 (.alt 1 (.alt 2 (.g (.v 3 (.v 4 (.v 5 (.alt 6 (.alt 7 .done .no) .no))))) .no) .no))) 9 0 0 rfl rfl smallmixed (by kernel_rfl) ?_
 have a3:=aY.mono a2
 refine Tv z (V.ldS rfl a3 (by exact shsmall_32)) ?_
 obtain ⟨di,a4,H⟩:=bnd H
 refine Tp z z (SX.two (XA.fr [] Lr z) (XA.fr [] Lr z)) (O.mkX elsmall_46 zesmall_52 z z z z a4 z fun e9 eh el=>?_) T.tno
 have dj:RowF VapiStep dc _ di:=RowF.rep z a4
 refine T.rowFix fun dk w dm=>have dn:=RowF.mono VapiStep.mono dj w; have dp:=RowF.slc dm dn; have a5:=(Y.trans w); have a6:=Slc.mono VapiTable.mono a0 a5; have a7:=Slc.mono VapiRule.mono a1 a5; ?_
 obtain ⟨⟨ev,ez⟩,dq,H⟩:=bnd H
 refine Tp z z (SX.two (XA.fr [] w z) (XA.fr [] w z)) (O.callS z (search_Verify_ok (show VapiProblem dk [(.slice (some ⟨d,0,none⟩) 1 1),.slice none 0 0,.slice none 0 0,.slice none 0 0,(.slice (some ⟨f,0,none⟩) 1 1)] (apiProblem.mk [(apiTable.mk (⟨#[114]⟩:ByteArray) (1:Int) (3:Int) (0:Int) ([]:List Int) (0:Int) (0:Int))] ([]:List apiGuest) ([]:List apiTie) ([]:List Int) [(apiRule.mk (15:Int) (0:Int) (⟨#[]⟩:ByteArray) (⟨#[]⟩:ByteArray) (⟨#[]⟩:ByteArray) (1:Int))]) from ⟨(.slice (some ⟨d,0,none⟩) 1 1),(.slice none 0 0),(.slice none 0 0),(.slice none 0 0),(.slice (some ⟨f,0,none⟩) 1 1),z,a6,Slc.nil,Slc.nil,Slc.nil,a7⟩) dp dq _) z fun fb dr fc Z ds=>?_) T.tno
 obtain ⟨rfl,dt⟩:=ds
 refine Sl_ _ dt<|have a8:=(w.trans Z); T.tgrow a8<|Tm z z<|Tv z (V.ext z z)<|Tv z (V.ext z z)<|Ts z z (SX.two (XA.fr [] Lr z) (XA.fr [] Lr z)) (V.asg z) z ?_ T.tno
 refine Ts z z (SX.two (XA.fr [] Lr z) (XA.fr [] Lr z)) (V.asg z) z ?_ T.tno
 refine T.tnil (SX.two (XA.fr [] Lr z) (XA.fr [] Lr z))<|Th<|Sq<|Sq<|T.norm [15,18,19] z<|Sl_ (rowR 52 2 aW aX::L) z<|Rg<|Mv z<|Vv (V.ne z z)<|Mv z<|T.bH 172 H z (fun H=>?_) (fun H=>?_)
 ·exact dead H
 refine Mv z<|Vv (V.ne z z)<|Vv (V.pkF z z)<|Nt<|T.cH H z (fun H=>?_) (fun H=>?_)
 ·exact dead H
 refine T.skip<|Th<|Sq<|T.drawF (t:=(.v 0 (.alt 1 (.alt 2 (.g (.v 3 (.v 4 (.v 5 (.alt 6 (.alt 7 .done .no) .no))))) .no) .no))) 9 0 0 rfl rfl smallmixed (by kernel_rfl) ?_
 have a9:=a3.mono a8
 refine Tv z (V.ldS rfl a9 (by exact shsmall_32)) ?_
 obtain ⟨du,ah,H⟩:=bnd H
 refine Tp z z (SX.two (XA.fr [] Lr z) (XA.fr [] Lr z)) (O.mkX elsmall_46 zesmall_52 z z z z ah z fun fd fe ff=>?_) T.tno
 have dw:RowF VapiStep dr _ du:=RowF.rep z ah
 refine T.rowFix fun dx x dy=>have dA:=RowF.mono VapiStep.mono dw x; have dB:=RowF.slc dy dA; have al:=(Z.trans x); have av:=Slc.mono VapiTable.mono a6 al; have az:=Slc.mono VapiRule.mono a7 al; ?_
 obtain ⟨⟨fg,fi⟩,dC,H⟩:=bnd H
 refine Tp z z (SX.two (XA.fr [] x z) (XA.fr [] x z)) (O.callS z (search_Verify_ok (show VapiProblem dx [(.slice (some ⟨d,0,none⟩) 1 1),.slice none 0 0,.slice none 0 0,.slice none 0 0,(.slice (some ⟨f,0,none⟩) 1 1)] (apiProblem.mk [(apiTable.mk (⟨#[114]⟩:ByteArray) (1:Int) (3:Int) (0:Int) ([]:List Int) (0:Int) (0:Int))] ([]:List apiGuest) ([]:List apiTie) ([]:List Int) [(apiRule.mk (15:Int) (0:Int) (⟨#[]⟩:ByteArray) (⟨#[]⟩:ByteArray) (⟨#[]⟩:ByteArray) (1:Int))]) from ⟨(.slice (some ⟨d,0,none⟩) 1 1),(.slice none 0 0),(.slice none 0 0),(.slice none 0 0),(.slice (some ⟨f,0,none⟩) 1 1),z,av,Slc.nil,Slc.nil,Slc.nil,az⟩) dB dC _) z fun fj dD fk aa dE=>?_) T.tno
 obtain ⟨rfl,dG⟩:=dE
 refine Sl_ _ dG<|have ba:=(x.trans aa); T.tgrow ba<|Tm z z<|Tv z (V.ext z z)<|Tv z (V.ext z z)<|Ts z z (SX.two (XA.fr [] Lr z) (XA.fr [] Lr z)) (V.asg z) z ?_ T.tno
 refine Ts z z (SX.two (XA.fr [] Lr z) (XA.fr [] Lr z)) (V.asg z) z ?_ T.tno
 refine T.tnil (SX.two (XA.fr [] Lr z) (XA.fr [] Lr z))<|Th<|Sq<|Sr<|Mv z<|Vv (V.ne z z)<|Mv z<|T.bH 184 H z (fun H=>?_) (fun H=>?_)
 ·exact dead H
 refine Mv z<|Vv (V.ne z z)<|Vv (V.pkF z z)<|Nt<|T.cH H z (fun H=>?_) (fun H=>?_)
 ·exact dead H
 refine T.skip<|Th<|Sr<|have dI:=a9.mono ba; Vv (V.ldS rfl dI (by exact shsmall_32)) ?_
 refine Vv (V.bld (xs:=[(0,.const (.int .u8 (3))),(1,.const (.int .i64 (7)))]) (cs:=[_,_]) blsmall_52 bosmall_52 z (Fills.cons z z z (Fills.cons z z z Fills.nil)))<|Vv (V.bld (xs:=[(0,.const (.int .u8 (3)))]) (cs:=[_,_]) blsmall_52 bosmall_52 z (Fills.cons z z z Fills.nil))<|To (O.bs elsmall_46 zesmall_52 z (e:=z) (hk:=z) (xs:=[.tmp 190,.tmp 191]) (hv:=CO.eq (CO.cons z (CO.cons z CO.nil))) (hw:=Wide.of z) (hd:=z) fun fm=>have dJ:RowF VapiStep dD [[.int .u8 (3:Int),.int .i64 (7:Int)],[.int .u8 (3:Int),.int .i64 (0:Int)]] ([(apiStep.mk (3:Int) (7:Int)),(apiStep.mk (3:Int) (0:Int))]:List apiStep):=(RowF.cons z (RowF.cons z RowF.nil)); T.rowFix fun dK ab dM=>have dN:=RowF.mono VapiStep.mono dJ ab; have dO:=RowF.slc dM dN; have bb:=(aa.trans ab); have dP:=Slc.mono VapiTable.mono av bb; have dS:=Slc.mono VapiRule.mono az bb; ?_)
 obtain ⟨⟨fn,fo⟩,dU,H⟩:=bnd H
 refine To (O.callS z (search_Verify_ok (show VapiProblem dK [(.slice (some ⟨d,0,none⟩) 1 1),.slice none 0 0,.slice none 0 0,.slice none 0 0,(.slice (some ⟨f,0,none⟩) 1 1)] (apiProblem.mk [(apiTable.mk (⟨#[114]⟩:ByteArray) (1:Int) (3:Int) (0:Int) ([]:List Int) (0:Int) (0:Int))] ([]:List apiGuest) ([]:List apiTie) ([]:List Int) [(apiRule.mk (15:Int) (0:Int) (⟨#[]⟩:ByteArray) (⟨#[]⟩:ByteArray) (⟨#[]⟩:ByteArray) (1:Int))]) from ⟨(.slice (some ⟨d,0,none⟩) 1 1),(.slice none 0 0),(.slice none 0 0),(.slice none 0 0),(.slice (some ⟨f,0,none⟩) 1 1),z,dP,Slc.nil,Slc.nil,Slc.nil,dS⟩) dO dU _) z fun fp fq fs dV dW=>?_)
 obtain ⟨rfl,dX⟩:=dW
 refine Sl_ _ dX<|Mv z<|Vv (V.ext z z)<|Vv (V.ext z z)<|Ag z<|Ag z<|Nt<|Sr<|Mv z<|Vv (V.eq z z)<|Mv z<|T.bH 198 H z (fun H=>?_) (fun H=>?_)
 ·refine Mv z<|Vv (V.eq z z)<|Vv (V.pkT z z)<|Mv z<|T.bH 202 H z (fun H=>?_) (fun H=>?_)
  ·obtain ⟨ft,dY,H⟩:=bnd H
   refine To (O.callS z (law06_awake_ok dY _) z fun fu fw fx dZ d0=>?_)
   obtain ⟨rfl,d1⟩:=d0
   refine Sl_ _ d1<|Vv (V.pkT z z)<|Ag z<|Nt<|T.ret<|T.drop ?_
   obtain rfl:=Option.some.inj H
   have d2:=(((((((((((((((((((ci.trans ay).trans aB).trans P).trans cB).trans S).trans U).trans W).trans C).trans D).trans X).trans E).trans Y).trans w).trans Z).trans x).trans aa).trans ab).trans dV).trans dZ)
   exact T.retL Tryz.results3 (Rv z) d2 ⟨z,z⟩
  exact dead H
 exact dead H
end Go.Proofs.X
