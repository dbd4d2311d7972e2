import Derived.Test.YteaklbinndmohaaGreatDoorChecked
import Derived.KernelRfl
import Derived.Test.YteaklbinndmohaaGreatDoorV
import Derived.Test.YteaklbinndmohaaGreatDoorL9
import Derived.Test.YteaklbinndmohaaGreatDoorDa
import Derived.Test.YteaklbinndmohaaGreatDoorL10
import Derived.Test.YteaklbinndmohaaGreatDoorWb
/- The walks: each function computes what its Lean function says. -/
set_option maxRecDepth 1000000
set_option maxHeartbeats 40000000
set_option linter.unusedVariables false
set_option linter.unusedSimpArgs false
set_option linter.unnecessarySimpa false
open Go Go.Proofs Go.Sl Go.Dm
namespace Go.Proofs.X
theorem search6mixed : Tryz.prog.follows .mixedOrders = true := by kernel_rfl
theorem blsearch6_194 : bldSh Tryz.prog 194 = some ([.pointer none, .int .i64 (0), .slice none 0 0, .slice none 0 0], [(0, 1), (1, 1), (2, 1), (3, 1)]) := by kernel_rfl
theorem blsearch6_201 : bldSh Tryz.prog 201 = some ([.int .u8 (0), .int .i64 (0)], [(0, 1), (1, 1)]) := by kernel_rfl
theorem bosearch6_194 : fieldsOK Tryz.prog 194 = true := by kernel_rfl
theorem bosearch6_201 : fieldsOK Tryz.prog 201 = true := by kernel_rfl
theorem elsearch6_106 : elSh Tryz.prog 106 = some (25, 1, 24) := by kernel_rfl
theorem elsearch6_195 : elSh Tryz.prog 195 = some (106, 1, 24) := by kernel_rfl
theorem elsearch6_25 : elSh Tryz.prog 25 = some (3, 1, 8) := by kernel_rfl
theorem elsearch6_80 : elSh Tryz.prog 80 = some (201, 2, 16) := by kernel_rfl
theorem fdsearch6_194_0 : fldOf Tryz.prog 194 0 = some 0 := by kernel_rfl
theorem fdsearch6_194_1 : fldOf Tryz.prog 194 1 = some 1 := by kernel_rfl
theorem fdsearch6_194_2 : fldOf Tryz.prog 194 2 = some 2 := by kernel_rfl
theorem fdsearch6_194_3 : fldOf Tryz.prog 194 3 = some 3 := by kernel_rfl
theorem fdsearch6_197_0 : fldOf Tryz.prog 197 0 = some 0 := by kernel_rfl
theorem fdsearch6_197_2 : fldOf Tryz.prog 197 2 = some 6 := by kernel_rfl
theorem fdsearch6_197_4 : fldOf Tryz.prog 197 4 = some 8 := by kernel_rfl
theorem shsearch6_106 : tySh Tryz.prog 106 = some (false, 1) := by kernel_rfl
theorem shsearch6_116 : tySh Tryz.prog 116 = some (false, 1) := by kernel_rfl
theorem shsearch6_195 : tySh Tryz.prog 195 = some (false, 1) := by kernel_rfl
theorem shsearch6_25 : tySh Tryz.prog 25 = some (false, 1) := by kernel_rfl
theorem shsearch6_28 : tySh Tryz.prog 28 = some (true, 5) := by kernel_rfl
theorem shsearch6_3 : tySh Tryz.prog 3 = some (false, 1) := by kernel_rfl
theorem shsearch6_67 : tySh Tryz.prog 67 = some (false, 1) := by kernel_rfl
theorem shsearch6_80 : tySh Tryz.prog 80 = some (false, 1) := by kernel_rfl
theorem zesearch6_201 : zer Tryz.prog 201 = some (.agg #[.int .u8 (0), .int .i64 (0)]) := by kernel_rfl
theorem hunt_turned_ok {h:PH} {pv0:Value} {h1:searchhunt} (pr0:Pt Vsearchhunt h pv0 h1) {pv1:Value} {part2:List Int} (pr1:Slc (VI .i64) 1 h pv1 part2) {g3:Int} {r_0:Int} (H:hunt_turned h1 part2 g3 = some r_0):∀ L,FnS Tryz.prog 225 [pv0,pv1,.int .i64 g3] h (L) (fun v h' L'=>v = .int .i64 r_0∧L' = L):=by
 intro L
 refine FnS.enter Tryz.func225 rfl Tryz.ntmps225 rfl<|Sr<|Ag z<|Nt<|Sq<|T.drawF (t:=(.v 0 (.v 1 (.v 2 (.v 3 (.v 4 (.v 5 (.v 6 (.v 7 (.v 8 (.v 9 (.alt 10 .done .no)))))))))))) 12 0 0 rfl rfl search6mixed (by kernel_rfl) ?_
 refine Tm z z<|have A:=pr0; ?_
 obtain ⟨aA,_,rfl,d,⟨g,i,j,m,n,o,p,q,r,rfl,B,C,D,E,G,I,e,J,f⟩⟩:=A
 refine Tv z (V.nck z)<|Tv z (V.fa fdsearch6_197_2 z)<|Tv z (V.ldf (k:=6) shsearch6_25 z d z)<|Tm z z<|Tm z z ?_
 obtain ⟨aB,s,H⟩:=bnd H
 obtain ⟨aC,K,rfl⟩:=Slc.at pr1 s
 refine Tv z (V.ix elsearch6_25 z z pr1 (getI_bd s))<|Tv z (V.ld0 shsearch6_3 z K z) ?_
 obtain ⟨aD,u,H⟩:=bnd H
 obtain ⟨aE,M,rfl⟩:=Slc.at e u
 refine Tv z (V.ix elsearch6_25 z z e (getI_bd u))<|Tv z (V.ld0 shsearch6_3 z M z)<|Ts z z (SX.two (XA.fr [] Lr z) (XA.fr [] Lr z)) (V.asg z) z ?_ T.tno
 refine T.tnil (SX.two (XA.fr [] Lr z) (XA.fr [] Lr z))<|Th<|Sq<|Sr<|Mv z<|Vv (V.nck z)<|Vv (V.fa fdsearch6_197_4 z)<|Vv (V.ldf (k:=8) shsearch6_195 z d z)<|Mv z ?_
 obtain ⟨N,w,H⟩:=bnd H
 obtain ⟨aG,P,⟨aI,rfl,S⟩⟩:=Slc.at f w
 refine Vv (V.ix elsearch6_195 z z f (getI_bd w))<|Vv (V.ld0 shsearch6_106 z P z)<|Vv (V.lenS elsearch6_106 z S)<|Mv z<|Nt ?_
 obtain ⟨x,U,W⟩:=bndK H
 refine T.cutK (α:=Unit) [] z (fun _u=>[]) (fun _u=>L) (fun _u hh=>x = ()) ?_ ?_
 ·have H:=U
  refine Bl<|T.loopK (α:=Nat×Int) [0,1,2,26] z (fun ⟨b,c⟩=>[(27,.int .i64 c)]) (fun ⟨b,c⟩=>L) (fun ⟨b,c⟩ hh=>iter (hunt_turned_l0 h1 part2 g3 N) b c = some x) (fun ⟨b,c⟩=>b) (FUEL,(0:Int)) ⟨z,trivial⟩ z H ?_
  rintro ⟨b,c⟩ X a Y
  obtain ⟨Z,aJ,rfl,H,y⟩:=iter_go Y
  refine T.norm [27,0,1,2,26] z<|Sl_ (L) z<|Sr<|Vv (V.lt z z)<|Nt<|Sq<|T.cH H z (fun H=>?_) (fun H=>?_)
  ·refine T.skip<|Th<|Sq<|Bl<|Sr<|Mv z<|Ag z<|Nt<|Sr<|Mv z<|Mv z<|Mv z<|Mv z<|have aa:=d.mono a; have ab:=Pt.mono VruleJudge.mono B a; have ac:=Slc.mono VapiTable.mono C a; have ad:=Slc.mono VapiGuest.mono D a; have ae:=Slc.mono VapiTie.mono E a; have af:=Slc.mono VI.mono G a; have ag:=Slc.mono VapiRule.mono I a; have ai:=Slc.mono VI.mono e a; have aj:=Slc.mono VI.mono J a; have ak:=Slc.mono (VSl.mono (VSl.mono VI.mono)) f a; have am:=Slc.mono VI.mono pr1 a; ?_
   obtain ⟨aK,an,H⟩:=bnd H
   refine To (O.callS z (hunt_turns_ok (Pt.mk aa (show Vsearchhunt X [g,i,j,m,n,o,p,q,r] h1 from ⟨g,i,j,m,n,o,p,q,r,z,ab,ac,ad,ae,af,ag,ai,aj,ak⟩)) am an _) z fun aM aN aO ao ap=>?_)
   obtain ⟨rfl,aq⟩:=ap
   refine Sl_ _ aq<|Nt<|T.cH H z (fun H=>?_) (fun H=>?_)
   ·exact dead H
   refine T.skip<|Bn<|Th<|Rg ?_
   obtain ⟨ar,au,H⟩:=bnd H
   refine Vv (V.addS z z au)<|Mv z<|Nt<|have aw:=(a.trans ao); T.again (Z,ar) aw (Nat.lt_succ_self _) (iterK_in H y) (AllIn.app ⟨z,trivial⟩ ⟨z,z,z,z,trivial⟩) z
  refine T.exit<|Te<|Te<|have H:=iterK_out H y; Be<|Th<|T.met () a H (AllIn.app trivial trivial) z
 rintro _ aP ax ay
 have H:=cutE ay W
 refine T.norm [] z<|Sl_ (L) z<|Sr<|Ag z<|Nt<|T.ret ?_
 obtain rfl:=Option.some.inj H
 exact T.retL Tryz.results225 (Rv z) ax ⟨z,z⟩
theorem prover_say_ok {h:PH} {pb0:Nat} {p1:searchprover} {v0_1:Value} {v0_3:Value} {css0_4:List (List Value)} {v0_6:Value} {css0_7:List (List Value)} (hP0_2:Pt Vsearchhunt h v0_1 p1.fhunt) (hR0_5:RowF VapiStep h css0_4 p1.fsteps) (hR0_8:RowF (VI .i64) h css0_7 p1.fpart) {kind2:Int} {n3:Int} {r_0:Bool} {q_0:(List apiStep)×(List Int)} (H:prover_say p1 kind2 n3 = some (r_0,q_0)):∀ L,FnS Tryz.prog 224 [.pointer (some ⟨pb0,0,none⟩),.int .u8 kind2,.int .i64 n3] h (blk pb0 (.cells [v0_1,.int .i64 p1.fbound,v0_3,v0_6].toArray 194)::rowR 201 2 v0_3 css0_4::rowR 3 1 v0_6 css0_7::L) (fun v h' L'=>∃ vl0_1 cssl0_2 vl0_4 cssl0_5,v = .bool r_0∧L' = blk pb0 (.cells [v0_1,.int .i64 p1.fbound,vl0_1,vl0_4].toArray 194)::rowR 201 2 vl0_1 cssl0_2::rowR 3 1 vl0_4 cssl0_5::L∧RowF VapiStep h' cssl0_2 q_0.1∧RowF (VI .i64) h' cssl0_5 q_0.2):=by
 intro L
 refine FnS.enter Tryz.func224 z Tryz.ntmps224 z<|Sr<|Ag z<|Nt<|Sr<|Mv z<|Mv z<|Vv (V.nck z)<|Vv (V.fa fdsearch6_194_2 z)<|Vv (V.ldO (k:=2) shsearch6_80 z (j:=0) z z)<|Mv z<|Mv z<|Vv (V.bld (xs:=[(0,.tmp 12),(1,.tmp 13)]) (cs:=[_,_]) blsearch6_201 bosearch6_201 z (Fills.cons z z z (Fills.cons z z z Fills.nil)))<|To (O.bs elsearch6_80 zesearch6_201 z (e:=z) (hk:=z) (xs:=[.tmp 14]) (hv:=CO.eq (CO.cons z CO.nil)) (hw:=Wide.of z) (hd:=z) fun d=>have a:RowF VapiStep h [[.int .u8 kind2,.int .i64 n3]] ([(apiStep.mk kind2 n3)]:List apiStep):=(RowF.cons z RowF.nil); ?_)
 obtain ⟨f,b,H⟩:=bnd H
 refine To (O.apX elsearch6_80 elsearch6_80 zesearch6_201 z z z (j:=2) z (Src.row (j:=0) z) (Wide.of z) (RowF.ones VapiStep.plain a) hR0_5 a b z fun c n o=>have g:RowF VapiStep h (css0_4 ++ [[.int .u8 kind2,.int .i64 n3]]) f:=RowF.ap hR0_5 a b; Sl_ (rowR 201 2 c (css0_4 ++ [[.int .u8 kind2,.int .i64 n3]])::rowR 201 2 (.slice (some ⟨d,0,none⟩) 1 1) [[.int .u8 kind2,.int .i64 n3]]::blk pb0 (.cells [v0_1,.int .i64 p1.fbound,v0_3,v0_6].toArray 194)::rowR 3 1 v0_6 css0_7::L) z<|Fr_ 1 z<|T.fl ?_)
 refine T.drop<|Vv (V.nck rfl)<|Vv (V.fa fdsearch6_194_2 rfl)<|T.rowOne 0 rfl fun i m=>To (O.st (vs:=[c]) (k:=2) shsearch6_80 rfl rfl (j:=1) rfl m (by (simp only [Sl.ones,i,Bool.and_true,Bool.true_and]) <;> rfl) ?_)
 refine T.fl ?_
 refine Nt<|Sr<|Ag z<|Nt<|T.ret ?_
 obtain ⟨rfl,rfl⟩:=inj2 H
 exact T.retL Tryz.results224 (Rv z) Lr ⟨_,_,_,_,z,z,g,hR0_8⟩
theorem prover_node_ok (n:Nat):∀ {h:PH} {pb0:Nat} {p1:searchprover} {v0_1:Value} {v0_3:Value} {css0_4:List (List Value)} {v0_6:Value} {css0_7:List (List Value)} (hP0_2:Pt Vsearchhunt h v0_1 p1.fhunt) (hR0_5:RowF VapiStep h css0_4 p1.fsteps) (hR0_8:RowF (VI .i64) h css0_7 p1.fpart) {r_0:Bool} {q_0:(List apiStep)×(List Int)} (H:prover_node n p1 = some (r_0,q_0)) (L:List HProp),FnS Tryz.prog 124 [.pointer (some ⟨pb0,0,none⟩)] h (blk pb0 (.cells [v0_1,.int .i64 p1.fbound,v0_3,v0_6].toArray 194)::rowR 201 2 v0_3 css0_4::rowR 3 1 v0_6 css0_7::L) (fun v h' L'=>∃ vl0_1 cssl0_2 vl0_4 cssl0_5,v = .bool r_0∧L' = blk pb0 (.cells [v0_1,.int .i64 p1.fbound,vl0_1,vl0_4].toArray 194)::rowR 201 2 vl0_1 cssl0_2::rowR 3 1 vl0_4 cssl0_5::L∧RowF VapiStep h' cssl0_2 q_0.1∧RowF (VI .i64) h' cssl0_5 q_0.2):=by
  induction n with
  | zero => intros; rename_i H _; cases H
  | succ n self =>
    intro h pb0 p1 v0_1 v0_3 css0_4 v0_6 css0_7 hP0_2 hR0_5 hR0_8 r_0 q_0 H L
    refine FnS.enter Tryz.func124 z Tryz.ntmps124 z<|Sr<|Ag z<|Nt<|Sq<|Sq<|Fr_ 2 z<|T.fl ?_
    refine Fr_ 1 z<|T.fl ?_
    refine T.drawF (t:=(.v 0 (.v 1 (.v 2 (.v 3 (.v 4 (.v 5 (.v 6 (.v 7 (.v 8 (.v 9 (.v 10 (.alt 11 (.g (.v 12 (.v 13 (.v 14 (.alt 15 (.alt 16 .done .no) .no))))) .no))))))))))))) 18 2 2 rfl rfl search6mixed (by kernel_rfl) ?_
    refine Tm z z<|Tv z (V.nck z)<|Tv z (V.fa fdsearch6_194_0 z)<|Tv z (Val.XA fun _ _ _=>V.ldO (k:=0) shsearch6_116 z (j:=0) z z)<|have ah:=hP0_2; ?_
    obtain ⟨I,_,rfl,af,⟨i,m,o,p,q,r,s,u,w,rfl,Y,ag,ai,aj,ak,am,an,ao,ap⟩⟩:=ah
    refine Tv z (V.nck z)<|Tv z (V.fa fdsearch6_197_0 z)<|Tv z (V.ldf (k:=0) shsearch6_67 z af z)<|Tm z z<|Tv z (V.nck z)<|Tv z (V.fa fdsearch6_194_3 z)<|Tv z (Val.XA fun _ _ _=>V.ldO (k:=3) shsearch6_25 z (j:=0) z z)<|Fr_ 1 z<|T.fl ?_
    obtain ⟨⟨al,av⟩,az,H⟩:=bnd H
    refine Tp z z (SX.two (XA.fr [0,1] Lr z) (XA.fr [0,1] Lr z)) (O.callS z (FnS.lend (val:=.tuple #[.int .i64 al,.bool av]) Tryz.func115 z lendR fun dP aP ba=>?_) z fun dS bb dU a bc=>?_) T.tno
    ·have be:=RowF.mono VI.mono hR0_8 aP
     have bf:=RowF.slc ba be
     have bg:=Pt.mono VruleJudge.mono Y aP
     exact Judge_Dead_ok bg bf az _
    obtain ⟨rfl,bi⟩:=bc
    refine Sl_ _ bi<|T.tgrow a<|Tm z z<|Tv z (V.ext z z)<|Tv z (V.ext z z)<|Ts z z (SX.two (XA.fr [0,1] Lr z) (XA.fr [0,1] Lr z)) (V.asg z) z ?_ T.tno
    refine Ts z z (SX.two (XA.fr [0,1] Lr z) (XA.fr [0,1] Lr z)) (V.asg z) z ?_ T.tno
    refine T.tnil (SX.two (XA.fr [0,1] Lr z) (XA.fr [0,1] Lr z))<|Th<|Sr<|Mv z<|Nt<|T.cH H z (fun H=>?_) (fun H=>?_)
    ·refine Sr<|Mv z<|Mv z<|have bj:=af.mono a; have bk:=Pt.mono VruleJudge.mono Y a; have bm:=Slc.mono VapiTable.mono ag a; have bn:=Slc.mono VapiGuest.mono ai a; have bo:=Slc.mono VapiTie.mono aj a; have bp:=Slc.mono VI.mono ak a; have bq:=Slc.mono VapiRule.mono am a; have br:=Slc.mono VI.mono an a; have bs:=Slc.mono VI.mono ao a; have bt:=Slc.mono (VSl.mono (VSl.mono VI.mono)) ap a; have bu:=RowF.mono VapiStep.mono hR0_5 a; have bw:=RowF.mono VI.mono hR0_8 a; Fr_ 2 z<|T.fl ?_
     refine Fr_ 2 z<|T.fl ?_
     obtain ⟨⟨dV,dW⟩,bx,H⟩:=bnd H
     refine To (O.callS z (prover_say_ok (p1:=(searchprover.mk p1.fhunt p1.fbound p1.fsteps p1.fpart)) (Pt.mk bj (show Vsearchhunt bb [i,m,o,p,q,r,s,u,w] p1.fhunt from ⟨i,m,o,p,q,r,s,u,w,z,bk,bm,bn,bo,bp,bq,br,bs,bt⟩)) bu bw bx _) z fun dX dY dZ bA bB=>?_)
     obtain ⟨d0,d1,d2,d3,rfl,bC,bD,bE⟩:=bB
     refine Sl_ _ bC<|Ag z<|Nt<|T.ret<|Tr ?_
     obtain ⟨rfl,rfl⟩:=inj2 H
     have bG:=(a.trans bA)
     exact T.retL Tryz.results124 (Rv z) bG ⟨_,_,_,_,z,z,bD,bE⟩
    refine T.skip<|Th<|Sq<|Sq<|T.drawF (t:=(.v 0 (.v 1 (.v 2 (.v 3 (.v 4 (.v 5 (.v 6 (.v 7 (.v 8 (.v 9 (.v 10 (.v 11 (.v 12 (.v 13 (.v 14 (.v 15 (.v 16 (.v 18 (.v 19 (.v 20 (.v 21 (.alt 17 (.g (.v 22 (.v 23 .done))) .no))))))))))))))))))))))) 25 2 2 rfl rfl search6mixed (by kernel_rfl) ?_
    refine Tm z z<|Tv z (V.nck z)<|Tv z (V.fa fdsearch6_194_1 z)<|Tv z (Val.XA fun _ _ _=>V.ldO (k:=1) shsearch6_3 z (j:=1) z z)<|Tv z (V.ge z z)<|Tm z z<|T.bH 33 H z (fun H=>?_) (fun H=>?_)
    ·refine Tm z z<|Tv z (V.nck z)<|Tv z (V.fa fdsearch6_194_0 z)<|Tv z (Val.XA fun _ _ _=>V.ldO (k:=0) shsearch6_116 z (j:=1) z z)<|Tv z (V.nck z)<|Tv z (V.fa fdsearch6_197_0 z)<|have aq:=af.mono a; Tv z (V.ldf (k:=0) shsearch6_67 z aq z)<|Tm z z<|Tv z (V.nck z)<|Tv z (V.fa fdsearch6_194_3 z)<|Tv z (Val.XA fun _ _ _=>V.ldO (k:=3) shsearch6_25 z (j:=1) z z)<|Tm z z<|Tv z (V.nck z)<|Tv z (V.fa fdsearch6_194_1 z)<|Tv z (Val.XA fun _ _ _=>V.ldO (k:=1) shsearch6_3 z (j:=1) z z) ?_
     obtain ⟨bI,bJ,H⟩:=bnd H
     refine Tp z z (SX.two (XA.fr [1,1] Lr z) (XA.fr [1,1] Lr z)) (O.callS z (FnS.lend (val:=.int .i64 bI) Tryz.func128 z lendR fun d4 bK bM=>?_) z fun d5 bN d6 J bO=>?_) T.tno
     ·have aS:=(a.trans bK)
      have bP:=RowF.mono VI.mono hR0_8 aS
      have bS:=RowF.slc bM bP
      have bU:=Pt.mono VruleJudge.mono Y aS
      exact Judge_Floor_ok bU bS bJ _
     obtain ⟨rfl,bV⟩:=bO
     refine Sl_ _ bV<|T.tgrow J<|Tv z (V.ge z z)<|Tv z (V.pkT z z)<|T.tnil (SX.two (XA.fr [1,1] Lr z) (XA.fr [1,1] Lr z))<|Th<|T.cH H z (fun H=>?_) (fun H=>?_)
     ·refine Sq<|T.norm [0] z<|Sl_ (rowR 3 1 v0_6 css0_7::blk pb0 (.cells [.pointer (some I),.int .i64 p1.fbound,v0_3,v0_6].toArray 194)::rowR 201 2 v0_3 css0_4::L) z<|Rg<|Mv z<|have bW:=aq.mono J; have c:=(a.trans J); have bX:=Pt.mono VruleJudge.mono Y c; have bY:=Slc.mono VapiTable.mono ag c; have bZ:=Slc.mono VapiGuest.mono ai c; have b0:=Slc.mono VapiTie.mono aj c; have b1:=Slc.mono VI.mono ak c; have b2:=Slc.mono VapiRule.mono am c; have b3:=Slc.mono VI.mono an c; have b4:=Slc.mono VI.mono ao c; have b5:=Slc.mono (VSl.mono (VSl.mono VI.mono)) ap c; have b6:=RowF.mono VapiStep.mono hR0_5 c; have b7:=RowF.mono VI.mono hR0_8 c; Fr_ 2 z<|T.fl ?_
      refine Fr_ 2 z<|T.fl ?_
      obtain ⟨⟨d7,d8⟩,b8,H⟩:=bnd H
      refine To (O.callS z (prover_say_ok (p1:=(searchprover.mk p1.fhunt p1.fbound p1.fsteps p1.fpart)) (Pt.mk bW (show Vsearchhunt bN [i,m,o,p,q,r,s,u,w] p1.fhunt from ⟨i,m,o,p,q,r,s,u,w,z,bX,bY,bZ,b0,b1,b2,b3,b4,b5⟩)) b6 b7 b8 _) z fun d9 dh dl b9 bh=>?_)
      obtain ⟨dv,dz,ea,eb,rfl,bl,bv,bz⟩:=bh
      refine Sl_ _ bl<|Ag z<|Nt<|T.ret<|Tr ?_
      obtain ⟨rfl,rfl⟩:=inj2 H
      have ca:=(c.trans b9)
      exact T.retL Tryz.results124 (Rv z) ca ⟨_,_,_,_,z,z,bv,bz⟩
     refine T.skip<|Th<|Sq<|T.norm [0] z<|Sl_ (rowR 3 1 v0_6 css0_7::blk pb0 (.cells [.pointer (some I),.int .i64 p1.fbound,v0_3,v0_6].toArray 194)::rowR 201 2 v0_3 css0_4::L) z<|Rg<|Mv z<|Vv (V.nck z)<|Vv (V.fa fdsearch6_194_3 z)<|Vv (V.ldO (k:=3) shsearch6_25 z (j:=1) z z) ?_
     obtain ⟨P,cb,H⟩:=bnd H
     refine To (O.callS z (FnS.lend (val:=.int .i64 P) Tryz.func135 z lendR fun ec cc cd=>?_) z fun ed ce ee ar cf=>?_)
     ·have cg:=((a.trans J).trans cc)
      have ci:=RowF.mono VI.mono hR0_8 cg
      have cj:=RowF.slc cd ci
      exact sl_IndexInt_ok cj cb _
     obtain ⟨rfl,ck⟩:=cf
     refine Sl_ _ ck<|Ag z<|Nt<|Sq<|Sr<|Mv z<|Vv (V.lt z z)<|Nt<|T.cH H z (fun H=>?_) (fun H=>?_)
     ·refine Sr<|Ag z<|Nt<|T.ret<|Tr<|Fr_ 2 z<|T.fl ?_
      refine Fr_ 2 z<|T.fl ?_
      have au:=((a.trans J).trans ar)
      have cm:=RowF.mono VapiStep.mono hR0_5 au
      have cn:=RowF.mono VI.mono hR0_8 au
      obtain ⟨rfl,rfl⟩:=inj2 H
      exact T.retL Tryz.results124 (Rv z) au ⟨_,_,_,_,z,z,cm,cn⟩
     refine T.skip<|Th<|Sr<|Mv z<|Mv z<|have co:=(J.trans ar); have aU:=aq.mono co; have b:=((a.trans J).trans ar); have aw:=Pt.mono VruleJudge.mono Y b; have ax:=Slc.mono VapiTable.mono ag b; have ay:=Slc.mono VapiGuest.mono ai b; have aA:=Slc.mono VapiTie.mono aj b; have aB:=Slc.mono VI.mono ak b; have aC:=Slc.mono VapiRule.mono am b; have aV:=Slc.mono VI.mono an b; have aD:=Slc.mono VI.mono ao b; have aE:=Slc.mono (VSl.mono (VSl.mono VI.mono)) ap b; have cp:=RowF.mono VapiStep.mono hR0_5 b; have cq:=RowF.mono VI.mono hR0_8 b; Fr_ 2 z<|T.fl ?_
     refine Fr_ 2 z<|T.fl ?_
     obtain ⟨⟨ef,aW⟩,cr,H⟩:=bnd H
     refine To (O.callS z (prover_say_ok (p1:=(searchprover.mk p1.fhunt p1.fbound p1.fsteps p1.fpart)) (Pt.mk aU (show Vsearchhunt ce [i,m,o,p,q,r,s,u,w] p1.fhunt from ⟨i,m,o,p,q,r,s,u,w,z,aw,ax,ay,aA,aB,aC,aV,aD,aE⟩)) cp cq cr _) z fun eg ei ej S cs=>?_)
     obtain ⟨ct,cu,cw,cx,rfl,cy,cA,cB⟩:=cs
     refine Sl_ _ cy<|Nt<|Sq<|Sr<|Mv z<|Vv (V.nck z)<|Vv (V.fa fdsearch6_194_0 z)<|Vv (V.ldO (k:=0) shsearch6_116 z (j:=0) z z)<|Vv (V.nck z)<|Vv (V.fa fdsearch6_197_2 z)<|have aG:=aU.mono S; Vv (V.ldf (k:=6) shsearch6_25 z aG z)<|have aI:=Slc.mono VI.mono aV S; Vv (V.lenS elsearch6_25 z aI)<|Mv z<|Nt ?_
     obtain ⟨aX,cC,aY⟩:=bndK H
     refine T.cutK (α:=(List apiStep)×(List Int)×Value×(List (List Value))×Value×(List (List Value))) [0] z (fun ⟨Z,aa,K,U,M,W⟩=>[]) (fun ⟨Z,aa,K,U,M,W⟩=>blk pb0 (.cells [.pointer (some I),.int .i64 p1.fbound,K,M].toArray 194)::rowR 201 2 K U::rowR 3 1 M W::L) (fun ⟨Z,aa,K,U,M,W⟩ hh=>aX = (Sum.inl (Z,aa))∧RowF VapiStep hh U Z∧RowF (VI .i64) hh W aa) ?_ ?_
     ·have H:=cC
      refine Bl<|T.loopK (α:=Nat×(List apiStep)×(List Int)×Int×Value×(List (List Value))×Value×(List (List Value))) [0,5,71] z (fun ⟨X,B,D,x,d,y,e,f⟩=>[(72,.int .i64 x)]) (fun ⟨X,B,D,x,d,y,e,f⟩=>blk pb0 (.cells [.pointer (some I),.int .i64 p1.fbound,d,e].toArray 194)::rowR 201 2 d y::rowR 3 1 e f::L) (fun ⟨X,B,D,x,d,y,e,f⟩ hh=>iter (prover_node_l0 (prover_node n) p1 P) X (B,D,x) = some aX∧RowF VapiStep hh y B∧RowF (VI .i64) hh f D) (fun ⟨X,B,D,x,d,y,e,f⟩=>X) (FUEL,aW.1,aW.2,(0:Int),ct,cu,cw,cx) ⟨z,trivial⟩ z ⟨H,cA,cB⟩ ?_
      rintro ⟨X,B,D,x,d,y,e,f⟩ ek N ⟨cD,aJ,ab⟩
      obtain ⟨aZ,em,rfl,H,ac⟩:=iter_go cD
      refine T.norm [72,0,5,71] z<|Sl_ (blk pb0 (.cells [.pointer (some I),.int .i64 p1.fbound,d,e].toArray 194)::rowR 201 2 d y::rowR 3 1 e f::L) z<|Sr<|Vv (V.lt z z)<|Nt<|Sq<|T.cH H z (fun H=>?_) (fun H=>?_)
      ·refine T.skip<|Th<|Sq<|Bl<|Sr<|Mv z<|Ag z<|Nt<|Sq<|Sr<|Mv z<|Vv (V.nck z)<|Vv (V.fa fdsearch6_194_3 z)<|Vv (V.ldO (k:=3) shsearch6_25 z (j:=0) z z)<|Mv z<|Fr_ 2 z<|T.fl ?_
       obtain ⟨cE,cG,H⟩:=bnd H
       refine To (O.callS z (FnS.lend (val:=.bool cE) Tryz.func71 z lendR fun en cI cJ=>?_) z fun eo a0 ep A cK=>?_)
       ·have cM:=RowF.mono VI.mono ab cI
        have cN:=RowF.slc cJ cM
        exact sl_ContainsInt_ok cN cG _
       obtain ⟨rfl,cO⟩:=cK
       refine Sl_ _ cO<|Nt<|T.cH H z (fun H=>?_) (fun H=>?_)
       ·refine T.exit<|Te<|Be<|Th<|Rg ?_
        obtain ⟨cP,cS,H⟩:=bnd H
        refine Vv (V.addS z z cS)<|Mv z<|Nt<|have cU:=RowF.mono VapiStep.mono aJ A; have cV:=RowF.mono VI.mono ab A; Fr_ 2 z<|T.fl ?_
        refine Fr_ 2 z<|T.fl ?_
        have cW:=(N.trans A)
        exact T.again (aZ,B,D,cP,d,y,e,f) cW (Nat.lt_succ_self _) ⟨(iterK_in H ac),cU,cV⟩ (AllIn.app ⟨z,trivial⟩ ⟨z,z,z,trivial⟩) z
       refine T.skip<|Th<|Sr<|Mv z<|Vv (V.nck z)<|Vv (V.fa fdsearch6_194_3 z)<|Vv (V.ldO (k:=3) shsearch6_25 z (j:=1) z z)<|Mv z<|Mv z ?_
       obtain ⟨eq,aK,H⟩:=bnd H
       have ad:=RowF.mono VI.mono ab A
       obtain ⟨er,es,rfl⟩:=RowF.get ad aK
       refine Vv (V.ixR elsearch6_25 z z (j:=0) z (RowF.bd ad aK)) ?_
       obtain ⟨a1,cX,H⟩:=bnd H
       refine To (O.stR shsearch6_3 rfl rfl (j:=0) rfl (RowF.bdN ad aK) rfl<|have a2:RowF (VI .i64) a0 (f.set P.toNat [.int .i64 x]) a1:=RowF.set ad (show (VI .i64) a0 [.int .i64 x] x from rfl) cX; Nt<|Sr<|Ag z<|Nt<|Sq<|Sq<|T.drawF (t:=(.v 0 (.v 1 (.v 2 (.v 3 (.v 4 (.v 5 (.v 6 (.v 7 (.v 8 (.alt 9 (.alt 10 .done .no) .no))))))))))) 12 2 2 rfl rfl search6mixed (by kernel_rfl) ?_)
       refine Tm z z<|Tv z (V.nck z)<|Tv z (V.fa fdsearch6_194_0 z)<|Tv z (Val.XA fun _ _ _=>V.ldO (k:=0) shsearch6_116 z (j:=1) z z)<|Tm z z<|Tv z (V.nck z)<|Tv z (V.fa fdsearch6_194_3 z)<|Tv z (Val.XA fun _ _ _=>V.ldO (k:=3) shsearch6_25 z (j:=1) z z)<|Tm z z ?_
       obtain ⟨cY,cZ,H⟩:=bnd H
       refine Tp z z (SX.two (XA.fr [1,1] Lr z) (XA.fr [1,1] Lr z)) (O.callS z (FnS.lend (val:=.int .i64 cY) Tryz.func225 z lendR fun c0 aM c1=>?_) z fun et c2 eu C c3=>?_) T.tno
       ·have c4:=RowF.mono VI.mono a2 aM
        have c5:=RowF.slc c1 c4
        have a3:=((N.trans A).trans aM)
        have c6:=aG.mono a3
        have E:=(((S.trans N).trans A).trans aM)
        have c7:=Pt.mono VruleJudge.mono aw E
        have c8:=Slc.mono VapiTable.mono ax E
        have c9:=Slc.mono VapiGuest.mono ay E
        have ch:=Slc.mono VapiTie.mono aA E
        have cl:=Slc.mono VI.mono aB E
        have cv:=Slc.mono VapiRule.mono aC E
        have cz:=Slc.mono VI.mono aI a3
        have da:=Slc.mono VI.mono aD E
        have db:=Slc.mono (VSl.mono (VSl.mono VI.mono)) aE E
        exact hunt_turned_ok (Pt.mk c6 (show Vsearchhunt c0 [i,m,o,p,q,r,s,u,w] p1.fhunt from ⟨i,m,o,p,q,r,s,u,w,z,c7,c8,c9,ch,cl,cv,cz,da,db⟩)) c5 cZ _
       obtain ⟨rfl,dc⟩:=c3
       refine Sl_ _ dc<|Ts z z (SX.two (XA.fr [1,1] C z) (XA.fr [1,1] C z)) (V.asg z) z ?_ T.tno
       refine T.tnil (SX.two (XA.fr [1,1] C z) (XA.fr [1,1] C z))<|Th<|Sr<|Mv z<|Vv (V.ge z z)<|Nt<|T.cH H z (fun H=>?_) (fun H=>?_)
       ·exact dead H
       refine T.norm [0,5,71,72] z<|Sl_ (rowR 3 1 e (f.set P.toNat [.int .i64 x])::blk pb0 (.cells [.pointer (some I),.int .i64 p1.fbound,d,e].toArray 194)::rowR 201 2 d y::L) z<|Rg<|Mv z<|have aN:=((N.trans A).trans C); have dd:=aG.mono aN; have G:=(((S.trans N).trans A).trans C); have de:=Pt.mono VruleJudge.mono aw G; have df:=Slc.mono VapiTable.mono ax G; have dg:=Slc.mono VapiGuest.mono ay G; have di:=Slc.mono VapiTie.mono aA G; have dj:=Slc.mono VI.mono aB G; have dk:=Slc.mono VapiRule.mono aC G; have dm:=Slc.mono VI.mono aI aN; have dn:=Slc.mono VI.mono aD G; have dp:=Slc.mono (VSl.mono (VSl.mono VI.mono)) aE G; have dq:=(A.trans C); have dr:=RowF.mono VapiStep.mono aJ dq; have ds:=RowF.mono VI.mono a2 C; Fr_ 2 z<|T.fl ?_
       refine Fr_ 2 z<|T.fl ?_
       obtain ⟨⟨ew,dt⟩,du,H⟩:=bnd H
       refine To (O.callS z (self (p1:=(searchprover.mk p1.fhunt p1.fbound B a1)) (Pt.mk dd (show Vsearchhunt c2 [i,m,o,p,q,r,s,u,w] p1.fhunt from ⟨i,m,o,p,q,r,s,u,w,z,de,df,dg,di,dj,dk,dm,dn,dp⟩)) dr ds du _) z fun ex a4 ey a5 dw=>?_)
       obtain ⟨dx,dy,dA,a6,rfl,dB,a7,ae⟩:=dw
       refine Sl_ _ dB<|Ag z<|Nt<|Sr<|Mv z<|Vv (V.nck z)<|Vv (V.fa fdsearch6_194_3 z)<|Vv (V.ldO (k:=3) shsearch6_25 z (j:=0) z z)<|Mv z ?_
       obtain ⟨eA,aO,H⟩:=bnd H
       obtain ⟨eB,eC,rfl⟩:=RowF.get ae aO
       refine Vv (V.ixR elsearch6_25 z z (j:=2) z (RowF.bd ae aO)) ?_
       obtain ⟨a8,dC,H⟩:=bnd H
       refine To (O.stR shsearch6_3 z z (j:=2) z (RowF.bdN ae aO) z<|have a9:RowF (VI .i64) a4 (a6.set P.toNat [.int .i64 (-1:Int)]) a8:=RowF.set ae (show (VI .i64) a4 [.int .i64 (-1:Int)] (-1:Int) from z) dC; Nt<|Sr<|Mv z<|Vv (V.not z)<|Nt<|T.cH H z (fun H=>?_) (fun H=>?_))
       ·refine Sr<|Ag z<|Nt<|T.ret<|Br<|Tr<|Tr<|have H:=iterK_out H ac; Br<|Tr<|have H:=cutE H aY; Fr_ 2 z<|T.fl ?_
        refine Fr_ 2 z<|T.fl ?_
        obtain ⟨rfl,rfl⟩:=inj2 H
        have dD:=(((((b.trans S).trans N).trans A).trans C).trans a5)
        exact T.retL Tryz.results124 (Rv z) dD ⟨_,_,_,_,z,z,a7,a9⟩
       refine T.skip<|Bn<|Th<|Rg ?_
       obtain ⟨dE,dG,H⟩:=bnd H
       refine Vv (V.addS z z dG)<|Mv z<|Nt<|Fr_ 2 z<|T.fl ?_
       refine Fr_ 2 z<|T.fl ?_
       have dI:=(aN.trans a5)
       exact T.again (aZ,dt.1,a8,dE,dx,dy,dA,(a6.set P.toNat [.int .i64 (-1:Int)])) dI (Nat.lt_succ_self _) ⟨(iterK_in H ac),a7,a9⟩ (AllIn.app ⟨z,trivial⟩ ⟨z,z,z,trivial⟩) z
      refine T.exit<|Te<|Te<|have H:=iterK_out H ac; Be<|Th<|T.met (B,D,d,y,e,f) N ⟨H,aJ,ab⟩ (AllIn.app trivial ⟨z,trivial⟩) z
     rintro ⟨Z,aa,K,U,M,W⟩ eD dJ ⟨dK,dM,dN⟩
     have H:=cutE dK aY
     refine T.norm [0] z<|Sl_ (blk pb0 (.cells [.pointer (some I),.int .i64 p1.fbound,K,M].toArray 194)::rowR 201 2 K U::rowR 3 1 M W::L) z<|Sr<|Ag z<|Nt<|T.ret ?_
     obtain ⟨rfl,rfl⟩:=inj2 H
     have dO:=((b.trans S).trans dJ)
     exact T.retL Tryz.results124 (Rv z) dO ⟨_,_,_,_,z,z,dM,dN⟩
    exact dead H
theorem search_Prove_ok {h:PH} {pc0:List Value} {p1:apiProblem} (pr0:VapiProblem h pc0 p1) {bound12:Int} {r_0:List apiStep} {r_1:Int} (H:search_Prove p1 bound12 = some (r_0,r_1)):∀ L,FnS Tryz.prog 61 [.agg pc0.toArray,.int .i64 bound12] h (L) (fun v h' L'=>∃ w0 cs0,v = .tuple #[w0,.int .i64 r_1]∧L' = rowR 201 2 w0 cs0::L∧RowF VapiStep h' cs0 r_0):=by
 intro L
 obtain ⟨c,d,e,f,g,rfl,p,q,r,s,t⟩:=pr0
 refine FnS.enter Tryz.func61 rfl Tryz.ntmps61 rfl<|Sr<|To (O.boxF rfl rfl rfl fun af u a w=>Ag z<|Ag z<|Nt<|Sr<|Vv (V.ldS rfl w (by exact shsearch6_28)) ?_)
 have x:=Slc.mono VapiTable.mono p a
 have y:=Slc.mono VapiGuest.mono q a
 have A:=Slc.mono VapiTie.mono r a
 have B:=Slc.mono VI.mono s a
 have C:=Slc.mono VapiRule.mono t a
 obtain ⟨⟨D,ag⟩,E,H⟩:=bnd H
 refine To (O.callS z (search_begin_ok (show VapiProblem u [c,d,e,f,g] p1 from ⟨c,d,e,f,g,z,x,y,A,B,C⟩) E _) z fun ai aj ak i G=>?_)
 obtain ⟨am,rfl,I,m⟩:=G
 refine Sl_ _ I<|Mv z<|Vv (V.ext z z)<|Vv (V.ext z z)<|Ag z<|Ag z<|Nt<|Sq<|Sr<|Mv z<|Vv (V.ne z z)<|Nt<|T.cH H z (fun H=>?_) (fun H=>?_)
 ·exact dead H
 refine T.skip<|Th<|Sr<|Mv z<|Mv z<|Mv z ?_
 obtain ⟨J,K,H⟩:=bnd H
 refine To (O.callS z (hunt_nobody_ok m K _) z fun an M ao b N=>?_)
 obtain ⟨ap,P,S⟩:=N
 refine Sl_ _ P<|T.rowOne 0 z fun aq U=>have n:=Pt.mono Vsearchhunt.mono m b; Vv (V.bld (xs:=[(0,.tmp 17),(1,.tmp 18),(3,.tmp 20)]) (cs:=[_,_,_,_]) blsearch6_194 bosearch6_194 z (Fills.cons z (Pt.cells n) z (Fills.cons z z z (Fills.cons z U z Fills.nil))))<|To (O.box z z z fun ar=>Ag z<|Nt<|Sq<|Sr<|Mv z<|T.rowNil 201 2<|have W:RowF VapiStep M [] ([]:List apiStep):=RowF.nil; Fr_ 2 z<|T.fl ?_)
 refine Fr_ 1 z<|T.fl ?_
 refine Fr_ 2 z<|T.fl ?_
 obtain ⟨⟨au,aw⟩,X,H⟩:=bnd H
 refine To (O.callS z (prover_node_ok _ (p1:=(searchprover.mk D bound12 ([]:List apiStep) J)) n W S X _) z fun ax Y ay o Z=>?_)
 obtain ⟨aA,aB,aC,aD,rfl,aa,ab,aE⟩:=Z
 refine Sl_ _ aa<|Vv (V.not z)<|Nt<|T.cH H z (fun H=>?_) (fun H=>?_)
 ·refine Sr<|Ag z<|Ag z<|Nt<|T.ret<|Tr<|T.rowNil 201 2<|have ac:RowF VapiStep Y [] ([]:List apiStep):=RowF.nil; Fr_ 1 z<|T.fl ?_
  refine T.drop<|Fr_ 1 z<|T.fl ?_
  refine T.drop<|Fr_ 1 z<|T.drop ?_
  obtain ⟨rfl,rfl⟩:=inj2 H
  have ad:=(((a.trans i).trans b).trans o)
  exact T.retL Tryz.results61 (RVs.cons (RV.tmp z) (Rv z)) ad ⟨_,_,z,z,ac⟩
 refine T.skip<|Th<|Sr<|Mv z<|Vv (V.nck z)<|Vv (V.fa fdsearch6_194_2 z)<|Vv (V.ldO (k:=2) shsearch6_80 z (j:=0) z z)<|Ag z<|Ag z<|Nt<|T.ret<|T.drop<|Fr_ 1 z<|T.drop ?_
 obtain ⟨rfl,rfl⟩:=inj2 H
 have ae:=(((a.trans i).trans b).trans o)
 exact T.retL Tryz.results61 (RVs.cons (RV.tmp z) (Rv z)) ae ⟨_,_,z,z,ab⟩
end Go.Proofs.X
open Go Go.Proofs Go.Sl Go.Dm
namespace Go.Proofs.X
theorem repairmixed : Tryz.prog.follows .mixedOrders = true := by kernel_rfl
theorem blrepair_164 : bldSh Tryz.prog 164 = some ([.string ⟨#[]⟩, .string ⟨#[]⟩, .int .u8 (0)], [(0, 1), (1, 1), (2, 1)]) := by kernel_rfl
theorem blrepair_28 : bldSh Tryz.prog 28 = some ([.slice none 0 0, .slice none 0 0, .slice none 0 0, .slice none 0 0, .slice none 0 0], [(0, 1), (1, 1), (2, 1), (3, 1), (4, 1)]) := by kernel_rfl
theorem blrepair_31 : bldSh Tryz.prog 31 = some ([.string ⟨#[]⟩, .int .u8 (0), .int .i64 (0), .int .i64 (0), .slice none 0 0, .int .i64 (0), .int .i64 (0)], [(0, 1), (1, 1), (2, 1), (3, 1), (4, 1), (5, 1), (6, 1)]) := by kernel_rfl
theorem blrepair_35 : bldSh Tryz.prog 35 = some ([.string ⟨#[]⟩, .string ⟨#[]⟩, .string ⟨#[]⟩, .int .i64 (0), .int .i64 (0), .string ⟨#[]⟩, .bool false, .bool false, .slice none 0 0], [(0, 1), (1, 1), (2, 1), (3, 1), (4, 1), (5, 1), (6, 1), (7, 1), (8, 1)]) := by kernel_rfl
theorem blrepair_39 : bldSh Tryz.prog 39 = some ([.int .u8 (0), .int .i64 (0), .string ⟨#[]⟩, .string ⟨#[]⟩, .string ⟨#[]⟩, .int .i64 (0)], [(0, 1), (1, 1), (2, 1), (3, 1), (4, 1), (5, 1)]) := by kernel_rfl
theorem blrepair_64 : bldSh Tryz.prog 64 = some ([.string ⟨#[]⟩, .nilFunc, .nilFunc, .nilFunc, .nilFunc], [(0, 1), (1, 1), (2, 1), (3, 1), (4, 1)]) := by kernel_rfl
theorem blrepair_69 : bldSh Tryz.prog 69 = some ([.pointer none, .slice none 0 0, .slice none 0 0, .slice none 0 0, .slice none 0 0, .slice none 0 0, .slice none 0 0, .int .i64 (0)], [(0, 1), (1, 5), (6, 1), (7, 1)]) := by kernel_rfl
theorem borepair_164 : fieldsOK Tryz.prog 164 = true := by kernel_rfl
theorem borepair_28 : fieldsOK Tryz.prog 28 = true := by kernel_rfl
theorem borepair_31 : fieldsOK Tryz.prog 31 = true := by kernel_rfl
theorem borepair_35 : fieldsOK Tryz.prog 35 = true := by kernel_rfl
theorem borepair_39 : fieldsOK Tryz.prog 39 = true := by kernel_rfl
theorem borepair_64 : fieldsOK Tryz.prog 64 = true := by kernel_rfl
theorem borepair_69 : fieldsOK Tryz.prog 69 = true := by kernel_rfl
theorem elrepair_22 : elSh Tryz.prog 22 = some (31, 7, 80) := by kernel_rfl
theorem elrepair_23 : elSh Tryz.prog 23 = some (35, 9, 112) := by kernel_rfl
theorem elrepair_24 : elSh Tryz.prog 24 = some (164, 3, 40) := by kernel_rfl
theorem elrepair_25 : elSh Tryz.prog 25 = some (3, 1, 8) := by kernel_rfl
theorem elrepair_26 : elSh Tryz.prog 26 = some (39, 6, 72) := by kernel_rfl
theorem fdrepair_111_0 : fldOf Tryz.prog 111 0 = some 0 := by kernel_rfl
theorem fdrepair_164_2 : fldOf Tryz.prog 164 2 = some 2 := by kernel_rfl
theorem fdrepair_28_0 : fldOf Tryz.prog 28 0 = some 0 := by kernel_rfl
theorem fdrepair_28_1 : fldOf Tryz.prog 28 1 = some 1 := by kernel_rfl
theorem fdrepair_28_2 : fldOf Tryz.prog 28 2 = some 2 := by kernel_rfl
theorem fdrepair_28_3 : fldOf Tryz.prog 28 3 = some 3 := by kernel_rfl
theorem fdrepair_28_4 : fldOf Tryz.prog 28 4 = some 4 := by kernel_rfl
theorem fdrepair_31_4 : fldOf Tryz.prog 31 4 = some 4 := by kernel_rfl
theorem fdrepair_35_0 : fldOf Tryz.prog 35 0 = some 0 := by kernel_rfl
theorem fdrepair_35_8 : fldOf Tryz.prog 35 8 = some 8 := by kernel_rfl
theorem fdrepair_39_0 : fldOf Tryz.prog 39 0 = some 0 := by kernel_rfl
theorem fdrepair_41_0 : fldOf Tryz.prog 41 0 = some 0 := by kernel_rfl
theorem fdrepair_41_1 : fldOf Tryz.prog 41 1 = some 1 := by kernel_rfl
theorem fdrepair_41_2 : fldOf Tryz.prog 41 2 = some 10 := by kernel_rfl
theorem fdrepair_41_3 : fldOf Tryz.prog 41 3 = some 11 := by kernel_rfl
theorem fdrepair_41_4 : fldOf Tryz.prog 41 4 = some 12 := by kernel_rfl
theorem fdrepair_41_5 : fldOf Tryz.prog 41 5 = some 13 := by kernel_rfl
theorem fdrepair_41_6 : fldOf Tryz.prog 41 6 = some 14 := by kernel_rfl
theorem fdrepair_64_1 : fldOf Tryz.prog 64 1 = some 1 := by kernel_rfl
theorem fdrepair_64_2 : fldOf Tryz.prog 64 2 = some 2 := by kernel_rfl
theorem fdrepair_69_1 : fldOf Tryz.prog 69 1 = some 1 := by kernel_rfl
theorem fdrepair_69_2 : fldOf Tryz.prog 69 2 = some 6 := by kernel_rfl
theorem fdrepair_69_3 : fldOf Tryz.prog 69 3 = some 7 := by kernel_rfl
theorem shrepair_103 : tySh Tryz.prog 103 = some (true, 5) := by kernel_rfl
theorem shrepair_146 : tySh Tryz.prog 146 = some (false, 1) := by kernel_rfl
theorem shrepair_22 : tySh Tryz.prog 22 = some (false, 1) := by kernel_rfl
theorem shrepair_23 : tySh Tryz.prog 23 = some (false, 1) := by kernel_rfl
theorem shrepair_24 : tySh Tryz.prog 24 = some (false, 1) := by kernel_rfl
theorem shrepair_25 : tySh Tryz.prog 25 = some (false, 1) := by kernel_rfl
theorem shrepair_26 : tySh Tryz.prog 26 = some (false, 1) := by kernel_rfl
theorem shrepair_28 : tySh Tryz.prog 28 = some (true, 5) := by kernel_rfl
theorem shrepair_3 : tySh Tryz.prog 3 = some (false, 1) := by kernel_rfl
theorem shrepair_33 : tySh Tryz.prog 33 = some (false, 1) := by kernel_rfl
theorem shrepair_35 : tySh Tryz.prog 35 = some (true, 9) := by kernel_rfl
theorem shrepair_36 : tySh Tryz.prog 36 = some (false, 1) := by kernel_rfl
theorem shrepair_37 : tySh Tryz.prog 37 = some (false, 1) := by kernel_rfl
theorem shrepair_39 : tySh Tryz.prog 39 = some (true, 6) := by kernel_rfl
theorem shrepair_41 : tySh Tryz.prog 41 = some (true, 20) := by kernel_rfl
theorem shrepair_59 : tySh Tryz.prog 59 = some (false, 1) := by kernel_rfl
theorem shrepair_60 : tySh Tryz.prog 60 = some (false, 1) := by kernel_rfl
theorem shrepair_64 : tySh Tryz.prog 64 = some (true, 5) := by kernel_rfl
theorem shrepair_9 : tySh Tryz.prog 9 = some (false, 1) := by kernel_rfl
theorem shrepair_95 : tySh Tryz.prog 95 = some (true, 30) := by kernel_rfl
theorem zerepair_164 : zer Tryz.prog 164 = some (.agg #[.string ⟨#[]⟩, .string ⟨#[]⟩, .int .u8 (0)]) := by kernel_rfl
theorem zerepair_210 : zer Tryz.prog 210 = some (.agg #[.string ⟨#[]⟩, .int .u8 (0), .bool false, .int .u8 (0), .bool false, .int .i64 (0), .bool false, .nilFunc]) := by kernel_rfl
theorem zerepair_28 : zer Tryz.prog 28 = some (.agg #[.slice none 0 0, .slice none 0 0, .slice none 0 0, .slice none 0 0, .slice none 0 0]) := by kernel_rfl
theorem zerepair_3 : zer Tryz.prog 3 = some (.int .i64 (0)) := by kernel_rfl
theorem zerepair_31 : zer Tryz.prog 31 = some (.agg #[.string ⟨#[]⟩, .int .u8 (0), .int .i64 (0), .int .i64 (0), .slice none 0 0, .int .i64 (0), .int .i64 (0)]) := by kernel_rfl
theorem zerepair_35 : zer Tryz.prog 35 = some (.agg #[.string ⟨#[]⟩, .string ⟨#[]⟩, .string ⟨#[]⟩, .int .i64 (0), .int .i64 (0), .string ⟨#[]⟩, .bool false, .bool false, .slice none 0 0]) := by kernel_rfl
theorem zerepair_39 : zer Tryz.prog 39 = some (.agg #[.int .u8 (0), .int .i64 (0), .string ⟨#[]⟩, .string ⟨#[]⟩, .string ⟨#[]⟩, .int .i64 (0)]) := by kernel_rfl
theorem zerepair_64 : zer Tryz.prog 64 = some (.agg #[.string ⟨#[]⟩, .nilFunc, .nilFunc, .nilFunc, .nilFunc]) := by kernel_rfl
theorem zerepair_95 : zer Tryz.prog 95 = some (.agg #[.string ⟨#[]⟩, .nilFunc, .nilFunc, .nilFunc, .nilFunc, .string ⟨#[]⟩, .nilFunc, .nilFunc, .nilFunc, .nilFunc, .string ⟨#[]⟩, .nilFunc, .nilFunc, .nilFunc, .nilFunc, .string ⟨#[]⟩, .nilFunc, .nilFunc, .nilFunc, .nilFunc, .string ⟨#[]⟩, .nilFunc, .nilFunc, .nilFunc, .nilFunc, .string ⟨#[]⟩, .nilFunc, .nilFunc, .nilFunc, .nilFunc]) := by kernel_rfl
theorem strepair_39 : stSh Tryz.prog 39 = some [(0, .i .u8), (1, .i .i64), (2, .s), (3, .s), (4, .s), (5, .i .i64)] := by kernel_rfl
theorem arrepair_95 : arSh Tryz.prog 95 = some ([.string ⟨#[]⟩, .nilFunc, .nilFunc, .nilFunc, .nilFunc, .string ⟨#[]⟩, .nilFunc, .nilFunc, .nilFunc, .nilFunc, .string ⟨#[]⟩, .nilFunc, .nilFunc, .nilFunc, .nilFunc, .string ⟨#[]⟩, .nilFunc, .nilFunc, .nilFunc, .nilFunc, .string ⟨#[]⟩, .nilFunc, .nilFunc, .nilFunc, .nilFunc, .string ⟨#[]⟩, .nilFunc, .nilFunc, .nilFunc, .nilFunc], 6, 5) := by kernel_rfl
theorem kit_SameInts_ok {h:PH} {pv0:Value} {a1:List Int} (pr0:Slc (VI .i64) 1 h pv0 a1) {pv1:Value} {b2:List Int} (pr1:Slc (VI .i64) 1 h pv1 b2) {r_0:Bool} (H:kit_SameInts a1 b2 = some r_0):∀ L,FnS Tryz.prog 20 [pv0,pv1] h (L) (fun v h' L'=>v = .bool r_0∧L' = L):=by
 intro L
 refine FnS.enter Tryz.func20 z Tryz.ntmps20 z<|Sr<|Ag z<|Nt<|Sq<|Sr<|Mv z<|Vv (V.lenS elrepair_25 z pr0)<|Mv z<|Vv (V.lenS elrepair_25 z pr1)<|Vv (V.ne z z)<|Nt<|T.cH H z (fun H=>?_) (fun H=>?_)
 ·exact dead H
 refine T.skip<|Th<|Sq<|Sr<|Ag z<|Nt ?_
 obtain ⟨e,k,m⟩:=bndK H
 refine T.cutK (α:=Unit) [] z (fun _u=>[]) (fun _u=>L) (fun _u hh=>e = ()) ?_ ?_
 ·have H:=k
  refine Bl<|T.loopK (α:=Nat×Int) [0,1] z (fun ⟨a,b⟩=>[(5,.int .i64 b)]) (fun ⟨a,b⟩=>L) (fun ⟨a,b⟩ hh=>iter (kit_SameInts_l0 a1 b2) a b = some e) (fun ⟨a,b⟩=>a) (FUEL,(0:Int)) ⟨z,trivial⟩ z H ?_
  rintro ⟨a,b⟩ x c n
  obtain ⟨o,y,rfl,H,f⟩:=iter_go n
  refine T.norm [5,0,1] z<|Sl_ (L) z<|Sq<|Sr<|Mv z<|Mv z<|have d:=Slc.mono VI.mono pr0 c; Vv (V.lenS elrepair_25 z d)<|Vv (V.lt z z)<|Nt<|T.cH H z (fun H=>?_) (fun H=>?_)
  ·refine T.skip<|Th<|Sq<|Bl<|Sq<|T.drawF (t:=(.v 0 (.v 1 (.v 2 (.v 3 (.v 4 (.v 5 (.v 6 (.v 7 (.v 8 .done)))))))))) 10 0 0 rfl rfl repairmixed (by kernel_rfl) ?_
   refine Tm z z<|Tm z z ?_
   obtain ⟨A,g,H⟩:=bnd H
   obtain ⟨B,p,rfl⟩:=Slc.at d g
   refine Tv z (V.ix elrepair_25 z z d (getI_bd g))<|Tv z (V.ld0 shrepair_3 z p z)<|Tm z z<|Tm z z ?_
   obtain ⟨C,i,H⟩:=bnd H
   have j:=Slc.mono VI.mono pr1 c
   obtain ⟨D,q,rfl⟩:=Slc.at j i
   refine Tv z (V.ix elrepair_25 z z j (getI_bd i))<|Tv z (V.ld0 shrepair_3 z q z)<|Tv z (V.ne z z)<|T.tnil (SX.two (XA.fr [] Lr z) (XA.fr [] Lr z))<|Th<|T.cH H z (fun H=>?_) (fun H=>?_)
   ·exact dead H
   refine T.skip<|Bn<|Th<|Rg<|Mv z ?_
   obtain ⟨r,s,H⟩:=bnd H
   refine Vv (V.addS z z s)<|Ag z<|Nt<|T.again (o,r) c (Nat.lt_succ_self _) (iterK_in H f) (AllIn.app ⟨z,trivial⟩ ⟨z,z,trivial⟩) z
  refine T.exit<|Te<|Te<|have H:=iterK_out H f; Be<|Th<|T.met () c H (AllIn.app trivial trivial) z
 rintro _ E u w
 have H:=cutE w m
 refine T.norm [] z<|Sl_ (L) z<|Sr<|Ag z<|Nt<|T.ret ?_
 obtain rfl:=Option.some.inj H
 exact T.retL Tryz.results20 (Rv z) u ⟨z,z⟩
theorem kit_SameRules_ok {h:PH} {pv0:Value} {a1:List apiRule} (pr0:Slc VapiRule 6 h pv0 a1) {pv1:Value} {b2:List apiRule} (pr1:Slc VapiRule 6 h pv1 b2) {r_0:Bool} (H:kit_SameRules a1 b2 = some r_0):∀ L,FnS Tryz.prog 21 [pv0,pv1] h (L) (fun v h' L'=>v = .bool r_0∧L' = L):=by
 intro L
 refine FnS.enter Tryz.func21 z Tryz.ntmps21 z<|Sr<|Ag z<|Nt<|Sq<|Sr<|Mv z<|Vv (V.lenS elrepair_26 z pr0)<|Mv z<|Vv (V.lenS elrepair_26 z pr1)<|Vv (V.ne z z)<|Nt<|T.cH H z (fun H=>?_) (fun H=>?_)
 ·exact dead H
 refine T.skip<|Th<|Sq<|Sr<|Ag z<|Nt ?_
 obtain ⟨g,n,o⟩:=bndK H
 refine T.cutK (α:=Unit) [] z (fun _u=>[]) (fun _u=>L) (fun _u hh=>g = ()) ?_ ?_
 ·have H:=n
  refine Bl<|T.loopK (α:=Nat×Int) [0,1] z (fun ⟨a,b⟩=>[(5,.int .i64 b)]) (fun ⟨a,b⟩=>L) (fun ⟨a,b⟩ hh=>iter (kit_SameRules_l0 a1 b2) a b = some g) (fun ⟨a,b⟩=>a) (FUEL,(0:Int)) ⟨z,trivial⟩ z H ?_
  rintro ⟨a,b⟩ B e p
  obtain ⟨q,C,rfl,H,i⟩:=iter_go p
  refine T.norm [5,0,1] z<|Sl_ (L) z<|Sq<|Sr<|Mv z<|Mv z<|have f:=Slc.mono VapiRule.mono pr0 e; Vv (V.lenS elrepair_26 z f)<|Vv (V.lt z z)<|Nt<|T.cH H z (fun H=>?_) (fun H=>?_)
  ·refine T.skip<|Th<|Sq<|Bl<|Sq<|T.drawF (t:=(.v 0 (.v 1 (.v 2 (.v 3 (.v 4 (.v 5 (.v 6 (.v 7 (.v 8 .done)))))))))) 10 0 0 rfl rfl repairmixed (by kernel_rfl) ?_
   refine Tm z z<|Tm z z ?_
   obtain ⟨c,j,H⟩:=bnd H
   obtain ⟨D,s,rfl⟩:=Slc.at f j
   refine Tv z (V.ix elrepair_26 rfl rfl f (getI_bd j))<|Tv z (V.ldS rfl s (by exact shrepair_39)) ?_
   refine Tm z z<|Tm z z ?_
   obtain ⟨d,k,H⟩:=bnd H
   have m:=Slc.mono VapiRule.mono pr1 e
   obtain ⟨E,u,rfl⟩:=Slc.at m k
   refine Tv z (V.ix elrepair_26 rfl rfl m (getI_bd k))<|Tv z (V.ldS rfl u (by exact shrepair_39)) ?_
   refine Tv z (V.neSt strepair_39 z z (r:=(decide (c.fKind = d.fKind) && (decide (c.fWeight = d.fWeight) && (decide (c.fA = d.fA) && (decide (c.fB = d.fB) && (decide (c.fTable = d.fTable) && (decide (c.fN = d.fN) && true))))))) z)<|T.tnil (SX.two (XA.fr [] Lr z) (XA.fr [] Lr z))<|Th<|T.cH H z (fun H=>?_) (fun H=>?_)
   ·exact dead H
   refine T.skip<|Bn<|Th<|Rg<|Mv z ?_
   obtain ⟨w,x,H⟩:=bnd H
   refine Vv (V.addS z z x)<|Ag z<|Nt<|T.again (q,w) e (Nat.lt_succ_self _) (iterK_in H i) (AllIn.app ⟨z,trivial⟩ ⟨z,z,trivial⟩) z
  refine T.exit<|Te<|Te<|have H:=iterK_out H i; Be<|Th<|T.met () e H (AllIn.app trivial trivial) z
 rintro _ G y A
 have H:=cutE A o
 refine T.norm [] z<|Sl_ (L) z<|Sr<|Ag z<|Nt<|T.ret ?_
 obtain rfl:=Option.some.inj H
 exact T.retL Tryz.results21 (Rv z) y ⟨z,z⟩
theorem law10_trio_ok {h:PH} {second1:Bool} {pv1:Value} {rules2:List apiRule} (pr1:Slc VapiRule 6 h pv1 rules2) {r_0:apiProblem} (H:law10_trio second1 rules2 = some r_0):∀ L,FnS Tryz.prog 19 [.bool second1,pv1] h (L) (fun v h' L'=>∃ v0_1 v0_3 v0_5 v0_7 v0_9,v = .agg #[v0_1,v0_3,v0_5,v0_7,v0_9]∧L' = L∧Slc VapiTable 7 h' v0_1 r_0.fTables∧Slc VapiGuest 9 h' v0_3 r_0.fGuests∧Slc VapiTie 3 h' v0_5 r_0.fTies∧Slc (VI .i64) 1 h' v0_7 r_0.fClass∧Slc VapiRule 6 h' v0_9 r_0.fRules):=by
 intro L
 refine FnS.enter Tryz.func19 rfl Tryz.ntmps19 rfl<|Sr<|To (O.alloc zerepair_28 rfl rfl fun C=>Nt<|Sr<|Vv (V.bld (xs:=[(0,.const (.string ⟨#[114]⟩)),(1,.const (.int .u8 (1))),(2,.const (.int .i64 (4)))]) (cs:=[_,_,_,_,_,_,_]) blrepair_31 borepair_31 rfl (Fills.cons rfl rfl rfl (Fills.cons rfl rfl rfl (Fills.cons rfl rfl rfl Fills.nil))))<|To (O.bs elrepair_22 zerepair_31 rfl (e:=rfl) (hk:=rfl) (xs:=[.tmp 7]) (hv:=CO.eq (CO.cons rfl CO.nil)) (hw:=Wide.of rfl) (hd:=rfl) fun d=>have f:RowF VapiTable h [[.string (⟨#[114]⟩:ByteArray),.int .u8 (1:Int),.int .i64 (4:Int),.int .i64 (0:Int),.slice none 0 0,.int .i64 (0:Int),.int .i64 (0:Int)]] ([(apiTable.mk (⟨#[114]⟩:ByteArray) (1:Int) (4:Int) (0:Int) ([]:List Int) (0:Int) (0:Int))]:List apiTable):=(RowF.cons ⟨(.slice none 0 0),rfl,Slc.nil⟩ RowF.nil); Vv (V.bld (xs:=[(0,.const (.string ⟨#[97,110,110,97]⟩))]) (cs:=[_,_,_,_,_,_,_,_,_]) blrepair_35 borepair_35 rfl (Fills.cons rfl rfl rfl Fills.nil))<|Vv (V.bld (xs:=[(0,.const (.string ⟨#[98,111,114,105,115]⟩))]) (cs:=[_,_,_,_,_,_,_,_,_]) blrepair_35 borepair_35 rfl (Fills.cons rfl rfl rfl Fills.nil))<|Vv (V.bld (xs:=[(0,.const (.string ⟨#[99,97,114,108]⟩))]) (cs:=[_,_,_,_,_,_,_,_,_]) blrepair_35 borepair_35 rfl (Fills.cons rfl rfl rfl Fills.nil))<|To (O.bs elrepair_23 zerepair_35 rfl (e:=rfl) (hk:=rfl) (xs:=[.tmp 9,.tmp 10,.tmp 11]) (hv:=CO.eq (CO.cons rfl (CO.cons rfl (CO.cons rfl CO.nil)))) (hw:=Wide.of rfl) (hd:=rfl) fun a=>have o:RowF VapiGuest h [[.string (⟨#[97,110,110,97]⟩:ByteArray),.string (⟨#[]⟩:ByteArray),.string (⟨#[]⟩:ByteArray),.int .i64 (0:Int),.int .i64 (0:Int),.string (⟨#[]⟩:ByteArray),.bool false,.bool false,.slice none 0 0],[.string (⟨#[98,111,114,105,115]⟩:ByteArray),.string (⟨#[]⟩:ByteArray),.string (⟨#[]⟩:ByteArray),.int .i64 (0:Int),.int .i64 (0:Int),.string (⟨#[]⟩:ByteArray),.bool false,.bool false,.slice none 0 0],[.string (⟨#[99,97,114,108]⟩:ByteArray),.string (⟨#[]⟩:ByteArray),.string (⟨#[]⟩:ByteArray),.int .i64 (0:Int),.int .i64 (0:Int),.string (⟨#[]⟩:ByteArray),.bool false,.bool false,.slice none 0 0]] ([(apiGuest.mk (⟨#[97,110,110,97]⟩:ByteArray) (⟨#[]⟩:ByteArray) (⟨#[]⟩:ByteArray) (0:Int) (0:Int) (⟨#[]⟩:ByteArray) false false ([]:List ByteArray)),(apiGuest.mk (⟨#[98,111,114,105,115]⟩:ByteArray) (⟨#[]⟩:ByteArray) (⟨#[]⟩:ByteArray) (0:Int) (0:Int) (⟨#[]⟩:ByteArray) false false ([]:List ByteArray)),(apiGuest.mk (⟨#[99,97,114,108]⟩:ByteArray) (⟨#[]⟩:ByteArray) (⟨#[]⟩:ByteArray) (0:Int) (0:Int) (⟨#[]⟩:ByteArray) false false ([]:List ByteArray))]:List apiGuest):=(RowF.cons ⟨(.slice none 0 0),rfl,Slc.nil⟩ (RowF.cons ⟨(.slice none 0 0),rfl,Slc.nil⟩ (RowF.cons ⟨(.slice none 0 0),rfl,Slc.nil⟩ RowF.nil))); Mv z<|T.rowOne 0 rfl fun ax D=>T.rowOne 1 rfl fun ay E=>Vv (V.bld (xs:=[(0,.tmp 8),(1,.tmp 12),(4,.tmp 13)]) (cs:=[_,_,_,_,_]) blrepair_28 borepair_28 rfl (Fills.cons rfl E rfl (Fills.cons rfl D rfl (Fills.cons rfl (Slc.cells pr1) rfl Fills.nil))))<|To (O.alloc zerepair_28 rfl rfl fun G=>T.rowOne 2 rfl fun I aA=>T.rowOne 1 rfl fun J aB=>To (O.stF (vs:=[(.slice (some ⟨d,0,none⟩) 1 1),(.slice (some ⟨a,0,none⟩) 3 3),.slice none 0 0,.slice none 0 0,pv1]) shrepair_28 rfl rfl (j:=0) rfl rfl (by (simp only [Sl.ones,I,J,Slc.one pr1,Bool.and_true,Bool.true_and]) <;> rfl) rfl ?_)))))
 refine T.fl ?_
 refine Nt<|Sq<|Sr<|Mv z<|Nt<|T.cH H z (fun H=>?_) (fun H=>?_)
 ·refine Sr<|Vv (V.fa fdrepair_28_0 z)<|Vv (V.ldO (k:=0) shrepair_22 z (j:=0) z z)<|Ag z<|Nt<|Rg<|Mv z<|Vv (V.bld (xs:=[(0,.const (.string ⟨#[119]⟩)),(1,.const (.int .u8 (4))),(2,.const (.int .i64 (1)))]) (cs:=[_,_,_,_,_,_,_]) blrepair_31 borepair_31 z (Fills.cons z z z (Fills.cons z z z (Fills.cons z z z Fills.nil))))<|To (O.bs elrepair_22 zerepair_31 z (e:=z) (hk:=z) (xs:=[.tmp 19]) (hv:=CO.eq (CO.cons z CO.nil)) (hw:=Wide.of z) (hd:=z) fun K=>have g:RowF VapiTable h [[.string (⟨#[119]⟩:ByteArray),.int .u8 (4:Int),.int .i64 (1:Int),.int .i64 (0:Int),.slice none 0 0,.int .i64 (0:Int),.int .i64 (0:Int)]] ([(apiTable.mk (⟨#[119]⟩:ByteArray) (4:Int) (1:Int) (0:Int) ([]:List Int) (0:Int) (0:Int))]:List apiTable):=(RowF.cons ⟨(.slice none 0 0),z,Slc.nil⟩ RowF.nil); ?_)
  obtain ⟨M,p,H⟩:=bnd H
  refine To (O.apX elrepair_22 elrepair_22 zerepair_31 z z z (j:=3) z (Src.row (j:=0) z) (Wide.of z) (RowF.ones VapiTable.plain g) f g p z fun i aC aD=>have N:RowF VapiTable h ([[.string (⟨#[114]⟩:ByteArray),.int .u8 (1:Int),.int .i64 (4:Int),.int .i64 (0:Int),.slice none 0 0,.int .i64 (0:Int),.int .i64 (0:Int)]] ++ [[.string (⟨#[119]⟩:ByteArray),.int .u8 (4:Int),.int .i64 (1:Int),.int .i64 (0:Int),.slice none 0 0,.int .i64 (0:Int),.int .i64 (0:Int)]]) M:=RowF.ap f g p; Sl_ (rowR 31 7 i ([[.string (⟨#[114]⟩:ByteArray),.int .u8 (1:Int),.int .i64 (4:Int),.int .i64 (0:Int),.slice none 0 0,.int .i64 (0:Int),.int .i64 (0:Int)]] ++ [[.string (⟨#[119]⟩:ByteArray),.int .u8 (4:Int),.int .i64 (1:Int),.int .i64 (0:Int),.slice none 0 0,.int .i64 (0:Int),.int .i64 (0:Int)]])::rowR 31 7 (.slice (some ⟨K,0,none⟩) 1 1) [[.string (⟨#[119]⟩:ByteArray),.int .u8 (4:Int),.int .i64 (1:Int),.int .i64 (0:Int),.slice none 0 0,.int .i64 (0:Int),.int .i64 (0:Int)]]::blk G (.cells [(.slice (some ⟨d,0,none⟩) 1 1),(.slice (some ⟨a,0,none⟩) 3 3),.slice none 0 0,.slice none 0 0,pv1].toArray 28)::rowR 35 9 (.slice (some ⟨a,0,none⟩) 3 3) [[.string (⟨#[97,110,110,97]⟩:ByteArray),.string (⟨#[]⟩:ByteArray),.string (⟨#[]⟩:ByteArray),.int .i64 (0:Int),.int .i64 (0:Int),.string (⟨#[]⟩:ByteArray),.bool false,.bool false,.slice none 0 0],[.string (⟨#[98,111,114,105,115]⟩:ByteArray),.string (⟨#[]⟩:ByteArray),.string (⟨#[]⟩:ByteArray),.int .i64 (0:Int),.int .i64 (0:Int),.string (⟨#[]⟩:ByteArray),.bool false,.bool false,.slice none 0 0],[.string (⟨#[99,97,114,108]⟩:ByteArray),.string (⟨#[]⟩:ByteArray),.string (⟨#[]⟩:ByteArray),.int .i64 (0:Int),.int .i64 (0:Int),.string (⟨#[]⟩:ByteArray),.bool false,.bool false,.slice none 0 0]]::blk C (.cells [.slice none 0 0,.slice none 0 0,.slice none 0 0,.slice none 0 0,.slice none 0 0].toArray 28)::L) z<|Fr_ 1 z<|T.fl ?_)
  refine T.drop<|Vv (V.fa fdrepair_28_0 rfl)<|T.rowOne 0 rfl fun P S=>To (O.st (vs:=[i]) (k:=0) shrepair_22 rfl rfl (j:=1) rfl S (by (simp only [Sl.ones,P,Bool.and_true,Bool.true_and]) <;> rfl) ?_)
  refine T.fl ?_
  refine Nt<|Sr<|Vv (V.ldOS (j:=0) (by exact shrepair_28) rfl rfl) ?_
  refine Fr_ 1 z<|T.fl ?_
  refine T.rowFix fun aE q U=>have W:=RowF.mono VapiTable.mono N q; have X:=RowF.slc U W; Fr_ 1 z<|T.fl ?_
  refine T.rowFix fun aG r Y=>have m:=(q.trans r); have Z:=RowF.mono VapiGuest.mono o m; have s:=RowF.slc Y Z; have t:=Slc.mono VapiTable.mono X r; have u:=Slc.mono VapiRule.mono pr1 m; To (O.stF (vs:=[i,(.slice (some ⟨a,0,none⟩) 3 3),.slice none 0 0,.slice none 0 0,pv1]) shrepair_28 rfl rfl (j:=1) rfl rfl (by (simp only [Sl.ones,Slc.one t,Slc.one s,Slc.one u,Bool.and_true,Bool.true_and]) <;> rfl) rfl ?_)
  refine T.freeze fun aI b aa=>have ab:=AtC.of aa; Nt<|T.ret<|T.drop<|have ac:=Slc.mono VapiTable.mono t b; have ad:=Slc.mono VapiGuest.mono s b; have ae:=Slc.mono VapiRule.mono u b; ?_
  obtain rfl:=Option.some.inj H
  have af:=(m.trans b)
  exact T.retL Tryz.results19 (RVs.cons (RV.cellA z ab shrepair_28) RVs.nil) af ⟨_,_,_,_,_,z,z,ac,ad,Slc.nil,Slc.nil,ae⟩
 refine T.skip<|Th<|Sr<|Vv (V.ldOS (j:=0) (by exact shrepair_28) rfl rfl) ?_
 refine Fr_ 2 z<|T.fl ?_
 refine T.rowFix fun aJ w ag=>have ai:=RowF.mono VapiTable.mono f w; have aj:=RowF.slc ag ai; Fr_ 1 z<|T.fl ?_
 refine T.rowFix fun aK x ak=>have n:=(w.trans x); have am:=RowF.mono VapiGuest.mono o n; have y:=RowF.slc ak am; have A:=Slc.mono VapiTable.mono aj x; have B:=Slc.mono VapiRule.mono pr1 n; To (O.stF (vs:=[(.slice (some ⟨d,0,none⟩) 1 1),(.slice (some ⟨a,0,none⟩) 3 3),.slice none 0 0,.slice none 0 0,pv1]) shrepair_28 rfl rfl (j:=1) rfl rfl (by (simp only [Sl.ones,Slc.one A,Slc.one y,Slc.one B,Bool.and_true,Bool.true_and]) <;> rfl) rfl ?_)
 refine T.freeze fun aM c an=>have ao:=AtC.of an; Nt<|T.ret<|T.drop<|have aq:=Slc.mono VapiTable.mono A c; have ar:=Slc.mono VapiGuest.mono y c; have au:=Slc.mono VapiRule.mono B c; ?_
 obtain rfl:=Option.some.inj H
 have aw:=(n.trans c)
 exact T.retL Tryz.results19 (RVs.cons (RV.cellA z ao shrepair_28) RVs.nil) aw ⟨_,_,_,_,_,z,z,aq,ar,Slc.nil,Slc.nil,au⟩
theorem rule_copiedR_ok {h:PH} {pc0:List Value} {p1:apiProblem} (pr0:VapiProblem h pc0 p1) {r_0:apiProblem} (H:rule_copiedR p1 = some r_0):∀ L,FnS Tryz.prog 57 [.agg pc0.toArray] h (L) (fun v h' L'=>∃ vo0_1 csso0_2 vo0_4 csso0_5 vo0_7 csso0_8 vo0_10 csso0_11 vo0_13 csso0_14,v = .agg #[vo0_1,vo0_4,vo0_7,vo0_10,vo0_13]∧L' = rowR 31 7 vo0_1 csso0_2::rowR 35 9 vo0_4 csso0_5::rowR 164 3 vo0_7 csso0_8::rowR 3 1 vo0_10 csso0_11::rowR 39 6 vo0_13 csso0_14::L∧RowF VapiTable h' csso0_2 r_0.fTables∧RowF VapiGuest h' csso0_5 r_0.fGuests∧RowF VapiTie h' csso0_8 r_0.fTies∧RowF (VI .i64) h' csso0_11 r_0.fClass∧RowF VapiRule h' csso0_14 r_0.fRules):=by
 intro L
 obtain ⟨cD,M,n,o,p,rfl,aP,aS,aU,aV,aW⟩:=pr0
 refine FnS.enter Tryz.func57 z Tryz.ntmps57 z<|Sr<|To (O.box z z z fun q=>To (O.alloc zerepair_28 z z fun r=>Nt<|Sr<|Vv (V.fa fdrepair_28_0 z)<|Vv (V.ldO (k:=0) shrepair_22 z (j:=1) z z) ?_))
 obtain ⟨aj,aX,H⟩:=bnd H
 refine To (O.callS z (sl_CloneTable_ok aP aX _) z fun c cE cG aY aZ=>?_)
 obtain ⟨a0,a1,ak⟩:=aZ
 refine Sl_ _ a1<|Vv (V.fa fdrepair_28_0 rfl)<|T.rowOne 0 rfl fun a2 a3=>To (O.st (vs:=[c]) (k:=0) shrepair_22 rfl rfl (j:=2) rfl a3 (by (simp only [Sl.ones,a2,Bool.and_true,Bool.true_and]) <;> rfl) ?_)
 refine T.fl ?_
 refine Nt<|Sq<|Sr<|Vv (V.fa fdrepair_28_0 z)<|Vv (V.ldO (k:=0) shrepair_22 z (j:=0) z z)<|Vv (V.lenX elrepair_22 z (j:=1) z ak.len)<|Mv z<|Nt ?_
 obtain ⟨am,a4,a5⟩:=bndK H
 refine T.cutK (α:=(List apiTable)×(List (List Value))) [1,2] z (fun ⟨I,d⟩=>[]) (fun ⟨I,d⟩=>blk q (.cells [c,M,n,o,p].toArray 28)::blk r (.cells [.slice none 0 0,.slice none 0 0,.slice none 0 0,.slice none 0 0,.slice none 0 0].toArray 28)::rowR 31 7 c d::L) (fun ⟨I,d⟩ hh=>am = I∧RowF VapiTable hh d I) ?_ ?_
 ·have H:=a4
  refine Bl<|Fr_ 1 z<|T.fl ?_
  refine Fr_ 2 z<|T.fl ?_
  refine Fr_ 2 z<|T.fl ?_
  refine T.loopK (α:=Nat×(List apiTable)×Int×(List (List Value))) [1,2,11] z (fun ⟨B,w,s,f⟩=>[(12,.int .i64 s)]) (fun ⟨B,w,s,f⟩=>blk q (.cells [c,M,n,o,p].toArray 28)::blk r (.cells [.slice none 0 0,.slice none 0 0,.slice none 0 0,.slice none 0 0,.slice none 0 0].toArray 28)::rowR 31 7 c f::L) (fun ⟨B,w,s,f⟩ hh=>iter (rule_copiedR_l0 aj) B (w,s) = some am∧RowF VapiTable hh f w) (fun ⟨B,w,s,f⟩=>B) (FUEL,aj,(0:Int),a0) ⟨z,trivial⟩ z ⟨H,ak⟩ ?_
  rintro ⟨B,w,s,f⟩ cI an ⟨a6,N⟩
  obtain ⟨a7,cJ,rfl,H,ao⟩:=iter_go a6
  refine T.norm [12,1,2,11] z<|Sl_ (blk q (.cells [c,M,n,o,p].toArray 28)::blk r (.cells [.slice none 0 0,.slice none 0 0,.slice none 0 0,.slice none 0 0,.slice none 0 0].toArray 28)::rowR 31 7 c f::L) z<|Sr<|Vv (V.lt z z)<|Nt<|Sq<|T.cH H z (fun H=>?_) (fun H=>?_)
  ·refine T.skip<|Th<|Sq<|Bl<|Sr<|Mv z<|Ag z<|Nt<|Fr_ 2 z<|T.fl ?_
   refine Fr_ 1 z<|T.fl ?_
   refine T.drawF (t:=(.v 0 (.v 1 (.v 2 (.v 3 (.v 4 (.v 5 (.x 6 (.v 7 (.x 8 (.alt 9 (.g (.alt 10 (.v 11 (.alt 12 .done .no)) .no)) .no))))))))))) 12 2 1 rfl rfl repairmixed (by kernel_rfl) ?_
   refine Tv z (V.fa fdrepair_28_0 z)<|Tv z (Val.XA fun _ _ _=>V.ldO (k:=0) shrepair_22 z (j:=0) z z)<|Tm z z<|Tv z (V.fa fdrepair_28_0 z)<|Tv z (Val.XA fun _ _ _=>V.ldO (k:=0) shrepair_22 z (j:=0) z z)<|Tm z z ?_
   obtain ⟨cK,ap,H⟩:=bnd H
   obtain ⟨cM,a8,⟨cN,rfl,a9⟩⟩:=RowF.get N ap
   refine T.tx z z (Val.XA fun _ _ _=>V.ixR elrepair_22 z z (j:=1) z (RowF.bd N ap)) z Calm.i<|Tv z (V.fa fdrepair_31_4 z)<|T.tx z z (Val.XA fun _ _ _=>V.ldXk (k:=4) shrepair_25 z (j:=1) z a8 z) z Calm.i ?_
   obtain ⟨ah,al,H⟩:=bnd H
   refine Tp z z (SX.two (XA.fr [0] Lr z) (XA.fr [1,1] Lr z)) (O.callS z (sl_CloneInt_ok a9 al _) z fun P cO cP X av=>?_) T.tno
   obtain ⟨cS,az,ba⟩:=av
   refine Sl_ _ az<|T.tgrow X ?_
   obtain ⟨b,aq,H⟩:=bnd H
   have Y:=RowF.mono VapiTable.mono N X
   obtain ⟨cU,bb,⟨Z,rfl,cV⟩⟩:=RowF.get Y aq
   refine Ts z z (SX.two (XA.fr [1] Lr z) (XA.fr [2,2] Lr z)) (V.ixR elrepair_22 z z (j:=2) z (RowF.bd Y aq)) z ?_ T.tno
   refine Tv z (V.fa fdrepair_31_4 z)<|T.rowFix fun ar C bc=>have be:=RowF.mono VI.mono ba C; have aa:=RowF.slc bc be; ?_
   obtain ⟨au,bf,H⟩:=bnd H
   refine Tp z z (SX.two (XA.fr [0] C rfl) (XA.fr [1,1] C rfl)) (O.stXk (k:=4) shrepair_25 rfl rfl (j:=1) rfl (Slc.cells aa) (by (simp only [Sl.ones,Slc.one aa,Bool.and_true,Bool.true_and]) <;> rfl) rfl bb ?_) T.tno
   have bg:=RowF.mono VapiTable.mono Y C
   have bi:RowF VapiTable ar (f.set s.toNat (over [.string b.fName,.int .u8 b.fShape,.int .i64 b.fA,.int .i64 b.fB,Z,.int .i64 b.fX,.int .i64 b.fY] [P] 4)) au:=RowF.set bg (show VapiTable ar (over [.string b.fName,.int .u8 b.fShape,.int .i64 b.fA,.int .i64 b.fB,Z,.int .i64 b.fX,.int .i64 b.fY] [P] 4) (apiTable.mk b.fName b.fShape b.fA b.fB ah b.fX b.fY) from ⟨P,z,aa⟩) bf
   refine T.tnil (SX.one (XA.fr [1] C z) z)<|Bn<|Th<|Rg ?_
   obtain ⟨bj,bk,H⟩:=bnd H
   refine Vv (V.addS z z bk)<|Mv z<|Nt<|Fr_ 2 z<|T.fl ?_
   refine Fr_ 2 z<|T.fl ?_
   have bm:=((an.trans X).trans C)
   exact T.again (a7,au,bj,(f.set s.toNat (over [.string b.fName,.int .u8 b.fShape,.int .i64 b.fA,.int .i64 b.fB,Z,.int .i64 b.fX,.int .i64 b.fY] [P] 4))) bm (Nat.lt_succ_self _) ⟨(iterK_in H ao),bi⟩ (AllIn.app ⟨z,trivial⟩ ⟨z,z,z,trivial⟩) z
  refine T.exit<|Te<|Te<|have H:=iterK_out H ao; Be<|Th<|T.met (w,f) an ⟨H,N⟩ (AllIn.app trivial ⟨z,z,trivial⟩) z
 rintro ⟨I,d⟩ cW bn ⟨bo,bp⟩
 have H:=cutE bo a5
 refine T.norm [1,2] z<|Sl_ (blk q (.cells [c,M,n,o,p].toArray 28)::blk r (.cells [.slice none 0 0,.slice none 0 0,.slice none 0 0,.slice none 0 0,.slice none 0 0].toArray 28)::rowR 31 7 c d::L) z<|Sr<|Vv (V.fa fdrepair_28_1 z)<|Vv (V.ldO (k:=1) shrepair_23 z (j:=0) z z)<|have aw:=(aY.trans bn); have bq:=Slc.mono VapiGuest.mono aS aw; ?_
 obtain ⟨ax,br,H⟩:=bnd H
 refine To (O.callS z (sl_CloneGuest_ok bq br _) z fun e cX cY ay bs=>?_)
 obtain ⟨bt,bu,aA⟩:=bs
 refine Sl_ _ bu<|Vv (V.fa fdrepair_28_1 rfl)<|T.rowOne 0 rfl fun bw bx=>To (O.st (vs:=[e]) (k:=1) shrepair_23 rfl rfl (j:=1) rfl bx (by (simp only [Sl.ones,bw,Bool.and_true,Bool.true_and]) <;> rfl) ?_)
 refine T.fl ?_
 refine Nt<|Sq<|Sr<|Vv (V.fa fdrepair_28_1 z)<|Vv (V.ldO (k:=1) shrepair_23 z (j:=0) z z)<|Vv (V.lenX elrepair_23 z (j:=1) z aA.len)<|Mv z<|Nt ?_
 obtain ⟨aB,bA,bB⟩:=bndK H
 refine T.cutK (α:=(List apiGuest)×(List (List Value))) [1,2] z (fun ⟨J,y⟩=>[]) (fun ⟨J,y⟩=>blk q (.cells [c,e,n,o,p].toArray 28)::blk r (.cells [.slice none 0 0,.slice none 0 0,.slice none 0 0,.slice none 0 0,.slice none 0 0].toArray 28)::rowR 31 7 c d::rowR 35 9 e y::L) (fun ⟨J,y⟩ hh=>aB = J∧RowF VapiGuest hh y J) ?_ ?_
 ·have H:=bA
  refine Bl<|Fr_ 1 z<|T.fl ?_
  refine Fr_ 3 z<|T.fl ?_
  refine Fr_ 3 z<|T.fl ?_
  refine Fr_ 3 z<|T.fl ?_
  refine T.loopK (α:=Nat×(List apiGuest)×Int×(List (List Value))) [1,2,34] z (fun ⟨D,A,u,m⟩=>[(35,.int .i64 u)]) (fun ⟨D,A,u,m⟩=>blk q (.cells [c,e,n,o,p].toArray 28)::blk r (.cells [.slice none 0 0,.slice none 0 0,.slice none 0 0,.slice none 0 0,.slice none 0 0].toArray 28)::rowR 31 7 c d::rowR 35 9 e m::L) (fun ⟨D,A,u,m⟩ hh=>iter (rule_copiedR_l1 ax) D (A,u) = some aB∧RowF VapiGuest hh m A) (fun ⟨D,A,u,m⟩=>D) (FUEL,ax,(0:Int),bt) ⟨z,trivial⟩ z ⟨H,aA⟩ ?_
  rintro ⟨D,A,u,m⟩ cZ aC ⟨bC,S⟩
  obtain ⟨bD,c0,rfl,H,aD⟩:=iter_go bC
  refine T.norm [35,1,2,34] z<|Sl_ (blk q (.cells [c,e,n,o,p].toArray 28)::blk r (.cells [.slice none 0 0,.slice none 0 0,.slice none 0 0,.slice none 0 0,.slice none 0 0].toArray 28)::rowR 31 7 c d::rowR 35 9 e m::L) z<|Sr<|Vv (V.lt z z)<|Nt<|Sq<|T.cH H z (fun H=>?_) (fun H=>?_)
  ·refine T.skip<|Th<|Sq<|Bl<|Sr<|Mv z<|Ag z<|Nt<|Fr_ 3 z<|T.fl ?_
   refine Fr_ 1 z<|T.fl ?_
   refine T.drawF (t:=(.v 0 (.v 1 (.v 2 (.v 3 (.v 4 (.v 5 (.x 6 (.v 7 (.x 8 (.alt 9 (.g (.alt 10 (.v 11 (.alt 12 .done .no)) .no)) .no))))))))))) 12 2 1 rfl rfl repairmixed (by kernel_rfl) ?_
   refine Tv z (V.fa fdrepair_28_1 z)<|Tv z (Val.XA fun _ _ _=>V.ldO (k:=1) shrepair_23 z (j:=0) z z)<|Tm z z<|Tv z (V.fa fdrepair_28_1 z)<|Tv z (Val.XA fun _ _ _=>V.ldO (k:=1) shrepair_23 z (j:=0) z z)<|Tm z z ?_
   obtain ⟨c1,aE,H⟩:=bnd H
   obtain ⟨c2,bE,⟨c3,rfl,bG⟩⟩:=RowF.get S aE
   refine T.tx z z (Val.XA fun _ _ _=>V.ixR elrepair_23 z z (j:=1) z (RowF.bd S aE)) z Calm.i<|Tv z (V.fa fdrepair_35_8 z)<|T.tx z z (Val.XA fun _ _ _=>V.ldXk (k:=8) shrepair_33 z (j:=1) z bE z) z Calm.i ?_
   obtain ⟨bI,bJ,H⟩:=bnd H
   refine Tp z z (SX.two (XA.fr [0] Lr z) (XA.fr [1,1] Lr z)) (O.callS z (sl_CloneStr_ok bG bJ _) z fun U c4 c5 ab bK=>?_) T.tno
   obtain ⟨c6,bM,bN⟩:=bK
   refine Sl_ _ bM<|T.tgrow ab ?_
   obtain ⟨a,aG,H⟩:=bnd H
   have ac:=RowF.mono VapiGuest.mono S ab
   obtain ⟨c7,bO,⟨ad,rfl,c8⟩⟩:=RowF.get ac aG
   refine Ts z z (SX.two (XA.fr [1] Lr z) (XA.fr [2,2] Lr z)) (V.ixR elrepair_23 z z (j:=2) z (RowF.bd ac aG)) z ?_ T.tno
   refine Tv z (V.fa fdrepair_35_8 z)<|T.rowFix fun aI E bP=>have bS:=RowF.mono VS.mono bN E; have ae:=RowF.slc bP bS; ?_
   obtain ⟨aJ,bU,H⟩:=bnd H
   refine Tp z z (SX.two (XA.fr [0] E rfl) (XA.fr [1,1] E rfl)) (O.stXk (k:=8) shrepair_33 rfl rfl (j:=1) rfl (Slc.cells ae) (by (simp only [Sl.ones,Slc.one ae,Bool.and_true,Bool.true_and]) <;> rfl) rfl bO ?_) T.tno
   have bV:=RowF.mono VapiGuest.mono ac E
   have bW:RowF VapiGuest aI (m.set u.toNat (over [.string a.fName,.string a.fRank,.string a.fCourt,.int .i64 a.fSince,.int .i64 a.fSide,.string a.fDiet,.bool a.fHost,.bool a.fAccess,ad] [U] 8)) aJ:=RowF.set bV (show VapiGuest aI (over [.string a.fName,.string a.fRank,.string a.fCourt,.int .i64 a.fSince,.int .i64 a.fSide,.string a.fDiet,.bool a.fHost,.bool a.fAccess,ad] [U] 8) (apiGuest.mk a.fName a.fRank a.fCourt a.fSince a.fSide a.fDiet a.fHost a.fAccess bI) from ⟨U,z,ae⟩) bU
   refine T.tnil (SX.one (XA.fr [1] E z) z)<|Bn<|Th<|Rg ?_
   obtain ⟨bX,bY,H⟩:=bnd H
   refine Vv (V.addS z z bY)<|Mv z<|Nt<|Fr_ 3 z<|T.fl ?_
   refine Fr_ 3 z<|T.fl ?_
   refine Fr_ 3 z<|T.fl ?_
   have bZ:=((aC.trans ab).trans E)
   exact T.again (bD,aJ,bX,(m.set u.toNat (over [.string a.fName,.string a.fRank,.string a.fCourt,.int .i64 a.fSince,.int .i64 a.fSide,.string a.fDiet,.bool a.fHost,.bool a.fAccess,ad] [U] 8))) bZ (Nat.lt_succ_self _) ⟨(iterK_in H aD),bW⟩ (AllIn.app ⟨z,trivial⟩ ⟨z,z,z,trivial⟩) z
  refine T.exit<|Te<|Te<|have H:=iterK_out H aD; Be<|Th<|T.met (A,m) aC ⟨H,S⟩ (AllIn.app trivial ⟨z,z,trivial⟩) z
 rintro ⟨J,y⟩ c9 aK ⟨b0,b1⟩
 have H:=cutE b0 bB
 refine T.norm [1,2] rfl<|Sl_ (blk q (.cells [c,e,n,o,p].toArray 28)::blk r (.cells [.slice none 0 0,.slice none 0 0,.slice none 0 0,.slice none 0 0,.slice none 0 0].toArray 28)::rowR 31 7 c d::rowR 35 9 e y::L) rfl<|Sq<|T.drawF (t:=(.v 0 (.x 1 (.v 3 (.x 4 (.v 6 (.x 7 (.alt 2 (.g (.v 9 (.alt 5 (.g (.alt 8 (.g (.alt 10 (.g (.v 11 (.alt 12 (.g (.v 13 (.alt 14 .done .no))) .no))) .no)) .no)) .no))) .no)))))))) 10 1 0 rfl rfl repairmixed (by kernel_rfl) ?_
 refine Tv z (V.fa fdrepair_28_2 z)<|T.tx z z (Val.XA fun _ _ _=>V.ldO (k:=2) shrepair_24 z (j:=0) z z) z Calm.i<|Tv z (V.fa fdrepair_28_3 z)<|T.tx z z (Val.XA fun _ _ _=>V.ldO (k:=3) shrepair_25 z (j:=0) z z) z Calm.i<|Tv z (V.fa fdrepair_28_4 z)<|T.tx z z (Val.XA fun _ _ _=>V.ldO (k:=4) shrepair_26 z (j:=0) z z) z Calm.i<|have aM:=((aw.trans ay).trans aK); have b2:=Slc.mono VapiTie.mono aU aM; ?_
 obtain ⟨ch,b3,H⟩:=bnd H
 refine Tp z z (SX.two (XA.fr [] Lr z) (XA.fr [0] Lr z)) (O.callS z (sl_CloneTie_ok b2 b3 _) z fun af cl cv W b4=>?_) T.tno
 obtain ⟨b5,b6,b7⟩:=b4
 refine Sl_ _ b6<|T.tgrow W<|Tv z (V.fa fdrepair_28_2 z)<|have aN:=(aM.trans W); have b8:=Slc.mono VI.mono aV aN; ?_
 obtain ⟨cz,b9,H⟩:=bnd H
 refine Tp z z (SX.two (XA.fr [] Lr z) (XA.fr [1] Lr z)) (O.callS z (sl_CloneInt_ok b8 b9 _) z fun ag da db K bh=>?_) T.tno
 obtain ⟨bl,bv,bz⟩:=bh
 refine Sl_ _ bv<|T.tgrow K<|have aO:=(aN.trans K); have ca:=Slc.mono VapiRule.mono aW aO; ?_
 obtain ⟨dc,cb,H⟩:=bnd H
 refine Tp z z (SX.two (XA.fr [] Lr z) (XA.fr [2] Lr z)) (O.callS z (sl_CloneRule_ok ca cb _) z fun ai dd de G cc=>?_) T.tno
 obtain ⟨cd,ce,cf⟩:=cc
 refine Sl_ _ ce<|T.tgrow G<|T.rowOne 2 rfl fun cg ci=>Tp z z (SX.two (XA.fr [] Lr rfl) (XA.fr [3] Lr rfl)) (O.st (vs:=[af]) (k:=2) shrepair_24 rfl rfl (j:=3) rfl ci (by (simp only [Sl.ones,cg,Bool.and_true,Bool.true_and]) <;> rfl) ?_) T.tno
 refine T.fl ?_
 refine T.tgrow Lr<|Tv z (V.fa fdrepair_28_3 rfl)<|T.rowOne 2 rfl fun cj ck=>Tp z z (SX.one (XA.fr [] Lr rfl) rfl) (O.st (vs:=[ag]) (k:=3) shrepair_25 rfl rfl (j:=0) rfl ck (by (simp only [Sl.ones,cj,Bool.and_true,Bool.true_and]) <;> rfl) ?_) T.tno
 refine T.fl ?_
 refine T.tgrow Lr<|Tv z (V.fa fdrepair_28_4 rfl)<|T.rowOne 1 rfl fun cm cn=>Tp z z (SX.one (XA.fr [] Lr rfl) rfl) (O.st (vs:=[ai]) (k:=4) shrepair_26 rfl rfl (j:=0) rfl cn (by (simp only [Sl.ones,cm,Bool.and_true,Bool.true_and]) <;> rfl) ?_) T.tno
 refine T.fl ?_
 refine T.tnil (SX.one (XA.fr [] Lr rfl) rfl)<|Th<|Sr<|Vv (V.ldOS (j:=0) (by exact shrepair_28) rfl rfl) ?_
 refine T.rowOne 5 rfl fun co df=>T.rowOne 6 rfl fun cp dg=>T.rowOne 3 rfl fun cq di=>T.rowOne 2 rfl fun cr dj=>T.rowOne 1 rfl fun cs dk=>To (O.stF (vs:=[c,e,af,ag,ai]) shrepair_28 rfl rfl (j:=4) rfl rfl (by (simp only [Sl.ones,co,cp,cq,cr,cs,Bool.and_true,Bool.true_and]) <;> rfl) rfl ?_)
 refine T.fl ?_
 refine Nt<|T.ret<|Fr_ 1 z<|T.fl ?_
 refine T.drop<|Fr_ 1 z<|T.fl ?_
 refine Fr_ 2 z<|T.fl ?_
 refine Fr_ 3 z<|T.fl ?_
 refine Fr_ 5 z<|T.fl ?_
 refine Fr_ 5 z<|T.fl ?_
 refine Fr_ 5 z<|T.fl ?_
 have ct:=((((ay.trans aK).trans W).trans K).trans G)
 have cu:=RowF.mono VapiTable.mono bp ct
 have cw:=((W.trans K).trans G)
 have cx:=RowF.mono VapiGuest.mono b1 cw
 have cy:=(K.trans G)
 have cA:=RowF.mono VapiTie.mono b7 cy
 have cB:=RowF.mono VI.mono bz G
 obtain rfl:=Option.some.inj H
 have cC:=(aO.trans G)
 exact T.retD (L':=rowR 31 7 c d::rowR 35 9 e y::rowR 164 3 af b5::rowR 3 1 ag bl::rowR 39 6 ai cd::L) Tryz.results57 (RVs.cons (RV.cellS z (j:=0) z shrepair_28) RVs.nil) cC (fun _ iv=>iv.drop) ⟨_,_,_,_,_,_,_,_,_,_,z,z,cu,cx,cA,cB,cf⟩
theorem Judge_ProblemR_ok {h:PH} {pv0:Value} {j1:ruleJudge} (pr0:Pt VruleJudge h pv0 j1) {r_0:apiProblem} (H:Judge_ProblemR j1 = some r_0):∀ L,FnS Tryz.prog 15 [pv0] h (L) (fun v h' L'=>∃ vo0_1 csso0_2 vo0_4 csso0_5 vo0_7 csso0_8 vo0_10 csso0_11 vo0_13 csso0_14,v = .agg #[vo0_1,vo0_4,vo0_7,vo0_10,vo0_13]∧L' = rowR 31 7 vo0_1 csso0_2::rowR 35 9 vo0_4 csso0_5::rowR 164 3 vo0_7 csso0_8::rowR 3 1 vo0_10 csso0_11::rowR 39 6 vo0_13 csso0_14::L∧RowF VapiTable h' csso0_2 r_0.fTables∧RowF VapiGuest h' csso0_5 r_0.fGuests∧RowF VapiTie h' csso0_8 r_0.fTies∧RowF (VI .i64) h' csso0_11 r_0.fClass∧RowF VapiRule h' csso0_14 r_0.fRules):=by
 intro L
 refine FnS.enter Tryz.func15 z Tryz.ntmps15 z<|Sr<|To (O.alloc zerepair_28 z z fun af=>Nt<|Sq<|Sr<|Mv z ?_)
 obtain ⟨ag,p,H⟩:=bnd H
 refine To (O.callS z (Judge_none_ok pr0 p _) z fun ai q aj a r=>?_)
 obtain ⟨rfl,s⟩:=r
 refine Sl_ _ s<|Nt<|T.cH H z (fun H=>?_) (fun H=>?_)
 ·exact dead H
 refine T.skip<|Th<|Sr<|Mv z<|have t:=Pt.mono VruleJudge.mono pr0 a; have u:=t; ?_
 obtain ⟨ak,_,rfl,w,⟨b,c,d,e,f,am,an,ao,ap,aq,ar,au,aw,ax,rfl,x,y,A,B,C,ay,aA,aB,aC,aD,aE,aG,aI,aJ⟩⟩:=u
 refine Vv (V.nck z)<|Vv (V.fa fdrepair_111_0 z)<|Vv (V.ldSf (k:=0) shrepair_103 z w (Nat.le_of_ble_eq_true z)) ?_
 obtain ⟨aK,D,H⟩:=bnd H
 refine To (O.callS z (rule_copiedR_ok (show VapiProblem q [b,c,d,e,f] j1.fgiven from ⟨b,c,d,e,f,z,x,y,A,B,C⟩) D _) z fun aM aN aO E G=>?_)
 obtain ⟨g,I,i,J,m,K,n,M,o,N,rfl,P,S,U,W,X,Y⟩:=G
 refine Sl_ _ P<|T.rowOne 0 rfl fun Z aP=>T.rowOne 1 rfl fun aa aS=>T.rowOne 2 rfl fun ab aU=>T.rowOne 3 rfl fun ac aV=>T.rowOne 4 rfl fun ad aW=>To (O.stF (vs:=[g,i,m,n,o]) shrepair_28 rfl rfl (j:=5) rfl rfl (by (simp only [Sl.ones,Z,aa,ab,ac,ad,Bool.and_true,Bool.true_and]) <;> rfl) rfl ?_)
 refine T.fl ?_
 refine Nt<|T.ret ?_
 obtain rfl:=Option.some.inj H
 have ae:=(a.trans E)
 exact T.retD (L':=rowR 31 7 g I::rowR 35 9 i J::rowR 164 3 m K::rowR 3 1 n M::rowR 39 6 o N::L) Tryz.results15 (RVs.cons (RV.cellS z (j:=0) z shrepair_28) RVs.nil) ae (fun _ iv=>iv.drop) ⟨_,_,_,_,_,_,_,_,_,_,z,z,S,U,W,X,Y⟩
theorem repair_open_ok {h:PH} {pc0:List Value} {p1:apiProblem} (pr0:VapiProblem h pc0 p1) {pv1:Value} {part12:List Int} (pr1:Slc (VI .i64) 1 h pv1 part12) {r_0:repairscene} {r_1:Int} (H:repair_open p1 part12 = some (r_0,r_1)):∀ L,FnS Tryz.prog 10 [.agg pc0.toArray,pv1] h (L) (fun v h' L'=>∃ b0 vo0_1 vo0_3 csso0_4 vo0_6 csso0_7 vo0_9 csso0_10 vo0_12 csso0_13 vo0_15 csso0_16 vo0_18 csso0_19,v = .tuple #[.pointer (some ⟨b0,0,none⟩),.int .i64 r_1]∧L' = blk b0 (.cells [vo0_1,vo0_3,vo0_6,vo0_9,vo0_12,vo0_15,vo0_18,.int .i64 r_0.fseats].toArray 69)::rowR 31 7 vo0_3 csso0_4::rowR 35 9 vo0_6 csso0_7::rowR 164 3 vo0_9 csso0_10::rowR 3 1 vo0_12 csso0_13::rowR 39 6 vo0_15 csso0_16::rowR 3 1 vo0_18 csso0_19::L∧Pt VruleJudge h' vo0_1 r_0.fJudge∧RowF VapiTable h' csso0_4 r_0.fp.fTables∧RowF VapiGuest h' csso0_7 r_0.fp.fGuests∧RowF VapiTie h' csso0_10 r_0.fp.fTies∧RowF (VI .i64) h' csso0_13 r_0.fp.fClass∧RowF VapiRule h' csso0_16 r_0.fp.fRules∧RowF (VI .i64) h' csso0_19 r_0.fpart):=by
 intro L
 obtain ⟨f,i,j,m,n,rfl,I,J,K,M,N⟩:=pr0
 refine FnS.enter Tryz.func10 rfl Tryz.ntmps10 rfl<|Sr<|To (O.boxF rfl rfl rfl fun aU P b q=>Ag z<|Ag z<|Nt<|Sr<|Vv (V.ldS rfl q (by exact shrepair_28)) ?_)
 have r:=Slc.mono VapiTable.mono I b
 have s:=Slc.mono VapiGuest.mono J b
 have u:=Slc.mono VapiTie.mono K b
 have w:=Slc.mono VI.mono M b
 have x:=Slc.mono VapiRule.mono N b
 obtain ⟨⟨aV,aW,aX⟩,S,H⟩:=bnd H
 refine To (O.callS z (rule_New_ok (show VapiProblem P [f,i,j,m,n] p1 from ⟨f,i,j,m,n,z,r,s,u,w,x⟩) S _) z fun aY U aZ a W=>?_)
 obtain ⟨a0,rfl,X,Y⟩:=W
 refine Sl_ _ X<|Mv z<|Vv (V.ext z z)<|Vv (V.ext z z)<|Vv (V.ext z z)<|Ag z<|Ag z<|Ag z<|Nt<|Sq<|Sr<|Mv z<|Vv (V.ne z z)<|Nt<|T.cH H z (fun H=>?_) (fun H=>?_)
 ·exact dead H
 refine T.skip<|Th<|Sq<|Sr<|have y:=q.mono a; Vv (V.ldS rfl y (by exact shrepair_28)) ?_
 refine Mv z<|have A:=Slc.mono VapiTable.mono r a; have Z:=Slc.mono VapiGuest.mono s a; have aa:=Slc.mono VapiTie.mono u a; have ab:=Slc.mono VI.mono w a; have ac:=Slc.mono VapiRule.mono x a; have B:=(b.trans a); have C:=Slc.mono VI.mono pr1 B; ?_
 obtain ⟨⟨a1,a2⟩,ad,H⟩:=bnd H
 refine To (O.callS z (plan_CheckPart_ok (show VapiProblem U [f,i,j,m,n] p1 from ⟨f,i,j,m,n,z,A,Z,aa,ab,ac⟩) C ad _) z fun a3 a4 a5 o ae=>?_)
 obtain ⟨rfl,af⟩:=ae
 refine Sl_ _ af<|Mv z<|Vv (V.ext z z)<|Vv (V.ext z z)<|Ag z<|Ag z<|Nt<|Sr<|Mv z<|Vv (V.ne z z)<|Nt<|T.cH H z (fun H=>?_) (fun H=>?_)
 ·exact dead H
 refine T.skip<|Th<|Sq<|T.drawF (t:=(.v 0 (.v 1 (.v 3 (.v 5 (.v 6 (.alt 2 (.g (.alt 4 (.g (.alt 7 (.g (.v 8 (.alt 9 (.alt 10 (.alt 11 .done .no) .no) .no))) .no)) .no)) .no))))))) 13 0 0 rfl rfl repairmixed (by kernel_rfl) ?_
 refine Tm z z<|Tm z z<|Tm z z<|Tv z (V.fa fdrepair_28_0 z)<|have ag:=y.mono o; Tv z (V.ldf (k:=0) shrepair_22 z ag z)<|have D:=Pt.mono VruleJudge.mono Y o; ?_
 obtain ⟨a6,ai,H⟩:=bnd H
 refine Tp z z (SX.two (XA.fr [] Lr z) (XA.fr [] Lr z)) (O.callS z (Judge_ProblemR_ok D ai _) z fun a7 a8 a9 p aj=>?_) T.tno
 obtain ⟨ah,al,av,az,ba,bb,bc,bd,be,bf,rfl,ak,am,an,ao,ap,aq⟩:=aj
 refine Sl_ _ ak<|T.tgrow p<|have E:=(o.trans p); have ar:=Slc.mono VI.mono C E; ?_
 obtain ⟨bg,au,H⟩:=bnd H
 refine Tp z z (SX.two (XA.fr [] Lr z) (XA.fr [] Lr z)) (O.callS z (sl_CloneInt_ok ar au _) z fun bi bj bk c aw=>?_) T.tno
 obtain ⟨bm,ax,ay⟩:=aw
 refine Sl_ _ ax<|T.tgrow c<|have aA:=(E.trans c); have aB:=Slc.mono VapiTable.mono A aA; ?_
 obtain ⟨bn,aC,H⟩:=bnd H
 refine Tp z z (SX.two (XA.fr [] Lr z) (XA.fr [] Lr z)) (O.callS z (hall_Count_ok aB aC _) z fun bo bp bq d aD=>?_) T.tno
 obtain ⟨rfl,aE⟩:=aD
 refine Sl_ _ aE<|T.tgrow d<|T.rowOne 0 z fun br aG=>have aI:=((p.trans c).trans d); have G:=Pt.mono VruleJudge.mono D aI; Tv z (V.bld (xs:=[(0,.tmp 29),(1,.tmp 31),(2,.tmp 33),(3,.tmp 36)]) (cs:=[_,_,_,_,_,_,_,_]) blrepair_69 borepair_69 z (Fills.cons z (Pt.cells G) z (Fills.cons z z z (Fills.cons z aG z (Fills.cons z z z Fills.nil)))))<|Tp z z (SX.two (XA.fr [] Lr z) (XA.fr [] Lr z)) (O.box z z z fun bs=>?_) T.tno
 refine Ts z z (SX.two (XA.fr [] Lr z) (XA.fr [] Lr z)) (V.asg z) z ?_ T.tno
 refine Ts z z (SX.two (XA.fr [] Lr z) (XA.fr [] Lr z)) (V.asg z) z ?_ T.tno
 refine T.tnil (SX.two (XA.fr [] Lr z) (XA.fr [] Lr z))<|Th<|T.ret<|Fr_ 1 z<|T.fl ?_
 refine Fr_ 6 z<|T.fl ?_
 refine Fr_ 6 z<|T.fl ?_
 refine Fr_ 6 z<|T.fl ?_
 refine Fr_ 6 z<|T.fl ?_
 refine Fr_ 6 z<|T.fl ?_
 refine Fr_ 6 z<|T.fl ?_
 have e:=(c.trans d)
 have aJ:=RowF.mono VapiTable.mono am e
 have aK:=RowF.mono VapiGuest.mono an e
 have aM:=RowF.mono VapiTie.mono ao e
 have aN:=RowF.mono VI.mono ap e
 have aO:=RowF.mono VapiRule.mono aq e
 have aP:=RowF.mono VI.mono ay d
 obtain ⟨rfl,rfl⟩:=inj2 H
 have aS:=((((B.trans o).trans p).trans c).trans d)
 exact T.retL Tryz.results10 (RVs.cons (RV.tmp z) (Rv z)) aS ⟨_,_,_,_,_,_,_,_,_,_,_,_,_,_,z,z,G,aJ,aK,aM,aN,aO,aP⟩
theorem sl_IndexFuncTieL_ok {h:PH} {pv0:Value} {pcs0:List (List Value)} {s1:List apiTie} (pr0:RowF VapiTie h pcs0 s1) {pv1:Value} {f3:apiTie→Option Bool} (pr1:CF165 h pv1 f3) {r_0:Int} {q_0:List apiTie} (H:sl_IndexFuncTieL s1 f3 = some (r_0,q_0)):∀ L,FnS Tryz.prog 185 [pv0,pv1] h (rowR 164 3 pv0 pcs0::L) (fun v h' L'=>∃ ls0,v = .int .i64 r_0∧L' = rowR 164 3 pv0 ls0::L∧RowF VapiTie h' ls0 q_0):=by
 intro L
 refine FnS.enter Tryz.func185 z Tryz.ntmps185 z<|Sr<|Ag z<|Nt<|Sq<|Sr<|Mv z<|Vv (V.lenX elrepair_24 z (j:=0) z pr0.len)<|Mv z<|Nt ?_
 obtain ⟨b,d,e⟩:=bndK H
 refine T.cutK (α:=Unit) [0] z (fun _u=>[]) (fun _u=>rowR 164 3 pv0 pcs0::L) (fun _u hh=>b = ()) ?_ ?_
 ·have H:=d
  refine Bl<|T.loopK (α:=Nat) [0,7,8] z (fun a=>[]) (fun a=>rowR 164 3 pv0 pcs0::L) (fun a hh=>iter (sl_IndexFuncTieL_l0 s1) a () = some b) (fun a=>a) FUEL trivial z H ?_
  rintro a n f g
  obtain ⟨o,p,rfl,H,i⟩:=iter_go g
  refine T.norm [0,7,8] z<|Sl_ (rowR 164 3 pv0 pcs0::L) z<|Sr<|Vv (V.lt z z)<|Nt<|Sq<|T.cH H z (fun H=>?_) (fun H=>?_)
  ·exact dead H
  refine T.exit<|Te<|Te<|have H:=iterK_out H i; Be<|Th<|T.met () f H (AllIn.app trivial ⟨z,trivial⟩) z
 rintro _ q c k
 have H:=cutE k e
 refine T.norm [0] z<|Sl_ (rowR 164 3 pv0 pcs0::L) z<|Sr<|Ag z<|Nt<|T.ret<|have m:=RowF.mono VapiTie.mono pr0 c; ?_
 obtain ⟨rfl,rfl⟩:=inj2 H
 exact T.retL Tryz.results185 (Rv z) c ⟨_,z,z,m⟩
theorem sl_IndexFuncTie_ok {h:PH} {pv0:Value} {s1:List apiTie} (pr0:Slc VapiTie 3 h pv0 s1) {pv1:Value} {f2:apiTie→Option Bool} (pr1:CF165 h pv1 f2) {r_0:Int} (H:sl_IndexFuncTie s1 f2 = some r_0):∀ L,FnS Tryz.prog 185 [pv0,pv1] h (L) (fun v h' L'=>v = .int .i64 r_0∧L' = L):=by
 intro L
 refine FnS.enter Tryz.func185 z Tryz.ntmps185 z<|Sr<|Ag z<|Nt<|Sq<|Sr<|Mv z<|Vv (V.lenS elrepair_24 z pr0)<|Mv z<|Nt ?_
 obtain ⟨b,c,d⟩:=bndK H
 refine T.cutK (α:=Unit) [] z (fun _u=>[]) (fun _u=>L) (fun _u hh=>b = ()) ?_ ?_
 ·have H:=c
  refine Bl<|T.loopK (α:=Nat) [7,8] z (fun a=>[]) (fun a=>L) (fun a hh=>iter (sl_IndexFuncTie_l0 s1) a () = some b) (fun a=>a) FUEL trivial z H ?_
  rintro a k e f
  obtain ⟨m,n,rfl,H,g⟩:=iter_go f
  refine T.norm [7,8] z<|Sl_ (L) z<|Sr<|Vv (V.lt z z)<|Nt<|Sq<|T.cH H z (fun H=>?_) (fun H=>?_)
  ·exact dead H
  refine T.exit<|Te<|Te<|have H:=iterK_out H g; Be<|Th<|T.met () e H (AllIn.app trivial trivial) z
 rintro _ o i j
 have H:=cutE j d
 refine T.norm [] z<|Sl_ (L) z<|Sr<|Ag z<|Nt<|T.ret ?_
 obtain rfl:=Option.some.inj H
 exact T.retL Tryz.results185 (Rv z) i ⟨z,z⟩
theorem sl_DeleteFuncTie_ok {h:PH} {pv0:Value} {pcs0:List (List Value)} {s1:List apiTie} (pr0:RowF VapiTie h pcs0 s1) {pv1:Value} {del3:apiTie→Option Bool} (pr1:CF165 h pv1 del3) {r_0:List apiTie} (H:sl_DeleteFuncTie s1 del3 = some r_0):∀ L,FnS Tryz.prog 98 [pv0,pv1] h (rowR 164 3 pv0 pcs0::L) (fun v h' L'=>∃ cs0,L' = rowR 164 3 v cs0::L∧RowF VapiTie h' cs0 r_0):=by
 intro L
 refine FnS.enter Tryz.func98 z Tryz.ntmps98 z<|Sr<|Ag z<|Nt<|Sr<|Mv z<|Mv z ?_
 obtain ⟨⟨f,g⟩,a,H⟩:=bnd H
 refine To (O.callS z (sl_IndexFuncTieL_ok pr0 pr1 a _) z fun i j k b c=>?_)
 obtain ⟨m,rfl,d,e⟩:=c
 refine Sl_ _ d<|Ag z<|Nt<|Sq<|Sr<|Mv z<|Vv (V.eq z z)<|Nt<|T.cH H z (fun H=>?_) (fun H=>?_)
 ·refine Sr<|Mv z<|Ag z<|Nt<|T.ret<|Tr ?_
  obtain rfl:=Option.some.inj H
  exact T.retL Tryz.results98 (Rv z) b ⟨_,z,e⟩
 exact dead H
theorem sl_IndexFuncRuleL_ok {h:PH} {pv0:Value} {pcs0:List (List Value)} {s1:List apiRule} (pr0:RowF VapiRule h pcs0 s1) {pv1:Value} {f3:apiRule→Option Bool} (pr1:CF74 h pv1 f3) {r_0:Int} {q_0:List apiRule} (H:sl_IndexFuncRuleL s1 f3 = some (r_0,q_0)):∀ L,FnS Tryz.prog 58 [pv0,pv1] h (rowR 39 6 pv0 pcs0::L) (fun v h' L'=>∃ ls0,v = .int .i64 r_0∧L' = rowR 39 6 pv0 ls0::L∧RowF VapiRule h' ls0 q_0):=by
 intro L
 refine FnS.enter Tryz.func58 z Tryz.ntmps58 z<|Sr<|Ag z<|Nt<|Sq<|Sr<|Mv z<|Vv (V.lenX elrepair_26 z (j:=0) z pr0.len)<|Mv z<|Nt ?_
 obtain ⟨i,o,k⟩:=bndK H
 refine T.cutK (α:=Unit) [0] z (fun _u=>[]) (fun _u=>rowR 39 6 pv0 pcs0::L) (fun _u hh=>i = (Sum.inl ())) ?_ ?_
 ·have H:=o
  refine Bl<|T.loopK (α:=Nat×Int) [0,1,7] z (fun ⟨b,c⟩=>[(8,.int .i64 c)]) (fun ⟨b,c⟩=>rowR 39 6 pv0 pcs0::L) (fun ⟨b,c⟩ hh=>iter (sl_IndexFuncRuleL_l0 s1 f3) b c = some i) (fun ⟨b,c⟩=>b) (FUEL,(0:Int)) ⟨z,trivial⟩ z H ?_
  rintro ⟨b,c⟩ p d q
  obtain ⟨r,K,rfl,H,e⟩:=iter_go q
  refine T.norm [8,0,1,7] z<|Sl_ (rowR 39 6 pv0 pcs0::L) z<|Sr<|Vv (V.lt z z)<|Nt<|Sq<|T.cH H z (fun H=>?_) (fun H=>?_)
  ·refine T.skip<|Th<|Sq<|Bl<|Sr<|Mv z<|Ag z<|Nt<|Sr<|Mv z<|Mv z<|Mv z ?_
   obtain ⟨a,m,H⟩:=bnd H
   have f:=RowF.mono VapiRule.mono pr0 d
   obtain ⟨M,s,rfl⟩:=RowF.get f m
   refine Vv (V.ixR elrepair_26 z z (j:=0) z (RowF.bd f m))<|Vv (V.ldXS z (j:=0) z s shrepair_39) ?_
   obtain ⟨N,t,H⟩:=bnd H
   have u:=CF74.mono pr1 d
   obtain ⟨P,S,U,w,x⟩:=CF74.call u (show VapiRule p [.int .u8 a.fKind,.int .i64 a.fWeight,.string a.fA,.string a.fB,.string a.fTable,.int .i64 a.fN] a from rfl) t
   refine To (O.callfW z w z (x _) z fun W X Y g y=>?_)
   obtain ⟨rfl,A⟩:=y
   refine Sl_ _ A<|Nt<|T.cH H z (fun H=>?_) (fun H=>?_)
   ·refine Sr<|Mv z<|Ag z<|Nt<|T.ret<|Br<|Tr<|Tr<|have H:=iterK_out H e; Br<|Tr<|have H:=cutE H k; have B:=RowF.mono VapiRule.mono f g; ?_
    obtain ⟨rfl,rfl⟩:=inj2 H
    have C:=(d.trans g)
    exact T.retL Tryz.results58 (Rv z) C ⟨_,z,z,B⟩
   refine T.skip<|Bn<|Th<|Rg ?_
   obtain ⟨D,E,H⟩:=bnd H
   refine Vv (V.addS z z E)<|Mv z<|Nt<|have G:=(d.trans g); T.again (r,D) G (Nat.lt_succ_self _) (iterK_in H e) (AllIn.app ⟨z,trivial⟩ ⟨z,z,z,trivial⟩) z
  refine T.exit<|Te<|Te<|have H:=iterK_out H e; Be<|Th<|T.met () d H (AllIn.app trivial ⟨z,trivial⟩) z
 rintro _ Z n I
 have H:=cutE I k
 refine T.norm [0] z<|Sl_ (rowR 39 6 pv0 pcs0::L) z<|Sr<|Ag z<|Nt<|T.ret<|have J:=RowF.mono VapiRule.mono pr0 n; ?_
 obtain ⟨rfl,rfl⟩:=inj2 H
 exact T.retL Tryz.results58 (Rv z) n ⟨_,z,z,J⟩
theorem sl_DeleteFuncRule_ok {h:PH} {pv0:Value} {pcs0:List (List Value)} {s1:List apiRule} (pr0:RowF VapiRule h pcs0 s1) {pv1:Value} {del3:apiRule→Option Bool} (pr1:CF74 h pv1 del3) {r_0:List apiRule} (H:sl_DeleteFuncRule s1 del3 = some r_0):∀ L,FnS Tryz.prog 16 [pv0,pv1] h (rowR 39 6 pv0 pcs0::L) (fun v h' L'=>∃ cs0,L' = rowR 39 6 v cs0::L∧RowF VapiRule h' cs0 r_0):=by
 intro L
 refine FnS.enter Tryz.func16 z Tryz.ntmps16 z<|Sr<|Ag z<|Nt<|Sr<|Mv z<|Mv z ?_
 obtain ⟨⟨M,N⟩,P,H⟩:=bnd H
 refine To (O.callS z (sl_IndexFuncRuleL_ok pr0 pr1 P _) z fun aV aW aX r S=>?_)
 obtain ⟨U,rfl,W,w⟩:=S
 refine Sl_ _ W<|Ag z<|Nt<|Sq<|Sr<|Mv z<|Vv (V.eq z z)<|Nt<|T.cH H z (fun H=>?_) (fun H=>?_)
 ·refine Sr<|Mv z<|Ag z<|Nt<|T.ret<|Tr ?_
  obtain rfl:=Option.some.inj H
  exact T.retL Tryz.results16 (Rv z) r ⟨_,z,w⟩
 refine T.skip<|Th<|Sq<|Sr<|Mv z ?_
 obtain ⟨X,Y,H⟩:=bnd H
 refine Vv (V.addS z z Y)<|Ag z<|Nt ?_
 obtain ⟨x,Z,aa⟩:=bndK H
 refine T.cutK (α:=(List apiRule)×Int×(List (List Value))) [] z (fun ⟨g,c,e⟩=>[(0,pv0),(5,.int .i64 c)]) (fun ⟨g,c,e⟩=>rowR 39 6 pv0 e::L) (fun ⟨g,c,e⟩ hh=>x = (g,c)∧RowF VapiRule hh e g) ?_ ?_
 ·have H:=Z
  refine Bl<|T.loopK (α:=Nat×(List apiRule)×Int×Int×(List (List Value))) [1] z (fun ⟨i,f,d,k,b⟩=>[(0,pv0),(5,.int .i64 d),(6,.int .i64 k)]) (fun ⟨i,f,d,k,b⟩=>rowR 39 6 pv0 b::L) (fun ⟨i,f,d,k,b⟩ hh=>iter (sl_DeleteFuncRule_l0 del3) i (f,d,k) = some x∧RowF VapiRule hh b f) (fun ⟨i,f,d,k,b⟩=>i) (FUEL,N,M,X,U) ⟨z,z,z,trivial⟩ z ⟨H,w⟩ ?_
  rintro ⟨i,f,d,k,b⟩ aY p ⟨ab,m⟩
  obtain ⟨y,aZ,rfl,H,s⟩:=iter_go ab
  refine T.norm [0,5,6,1] z<|Sl_ (rowR 39 6 pv0 b::L) z<|Sq<|Sr<|Mv z<|Mv z<|Vv (V.lenX elrepair_26 z (j:=0) z m.len)<|Vv (V.lt z z)<|Nt<|T.cH H z (fun H=>?_) (fun H=>?_)
  ·refine T.skip<|Th<|Sq<|Bl<|Sr<|Mv z<|Mv z ?_
   obtain ⟨a,A,H⟩:=bnd H
   obtain ⟨a0,ac,rfl⟩:=RowF.get m A
   refine Vv (V.ixR elrepair_26 rfl rfl (j:=0) rfl (RowF.bd m A))<|Vv (V.ldXS rfl (j:=0) rfl ac shrepair_39)<|To (O.alloc zerepair_39 rfl rfl fun a1=>To (O.stF (vs:=[.int .u8 a.fKind,.int .i64 a.fWeight,.string a.fA,.string a.fB,.string a.fTable,.int .i64 a.fN]) shrepair_39 rfl rfl (j:=0) rfl rfl rfl rfl<|T.freeze fun ad n ae=>have B:=AtC.of ae; Nt<|Sr<|Mv z<|Vv (V.ldS rfl B (by exact shrepair_39)) ?_))
   obtain ⟨a2,af,H⟩:=bnd H
   have ag:=((r.trans p).trans n)
   have ai:=CF74.mono pr1 ag
   obtain ⟨a3,a4,a5,aj,ak⟩:=CF74.call ai (show VapiRule ad [.int .u8 a.fKind,.int .i64 a.fWeight,.string a.fA,.string a.fB,.string a.fTable,.int .i64 a.fN] a from rfl) af
   refine To (O.callfW z aj z (ak _) z fun a6 C a7 o am=>?_)
   obtain ⟨rfl,an⟩:=am
   refine Sl_ _ an<|Vv (V.not z)<|Nt<|T.cH H z (fun H=>?_) (fun H=>?_)
   ·refine Sr<|Mv z<|Mv z<|have ao:=B.mono o; Vv (V.ldS rfl ao (by exact shrepair_39)) ?_
    obtain ⟨a8,D,H⟩:=bnd H
    have ap:=(n.trans o)
    have t:=RowF.mono VapiRule.mono m ap
    obtain ⟨a9,aq,rfl⟩:=RowF.get t D
    refine Vv (V.ixR elrepair_26 z z (j:=0) z (RowF.bd t D)) ?_
    obtain ⟨E,ar,H⟩:=bnd H
    refine To (O.stX shrepair_39 z z (j:=0) z z z z aq<|have au:RowF VapiRule C (b.set d.toNat [.int .u8 a.fKind,.int .i64 a.fWeight,.string a.fA,.string a.fB,.string a.fTable,.int .i64 a.fN]) E:=RowF.set t (show VapiRule C [.int .u8 a.fKind,.int .i64 a.fWeight,.string a.fA,.string a.fB,.string a.fTable,.int .i64 a.fN] a from z) ar; Nt<|Rg<|Mv z ?_)
    obtain ⟨aw,ax,H⟩:=bnd H
    refine Vv (V.addS z z ax)<|Ag z<|Ni<|Bn<|Th<|Rg<|Mv z ?_
    obtain ⟨ay,aA,H⟩:=bnd H
    refine Vv (V.addS z z aA)<|Ag z<|Nt<|have aB:=((p.trans n).trans o); T.again (y,E,aw,ay,(b.set d.toNat [.int .u8 a.fKind,.int .i64 a.fWeight,.string a.fA,.string a.fB,.string a.fTable,.int .i64 a.fN])) aB (Nat.lt_succ_self _) ⟨(iterK_in H s),au⟩ (AllIn.app ⟨z,z,z,trivial⟩ ⟨z,trivial⟩) z
   refine T.skip<|Bn<|Th<|Rg<|Mv z ?_
   obtain ⟨aC,aD,H⟩:=bnd H
   refine Vv (V.addS z z aD)<|Ag z<|Nt<|have aE:=(n.trans o); have aG:=RowF.mono VapiRule.mono m aE; have aI:=((p.trans n).trans o); T.again (y,f,d,aC,b) aI (Nat.lt_succ_self _) ⟨(iterK_in H s),aG⟩ (AllIn.app ⟨z,z,z,trivial⟩ ⟨z,trivial⟩) z
  refine T.exit<|Te<|Te<|have H:=iterK_out H s; Be<|Th<|T.met (f,d,b) p ⟨H,m⟩ (AllIn.app ⟨z,z,trivial⟩ trivial) z
 rintro ⟨g,c,e⟩ u aJ ⟨aK,q⟩
 have H:=cutE aK aa
 refine T.norm [0,5] z<|Sl_ (rowR 39 6 pv0 e::L) z<|Sr<|Mv z<|Mv z ?_
 obtain ⟨ah,aM,H⟩:=bnd H
 refine Vv (V.slVx elrepair_26 z (j:=0) z q.len (.inr ⟨_,_,z,z⟩) (.inl ⟨z,z⟩) (bdV_eq aM)) ?_
 obtain ⟨al,G,H⟩:=bnd H
 have I:=bd_le q.len G
 obtain ⟨aN,aO,H⟩:=bnd H
 refine To (O.clearX (zs:=[.int .u8 (0:Int),.int .i64 (0:Int),.string (⟨#[]⟩:ByteArray),.string (⟨#[]⟩:ByteArray),.string (⟨#[]⟩:ByteArray),.int .i64 (0:Int)]) elrepair_26 zerepair_39 z z z (j:=0) z (fun _ iv=>DX.viewX iv (j:=0) z q.len (bdV_eq G)) I<|have J:RowF VapiRule u (putL e c.toNat (List.replicate ((g.length:Int).toNat - c.toNat) ([.int .u8 (0:Int),.int .i64 (0:Int),.string (⟨#[]⟩:ByteArray),.string (⟨#[]⟩:ByteArray),.string (⟨#[]⟩:ByteArray),.int .i64 (0:Int)]:List Value))) aN:=RowF.clrX q (show VapiRule u [.int .u8 (0:Int),.int .i64 (0:Int),.string (⟨#[]⟩:ByteArray),.string (⟨#[]⟩:ByteArray),.string (⟨#[]⟩:ByteArray),.int .i64 (0:Int)] (apiRule.mk (0:Int) (0:Int) (⟨#[]⟩:ByteArray) (⟨#[]⟩:ByteArray) (⟨#[]⟩:ByteArray) (0:Int)) from z) I aO; Nt<|Sr<|Mv z<|Mv z ?_)
 obtain ⟨aP,K,H⟩:=bnd H
 refine To (O.slP elrepair_26 z z (j:=0) z (RowF.slpb J K) z fun av=>have aS:RowF VapiRule u (List.take c.toNat (putL e c.toNat (List.replicate ((g.length:Int).toNat - c.toNat) ([.int .u8 (0:Int),.int .i64 (0:Int),.string (⟨#[]⟩:ByteArray),.string (⟨#[]⟩:ByteArray),.string (⟨#[]⟩:ByteArray),.int .i64 (0:Int)]:List Value)))) aP:=RowF.slp J K; Ag z<|Nt<|T.ret ?_)
 obtain rfl:=Option.some.inj H
 have aU:=(r.trans aJ)
 exact T.retL Tryz.results16 (Rv z) aU ⟨_,z,aS⟩
theorem scene_who_1_ok {h:PH} {pc0:List Value} {g1:apiGuest} (pr0:VapiGuest h pc0 g1) {pp1:Addr} {pc1:List Value} {t4:ByteArray} (pa1:AtC h pp1 pc1) (pr1:VS h pc1 t4) {r_0:Bool} (H:scene_who_1 g1 t4 = some r_0):∀ L,FnS Tryz.prog 174 [.agg pc0.toArray,.pointer (some pp1)] h (L) (fun v h' L'=>v = .bool r_0∧L' = L):=by
 intro L
 obtain ⟨d,rfl,e⟩:=pr0
 obtain rfl:=pr1
 refine FnS.enter Tryz.func174 z Tryz.ntmps174 z<|Sr<|To (O.boxF z z z fun f g a b=>Ag z<|Nt<|Sr<|Vv (V.fa fdrepair_35_0 z)<|Vv (V.ldf (k:=0) shrepair_9 z b z)<|have c:=pa1.mono a; Vv (V.ld0 shrepair_9 z c z)<|Vv (V.seq z z)<|Ag z<|Nt<|T.ret ?_)
 obtain rfl:=Option.some.inj H
 exact T.retL Tryz.results174 (Rv z) a ⟨z,z⟩
theorem scene_who_ok {h:PH} {pv0:Value} {s1:repairscene} (pr0:Pt Vrepairscene h pv0 s1) {name2:ByteArray} {r_0:Int} (H:scene_who s1 name2 = some r_0):∀ L,FnS Tryz.prog 89 [pv0,.string name2] h (L) (fun v h' L'=>v = .int .i64 r_0∧L' = L):=by
 intro L
 refine FnS.enter Tryz.func89 z Tryz.ntmps89 z<|Sr<|To (O.boxF z z z fun a c b d=>Ag z<|Nt<|Sr<|Mv z<|have e:=Pt.mono Vrepairscene.mono pr0 b; have f:=e; ?_)
 obtain ⟨x,_,rfl,g,⟨y,A,B,C,D,E,G,rfl,I,J,i,K,M,N,P⟩⟩:=f
 refine Vv (V.nck z)<|Vv (V.fa fdrepair_69_1 z)<|Vv (V.fa fdrepair_28_1 z)<|Vv (V.ldf (k:=2) shrepair_23 z g z)<|Vv (V.mkf z z) ?_
 obtain ⟨S,j,H⟩:=bnd H
 refine To (O.callS z (sl_IndexFuncGuest_ok i (show CF233 c (.func (.func 174) #[] #[.pointer (some ⟨a,0,none⟩)]) (fun m=>scene_who_1 m name2) from ⟨⟨z,z⟩,.inr ⟨174,[],[.pointer (some ⟨a,0,none⟩)],z,fun n o U W p X q r=>scene_who_1_ok p (d.mono o) (show VS n [.string name2] name2 from z) q r⟩⟩) j _) z fun Y Z aa s t=>?_)
 obtain ⟨rfl,u⟩:=t
 refine Sl_ _ u<|Ag z<|Nt<|T.ret ?_
 obtain rfl:=Option.some.inj H
 have w:=(b.trans s)
 exact T.retL Tryz.results89 (Rv z) w ⟨z,z⟩
theorem scene_full_ok {h:PH} {pv0:Value} {s1:repairscene} (pr0:Pt Vrepairscene h pv0 s1) {r_0:Bool} (H:scene_full s1 = some r_0):∀ L,FnS Tryz.prog 103 [pv0] h (L) (fun v h' L'=>v = .bool r_0∧L' = L):=by
 intro L
 refine FnS.enter Tryz.func103 z Tryz.ntmps103 z<|Sr<|Ag z<|Nt<|Sr<|Mv z<|have a:=pr0; ?_
 obtain ⟨d,_,rfl,b,⟨e,f,g,i,j,m,n,rfl,o,p,q,r,s,c,t⟩⟩:=a
 refine Vv (V.nck z)<|Vv (V.fa fdrepair_69_1 z)<|Vv (V.fa fdrepair_28_4 z)<|Vv (V.ldf (k:=5) shrepair_26 z b z)<|Vv (V.lenS elrepair_26 z c)<|Vv (V.eq z z)<|Ag z<|Nt<|T.ret ?_
 obtain rfl:=Option.some.inj H
 exact T.retL Tryz.results103 (Rv z) Lr ⟨z,z⟩
theorem scene_tie_1_ok {h:PH} {pc0:List Value} {t1:apiTie} (pr0:VapiTie h pc0 t1) {pp1:Addr} {pc1:List Value} {t2:ByteArray} (pa1:AtC h pp1 pc1) (pr1:VS h pc1 t2) {pp2:Addr} {pc2:List Value} {t3:ByteArray} (pa2:AtC h pp2 pc2) (pr2:VS h pc2 t3) {r_0:Bool} (H:scene_tie_1 t1 t2 t3 = some r_0):∀ L,FnS Tryz.prog 187 [.agg pc0.toArray,.pointer (some pp1),.pointer (some pp2)] h (L) (fun v h' L'=>v = .bool r_0∧L' = L):=by
 intro L
 exact dead H
theorem scene_tie_ok {h:PH} {pv0:Value} {s1:repairscene} (pr0:Pt Vrepairscene h pv0 s1) {a2:ByteArray} {b3:ByteArray} {r_0:Int} (H:scene_tie s1 a2 b3 = some r_0):∀ L,FnS Tryz.prog 104 [pv0,.string a2,.string b3] h (L) (fun v h' L'=>v = .int .i64 r_0∧L' = L):=by
 intro L
 refine FnS.enter Tryz.func104 z Tryz.ntmps104 z<|Sr<|To (O.boxF z z z fun a D g i=>To (O.boxF z z z fun b j c m=>Ag z<|Nt<|Sr<|Mv z<|have d:=(g.trans c); have n:=Pt.mono Vrepairscene.mono pr0 d; have o:=n; ?_))
 obtain ⟨E,_,rfl,p,⟨G,I,J,K,M,N,P,rfl,S,U,W,q,X,Y,Z⟩⟩:=o
 refine Vv (V.nck z)<|Vv (V.fa fdrepair_69_1 z)<|Vv (V.fa fdrepair_28_2 z)<|Vv (V.ldf (k:=3) shrepair_24 z p z)<|Vv (V.mkf z z)<|have r:=i.mono c; ?_
 obtain ⟨aa,s,H⟩:=bnd H
 refine To (O.callS z (sl_IndexFuncTie_ok q (show CF165 j (.func (.func 187) #[] #[.pointer (some ⟨a,0,none⟩),.pointer (some ⟨b,0,none⟩)]) (fun t=>scene_tie_1 t a2 b3) from ⟨⟨z,z⟩,.inr ⟨187,[],[.pointer (some ⟨a,0,none⟩),.pointer (some ⟨b,0,none⟩)],z,fun e f ab ac u ad w x=>scene_tie_1_ok u (r.mono f) (show VS e [.string a2] a2 from z) (m.mono f) (show VS e [.string b3] b3 from z) w x⟩⟩) s _) z fun ae af ag y A=>?_)
 obtain ⟨rfl,B⟩:=A
 refine Sl_ _ B<|Ag z<|Nt<|T.ret ?_
 obtain rfl:=Option.some.inj H
 have C:=(d.trans y)
 exact T.retL Tryz.results104 (Rv z) C ⟨z,z⟩
theorem rule_CheckRule_ok {h:PH} {pc0:List Value} {p1:apiProblem} (pr0:VapiProblem h pc0 p1) {pc1:List Value} {r12:apiRule} (pr1:VapiRule h pc1 r12) {r_0:Int} (H:rule_CheckRule p1 r12 = some r_0):∀ L,FnS Tryz.prog 110 [.agg pc0.toArray,.agg pc1.toArray] h (L) (fun v h' L'=>v = .int .i64 r_0∧L' = L):=by
 intro L
 obtain ⟨e,f,i,j,m,rfl,B,C,D,E,G⟩:=pr0
 obtain rfl:=pr1
 refine FnS.enter Tryz.func110 rfl Tryz.ntmps110 rfl<|Sr<|To (O.boxF rfl rfl rfl fun an ao I J=>To (O.boxF rfl rfl rfl fun ap K q M=>Ag z<|Nt<|Sq<|Sr<|have r:=J.mono q; Vv (V.ldS rfl r (by exact shrepair_28)) ?_))
 have b:=(I.trans q)
 have s:=Slc.mono VapiTable.mono B b
 have u:=Slc.mono VapiGuest.mono C b
 have w:=Slc.mono VapiTie.mono D b
 have x:=Slc.mono VI.mono E b
 have y:=Slc.mono VapiRule.mono G b
 obtain ⟨⟨aq,ar⟩,N,H⟩:=bnd H
 refine To (O.callS z (rule_basis_ok (show VapiProblem K [e,f,i,j,m] p1 from ⟨e,f,i,j,m,z,s,u,w,x,y⟩) N _) z fun au aw ax n P=>?_)
 obtain ⟨rfl,S⟩:=P
 refine Sl_ _ S<|Mv z<|Vv (V.ext z z)<|Vv (V.ext z z)<|Ag z<|Ag z<|Nt<|Sr<|Mv z<|Vv (V.ne z z)<|Nt<|T.cH H z (fun H=>?_) (fun H=>?_)
 ·exact dead H
 refine T.skip<|Th<|Sq<|T.drawF (t:=(.v 1 (.v 2 (.v 4 (.v 5 (.alt 0 (.g (.v 3 (.alt 6 (.alt 7 .done .no) .no))) .no)))))) 9 0 0 rfl rfl repairmixed (by kernel_rfl) ?_
 refine Tv z (V.fa fdrepair_39_0 rfl)<|have A:=M.mono n; Tv z (V.ldf (k:=0) shrepair_37 rfl A rfl)<|have U:=r.mono n; Tv z (V.ldS rfl U (by exact shrepair_28)) ?_
 refine Tv z (V.ldS rfl A (by exact shrepair_39)) ?_
 obtain ⟨ay,W,H⟩:=bnd H
 refine Tp z z (SX.two (XA.fr [] Lr z) (XA.fr [] Lr z)) (O.callS z (rule_kinds_ok W _) z fun aA o aB p X=>?_) T.tno
 obtain ⟨Y,Z⟩:=X
 refine Sl_ _ Y<|T.tgrow p ?_
 obtain ⟨⟨a,aC⟩,aa,H⟩:=bnd H
 obtain ⟨_,ab,rfl⟩:=Mp.look (zc:=[.string (⟨#[]⟩:ByteArray),.int .u8 (0:Int),.bool false,.int .u8 (0:Int),.bool false,.int .i64 (0:Int),.bool false,(fnV (0:Nat))]) (agg:=true) Tryz.underlying104 (KeyOK.int Tryz.underlying37) zerepair_210 (show Vrulekind o [.string (⟨#[]⟩:ByteArray),.int .u8 (0:Int),.bool false,.int .u8 (0:Int),.bool false,.int .i64 (0:Int),.bool false,(fnV (0:Nat))] (rulekind.mk (⟨#[]⟩:ByteArray) (0:Int) false (0:Int) false (0:Int) false (0:Nat)) from rfl) Z aa
 refine Tv z (V.lkF1 z z ab)<|have c:=(n.trans p); have ac:=Slc.mono VapiTable.mono s c; have ad:=Slc.mono VapiGuest.mono u c; have ae:=Slc.mono VapiTie.mono w c; have af:=Slc.mono VI.mono x c; have ag:=Slc.mono VapiRule.mono y c; ?_
 obtain ⟨aD,ai,H⟩:=bnd H
 refine Tp z z (SX.two (XA.fr [] Lr z) (XA.fr [] Lr z)) (O.callS z (kind_check_ok (show Vrulekind o [.string a.fword,.int .u8 a.fa,.bool a.fb,.int .u8 a.ft,.bool a.fn,.int .i64 a.flo,.bool a.fseat,(fnV a.ffind)] a from z) (show VapiProblem o [e,f,i,j,m] p1 from ⟨e,f,i,j,m,z,ac,ad,ae,af,ag⟩) (show VapiRule o [.int .u8 r12.fKind,.int .i64 r12.fWeight,.string r12.fA,.string r12.fB,.string r12.fTable,.int .i64 r12.fN] r12 from z) ai _) z fun aE aG aI d aj=>?_) T.tno
 obtain ⟨rfl,ak⟩:=aj
 refine Sl_ _ ak<|Ts z z (SX.two (XA.fr [] d z) (XA.fr [] d z)) (V.asg z) z ?_ T.tno
 refine T.tnil (SX.two (XA.fr [] d z) (XA.fr [] d z))<|Th<|T.ret ?_
 obtain rfl:=Option.some.inj H
 have am:=(((b.trans n).trans p).trans d)
 exact T.retL Tryz.results110 (Rv z) am ⟨z,z⟩
theorem scene_checkLate_ok {h:PH} {pv0:Value} {s1:repairscene} (pr0:Pt Vrepairscene h pv0 s1) {pc1:List Value} {c2:apiChange} (pr1:VapiChange h pc1 c2) {r_0:Int} (H:scene_checkLate s1 c2 = some r_0):∀ L,FnS Tryz.prog 31 [pv0,.agg pc1.toArray] h (L) (fun v h' L'=>v = .int .i64 r_0∧L' = L):=by
 intro L
 obtain ⟨e,rfl,A⟩:=pr1
 refine FnS.enter Tryz.func31 z Tryz.ntmps31 z<|Sr<|To (O.boxF z z z fun an B c f=>Ag z<|Nt<|Sr<|Ag z<|Nt<|Sq<|Sr<|Mv z<|have C:=Pt.mono Vrepairscene.mono pr0 c; have D:=C; ?_)
 obtain ⟨ao,_,rfl,g,⟨i,j,m,n,o,p,q,rfl,E,G,I,J,r,K,M⟩⟩:=D
 refine Vv (V.nck z)<|Vv (V.fa fdrepair_69_1 z)<|Vv (V.fa fdrepair_28_3 z)<|Vv (V.ldf (k:=4) shrepair_25 z g z)<|Vv (V.lenS elrepair_25 z r)<|Vv (V.eq z z)<|Nt<|T.cH H z (fun H=>?_) (fun H=>?_)
 ·refine Rg<|Ag z<|Nt<|Sq<|Sr<|Vv (V.fa fdrepair_41_1 z)<|Vv (V.ldSf (k:=1) shrepair_35 z f (Nat.le_of_ble_eq_true z))<|have N:=Slc.mono VS.mono A c; ?_
  obtain ⟨ap,P,H⟩:=bnd H
  refine To (O.callS z (guest_Check_ok (show VapiGuest B [.string c2.fGuest.fName,.string c2.fGuest.fRank,.string c2.fGuest.fCourt,.int .i64 c2.fGuest.fSince,.int .i64 c2.fGuest.fSide,.string c2.fGuest.fDiet,.bool c2.fGuest.fHost,.bool c2.fGuest.fAccess,e] c2.fGuest from ⟨e,z,N⟩) P _) z fun aq S ar a U=>?_)
  obtain ⟨rfl,W⟩:=U
  refine Sl_ _ W<|Ag z<|Nt<|Bl<|Sr<|Mv z<|Vv (V.ne z z)<|Ag z<|Nt<|T.cH H z (fun H=>?_) (fun H=>?_)
  ·exact dead H
  refine Sr<|Mv z<|Vv (V.fa fdrepair_41_1 z)<|Vv (V.fa fdrepair_35_0 z)<|have s:=f.mono a; Vv (V.ldf (k:=1) shrepair_9 z s z)<|have u:=g.mono a; have X:=Pt.mono VruleJudge.mono E a; have Y:=Slc.mono VapiTable.mono G a; have w:=Slc.mono VapiGuest.mono I a; have Z:=Slc.mono VapiTie.mono J a; have aa:=Slc.mono VI.mono r a; have ab:=Slc.mono VapiRule.mono K a; have ac:=Slc.mono VI.mono M a; ?_
  obtain ⟨au,ad,H⟩:=bnd H
  refine To (O.callS z (scene_who_ok (Pt.mk u (show Vrepairscene S [i,j,m,n,o,p,q,.int .i64 s1.fseats] s1 from ⟨i,j,m,n,o,p,q,z,X,Y,w,Z,aa,ab,ac⟩)) ad _) z fun aw ax ay b ae=>?_)
  obtain ⟨rfl,af⟩:=ae
  refine Sl_ _ af<|Vv (V.ge z z)<|Ag z<|Nt<|T.cH H z (fun H=>?_) (fun H=>?_)
  ·refine Sr<|Ag z<|Nt<|T.ret<|Br<|Tr ?_
   obtain rfl:=Option.some.inj H
   have ag:=((c.trans a).trans b)
   exact T.retL Tryz.results31 (Rv z) ag ⟨z,z⟩
  refine Sr<|Mv z<|Vv (V.nck z)<|Vv (V.fa fdrepair_69_1 z)<|Vv (V.fa fdrepair_28_1 z)<|have d:=u.mono b; Vv (V.ldf (k:=2) shrepair_23 z d z)<|have x:=Slc.mono VapiGuest.mono w b; Vv (V.lenS elrepair_23 z x)<|Vv (V.eq z z)<|Ag z<|Nt<|T.cH H z (fun H=>?_) (fun H=>?_)
  ·refine Sq<|T.norm [] z<|Rg<|Ag z<|Nt<|T.ret<|Br<|Tr ?_
   obtain rfl:=Option.some.inj H
   have ai:=((c.trans a).trans b)
   exact T.retL Tryz.results31 (Rv z) ai ⟨z,z⟩
  refine Sq<|T.norm [0,3,5] rfl<|T.drawF (t:=(.v 0 (.v 1 (.v 2 (.v 3 (.v 4 (.v 5 (.v 6 (.v 7 (.v 8 (.v 9 (.v 10 (.alt 11 .done .no))))))))))))) 13 0 0 rfl rfl repairmixed (by kernel_rfl) ?_
  refine Tm z z<|Tv z (V.nck z)<|Tv z (V.fa fdrepair_69_1 z)<|Tv z (V.fa fdrepair_28_1 z)<|Tv z (V.ldf (k:=2) shrepair_23 z d z)<|Tv z (V.lenS elrepair_23 z x)<|Tm z z<|Tv z (V.nck z)<|Tv z (V.fa fdrepair_69_3 z)<|Tv z (V.ldf (k:=7) shrepair_3 z d z)<|Tv z (V.eq z z)<|Ts z z (SX.two (XA.fr [] Lr z) (XA.fr [] Lr z)) (V.asg z) z ?_ T.tno
  refine T.tnil (SX.two (XA.fr [] Lr z) (XA.fr [] Lr z))<|Th<|T.cH H z (fun H=>?_) (fun H=>?_)
  ·refine Sr<|Ag z<|Nt<|T.ret<|Br<|Tr ?_
   obtain rfl:=Option.some.inj H
   have aj:=((c.trans a).trans b)
   exact T.retL Tryz.results31 (Rv z) aj ⟨z,z⟩
  refine Sr<|Vv (V.fa fdrepair_41_5 z)<|have y:=s.mono b; Vv (V.ldf (k:=13) shrepair_3 z y z)<|Vv (V.lt z z)<|Mv z<|T.bH 52 H z (fun H=>?_) (fun H=>?_)
  ·exact dead H
  refine Vv (V.fa fdrepair_41_5 z)<|Vv (V.ldf (k:=13) shrepair_3 z y z)<|Mv z<|Vv (V.gt z z)<|Vv (V.pkF z z)<|Ag z<|Nt<|T.cH H z (fun H=>?_) (fun H=>?_)
  ·refine Sr<|Ag z<|Nt<|T.ret<|Br<|Tr ?_
   obtain rfl:=Option.some.inj H
   have ak:=((c.trans a).trans b)
   exact T.retL Tryz.results31 (Rv z) ak ⟨z,z⟩
  refine T.skip<|Bn<|Th<|Sr<|Ag z<|Nt<|T.ret ?_
  obtain rfl:=Option.some.inj H
  have am:=((c.trans a).trans b)
  exact T.retL Tryz.results31 (Rv z) am ⟨z,z⟩
 exact dead H
theorem scene_checkCancel_ok {h:PH} {pv0:Value} {s1:repairscene} (pr0:Pt Vrepairscene h pv0 s1) {pc1:List Value} {c2:apiChange} (pr1:VapiChange h pc1 c2) {r_0:Int} (H:scene_checkCancel s1 c2 = some r_0):∀ L,FnS Tryz.prog 35 [pv0,.agg pc1.toArray] h (L) (fun v h' L'=>v = .int .i64 r_0∧L' = L):=by
 intro L
 obtain ⟨j,rfl,m⟩:=pr1
 refine FnS.enter Tryz.func35 z Tryz.ntmps35 z<|Sr<|To (O.boxF z z z fun n o a b=>Ag z<|Nt<|Sq<|Sr<|Mv z<|Vv (V.fa fdrepair_41_2 z)<|Vv (V.ldf (k:=10) shrepair_9 z b z)<|have c:=Pt.mono Vrepairscene.mono pr0 a; ?_)
 obtain ⟨p,d,H⟩:=bnd H
 refine To (O.callS z (scene_who_ok c d _) z fun q r s e f=>?_)
 obtain ⟨rfl,g⟩:=f
 refine Sl_ _ g<|Vv (V.lt z z)<|Nt<|T.cH H z (fun H=>?_) (fun H=>?_)
 ·exact dead H
 refine T.skip<|Th<|Sr<|Ag z<|Nt<|T.ret ?_
 obtain rfl:=Option.some.inj H
 have i:=(a.trans e)
 exact T.retL Tryz.results35 (Rv z) i ⟨z,z⟩
theorem scene_checkQuarrel_ok {h:PH} {pv0:Value} {s1:repairscene} (pr0:Pt Vrepairscene h pv0 s1) {pc1:List Value} {c2:apiChange} (pr1:VapiChange h pc1 c2) {r_0:Int} (H:scene_checkQuarrel s1 c2 = some r_0):∀ L,FnS Tryz.prog 39 [pv0,.agg pc1.toArray] h (L) (fun v h' L'=>v = .int .i64 r_0∧L' = L):=by
 intro L
 obtain ⟨E,rfl,G⟩:=pr1
 refine FnS.enter Tryz.func39 z Tryz.ntmps39 z<|Sr<|To (O.boxF z z z fun I J c e=>Ag z<|Nt<|Sq<|Bl<|Sr<|Mv z<|Vv (V.fa fdrepair_41_2 z)<|Vv (V.ldf (k:=10) shrepair_9 z e z)<|have f:=Pt.mono Vrepairscene.mono pr0 c; ?_)
 obtain ⟨K,n,H⟩:=bnd H
 refine To (O.callS z (scene_who_ok f n _) z fun M N P a o=>?_)
 obtain ⟨rfl,p⟩:=o
 refine Sl_ _ p<|Vv (V.lt z z)<|Mv z<|T.bH 11 H z (fun H=>?_) (fun H=>?_)
 ·exact dead H
 refine Mv z<|Vv (V.fa fdrepair_41_3 z)<|have g:=e.mono a; Vv (V.ldf (k:=11) shrepair_9 z g z)<|have i:=Pt.mono Vrepairscene.mono f a; ?_
 obtain ⟨S,q,H⟩:=bnd H
 refine To (O.callS z (scene_who_ok i q _) z fun U W X b r=>?_)
 obtain ⟨rfl,s⟩:=r
 refine Sl_ _ s<|Vv (V.lt z z)<|Vv (V.pkF z z)<|Ag z<|Nt<|T.cH H z (fun H=>?_) (fun H=>?_)
 ·exact dead H
 refine Sr<|Vv (V.fa fdrepair_41_2 z)<|have j:=g.mono b; Vv (V.ldf (k:=10) shrepair_9 z j z)<|Vv (V.fa fdrepair_41_3 z)<|Vv (V.ldf (k:=11) shrepair_9 z j z)<|Vv (V.seq z z)<|Ag z<|Nt<|T.cH H z (fun H=>?_) (fun H=>?_)
 ·exact dead H
 refine Sr<|Mv z<|have m:=Pt.mono Vrepairscene.mono i b; ?_
 obtain ⟨Y,t,H⟩:=bnd H
 refine To (O.callS z (scene_full_ok m t _) z fun Z aa ab d u=>?_)
 obtain ⟨rfl,w⟩:=u
 refine Sl_ _ w<|Mv z<|T.bH 27 H z (fun H=>?_) (fun H=>?_)
 ·refine Sk<|Sk<|Sk<|Sk<|Sk<|Sk<|Sk<|Sk<|Sk<|Sk<|Sk<|Sk<|Sk<|Sk<|Sk<|Sk<|Vv (V.pkT z z)<|Ag z<|Nt<|Ct z<|Sr<|Ag z<|Nt<|T.ret<|Br<|Tr ?_
  obtain rfl:=Option.some.inj H
  have x:=(((c.trans a).trans b).trans d)
  exact T.retL Tryz.results39 (Rv z) x ⟨z,z⟩
 refine Mv z<|have y:=Pt.mono Vrepairscene.mono m d; have A:=y; ?_
 obtain ⟨ac,_,rfl,B,⟨ad,ae,af,ag,ai,aj,ak,rfl,am,an,ao,C,ap,aq,ar⟩⟩:=A
 refine Vv (V.nck z)<|Vv (V.fa fdrepair_69_1 z)<|Vv (V.fa fdrepair_28_2 z)<|Vv (V.ldf (k:=3) shrepair_24 z B z)<|Vv (V.lenS elrepair_24 z C)<|Vv (V.eq z z)<|Mv z<|T.bH 35 H z (fun H=>?_) (fun H=>?_)
 ·exact dead H
 refine Sk<|Sk<|Sk<|Sk<|Sk<|Sk<|Sk<|Vv (V.pkF z z)<|Vv (V.pkF z z)<|Ag z<|Nt<|Cf z<|T.skip<|Bn<|Th<|Sq<|T.norm [] z<|Rg<|Ag z<|Nt<|T.ret ?_
 obtain rfl:=Option.some.inj H
 have D:=(((c.trans a).trans b).trans d)
 exact T.retL Tryz.results39 (Rv z) D ⟨z,z⟩
theorem scene_checkClose_ok {h:PH} {pv0:Value} {s1:repairscene} (pr0:Pt Vrepairscene h pv0 s1) {pc1:List Value} {c2:apiChange} (pr1:VapiChange h pc1 c2) {r_0:Int} (H:scene_checkClose s1 c2 = some r_0):∀ L,FnS Tryz.prog 43 [pv0,.agg pc1.toArray] h (L) (fun v h' L'=>v = .int .i64 r_0∧L' = L):=by
 intro L
 obtain ⟨ab,rfl,ac⟩:=pr1
 refine FnS.enter Tryz.func43 rfl Tryz.ntmps43 rfl<|Sr<|To (O.boxF rfl rfl rfl fun ad ae b c=>Ag z<|Nt<|Sq<|T.drawF (t:=(.v 0 (.v 1 (.v 2 (.v 3 (.v 4 (.v 5 (.v 6 (.alt 7 (.g (.v 8 (.v 9 (.v 10 (.alt 11 (.alt 12 .done .no) .no))))) .no))))))))) 14 0 0 rfl rfl repairmixed (by kernel_rfl) ?_)
 refine Tm z z<|have r:=Pt.mono Vrepairscene.mono pr0 b; have s:=r; ?_
 obtain ⟨af,_,rfl,d,⟨e,f,i,j,m,n,o,rfl,u,p,w,x,y,A,B⟩⟩:=s
 refine Tv z (V.nck z)<|Tv z (V.fa fdrepair_69_1 z)<|Tv z (V.fa fdrepair_28_0 z)<|Tv z (V.ldf (k:=1) shrepair_22 z d z)<|Tv z (V.fa fdrepair_41_4 z)<|Tv z (V.ldf (k:=12) shrepair_9 z c z) ?_
 obtain ⟨⟨ag,ai⟩,C,H⟩:=bnd H
 refine Tp z z (SX.two (XA.fr [] Lr z) (XA.fr [] Lr z)) (O.callS z (hall_Find_ok p C _) z fun aj D ak a E=>?_) T.tno
 obtain ⟨rfl,G⟩:=E
 refine Sl_ _ G<|T.tgrow a<|Tm z z<|Tv z (V.ext z z)<|Tv z (V.ext z z)<|Ts z z (SX.two (XA.fr [] Lr z) (XA.fr [] Lr z)) (V.asg z) z ?_ T.tno
 refine Ts z z (SX.two (XA.fr [] Lr z) (XA.fr [] Lr z)) (V.asg z) z ?_ T.tno
 refine T.tnil (SX.two (XA.fr [] Lr z) (XA.fr [] Lr z))<|Th<|Sq<|Bl<|Sr<|Mv z<|Vv (V.not z)<|Ag z<|Nt<|T.cH H z (fun H=>?_) (fun H=>?_)
 ·exact dead H
 refine Sr<|Vv (V.fa fdrepair_41_5 z)<|have q:=c.mono a; Vv (V.ldf (k:=13) shrepair_3 z q z)<|Vv (V.lt z z)<|Mv z<|T.bH 25 H z (fun H=>?_) (fun H=>?_)
 ·exact dead H
 refine Vv (V.fa fdrepair_41_5 z)<|Vv (V.ldf (k:=13) shrepair_3 z q z)<|Vv (V.gt z z)<|Vv (V.pkF z z)<|Ag z<|Nt<|T.cH H z (fun H=>?_) (fun H=>?_)
 ·exact dead H
 refine Sr<|Mv z<|have I:=d.mono a; have J:=Pt.mono VruleJudge.mono u a; have K:=Slc.mono VapiTable.mono p a; have M:=Slc.mono VapiGuest.mono w a; have N:=Slc.mono VapiTie.mono x a; have P:=Slc.mono VI.mono y a; have S:=Slc.mono VapiRule.mono A a; have U:=Slc.mono VI.mono B a; ?_
 obtain ⟨am,W,H⟩:=bnd H
 refine To (O.callS z (scene_full_ok (Pt.mk I (show Vrepairscene D [e,f,i,j,m,n,o,.int .i64 s1.fseats] s1 from ⟨e,f,i,j,m,n,o,z,J,K,M,N,P,S,U⟩)) W _) z fun an ao ap X Y=>?_)
 obtain ⟨rfl,Z⟩:=Y
 refine Sl_ _ Z<|Ag z<|Nt<|T.cH H z (fun H=>?_) (fun H=>?_)
 ·refine Sr<|Ag z<|Nt<|T.ret<|Br<|Tr ?_
  obtain rfl:=Option.some.inj H
  have aa:=((b.trans a).trans X)
  exact T.retL Tryz.results43 (Rv z) aa ⟨z,z⟩
 exact dead H
theorem scene_checkDemand_ok {h:PH} {pv0:Value} {s1:repairscene} (pr0:Pt Vrepairscene h pv0 s1) {pc1:List Value} {c2:apiChange} (pr1:VapiChange h pc1 c2) {r_0:Int} (H:scene_checkDemand s1 c2 = some r_0):∀ L,FnS Tryz.prog 48 [pv0,.agg pc1.toArray] h (L) (fun v h' L'=>v = .int .i64 r_0∧L' = L):=by
 intro L
 obtain ⟨aa,rfl,ab⟩:=pr1
 refine FnS.enter Tryz.func48 rfl Tryz.ntmps48 rfl<|Sr<|To (O.boxF rfl rfl rfl fun ac g i u=>Ag z<|Nt<|Sq<|Sq<|T.drawF (t:=(.v 0 (.v 1 (.v 2 (.v 3 (.v 4 (.v 5 (.alt 6 (.alt 7 .done .no) .no)))))))) 9 0 0 rfl rfl repairmixed (by kernel_rfl) ?_)
 refine Tm z z<|have w:=Pt.mono Vrepairscene.mono pr0 i; have x:=w; ?_
 obtain ⟨ad,_,rfl,j,⟨m,b,c,d,e,f,n,rfl,y,o,p,q,r,s,A⟩⟩:=x
 refine Tv z (V.nck z)<|Tv z (V.fa fdrepair_69_1 z)<|Tv z (V.ldSf (k:=1) shrepair_28 z j (Nat.le_of_ble_eq_true z))<|Tv z (V.fa fdrepair_41_6 z)<|Tv z (V.ldSf (k:=14) shrepair_39 z u (Nat.le_of_ble_eq_true z)) ?_
 obtain ⟨ae,B,H⟩:=bnd H
 refine Tp z z (SX.two (XA.fr [] Lr z) (XA.fr [] Lr z)) (O.callS z (rule_CheckRule_ok (show VapiProblem g [b,c,d,e,f] s1.fp from ⟨b,c,d,e,f,z,o,p,q,r,s⟩) (show VapiRule g [.int .u8 c2.fRule.fKind,.int .i64 c2.fRule.fWeight,.string c2.fRule.fA,.string c2.fRule.fB,.string c2.fRule.fTable,.int .i64 c2.fRule.fN] c2.fRule from z) B _) z fun af C ag a D=>?_) T.tno
 obtain ⟨rfl,E⟩:=D
 refine Sl_ _ E<|Ts z z (SX.two (XA.fr [] a z) (XA.fr [] a z)) (V.asg z) z ?_ T.tno
 refine T.tnil (SX.two (XA.fr [] a z) (XA.fr [] a z))<|Th<|Sr<|Mv z<|Vv (V.ne z z)<|Nt<|T.cH H z (fun H=>?_) (fun H=>?_)
 ·exact dead H
 refine T.skip<|Th<|Sq<|Sr<|Mv z<|have G:=j.mono a; have I:=Pt.mono VruleJudge.mono y a; have J:=Slc.mono VapiTable.mono o a; have K:=Slc.mono VapiGuest.mono p a; have M:=Slc.mono VapiTie.mono q a; have N:=Slc.mono VI.mono r a; have P:=Slc.mono VapiRule.mono s a; have S:=Slc.mono VI.mono A a; ?_
 obtain ⟨ai,U,H⟩:=bnd H
 refine To (O.callS z (scene_full_ok (Pt.mk G (show Vrepairscene C [m,b,c,d,e,f,n,.int .i64 s1.fseats] s1 from ⟨m,b,c,d,e,f,n,z,I,J,K,M,N,P,S⟩)) U _) z fun aj ak am W X=>?_)
 obtain ⟨rfl,Y⟩:=X
 refine Sl_ _ Y<|Nt<|T.cH H z (fun H=>?_) (fun H=>?_)
 ·refine Sr<|Ag z<|Nt<|T.ret<|Tr ?_
  obtain rfl:=Option.some.inj H
  have Z:=((i.trans a).trans W)
  exact T.retL Tryz.results48 (Rv z) Z ⟨z,z⟩
 exact dead H
theorem way_check_call {h : PH} {n : Nat} {pv0 : Value} {s1 : repairscene} (pr0 : Pt Vrepairscene h pv0 s1) {pc1 : List Value} {c2 : apiChange} (pr1 : VapiChange h pc1 c2) {r_0 : Int} (H : way_check n s1 c2 = some r_0) :
    ∃ fid us vs, fnV n = .func (.func fid) us.toArray vs.toArray ∧ ∀ L, FnS Tryz.prog fid (us ++ [pv0, .agg pc1.toArray] ++ vs) h (L) (fun v h' L' => v = .int .i64 r_0 ∧ L' = L) := by
  unfold way_check at H
  refine rfE H (fun e H => ?_) (fun _ H => ?_)
  · subst e; exact ⟨31, [], [], rfl, scene_checkLate_ok pr0 pr1 H⟩
  refine rfE H (fun e H => ?_) (fun _ H => ?_)
  · subst e; exact ⟨35, [], [], rfl, scene_checkCancel_ok pr0 pr1 H⟩
  refine rfE H (fun e H => ?_) (fun _ H => ?_)
  · subst e; exact ⟨39, [], [], rfl, scene_checkQuarrel_ok pr0 pr1 H⟩
  refine rfE H (fun e H => ?_) (fun _ H => ?_)
  · subst e; exact ⟨43, [], [], rfl, scene_checkClose_ok pr0 pr1 H⟩
  refine rfE H (fun e H => ?_) (fun _ H => ?_)
  · subst e; exact ⟨48, [], [], rfl, scene_checkDemand_ok pr0 pr1 H⟩
  cases H
theorem scene_cancel_1_ok {h:PH} {pc0:List Value} {t1:apiTie} (pr0:VapiTie h pc0 t1) {pp1:Addr} {pc1:List Value} {t2:apiChange} (pa1:AtC h pp1 pc1) (pr1:VapiChange h pc1 t2) {r_0:Bool} (H:scene_cancel_1 t1 t2 = some r_0):∀ L,FnS Tryz.prog 99 [.agg pc0.toArray,.pointer (some pp1)] h (L) (fun v h' L'=>v = .bool r_0∧L' = L):=by
 intro L
 exact dead H
theorem scene_cancel_2_ok {h:PH} {pc0:List Value} {r1:apiRule} (pr0:VapiRule h pc0 r1) {pp1:Addr} {pc1:List Value} {t2:apiChange} (pa1:AtC h pp1 pc1) (pr1:VapiChange h pc1 t2) {r_0:Bool} (H:scene_cancel_2 r1 t2 = some r_0):∀ L,FnS Tryz.prog 100 [.agg pc0.toArray,.pointer (some pp1)] h (L) (fun v h' L'=>v = .bool r_0∧L' = L):=by
 intro L
 exact dead H
theorem scene_quarrel_1_ok {h:PH} {pc0:List Value} {x1:apiTie} (pr0:VapiTie h pc0 x1) {pc1:List Value} {y2:apiTie} (pr1:VapiTie h pc1 y2) {r_0:Int} (H:scene_quarrel_1 x1 y2 = some r_0):∀ L,FnS Tryz.prog 106 [.agg pc0.toArray,.agg pc1.toArray] h (L) (fun v h' L'=>v = .int .i64 r_0∧L' = L):=by
 intro L
 exact dead H
theorem sl_DeleteGuest_ok {h:PH} {pv0:Value} {pcs0:List (List Value)} {s1:List apiGuest} (pr0:RowF VapiGuest h pcs0 s1) {i3:Int} {j4:Int} {r_0:List apiGuest} (H:sl_DeleteGuest s1 i3 j4 = some r_0):∀ L,FnS Tryz.prog 96 [pv0,.int .i64 i3,.int .i64 j4] h (rowR 35 9 pv0 pcs0::L) (fun v h' L'=>∃ cs0,L' = rowR 35 9 v cs0::L∧RowF VapiGuest h' cs0 r_0):=by
 intro L
 refine FnS.enter Tryz.func96 z Tryz.ntmps96 z<|Sr<|Ag z<|Nt<|Sr<|Mv z<|Mv z<|Mv z<|Mv z<|Vv (V.lenX elrepair_23 z (j:=0) z pr0.len) ?_
 obtain ⟨q,e,H⟩:=bnd H
 obtain ⟨r,f,H⟩:=bnd H
 refine Vv (V.sl3 elrepair_23 z (j:=0) z pr0.len z z z (bdV_eq e) (bdV_eq f))<|Nt<|Sq<|Sr<|Mv z<|Mv z<|Vv (V.eq z z)<|Nt<|T.cH H z (fun H=>?_) (fun H=>?_)
 ·exact dead H
 refine T.skip<|Th<|Sr<|Mv z<|Vv (V.lenX elrepair_23 rfl (j:=0) rfl pr0.len)<|Ag z<|Nt<|Sq<|T.drawF (t:=(.v 0 (.v 1 (.v 2 (.v 3 (.v 4 (.v 5 (.alt 6 (.alt 7 .done .no) .no)))))))) 9 1 1 rfl rfl repairmixed (by kernel_rfl) ?_
 refine Tm z z<|Tm z z ?_
 obtain ⟨s,a,H⟩:=bnd H
 refine Tv z (Val.XA fun _ _ _=>V.slVx elrepair_23 z (j:=0) z pr0.len (.inl ⟨z,z⟩) (.inr ⟨_,_,z,z⟩) (bdV_eq a))<|Tm z z<|Tm z z ?_
 obtain ⟨w,g,H⟩:=bnd H
 refine Tv z (Val.XA fun _ _ _=>V.slVx elrepair_23 z (j:=0) z pr0.len (.inr ⟨_,_,z,z⟩) (.inl ⟨z,z⟩) (bdV_eq g)) ?_
 obtain ⟨x,i,H⟩:=bnd H
 refine Ts z z (SX.two (XA.fr [0] Lr z) (XA.fr [0] Lr z)) (V.apE elrepair_23 elrepair_23 zerepair_35 z z (j:=0) z (emV_eq i) (bd_inN pr0.len a)) z ?_ T.tno
 refine Ts z z (SX.two (XA.fr [0] Lr z) (XA.fr [0] Lr z)) (V.asg z) z ?_ T.tno
 refine T.tnil (SX.two (XA.fr [0] Lr z) (XA.fr [0] Lr z))<|Th<|Sr<|Mv z<|Mv z<|Vv (V.lenV elrepair_23 z (j:=0) z)<|Mv z ?_
 obtain ⟨y,k,H⟩:=bnd H
 refine Vv (V.slVV elrepair_23 z (j:=0) z pr0.len z z (bdV_eq k)) ?_
 obtain ⟨A,d,H⟩:=bnd H
 have b:=bd_le pr0.len d
 obtain ⟨m,n,H⟩:=bnd H
 refine To (O.clearX (zs:=[.string (⟨#[]⟩:ByteArray),.string (⟨#[]⟩:ByteArray),.string (⟨#[]⟩:ByteArray),.int .i64 (0:Int),.int .i64 (0:Int),.string (⟨#[]⟩:ByteArray),.bool false,.bool false,.slice none 0 0]) elrepair_23 zerepair_35 z z z (j:=0) z (fun _ iv=>DX.viewX iv (j:=0) z pr0.len (bdV_eq d)) b<|have c:RowF VapiGuest h (putL pcs0 (((i3.toNat - (0:Int).toNat:Nat)):Int).toNat (List.replicate ((s1.length:Int).toNat - (((i3.toNat - (0:Int).toNat:Nat)):Int).toNat) ([.string (⟨#[]⟩:ByteArray),.string (⟨#[]⟩:ByteArray),.string (⟨#[]⟩:ByteArray),.int .i64 (0:Int),.int .i64 (0:Int),.string (⟨#[]⟩:ByteArray),.bool false,.bool false,.slice none 0 0]:List Value))) m:=RowF.clrX pr0 (show VapiGuest h [.string (⟨#[]⟩:ByteArray),.string (⟨#[]⟩:ByteArray),.string (⟨#[]⟩:ByteArray),.int .i64 (0:Int),.int .i64 (0:Int),.string (⟨#[]⟩:ByteArray),.bool false,.bool false,.slice none 0 0] (apiGuest.mk (⟨#[]⟩:ByteArray) (⟨#[]⟩:ByteArray) (⟨#[]⟩:ByteArray) (0:Int) (0:Int) (⟨#[]⟩:ByteArray) false false ([]:List ByteArray)) from ⟨(.slice none 0 0),z,Slc.nil⟩) b n; ?_)
 have o:=bd_len pr0.len c.len (putL_len (by simpa using b)) a
 refine Nt<|Sr<|Mv z<|Ag z<|Nt<|T.ret<|T.rowView (u:=i3) (bd_in c.len o)<|have p:=RowF.take c i3.toNat; ?_
 obtain rfl:=Option.some.inj H
 exact T.retL Tryz.results96 (Rv z) Lr ⟨_,z,p⟩
theorem sl_DeleteInt_ok {h:PH} {pv0:Value} {pcs0:List (List Value)} {s1:List Int} (pr0:RowF (VI .i64) h pcs0 s1) {i3:Int} {j4:Int} {r_0:List Int} (H:sl_DeleteInt s1 i3 j4 = some r_0):∀ L,FnS Tryz.prog 97 [pv0,.int .i64 i3,.int .i64 j4] h (rowR 3 1 pv0 pcs0::L) (fun v h' L'=>∃ cs0,L' = rowR 3 1 v cs0::L∧RowF (VI .i64) h' cs0 r_0):=by
 intro L
 refine FnS.enter Tryz.func97 z Tryz.ntmps97 z<|Sr<|Ag z<|Nt<|Sr<|Mv z<|Mv z<|Mv z<|Mv z<|Vv (V.lenX elrepair_25 z (j:=0) z pr0.len) ?_
 obtain ⟨q,e,H⟩:=bnd H
 obtain ⟨r,f,H⟩:=bnd H
 refine Vv (V.sl3 elrepair_25 z (j:=0) z pr0.len z z z (bdV_eq e) (bdV_eq f))<|Nt<|Sq<|Sr<|Mv z<|Mv z<|Vv (V.eq z z)<|Nt<|T.cH H z (fun H=>?_) (fun H=>?_)
 ·exact dead H
 refine T.skip<|Th<|Sr<|Mv z<|Vv (V.lenX elrepair_25 rfl (j:=0) rfl pr0.len)<|Ag z<|Nt<|Sq<|T.drawF (t:=(.v 0 (.v 1 (.v 2 (.v 3 (.v 4 (.v 5 (.alt 6 (.alt 7 .done .no) .no)))))))) 9 1 1 rfl rfl repairmixed (by kernel_rfl) ?_
 refine Tm z z<|Tm z z ?_
 obtain ⟨s,a,H⟩:=bnd H
 refine Tv z (Val.XA fun _ _ _=>V.slVx elrepair_25 z (j:=0) z pr0.len (.inl ⟨z,z⟩) (.inr ⟨_,_,z,z⟩) (bdV_eq a))<|Tm z z<|Tm z z ?_
 obtain ⟨w,g,H⟩:=bnd H
 refine Tv z (Val.XA fun _ _ _=>V.slVx elrepair_25 z (j:=0) z pr0.len (.inr ⟨_,_,z,z⟩) (.inl ⟨z,z⟩) (bdV_eq g)) ?_
 obtain ⟨x,i,H⟩:=bnd H
 refine Ts z z (SX.two (XA.fr [0] Lr z) (XA.fr [0] Lr z)) (V.apE elrepair_25 elrepair_25 zerepair_3 z z (j:=0) z (emV_eq i) (bd_inN pr0.len a)) z ?_ T.tno
 refine Ts z z (SX.two (XA.fr [0] Lr z) (XA.fr [0] Lr z)) (V.asg z) z ?_ T.tno
 refine T.tnil (SX.two (XA.fr [0] Lr z) (XA.fr [0] Lr z))<|Th<|Sr<|Mv z<|Mv z<|Vv (V.lenV elrepair_25 z (j:=0) z)<|Mv z ?_
 obtain ⟨y,k,H⟩:=bnd H
 refine Vv (V.slVV elrepair_25 z (j:=0) z pr0.len z z (bdV_eq k)) ?_
 obtain ⟨A,d,H⟩:=bnd H
 have b:=bd_le pr0.len d
 obtain ⟨m,n,H⟩:=bnd H
 refine To (O.clear elrepair_25 zerepair_3 z z z (j:=0) z (fun _ iv=>D1.viewX iv (j:=0) z pr0.len (bdV_eq d)) b<|have c:RowF (VI .i64) h (putL pcs0 (((i3.toNat - (0:Int).toNat:Nat)):Int).toNat (List.replicate ((s1.length:Int).toNat - (((i3.toNat - (0:Int).toNat:Nat)):Int).toNat) ([.int .i64 (0:Int)]:List Value))) m:=RowF.clr pr0 (show (VI .i64) h [.int .i64 (0:Int)] (0:Int) from z) b n; ?_)
 have o:=bd_len pr0.len c.len (putL_len (by simpa using b)) a
 refine Nt<|Sr<|Mv z<|Ag z<|Nt<|T.ret<|T.rowView (u:=i3) (bd_in c.len o)<|have p:=RowF.take c i3.toNat; ?_
 obtain rfl:=Option.some.inj H
 exact T.retL Tryz.results97 (Rv z) Lr ⟨_,z,p⟩
theorem sl_insTie_ok {h:PH} {pv0:Value} {pcs0:List (List Value)} {data1:List apiTie} (pr0:RowF VapiTie h pcs0 data1) {a3:Int} {b4:Int} {pv3:Value} {cmp5:apiTie→apiTie→Option Int} (pr3:CF170 h pv3 cmp5) {q_0:List apiTie} (H:sl_insTie data1 a3 b4 cmp5 = some q_0):∀ L,FnS Tryz.prog 261 [pv0,.int .i64 a3,.int .i64 b4,pv3] h (rowR 164 3 pv0 pcs0::L) (fun v h' L'=>∃ ls0,v = .tuple #[]∧L' = rowR 164 3 pv0 ls0::L∧RowF VapiTie h' ls0 q_0):=by
 intro L
 refine FnS.enter Tryz.func261 z Tryz.ntmps261 z<|Sr<|Mv z ?_
 obtain ⟨d,e,H⟩:=bnd H
 refine Vv (V.addS z z e)<|Ag z<|Nt<|T.asThen ?_
 obtain ⟨b,f,g⟩:=bndK H
 refine T.cutK (α:=Unit) [0] z (fun _u=>[]) (fun _u=>rowR 164 3 pv0 pcs0::L) (fun _u hh=>b = ()) ?_ ?_
 ·have H:=f
  refine Bl<|T.loopK (α:=Nat) [0,2,8] z (fun a=>[]) (fun a=>rowR 164 3 pv0 pcs0::L) (fun a hh=>iter (sl_insTie_l0 b4 d) a () = some b) (fun a=>a) FUEL trivial z H ?_
  rintro a o i j
  obtain ⟨p,q,rfl,H,k⟩:=iter_go j
  refine T.norm [0,2,8] z<|Sl_ (rowR 164 3 pv0 pcs0::L) z<|Sq<|Sr<|Mv z<|Mv z<|Vv (V.lt z z)<|Nt<|T.cH H z (fun H=>?_) (fun H=>?_)
  ·exact dead H
  refine T.exit<|Te<|Te<|have H:=iterK_out H k; Be<|Th<|T.met () i H (AllIn.app trivial ⟨z,trivial⟩) z
 rintro _ r c m
 have H:=cutE m g
 refine T.norm [0] z<|Sl_ (rowR 164 3 pv0 pcs0::L) z<|have n:=RowF.mono VapiTie.mono pr0 c; ?_
 obtain rfl:=Option.some.inj H
 exact T.end0 Tryz.results261 c ⟨_,z,z,n⟩
theorem sl_pdqTie_ok (n:Nat):∀ {h:PH} {pv0:Value} {pcs0:List (List Value)} {data1:List apiTie} (pr0:RowF VapiTie h pcs0 data1) {a3:Int} {b4:Int} {limit5:Int} {pv4:Value} {cmp6:apiTie→apiTie→Option Int} (pr4:CF170 h pv4 cmp6) {q_0:List apiTie} (H:sl_pdqTie n data1 a3 b4 limit5 cmp6 = some q_0) (L:List HProp),FnS Tryz.prog 188 [pv0,.int .i64 a3,.int .i64 b4,.int .i64 limit5,pv4] h (rowR 164 3 pv0 pcs0::L) (fun v h' L'=>∃ ls0,v = .tuple #[]∧L' = rowR 164 3 pv0 ls0::L∧RowF VapiTie h' ls0 q_0):=by
  induction n with
  | zero => intros; rename_i H _; cases H
  | succ n self =>
    intro h pv0 pcs0 data1 pr0 a3 b4 limit5 pv4 cmp6 pr4 q_0 H L
    refine FnS.enter Tryz.func188 z Tryz.ntmps188 z<|Sr<|Ag z<|Nt<|Sr<|Ag z<|Nt ?_
    obtain ⟨c,d,e⟩:=bndK H
    have H:=d
    refine Bl<|T.loopK (α:=Nat) [0,1,2,4] z (fun a=>[]) (fun a=>rowR 164 3 pv0 pcs0::L) (fun a hh=>iter (sl_pdqTie_l0 data1 a3 b4 cmp6) a () = some c) (fun a=>a) FUEL trivial z H ?_
    rintro a t b f
    obtain ⟨u,w,rfl,H,g⟩:=iter_go f
    refine T.norm [0,1,2,4] z<|Sl_ (rowR 164 3 pv0 pcs0::L) z<|Bl<|Sr<|Mv z<|Mv z ?_
    obtain ⟨x,i,H⟩:=bnd H
    refine Vv (V.subS z z i)<|Ag z<|Nt<|Sq<|Sr<|Mv z<|Vv (V.le z z)<|Nt<|T.cH H z (fun H=>?_) (fun H=>?_)
    ·refine Sr<|Mv z<|Mv z<|Mv z<|Mv z<|have j:=RowF.mono VapiTie.mono pr0 b; have k:=CF170.mono pr4 b; ?_
     obtain ⟨y,m,H⟩:=bnd H
     refine To (O.callS z (sl_insTie_ok j k m _) z fun A B C o p=>?_)
     obtain ⟨D,rfl,q,r⟩:=p
     refine Sl_ _ q<|Nt<|T.ret<|Tr<|Br<|Tr<|have H:=iterK_out H g; Br<|have H:=cutE H e; ?_
     obtain rfl:=Option.some.inj H
     have s:=(b.trans o)
     exact T.ret0 Tryz.results188 s ⟨_,z,z,r⟩
    exact dead H
theorem sl_SortFuncTie_ok {h:PH} {pv0:Value} {pcs0:List (List Value)} {x1:List apiTie} (pr0:RowF VapiTie h pcs0 x1) {pv1:Value} {cmp3:apiTie→apiTie→Option Int} (pr1:CF170 h pv1 cmp3) {q_0:List apiTie} (H:sl_SortFuncTie x1 cmp3 = some q_0):∀ L,FnS Tryz.prog 105 [pv0,pv1] h (rowR 164 3 pv0 pcs0::L) (fun v h' L'=>∃ ls0,v = .tuple #[]∧L' = rowR 164 3 pv0 ls0::L∧RowF VapiTie h' ls0 q_0):=by
 intro L
 refine FnS.enter Tryz.func105 z Tryz.ntmps105 z<|Sr<|Mv z<|Vv (V.lenX elrepair_24 z (j:=0) z pr0.len)<|Ag z<|Nt<|Rg<|Mv z<|Mv z<|Mv z ?_
 obtain ⟨q,b,H⟩:=bnd H
 refine Vv (V.convS Tryz.underlying3 Tryz.underlying252 z b) ?_
 obtain ⟨r,c,H⟩:=bnd H
 refine To (O.callS z (bits_Len_ok c _) z fun s t u a d=>?_)
 obtain ⟨rfl,e⟩:=d
 refine Sl_ _ e<|Mv z<|have f:=RowF.mono VapiTie.mono pr0 a; have g:=CF170.mono pr1 a; ?_
 obtain ⟨w,i,H⟩:=bnd H
 refine To (O.callS z (sl_pdqTie_ok _ f g i _) z fun x y A k m=>?_)
 obtain ⟨B,rfl,n,o⟩:=m
 refine Sl_ _ n<|Ni ?_
 obtain rfl:=Option.some.inj H
 have p:=(a.trans k)
 exact T.end0 Tryz.results105 p ⟨_,z,z,o⟩
theorem scene_late_ok {h:PH} {pb0:Nat} {s1:repairscene} {v0_1:Value} {v0_3:Value} {css0_4:List (List Value)} {v0_6:Value} {css0_7:List (List Value)} {v0_9:Value} {css0_10:List (List Value)} {v0_12:Value} {css0_13:List (List Value)} {v0_15:Value} {css0_16:List (List Value)} {v0_18:Value} {css0_19:List (List Value)} (hP0_2:Pt VruleJudge h v0_1 s1.fJudge) (hR0_5:RowF VapiTable h css0_4 s1.fp.fTables) (hR0_8:RowF VapiGuest h css0_7 s1.fp.fGuests) (hR0_11:RowF VapiTie h css0_10 s1.fp.fTies) (hR0_14:RowF (VI .i64) h css0_13 s1.fp.fClass) (hR0_17:RowF VapiRule h css0_16 s1.fp.fRules) (hR0_20:RowF (VI .i64) h css0_19 s1.fpart) {pc1:List Value} {c2:apiChange} (pr1:VapiChange h pc1 c2) {q_0:repairscene} (H:scene_late s1 c2 = some q_0):∀ L,FnS Tryz.prog 32 [.pointer (some ⟨pb0,0,none⟩),.agg pc1.toArray] h (blk pb0 (.cells [v0_1,v0_3,v0_6,v0_9,v0_12,v0_15,v0_18,.int .i64 s1.fseats].toArray 69)::rowR 31 7 v0_3 css0_4::rowR 35 9 v0_6 css0_7::rowR 164 3 v0_9 css0_10::rowR 3 1 v0_12 css0_13::rowR 39 6 v0_15 css0_16::rowR 3 1 v0_18 css0_19::L) (fun v h' L'=>∃ vl0_1 vl0_3 cssl0_4 vl0_6 cssl0_7 vl0_9 cssl0_10 vl0_12 cssl0_13 vl0_15 cssl0_16 vl0_18 cssl0_19,v = .tuple #[]∧L' = blk pb0 (.cells [vl0_1,vl0_3,vl0_6,vl0_9,vl0_12,vl0_15,vl0_18,.int .i64 q_0.fseats].toArray 69)::rowR 31 7 vl0_3 cssl0_4::rowR 35 9 vl0_6 cssl0_7::rowR 164 3 vl0_9 cssl0_10::rowR 3 1 vl0_12 cssl0_13::rowR 39 6 vl0_15 cssl0_16::rowR 3 1 vl0_18 cssl0_19::L∧Pt VruleJudge h' vl0_1 q_0.fJudge∧RowF VapiTable h' cssl0_4 q_0.fp.fTables∧RowF VapiGuest h' cssl0_7 q_0.fp.fGuests∧RowF VapiTie h' cssl0_10 q_0.fp.fTies∧RowF (VI .i64) h' cssl0_13 q_0.fp.fClass∧RowF VapiRule h' cssl0_16 q_0.fp.fRules∧RowF (VI .i64) h' cssl0_19 q_0.fpart):=by
 intro L
 obtain ⟨C,rfl,D⟩:=pr1
 refine FnS.enter Tryz.func32 rfl Tryz.ntmps32 rfl<|Sr<|To (O.boxF rfl rfl rfl fun aq ar o E=>Nt<|Sr<|Vv (V.fa fdrepair_41_1 rfl)<|Vv (V.ldSf (k:=1) shrepair_35 rfl E (Nat.le_of_ble_eq_true rfl))<|To (O.alloc zerepair_35 rfl rfl fun p=>have q:=Slc.mono VS.mono D o; To (O.stF (vs:=[.string c2.fGuest.fName,.string c2.fGuest.fRank,.string c2.fGuest.fCourt,.int .i64 c2.fGuest.fSince,.int .i64 c2.fGuest.fSide,.string c2.fGuest.fDiet,.bool c2.fGuest.fHost,.bool c2.fGuest.fAccess,C]) shrepair_35 rfl rfl (j:=0) rfl rfl (by (simp only [Sl.ones,Slc.one q,Bool.and_true,Bool.true_and]) <;> rfl) rfl ?_)))
 refine T.fl ?_
 refine Nt<|Sr<|Vv (V.fa fdrepair_35_8 z)<|Vv (V.ldO (k:=8) shrepair_33 z (j:=0) z z) ?_
 obtain ⟨G,I,H⟩:=bnd H
 refine To (O.callS z (sl_CloneStr_ok q I _) z fun a au aw J K=>?_)
 obtain ⟨ax,M,N⟩:=K
 refine Sl_ _ M<|Vv (V.fa fdrepair_35_8 rfl)<|T.rowOne 0 rfl fun P S=>To (O.st (vs:=[a]) (k:=8) shrepair_33 rfl rfl (j:=1) rfl S (by (simp only [Sl.ones,P,Bool.and_true,Bool.true_and]) <;> rfl) ?_)
 refine T.fl ?_
 refine Nt<|Sq<|Sr<|Mv z<|Vv (V.nck z)<|Vv (V.fa fdrepair_69_1 z)<|Vv (V.fa fdrepair_28_3 z)<|Vv (V.ldO (k:=4) shrepair_25 z (j:=2) z z)<|have r:=(o.trans J); have s:=RowF.mono VI.mono hR0_14 r; Vv (V.lenX elrepair_25 z (j:=6) z s.len)<|Vv (V.gt z z)<|Nt<|T.cH H z (fun H=>?_) (fun H=>?_)
 ·exact dead H
 refine T.skip<|Th<|Sq<|Fr_ 1 z<|T.fl ?_
 refine T.rowFix fun c f U=>have W:=RowF.mono VS.mono N f; have X:=RowF.slc U W; Fr_ 3 z<|T.fl ?_
 refine Fr_ 2 z<|T.fl ?_
 refine Fr_ 2 z<|T.fl ?_
 refine T.drawF (t:=(.v 0 (.v 1 (.v 2 (.v 3 (.v 4 (.x 5 (.v 6 (.alt 7 (.alt 8 (.g (.v 9 (.v 10 (.v 11 (.alt 12 .done .no))))) .no) .no))))))))) 8 3 1 rfl rfl repairmixed (by kernel_rfl) ?_
 refine Tm z z<|Tm z z<|Tv z (V.nck rfl)<|Tv z (V.fa fdrepair_69_1 rfl)<|Tv z (V.fa fdrepair_28_1 rfl)<|T.tx rfl rfl (Val.XA fun _ _ _=>V.ldO (k:=2) shrepair_23 rfl (j:=1) rfl rfl) rfl Calm.i<|Tv z (Val.XA fun _ _ _=>V.ldOS (j:=0) (by exact shrepair_35) rfl rfl) ?_
 refine Tp z z (SX.two (XA.fr [0] Lr z) (XA.fr [2,2,2] Lr z)) (O.bs elrepair_23 zerepair_35 z (e:=z) (hk:=z) (xs:=[.tmp 37]) (hv:=CO.eq (CO.cons z CO.nil)) (hw:=Wide.of z) (hd:=z) fun Y=>?_) T.tno
 have m:RowF VapiGuest c [[.string c2.fGuest.fName,.string c2.fGuest.fRank,.string c2.fGuest.fCourt,.int .i64 c2.fGuest.fSince,.int .i64 c2.fGuest.fSide,.string c2.fGuest.fDiet,.bool c2.fGuest.fHost,.bool c2.fGuest.fAccess,a]] ([(apiGuest.mk c2.fGuest.fName c2.fGuest.fRank c2.fGuest.fCourt c2.fGuest.fSince c2.fGuest.fSide c2.fGuest.fDiet c2.fGuest.fHost c2.fGuest.fAccess G)]:List apiGuest):=(RowF.cons ⟨a,z,X⟩ RowF.nil)
 obtain ⟨Z,u,H⟩:=bnd H
 have b:=(r.trans f)
 have w:=RowF.mono VapiGuest.mono hR0_8 b
 refine Tp z z (SX.two (XA.fr [1] Lr z) (XA.fr [3,3,3] Lr z)) (O.apX elrepair_23 elrepair_23 zerepair_35 z z z (j:=3) z (Src.row (j:=0) z) (Wide.of z) (RowF.ones VapiGuest.plain m) w m u z fun d ay aA=>?_) T.tno
 have aa:RowF VapiGuest c (css0_7 ++ [[.string c2.fGuest.fName,.string c2.fGuest.fRank,.string c2.fGuest.fCourt,.int .i64 c2.fGuest.fSince,.int .i64 c2.fGuest.fSide,.string c2.fGuest.fDiet,.bool c2.fGuest.fHost,.bool c2.fGuest.fAccess,a]]) Z:=RowF.ap w m u
 refine Sl_ (rowR 35 9 d (css0_7 ++ [[.string c2.fGuest.fName,.string c2.fGuest.fRank,.string c2.fGuest.fCourt,.int .i64 c2.fGuest.fSince,.int .i64 c2.fGuest.fSide,.string c2.fGuest.fDiet,.bool c2.fGuest.fHost,.bool c2.fGuest.fAccess,a]])::rowR 35 9 (.slice (some ⟨Y,0,none⟩) 1 1) [[.string c2.fGuest.fName,.string c2.fGuest.fRank,.string c2.fGuest.fCourt,.int .i64 c2.fGuest.fSince,.int .i64 c2.fGuest.fSide,.string c2.fGuest.fDiet,.bool c2.fGuest.fHost,.bool c2.fGuest.fAccess,a]]::blk p (.cells [.string c2.fGuest.fName,.string c2.fGuest.fRank,.string c2.fGuest.fCourt,.int .i64 c2.fGuest.fSince,.int .i64 c2.fGuest.fSide,.string c2.fGuest.fDiet,.bool c2.fGuest.fHost,.bool c2.fGuest.fAccess,a].toArray 35)::blk pb0 (.cells [v0_1,v0_3,v0_6,v0_9,v0_12,v0_15,v0_18,.int .i64 s1.fseats].toArray 69)::rowR 31 7 v0_3 css0_4::rowR 164 3 v0_9 css0_10::rowR 3 1 v0_12 css0_13::rowR 39 6 v0_15 css0_16::rowR 3 1 v0_18 css0_19::L) z<|Fr_ 1 z<|T.fl ?_
 refine T.drop<|T.tgrow Lr<|Tv z (V.nck rfl)<|Tv z (V.fa fdrepair_69_1 rfl)<|Tv z (V.fa fdrepair_28_1 rfl)<|T.rowOne 0 rfl fun ab ac=>Tp z z (SX.one (XA.fr [1] Lr rfl) rfl) (O.st (vs:=[d]) (k:=2) shrepair_23 rfl rfl (j:=2) rfl ac (by (simp only [Sl.ones,ab,Bool.and_true,Bool.true_and]) <;> rfl) ?_) T.tno
 refine T.fl ?_
 refine T.tnil (SX.one (XA.fr [2] Lr z) z)<|Th<|Rg<|Mv z<|Mv z<|Vv (V.nck z)<|Vv (V.fa fdrepair_69_2 z)<|Vv (V.ldO (k:=6) shrepair_25 z (j:=0) z z)<|To (O.bs elrepair_25 zerepair_3 z (e:=z) (hk:=z) (xs:=[.const (.int .i64 (-1))]) (hv:=CO.eq (CO.cons z CO.nil)) (hw:=Wide.of z) (hd:=z) fun ad=>have n:RowF (VI .i64) c [[.int .i64 (-1:Int)]] ([(-1:Int)]:List Int):=(RowF.cons z RowF.nil); ?_)
 obtain ⟨ae,y,H⟩:=bnd H
 have A:=RowF.mono VI.mono hR0_20 b
 refine To (O.apX elrepair_25 elrepair_25 zerepair_3 z z z (j:=8) z (Src.row (j:=0) z) (Wide.of z) (RowF.ones VI.plain n) A n y z fun B aB aC=>have af:RowF (VI .i64) c (css0_19 ++ [[.int .i64 (-1:Int)]]) ae:=RowF.ap A n y; Sl_ (rowR 3 1 B (css0_19 ++ [[.int .i64 (-1:Int)]])::rowR 3 1 (.slice (some ⟨ad,0,none⟩) 1 1) [[.int .i64 (-1:Int)]]::blk pb0 (.cells [v0_1,v0_3,d,v0_9,v0_12,v0_15,v0_18,.int .i64 s1.fseats].toArray 69)::rowR 35 9 d (css0_7 ++ [[.string c2.fGuest.fName,.string c2.fGuest.fRank,.string c2.fGuest.fCourt,.int .i64 c2.fGuest.fSince,.int .i64 c2.fGuest.fSide,.string c2.fGuest.fDiet,.bool c2.fGuest.fHost,.bool c2.fGuest.fAccess,a]])::blk p (.cells [.string c2.fGuest.fName,.string c2.fGuest.fRank,.string c2.fGuest.fCourt,.int .i64 c2.fGuest.fSince,.int .i64 c2.fGuest.fSide,.string c2.fGuest.fDiet,.bool c2.fGuest.fHost,.bool c2.fGuest.fAccess,a].toArray 35)::rowR 31 7 v0_3 css0_4::rowR 164 3 v0_9 css0_10::rowR 3 1 v0_12 css0_13::rowR 39 6 v0_15 css0_16::L) z<|Fr_ 1 z<|T.fl ?_)
 refine T.drop<|Vv (V.nck rfl)<|Vv (V.fa fdrepair_69_2 rfl)<|T.rowOne 0 rfl fun ag ai=>To (O.st (vs:=[B]) (k:=6) shrepair_25 rfl rfl (j:=1) rfl ai (by (simp only [Sl.ones,ag,Bool.and_true,Bool.true_and]) <;> rfl) ?_)
 refine T.fl ?_
 refine Ni<|Fr_ 3 z<|T.fl ?_
 refine T.drop<|Fr_ 1 z<|T.fl ?_
 refine Fr_ 6 z<|T.fl ?_
 refine Fr_ 6 z<|T.fl ?_
 refine Fr_ 6 z<|T.fl ?_
 refine Fr_ 5 z<|T.fl ?_
 refine Fr_ 6 z<|T.fl ?_
 refine Fr_ 6 z<|T.fl ?_
 have aj:=Pt.mono VruleJudge.mono hP0_2 b
 have ak:=RowF.mono VapiTable.mono hR0_5 b
 have am:=RowF.mono VapiTie.mono hR0_11 b
 have an:=RowF.mono VI.mono s f
 have ao:=RowF.mono VapiRule.mono hR0_17 b
 obtain rfl:=Option.some.inj H
 exact T.end0 Tryz.results32 b ⟨_,_,_,_,_,_,_,_,_,_,_,_,_,z,z,aj,ak,aa,am,an,ao,af⟩
theorem scene_cancel_ok {h:PH} {pb0:Nat} {s1:repairscene} {v0_1:Value} {v0_3:Value} {css0_4:List (List Value)} {v0_6:Value} {css0_7:List (List Value)} {v0_9:Value} {css0_10:List (List Value)} {v0_12:Value} {css0_13:List (List Value)} {v0_15:Value} {css0_16:List (List Value)} {v0_18:Value} {css0_19:List (List Value)} (hP0_2:Pt VruleJudge h v0_1 s1.fJudge) (hR0_5:RowF VapiTable h css0_4 s1.fp.fTables) (hR0_8:RowF VapiGuest h css0_7 s1.fp.fGuests) (hR0_11:RowF VapiTie h css0_10 s1.fp.fTies) (hR0_14:RowF (VI .i64) h css0_13 s1.fp.fClass) (hR0_17:RowF VapiRule h css0_16 s1.fp.fRules) (hR0_20:RowF (VI .i64) h css0_19 s1.fpart) {pc1:List Value} {c2:apiChange} (pr1:VapiChange h pc1 c2) {q_0:repairscene} (H:scene_cancel s1 c2 = some q_0):∀ L,FnS Tryz.prog 36 [.pointer (some ⟨pb0,0,none⟩),.agg pc1.toArray] h (blk pb0 (.cells [v0_1,v0_3,v0_6,v0_9,v0_12,v0_15,v0_18,.int .i64 s1.fseats].toArray 69)::rowR 31 7 v0_3 css0_4::rowR 35 9 v0_6 css0_7::rowR 164 3 v0_9 css0_10::rowR 3 1 v0_12 css0_13::rowR 39 6 v0_15 css0_16::rowR 3 1 v0_18 css0_19::L) (fun v h' L'=>∃ vl0_1 vl0_3 cssl0_4 vl0_6 cssl0_7 vl0_9 cssl0_10 vl0_12 cssl0_13 vl0_15 cssl0_16 vl0_18 cssl0_19,v = .tuple #[]∧L' = blk pb0 (.cells [vl0_1,vl0_3,vl0_6,vl0_9,vl0_12,vl0_15,vl0_18,.int .i64 q_0.fseats].toArray 69)::rowR 31 7 vl0_3 cssl0_4::rowR 35 9 vl0_6 cssl0_7::rowR 164 3 vl0_9 cssl0_10::rowR 3 1 vl0_12 cssl0_13::rowR 39 6 vl0_15 cssl0_16::rowR 3 1 vl0_18 cssl0_19::L∧Pt VruleJudge h' vl0_1 q_0.fJudge∧RowF VapiTable h' cssl0_4 q_0.fp.fTables∧RowF VapiGuest h' cssl0_7 q_0.fp.fGuests∧RowF VapiTie h' cssl0_10 q_0.fp.fTies∧RowF (VI .i64) h' cssl0_13 q_0.fp.fClass∧RowF VapiRule h' cssl0_16 q_0.fp.fRules∧RowF (VI .i64) h' cssl0_19 q_0.fpart):=by
 intro L
 obtain ⟨g,rfl,Z⟩:=pr1
 refine FnS.enter Tryz.func36 z Tryz.ntmps36 z<|Sr<|To (O.boxF z z z fun i b5 w x=>Nt<|Sr<|Mv z<|Vv (V.fa fdrepair_41_2 z)<|Vv (V.ldf (k:=10) shrepair_9 z x z) ?_)
 obtain ⟨a,aa,H⟩:=bnd H
 refine To (O.callS z (FnS.lend (val:=.int .i64 a) Tryz.func89 z lendB fun b6 ab ac=>FnS.lend (val:=.int .i64 a) Tryz.func89 z lendR fun b7 y ad=>FnS.lend (val:=.int .i64 a) Tryz.func89 z lendR fun b8 o ae=>FnS.lend (val:=.int .i64 a) Tryz.func89 z lendR fun b9 m af=>FnS.lend (val:=.int .i64 a) Tryz.func89 z lendR fun bh e ag=>FnS.lend (val:=.int .i64 a) Tryz.func89 z lendR fun bl c ai=>FnS.lend (val:=.int .i64 a) Tryz.func89 z lendR fun aj b ak=>?_) z fun bv bz ca A am=>?_)
 ·have B:=((w.trans ab).trans y)
  have an:=RowF.mono VapiTable.mono hR0_5 B
  have ao:=RowF.slc ad an
  have C:=(B.trans o)
  have ap:=RowF.mono VapiGuest.mono hR0_8 C
  have aq:=RowF.slc ae ap
  have D:=(C.trans m)
  have ar:=RowF.mono VapiTie.mono hR0_11 D
  have au:=RowF.slc af ar
  have E:=(D.trans e)
  have aw:=RowF.mono VI.mono hR0_14 E
  have ax:=RowF.slc ag aw
  have G:=(E.trans c)
  have ay:=RowF.mono VapiRule.mono hR0_17 G
  have aA:=RowF.slc ai ay
  have I:=(G.trans b)
  have aB:=RowF.mono VI.mono hR0_20 I
  have aC:=RowF.slc ak aB
  have aD:=(((((y.trans o).trans m).trans e).trans c).trans b)
  have aE:=ac.mono aD
  have aG:=Pt.mono VruleJudge.mono hP0_2 I
  have aI:=((((o.trans m).trans e).trans c).trans b)
  have aJ:=Slc.mono VapiTable.mono ao aI
  have aK:=(((m.trans e).trans c).trans b)
  have aM:=Slc.mono VapiGuest.mono aq aK
  have aN:=((e.trans c).trans b)
  have aO:=Slc.mono VapiTie.mono au aN
  have aP:=(c.trans b)
  have aS:=Slc.mono VI.mono ax aP
  have aU:=Slc.mono VapiRule.mono aA b
  exact scene_who_ok (Pt.mk aE (show Vrepairscene aj [v0_1,v0_3,v0_6,v0_9,v0_12,v0_15,v0_18,.int .i64 s1.fseats] (repairscene.mk s1.fJudge (apiProblem.mk s1.fp.fTables s1.fp.fGuests s1.fp.fTies s1.fp.fClass s1.fp.fRules) s1.fpart s1.fseats) from ⟨v0_1,v0_3,v0_6,v0_9,v0_12,v0_15,v0_18,z,aG,aJ,aM,aO,aS,aU,aC⟩)) aa _
 obtain ⟨rfl,aV⟩:=am
 refine Sl_ _ aV<|Ag z<|Nt<|Sr<|Mv z<|Mv z<|Vv (V.nck z)<|Vv (V.fa fdrepair_69_1 z)<|Vv (V.fa fdrepair_28_1 z)<|Vv (V.ldO (k:=2) shrepair_23 z (j:=0) z z)<|Mv z<|Mv z ?_
 obtain ⟨cb,aW,H⟩:=bnd H
 refine Vv (V.addS z z aW)<|have J:=(w.trans A); have aX:=RowF.mono VapiGuest.mono hR0_8 J; Fr_ 2 z<|T.fl ?_
 obtain ⟨cc,aY,H⟩:=bnd H
 refine To (O.callS z (sl_DeleteGuest_ok aX aY _) z fun p cd ce K aZ=>?_)
 obtain ⟨a0,a1,a2⟩:=aZ
 refine Sl_ _ a1<|Vv (V.nck rfl)<|Vv (V.fa fdrepair_69_1 rfl)<|Vv (V.fa fdrepair_28_1 rfl)<|T.rowOne 0 rfl fun a3 a4=>To (O.st (vs:=[p]) (k:=2) shrepair_23 rfl rfl (j:=1) rfl a4 (by (simp only [Sl.ones,a3,Bool.and_true,Bool.true_and]) <;> rfl) ?_)
 refine T.fl ?_
 refine Nt<|Sq<|Sr<|Mv z<|Vv (V.nck z)<|Vv (V.fa fdrepair_69_1 z)<|Vv (V.fa fdrepair_28_3 z)<|Vv (V.ldO (k:=4) shrepair_25 z (j:=0) z z)<|have M:=(J.trans K); have N:=RowF.mono VI.mono hR0_14 M; Vv (V.lenX elrepair_25 z (j:=4) z N.len)<|Vv (V.gt z z)<|Nt<|T.cH H z (fun H=>?_) (fun H=>?_)
 ·refine Rg<|Mv z<|Mv z<|Vv (V.nck z)<|Vv (V.fa fdrepair_69_1 z)<|Vv (V.fa fdrepair_28_3 z)<|Vv (V.ldO (k:=4) shrepair_25 z (j:=0) z z)<|Mv z<|Mv z ?_
  obtain ⟨cf,a5,H⟩:=bnd H
  refine Vv (V.addS z z a5)<|Fr_ 4 z<|T.fl ?_
  obtain ⟨cg,a6,H⟩:=bnd H
  refine To (O.callS z (sl_DeleteInt_ok N a6 _) z fun q ci cj r a7=>?_)
  obtain ⟨a8,a9,ah⟩:=a7
  refine Sl_ _ a9<|Vv (V.nck rfl)<|Vv (V.fa fdrepair_69_1 rfl)<|Vv (V.fa fdrepair_28_3 rfl)<|T.rowOne 0 rfl fun al av=>To (O.st (vs:=[q]) (k:=4) shrepair_25 rfl rfl (j:=1) rfl av (by (simp only [Sl.ones,al,Bool.and_true,Bool.true_and]) <;> rfl) ?_)
  refine T.fl ?_
  refine Nt<|Sq<|T.norm [0,3,4] z<|Sl_ (blk pb0 (.cells [v0_1,v0_3,p,v0_9,q,v0_15,v0_18,.int .i64 s1.fseats].toArray 69)::rowR 3 1 q a8::rowR 35 9 p a0::rowR 31 7 v0_3 css0_4::rowR 164 3 v0_9 css0_10::rowR 39 6 v0_15 css0_16::rowR 3 1 v0_18 css0_19::L) z<|Rg<|Mv z<|Mv z<|Vv (V.nck z)<|Vv (V.fa fdrepair_69_2 z)<|Vv (V.ldO (k:=6) shrepair_25 z (j:=0) z z)<|Mv z<|Mv z ?_
  obtain ⟨ck,az,H⟩:=bnd H
  refine Vv (V.addS z z az)<|have P:=(M.trans r); have ba:=RowF.mono VI.mono hR0_20 P; Fr_ 6 z<|T.fl ?_
  obtain ⟨cm,bb,H⟩:=bnd H
  refine To (O.callS z (sl_DeleteInt_ok ba bb _) z fun bc bd cn n be=>?_)
  obtain ⟨co,bf,bg⟩:=be
  refine Sl_ _ bf<|Vv (V.nck rfl)<|Vv (V.fa fdrepair_69_2 rfl)<|T.rowOne 0 rfl fun bi bj=>To (O.st (vs:=[bc]) (k:=6) shrepair_25 rfl rfl (j:=1) rfl bj (by (simp only [Sl.ones,bi,Bool.and_true,Bool.true_and]) <;> rfl) ?_)
  refine T.fl ?_
  refine Nt<|Sr<|Mv z<|Mv z<|Vv (V.nck z)<|Vv (V.fa fdrepair_69_1 z)<|Vv (V.fa fdrepair_28_2 z)<|Vv (V.ldO (k:=3) shrepair_24 z (j:=0) z z)<|Vv (V.mkf z z)<|have s:=(P.trans n); have bk:=RowF.mono VapiTie.mono hR0_11 s; have bm:=(((A.trans K).trans r).trans n); have S:=x.mono bm; have U:=Slc.mono VS.mono Z s; Fr_ 5 z<|T.fl ?_
  obtain ⟨cp,bn,H⟩:=bnd H
  refine To (O.callS z (sl_DeleteFuncTie_ok bk (show CF165 bd (.func (.func 99) #[] #[.pointer (some ⟨i,0,none⟩)]) (fun t=>scene_cancel_1 t c2) from ⟨⟨z,z⟩,.inr ⟨99,[],[.pointer (some ⟨i,0,none⟩)],z,fun bo W cq cr bp cs bq br=>scene_cancel_1_ok bp (S.mono W) (show VapiChange bo [.int .u8 c2.fKind,.string c2.fGuest.fName,.string c2.fGuest.fRank,.string c2.fGuest.fCourt,.int .i64 c2.fGuest.fSince,.int .i64 c2.fGuest.fSide,.string c2.fGuest.fDiet,.bool c2.fGuest.fHost,.bool c2.fGuest.fAccess,g,.string c2.fA,.string c2.fB,.string c2.fTable,.int .i64 c2.fN,.int .u8 c2.fRule.fKind,.int .i64 c2.fRule.fWeight,.string c2.fRule.fA,.string c2.fRule.fB,.string c2.fRule.fTable,.int .i64 c2.fRule.fN] c2 from ⟨g,z,(Slc.mono VS.mono U W)⟩) bq br⟩⟩) bn _) z fun bs bt ct d bu=>?_)
  obtain ⟨cu,bw,bx⟩:=bu
  refine Sl_ _ bw<|Vv (V.nck rfl)<|Vv (V.fa fdrepair_69_1 rfl)<|Vv (V.fa fdrepair_28_2 rfl)<|T.rowOne 0 rfl fun bA bB=>To (O.st (vs:=[bs]) (k:=3) shrepair_24 rfl rfl (j:=1) rfl bB (by (simp only [Sl.ones,bA,Bool.and_true,Bool.true_and]) <;> rfl) ?_)
  refine T.fl ?_
  refine Nt<|Rg<|Mv z<|Mv z<|Vv (V.nck z)<|Vv (V.fa fdrepair_69_1 z)<|Vv (V.fa fdrepair_28_4 z)<|Vv (V.ldO (k:=5) shrepair_26 z (j:=0) z z)<|Vv (V.mkf z z)<|have X:=(s.trans d); have bC:=RowF.mono VapiRule.mono hR0_17 X; have bD:=S.mono d; have bE:=Slc.mono VS.mono U d; Fr_ 6 z<|T.fl ?_
  obtain ⟨cw,bG,H⟩:=bnd H
  refine To (O.callS z (sl_DeleteFuncRule_ok bC (show CF74 bt (.func (.func 100) #[] #[.pointer (some ⟨i,0,none⟩)]) (fun t=>scene_cancel_2 t c2) from ⟨⟨z,z⟩,.inr ⟨100,[],[.pointer (some ⟨i,0,none⟩)],z,fun bI Y cx cy bJ cA bK bM=>scene_cancel_2_ok bJ (bD.mono Y) (show VapiChange bI [.int .u8 c2.fKind,.string c2.fGuest.fName,.string c2.fGuest.fRank,.string c2.fGuest.fCourt,.int .i64 c2.fGuest.fSince,.int .i64 c2.fGuest.fSide,.string c2.fGuest.fDiet,.bool c2.fGuest.fHost,.bool c2.fGuest.fAccess,g,.string c2.fA,.string c2.fB,.string c2.fTable,.int .i64 c2.fN,.int .u8 c2.fRule.fKind,.int .i64 c2.fRule.fWeight,.string c2.fRule.fA,.string c2.fRule.fB,.string c2.fRule.fTable,.int .i64 c2.fRule.fN] c2 from ⟨g,z,(Slc.mono VS.mono bE Y)⟩) bK bM⟩⟩) bG _) z fun bN cB cC f bO=>?_)
  obtain ⟨cD,bP,bS⟩:=bO
  refine Sl_ _ bP<|Vv (V.nck rfl)<|Vv (V.fa fdrepair_69_1 rfl)<|Vv (V.fa fdrepair_28_4 rfl)<|T.rowOne 0 rfl fun bU bV=>To (O.st (vs:=[bN]) (k:=5) shrepair_26 rfl rfl (j:=1) rfl bV (by (simp only [Sl.ones,bU,Bool.and_true,Bool.true_and]) <;> rfl) ?_)
  refine T.fl ?_
  refine Ni<|Fr_ 3 z<|T.fl ?_
  refine Fr_ 2 z<|T.fl ?_
  refine Fr_ 4 z<|T.fl ?_
  refine Fr_ 4 z<|T.fl ?_
  refine Fr_ 5 z<|T.fl ?_
  refine Fr_ 6 z<|T.fl ?_
  refine Fr_ 6 z<|T.fl ?_
  have u:=(X.trans f)
  have bW:=Pt.mono VruleJudge.mono hP0_2 u
  have bX:=RowF.mono VapiTable.mono hR0_5 u
  have bY:=(((r.trans n).trans d).trans f)
  have bZ:=RowF.mono VapiGuest.mono a2 bY
  have b0:=RowF.mono VapiTie.mono bx f
  have b1:=((n.trans d).trans f)
  have b2:=RowF.mono VI.mono ah b1
  have b3:=(d.trans f)
  have b4:=RowF.mono VI.mono bg b3
  obtain rfl:=Option.some.inj H
  exact T.end0 Tryz.results36 u ⟨_,_,_,_,_,_,_,_,_,_,_,_,_,z,z,bW,bX,bZ,b0,b2,bS,b4⟩
 exact dead H
theorem scene_quarrel_ok {h:PH} {pb0:Nat} {s1:repairscene} {v0_1:Value} {v0_3:Value} {css0_4:List (List Value)} {v0_6:Value} {css0_7:List (List Value)} {v0_9:Value} {css0_10:List (List Value)} {v0_12:Value} {css0_13:List (List Value)} {v0_15:Value} {css0_16:List (List Value)} {v0_18:Value} {css0_19:List (List Value)} (hP0_2:Pt VruleJudge h v0_1 s1.fJudge) (hR0_5:RowF VapiTable h css0_4 s1.fp.fTables) (hR0_8:RowF VapiGuest h css0_7 s1.fp.fGuests) (hR0_11:RowF VapiTie h css0_10 s1.fp.fTies) (hR0_14:RowF (VI .i64) h css0_13 s1.fp.fClass) (hR0_17:RowF VapiRule h css0_16 s1.fp.fRules) (hR0_20:RowF (VI .i64) h css0_19 s1.fpart) {pc1:List Value} {c2:apiChange} (pr1:VapiChange h pc1 c2) {q_0:repairscene} (H:scene_quarrel s1 c2 = some q_0):∀ L,FnS Tryz.prog 40 [.pointer (some ⟨pb0,0,none⟩),.agg pc1.toArray] h (blk pb0 (.cells [v0_1,v0_3,v0_6,v0_9,v0_12,v0_15,v0_18,.int .i64 s1.fseats].toArray 69)::rowR 31 7 v0_3 css0_4::rowR 35 9 v0_6 css0_7::rowR 164 3 v0_9 css0_10::rowR 3 1 v0_12 css0_13::rowR 39 6 v0_15 css0_16::rowR 3 1 v0_18 css0_19::L) (fun v h' L'=>∃ vl0_1 vl0_3 cssl0_4 vl0_6 cssl0_7 vl0_9 cssl0_10 vl0_12 cssl0_13 vl0_15 cssl0_16 vl0_18 cssl0_19,v = .tuple #[]∧L' = blk pb0 (.cells [vl0_1,vl0_3,vl0_6,vl0_9,vl0_12,vl0_15,vl0_18,.int .i64 q_0.fseats].toArray 69)::rowR 31 7 vl0_3 cssl0_4::rowR 35 9 vl0_6 cssl0_7::rowR 164 3 vl0_9 cssl0_10::rowR 3 1 vl0_12 cssl0_13::rowR 39 6 vl0_15 cssl0_16::rowR 3 1 vl0_18 cssl0_19::L∧Pt VruleJudge h' vl0_1 q_0.fJudge∧RowF VapiTable h' cssl0_4 q_0.fp.fTables∧RowF VapiGuest h' cssl0_7 q_0.fp.fGuests∧RowF VapiTie h' cssl0_10 q_0.fp.fTies∧RowF (VI .i64) h' cssl0_13 q_0.fp.fClass∧RowF VapiRule h' cssl0_16 q_0.fp.fRules∧RowF (VI .i64) h' cssl0_19 q_0.fpart):=by
 intro L
 obtain ⟨bo,rfl,bp⟩:=pr1
 refine FnS.enter Tryz.func40 z Tryz.ntmps40 z<|Sr<|To (O.boxF z z z fun bq br B r=>Nt<|Sr<|Mv z<|Vv (V.fa fdrepair_41_2 z)<|Vv (V.ldf (k:=10) shrepair_9 z r z)<|Vv (V.fa fdrepair_41_3 z)<|Vv (V.ldf (k:=11) shrepair_9 z r z) ?_)
 obtain ⟨b,ab,H⟩:=bnd H
 refine To (O.callS z (FnS.lend (val:=.int .i64 b) Tryz.func104 z lendB fun bt ac ad=>FnS.lend (val:=.int .i64 b) Tryz.func104 z lendR fun bu C ae=>FnS.lend (val:=.int .i64 b) Tryz.func104 z lendR fun bw s af=>FnS.lend (val:=.int .i64 b) Tryz.func104 z lendR fun bx q ag=>FnS.lend (val:=.int .i64 b) Tryz.func104 z lendR fun bA n ai=>FnS.lend (val:=.int .i64 b) Tryz.func104 z lendR fun bB f aj=>FnS.lend (val:=.int .i64 b) Tryz.func104 z lendR fun ak c am=>?_) z fun bC o bD D an=>?_)
 ·have E:=((B.trans ac).trans C)
  have ao:=RowF.mono VapiTable.mono hR0_5 E
  have aq:=RowF.slc ae ao
  have G:=(E.trans s)
  have ar:=RowF.mono VapiGuest.mono hR0_8 G
  have au:=RowF.slc af ar
  have I:=(G.trans q)
  have aw:=RowF.mono VapiTie.mono hR0_11 I
  have ax:=RowF.slc ag aw
  have J:=(I.trans n)
  have ay:=RowF.mono VI.mono hR0_14 J
  have aA:=RowF.slc ai ay
  have K:=(J.trans f)
  have aB:=RowF.mono VapiRule.mono hR0_17 K
  have aC:=RowF.slc aj aB
  have M:=(K.trans c)
  have aD:=RowF.mono VI.mono hR0_20 M
  have aE:=RowF.slc am aD
  have aG:=(((((C.trans s).trans q).trans n).trans f).trans c)
  have aI:=ad.mono aG
  have aJ:=Pt.mono VruleJudge.mono hP0_2 M
  have aK:=((((s.trans q).trans n).trans f).trans c)
  have aM:=Slc.mono VapiTable.mono aq aK
  have aN:=(((q.trans n).trans f).trans c)
  have aO:=Slc.mono VapiGuest.mono au aN
  have aP:=((n.trans f).trans c)
  have aS:=Slc.mono VapiTie.mono ax aP
  have aU:=(f.trans c)
  have aV:=Slc.mono VI.mono aA aU
  have aW:=Slc.mono VapiRule.mono aC c
  exact scene_tie_ok (Pt.mk aI (show Vrepairscene ak [v0_1,v0_3,v0_6,v0_9,v0_12,v0_15,v0_18,.int .i64 s1.fseats] (repairscene.mk s1.fJudge (apiProblem.mk s1.fp.fTables s1.fp.fGuests s1.fp.fTies s1.fp.fClass s1.fp.fRules) s1.fpart s1.fseats) from ⟨v0_1,v0_3,v0_6,v0_9,v0_12,v0_15,v0_18,z,aJ,aM,aO,aS,aV,aW,aE⟩)) ab _
 obtain ⟨rfl,aX⟩:=an
 refine Sl_ _ aX<|Ag z<|Nt<|Sq<|Sr<|Mv z<|Vv (V.lt z z)<|Nt<|T.cH H z (fun H=>?_) (fun H=>?_)
 ·refine Sr<|Mv z<|Vv (V.nck z)<|Vv (V.fa fdrepair_69_1 z)<|Vv (V.fa fdrepair_28_2 z)<|Vv (V.ldO (k:=3) shrepair_24 z (j:=0) z z)<|have N:=(B.trans D); have u:=RowF.mono VapiTie.mono hR0_11 N; Vv (V.lenX elrepair_24 z (j:=3) z u.len)<|Ag z<|Nt<|Fr_ 3 z<|T.fl ?_
  refine Fr_ 1 z<|T.fl ?_
  refine T.drawF (t:=(.v 0 (.v 1 (.v 2 (.v 3 (.v 4 (.x 5 (.v 6 (.v 7 (.v 8 (.v 9 (.v 10 (.v 11 (.v 12 (.v 13 (.v 14 (.v 15 (.v 16 (.alt 17 (.alt 18 (.g (.v 19 (.v 20 (.v 21 (.alt 22 .done .no))))) .no) .no))))))))))))))))))) 18 2 0 rfl rfl repairmixed (by kernel_rfl) ?_
  refine Tm z z<|Tm z z<|Tv z (V.nck z)<|Tv z (V.fa fdrepair_69_1 z)<|Tv z (V.fa fdrepair_28_2 z)<|T.tx z z (Val.XA fun _ _ _=>V.ldO (k:=3) shrepair_24 z (j:=0) z z) z Calm.i<|Tv z (V.fa fdrepair_41_2 z)<|have p:=r.mono D; Tv z (V.ldf (k:=10) shrepair_9 z p z)<|Tv z (V.fa fdrepair_41_3 z)<|Tv z (V.ldf (k:=11) shrepair_9 z p z)<|Tv z (V.minS z z)<|Tv z (V.fa fdrepair_41_2 z)<|Tv z (V.ldf (k:=10) shrepair_9 z p z)<|Tv z (V.fa fdrepair_41_3 z)<|Tv z (V.ldf (k:=11) shrepair_9 z p z)<|Tv z (V.maxS z z)<|Tv z (V.bld (xs:=[(0,.tmp 29),(1,.tmp 34)]) (cs:=[_,_,_]) blrepair_164 borepair_164 z (Fills.cons z z z (Fills.cons z z z Fills.nil)))<|Tp z z (SX.two (XA.fr [] Lr z) (XA.fr [1,1] Lr z)) (O.bs elrepair_24 zerepair_164 z (e:=z) (hk:=z) (xs:=[.tmp 35]) (hv:=CO.eq (CO.cons z CO.nil)) (hw:=Wide.of z) (hd:=z) fun aY=>?_) T.tno
  have w:RowF VapiTie o [[.string (minS c2.fA c2.fB),.string (maxS c2.fA c2.fB),.int .u8 (0:Int)]] ([(apiTie.mk (minS c2.fA c2.fB) (maxS c2.fA c2.fB) (0:Int))]:List apiTie):=(RowF.cons z RowF.nil)
  obtain ⟨aZ,P,H⟩:=bnd H
  refine Tp z z (SX.two (XA.fr [] Lr z) (XA.fr [2,2] Lr z)) (O.apX elrepair_24 elrepair_24 zerepair_164 z z z (j:=2) z (Src.row (j:=0) z) (Wide.of z) (RowF.ones VapiTie.plain w) u w P z fun m bE bG=>?_) T.tno
  have y:RowF VapiTie o (css0_10 ++ [[.string (minS c2.fA c2.fB),.string (maxS c2.fA c2.fB),.int .u8 (0:Int)]]) aZ:=RowF.ap u w P
  refine Sl_ (rowR 164 3 m (css0_10 ++ [[.string (minS c2.fA c2.fB),.string (maxS c2.fA c2.fB),.int .u8 (0:Int)]])::rowR 164 3 (.slice (some ⟨aY,0,none⟩) 1 1) [[.string (minS c2.fA c2.fB),.string (maxS c2.fA c2.fB),.int .u8 (0:Int)]]::blk pb0 (.cells [v0_1,v0_3,v0_6,v0_9,v0_12,v0_15,v0_18,.int .i64 s1.fseats].toArray 69)::rowR 31 7 v0_3 css0_4::rowR 35 9 v0_6 css0_7::rowR 3 1 v0_12 css0_13::rowR 39 6 v0_15 css0_16::rowR 3 1 v0_18 css0_19::L) z<|Fr_ 1 z<|T.fl ?_
  refine T.drop<|T.tgrow Lr<|Tv z (V.nck rfl)<|Tv z (V.fa fdrepair_69_1 rfl)<|Tv z (V.fa fdrepair_28_2 rfl)<|T.rowOne 0 rfl fun a0 a1=>Tp z z (SX.one (XA.fr [] Lr rfl) rfl) (O.st (vs:=[m]) (k:=3) shrepair_24 rfl rfl (j:=1) rfl a1 (by (simp only [Sl.ones,a0,Bool.and_true,Bool.true_and]) <;> rfl) ?_) T.tno
  refine T.fl ?_
  refine T.tnil (SX.one (XA.fr [] Lr z) z)<|Th<|Sq<|T.norm [0,3,4] z<|Sl_ (blk pb0 (.cells [v0_1,v0_3,v0_6,m,v0_12,v0_15,v0_18,.int .i64 s1.fseats].toArray 69)::rowR 164 3 m (css0_10 ++ [[.string (minS c2.fA c2.fB),.string (maxS c2.fA c2.fB),.int .u8 (0:Int)]])::rowR 31 7 v0_3 css0_4::rowR 35 9 v0_6 css0_7::rowR 3 1 v0_12 css0_13::rowR 39 6 v0_15 css0_16::rowR 3 1 v0_18 css0_19::L) z<|Rg<|Mv z<|Vv (V.nck z)<|Vv (V.fa fdrepair_69_1 z)<|Vv (V.fa fdrepair_28_2 z)<|Vv (V.ldO (k:=3) shrepair_24 z (j:=0) z z)<|Mv z ?_
  obtain ⟨a,S,H⟩:=bnd H
  obtain ⟨bI,a2,rfl⟩:=RowF.get y S
  refine Vv (V.ixR elrepair_24 z z (j:=1) z (RowF.bd y S))<|Vv (V.fa fdrepair_164_2 z) ?_
  obtain ⟨a3,a4,H⟩:=bnd H
  refine To (O.stXk (k:=2) shrepair_146 z z (j:=1) z z z z a2<|have a5:RowF VapiTie o (List.set (css0_10 ++ [[.string (minS c2.fA c2.fB),.string (maxS c2.fA c2.fB),.int .u8 (0:Int)]]) (s1.fp.fTies.length:Int).toNat (over [.string a.fA,.string a.fB,.int .u8 a.fKind] [.int .u8 (2:Int)] 2)) a3:=RowF.set y (show VapiTie o (over [.string a.fA,.string a.fB,.int .u8 a.fKind] [.int .u8 (2:Int)] 2) (apiTie.mk a.fA a.fB (2:Int)) from z) a4; Nt<|Sr<|Mv z<|Vv (V.nck z)<|Vv (V.fa fdrepair_69_1 z)<|Vv (V.fa fdrepair_28_2 z)<|Vv (V.ldO (k:=3) shrepair_24 z (j:=1) z z) ?_)
  obtain ⟨bJ,a6,H⟩:=bnd H
  refine To (O.callS z (sl_SortFuncTie_ok a5 (show CF170 o (.func (.func 106) #[] #[]) scene_quarrel_1 from ⟨⟨z,z⟩,.inr ⟨106,[],[],z,fun bK bM bN bO a7 bP bS a8 bU a9 ah=>scene_quarrel_1_ok a7 a8 a9 ah⟩⟩) a6 _) z fun bV U bW W al=>?_)
  obtain ⟨av,rfl,az,ba⟩:=al
  refine Sl_ _ az<|Nt<|Fr_ 5 z<|T.fl ?_
  refine Fr_ 2 z<|T.fl ?_
  refine T.drawF (t:=(.v 0 (.v 1 (.v 2 (.v 3 (.v 4 (.x 5 (.v 6 (.v 7 (.v 8 (.v 9 (.v 10 (.alt 11 (.alt 12 (.g (.v 13 (.v 14 (.v 15 (.alt 16 .done .no))))) .no) .no))))))))))))) 12 2 0 rfl rfl repairmixed (by kernel_rfl) ?_
  refine Tm z z<|Tm z z<|Tv z (V.nck z)<|Tv z (V.fa fdrepair_69_1 z)<|Tv z (V.fa fdrepair_28_4 z)<|T.tx z z (Val.XA fun _ _ _=>V.ldO (k:=5) shrepair_26 z (j:=0) z z) z Calm.i<|Tv z (V.fa fdrepair_41_2 z)<|have X:=p.mono W; Tv z (V.ldf (k:=10) shrepair_9 z X z)<|Tv z (V.fa fdrepair_41_3 z)<|Tv z (V.ldf (k:=11) shrepair_9 z X z)<|Tv z (V.bld (xs:=[(0,.const (.int .u8 (1))),(2,.tmp 62),(3,.tmp 64),(5,.const (.int .i64 (2)))]) (cs:=[_,_,_,_,_,_]) blrepair_39 borepair_39 z (Fills.cons z z z (Fills.cons z z z (Fills.cons z z z (Fills.cons z z z Fills.nil)))))<|Tp z z (SX.two (XA.fr [] Lr z) (XA.fr [1,1] Lr z)) (O.bs elrepair_26 zerepair_39 z (e:=z) (hk:=z) (xs:=[.tmp 65]) (hv:=CO.eq (CO.cons z CO.nil)) (hw:=Wide.of z) (hd:=z) fun bb=>?_) T.tno
  have A:RowF VapiRule U [[.int .u8 (1:Int),.int .i64 (0:Int),.string c2.fA,.string c2.fB,.string (⟨#[]⟩:ByteArray),.int .i64 (2:Int)]] ([(apiRule.mk (1:Int) (0:Int) c2.fA c2.fB (⟨#[]⟩:ByteArray) (2:Int))]:List apiRule):=(RowF.cons z RowF.nil)
  obtain ⟨bc,Y,H⟩:=bnd H
  have d:=(N.trans W)
  have Z:=RowF.mono VapiRule.mono hR0_17 d
  refine Tp z z (SX.two (XA.fr [] Lr z) (XA.fr [2,2] Lr z)) (O.apX elrepair_26 elrepair_26 zerepair_39 z z z (j:=2) z (Src.row (j:=0) z) (Wide.of z) (RowF.ones VapiRule.plain A) Z A Y z fun aa bX bY=>?_) T.tno
  have be:RowF VapiRule U (css0_16 ++ [[.int .u8 (1:Int),.int .i64 (0:Int),.string c2.fA,.string c2.fB,.string (⟨#[]⟩:ByteArray),.int .i64 (2:Int)]]) bc:=RowF.ap Z A Y
  refine Sl_ (rowR 39 6 aa (css0_16 ++ [[.int .u8 (1:Int),.int .i64 (0:Int),.string c2.fA,.string c2.fB,.string (⟨#[]⟩:ByteArray),.int .i64 (2:Int)]])::rowR 39 6 (.slice (some ⟨bb,0,none⟩) 1 1) [[.int .u8 (1:Int),.int .i64 (0:Int),.string c2.fA,.string c2.fB,.string (⟨#[]⟩:ByteArray),.int .i64 (2:Int)]]::blk pb0 (.cells [v0_1,v0_3,v0_6,m,v0_12,v0_15,v0_18,.int .i64 s1.fseats].toArray 69)::rowR 164 3 m av::rowR 31 7 v0_3 css0_4::rowR 35 9 v0_6 css0_7::rowR 3 1 v0_12 css0_13::rowR 3 1 v0_18 css0_19::L) z<|Fr_ 1 z<|T.fl ?_
  refine T.drop<|T.tgrow Lr<|Tv z (V.nck rfl)<|Tv z (V.fa fdrepair_69_1 rfl)<|Tv z (V.fa fdrepair_28_4 rfl)<|T.rowOne 0 rfl fun bf bg=>Tp z z (SX.one (XA.fr [] Lr rfl) rfl) (O.st (vs:=[aa]) (k:=5) shrepair_26 rfl rfl (j:=1) rfl bg (by (simp only [Sl.ones,bf,Bool.and_true,Bool.true_and]) <;> rfl) ?_) T.tno
  refine T.fl ?_
  refine T.tnil (SX.one (XA.fr [] Lr z) z)<|Fr_ 6 z<|T.fl ?_
  refine Fr_ 2 z<|T.fl ?_
  refine Fr_ 6 z<|T.fl ?_
  refine Fr_ 4 z<|T.fl ?_
  refine Fr_ 6 z<|T.fl ?_
  refine Fr_ 6 z<|T.fl ?_
  refine Fr_ 6 z<|T.fl ?_
  have bi:=Pt.mono VruleJudge.mono hP0_2 d
  have bj:=RowF.mono VapiTable.mono hR0_5 d
  have bk:=RowF.mono VapiGuest.mono hR0_8 d
  have bm:=RowF.mono VI.mono hR0_14 d
  have bn:=RowF.mono VI.mono hR0_20 d
  obtain rfl:=Option.some.inj H
  exact T.end0 Tryz.results40 d ⟨_,_,_,_,_,_,_,_,_,_,_,_,_,z,z,bi,bj,bk,ba,bm,be,bn⟩
 exact dead H
theorem way_apply_call {h : PH} {n : Nat} {pb0 : Nat} {s1 : repairscene} {v0_1 : Value} {v0_3 : Value} {css0_4 : List (List Value)} {v0_6 : Value} {css0_7 : List (List Value)} {v0_9 : Value} {css0_10 : List (List Value)} {v0_12 : Value} {css0_13 : List (List Value)} {v0_15 : Value} {css0_16 : List (List Value)} {v0_18 : Value} {css0_19 : List (List Value)} (hP0_2 : Pt VruleJudge h v0_1 s1.fJudge) (hR0_5 : RowF VapiTable h css0_4 s1.fp.fTables) (hR0_8 : RowF VapiGuest h css0_7 s1.fp.fGuests) (hR0_11 : RowF VapiTie h css0_10 s1.fp.fTies) (hR0_14 : RowF (VI .i64) h css0_13 s1.fp.fClass) (hR0_17 : RowF VapiRule h css0_16 s1.fp.fRules) (hR0_20 : RowF (VI .i64) h css0_19 s1.fpart) {pc1 : List Value} {c2 : apiChange} (pr1 : VapiChange h pc1 c2) {q_0 : repairscene} (H : way_apply n s1 c2 = some q_0) :
    ∃ fid us vs, fnV n = .func (.func fid) us.toArray vs.toArray ∧ ∀ L, FnS Tryz.prog fid (us ++ [.pointer (some ⟨pb0, 0, none⟩), .agg pc1.toArray] ++ vs) h (blk pb0 (.cells [v0_1, v0_3, v0_6, v0_9, v0_12, v0_15, v0_18, .int .i64 s1.fseats].toArray 69) :: rowR 31 7 v0_3 css0_4 :: rowR 35 9 v0_6 css0_7 :: rowR 164 3 v0_9 css0_10 :: rowR 3 1 v0_12 css0_13 :: rowR 39 6 v0_15 css0_16 :: rowR 3 1 v0_18 css0_19 :: L) (fun v h' L' => ∃ vl0_1 vl0_3 cssl0_4 vl0_6 cssl0_7 vl0_9 cssl0_10 vl0_12 cssl0_13 vl0_15 cssl0_16 vl0_18 cssl0_19, v = .tuple #[] ∧ L' = blk pb0 (.cells [vl0_1, vl0_3, vl0_6, vl0_9, vl0_12, vl0_15, vl0_18, .int .i64 q_0.fseats].toArray 69) :: rowR 31 7 vl0_3 cssl0_4 :: rowR 35 9 vl0_6 cssl0_7 :: rowR 164 3 vl0_9 cssl0_10 :: rowR 3 1 vl0_12 cssl0_13 :: rowR 39 6 vl0_15 cssl0_16 :: rowR 3 1 vl0_18 cssl0_19 :: L ∧ Pt VruleJudge h' vl0_1 q_0.fJudge ∧ RowF VapiTable h' cssl0_4 q_0.fp.fTables ∧ RowF VapiGuest h' cssl0_7 q_0.fp.fGuests ∧ RowF VapiTie h' cssl0_10 q_0.fp.fTies ∧ RowF (VI .i64) h' cssl0_13 q_0.fp.fClass ∧ RowF VapiRule h' cssl0_16 q_0.fp.fRules ∧ RowF (VI .i64) h' cssl0_19 q_0.fpart) := by
  unfold way_apply at H
  refine rfE H (fun e H => ?_) (fun _ H => ?_)
  · subst e; exact ⟨32, [], [], rfl, scene_late_ok hP0_2 hR0_5 hR0_8 hR0_11 hR0_14 hR0_17 hR0_20 pr1 H⟩
  refine rfE H (fun e H => ?_) (fun _ H => ?_)
  · subst e; exact ⟨36, [], [], rfl, scene_cancel_ok hP0_2 hR0_5 hR0_8 hR0_11 hR0_14 hR0_17 hR0_20 pr1 H⟩
  refine rfE H (fun e H => ?_) (fun _ H => ?_)
  · subst e; exact ⟨40, [], [], rfl, scene_quarrel_ok hP0_2 hR0_5 hR0_8 hR0_11 hR0_14 hR0_17 hR0_20 pr1 H⟩
  cases H
theorem repair_wayOf_ok {h:PH} {k1:Int} {r_0:repairway} {r_1:Bool} (H:repair_wayOf k1 = some (r_0,r_1)):∀ L,FnS Tryz.prog 12 [.int .u8 k1] h (L) (fun v h' L'=>v = .tuple #[.agg #[.string r_0.fword,(fnV r_0.fcheck),(fnV r_0.fapply),(fnV r_0.fread),(fnV r_0.fwrite)],.bool r_1]∧L' = L):=by
 intro L
 refine FnS.enter Tryz.func12 rfl Tryz.ntmps12 rfl<|Sr<|To (O.alloc zerepair_64 rfl rfl fun o=>Ag z<|Nt<|Sr<|Vv (V.bld (xs:=[]) (cs:=[_,_,_,_,_]) blrepair_64 borepair_64 rfl Fills.nil)<|Vv (V.bld (xs:=[(0,.const (.string ⟨#[108,97,116,101]⟩)),(1,.func 31),(2,.func 32),(3,.func 33),(4,.func 34)]) (cs:=[_,_,_,_,_]) blrepair_64 borepair_64 rfl (Fills.cons rfl rfl rfl (Fills.cons rfl rfl rfl (Fills.cons rfl rfl rfl (Fills.cons rfl rfl rfl (Fills.cons rfl rfl rfl Fills.nil))))))<|Vv (V.bld (xs:=[(0,.const (.string ⟨#[99,97,110,99,101,108]⟩)),(1,.func 35),(2,.func 36),(3,.func 37),(4,.func 38)]) (cs:=[_,_,_,_,_]) blrepair_64 borepair_64 rfl (Fills.cons rfl rfl rfl (Fills.cons rfl rfl rfl (Fills.cons rfl rfl rfl (Fills.cons rfl rfl rfl (Fills.cons rfl rfl rfl Fills.nil))))))<|Vv (V.bld (xs:=[(0,.const (.string ⟨#[113,117,97,114,114,101,108]⟩)),(1,.func 39),(2,.func 40),(3,.func 41),(4,.func 42)]) (cs:=[_,_,_,_,_]) blrepair_64 borepair_64 rfl (Fills.cons rfl rfl rfl (Fills.cons rfl rfl rfl (Fills.cons rfl rfl rfl (Fills.cons rfl rfl rfl (Fills.cons rfl rfl rfl Fills.nil))))))<|Vv (V.bld (xs:=[(0,.const (.string ⟨#[99,108,111,115,101]⟩)),(1,.func 43),(2,.func 44),(3,.func 45),(4,.func 46)]) (cs:=[_,_,_,_,_]) blrepair_64 borepair_64 rfl (Fills.cons rfl rfl rfl (Fills.cons rfl rfl rfl (Fills.cons rfl rfl rfl (Fills.cons rfl rfl rfl (Fills.cons rfl rfl rfl Fills.nil))))))<|Vv (V.bld (xs:=[(0,.const (.string ⟨#[100,101,109,97,110,100]⟩)),(1,.func 48),(2,.func 49),(3,.func 50),(4,.func 51)]) (cs:=[_,_,_,_,_]) blrepair_64 borepair_64 rfl (Fills.cons rfl rfl rfl (Fills.cons rfl rfl rfl (Fills.cons rfl rfl rfl (Fills.cons rfl rfl rfl (Fills.cons rfl rfl rfl Fills.nil))))))<|Vv (V.bldA (xs:=[(0,.tmp 5),(1,.tmp 6),(2,.tmp 7),(3,.tmp 8),(4,.tmp 9),(5,.tmp 10)]) (cs:=[_,_,_,_,_,_,_,_,_,_,_,_,_,_,_,_,_,_,_,_,_,_,_,_,_,_,_,_,_,_]) arrepair_95 rfl (FillsA.cons rfl rfl (FillsA.cons rfl rfl (FillsA.cons rfl rfl (FillsA.cons rfl rfl (FillsA.cons rfl rfl (FillsA.cons rfl rfl FillsA.nil)))))))<|To (O.alloc zerepair_95 rfl rfl fun p=>To (O.stF (vs:=[.string (⟨#[]⟩:ByteArray),(fnV (0:Nat)),(fnV (0:Nat)),(fnV (0:Nat)),(fnV (0:Nat)),.string (⟨#[108,97,116,101]⟩:ByteArray),(fnV (32:Nat)),(fnV (33:Nat)),(fnV (34:Nat)),(fnV (35:Nat)),.string (⟨#[99,97,110,99,101,108]⟩:ByteArray),(fnV (36:Nat)),(fnV (37:Nat)),(fnV (38:Nat)),(fnV (39:Nat)),.string (⟨#[113,117,97,114,114,101,108]⟩:ByteArray),(fnV (40:Nat)),(fnV (41:Nat)),(fnV (42:Nat)),(fnV (43:Nat)),.string (⟨#[99,108,111,115,101]⟩:ByteArray),(fnV (44:Nat)),(fnV (45:Nat)),(fnV (46:Nat)),(fnV (47:Nat)),.string (⟨#[100,101,109,97,110,100]⟩:ByteArray),(fnV (49:Nat)),(fnV (50:Nat)),(fnV (51:Nat)),(fnV (52:Nat))]) shrepair_95 rfl rfl (j:=0) rfl rfl (by (simp only [Sl.ones,fnV_one,fnV_one,fnV_one,fnV_one,fnV_one,fnV_one,fnV_one,fnV_one,fnV_one,fnV_one,fnV_one,fnV_one,fnV_one,fnV_one,fnV_one,fnV_one,fnV_one,fnV_one,fnV_one,fnV_one,fnV_one,fnV_one,fnV_one,fnV_one,Bool.and_true,Bool.true_and]) <;> rfl) rfl ?_)))
 refine T.freeze fun q a c=>have b:=AtC.of c; Nt<|Sq<|Sr<|Mv z<|Vv (V.eq z z)<|Mv z<|T.bH 14 H z (fun H=>?_) (fun H=>?_)
 ·refine Sk<|Sk<|Sk<|Vv (V.pkT rfl rfl)<|Nt<|Ct z<|Sr<|Vv (V.bld (xs:=[]) (cs:=[_,_,_,_,_]) blrepair_64 borepair_64 rfl Fills.nil)<|To (O.stF (vs:=[.string (⟨#[]⟩:ByteArray),(fnV (0:Nat)),(fnV (0:Nat)),(fnV (0:Nat)),(fnV (0:Nat))]) shrepair_64 rfl rfl (j:=0) rfl rfl (by (simp only [Sl.ones,fnV_one,fnV_one,fnV_one,fnV_one,Bool.and_true,Bool.true_and]) <;> rfl) rfl ?_)
  refine Ag z<|Nt<|T.ret<|Tr ?_
  obtain ⟨rfl,rfl⟩:=inj2 H
  exact T.retD (L':=L) Tryz.results12 (RVs.cons (RV.cellS z (j:=0) z shrepair_64) (Rv z)) a (fun _ iv=>iv.drop) ⟨z,z⟩
 refine Mv z ?_
 obtain ⟨r,d,H⟩:=bnd H
 refine Vv (V.convS Tryz.underlying36 Tryz.underlying3 z d)<|Vv (V.ge z z)<|Vv (V.pkF z z)<|Nt<|T.cH H z (fun H=>?_) (fun H=>?_)
 ·refine Sr<|Vv (V.bld (xs:=[]) (cs:=[_,_,_,_,_]) blrepair_64 borepair_64 rfl Fills.nil)<|To (O.stF (vs:=[.string (⟨#[]⟩:ByteArray),(fnV (0:Nat)),(fnV (0:Nat)),(fnV (0:Nat)),(fnV (0:Nat))]) shrepair_64 rfl rfl (j:=0) rfl rfl (by (simp only [Sl.ones,fnV_one,fnV_one,fnV_one,fnV_one,Bool.and_true,Bool.true_and]) <;> rfl) rfl ?_)
  refine Ag z<|Nt<|T.ret<|Tr ?_
  obtain ⟨rfl,rfl⟩:=inj2 H
  exact T.retD (L':=L) Tryz.results12 (RVs.cons (RV.cellS z (j:=0) z shrepair_64) (Rv z)) a (fun _ iv=>iv.drop) ⟨z,z⟩
 refine T.skip<|Th<|Sr<|Mv z ?_
 rcases caseI H with ⟨e,H⟩ | H
 ·subst e
  refine Vv (V.ixA (i:=1) arrepair_95 rfl rfl rfl)<|Vv (V.ldSf (k:=5) shrepair_64 rfl b (Nat.le_of_ble_eq_true rfl))<|To (O.stF (vs:=[.string (⟨#[108,97,116,101]⟩:ByteArray),(fnV (32:Nat)),(fnV (33:Nat)),(fnV (34:Nat)),(fnV (35:Nat))]) shrepair_64 rfl rfl (j:=0) rfl rfl (by (simp only [Sl.ones,fnV_one,fnV_one,fnV_one,fnV_one,Bool.and_true,Bool.true_and]) <;> rfl) rfl ?_)
  refine Ag z<|Nt<|T.ret ?_
  obtain ⟨rfl,rfl⟩:=inj2 H
  exact T.retD (L':=L) Tryz.results12 (RVs.cons (RV.cellS z (j:=0) z shrepair_64) (Rv z)) a (fun _ iv=>iv.drop) ⟨z,z⟩
 rcases caseI H with ⟨f,H⟩ | H
 ·subst f
  refine Vv (V.ixA (i:=2) arrepair_95 rfl rfl rfl)<|Vv (V.ldSf (k:=10) shrepair_64 rfl b (Nat.le_of_ble_eq_true rfl))<|To (O.stF (vs:=[.string (⟨#[99,97,110,99,101,108]⟩:ByteArray),(fnV (36:Nat)),(fnV (37:Nat)),(fnV (38:Nat)),(fnV (39:Nat))]) shrepair_64 rfl rfl (j:=0) rfl rfl (by (simp only [Sl.ones,fnV_one,fnV_one,fnV_one,fnV_one,Bool.and_true,Bool.true_and]) <;> rfl) rfl ?_)
  refine Ag z<|Nt<|T.ret ?_
  obtain ⟨rfl,rfl⟩:=inj2 H
  exact T.retD (L':=L) Tryz.results12 (RVs.cons (RV.cellS z (j:=0) z shrepair_64) (Rv z)) a (fun _ iv=>iv.drop) ⟨z,z⟩
 rcases caseI H with ⟨g,H⟩ | H
 ·subst g
  refine Vv (V.ixA (i:=3) arrepair_95 rfl rfl rfl)<|Vv (V.ldSf (k:=15) shrepair_64 rfl b (Nat.le_of_ble_eq_true rfl))<|To (O.stF (vs:=[.string (⟨#[113,117,97,114,114,101,108]⟩:ByteArray),(fnV (40:Nat)),(fnV (41:Nat)),(fnV (42:Nat)),(fnV (43:Nat))]) shrepair_64 rfl rfl (j:=0) rfl rfl (by (simp only [Sl.ones,fnV_one,fnV_one,fnV_one,fnV_one,Bool.and_true,Bool.true_and]) <;> rfl) rfl ?_)
  refine Ag z<|Nt<|T.ret ?_
  obtain ⟨rfl,rfl⟩:=inj2 H
  exact T.retD (L':=L) Tryz.results12 (RVs.cons (RV.cellS z (j:=0) z shrepair_64) (Rv z)) a (fun _ iv=>iv.drop) ⟨z,z⟩
 rcases caseI H with ⟨m,H⟩ | H
 ·subst m
  refine Vv (V.ixA (i:=4) arrepair_95 rfl rfl rfl)<|Vv (V.ldSf (k:=20) shrepair_64 rfl b (Nat.le_of_ble_eq_true rfl))<|To (O.stF (vs:=[.string (⟨#[99,108,111,115,101]⟩:ByteArray),(fnV (44:Nat)),(fnV (45:Nat)),(fnV (46:Nat)),(fnV (47:Nat))]) shrepair_64 rfl rfl (j:=0) rfl rfl (by (simp only [Sl.ones,fnV_one,fnV_one,fnV_one,fnV_one,Bool.and_true,Bool.true_and]) <;> rfl) rfl ?_)
  refine Ag z<|Nt<|T.ret ?_
  obtain ⟨rfl,rfl⟩:=inj2 H
  exact T.retD (L':=L) Tryz.results12 (RVs.cons (RV.cellS z (j:=0) z shrepair_64) (Rv z)) a (fun _ iv=>iv.drop) ⟨z,z⟩
 rcases caseI H with ⟨n,H⟩ | H
 ·subst n
  refine Vv (V.ixA (i:=5) arrepair_95 rfl rfl rfl)<|Vv (V.ldSf (k:=25) shrepair_64 rfl b (Nat.le_of_ble_eq_true rfl))<|To (O.stF (vs:=[.string (⟨#[100,101,109,97,110,100]⟩:ByteArray),(fnV (49:Nat)),(fnV (50:Nat)),(fnV (51:Nat)),(fnV (52:Nat))]) shrepair_64 rfl rfl (j:=0) rfl rfl (by (simp only [Sl.ones,fnV_one,fnV_one,fnV_one,fnV_one,Bool.and_true,Bool.true_and]) <;> rfl) rfl ?_)
  refine Ag z<|Nt<|T.ret ?_
  obtain ⟨rfl,rfl⟩:=inj2 H
  exact T.retD (L':=L) Tryz.results12 (RVs.cons (RV.cellS z (j:=0) z shrepair_64) (Rv z)) a (fun _ iv=>iv.drop) ⟨z,z⟩
 exact dead H
theorem scene_check_ok {h:PH} {pv0:Value} {s1:repairscene} (pr0:Pt Vrepairscene h pv0 s1) {pc1:List Value} {c2:apiChange} (pr1:VapiChange h pc1 c2) {r_0:Int} (H:scene_check s1 c2 = some r_0):∀ L,FnS Tryz.prog 11 [pv0,.agg pc1.toArray] h (L) (fun v h' L'=>v = .int .i64 r_0∧L' = L):=by
 intro L
 obtain ⟨e,rfl,i⟩:=pr1
 refine FnS.enter Tryz.func11 z Tryz.ntmps11 z<|Sr<|To (O.boxF z z z fun I J f g=>Ag z<|Nt<|Sr<|Vv (V.fa fdrepair_41_0 z)<|Vv (V.ldf (k:=0) shrepair_36 z g z) ?_)
 obtain ⟨⟨a,K⟩,m,H⟩:=bnd H
 refine To (O.callS z (repair_wayOf_ok m _) z fun M N P b n=>?_)
 obtain ⟨rfl,o⟩:=n
 refine Sl_ _ o<|Mv z<|Vv (V.ext rfl rfl)<|Vv (V.ext rfl rfl)<|To (O.alloc zerepair_64 rfl rfl fun S=>To (O.stF (vs:=[.string a.fword,(fnV a.fcheck),(fnV a.fapply),(fnV a.fread),(fnV a.fwrite)]) shrepair_64 rfl rfl (j:=0) rfl rfl (by (simp only [Sl.ones,fnV_one,fnV_one,fnV_one,fnV_one,Bool.and_true,Bool.true_and]) <;> rfl) rfl ?_))
 refine T.freeze fun p c q=>have r:=AtC.of q; Ag z<|Nt<|Sq<|Sr<|Mv z<|Vv (V.not z)<|Nt<|T.cH H z (fun H=>?_) (fun H=>?_)
 ·refine Sr<|Ag z<|Nt<|T.ret<|Tr ?_
  obtain rfl:=Option.some.inj H
  have s:=((f.trans b).trans c)
  exact T.retL Tryz.results11 (Rv z) s ⟨z,z⟩
 refine T.skip<|Th<|Sr<|Vv (V.fa fdrepair_64_1 rfl)<|Vv (V.ldf (k:=1) shrepair_59 rfl r rfl)<|Mv z<|have t:=(b.trans c); have u:=g.mono t; Vv (V.ldS rfl u (by exact shrepair_41)) ?_
 have d:=((f.trans b).trans c)
 have w:=Pt.mono Vrepairscene.mono pr0 d
 have x:=Slc.mono VS.mono i d
 obtain ⟨U,y,H⟩:=bnd H
 obtain ⟨W,X,Y,A,B⟩:=way_check_call w (show VapiChange p [.int .u8 c2.fKind,.string c2.fGuest.fName,.string c2.fGuest.fRank,.string c2.fGuest.fCourt,.int .i64 c2.fGuest.fSince,.int .i64 c2.fGuest.fSide,.string c2.fGuest.fDiet,.bool c2.fGuest.fHost,.bool c2.fGuest.fAccess,e,.string c2.fA,.string c2.fB,.string c2.fTable,.int .i64 c2.fN,.int .u8 c2.fRule.fKind,.int .i64 c2.fRule.fWeight,.string c2.fRule.fA,.string c2.fRule.fB,.string c2.fRule.fTable,.int .i64 c2.fRule.fN] c2 from ⟨e,rfl,x⟩) y
 refine To (O.callfW z A z (B _) z fun Z aa ab C D=>?_)
 obtain ⟨rfl,E⟩:=D
 refine Sl_ _ E<|Ag z<|Nt<|T.ret ?_
 obtain rfl:=Option.some.inj H
 have G:=(d.trans C)
 exact T.retL Tryz.results11 (Rv z) G ⟨z,z⟩
theorem repair_Check_ok {h:PH} {pc0:List Value} {p1:apiProblem} (pr0:VapiProblem h pc0 p1) {pv1:Value} {part12:List Int} (pr1:Slc (VI .i64) 1 h pv1 part12) {pc2:List Value} {c13:apiChange} (pr2:VapiChange h pc2 c13) {r_0:Int} (H:repair_Check p1 part12 c13 = some r_0):∀ L,FnS Tryz.prog 5 [.agg pc0.toArray,pv1,.agg pc2.toArray] h (L) (fun v h' L'=>v = .int .i64 r_0∧L' = L):=by
 intro L
 obtain ⟨m,n,o,p,q,rfl,N,P,S,U,W⟩:=pr0
 obtain ⟨r,rfl,X⟩:=pr2
 refine FnS.enter Tryz.func5 rfl Tryz.ntmps5 rfl<|Sr<|To (O.boxF rfl rfl rfl fun be bf Y Z=>To (O.boxF rfl rfl rfl fun bg aa s ab=>Ag z<|Nt<|Sr<|have ac:=Z.mono s; Vv (V.ldS rfl ac (by exact shrepair_28)) ?_))
 refine Mv z<|have b:=(Y.trans s); have ad:=Slc.mono VapiTable.mono N b; have ae:=Slc.mono VapiGuest.mono P b; have af:=Slc.mono VapiTie.mono S b; have ag:=Slc.mono VI.mono U b; have ai:=Slc.mono VapiRule.mono W b; have aj:=Slc.mono VI.mono pr1 b; ?_
 obtain ⟨⟨a,bi⟩,ak,H⟩:=bnd H
 refine To (O.callS z (repair_open_ok (show VapiProblem aa [m,n,o,p,q] p1 from ⟨m,n,o,p,q,z,ad,ae,af,ag,ai⟩) aj ak _) z fun bj bk bm j am=>?_)
 obtain ⟨bn,t,u,bo,w,bp,x,bq,y,br,A,bs,B,bt,rfl,an,ao,ap,aq,ar,au,aw,ax⟩:=am
 refine Sl_ _ an<|Mv z<|Vv (V.ext z z)<|Vv (V.ext z z)<|Ag z<|Ag z<|Nt<|Sq<|Sr<|Mv z<|Vv (V.ne z z)<|Nt<|T.cH H z (fun H=>?_) (fun H=>?_)
 ·exact dead H
 refine T.skip<|Th<|Sr<|Mv z<|have ay:=ab.mono j; Vv (V.ldS rfl ay (by exact shrepair_41)) ?_
 obtain ⟨d,aA,H⟩:=bnd H
 refine To (O.callS z (FnS.lend (val:=.int .i64 d) Tryz.func11 z lendB fun bu C aB=>FnS.lend (val:=.int .i64 d) Tryz.func11 z lendR fun bw k aC=>FnS.lend (val:=.int .i64 d) Tryz.func11 z lendR fun bx i aD=>FnS.lend (val:=.int .i64 d) Tryz.func11 z lendR fun bA g aE=>FnS.lend (val:=.int .i64 d) Tryz.func11 z lendR fun bB f aG=>FnS.lend (val:=.int .i64 d) Tryz.func11 z lendR fun bC e aI=>FnS.lend (val:=.int .i64 d) Tryz.func11 z lendR fun D c aJ=>?_) z fun bD bE bG aK aM=>?_)
 ·have E:=(C.trans k)
  have aN:=RowF.mono VapiTable.mono ap E
  have aO:=RowF.slc aC aN
  have G:=(E.trans i)
  have aP:=RowF.mono VapiGuest.mono aq G
  have aS:=RowF.slc aD aP
  have I:=(G.trans g)
  have aU:=RowF.mono VapiTie.mono ar I
  have aV:=RowF.slc aE aU
  have J:=(I.trans f)
  have aW:=RowF.mono VI.mono au J
  have aX:=RowF.slc aG aW
  have K:=(J.trans e)
  have aY:=RowF.mono VapiRule.mono aw K
  have aZ:=RowF.slc aI aY
  have M:=(K.trans c)
  have a0:=RowF.mono VI.mono ax M
  have a1:=RowF.slc aJ a0
  have a2:=(((((k.trans i).trans g).trans f).trans e).trans c)
  have a3:=aB.mono a2
  have a4:=Pt.mono VruleJudge.mono ao M
  have a5:=((((i.trans g).trans f).trans e).trans c)
  have a6:=Slc.mono VapiTable.mono aO a5
  have a7:=(((g.trans f).trans e).trans c)
  have a8:=Slc.mono VapiGuest.mono aS a7
  have a9:=((f.trans e).trans c)
  have ah:=Slc.mono VapiTie.mono aV a9
  have al:=(e.trans c)
  have av:=Slc.mono VI.mono aX al
  have az:=Slc.mono VapiRule.mono aZ c
  have ba:=((((((((b.trans j).trans C).trans k).trans i).trans g).trans f).trans e).trans c)
  have bb:=Slc.mono VS.mono X ba
  exact scene_check_ok (Pt.mk a3 (show Vrepairscene D [t,u,w,x,y,A,B,.int .i64 a.fseats] (repairscene.mk a.fJudge (apiProblem.mk a.fp.fTables a.fp.fGuests a.fp.fTies a.fp.fClass a.fp.fRules) a.fpart a.fseats) from ⟨t,u,w,x,y,A,B,z,a4,a6,a8,ah,av,az,a1⟩)) (show VapiChange D [.int .u8 c13.fKind,.string c13.fGuest.fName,.string c13.fGuest.fRank,.string c13.fGuest.fCourt,.int .i64 c13.fGuest.fSince,.int .i64 c13.fGuest.fSide,.string c13.fGuest.fDiet,.bool c13.fGuest.fHost,.bool c13.fGuest.fAccess,r,.string c13.fA,.string c13.fB,.string c13.fTable,.int .i64 c13.fN,.int .u8 c13.fRule.fKind,.int .i64 c13.fRule.fWeight,.string c13.fRule.fA,.string c13.fRule.fB,.string c13.fRule.fTable,.int .i64 c13.fRule.fN] c13 from ⟨r,z,bb⟩) aA _
 obtain ⟨rfl,bc⟩:=aM
 refine Sl_ _ bc<|Ag z<|Nt<|T.ret<|T.drop<|T.drop<|T.drop<|T.drop<|T.drop<|T.drop<|T.drop ?_
 obtain rfl:=Option.some.inj H
 have bd:=((b.trans j).trans aK)
 exact T.retL Tryz.results5 (Rv z) bd ⟨z,z⟩
theorem repair_Apply_ok {h:PH} {pc0:List Value} {p1:apiProblem} (pr0:VapiProblem h pc0 p1) {pv1:Value} {part12:List Int} (pr1:Slc (VI .i64) 1 h pv1 part12) {pc2:List Value} {c13:apiChange} (pr2:VapiChange h pc2 c13) {r_0:apiProblem} {r_1:List Int} {r_2:Int} (H:repair_Apply p1 part12 c13 = some (r_0,r_1,r_2)):∀ L,FnS Tryz.prog 4 [.agg pc0.toArray,pv1,.agg pc2.toArray] h (L) (fun v h' L'=>∃ v0_1 v0_3 v0_5 v0_7 v0_9 w1 cs1,v = .tuple #[.agg #[v0_1,v0_3,v0_5,v0_7,v0_9],w1,.int .i64 r_2]∧L' = rowR 3 1 w1 cs1::L∧Slc VapiTable 7 h' v0_1 r_0.fTables∧Slc VapiGuest 9 h' v0_3 r_0.fGuests∧Slc VapiTie 3 h' v0_5 r_0.fTies∧Slc (VI .i64) 1 h' v0_7 r_0.fClass∧Slc VapiRule 6 h' v0_9 r_0.fRules∧RowF (VI .i64) h' cs1 r_1):=by
 intro L
 obtain ⟨K,M,N,P,S,rfl,aJ,aK,aM,aN,aO⟩:=pr0
 obtain ⟨p,rfl,U⟩:=pr2
 refine FnS.enter Tryz.func4 rfl Tryz.ntmps4 rfl<|Sr<|To (O.boxF rfl rfl rfl fun cX cY aP aS=>To (O.boxF rfl rfl rfl fun cZ aU W aV=>To (O.alloc zerepair_28 rfl rfl fun aW=>Ag z<|Ag z<|Nt<|Sr<|have aX:=aS.mono W; Vv (V.ldS rfl aX (by exact shrepair_28)) ?_)))
 refine Mv z<|have b:=(aP.trans W); have aY:=Slc.mono VapiTable.mono aJ b; have aZ:=Slc.mono VapiGuest.mono aK b; have a0:=Slc.mono VapiTie.mono aM b; have a1:=Slc.mono VI.mono aN b; have a2:=Slc.mono VapiRule.mono aO b; have a3:=Slc.mono VI.mono pr1 b; ?_
 obtain ⟨⟨a,c0⟩,a4,H⟩:=bnd H
 refine To (O.callS z (repair_open_ok (show VapiProblem aU [K,M,N,P,S] p1 from ⟨K,M,N,P,S,z,aY,aZ,a0,a1,a2⟩) a3 a4 _) z fun c1 c2 c3 s a5=>?_)
 obtain ⟨a6,X,Y,c4,Z,c5,aa,c6,ab,c7,ac,c8,ad,c9,rfl,a7,ae,af,ag,ai,aj,ak,am⟩:=a5
 refine Sl_ _ a7<|Mv z<|Vv (V.ext z z)<|Vv (V.ext z z)<|Ag z<|Ag z<|Nt<|Sq<|Sr<|Mv z<|Vv (V.ne z z)<|Nt<|T.cH H z (fun H=>?_) (fun H=>?_)
 ·exact dead H
 refine T.skip<|Th<|Sq<|Sr<|Mv z<|have an:=aV.mono s; Vv (V.ldS rfl an (by exact shrepair_41)) ?_
 obtain ⟨d,a8,H⟩:=bnd H
 refine To (O.callS z (FnS.lend (val:=.int .i64 d) Tryz.func11 z lendB fun ch ao a9=>FnS.lend (val:=.int .i64 d) Tryz.func11 z lendR fun cl u ah=>FnS.lend (val:=.int .i64 d) Tryz.func11 z lendR fun cv q al=>FnS.lend (val:=.int .i64 d) Tryz.func11 z lendR fun cz m av=>FnS.lend (val:=.int .i64 d) Tryz.func11 z lendR fun da g az=>FnS.lend (val:=.int .i64 d) Tryz.func11 z lendR fun db e ba=>FnS.lend (val:=.int .i64 d) Tryz.func11 z lendR fun ap c bb=>?_) z fun dc dd de w bc=>?_)
 ·have aq:=(ao.trans u)
  have bd:=RowF.mono VapiTable.mono af aq
  have be:=RowF.slc ah bd
  have ar:=(aq.trans q)
  have bf:=RowF.mono VapiGuest.mono ag ar
  have bg:=RowF.slc al bf
  have au:=(ar.trans m)
  have bi:=RowF.mono VapiTie.mono ai au
  have bj:=RowF.slc av bi
  have aw:=(au.trans g)
  have bk:=RowF.mono VI.mono aj aw
  have bm:=RowF.slc az bk
  have ax:=(aw.trans e)
  have bn:=RowF.mono VapiRule.mono ak ax
  have bo:=RowF.slc ba bn
  have ay:=(ax.trans c)
  have bp:=RowF.mono VI.mono am ay
  have bq:=RowF.slc bb bp
  have br:=(((((u.trans q).trans m).trans g).trans e).trans c)
  have bs:=a9.mono br
  have bt:=Pt.mono VruleJudge.mono ae ay
  have bu:=((((q.trans m).trans g).trans e).trans c)
  have bw:=Slc.mono VapiTable.mono be bu
  have bx:=(((m.trans g).trans e).trans c)
  have bA:=Slc.mono VapiGuest.mono bg bx
  have bB:=((g.trans e).trans c)
  have bC:=Slc.mono VapiTie.mono bj bB
  have bD:=(e.trans c)
  have bE:=Slc.mono VI.mono bm bD
  have bG:=Slc.mono VapiRule.mono bo c
  have bI:=((((((((b.trans s).trans ao).trans u).trans q).trans m).trans g).trans e).trans c)
  have bJ:=Slc.mono VS.mono U bI
  exact scene_check_ok (Pt.mk bs (show Vrepairscene ap [X,Y,Z,aa,ab,ac,ad,.int .i64 a.fseats] (repairscene.mk a.fJudge (apiProblem.mk a.fp.fTables a.fp.fGuests a.fp.fTies a.fp.fClass a.fp.fRules) a.fpart a.fseats) from ⟨X,Y,Z,aa,ab,ac,ad,z,bt,bw,bA,bC,bE,bG,bq⟩)) (show VapiChange ap [.int .u8 c13.fKind,.string c13.fGuest.fName,.string c13.fGuest.fRank,.string c13.fGuest.fCourt,.int .i64 c13.fGuest.fSince,.int .i64 c13.fGuest.fSide,.string c13.fGuest.fDiet,.bool c13.fGuest.fHost,.bool c13.fGuest.fAccess,p,.string c13.fA,.string c13.fB,.string c13.fTable,.int .i64 c13.fN,.int .u8 c13.fRule.fKind,.int .i64 c13.fRule.fWeight,.string c13.fRule.fA,.string c13.fRule.fB,.string c13.fRule.fTable,.int .i64 c13.fRule.fN] c13 from ⟨p,z,bJ⟩) a8 _
 obtain ⟨rfl,bK⟩:=bc
 refine Sl_ _ bK<|Ag z<|Nt<|Sr<|Mv z<|Vv (V.ne z z)<|Nt<|T.cH H z (fun H=>?_) (fun H=>?_)
 ·exact dead H
 refine T.skip<|Th<|Sr<|Vv (V.fa fdrepair_41_0 z)<|have aA:=an.mono w; Vv (V.ldf (k:=0) shrepair_36 z aA z) ?_
 obtain ⟨⟨n,df⟩,bM,H⟩:=bnd H
 refine To (O.callS z (repair_wayOf_ok bM _) z fun dg di dj x bN=>?_)
 obtain ⟨rfl,bO⟩:=bN
 refine Sl_ _ bO<|Mv z<|Vv (V.ext rfl rfl)<|Vv (V.ext rfl rfl)<|To (O.alloc zerepair_64 rfl rfl fun dk=>To (O.stF (vs:=[.string n.fword,(fnV n.fcheck),(fnV n.fapply),(fnV n.fread),(fnV n.fwrite)]) shrepair_64 rfl rfl (j:=0) rfl rfl (by (simp only [Sl.ones,fnV_one,fnV_one,fnV_one,fnV_one,Bool.and_true,Bool.true_and]) <;> rfl) rfl ?_))
 refine T.fl ?_
 refine T.freeze fun bP y bS=>have bU:=AtC.of bS; Ag z<|Nt<|Sr<|Vv (V.fa fdrepair_64_2 rfl)<|Vv (V.ldf (k:=2) shrepair_60 rfl bU rfl)<|Mv z<|have bV:=(x.trans y); have bW:=aA.mono bV; Vv (V.ldS rfl bW (by exact shrepair_41)) ?_
 have f:=((w.trans x).trans y)
 have bX:=Pt.mono VruleJudge.mono ae f
 have bY:=RowF.mono VapiTable.mono af f
 have bZ:=RowF.mono VapiGuest.mono ag f
 have b0:=RowF.mono VapiTie.mono ai f
 have b1:=RowF.mono VI.mono aj f
 have b2:=RowF.mono VapiRule.mono ak f
 have b3:=RowF.mono VI.mono am f
 have aB:=((((b.trans s).trans w).trans x).trans y)
 have b4:=Slc.mono VS.mono U aB
 obtain ⟨b5,b6,H⟩:=bnd H
 obtain ⟨dm,dn,dp,b7,b8⟩:=way_apply_call bX bY bZ b0 b1 b2 b3 (show VapiChange bP [.int .u8 c13.fKind,.string c13.fGuest.fName,.string c13.fGuest.fRank,.string c13.fGuest.fCourt,.int .i64 c13.fGuest.fSince,.int .i64 c13.fGuest.fSide,.string c13.fGuest.fDiet,.bool c13.fGuest.fHost,.bool c13.fGuest.fAccess,p,.string c13.fA,.string c13.fB,.string c13.fTable,.int .i64 c13.fN,.int .u8 c13.fRule.fKind,.int .i64 c13.fRule.fWeight,.string c13.fRule.fA,.string c13.fRule.fB,.string c13.fRule.fTable,.int .i64 c13.fRule.fN] c13 from ⟨p,rfl,b4⟩) b6
 refine To (O.callfW z b7 z (b8 _) z fun dq dr ds b9 bh=>?_)
 obtain ⟨bl,A,bv,B,bz,C,ca,D,cb,E,cc,G,aC,rfl,cd,dt,ce,cf,cg,ci,cj,ck⟩:=bh
 refine Sl_ _ cd<|Nt<|Sq<|T.norm [6,9] z<|Sl_ (blk a6 (.cells [bl,A,B,C,D,E,G,.int .i64 b5.fseats].toArray 69)::rowR 31 7 A bv::rowR 35 9 B bz::rowR 164 3 C ca::rowR 3 1 D cb::rowR 39 6 E cc::rowR 3 1 G aC::blk aW (.cells [.slice none 0 0,.slice none 0 0,.slice none 0 0,.slice none 0 0,.slice none 0 0].toArray 28)::L) z<|Fr_ 7 z<|T.fl ?_
 refine Fr_ 1 z<|T.fl ?_
 refine T.drawF (t:=(.v 0 (.v 1 (.v 2 (.v 3 (.v 4 (.v 5 (.v 6 (.v 7 (.alt 8 (.alt 9 (.alt 10 .done .no) .no) .no)))))))))) 8 2 1 rfl rfl repairmixed (by kernel_rfl) ?_
 refine Tm z z<|Tv z (V.nck rfl)<|Tv z (V.fa fdrepair_69_1 rfl)<|Tv z (Val.XA fun _ _ _=>V.ldOSk (k:=1) shrepair_28 rfl (j:=0) rfl (Nat.le_of_ble_eq_true rfl))<|Tm z z<|Tv z (V.nck rfl)<|Tv z (V.fa fdrepair_69_2 rfl)<|Tv z (Val.XA fun _ _ _=>V.ldO (k:=6) shrepair_25 rfl (j:=0) rfl rfl)<|T.rowOne 2 rfl fun cm du=>T.rowOne 3 rfl fun cn dw=>T.rowOne 4 rfl fun co dx=>T.rowOne 5 rfl fun cp dy=>T.rowOne 6 rfl fun cq dA=>Tp z z (SX.two (XA.fr [0] Lr rfl) (XA.fr [1,1] Lr rfl)) (O.stF (vs:=[A,B,C,D,E]) shrepair_28 rfl rfl (j:=1) rfl rfl (by (simp only [Sl.ones,cm,cn,co,cp,cq,Bool.and_true,Bool.true_and]) <;> rfl) rfl ?_) T.tno
 refine T.fl ?_
 refine Ts z z (SX.one (XA.fr [1] Lr z) z) (V.asg z) z ?_ T.tno
 refine Ts z z (SX.one (XA.fr [1] Lr z) z) (V.asg z) z ?_ T.tno
 refine T.tnil (SX.one (XA.fr [1] Lr z) z)<|Th<|T.ret<|Fr_ 2 z<|T.fl ?_
 refine T.rowFix fun dB I cr=>have cs:=RowF.mono VapiTable.mono ce I; have ct:=RowF.slc cr cs; Fr_ 2 z<|T.fl ?_
 refine T.rowFix fun dC J cu=>have aD:=(I.trans J); have cw:=RowF.mono VapiGuest.mono cf aD; have cx:=RowF.slc cu cw; Fr_ 2 z<|T.fl ?_
 refine T.rowFix fun dD r cy=>have aE:=(aD.trans r); have cA:=RowF.mono VapiTie.mono cg aE; have cB:=RowF.slc cy cA; Fr_ 2 z<|T.fl ?_
 refine T.rowFix fun dE o cC=>have aG:=(aE.trans o); have cD:=RowF.mono VI.mono ci aG; have cE:=RowF.slc cC cD; Fr_ 2 z<|T.fl ?_
 refine T.rowFix fun dG i cG=>have aI:=(aG.trans i); have cI:=RowF.mono VapiRule.mono cj aI; have cJ:=RowF.slc cG cI; Fr_ 1 z<|T.fl ?_
 refine T.drop<|have cK:=(((J.trans r).trans o).trans i); have cM:=Slc.mono VapiTable.mono ct cK; have cN:=((r.trans o).trans i); have cO:=Slc.mono VapiGuest.mono cx cN; have cP:=(o.trans i); have cS:=Slc.mono VapiTie.mono cB cP; have cU:=Slc.mono VI.mono cE i; have cV:=RowF.mono VI.mono ck aI; ?_
 obtain ⟨rfl,rfl,rfl⟩:=inj3 H
 have cW:=((((((aB.trans b9).trans I).trans J).trans r).trans o).trans i)
 exact T.retD (L':=rowR 3 1 G aC::L) Tryz.results4 (RVs.cons (RV.cellS z (j:=0) z shrepair_28) (RVs.cons (RV.tmp z) (Rv z))) cW (fun _ iv=>iv.drop) ⟨_,_,_,_,_,_,_,z,z,cM,cO,cS,cU,cJ,cV⟩
end Go.Proofs.X
