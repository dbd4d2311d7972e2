import Derived.Test.YteaklbinndmohaaGreatDoorChecked
import Derived.KernelRfl
import Derived.Test.YteaklbinndmohaaGreatDoorV
import Derived.Test.YteaklbinndmohaaGreatDoorL9
import Derived.Test.YteaklbinndmohaaGreatDoorDa
import Derived.Test.YteaklbinndmohaaGreatDoorWa
/- The walks: each function computes what its Lean function says. -/
set_option maxRecDepth 1000000
set_option maxHeartbeats 40000000
set_option linter.unusedVariables false
set_option linter.unusedSimpArgs false
set_option linter.unnecessarySimpa false
open Go Go.Proofs Go.Sl Go.Dm
namespace Go.Proofs.X
theorem rule2mixed : Tryz.prog.follows .mixedOrders = true := by kernel_rfl
theorem blrule2_111 : bldSh Tryz.prog 111 = some ([.slice none 0 0, .slice none 0 0, .slice none 0 0, .slice none 0 0, .slice none 0 0, .map none, .slice none 0 0, .slice none 0 0, .slice none 0 0, .slice none 0 0, .slice none 0 0, .slice none 0 0, .slice none 0 0, .slice none 0 0], [(0, 5), (5, 1), (6, 1), (7, 1), (8, 1), (9, 1), (10, 1), (11, 1), (12, 1), (13, 1)]) := by kernel_rfl
theorem blrule2_143 : bldSh Tryz.prog 143 = some ([.slice none 0 0, .slice none 0 0], [(0, 1), (1, 1)]) := by kernel_rfl
theorem blrule2_207 : bldSh Tryz.prog 207 = some ([.pointer none, .slice none 0 0, .slice none 0 0], [(0, 1), (1, 1), (2, 1)]) := by kernel_rfl
theorem blrule2_210 : bldSh Tryz.prog 210 = some ([.string ⟨#[]⟩, .int .u8 (0), .bool false, .int .u8 (0), .bool false, .int .i64 (0), .bool false, .nilFunc], [(0, 1), (1, 1), (2, 1), (3, 1), (4, 1), (5, 1), (6, 1), (7, 1)]) := by kernel_rfl
theorem borule2_111 : fieldsOK Tryz.prog 111 = true := by kernel_rfl
theorem borule2_143 : fieldsOK Tryz.prog 143 = true := by kernel_rfl
theorem borule2_207 : fieldsOK Tryz.prog 207 = true := by kernel_rfl
theorem borule2_210 : fieldsOK Tryz.prog 210 = true := by kernel_rfl
theorem elrule2_105 : elSh Tryz.prog 105 = some (4, 1, 1) := by kernel_rfl
theorem elrule2_106 : elSh Tryz.prog 106 = some (25, 1, 24) := by kernel_rfl
theorem elrule2_107 : elSh Tryz.prog 107 = some (137, 1, 8) := by kernel_rfl
theorem elrule2_108 : elSh Tryz.prog 108 = some (105, 1, 24) := by kernel_rfl
theorem elrule2_109 : elSh Tryz.prog 109 = some (144, 1, 24) := by kernel_rfl
theorem elrule2_144 : elSh Tryz.prog 144 = some (146, 1, 1) := by kernel_rfl
theorem elrule2_22 : elSh Tryz.prog 22 = some (31, 7, 80) := by kernel_rfl
theorem elrule2_23 : elSh Tryz.prog 23 = some (35, 9, 112) := by kernel_rfl
theorem elrule2_25 : elSh Tryz.prog 25 = some (3, 1, 8) := by kernel_rfl
theorem elrule2_26 : elSh Tryz.prog 26 = some (39, 6, 72) := by kernel_rfl
theorem elrule2_33 : elSh Tryz.prog 33 = some (9, 1, 16) := by kernel_rfl
theorem fdrule2_103_1 : fldOf Tryz.prog 103 1 = some 1 := by kernel_rfl
theorem fdrule2_103_4 : fldOf Tryz.prog 103 4 = some 4 := by kernel_rfl
theorem fdrule2_111_0 : fldOf Tryz.prog 111 0 = some 0 := by kernel_rfl
theorem fdrule2_111_1 : fldOf Tryz.prog 111 1 = some 5 := by kernel_rfl
theorem fdrule2_111_2 : fldOf Tryz.prog 111 2 = some 6 := by kernel_rfl
theorem fdrule2_111_3 : fldOf Tryz.prog 111 3 = some 7 := by kernel_rfl
theorem fdrule2_111_4 : fldOf Tryz.prog 111 4 = some 8 := by kernel_rfl
theorem fdrule2_111_5 : fldOf Tryz.prog 111 5 = some 9 := by kernel_rfl
theorem fdrule2_111_6 : fldOf Tryz.prog 111 6 = some 10 := by kernel_rfl
theorem fdrule2_111_7 : fldOf Tryz.prog 111 7 = some 11 := by kernel_rfl
theorem fdrule2_111_8 : fldOf Tryz.prog 111 8 = some 12 := by kernel_rfl
theorem fdrule2_111_9 : fldOf Tryz.prog 111 9 = some 13 := by kernel_rfl
theorem fdrule2_207_0 : fldOf Tryz.prog 207 0 = some 0 := by kernel_rfl
theorem fdrule2_207_1 : fldOf Tryz.prog 207 1 = some 1 := by kernel_rfl
theorem fdrule2_207_2 : fldOf Tryz.prog 207 2 = some 2 := by kernel_rfl
theorem fdrule2_210_0 : fldOf Tryz.prog 210 0 = some 0 := by kernel_rfl
theorem fdrule2_210_1 : fldOf Tryz.prog 210 1 = some 1 := by kernel_rfl
theorem fdrule2_210_2 : fldOf Tryz.prog 210 2 = some 2 := by kernel_rfl
theorem fdrule2_210_3 : fldOf Tryz.prog 210 3 = some 3 := by kernel_rfl
theorem fdrule2_210_4 : fldOf Tryz.prog 210 4 = some 4 := by kernel_rfl
theorem fdrule2_210_5 : fldOf Tryz.prog 210 5 = some 5 := by kernel_rfl
theorem fdrule2_210_6 : fldOf Tryz.prog 210 6 = some 6 := by kernel_rfl
theorem fdrule2_28_0 : fldOf Tryz.prog 28 0 = some 0 := by kernel_rfl
theorem fdrule2_28_1 : fldOf Tryz.prog 28 1 = some 1 := by kernel_rfl
theorem fdrule2_28_2 : fldOf Tryz.prog 28 2 = some 2 := by kernel_rfl
theorem fdrule2_28_3 : fldOf Tryz.prog 28 3 = some 3 := by kernel_rfl
theorem fdrule2_28_4 : fldOf Tryz.prog 28 4 = some 4 := by kernel_rfl
theorem fdrule2_31_0 : fldOf Tryz.prog 31 0 = some 0 := by kernel_rfl
theorem fdrule2_35_0 : fldOf Tryz.prog 35 0 = some 0 := by kernel_rfl
theorem fdrule2_35_6 : fldOf Tryz.prog 35 6 = some 6 := by kernel_rfl
theorem fdrule2_39_0 : fldOf Tryz.prog 39 0 = some 0 := by kernel_rfl
theorem fdrule2_39_1 : fldOf Tryz.prog 39 1 = some 1 := by kernel_rfl
theorem fdrule2_39_2 : fldOf Tryz.prog 39 2 = some 2 := by kernel_rfl
theorem fdrule2_39_3 : fldOf Tryz.prog 39 3 = some 3 := by kernel_rfl
theorem fdrule2_39_4 : fldOf Tryz.prog 39 4 = some 4 := by kernel_rfl
theorem fdrule2_39_5 : fldOf Tryz.prog 39 5 = some 5 := by kernel_rfl
theorem shrule2_103 : tySh Tryz.prog 103 = some (true, 5) := by kernel_rfl
theorem shrule2_104 : tySh Tryz.prog 104 = some (false, 1) := by kernel_rfl
theorem shrule2_105 : tySh Tryz.prog 105 = some (false, 1) := by kernel_rfl
theorem shrule2_106 : tySh Tryz.prog 106 = some (false, 1) := by kernel_rfl
theorem shrule2_107 : tySh Tryz.prog 107 = some (false, 1) := by kernel_rfl
theorem shrule2_108 : tySh Tryz.prog 108 = some (false, 1) := by kernel_rfl
theorem shrule2_109 : tySh Tryz.prog 109 = some (false, 1) := by kernel_rfl
theorem shrule2_208 : tySh Tryz.prog 208 = some (false, 1) := by kernel_rfl
theorem shrule2_210 : tySh Tryz.prog 210 = some (true, 8) := by kernel_rfl
theorem shrule2_22 : tySh Tryz.prog 22 = some (false, 1) := by kernel_rfl
theorem shrule2_23 : tySh Tryz.prog 23 = some (false, 1) := by kernel_rfl
theorem shrule2_24 : tySh Tryz.prog 24 = some (false, 1) := by kernel_rfl
theorem shrule2_25 : tySh Tryz.prog 25 = some (false, 1) := by kernel_rfl
theorem shrule2_26 : tySh Tryz.prog 26 = some (false, 1) := by kernel_rfl
theorem shrule2_28 : tySh Tryz.prog 28 = some (true, 5) := by kernel_rfl
theorem shrule2_3 : tySh Tryz.prog 3 = some (false, 1) := by kernel_rfl
theorem shrule2_35 : tySh Tryz.prog 35 = some (true, 9) := by kernel_rfl
theorem shrule2_37 : tySh Tryz.prog 37 = some (false, 1) := by kernel_rfl
theorem shrule2_39 : tySh Tryz.prog 39 = some (true, 6) := by kernel_rfl
theorem shrule2_4 : tySh Tryz.prog 4 = some (false, 1) := by kernel_rfl
theorem shrule2_5 : tySh Tryz.prog 5 = some (false, 1) := by kernel_rfl
theorem shrule2_67 : tySh Tryz.prog 67 = some (false, 1) := by kernel_rfl
theorem shrule2_9 : tySh Tryz.prog 9 = some (false, 1) := by kernel_rfl
theorem zerule2_105 : zer Tryz.prog 105 = some (.slice none 0 0) := by kernel_rfl
theorem zerule2_137 : zer Tryz.prog 137 = some (.map none) := by kernel_rfl
theorem zerule2_144 : zer Tryz.prog 144 = some (.slice none 0 0) := by kernel_rfl
theorem zerule2_146 : zer Tryz.prog 146 = some (.int .u8 (0)) := by kernel_rfl
theorem zerule2_210 : zer Tryz.prog 210 = some (.agg #[.string ⟨#[]⟩, .int .u8 (0), .bool false, .int .u8 (0), .bool false, .int .i64 (0), .bool false, .nilFunc]) := by kernel_rfl
theorem zerule2_25 : zer Tryz.prog 25 = some (.slice none 0 0) := by kernel_rfl
theorem zerule2_28 : zer Tryz.prog 28 = some (.agg #[.slice none 0 0, .slice none 0 0, .slice none 0 0, .slice none 0 0, .slice none 0 0]) := by kernel_rfl
theorem zerule2_3 : zer Tryz.prog 3 = some (.int .i64 (0)) := by kernel_rfl
theorem zerule2_35 : zer Tryz.prog 35 = some (.agg #[.string ⟨#[]⟩, .string ⟨#[]⟩, .string ⟨#[]⟩, .int .i64 (0), .int .i64 (0), .string ⟨#[]⟩, .bool false, .bool false, .slice none 0 0]) := by kernel_rfl
theorem zerule2_39 : zer Tryz.prog 39 = some (.agg #[.int .u8 (0), .int .i64 (0), .string ⟨#[]⟩, .string ⟨#[]⟩, .string ⟨#[]⟩, .int .i64 (0)]) := by kernel_rfl
theorem zerule2_4 : zer Tryz.prog 4 = some (.bool false) := by kernel_rfl
theorem flrule2_210_7 : fldV Tryz.prog 210 7 = some (7, 208) := by kernel_rfl
theorem rfE {c : Prop} [Decidable c] {α : Type} {a b r : α} {P : Prop} (H : (if c then a else b) = r) (x : c → a = r → P) (y : ¬c → b = r → P) : P := by
  by_cases h : c
  · rw [if_pos h] at H; exact x h H
  · rw [if_neg h] at H; exact y h H
theorem rule_find_call {σ : Type} {R : σ → PH → List HProp → Prop} {h : PH} {n : Nat} {pv1 : Value} {v : ruleview} (pr1 : Pt Vruleview h pv1 v) {pc2 : List Value} {r : apiRule} (pr2 : VapiRule h pc2 r) {pv3 : Value} {f : σ → Int → (List Int) → Option σ} (pr3 : CY211 R h pv3 f) {s0 : σ} {La : List HProp} (hRa : R s0 h La) {q_s : σ} (H : rule_find n v r f s0 = some q_s) :
    ∃ fid us vs, fnV n = .func (.func fid) us.toArray vs.toArray ∧ ∀ As L, FnS Tryz.prog fid (us ++ [pv1, .agg pc2.toArray, pv3] ++ vs) h (As ++ (La ++ L)) (fun v h' L' => ∃ La', v = .tuple #[] ∧ L' = (As ++ (La' ++ L)) ∧ R q_s h' La') := by
  unfold rule_find at H
  refine rfE H (fun e H => ?_) (fun _ H => ?_)
  · subst e; exact ⟨138, [], [], rfl, view_apart_ok pr1 pr2 pr3 hRa H⟩
  refine rfE H (fun e H => ?_) (fun _ H => ?_)
  · subst e; exact ⟨139, [], [], rfl, view_sideBySide_ok pr1 pr2 pr3 hRa H⟩
  refine rfE H (fun e H => ?_) (fun _ H => ?_)
  · subst e; exact ⟨140, [], [], rfl, view_faceToFace_ok pr1 pr2 pr3 hRa H⟩
  refine rfE H (fun e H => ?_) (fun _ H => ?_)
  · subst e; exact ⟨141, [], [], rfl, view_within_ok pr1 pr2 pr3 hRa H⟩
  refine rfE H (fun e H => ?_) (fun _ H => ?_)
  · subst e; exact ⟨142, [], [], rfl, view_together_ok pr1 pr2 pr3 hRa H⟩
  refine rfE H (fun e H => ?_) (fun _ H => ?_)
  · subst e; exact ⟨143, [], [], rfl, view_at_ok pr1 pr2 pr3 hRa H⟩
  refine rfE H (fun e H => ?_) (fun _ H => ?_)
  · subst e; exact ⟨144, [], [], rfl, view_seat_ok pr1 pr2 pr3 hRa H⟩
  refine rfE H (fun e H => ?_) (fun _ H => ?_)
  · subst e; exact ⟨145, [], [], rfl, view_alternate_ok pr1 pr2 pr3 hRa H⟩
  refine rfE H (fun e H => ?_) (fun _ H => ?_)
  · subst e; exact ⟨146, [], [], rfl, view_host_ok pr1 pr2 pr3 hRa H⟩
  refine rfE H (fun e H => ?_) (fun _ H => ?_)
  · subst e; exact ⟨147, [], [], rfl, view_reach_ok pr1 pr2 pr3 hRa H⟩
  refine rfE H (fun e H => ?_) (fun _ H => ?_)
  · subst e; exact ⟨148, [], [], rfl, view_speak_ok pr1 pr2 pr3 hRa H⟩
  refine rfE H (fun e H => ?_) (fun _ H => ?_)
  · subst e; exact ⟨149, [], [], rfl, view_peace_ok pr1 pr2 pr3 hRa H⟩
  refine rfE H (fun e H => ?_) (fun _ H => ?_)
  · subst e; exact ⟨150, [], [], rfl, view_company_ok pr1 pr2 pr3 hRa H⟩
  refine rfE H (fun e H => ?_) (fun _ H => ?_)
  · subst e; exact ⟨151, [], [], rfl, view_honour_ok pr1 pr2 pr3 hRa H⟩
  refine rfE H (fun e H => ?_) (fun _ H => ?_)
  · subst e; exact ⟨152, [], [], rfl, view_fill_ok pr1 pr2 pr3 hRa H⟩
  refine rfE H (fun e H => ?_) (fun _ H => ?_)
  · subst e; exact ⟨153, [], [], rfl, view_limit_ok pr1 pr2 pr3 hRa H⟩
  refine rfE H (fun e H => ?_) (fun _ H => ?_)
  · subst e; exact ⟨154, [], [], rfl, view_kitchen_ok pr1 pr2 pr3 hRa H⟩
  refine rfE H (fun e H => ?_) (fun _ H => ?_)
  · subst e; exact ⟨155, [], [], rfl, view_mix_ok pr1 pr2 pr3 hRa H⟩
  cases H
theorem view_faults_1_ok {h:PH} {k1:Int} {pv1:Value} {u2:List Int} (pr1:Slc (VI .i64) 1 h pv1 u2) {pb2:Nat} {t3:Int}  {q_2:Int} (H:view_faults_1 k1 u2 t3 = some q_2):∀ L,FnS Tryz.prog 283 [.int .i64 k1,pv1,.pointer (some ⟨pb2,0,none⟩)] h (blk pb2 (.cells [.int .i64 t3].toArray 3)::L) (fun v h' L'=>v = .tuple #[]∧L' = blk pb2 (.cells [.int .i64 q_2].toArray 3)::L):=by
 intro L
 refine FnS.enter Tryz.func283 z Tryz.ntmps283 z<|Rg<|Vv (V.ldO0 shrule2_3 z (j:=0) z z)<|Mv z ?_
 obtain ⟨a,b,H⟩:=bnd H
 refine Vv (V.addS z z b)<|To (O.stF (vs:=[.int .i64 a]) shrule2_3 z z (j:=0) z z z z<|Ni ?_)
 obtain rfl:=Option.some.inj H
 exact T.end0 Tryz.results283 Lr ⟨z,z⟩
theorem view_faults_ok {h:PH} {pv0:Value} {v1:ruleview} (pr0:Pt Vruleview h pv0 v1) {i2:Int} {r_0:Int} (H:view_faults v1 i2 = some r_0):∀ L,FnS Tryz.prog 199 [pv0,.int .i64 i2] h (L) (fun v h' L'=>v = .int .i64 r_0∧L' = L):=by
 intro L
 refine FnS.enter Tryz.func199 rfl Tryz.ntmps199 rfl<|Sr<|Ag z<|Nt<|Sr<|To (O.alloc zerule2_3 rfl rfl fun c=>To (O.stF (vs:=[.int .i64 (0:Int)]) shrule2_3 rfl rfl (j:=0) rfl rfl rfl rfl<|Nt<|Sq<|T.drawF (t:=(.v 0 (.v 1 (.v 2 (.v 3 (.v 4 (.v 5 (.v 6 (.v 7 (.v 8 (.v 9 (.v 10 (.v 11 (.v 12 (.v 13 (.v 14 (.v 15 (.v 16 (.v 17 (.v 18 (.v 19 (.v 20 (.v 21 (.v 22 (.v 23 (.v 24 (.v 25 (.v 26 (.v 27 (.v 28 (.v 29 (.v 30 (.v 31 (.v 32 (.v 33 (.alt 34 .done .no)))))))))))))))))))))))))))))))))))) 34 1 0 rfl rfl rule2mixed (by kernel_rfl) ?_))
 refine Tm z z<|have K:=pr0; ?_
 obtain ⟨aE,_,rfl,d,⟨aG,g,i,rfl,M,N,P⟩⟩:=K
 refine Tv z (V.nck z)<|Tv z (V.fa fdrule2_207_0 z)<|Tv z (V.ldf (k:=0) shrule2_67 z d z)<|have S:=M; ?_
 obtain ⟨m,_,rfl,f,⟨n,o,p,q,r,s,u,w,x,y,A,B,C,D,rfl,U,W,X,Y,b,E,Z,aa,ab,ac,ad,ae,af,ag⟩⟩:=S
 refine Tv z (V.nck z)<|Tv z (V.fa fdrule2_111_1 z)<|Tv z (V.ldf (k:=5) shrule2_104 z f z)<|Tm z z<|Tv z (V.nck z)<|Tv z (V.fa fdrule2_207_0 z)<|Tv z (V.ldf (k:=0) shrule2_67 z d z)<|Tv z (V.nck z)<|Tv z (V.fa fdrule2_111_0 z)<|Tv z (V.fa fdrule2_103_4 z)<|Tv z (V.ldf (k:=4) shrule2_26 z f z)<|Tm z z ?_
 obtain ⟨aI,G,H⟩:=bnd H
 obtain ⟨aJ,ai,rfl⟩:=Slc.at b G
 refine Tv z (V.ix elrule2_26 z z b (getI_bd G))<|Tv z (V.fa fdrule2_39_0 z)<|Tv z (V.ldf (k:=0) shrule2_37 z ai z) ?_
 obtain ⟨⟨aK,aM⟩,aj,H⟩:=bnd H
 obtain ⟨_,ak,rfl⟩:=Mp.look (zc:=[.string (⟨#[]⟩:ByteArray),.int .u8 (0:Int),.bool false,.int .u8 (0:Int),.bool false,.int .i64 (0:Int),.bool false,(fnV (0:Nat))]) (agg:=true) Tryz.underlying104 (KeyOK.int Tryz.underlying37) zerule2_210 (show Vrulekind h [.string (⟨#[]⟩:ByteArray),.int .u8 (0:Int),.bool false,.int .u8 (0:Int),.bool false,.int .i64 (0:Int),.bool false,(fnV (0:Nat))] (rulekind.mk (⟨#[]⟩:ByteArray) (0:Int) false (0:Int) false (0:Int) false (0:Nat)) from rfl) E aj
 refine Tv z (V.lkF1 z z ak)<|Tv z (V.fld flrule2_210_7 shrule2_208 z z)<|Tm z z<|Tm z z<|Tv z (V.nck z)<|Tv z (V.fa fdrule2_207_0 z)<|Tv z (V.ldf (k:=0) shrule2_67 z d z)<|Tv z (V.nck z)<|Tv z (V.fa fdrule2_111_0 z)<|Tv z (V.fa fdrule2_103_4 z)<|Tv z (V.ldf (k:=4) shrule2_26 z f z)<|Tm z z ?_
 obtain ⟨a,I,H⟩:=bnd H
 obtain ⟨aN,am,rfl⟩:=Slc.at b I
 refine Tv z (V.ix elrule2_26 rfl rfl b (getI_bd I))<|Tv z (V.ldS rfl am (by exact shrule2_39)) ?_
 refine Tv z (V.mkf z z) ?_
 obtain ⟨an,ao,H⟩:=bnd H
 obtain ⟨aO,aP,aS,ap,aq⟩:=rule_find_call (Pt.mk d (show Vruleview h [.pointer (some m),g,i] v1 from ⟨(.pointer (some m)),g,i,rfl,(Pt.mk f (show VruleJudge h [n,o,p,q,r,s,u,w,x,y,A,B,C,D] v1.fJudge from ⟨n,o,p,q,r,s,u,w,x,y,A,B,C,D,rfl,U,W,X,Y,b,E,Z,aa,ab,ac,ad,ae,af,ag⟩)),N,P⟩)) (show VapiRule h [.int .u8 a.fKind,.int .i64 a.fWeight,.string a.fA,.string a.fB,.string a.fTable,.int .i64 a.fN] a from rfl) (show CY211 (fun x_ _ La_=>La_ = [blk c (.cells [.int .i64 x_].toArray 3)]) h (.func (.func 283) #[] #[.pointer (some ⟨c,0,none⟩)]) (fun s_ ar au=>view_faults_1 ar au s_) from ⟨⟨rfl,rfl⟩,fun _ _ _ _ _ e=>e,fun aU aV=>fun aw=>fun ax ay aA aB=>by subst ax; exact Yld.one (us:=[]) (cs:=[.pointer (some ⟨c,0,none⟩)]) (view_faults_1_ok aw ay) aA aB⟩) rfl ao
 refine Tp z z (SX.two (XA.fr [] Lr z) (XA.fr [0] Lr z)) (O.callfW z ap z (aq ([]:List HProp) _) z fun aW aX aY J aC=>?_) T.tno
 obtain ⟨aZ,rfl,aD,rfl⟩:=aC
 refine Sl_ _ aD<|T.tnil (SX.one (XA.fr [] J z) z)<|Th<|Sq<|T.norm [5] z<|Sl_ (blk c (.cells [.int .i64 an].toArray 3)::L) z<|Rg<|Vv (V.ldO0 shrule2_3 z (j:=0) z z)<|Ag z<|Nt<|T.ret<|T.drop ?_
 obtain rfl:=Option.some.inj H
 exact T.retL Tryz.results199 (Rv z) J ⟨z,z⟩
theorem view_least_ok {h:PH} {pv0:Value} {v1:ruleview} (pr0:Pt Vruleview h pv0 v1) {i2:Int} {r_0:Int} (H:view_least v1 i2 = some r_0):∀ L,FnS Tryz.prog 197 [pv0,.int .i64 i2] h (L) (fun v h' L'=>v = .int .i64 r_0∧L' = L):=by
 intro L
 refine FnS.enter Tryz.func197 z Tryz.ntmps197 z<|Sr<|Ag z<|Nt<|Sr<|Mv z<|Mv z ?_
 obtain ⟨ag,w,H⟩:=bnd H
 refine To (O.callS z (view_faults_ok pr0 w _) z fun ai aj ak i x=>?_)
 obtain ⟨rfl,y⟩:=x
 refine Sl_ _ y<|Ag z<|Nt<|Sr<|Ag z<|Ag z<|Nt<|Sq<|Sr<|Mv z<|have A:=Pt.mono Vruleview.mono pr0 i; have B:=A; ?_
 obtain ⟨am,_,rfl,e,⟨an,ao,ap,rfl,j,m,aq⟩⟩:=B
 refine Vv (V.nck z)<|Vv (V.fa fdrule2_207_1 z)<|Vv (V.ldf (k:=1) shrule2_25 z e z)<|Vv (V.lenS elrule2_25 z m)<|Mv z<|Nt ?_
 obtain ⟨n,C,D⟩:=bndK H
 refine T.cutK (α:=Unit) [0,1,5] z (fun _u=>[]) (fun _u=>L) (fun _u hh=>n = ()) ?_ ?_
 ·have H:=C
  refine Bl<|T.loopK (α:=Nat×Int×Int) [0,1,5,16,17] z (fun ⟨b,c,a⟩=>[(18,.int .i64 c),(6,.int .i64 a)]) (fun ⟨b,c,a⟩=>L) (fun ⟨b,c,a⟩ hh=>iter (view_least_l0 v1) b (c,a) = some n) (fun ⟨b,c,a⟩=>b) (FUEL,(0:Int),(0:Int)) ⟨z,z,trivial⟩ z H ?_
  rintro ⟨b,c,a⟩ ar d E
  obtain ⟨o,au,rfl,H,f⟩:=iter_go E
  refine T.norm [18,6,0,1,5,16,17] z<|Sl_ (L) z<|Sr<|Vv (V.lt z z)<|Nt<|Sq<|T.cH H z (fun H=>?_) (fun H=>?_)
  ·refine T.skip<|Th<|Sq<|Bl<|Sr<|Mv z ?_
   obtain ⟨aw,p,H⟩:=bnd H
   have q:=Slc.mono VI.mono m d
   obtain ⟨ax,G,rfl⟩:=Slc.at q p
   refine Vv (V.ix elrule2_25 z z q (getI_bd p))<|Vv (V.ld0 shrule2_3 z G z)<|Ag z<|Ag z<|Nt<|Sr<|Mv z<|Vv (V.lt z z)<|Nt<|T.cH H z (fun H=>?_) (fun H=>?_)
   ·refine Sr<|Mv z ?_
    obtain ⟨I,J,H⟩:=bnd H
    refine Vv (V.addS z z J)<|Ag z<|Nt<|Sr<|Mv z<|Vv (V.nck z)<|Vv (V.fa fdrule2_207_0 z)<|have K:=e.mono d; Vv (V.ldf (k:=0) shrule2_67 z K z)<|have M:=Pt.mono VruleJudge.mono j d; have N:=M; ?_
    obtain ⟨ay,_,rfl,P,⟨aA,aB,aC,aD,aE,aG,aI,aJ,aK,aM,aN,aO,aP,aS,rfl,aU,r,aV,aW,aX,aY,aZ,a0,a1,a2,a3,a4,a5,a6⟩⟩:=N
    refine Vv (V.nck z)<|Vv (V.fa fdrule2_111_0 z)<|Vv (V.fa fdrule2_103_1 z)<|Vv (V.ldf (k:=1) shrule2_23 z P z)<|Mv z ?_
    obtain ⟨a7,s,H⟩:=bnd H
    obtain ⟨a8,S,⟨a9,rfl,ah⟩⟩:=Slc.at r s
    refine Vv (V.ix elrule2_23 z z r (getI_bd s))<|Vv (V.fa fdrule2_35_6 z)<|Vv (V.ldf (k:=6) shrule2_4 z S z)<|Nt<|T.cH H z (fun H=>?_) (fun H=>?_)
    ·exact dead H
    refine T.skip<|Bn<|Th<|Rg ?_
    obtain ⟨U,W,H⟩:=bnd H
    refine Vv (V.addS z z W)<|Mv z<|Nt<|T.again (o,U,I) d (Nat.lt_succ_self _) (iterK_in H f) (AllIn.app ⟨z,z,trivial⟩ ⟨z,z,z,z,z,trivial⟩) z
   refine T.skip<|Bn<|Th<|Rg ?_
   obtain ⟨X,Y,H⟩:=bnd H
   refine Vv (V.addS z z Y)<|Mv z<|Nt<|T.again (o,X,a) d (Nat.lt_succ_self _) (iterK_in H f) (AllIn.app ⟨z,z,trivial⟩ ⟨z,z,z,z,z,trivial⟩) z
  refine T.exit<|Te<|Te<|have H:=iterK_out H f; Be<|Th<|T.met () d H (AllIn.app trivial ⟨z,z,z,trivial⟩) z
 rintro _ al g Z
 have H:=cutE Z D
 refine T.norm [0,1,5] z<|Sl_ (L) z<|Sq<|Sr<|Mv z<|Vv (V.nck z)<|Vv (V.fa fdrule2_207_0 z)<|have aa:=e.mono g; Vv (V.ldf (k:=0) shrule2_67 z aa z)<|have ab:=Pt.mono VruleJudge.mono j g; have ac:=ab; ?_
 obtain ⟨av,_,rfl,ad,⟨az,ba,bb,bc,bd,be,bf,bg,bi,bj,bk,bm,bn,bo,rfl,bp,bq,br,bs,t,bt,bu,bw,bx,bA,bB,bC,bD,bE⟩⟩:=ac
 refine Vv (V.nck z)<|Vv (V.fa fdrule2_111_0 z)<|Vv (V.fa fdrule2_103_4 z)<|Vv (V.ldf (k:=4) shrule2_26 z ad z)<|Mv z ?_
 obtain ⟨bG,u,H⟩:=bnd H
 obtain ⟨bI,ae,rfl⟩:=Slc.at t u
 refine Vv (V.ix elrule2_26 z z t (getI_bd u))<|Vv (V.fa fdrule2_39_0 z)<|Vv (V.ldf (k:=0) shrule2_37 z ae z)<|Nt<|Bl<|Sr<|Vv (V.eq z z)<|Ag z<|Nt<|T.cH H z (fun H=>?_) (fun H=>?_)
 ·exact dead H
 refine Sr<|Vv (V.eq z z)<|Ag z<|Nt<|T.cH H z (fun H=>?_) (fun H=>?_)
 ·exact dead H
 refine Sr<|Vv (V.eq z z)<|Ag z<|Nt<|T.cH H z (fun H=>?_) (fun H=>?_)
 ·exact dead H
 refine T.skip<|Bn<|Th<|Sr<|Mv z<|Vv (V.max2 z z)<|Ag z<|Nt<|T.ret ?_
 obtain rfl:=Option.some.inj H
 have af:=(i.trans g)
 exact T.retL Tryz.results197 (Rv z) af ⟨z,z⟩
theorem rule_kinds_ok {h:PH}  {r_0:List (Int×rulekind)} (H:rule_kinds  = some r_0):∀ L,FnS Tryz.prog 73 [] h (L) (fun v h' L'=>L' = L∧Mp (Value.int .u8) true Vrulekind h' v r_0):=by
 intro L
 refine FnS.enter Tryz.func73 z Tryz.ntmps73 z<|Sr<|Ag z<|Nt<|Sr<|To (O.mkM z fun ab=>have w:MapG (Value.int .u8) true Vrulekind h 0 ([]:List MapEntry) ([]:List (Int×rulekind)):=trivial; Vv (V.bld (xs:=[(0,.const (.string ⟨#[97,112,97,114,116]⟩)),(1,.const (.int .u8 (103))),(2,.const (.bool true)),(4,.const (.bool true)),(7,.func 138)]) (cs:=[_,_,_,_,_,_,_,_]) blrule2_210 borule2_210 z (Fills.cons z z z (Fills.cons z z z (Fills.cons z z z (Fills.cons z z z (Fills.cons z z z Fills.nil)))))) ?_)
 obtain ⟨ac,x,H⟩:=bnd H
 refine To (O.updM (agg:=true) (E:=Vrulekind) (cs:=[.string (⟨#[97,112,97,114,116]⟩:ByteArray),.int .u8 (103:Int),.bool true,.int .u8 (0:Int),.bool true,.int .i64 (0:Int),.bool false,(fnV (139:Nat))]) Tryz.underlying104 (KeyOK.int Tryz.underlying37) z z z (j:=0) z w (show Vrulekind h [.string (⟨#[97,112,97,114,116]⟩:ByteArray),.int .u8 (103:Int),.bool true,.int .u8 (0:Int),.bool true,.int .i64 (0:Int),.bool false,(fnV (139:Nat))] (rulekind.mk (⟨#[97,112,97,114,116]⟩:ByteArray) (103:Int) true (0:Int) true (0:Int) false (139:Nat)) from z) _ (.inr z) fun ad a=>?_)
 rw [Option.some.inj x] at a
 refine Vv (V.bld (xs:=[(0,.const (.string ⟨#[98,101,115,105,100,101]⟩)),(1,.const (.int .u8 (103))),(2,.const (.bool true)),(7,.func 139)]) (cs:=[_,_,_,_,_,_,_,_]) blrule2_210 borule2_210 z (Fills.cons z z z (Fills.cons z z z (Fills.cons z z z (Fills.cons z z z Fills.nil))))) ?_
 obtain ⟨ae,y,H⟩:=bnd H
 refine To (O.updM (agg:=true) (E:=Vrulekind) (cs:=[.string (⟨#[98,101,115,105,100,101]⟩:ByteArray),.int .u8 (103:Int),.bool true,.int .u8 (0:Int),.bool false,.int .i64 (0:Int),.bool false,(fnV (140:Nat))]) Tryz.underlying104 (KeyOK.int Tryz.underlying37) z z z (j:=0) z a (show Vrulekind h [.string (⟨#[98,101,115,105,100,101]⟩:ByteArray),.int .u8 (103:Int),.bool true,.int .u8 (0:Int),.bool false,.int .i64 (0:Int),.bool false,(fnV (140:Nat))] (rulekind.mk (⟨#[98,101,115,105,100,101]⟩:ByteArray) (103:Int) true (0:Int) false (0:Int) false (140:Nat)) from z) _ (.inr z) fun af b=>?_)
 rw [Option.some.inj y] at b
 refine Vv (V.bld (xs:=[(0,.const (.string ⟨#[97,99,114,111,115,115]⟩)),(1,.const (.int .u8 (103))),(2,.const (.bool true)),(7,.func 140)]) (cs:=[_,_,_,_,_,_,_,_]) blrule2_210 borule2_210 z (Fills.cons z z z (Fills.cons z z z (Fills.cons z z z (Fills.cons z z z Fills.nil))))) ?_
 obtain ⟨ag,A,H⟩:=bnd H
 refine To (O.updM (agg:=true) (E:=Vrulekind) (cs:=[.string (⟨#[97,99,114,111,115,115]⟩:ByteArray),.int .u8 (103:Int),.bool true,.int .u8 (0:Int),.bool false,.int .i64 (0:Int),.bool false,(fnV (141:Nat))]) Tryz.underlying104 (KeyOK.int Tryz.underlying37) z z z (j:=0) z b (show Vrulekind h [.string (⟨#[97,99,114,111,115,115]⟩:ByteArray),.int .u8 (103:Int),.bool true,.int .u8 (0:Int),.bool false,.int .i64 (0:Int),.bool false,(fnV (141:Nat))] (rulekind.mk (⟨#[97,99,114,111,115,115]⟩:ByteArray) (103:Int) true (0:Int) false (0:Int) false (141:Nat)) from z) _ (.inr z) fun ai c=>?_)
 rw [Option.some.inj A] at c
 refine Vv (V.bld (xs:=[(0,.const (.string ⟨#[110,101,97,114]⟩)),(1,.const (.int .u8 (103))),(2,.const (.bool true)),(4,.const (.bool true)),(5,.const (.int .i64 (1))),(7,.func 141)]) (cs:=[_,_,_,_,_,_,_,_]) blrule2_210 borule2_210 z (Fills.cons z z z (Fills.cons z z z (Fills.cons z z z (Fills.cons z z z (Fills.cons z z z (Fills.cons z z z Fills.nil))))))) ?_
 obtain ⟨aj,B,H⟩:=bnd H
 refine To (O.updM (agg:=true) (E:=Vrulekind) (cs:=[.string (⟨#[110,101,97,114]⟩:ByteArray),.int .u8 (103:Int),.bool true,.int .u8 (0:Int),.bool true,.int .i64 (1:Int),.bool false,(fnV (142:Nat))]) Tryz.underlying104 (KeyOK.int Tryz.underlying37) z z z (j:=0) z c (show Vrulekind h [.string (⟨#[110,101,97,114]⟩:ByteArray),.int .u8 (103:Int),.bool true,.int .u8 (0:Int),.bool true,.int .i64 (1:Int),.bool false,(fnV (142:Nat))] (rulekind.mk (⟨#[110,101,97,114]⟩:ByteArray) (103:Int) true (0:Int) true (1:Int) false (142:Nat)) from z) _ (.inr z) fun ak d=>?_)
 rw [Option.some.inj B] at d
 refine Vv (V.bld (xs:=[(0,.const (.string ⟨#[116,111,103,101,116,104,101,114]⟩)),(1,.const (.int .u8 (103))),(2,.const (.bool true)),(7,.func 142)]) (cs:=[_,_,_,_,_,_,_,_]) blrule2_210 borule2_210 z (Fills.cons z z z (Fills.cons z z z (Fills.cons z z z (Fills.cons z z z Fills.nil))))) ?_
 obtain ⟨am,C,H⟩:=bnd H
 refine To (O.updM (agg:=true) (E:=Vrulekind) (cs:=[.string (⟨#[116,111,103,101,116,104,101,114]⟩:ByteArray),.int .u8 (103:Int),.bool true,.int .u8 (0:Int),.bool false,.int .i64 (0:Int),.bool false,(fnV (143:Nat))]) Tryz.underlying104 (KeyOK.int Tryz.underlying37) z z z (j:=0) z d (show Vrulekind h [.string (⟨#[116,111,103,101,116,104,101,114]⟩:ByteArray),.int .u8 (103:Int),.bool true,.int .u8 (0:Int),.bool false,.int .i64 (0:Int),.bool false,(fnV (143:Nat))] (rulekind.mk (⟨#[116,111,103,101,116,104,101,114]⟩:ByteArray) (103:Int) true (0:Int) false (0:Int) false (143:Nat)) from z) _ (.inr z) fun an e=>?_)
 rw [Option.some.inj C] at e
 refine Vv (V.bld (xs:=[(0,.const (.string ⟨#[97,116]⟩)),(1,.const (.int .u8 (103))),(3,.const (.int .u8 (116))),(7,.func 143)]) (cs:=[_,_,_,_,_,_,_,_]) blrule2_210 borule2_210 z (Fills.cons z z z (Fills.cons z z z (Fills.cons z z z (Fills.cons z z z Fills.nil))))) ?_
 obtain ⟨ao,D,H⟩:=bnd H
 refine To (O.updM (agg:=true) (E:=Vrulekind) (cs:=[.string (⟨#[97,116]⟩:ByteArray),.int .u8 (103:Int),.bool false,.int .u8 (116:Int),.bool false,.int .i64 (0:Int),.bool false,(fnV (144:Nat))]) Tryz.underlying104 (KeyOK.int Tryz.underlying37) z z z (j:=0) z e (show Vrulekind h [.string (⟨#[97,116]⟩:ByteArray),.int .u8 (103:Int),.bool false,.int .u8 (116:Int),.bool false,.int .i64 (0:Int),.bool false,(fnV (144:Nat))] (rulekind.mk (⟨#[97,116]⟩:ByteArray) (103:Int) false (116:Int) false (0:Int) false (144:Nat)) from z) _ (.inr z) fun ap f=>?_)
 rw [Option.some.inj D] at f
 refine Vv (V.bld (xs:=[(0,.const (.string ⟨#[115,101,97,116]⟩)),(1,.const (.int .u8 (103))),(3,.const (.int .u8 (116))),(4,.const (.bool true)),(6,.const (.bool true)),(7,.func 144)]) (cs:=[_,_,_,_,_,_,_,_]) blrule2_210 borule2_210 z (Fills.cons z z z (Fills.cons z z z (Fills.cons z z z (Fills.cons z z z (Fills.cons z z z (Fills.cons z z z Fills.nil))))))) ?_
 obtain ⟨aq,G,H⟩:=bnd H
 refine To (O.updM (agg:=true) (E:=Vrulekind) (cs:=[.string (⟨#[115,101,97,116]⟩:ByteArray),.int .u8 (103:Int),.bool false,.int .u8 (116:Int),.bool true,.int .i64 (0:Int),.bool true,(fnV (145:Nat))]) Tryz.underlying104 (KeyOK.int Tryz.underlying37) z z z (j:=0) z f (show Vrulekind h [.string (⟨#[115,101,97,116]⟩:ByteArray),.int .u8 (103:Int),.bool false,.int .u8 (116:Int),.bool true,.int .i64 (0:Int),.bool true,(fnV (145:Nat))] (rulekind.mk (⟨#[115,101,97,116]⟩:ByteArray) (103:Int) false (116:Int) true (0:Int) true (145:Nat)) from z) _ (.inr z) fun ar g=>?_)
 rw [Option.some.inj G] at g
 refine Vv (V.bld (xs:=[(0,.const (.string ⟨#[97,108,116,101,114,110,97,116,101]⟩)),(3,.const (.int .u8 (101))),(7,.func 145)]) (cs:=[_,_,_,_,_,_,_,_]) blrule2_210 borule2_210 z (Fills.cons z z z (Fills.cons z z z (Fills.cons z z z Fills.nil)))) ?_
 obtain ⟨au,I,H⟩:=bnd H
 refine To (O.updM (agg:=true) (E:=Vrulekind) (cs:=[.string (⟨#[97,108,116,101,114,110,97,116,101]⟩:ByteArray),.int .u8 (0:Int),.bool false,.int .u8 (101:Int),.bool false,.int .i64 (0:Int),.bool false,(fnV (146:Nat))]) Tryz.underlying104 (KeyOK.int Tryz.underlying37) z z z (j:=0) z g (show Vrulekind h [.string (⟨#[97,108,116,101,114,110,97,116,101]⟩:ByteArray),.int .u8 (0:Int),.bool false,.int .u8 (101:Int),.bool false,.int .i64 (0:Int),.bool false,(fnV (146:Nat))] (rulekind.mk (⟨#[97,108,116,101,114,110,97,116,101]⟩:ByteArray) (0:Int) false (101:Int) false (0:Int) false (146:Nat)) from z) _ (.inr z) fun aw i=>?_)
 rw [Option.some.inj I] at i
 refine Vv (V.bld (xs:=[(0,.const (.string ⟨#[104,111,115,116]⟩)),(3,.const (.int .u8 (101))),(7,.func 146)]) (cs:=[_,_,_,_,_,_,_,_]) blrule2_210 borule2_210 z (Fills.cons z z z (Fills.cons z z z (Fills.cons z z z Fills.nil)))) ?_
 obtain ⟨ax,J,H⟩:=bnd H
 refine To (O.updM (agg:=true) (E:=Vrulekind) (cs:=[.string (⟨#[104,111,115,116]⟩:ByteArray),.int .u8 (0:Int),.bool false,.int .u8 (101:Int),.bool false,.int .i64 (0:Int),.bool false,(fnV (147:Nat))]) Tryz.underlying104 (KeyOK.int Tryz.underlying37) z z z (j:=0) z i (show Vrulekind h [.string (⟨#[104,111,115,116]⟩:ByteArray),.int .u8 (0:Int),.bool false,.int .u8 (101:Int),.bool false,.int .i64 (0:Int),.bool false,(fnV (147:Nat))] (rulekind.mk (⟨#[104,111,115,116]⟩:ByteArray) (0:Int) false (101:Int) false (0:Int) false (147:Nat)) from z) _ (.inr z) fun ay k=>?_)
 rw [Option.some.inj J] at k
 refine Vv (V.bld (xs:=[(0,.const (.string ⟨#[114,101,97,99,104]⟩)),(1,.const (.int .u8 (101))),(7,.func 147)]) (cs:=[_,_,_,_,_,_,_,_]) blrule2_210 borule2_210 z (Fills.cons z z z (Fills.cons z z z (Fills.cons z z z Fills.nil)))) ?_
 obtain ⟨aA,K,H⟩:=bnd H
 refine To (O.updM (agg:=true) (E:=Vrulekind) (cs:=[.string (⟨#[114,101,97,99,104]⟩:ByteArray),.int .u8 (101:Int),.bool false,.int .u8 (0:Int),.bool false,.int .i64 (0:Int),.bool false,(fnV (148:Nat))]) Tryz.underlying104 (KeyOK.int Tryz.underlying37) z z z (j:=0) z k (show Vrulekind h [.string (⟨#[114,101,97,99,104]⟩:ByteArray),.int .u8 (101:Int),.bool false,.int .u8 (0:Int),.bool false,.int .i64 (0:Int),.bool false,(fnV (148:Nat))] (rulekind.mk (⟨#[114,101,97,99,104]⟩:ByteArray) (101:Int) false (0:Int) false (0:Int) false (148:Nat)) from z) _ (.inr z) fun aB m=>?_)
 rw [Option.some.inj K] at m
 refine Vv (V.bld (xs:=[(0,.const (.string ⟨#[115,112,101,97,107]⟩)),(3,.const (.int .u8 (101))),(7,.func 148)]) (cs:=[_,_,_,_,_,_,_,_]) blrule2_210 borule2_210 z (Fills.cons z z z (Fills.cons z z z (Fills.cons z z z Fills.nil)))) ?_
 obtain ⟨aC,M,H⟩:=bnd H
 refine To (O.updM (agg:=true) (E:=Vrulekind) (cs:=[.string (⟨#[115,112,101,97,107]⟩:ByteArray),.int .u8 (0:Int),.bool false,.int .u8 (101:Int),.bool false,.int .i64 (0:Int),.bool false,(fnV (149:Nat))]) Tryz.underlying104 (KeyOK.int Tryz.underlying37) z z z (j:=0) z m (show Vrulekind h [.string (⟨#[115,112,101,97,107]⟩:ByteArray),.int .u8 (0:Int),.bool false,.int .u8 (101:Int),.bool false,.int .i64 (0:Int),.bool false,(fnV (149:Nat))] (rulekind.mk (⟨#[115,112,101,97,107]⟩:ByteArray) (0:Int) false (101:Int) false (0:Int) false (149:Nat)) from z) _ (.inr z) fun aD n=>?_)
 rw [Option.some.inj M] at n
 refine Vv (V.bld (xs:=[(0,.const (.string ⟨#[112,101,97,99,101]⟩)),(3,.const (.int .u8 (101))),(7,.func 149)]) (cs:=[_,_,_,_,_,_,_,_]) blrule2_210 borule2_210 z (Fills.cons z z z (Fills.cons z z z (Fills.cons z z z Fills.nil)))) ?_
 obtain ⟨aE,N,H⟩:=bnd H
 refine To (O.updM (agg:=true) (E:=Vrulekind) (cs:=[.string (⟨#[112,101,97,99,101]⟩:ByteArray),.int .u8 (0:Int),.bool false,.int .u8 (101:Int),.bool false,.int .i64 (0:Int),.bool false,(fnV (150:Nat))]) Tryz.underlying104 (KeyOK.int Tryz.underlying37) z z z (j:=0) z n (show Vrulekind h [.string (⟨#[112,101,97,99,101]⟩:ByteArray),.int .u8 (0:Int),.bool false,.int .u8 (101:Int),.bool false,.int .i64 (0:Int),.bool false,(fnV (150:Nat))] (rulekind.mk (⟨#[112,101,97,99,101]⟩:ByteArray) (0:Int) false (101:Int) false (0:Int) false (150:Nat)) from z) _ (.inr z) fun aG o=>?_)
 rw [Option.some.inj N] at o
 refine Vv (V.bld (xs:=[(0,.const (.string ⟨#[99,111,109,112,97,110,121]⟩)),(3,.const (.int .u8 (101))),(7,.func 150)]) (cs:=[_,_,_,_,_,_,_,_]) blrule2_210 borule2_210 z (Fills.cons z z z (Fills.cons z z z (Fills.cons z z z Fills.nil)))) ?_
 obtain ⟨aI,P,H⟩:=bnd H
 refine To (O.updM (agg:=true) (E:=Vrulekind) (cs:=[.string (⟨#[99,111,109,112,97,110,121]⟩:ByteArray),.int .u8 (0:Int),.bool false,.int .u8 (101:Int),.bool false,.int .i64 (0:Int),.bool false,(fnV (151:Nat))]) Tryz.underlying104 (KeyOK.int Tryz.underlying37) z z z (j:=0) z o (show Vrulekind h [.string (⟨#[99,111,109,112,97,110,121]⟩:ByteArray),.int .u8 (0:Int),.bool false,.int .u8 (101:Int),.bool false,.int .i64 (0:Int),.bool false,(fnV (151:Nat))] (rulekind.mk (⟨#[99,111,109,112,97,110,121]⟩:ByteArray) (0:Int) false (101:Int) false (0:Int) false (151:Nat)) from z) _ (.inr z) fun aJ p=>?_)
 rw [Option.some.inj P] at p
 refine Vv (V.bld (xs:=[(0,.const (.string ⟨#[104,111,110,111,117,114]⟩)),(3,.const (.int .u8 (101))),(7,.func 151)]) (cs:=[_,_,_,_,_,_,_,_]) blrule2_210 borule2_210 z (Fills.cons z z z (Fills.cons z z z (Fills.cons z z z Fills.nil)))) ?_
 obtain ⟨aK,S,H⟩:=bnd H
 refine To (O.updM (agg:=true) (E:=Vrulekind) (cs:=[.string (⟨#[104,111,110,111,117,114]⟩:ByteArray),.int .u8 (0:Int),.bool false,.int .u8 (101:Int),.bool false,.int .i64 (0:Int),.bool false,(fnV (152:Nat))]) Tryz.underlying104 (KeyOK.int Tryz.underlying37) z z z (j:=0) z p (show Vrulekind h [.string (⟨#[104,111,110,111,117,114]⟩:ByteArray),.int .u8 (0:Int),.bool false,.int .u8 (101:Int),.bool false,.int .i64 (0:Int),.bool false,(fnV (152:Nat))] (rulekind.mk (⟨#[104,111,110,111,117,114]⟩:ByteArray) (0:Int) false (101:Int) false (0:Int) false (152:Nat)) from z) _ (.inr z) fun aM q=>?_)
 rw [Option.some.inj S] at q
 refine Vv (V.bld (xs:=[(0,.const (.string ⟨#[102,105,108,108]⟩)),(3,.const (.int .u8 (101))),(4,.const (.bool true)),(7,.func 152)]) (cs:=[_,_,_,_,_,_,_,_]) blrule2_210 borule2_210 z (Fills.cons z z z (Fills.cons z z z (Fills.cons z z z (Fills.cons z z z Fills.nil))))) ?_
 obtain ⟨aN,U,H⟩:=bnd H
 refine To (O.updM (agg:=true) (E:=Vrulekind) (cs:=[.string (⟨#[102,105,108,108]⟩:ByteArray),.int .u8 (0:Int),.bool false,.int .u8 (101:Int),.bool true,.int .i64 (0:Int),.bool false,(fnV (153:Nat))]) Tryz.underlying104 (KeyOK.int Tryz.underlying37) z z z (j:=0) z q (show Vrulekind h [.string (⟨#[102,105,108,108]⟩:ByteArray),.int .u8 (0:Int),.bool false,.int .u8 (101:Int),.bool true,.int .i64 (0:Int),.bool false,(fnV (153:Nat))] (rulekind.mk (⟨#[102,105,108,108]⟩:ByteArray) (0:Int) false (101:Int) true (0:Int) false (153:Nat)) from z) _ (.inr z) fun aO r=>?_)
 rw [Option.some.inj U] at r
 refine Vv (V.bld (xs:=[(0,.const (.string ⟨#[108,105,109,105,116]⟩)),(3,.const (.int .u8 (101))),(4,.const (.bool true)),(7,.func 153)]) (cs:=[_,_,_,_,_,_,_,_]) blrule2_210 borule2_210 z (Fills.cons z z z (Fills.cons z z z (Fills.cons z z z (Fills.cons z z z Fills.nil))))) ?_
 obtain ⟨aP,W,H⟩:=bnd H
 refine To (O.updM (agg:=true) (E:=Vrulekind) (cs:=[.string (⟨#[108,105,109,105,116]⟩:ByteArray),.int .u8 (0:Int),.bool false,.int .u8 (101:Int),.bool true,.int .i64 (0:Int),.bool false,(fnV (154:Nat))]) Tryz.underlying104 (KeyOK.int Tryz.underlying37) z z z (j:=0) z r (show Vrulekind h [.string (⟨#[108,105,109,105,116]⟩:ByteArray),.int .u8 (0:Int),.bool false,.int .u8 (101:Int),.bool true,.int .i64 (0:Int),.bool false,(fnV (154:Nat))] (rulekind.mk (⟨#[108,105,109,105,116]⟩:ByteArray) (0:Int) false (101:Int) true (0:Int) false (154:Nat)) from z) _ (.inr z) fun aS s=>?_)
 rw [Option.some.inj W] at s
 refine Vv (V.bld (xs:=[(0,.const (.string ⟨#[107,105,116,99,104,101,110]⟩)),(1,.const (.int .u8 (100))),(3,.const (.int .u8 (116))),(7,.func 154)]) (cs:=[_,_,_,_,_,_,_,_]) blrule2_210 borule2_210 z (Fills.cons z z z (Fills.cons z z z (Fills.cons z z z (Fills.cons z z z Fills.nil))))) ?_
 obtain ⟨aU,X,H⟩:=bnd H
 refine To (O.updM (agg:=true) (E:=Vrulekind) (cs:=[.string (⟨#[107,105,116,99,104,101,110]⟩:ByteArray),.int .u8 (100:Int),.bool false,.int .u8 (116:Int),.bool false,.int .i64 (0:Int),.bool false,(fnV (155:Nat))]) Tryz.underlying104 (KeyOK.int Tryz.underlying37) z z z (j:=0) z s (show Vrulekind h [.string (⟨#[107,105,116,99,104,101,110]⟩:ByteArray),.int .u8 (100:Int),.bool false,.int .u8 (116:Int),.bool false,.int .i64 (0:Int),.bool false,(fnV (155:Nat))] (rulekind.mk (⟨#[107,105,116,99,104,101,110]⟩:ByteArray) (100:Int) false (116:Int) false (0:Int) false (155:Nat)) from z) _ (.inr z) fun aV t=>?_)
 rw [Option.some.inj X] at t
 refine Vv (V.bld (xs:=[(0,.const (.string ⟨#[109,105,120]⟩)),(3,.const (.int .u8 (101))),(7,.func 155)]) (cs:=[_,_,_,_,_,_,_,_]) blrule2_210 borule2_210 z (Fills.cons z z z (Fills.cons z z z (Fills.cons z z z Fills.nil)))) ?_
 obtain ⟨aW,Y,H⟩:=bnd H
 refine To (O.updM (agg:=true) (E:=Vrulekind) (cs:=[.string (⟨#[109,105,120]⟩:ByteArray),.int .u8 (0:Int),.bool false,.int .u8 (101:Int),.bool false,.int .i64 (0:Int),.bool false,(fnV (156:Nat))]) Tryz.underlying104 (KeyOK.int Tryz.underlying37) z z z (j:=0) z t (show Vrulekind h [.string (⟨#[109,105,120]⟩:ByteArray),.int .u8 (0:Int),.bool false,.int .u8 (101:Int),.bool false,.int .i64 (0:Int),.bool false,(fnV (156:Nat))] (rulekind.mk (⟨#[109,105,120]⟩:ByteArray) (0:Int) false (101:Int) false (0:Int) false (156:Nat)) from z) _ (.inr z) fun aX u=>?_)
 rw [Option.some.inj Y] at u
 refine Mv z<|Ag z<|Nt<|T.ret<|T.mapFix Vrulekind.mono u fun aY Z aa=>?_
 obtain rfl:=Option.some.inj H
 exact T.retL Tryz.results73 (Rv z) Z ⟨z,aa⟩
theorem kind_plain_ok {h:PH} {pc0:List Value} {k1:rulekind} (pr0:Vrulekind h pc0 k1) {pc1:List Value} {r2:apiRule} (pr1:VapiRule h pc1 r2) {r_0:Bool} (H:kind_plain k1 r2 = some r_0):∀ L,FnS Tryz.prog 228 [.agg pc0.toArray,.agg pc1.toArray] h (L) (fun v h' L'=>v = .bool r_0∧L' = L):=by
 intro L
 obtain rfl:=pr0
 obtain rfl:=pr1
 refine FnS.enter Tryz.func228 z Tryz.ntmps228 z<|Sr<|To (O.boxF z z z fun A B b e=>To (O.boxF z z z fun C D a c=>Ag z<|Nt<|Sr<|Vv (V.fa fdrule2_210_1 z)<|have d:=e.mono a; Vv (V.ldf (k:=1) shrule2_5 z d z)<|Vv (V.ne z z)<|Mv z<|T.bH 8 H z (fun H=>?_) (fun H=>?_)))
 ·refine Sk<|Sk<|Sk<|Vv (V.pkT z z)<|Mv z<|Vv (V.fa fdrule2_210_2 z)<|Vv (V.ldf (k:=2) shrule2_4 z d z)<|Mv z<|T.bH 16 H z (fun H=>?_) (fun H=>?_)
  ·refine Sk<|Sk<|Sk<|Vv (V.pkT z z)<|Vv (V.pkT z z)<|Mv z<|Vv (V.fa fdrule2_210_3 z)<|Vv (V.ldf (k:=3) shrule2_5 z d z)<|Vv (V.ne z z)<|Mv z<|T.bH 26 H z (fun H=>?_) (fun H=>?_)
   ·refine Sk<|Sk<|Sk<|Vv (V.pkT z z)<|Vv (V.pkT z z)<|Mv z<|Vv (V.fa fdrule2_210_4 z)<|Vv (V.ldf (k:=4) shrule2_4 z d z)<|Mv z<|T.bH 35 H z (fun H=>?_) (fun H=>?_)
    ·refine Sk<|Sk<|Sk<|Vv (V.pkT z z)<|Vv (V.pkT z z)<|Ag z<|Nt<|T.ret ?_
     obtain rfl:=Option.some.inj H
     have f:=(b.trans a)
     exact T.retL Tryz.results228 (Rv z) f ⟨z,z⟩
    refine Vv (V.fa fdrule2_39_5 z)<|Vv (V.ldf (k:=5) shrule2_3 z c z)<|Vv (V.eq z z)<|Vv (V.pkF z z)<|Vv (V.pkT z z)<|Ag z<|Nt<|T.ret ?_
    obtain rfl:=Option.some.inj H
    have g:=(b.trans a)
    exact T.retL Tryz.results228 (Rv z) g ⟨z,z⟩
   refine Vv (V.fa fdrule2_39_4 z)<|Vv (V.ldf (k:=4) shrule2_9 z c z)<|Vv (V.seq z z)<|Vv (V.pkF z z)<|Vv (V.pkT z z)<|Mv z<|T.bH 32 H z (fun H=>?_) (fun H=>?_)
   ·refine Vv (V.fa fdrule2_210_4 z)<|Vv (V.ldf (k:=4) shrule2_4 z d z)<|Mv z<|T.bH 35 H z (fun H=>?_) (fun H=>?_)
    ·refine Sk<|Sk<|Sk<|Vv (V.pkT z z)<|Vv (V.pkT z z)<|Ag z<|Nt<|T.ret ?_
     obtain rfl:=Option.some.inj H
     have i:=(b.trans a)
     exact T.retL Tryz.results228 (Rv z) i ⟨z,z⟩
    refine Vv (V.fa fdrule2_39_5 z)<|Vv (V.ldf (k:=5) shrule2_3 z c z)<|Vv (V.eq z z)<|Vv (V.pkF z z)<|Vv (V.pkT z z)<|Ag z<|Nt<|T.ret ?_
    obtain rfl:=Option.some.inj H
    have j:=(b.trans a)
    exact T.retL Tryz.results228 (Rv z) j ⟨z,z⟩
   exact dead H
  refine Vv (V.fa fdrule2_39_3 z)<|Vv (V.ldf (k:=3) shrule2_9 z c z)<|Vv (V.seq z z)<|Vv (V.pkF z z)<|Vv (V.pkT z z)<|Mv z<|T.bH 22 H z (fun H=>?_) (fun H=>?_)
  ·refine Vv (V.fa fdrule2_210_3 z)<|Vv (V.ldf (k:=3) shrule2_5 z d z)<|Vv (V.ne z z)<|Mv z<|T.bH 26 H z (fun H=>?_) (fun H=>?_)
   ·refine Sk<|Sk<|Sk<|Vv (V.pkT z z)<|Vv (V.pkT z z)<|Mv z<|Vv (V.fa fdrule2_210_4 z)<|Vv (V.ldf (k:=4) shrule2_4 z d z)<|Mv z<|T.bH 35 H z (fun H=>?_) (fun H=>?_)
    ·refine Sk<|Sk<|Sk<|Vv (V.pkT z z)<|Vv (V.pkT z z)<|Ag z<|Nt<|T.ret ?_
     obtain rfl:=Option.some.inj H
     have m:=(b.trans a)
     exact T.retL Tryz.results228 (Rv z) m ⟨z,z⟩
    refine Vv (V.fa fdrule2_39_5 z)<|Vv (V.ldf (k:=5) shrule2_3 z c z)<|Vv (V.eq z z)<|Vv (V.pkF z z)<|Vv (V.pkT z z)<|Ag z<|Nt<|T.ret ?_
    obtain rfl:=Option.some.inj H
    have n:=(b.trans a)
    exact T.retL Tryz.results228 (Rv z) n ⟨z,z⟩
   refine Vv (V.fa fdrule2_39_4 z)<|Vv (V.ldf (k:=4) shrule2_9 z c z)<|Vv (V.seq z z)<|Vv (V.pkF z z)<|Vv (V.pkT z z)<|Mv z<|T.bH 32 H z (fun H=>?_) (fun H=>?_)
   ·refine Vv (V.fa fdrule2_210_4 z)<|Vv (V.ldf (k:=4) shrule2_4 z d z)<|Mv z<|T.bH 35 H z (fun H=>?_) (fun H=>?_)
    ·refine Sk<|Sk<|Sk<|Vv (V.pkT z z)<|Vv (V.pkT z z)<|Ag z<|Nt<|T.ret ?_
     obtain rfl:=Option.some.inj H
     have o:=(b.trans a)
     exact T.retL Tryz.results228 (Rv z) o ⟨z,z⟩
    refine Vv (V.fa fdrule2_39_5 z)<|Vv (V.ldf (k:=5) shrule2_3 z c z)<|Vv (V.eq z z)<|Vv (V.pkF z z)<|Vv (V.pkT z z)<|Ag z<|Nt<|T.ret ?_
    obtain rfl:=Option.some.inj H
    have p:=(b.trans a)
    exact T.retL Tryz.results228 (Rv z) p ⟨z,z⟩
   exact dead H
  exact dead H
 refine Vv (V.fa fdrule2_39_2 z)<|Vv (V.ldf (k:=2) shrule2_9 z c z)<|Vv (V.seq z z)<|Vv (V.pkF z z)<|Mv z<|T.bH 13 H z (fun H=>?_) (fun H=>?_)
 ·refine Vv (V.fa fdrule2_210_2 z)<|Vv (V.ldf (k:=2) shrule2_4 z d z)<|Mv z<|T.bH 16 H z (fun H=>?_) (fun H=>?_)
  ·refine Sk<|Sk<|Sk<|Vv (V.pkT z z)<|Vv (V.pkT z z)<|Mv z<|Vv (V.fa fdrule2_210_3 z)<|Vv (V.ldf (k:=3) shrule2_5 z d z)<|Vv (V.ne z z)<|Mv z<|T.bH 26 H z (fun H=>?_) (fun H=>?_)
   ·refine Sk<|Sk<|Sk<|Vv (V.pkT z z)<|Vv (V.pkT z z)<|Mv z<|Vv (V.fa fdrule2_210_4 z)<|Vv (V.ldf (k:=4) shrule2_4 z d z)<|Mv z<|T.bH 35 H z (fun H=>?_) (fun H=>?_)
    ·refine Sk<|Sk<|Sk<|Vv (V.pkT z z)<|Vv (V.pkT z z)<|Ag z<|Nt<|T.ret ?_
     obtain rfl:=Option.some.inj H
     have q:=(b.trans a)
     exact T.retL Tryz.results228 (Rv z) q ⟨z,z⟩
    refine Vv (V.fa fdrule2_39_5 z)<|Vv (V.ldf (k:=5) shrule2_3 z c z)<|Vv (V.eq z z)<|Vv (V.pkF z z)<|Vv (V.pkT z z)<|Ag z<|Nt<|T.ret ?_
    obtain rfl:=Option.some.inj H
    have r:=(b.trans a)
    exact T.retL Tryz.results228 (Rv z) r ⟨z,z⟩
   refine Vv (V.fa fdrule2_39_4 z)<|Vv (V.ldf (k:=4) shrule2_9 z c z)<|Vv (V.seq z z)<|Vv (V.pkF z z)<|Vv (V.pkT z z)<|Mv z<|T.bH 32 H z (fun H=>?_) (fun H=>?_)
   ·refine Vv (V.fa fdrule2_210_4 z)<|Vv (V.ldf (k:=4) shrule2_4 z d z)<|Mv z<|T.bH 35 H z (fun H=>?_) (fun H=>?_)
    ·refine Sk<|Sk<|Sk<|Vv (V.pkT z z)<|Vv (V.pkT z z)<|Ag z<|Nt<|T.ret ?_
     obtain rfl:=Option.some.inj H
     have s:=(b.trans a)
     exact T.retL Tryz.results228 (Rv z) s ⟨z,z⟩
    refine Vv (V.fa fdrule2_39_5 z)<|Vv (V.ldf (k:=5) shrule2_3 z c z)<|Vv (V.eq z z)<|Vv (V.pkF z z)<|Vv (V.pkT z z)<|Ag z<|Nt<|T.ret ?_
    obtain rfl:=Option.some.inj H
    have t:=(b.trans a)
    exact T.retL Tryz.results228 (Rv z) t ⟨z,z⟩
   exact dead H
  refine Vv (V.fa fdrule2_39_3 z)<|Vv (V.ldf (k:=3) shrule2_9 z c z)<|Vv (V.seq z z)<|Vv (V.pkF z z)<|Vv (V.pkT z z)<|Mv z<|T.bH 22 H z (fun H=>?_) (fun H=>?_)
  ·refine Vv (V.fa fdrule2_210_3 z)<|Vv (V.ldf (k:=3) shrule2_5 z d z)<|Vv (V.ne z z)<|Mv z<|T.bH 26 H z (fun H=>?_) (fun H=>?_)
   ·refine Sk<|Sk<|Sk<|Vv (V.pkT z z)<|Vv (V.pkT z z)<|Mv z<|Vv (V.fa fdrule2_210_4 z)<|Vv (V.ldf (k:=4) shrule2_4 z d z)<|Mv z<|T.bH 35 H z (fun H=>?_) (fun H=>?_)
    ·refine Sk<|Sk<|Sk<|Vv (V.pkT z z)<|Vv (V.pkT z z)<|Ag z<|Nt<|T.ret ?_
     obtain rfl:=Option.some.inj H
     have u:=(b.trans a)
     exact T.retL Tryz.results228 (Rv z) u ⟨z,z⟩
    refine Vv (V.fa fdrule2_39_5 z)<|Vv (V.ldf (k:=5) shrule2_3 z c z)<|Vv (V.eq z z)<|Vv (V.pkF z z)<|Vv (V.pkT z z)<|Ag z<|Nt<|T.ret ?_
    obtain rfl:=Option.some.inj H
    have w:=(b.trans a)
    exact T.retL Tryz.results228 (Rv z) w ⟨z,z⟩
   refine Vv (V.fa fdrule2_39_4 z)<|Vv (V.ldf (k:=4) shrule2_9 z c z)<|Vv (V.seq z z)<|Vv (V.pkF z z)<|Vv (V.pkT z z)<|Mv z<|T.bH 32 H z (fun H=>?_) (fun H=>?_)
   ·refine Vv (V.fa fdrule2_210_4 z)<|Vv (V.ldf (k:=4) shrule2_4 z d z)<|Mv z<|T.bH 35 H z (fun H=>?_) (fun H=>?_)
    ·refine Sk<|Sk<|Sk<|Vv (V.pkT z z)<|Vv (V.pkT z z)<|Ag z<|Nt<|T.ret ?_
     obtain rfl:=Option.some.inj H
     have x:=(b.trans a)
     exact T.retL Tryz.results228 (Rv z) x ⟨z,z⟩
    refine Vv (V.fa fdrule2_39_5 z)<|Vv (V.ldf (k:=5) shrule2_3 z c z)<|Vv (V.eq z z)<|Vv (V.pkF z z)<|Vv (V.pkT z z)<|Ag z<|Nt<|T.ret ?_
    obtain rfl:=Option.some.inj H
    have y:=(b.trans a)
    exact T.retL Tryz.results228 (Rv z) y ⟨z,z⟩
   exact dead H
  exact dead H
 exact dead H
theorem kind_check_ok {h:PH} {pc0:List Value} {k1:rulekind} (pr0:Vrulekind h pc0 k1) {pc1:List Value} {p2:apiProblem} (pr1:VapiProblem h pc1 p2) {pc2:List Value} {r13:apiRule} (pr2:VapiRule h pc2 r13) {r_0:Int} (H:kind_check k1 p2 r13 = some r_0):∀ L,FnS Tryz.prog 137 [.agg pc0.toArray,.agg pc1.toArray,.agg pc2.toArray] h (L) (fun v h' L'=>v = .int .i64 r_0∧L' = L):=by
 intro L
 obtain rfl:=pr0
 obtain ⟨s,t,u,w,x,rfl,G,P,S,U,W⟩:=pr1
 obtain rfl:=pr2
 refine FnS.enter Tryz.func137 z Tryz.ntmps137 z<|Sr<|To (O.boxF z z z fun bP bS I ag=>To (O.boxF z z z fun bU bV y J=>To (O.boxF z z z fun bW X c d=>Ag z<|Nt<|Sq<|Bl<|Sr<|Vv (V.fa fdrule2_210_0 z)<|have ai:=(y.trans c); have A:=ag.mono ai; Vv (V.ldf (k:=0) shrule2_9 z A z)<|Vv (V.seq z z)<|Ag z<|Nt<|T.cH H z (fun H=>?_) (fun H=>?_))))
 ·exact dead H
 refine Sr<|Vv (V.fa fdrule2_39_1 z)<|Vv (V.ldf (k:=1) shrule2_3 z d z)<|Vv (V.lt z z)<|Mv z<|T.bH 18 H z (fun H=>?_) (fun H=>?_)
 ·exact dead H
 refine Vv (V.fa fdrule2_39_1 z)<|Vv (V.ldf (k:=1) shrule2_3 z d z)<|Vv (V.gt z z)<|Vv (V.pkF z z)<|Ag z<|Nt<|T.cH H z (fun H=>?_) (fun H=>?_)
 ·exact dead H
 refine Sr<|Vv (V.ldS rfl A (by exact shrule2_210)) ?_
 refine Vv (V.ldS rfl d (by exact shrule2_39)) ?_
 obtain ⟨bX,aj,H⟩:=bnd H
 refine To (O.callS z (kind_plain_ok (show Vrulekind X [.string k1.fword,.int .u8 k1.fa,.bool k1.fb,.int .u8 k1.ft,.bool k1.fn,.int .i64 k1.flo,.bool k1.fseat,(fnV k1.ffind)] k1 from z) (show VapiRule X [.int .u8 r13.fKind,.int .i64 r13.fWeight,.string r13.fA,.string r13.fB,.string r13.fTable,.int .i64 r13.fN] r13 from z) aj _) z fun bY ak bZ a am=>?_)
 obtain ⟨rfl,an⟩:=am
 refine Sl_ _ an<|Vv (V.not z)<|Ag z<|Nt<|T.cH H z (fun H=>?_) (fun H=>?_)
 ·exact dead H
 refine Sq<|Sq ?_
 obtain ⟨ao,ap,aq⟩:=bndK H
 refine T.cutK (α:=Bool) [3,4,5] z (fun e=>[(28,.bool e)]) (fun e=>L) (fun e hh=>ao = e) ?_ ?_
 ·have H:=ap
  refine Rg<|Vv (V.fa fdrule2_210_1 z)<|have ar:=A.mono a; Vv (V.ldf (k:=1) shrule2_5 z ar z)<|Vv (V.eq z z)<|Mv z<|T.bH 32 H z (fun H=>?_) (fun H=>?_)
  ·have au:=(c.trans a)
   have aw:=J.mono au
   refine Vv (V.ldS rfl aw (by exact shrule2_28)) ?_
   refine Vv (V.fa fdrule2_39_2 z)<|have ax:=d.mono a; Vv (V.ldf (k:=2) shrule2_9 z ax z)<|have f:=(((I.trans y).trans c).trans a); have ay:=Slc.mono VapiTable.mono G f; have aA:=Slc.mono VapiGuest.mono P f; have aB:=Slc.mono VapiTie.mono S f; have aC:=Slc.mono VI.mono U f; have aD:=Slc.mono VapiRule.mono W f; ?_
   obtain ⟨aE,aG,H⟩:=bnd H
   refine To (O.callS z (rule_who_ok (show VapiProblem ak [s,t,u,w,x] p2 from ⟨s,t,u,w,x,z,ay,aA,aB,aC,aD⟩) aG _) z fun b0 b1 b2 aI aJ=>?_)
   obtain ⟨rfl,aK⟩:=aJ
   refine Sl_ _ aK<|Vv (V.lt z z)<|Vv (V.pkT z z)<|Ag z<|Nt<|T.met (decide (aE < (0:Int))) aI (sinj H) (AllIn.app ⟨z,trivial⟩ ⟨z,z,z,trivial⟩) z
  refine Sk<|Sk<|Sk<|Sk<|Sk<|Vv (V.pkF z z)<|Ag z<|Nt<|T.met false Lr (sinj H) (AllIn.app ⟨z,trivial⟩ ⟨z,z,z,trivial⟩) z
 rintro e aM g aN
 have H:=cutE aN aq
 refine T.norm [28,3,4,5] z<|Sl_ (L) z<|T.cH H z (fun H=>?_) (fun H=>?_)
 ·exact dead H
 refine Sr<|Vv (V.fa fdrule2_210_1 z)<|have B:=(a.trans g); have K:=A.mono B; Vv (V.ldf (k:=1) shrule2_5 z K z)<|Vv (V.eq z z)<|Mv z<|T.bH 42 H z (fun H=>?_) (fun H=>?_)
 ·exact dead H
 refine Sk<|Sk<|Sk<|Vv (V.pkF z z)<|Mv z<|Sk<|Sk<|Sk<|Sk<|Sk<|Vv (V.pkF z z)<|Ag z<|Nt<|Cf z ?_
 obtain ⟨aO,aP,aS⟩:=bndK H
 refine T.cutK (α:=Bool) [3,4,5] z (fun i=>[(28,.bool i)]) (fun i=>L) (fun i hh=>aO = i) ?_ ?_
 ·have H:=aP
  refine Rg<|Vv (V.fa fdrule2_210_2 z)<|Vv (V.ldf (k:=2) shrule2_4 z K z)<|Mv z<|T.bH 56 H z (fun H=>?_) (fun H=>?_)
  ·have aU:=((c.trans a).trans g)
   have aV:=J.mono aU
   refine Vv (V.ldS rfl aV (by exact shrule2_28)) ?_
   refine Vv (V.fa fdrule2_39_3 z)<|have aW:=d.mono B; Vv (V.ldf (k:=3) shrule2_9 z aW z)<|have j:=((((I.trans y).trans c).trans a).trans g); have aX:=Slc.mono VapiTable.mono G j; have aY:=Slc.mono VapiGuest.mono P j; have aZ:=Slc.mono VapiTie.mono S j; have a0:=Slc.mono VI.mono U j; have a1:=Slc.mono VapiRule.mono W j; ?_
   obtain ⟨a2,a3,H⟩:=bnd H
   refine To (O.callS z (rule_who_ok (show VapiProblem aM [s,t,u,w,x] p2 from ⟨s,t,u,w,x,z,aX,aY,aZ,a0,a1⟩) a3 _) z fun b3 b4 b5 a4 a5=>?_)
   obtain ⟨rfl,a6⟩:=a5
   refine Sl_ _ a6<|Vv (V.lt z z)<|Vv (V.pkT z z)<|Ag z<|Nt<|T.met (decide (a2 < (0:Int))) a4 (sinj H) (AllIn.app ⟨z,trivial⟩ ⟨z,z,z,trivial⟩) z
  refine Sk<|Sk<|Sk<|Sk<|Sk<|Vv (V.pkF z z)<|Ag z<|Nt<|T.met false Lr (sinj H) (AllIn.app ⟨z,trivial⟩ ⟨z,z,z,trivial⟩) z
 rintro i b6 m a7
 have H:=cutE a7 aS
 refine T.norm [28,3,4,5] z<|Sl_ (L) z<|T.cH H z (fun H=>?_) (fun H=>?_)
 ·exact dead H
 refine Sr<|Vv (V.fa fdrule2_210_1 z)<|have C:=K.mono m; Vv (V.ldf (k:=1) shrule2_5 z C z)<|Vv (V.eq z z)<|Mv z<|T.bH 67 H z (fun H=>?_) (fun H=>?_)
 ·exact dead H
 refine Sk<|Sk<|Sk<|Sk<|Vv (V.pkF z z)<|Ag z<|Nt<|Cf z<|Sq ?_
 obtain ⟨a8,a9,ah⟩:=bndK H
 refine T.cutK (α:=Bool) [3,4,5] z (fun n=>[(73,.bool n)]) (fun n=>L) (fun n hh=>a8 = n) ?_ ?_
 ·have H:=a9
  refine Rg<|Vv (V.fa fdrule2_210_2 z)<|Vv (V.ldf (k:=2) shrule2_4 z C z)<|Mv z<|T.bH 76 H z (fun H=>?_) (fun H=>?_)
  ·refine Vv (V.fa fdrule2_39_2 z)<|have al:=(B.trans m); have Y:=d.mono al; Vv (V.ldf (k:=2) shrule2_9 z Y z)<|Vv (V.fa fdrule2_39_3 z)<|Vv (V.ldf (k:=3) shrule2_9 z Y z)<|Vv (V.seq z z)<|Vv (V.pkT z z)<|Ag z<|Nt<|T.met (decide (r13.fA = r13.fB)) Lr (sinj H) (AllIn.app ⟨z,trivial⟩ ⟨z,z,z,trivial⟩) z
  refine Sk<|Sk<|Sk<|Sk<|Sk<|Vv (V.pkF z z)<|Ag z<|Nt<|T.met false Lr (sinj H) (AllIn.app ⟨z,trivial⟩ ⟨z,z,z,trivial⟩) z
 rintro n b7 o av
 have H:=cutE av ah
 refine T.norm [73,3,4,5] z<|Sl_ (L) z<|T.cH H z (fun H=>?_) (fun H=>?_)
 ·exact dead H
 refine T.skip<|Bn<|Th<|Sr<|Vv (V.fa fdrule2_28_0 z)<|have az:=((((c.trans a).trans g).trans m).trans o); have Z:=J.mono az; Vv (V.ldf (k:=0) shrule2_22 z Z z)<|Vv (V.fa fdrule2_39_4 z)<|have ba:=((B.trans m).trans o); have D:=d.mono ba; Vv (V.ldf (k:=4) shrule2_9 z D z)<|have M:=((((((I.trans y).trans c).trans a).trans g).trans m).trans o); have aa:=Slc.mono VapiTable.mono G M; ?_
 obtain ⟨⟨b8,b9⟩,bb,H⟩:=bnd H
 refine To (O.callS z (hall_Find_ok aa bb _) z fun bh bl bv b bc=>?_)
 obtain ⟨rfl,bd⟩:=bc
 refine Sl_ _ bd<|Mv z<|Vv (V.ext z z)<|Vv (V.ext z z)<|Ag z<|Ag z<|Nt<|Sq<|Sq ?_
 obtain ⟨be,bf,bg⟩:=bndK H
 refine T.cutK (α:=Bool) [3,4,5,7] z (fun p=>[(111,.bool p)]) (fun p=>L) (fun p hh=>be = p) ?_ ?_
 ·have H:=bf
  refine Rg<|Vv (V.fa fdrule2_210_3 z)<|have bi:=(o.trans b); have N:=C.mono bi; Vv (V.ldf (k:=3) shrule2_5 z N z)<|Vv (V.eq z z)<|Mv z<|T.bH 94 H z (fun H=>?_) (fun H=>?_)
  ·refine Mv z<|Vv (V.not z)<|Vv (V.pkT z z)<|Mv z<|T.bH 98 H z (fun H=>?_) (fun H=>?_)
   ·exact dead H
   refine Vv (V.fa fdrule2_210_3 z)<|Vv (V.ldf (k:=3) shrule2_5 z N z)<|Vv (V.eq z z)<|Mv z<|T.bH 102 H z (fun H=>?_) (fun H=>?_)
   ·refine Vv (V.fa fdrule2_39_4 z)<|have bj:=D.mono b; Vv (V.ldf (k:=4) shrule2_9 z bj z)<|Vv (V.sne z z)<|Vv (V.pkT z z)<|Mv z<|T.bH 107 H z (fun H=>?_) (fun H=>?_)
    ·exact dead H
    refine Sk<|Sk<|Vv (V.pkF z z)<|Vv (V.pkF z z)<|Nt<|T.met false Lr (sinj H) (AllIn.app ⟨z,trivial⟩ ⟨z,z,z,z,trivial⟩) z
   refine Sk<|Sk<|Sk<|Vv (V.pkF z z)<|Mv z<|Sk<|Sk<|Vv (V.pkF z z)<|Vv (V.pkF z z)<|Nt<|T.met false Lr (sinj H) (AllIn.app ⟨z,trivial⟩ ⟨z,z,z,z,trivial⟩) z
  refine Sk<|Sk<|Vv (V.pkF z z)<|Mv z<|Vv (V.fa fdrule2_210_3 z)<|Vv (V.ldf (k:=3) shrule2_5 z N z)<|Vv (V.eq z z)<|Mv z<|T.bH 102 H z (fun H=>?_) (fun H=>?_)
  ·refine Vv (V.fa fdrule2_39_4 z)<|have bk:=D.mono b; Vv (V.ldf (k:=4) shrule2_9 z bk z)<|Vv (V.sne z z)<|Vv (V.pkT z z)<|Mv z<|T.bH 107 H z (fun H=>?_) (fun H=>?_)
   ·exact dead H
   refine Sk<|Sk<|Vv (V.pkF z z)<|Vv (V.pkF z z)<|Nt<|T.met false Lr (sinj H) (AllIn.app ⟨z,trivial⟩ ⟨z,z,z,z,trivial⟩) z
  refine Sk<|Sk<|Sk<|Vv (V.pkF z z)<|Mv z<|Sk<|Sk<|Vv (V.pkF z z)<|Vv (V.pkF z z)<|Nt<|T.met false Lr (sinj H) (AllIn.app ⟨z,trivial⟩ ⟨z,z,z,z,trivial⟩) z
 rintro p bm q bn
 have H:=cutE bn bg
 refine T.norm [111,3,4,5,7] z<|Sl_ (L) z<|T.cH H z (fun H=>?_) (fun H=>?_)
 ·exact dead H
 refine T.skip<|Th<|Sr<|Ag z<|Nt<|Sq<|Sr<|Vv (V.fa fdrule2_210_6 z)<|have bo:=((o.trans b).trans q); have ab:=C.mono bo; Vv (V.ldf (k:=6) shrule2_4 z ab z)<|Nt ?_
 obtain ⟨bp,bq,br⟩:=bndK H
 refine T.cutK (α:=Int) [3,5] z (fun r=>[(9,.int .i64 r)]) (fun r=>L) (fun r hh=>bp = r) ?_ ?_
 ·have H:=bq
  refine T.cH H z (fun H=>?_) (fun H=>?_)
  ·refine Rg<|Vv (V.fa fdrule2_28_0 z)<|have ac:=(b.trans q); have bs:=Z.mono ac; Vv (V.ldf (k:=0) shrule2_22 z bs z)<|Mv z<|Mv z ?_
   obtain ⟨bz,bt,H⟩:=bnd H
   refine Vv (V.addS z z bt)<|have bu:=Slc.mono VapiTable.mono aa ac; ?_
   obtain ⟨bw,ad,H⟩:=bnd H
   refine T.slM z elrule2_22 z bu (.inr ⟨_,_,z,z⟩) (.inr ⟨_,_,z,z⟩) (sbL_eq ad).2 z fun bx bA ca=>?_
   have bB:Slc VapiTable 7 bm bx bw:=by rw [(sbL_eq ad).1]; exact bA
   obtain ⟨cb,bC,H⟩:=bnd H
   refine To (O.callS z (hall_Count_ok bB bC _) z fun cc cd ce bD bE=>?_)
   obtain ⟨rfl,bG⟩:=bE
   refine Sl_ _ bG ?_
   obtain ⟨bI,bJ,H⟩:=bnd H
   refine Vv (V.subS z z bJ)<|Ag z<|Nt<|T.met bI bD (sinj H) (AllIn.app ⟨z,trivial⟩ ⟨z,z,trivial⟩) z
  refine T.skip<|Th<|T.met (24:Int) Lr (sinj H) (AllIn.app ⟨z,trivial⟩ ⟨z,z,trivial⟩) z
 rintro r cf E bK
 have H:=cutE bK br
 refine T.norm [9,3,5] z<|Sl_ (L) z<|Sq<|Sr<|Vv (V.fa fdrule2_210_4 z)<|have ae:=ab.mono E; Vv (V.ldf (k:=4) shrule2_4 z ae z)<|Mv z<|T.bH 124 H z (fun H=>?_) (fun H=>?_)
 ·refine Vv (V.fa fdrule2_39_5 z)<|have bM:=((b.trans q).trans E); have af:=D.mono bM; Vv (V.ldf (k:=5) shrule2_3 z af z)<|Vv (V.fa fdrule2_210_5 z)<|Vv (V.ldf (k:=5) shrule2_3 z ae z)<|Vv (V.lt z z)<|Mv z<|T.bH 130 H z (fun H=>?_) (fun H=>?_)
  ·exact dead H
  refine Vv (V.fa fdrule2_39_5 z)<|Vv (V.ldf (k:=5) shrule2_3 z af z)<|Mv z<|Vv (V.gt z z)<|Vv (V.pkF z z)<|Vv (V.pkT z z)<|Nt<|T.cH H z (fun H=>?_) (fun H=>?_)
  ·exact dead H
  refine T.skip<|Th<|Sr<|Ag z<|Nt<|T.ret ?_
  obtain rfl:=Option.some.inj H
  have bN:=(((M.trans b).trans q).trans E)
  exact T.retL Tryz.results137 (Rv z) bN ⟨z,z⟩
 refine Sk<|Sk<|Sk<|Sk<|Sk<|Sk<|Sk<|Sk<|Sk<|Sk<|Sk<|Vv (V.pkF z z)<|Nt<|Cf z<|T.skip<|Th<|Sr<|Ag z<|Nt<|T.ret ?_
 obtain rfl:=Option.some.inj H
 have bO:=(((M.trans b).trans q).trans E)
 exact T.retL Tryz.results137 (Rv z) bO ⟨z,z⟩
theorem rule_basis_ok {h:PH} {pc0:List Value} {p1:apiProblem} (pr0:VapiProblem h pc0 p1) {r_0:Int} {r_1:Int} (H:rule_basis p1 = some (r_0,r_1)):∀ L,FnS Tryz.prog 136 [.agg pc0.toArray] h (L) (fun v h' L'=>v = .tuple #[.int .i64 r_0,.int .i64 r_1]∧L' = L):=by
 intro L
 obtain ⟨aG,q,r,aI,aJ,rfl,P,S,U,s,aK⟩:=pr0
 refine FnS.enter Tryz.func136 z Tryz.ntmps136 z<|Sr<|To (O.boxF z z z fun aM aN u w=>Ag z<|Ag z<|Nt<|Sq<|Sr<|Vv (V.fa fdrule2_28_0 z)<|Vv (V.ldf (k:=0) shrule2_22 z w z)<|have x:=Slc.mono VapiTable.mono P u; ?_)
 obtain ⟨⟨aO,aP⟩,W,H⟩:=bnd H
 refine To (O.callS z (hall_CheckAll_ok x W _) z fun aS X aU m Y=>?_)
 obtain ⟨rfl,Z⟩:=Y
 refine Sl_ _ Z<|Mv z<|Vv (V.ext z z)<|Vv (V.ext z z)<|Ag z<|Ag z<|Nt<|Sr<|Mv z<|Vv (V.ne z z)<|Nt<|T.cH H z (fun H=>?_) (fun H=>?_)
 ·exact dead H
 refine T.skip<|Th<|Sq<|Sr<|Vv (V.fa fdrule2_28_1 z)<|have e:=w.mono m; Vv (V.ldf (k:=1) shrule2_23 z e z)<|Vv (V.fa fdrule2_28_2 z)<|Vv (V.ldf (k:=2) shrule2_24 z e z)<|have f:=(u.trans m); have y:=Slc.mono VapiTie.mono U f; have i:=Slc.mono VapiGuest.mono S f; Vv (V.bld (xs:=[(0,.tmp 22),(1,.tmp 24)]) (cs:=[_,_]) blrule2_143 borule2_143 z (Fills.cons z (Slc.cells i) z (Fills.cons z (Slc.cells y) z Fills.nil))) ?_
 obtain ⟨⟨aV,aW⟩,aa,H⟩:=bnd H
 refine To (O.callS z (guest_CheckRoll_ok (show VapiRoll X [q,r] (apiRoll.mk p1.fGuests p1.fTies) from ⟨q,r,z,i,y⟩) aa _) z fun aX aY aZ a ab=>?_)
 obtain ⟨rfl,ac⟩:=ab
 refine Sl_ _ ac<|Mv z<|Vv (V.ext z z)<|Vv (V.ext z z)<|Ag z<|Ag z<|Nt<|Sr<|Mv z<|Vv (V.ne z z)<|Nt<|T.cH H z (fun H=>?_) (fun H=>?_)
 ·exact dead H
 refine T.skip<|Th<|Sq<|Sq ?_
 obtain ⟨ad,ae,af⟩:=bndK H
 refine T.cutK (α:=Bool) [1] z (fun d=>[(45,.bool d)]) (fun d=>L) (fun d hh=>ad = d) ?_ ?_
 ·have H:=ae
  refine Rg<|Vv (V.fa fdrule2_28_3 z)<|have n:=e.mono a; Vv (V.ldf (k:=3) shrule2_25 z n z)<|have ag:=(f.trans a); have A:=Slc.mono VI.mono s ag; Vv (V.lenS elrule2_25 z A)<|Vv (V.gt z z)<|Mv z<|T.bH 37 H z (fun H=>?_) (fun H=>?_)
  ·refine Vv (V.fa fdrule2_28_3 z)<|Vv (V.ldf (k:=3) shrule2_25 z n z)<|Vv (V.lenS elrule2_25 z A)<|Vv (V.fa fdrule2_28_1 z)<|Vv (V.ldf (k:=1) shrule2_23 z n z)<|have ai:=Slc.mono VapiGuest.mono i a; Vv (V.lenS elrule2_23 z ai)<|Vv (V.ne z z)<|Vv (V.pkT z z)<|Nt<|T.met (!decide ((p1.fClass.length:Int) = (p1.fGuests.length:Int))) Lr (sinj H) (AllIn.app ⟨z,trivial⟩ ⟨z,trivial⟩) z
  refine Sk<|Sk<|Sk<|Sk<|Sk<|Sk<|Sk<|Vv (V.pkF z z)<|Nt<|T.met false Lr (sinj H) (AllIn.app ⟨z,trivial⟩ ⟨z,trivial⟩) z
 rintro d a0 o aj
 have H:=cutE aj af
 refine T.norm [45,1] z<|Sl_ (L) z<|T.cH H z (fun H=>?_) (fun H=>?_)
 ·exact dead H
 refine T.skip<|Th<|Sq<|Sr<|Vv (V.fa fdrule2_28_3 z)<|have B:=(a.trans o); have C:=e.mono B; Vv (V.ldf (k:=3) shrule2_25 z C z)<|have D:=((f.trans a).trans o); have E:=Slc.mono VI.mono s D; Vv (V.lenS elrule2_25 z E)<|Mv z<|Nt ?_
 obtain ⟨G,ak,am⟩:=bndK H
 refine T.cutK (α:=Unit) [1] z (fun _u=>[]) (fun _u=>L) (fun _u hh=>G = ()) ?_ ?_
 ·have H:=ak
  refine Bl<|T.loopK (α:=Nat×Int) [1,47,48] z (fun ⟨b,c⟩=>[(49,.int .i64 c)]) (fun ⟨b,c⟩=>L) (fun ⟨b,c⟩ hh=>iter (rule_basis_l0 p1) b c = some G) (fun ⟨b,c⟩=>b) (FUEL,(0:Int)) ⟨z,trivial⟩ z H ?_
  rintro ⟨b,c⟩ a1 p an
  obtain ⟨ao,a2,rfl,H,I⟩:=iter_go an
  refine T.norm [49,1,47,48] z<|Sl_ (L) z<|Sr<|Vv (V.lt z z)<|Nt<|Sq<|T.cH H z (fun H=>?_) (fun H=>?_)
  ·refine T.skip<|Th<|Sq<|Bl<|Sr ?_
   obtain ⟨a3,J,H⟩:=bnd H
   have K:=Slc.mono VI.mono E p
   obtain ⟨a4,ap,rfl⟩:=Slc.at K J
   refine Vv (V.ix elrule2_25 z z K (getI_bd J))<|Vv (V.ld0 shrule2_3 z ap z)<|Ag z<|Nt<|Sr<|Mv z<|Vv (V.lt z z)<|Mv z<|T.bH 55 H z (fun H=>?_) (fun H=>?_)
   ·exact dead H
   refine Mv z<|Vv (V.ge z z)<|Vv (V.pkF z z)<|Nt<|T.cH H z (fun H=>?_) (fun H=>?_)
   ·exact dead H
   refine T.skip<|Bn<|Th<|Rg ?_
   obtain ⟨aq,ar,H⟩:=bnd H
   refine Vv (V.addS z z ar)<|Mv z<|Nt<|T.again (ao,aq) p (Nat.lt_succ_self _) (iterK_in H I) (AllIn.app ⟨z,trivial⟩ ⟨z,z,z,trivial⟩) z
  refine T.exit<|Te<|Te<|have H:=iterK_out H I; Be<|Th<|T.met () p H (AllIn.app trivial ⟨z,trivial⟩) z
 rintro _ a5 j au
 have H:=cutE au am
 refine T.norm [1] rfl<|Sl_ (L) rfl<|Sq<|Sq<|T.drawF (t:=(.v 0 (.v 1 (.v 2 (.v 3 (.v 4 (.alt 5 (.g (.v 6 .done)) .no))))))) 8 0 0 rfl rfl rule2mixed (by kernel_rfl) ?_
 refine Tv z (V.fa fdrule2_28_1 z)<|have M:=C.mono j; Tv z (V.ldf (k:=1) shrule2_23 z M z)<|have aw:=(B.trans j); have ax:=Slc.mono VapiGuest.mono i aw; Tv z (V.lenS elrule2_23 z ax)<|Tv z (V.fa fdrule2_28_0 z)<|Tv z (V.ldf (k:=0) shrule2_22 z M z)<|have ay:=(((m.trans a).trans o).trans j); have aA:=Slc.mono VapiTable.mono x ay; ?_
 obtain ⟨a6,aB,H⟩:=bnd H
 refine Tp z z (SX.two (XA.fr [] Lr z) (XA.fr [] Lr z)) (O.callS z (hall_Count_ok aA aB _) z fun a7 a8 a9 N aC=>?_) T.tno
 obtain ⟨rfl,aD⟩:=aC
 refine Sl_ _ aD<|T.tgrow N<|Tv z (V.gt z z)<|T.tnil (SX.two (XA.fr [] Lr z) (XA.fr [] Lr z))<|Th<|T.cH H z (fun H=>?_) (fun H=>?_)
 ·exact dead H
 refine T.skip<|Th<|Sr<|Ag z<|Ag z<|Nt<|T.ret ?_
 obtain ⟨rfl,rfl⟩:=inj2 H
 have aE:=((D.trans j).trans N)
 exact T.retL Tryz.results136 (RVs.cons (RV.tmp z) (Rv z)) aE ⟨z,z⟩
theorem rule_Check_ok {h:PH} {pc0:List Value} {p1:apiProblem} (pr0:VapiProblem h pc0 p1) {r_0:Int} {r_1:Int} (H:rule_Check p1 = some (r_0,r_1)):∀ L,FnS Tryz.prog 72 [.agg pc0.toArray] h (L) (fun v h' L'=>v = .tuple #[.int .i64 r_0,.int .i64 r_1]∧L' = L):=by
 intro L
 obtain ⟨f,g,i,m,n,rfl,P,S,U,W,X⟩:=pr0
 refine FnS.enter Tryz.func72 rfl Tryz.ntmps72 rfl<|Sr<|To (O.boxF rfl rfl rfl fun aP Y c w=>Ag z<|Ag z<|Nt<|Sq<|Sr<|Vv (V.ldS rfl w (by exact shrule2_28)) ?_)
 have x:=Slc.mono VapiTable.mono P c
 have y:=Slc.mono VapiGuest.mono S c
 have A:=Slc.mono VapiTie.mono U c
 have B:=Slc.mono VI.mono W c
 have C:=Slc.mono VapiRule.mono X c
 obtain ⟨⟨aS,aU⟩,Z,H⟩:=bnd H
 refine To (O.callS z (rule_basis_ok (show VapiProblem Y [f,g,i,m,n] p1 from ⟨f,g,i,m,n,z,x,y,A,B,C⟩) Z _) z fun aV aW aX D aa=>?_)
 obtain ⟨rfl,ab⟩:=aa
 refine Sl_ _ ab<|Mv z<|Vv (V.ext z z)<|Vv (V.ext z z)<|Ag z<|Ag z<|Nt<|Sr<|Mv z<|Vv (V.ne z z)<|Nt<|T.cH H z (fun H=>?_) (fun H=>?_)
 ·exact dead H
 refine T.skip<|Th<|Sr ?_
 obtain ⟨ac,ad,H⟩:=bnd H
 refine To (O.callS z (rule_kinds_ok ad _) z fun aY aZ a0 E ae=>?_)
 obtain ⟨af,ag⟩:=ae
 refine Sl_ _ af<|Ag z<|Nt<|Sq<|Sr<|Vv (V.fa fdrule2_28_4 z)<|have r:=(D.trans E); have G:=w.mono r; Vv (V.ldf (k:=4) shrule2_26 z G z)<|have I:=Slc.mono VapiRule.mono C r; Vv (V.lenS elrule2_26 z I)<|Mv z<|Nt ?_
 obtain ⟨J,ai,aj⟩:=bndK H
 refine T.cutK (α:=Unit) [] z (fun _u=>[]) (fun _u=>L) (fun _u hh=>J = ()) ?_ ?_
 ·have H:=ai
  refine Bl<|T.loopK (α:=Nat×Int) [1,6,21,22] z (fun ⟨d,e⟩=>[(23,.int .i64 e)]) (fun ⟨d,e⟩=>L) (fun ⟨d,e⟩ hh=>iter (rule_Check_l0 p1 ac) d e = some J) (fun ⟨d,e⟩=>d) (FUEL,(0:Int)) ⟨z,trivial⟩ z H ?_
  rintro ⟨d,e⟩ a1 o ak
  obtain ⟨am,a2,rfl,H,K⟩:=iter_go ak
  refine T.norm [23,1,6,21,22] z<|Sl_ (L) z<|Sr<|Vv (V.lt z z)<|Nt<|Sq<|T.cH H z (fun H=>?_) (fun H=>?_)
  ·refine T.skip<|Th<|Sq<|Bl<|Sr<|Mv z ?_
   obtain ⟨a,M,H⟩:=bnd H
   have s:=Slc.mono VapiRule.mono I o
   obtain ⟨a3,an,rfl⟩:=Slc.at s M
   refine Vv (V.ix elrule2_26 rfl rfl s (getI_bd M))<|Vv (V.ldS rfl an (by exact shrule2_39)) ?_
   refine To (O.alloc zerule2_39 z z fun a4=>Ag z<|To (O.stF (vs:=[.int .u8 a.fKind,.int .i64 a.fWeight,.string a.fA,.string a.fB,.string a.fTable,.int .i64 a.fN]) shrule2_39 z z (j:=0) z z z z<|T.freeze fun p t ao=>have N:=AtC.of ao; Nt<|Sq<|Sr<|Mv z<|Vv (V.fa fdrule2_39_0 z)<|Vv (V.ldf (k:=0) shrule2_37 z N z) ?_))
   obtain ⟨⟨b,a5⟩,ap,H⟩:=bnd H
   have u:=(o.trans t)
   have aq:=Mp.mono Vrulekind.mono ag u
   obtain ⟨_,ar,rfl⟩:=Mp.look (zc:=[.string (⟨#[]⟩:ByteArray),.int .u8 (0:Int),.bool false,.int .u8 (0:Int),.bool false,.int .i64 (0:Int),.bool false,(fnV (0:Nat))]) (agg:=true) Tryz.underlying104 (KeyOK.int Tryz.underlying37) zerule2_210 (show Vrulekind p [.string (⟨#[]⟩:ByteArray),.int .u8 (0:Int),.bool false,.int .u8 (0:Int),.bool false,.int .i64 (0:Int),.bool false,(fnV (0:Nat))] (rulekind.mk (⟨#[]⟩:ByteArray) (0:Int) false (0:Int) false (0:Int) false (0:Nat)) from rfl) aq ap
   refine Vv (V.lkF1 rfl rfl ar)<|have au:=G.mono u; Vv (V.ldS rfl au (by exact shrule2_28)) ?_
   refine Vv (V.ldS rfl N (by exact shrule2_39)) ?_
   have q:=((r.trans o).trans t)
   have aw:=Slc.mono VapiTable.mono x q
   have ax:=Slc.mono VapiGuest.mono y q
   have ay:=Slc.mono VapiTie.mono A q
   have aA:=Slc.mono VI.mono B q
   have aB:=Slc.mono VapiRule.mono s t
   obtain ⟨a6,aC,H⟩:=bnd H
   refine To (O.callS z (kind_check_ok (show Vrulekind p [.string b.fword,.int .u8 b.fa,.bool b.fb,.int .u8 b.ft,.bool b.fn,.int .i64 b.flo,.bool b.fseat,(fnV b.ffind)] b from z) (show VapiProblem p [f,g,i,m,n] p1 from ⟨f,g,i,m,n,z,aw,ax,ay,aA,aB⟩) (show VapiRule p [.int .u8 a.fKind,.int .i64 a.fWeight,.string a.fA,.string a.fB,.string a.fTable,.int .i64 a.fN] a from z) aC _) z fun a7 a8 a9 aD aE=>?_)
   obtain ⟨rfl,aG⟩:=aE
   refine Sl_ _ aG<|Ag z<|Nt<|Sr<|Mv z<|Vv (V.ne z z)<|Nt<|T.cH H z (fun H=>?_) (fun H=>?_)
   ·exact dead H
   refine T.skip<|Th<|Sr<|Mv z<|Vv (V.eq z z)<|Nt<|T.cH H z (fun H=>?_) (fun H=>?_)
   ·exact dead H
   refine T.skip<|Bn<|Th<|Rg ?_
   obtain ⟨aI,aJ,H⟩:=bnd H
   refine Vv (V.addS z z aJ)<|Mv z<|Nt<|have aK:=(u.trans aD); T.again (am,aI) aK (Nat.lt_succ_self _) (iterK_in H K) (AllIn.app ⟨z,trivial⟩ ⟨z,z,z,z,trivial⟩) z
  refine T.exit<|Te<|Te<|have H:=iterK_out H K; Be<|Th<|T.met () o H (AllIn.app trivial trivial) z
 rintro _ ah aM aN
 have H:=cutE aN aj
 refine T.norm [] z<|Sl_ (L) z<|Sr<|Ag z<|Ag z<|Nt<|T.ret ?_
 obtain ⟨rfl,rfl⟩:=inj2 H
 have aO:=(((c.trans D).trans E).trans aM)
 exact T.retL Tryz.results72 (RVs.cons (RV.tmp z) (Rv z)) aO ⟨z,z⟩
theorem rule_New_1_ok {h:PH} {k1:Int} {pp1:Addr} {pc1:List Value} {t2:apiProblem} (pa1:AtC h pp1 pc1) (pr1:VapiProblem h pc1 t2) {pp2:Addr} {pc2:List Value} {t13:Int} (pa2:AtC h pp2 pc2) (pr2:(VI .i64) h pc2 t13) {r_0:Bool} (H:rule_New_1 k1 t2 t13 = some r_0):∀ L,FnS Tryz.prog 78 [.int .i64 k1,.pointer (some pp1),.pointer (some pp2)] h (L) (fun v h' L'=>v = .bool r_0∧L' = L):=by
 intro L
 obtain ⟨f,g,i,j,m,rfl,a,n,o,p,q⟩:=pr1
 obtain rfl:=pr2
 refine FnS.enter Tryz.func78 z Tryz.ntmps78 z<|Sr<|Ag z<|Nt<|Sr<|Vv (V.fa fdrule2_28_0 z)<|Vv (V.ldf (k:=0) shrule2_22 z pa1 z)<|Vv (V.ld0 shrule2_3 z pa2 z)<|Mv z ?_
 obtain ⟨r,b,H⟩:=bnd H
 refine To (O.callS z (hall_Beside_ok a b _) z fun s t u c d=>?_)
 obtain ⟨rfl,e⟩:=d
 refine Sl_ _ e<|Ag z<|Nt<|T.ret ?_
 obtain rfl:=Option.some.inj H
 exact T.retL Tryz.results78 (Rv z) c ⟨z,z⟩
theorem rule_New_2_ok {h:PH} {k1:Int} {pp1:Addr} {pc1:List Value} {t2:apiProblem} (pa1:AtC h pp1 pc1) (pr1:VapiProblem h pc1 t2) {pp2:Addr} {pc2:List Value} {t13:Int} (pa2:AtC h pp2 pc2) (pr2:(VI .i64) h pc2 t13) {r_0:Bool} (H:rule_New_2 k1 t2 t13 = some r_0):∀ L,FnS Tryz.prog 80 [.int .i64 k1,.pointer (some pp1),.pointer (some pp2)] h (L) (fun v h' L'=>v = .bool r_0∧L' = L):=by
 intro L
 obtain ⟨f,g,i,j,m,rfl,a,n,o,p,q⟩:=pr1
 obtain rfl:=pr2
 refine FnS.enter Tryz.func80 z Tryz.ntmps80 z<|Sr<|Ag z<|Nt<|Sr<|Vv (V.fa fdrule2_28_0 z)<|Vv (V.ldf (k:=0) shrule2_22 z pa1 z)<|Vv (V.ld0 shrule2_3 z pa2 z)<|Mv z ?_
 obtain ⟨r,b,H⟩:=bnd H
 refine To (O.callS z (hall_Across_ok a b _) z fun s t u c d=>?_)
 obtain ⟨rfl,e⟩:=d
 refine Sl_ _ e<|Ag z<|Nt<|T.ret ?_
 obtain rfl:=Option.some.inj H
 exact T.retL Tryz.results80 (Rv z) c ⟨z,z⟩
theorem Judge_walk_ok {h:PH} {pv0:Value} {j1:ruleJudge} (pr0:Pt VruleJudge h pv0 j1) {from2:Int} {r_0:List (Int×Int)} (H:Judge_walk j1 from2 = some r_0):∀ L,FnS Tryz.prog 82 [pv0,.int .i64 from2] h (L) (fun v h' L'=>∃ mb0 es0,v = .map (some mb0)∧L' = blk mb0 (.map es0.toArray es0.length)::L∧MapG (Value.int .i64) false (VI .i64) h' 0 es0 r_0):=by
 intro L
 refine FnS.enter Tryz.func82 z Tryz.ntmps82 z<|Sr<|Ag z<|Nt<|Sr<|To (O.mkM z fun bc=>have be:MapG (Value.int .i64) false (VI .i64) h 0 ([]:List MapEntry) ([]:List (Int×Int)):=trivial; Mv z ?_)
 obtain ⟨bf,bg,H⟩:=bnd H
 refine To (O.updM (agg:=false) (E:=(VI .i64)) (cs:=[.int .i64 (0:Int)]) Tryz.underlying137 (KeyOK.int Tryz.underlying3) z z z (j:=0) z be (show (VI .i64) h [.int .i64 (0:Int)] (0:Int) from z) _ (.inr z) fun bi ay=>?_)
 rw [Option.some.inj bg] at ay
 refine Mv z<|Ag z<|Nt<|Sq<|Sr<|Mv z<|To (O.bs elrule2_25 zerule2_3 z (e:=z) (hk:=z) (xs:=[.tmp 16]) (hv:=CO.eq (CO.cons z CO.nil)) (hw:=Wide.of z) (hd:=z) fun bj=>have bk:RowF (VI .i64) h [[.int .i64 from2]] ([from2]:List Int):=(RowF.cons z RowF.nil); Ag z<|Nt ?_)
 obtain ⟨aA,bm,bn⟩:=bndK H
 refine T.cutK (α:=(List (Int×Int))×Nat×(List MapEntry)) [] z (fun ⟨ag,P,u⟩=>[(5,.map (some P))]) (fun ⟨ag,P,u⟩=>blk P (.map u.toArray u.length)::L) (fun ⟨ag,P,u⟩ hh=>aA = ag∧MapG (Value.int .i64) false (VI .i64) hh 0 u ag) ?_ ?_
 ·have H:=bm
  refine Bl<|Fr_ 1 z<|T.loopK (α:=Nat×(List (Int×Int))×(List Int)×Nat×(List MapEntry)×Value×(List (List Value))) [0] z (fun ⟨S,w,I,i,c,x,y⟩=>[(5,.map (some i)),(6,x)]) (fun ⟨S,w,I,i,c,x,y⟩=>blk i (.map c.toArray c.length)::rowR 3 1 x y::L) (fun ⟨S,w,I,i,c,x,y⟩ hh=>iter (Judge_walk_l0 j1) S (w,I) = some aA∧MapG (Value.int .i64) false (VI .i64) hh 0 c w∧RowF (VI .i64) hh y I) (fun ⟨S,w,I,i,c,x,y⟩=>S) (FUEL,bf,[from2],bc,bi,(.slice (some ⟨bj,0,none⟩) 1 1),[[.int .i64 from2]]) ⟨z,z,trivial⟩ z ⟨H,ay,bk⟩ ?_
  rintro ⟨S,w,I,i,c,x,y⟩ bo ao ⟨bp,aB,U⟩
  obtain ⟨bq,cp,rfl,H,aC⟩:=iter_go bp
  refine T.norm [5,6,0] z<|Sl_ (blk i (.map c.toArray c.length)::rowR 3 1 x y::L) z<|Sq<|Sr<|Mv z<|Vv (V.lenX elrule2_25 z (j:=1) z U.len)<|Vv (V.gt z z)<|Nt<|T.cH H z (fun H=>?_) (fun H=>?_)
  ·refine T.skip<|Th<|Sq<|Bl<|Sq<|Fr_ 1 z<|T.drawF (t:=(.v 0 (.v 1 (.v 2 (.v 3 (.v 4 (.v 5 (.v 6 (.v 7 (.v 8 (.v 9 (.v 10 (.v 11 (.v 12 (.v 13 (.v 14 (.v 15 (.v 16 (.v 17 (.v 20 (.alt 18 (.g (.v 19 .done)) .no))))))))))))))))))))) 22 1 1 rfl rfl rule2mixed (by kernel_rfl) ?_
   refine Tm z z<|have br:=Pt.mono VruleJudge.mono pr0 ao; have bt:=br; ?_
   obtain ⟨cq,_,rfl,aD,⟨cr,ct,cu,cw,cx,cy,cA,cB,cC,cD,cE,cG,cI,cJ,rfl,cK,cM,cN,cO,cP,cS,cU,cV,cW,aE,aG,cX,cY,cZ⟩⟩:=bt
   refine Tv z (V.nck z)<|Tv z (V.fa fdrule2_111_5 z)<|Tv z (V.ldf (k:=9) shrule2_106 z aD z)<|Tm z z ?_
   obtain ⟨c0,aI,H⟩:=bnd H
   obtain ⟨c1,bu,rfl⟩:=RowF.get U aI
   refine Tv z (Val.XA fun _ _ _=>V.ixR elrule2_25 z z (j:=0) z (RowF.bd U aI))<|Tv z (Val.XA fun _ _ _=>V.ldR shrule2_3 z (j:=0) z bu z) ?_
   obtain ⟨aJ,aK,H⟩:=bnd H
   obtain ⟨c2,bw,⟨aM,rfl,aN⟩⟩:=Slc.at aE aK
   refine Tv z (V.ix elrule2_106 z z aE (getI_bd aK))<|Tv z (V.ld0 shrule2_25 z bw z)<|Tm z z<|Tv z (V.nck z)<|Tv z (V.fa fdrule2_111_6 z)<|Tv z (V.ldf (k:=10) shrule2_106 z aD z)<|Tm z z ?_
   obtain ⟨c3,aO,H⟩:=bnd H
   obtain ⟨c4,bx,rfl⟩:=RowF.get U aO
   refine Tv z (Val.XA fun _ _ _=>V.ixR elrule2_25 z z (j:=0) z (RowF.bd U aO))<|Tv z (Val.XA fun _ _ _=>V.ldR shrule2_3 z (j:=0) z bx z) ?_
   obtain ⟨aP,aS,H⟩:=bnd H
   obtain ⟨c5,bA,⟨aU,rfl,aV⟩⟩:=Slc.at aG aS
   refine Tv z (V.ix elrule2_106 z z aG (getI_bd aS))<|Tv z (V.ld0 shrule2_25 z bA z)<|Tm z z<|Tp z z (SX.two (XA.fr [0] Lr z) (XA.fr [0] Lr z)) (O.bs elrule2_106 zerule2_25 z (e:=z) (hk:=z) (xs:=[.tmp 31,.tmp 40]) (hv:=CO.eq (CO.cons (Slc.cells aN) (CO.cons (Slc.cells aV) CO.nil))) (hw:=Wide.of z) (hd:=z) fun c6=>?_) T.tno
   have bB:RowF (VSl (VI .i64) 1) bo [[aM],[aU]] ([aJ,aP]:List (List Int)):=(RowF.cons ⟨aM,z,aN⟩ (RowF.cons ⟨aU,z,aV⟩ RowF.nil))
   refine T.rowFix fun c7 ai bC=>have bD:=RowF.mono (VSl.mono VI.mono) bB ai; have aW:=RowF.slc bC bD; T.tgrow ai<|Tv z (V.lenS elrule2_106 z aW)<|T.tnil (SX.two (XA.fr [0] Lr z) (XA.fr [0] Lr z))<|Th<|T.asThen ?_
   obtain ⟨aX,bE,bG⟩:=bndK H
   refine T.cutK (α:=(List (Int×Int))×(List Int)×Nat×(List MapEntry)×Value×(List (List Value))) [0] z (fun ⟨W,aj,J,m,X,A⟩=>[(5,.map (some J)),(6,X)]) (fun ⟨W,aj,J,m,X,A⟩=>blk J (.map m.toArray m.length)::rowR 3 1 X A::L) (fun ⟨W,aj,J,m,X,A⟩ hh=>aX = (W,aj)∧MapG (Value.int .i64) false (VI .i64) hh 0 m W∧RowF (VI .i64) hh A aj) ?_ ?_
   ·have H:=bE
    refine Bl<|have bI:=MapG.mono VI.mono ai aB; have bJ:=RowF.mono VI.mono U ai; Fr_ 1 z<|T.loopK (α:=Nat×Int×(List (Int×Int))×(List Int)×Nat×(List MapEntry)×Value×(List (List Value))) [0,41,42] z (fun ⟨Y,Z,B,C,n,d,o,p⟩=>[(43,.int .i64 Z),(5,.map (some n)),(6,o)]) (fun ⟨Y,Z,B,C,n,d,o,p⟩=>blk n (.map d.toArray d.length)::rowR 3 1 o p::L) (fun ⟨Y,Z,B,C,n,d,o,p⟩ hh=>iter (Judge_walk_l1 aJ aP) Y (Z,B,C) = some aX∧MapG (Value.int .i64) false (VI .i64) hh 0 d B∧RowF (VI .i64) hh p C) (fun ⟨Y,Z,B,C,n,d,o,p⟩=>Y) (FUEL,(0:Int),w,I,i,c,x,y) ⟨z,z,z,trivial⟩ z ⟨H,bI,bJ⟩ ?_
    rintro ⟨Y,Z,B,C,n,d,o,p⟩ c8 aq ⟨bK,aY,aZ⟩
    obtain ⟨bM,c9,rfl,H,a0⟩:=iter_go bK
    refine T.norm [43,5,6,0,41,42] z<|Sl_ (blk n (.map d.toArray d.length)::rowR 3 1 o p::L) z<|Sr<|Vv (V.lt z z)<|Nt<|Sq<|T.cH H z (fun H=>?_) (fun H=>?_)
    ·refine T.skip<|Th<|Sq<|Bl<|Sr ?_
     obtain ⟨bN,a1,H⟩:=bnd H
     have a2:=Slc.mono (VSl.mono VI.mono) aW aq
     obtain ⟨ch,bO,⟨cl,rfl,a3⟩⟩:=Slc.at a2 a1
     refine Vv (V.ix elrule2_106 z z a2 (getI_bd a1))<|Vv (V.ld0 shrule2_25 z bO z)<|Ag z<|Nt<|Sr<|Mv z<|Vv (V.lenS elrule2_25 z a3)<|Mv z<|Nt<|T.asThen ?_
     obtain ⟨a4,bP,bS⟩:=bndK H
     refine T.cutK (α:=(List (Int×Int))×(List Int)×Nat×(List MapEntry)×Value×(List (List Value))) [0,41,42,43] z (fun ⟨aa,ab,K,q,M,N⟩=>[(5,.map (some K)),(6,M)]) (fun ⟨aa,ab,K,q,M,N⟩=>blk K (.map q.toArray q.length)::rowR 3 1 M N::L) (fun ⟨aa,ab,K,q,M,N⟩ hh=>a4 = (aa,ab)∧MapG (Value.int .i64) false (VI .i64) hh 0 q aa∧RowF (VI .i64) hh N ab) ?_ ?_
     ·have H:=bP
      refine Bl<|T.loopK (α:=Nat×Int×(List (Int×Int))×(List Int)×Nat×(List MapEntry)×Value×(List (List Value))) [0,41,42,43,47,48] z (fun ⟨ac,ad,D,G,a,f,s,b⟩=>[(49,.int .i64 ad),(5,.map (some a)),(6,s)]) (fun ⟨ac,ad,D,G,a,f,s,b⟩=>blk a (.map f.toArray f.length)::rowR 3 1 s b::L) (fun ⟨ac,ad,D,G,a,f,s,b⟩ hh=>iter (Judge_walk_l2 bN) ac (ad,D,G) = some a4∧MapG (Value.int .i64) false (VI .i64) hh 0 f D∧RowF (VI .i64) hh b G) (fun ⟨ac,ad,D,G,a,f,s,b⟩=>ac) (FUEL,(0:Int),B,C,n,d,o,p) ⟨z,z,z,trivial⟩ z ⟨H,aY,aZ⟩ ?_
      rintro ⟨ac,ad,D,G,a,f,s,b⟩ ak an ⟨bU,am,ae⟩
      obtain ⟨a5,cv,rfl,H,ar⟩:=iter_go bU
      refine T.norm [49,5,6,0,41,42,43,47,48] z<|Sl_ (blk a (.map f.toArray f.length)::rowR 3 1 s b::L) z<|Sr<|Vv (V.lt z z)<|Nt<|Sq<|T.cH H z (fun H=>?_) (fun H=>?_)
      ·refine T.skip<|Th<|Sq<|Bl<|Sr ?_
       obtain ⟨af,a6,H⟩:=bnd H
       have a7:=Slc.mono VI.mono a3 an
       obtain ⟨cz,bV,rfl⟩:=Slc.at a7 a6
       refine Vv (V.ix elrule2_25 z z a7 (getI_bd a6))<|Vv (V.ld0 shrule2_3 z bV z)<|Ag z<|Nt<|Sr<|Mv z<|Mv z ?_
       obtain ⟨⟨da,db⟩,bW,H⟩:=bnd H
       obtain ⟨_,bX,rfl⟩:=MapG.lookO (r:=a) (zc:=[.int .i64 (0:Int)]) (agg:=false) Tryz.underlying137 (KeyOK.int Tryz.underlying3) zerule2_3 (show (VI .i64) ak [.int .i64 (0:Int)] (0:Int) from rfl) am bW
       refine Vv (V.lkO z z (j:=0) z bX)<|Mv z<|Vv (V.ext z z)<|Vv (V.ext z z)<|Ag z<|Ag z<|Nt<|Sr<|Mv z<|Vv (V.not z)<|Nt<|T.cH H z (fun H=>?_) (fun H=>?_)
       ·refine Sr<|Mv z<|Mv z<|Mv z<|Mv z ?_
        obtain ⟨dc,a8,H⟩:=bnd H
        obtain ⟨dd,bY,rfl⟩:=RowF.get ae a8
        refine Vv (V.ixR elrule2_25 z z (j:=1) z (RowF.bd ae a8))<|Vv (V.ldR shrule2_3 z (j:=1) z bY z) ?_
        obtain ⟨⟨de,df⟩,bZ,H⟩:=bnd H
        obtain ⟨_,b0,rfl⟩:=MapG.lookO (r:=a) (zc:=[.int .i64 (0:Int)]) (agg:=false) Tryz.underlying137 (KeyOK.int Tryz.underlying3) zerule2_3 (show (VI .i64) ak [.int .i64 (0:Int)] (0:Int) from rfl) am bZ
        refine Vv (V.lkO1 z z (j:=0) z b0) ?_
        obtain ⟨au,b1,H⟩:=bnd H
        refine Vv (V.addS z z b1) ?_
        obtain ⟨b2,b3,H⟩:=bnd H
        refine To (O.updM (agg:=false) (E:=(VI .i64)) (cs:=[.int .i64 au]) Tryz.underlying137 (KeyOK.int Tryz.underlying3) z z z (j:=0) z am (show (VI .i64) ak [.int .i64 au] au from z) _ (.inl z) fun aw a9=>?_)
        rw [Option.some.inj b3] at a9
        refine Nt<|Rg<|Mv z<|Mv z<|To (O.bs elrule2_25 zerule2_3 z (e:=z) (hk:=z) (xs:=[.tmp 70]) (hv:=CO.eq (CO.cons z CO.nil)) (hw:=Wide.of z) (hd:=z) fun b4=>have ax:RowF (VI .i64) ak [[.int .i64 af]] ([af]:List Int):=(RowF.cons z RowF.nil); ?_)
        obtain ⟨ah,al,H⟩:=bnd H
        refine To (O.apX elrule2_25 elrule2_25 zerule2_3 z z z (j:=2) z (Src.row (j:=0) z) (Wide.of z) (RowF.ones VI.plain ax) ae ax al z fun av dg di=>have b5:RowF (VI .i64) ak (b ++ [[.int .i64 af]]) ah:=RowF.ap ae ax al; Sl_ (rowR 3 1 av (b ++ [[.int .i64 af]])::rowR 3 1 (.slice (some ⟨b4,0,none⟩) 1 1) [[.int .i64 af]]::blk a (.map aw.toArray aw.length)::L) z<|Fr_ 1 z<|T.fl ?_)
        refine T.drop<|Ag z<|Ni<|Bn<|Th<|Rg ?_
        obtain ⟨b6,b7,H⟩:=bnd H
        refine Vv (V.addS z z b7)<|Mv z<|Nt<|Fr_ 1 z<|T.again (a5,b6,b2,ah,a,aw,av,(b ++ [[.int .i64 af]])) an (Nat.lt_succ_self _) ⟨(iterK_in H ar),a9,b5⟩ (AllIn.app ⟨z,z,z,trivial⟩ ⟨z,z,z,z,z,z,trivial⟩) z
       refine T.skip<|Bn<|Th<|Rg ?_
       obtain ⟨b8,b9,H⟩:=bnd H
       refine Vv (V.addS z z b9)<|Mv z<|Nt<|T.again (a5,b8,D,G,a,f,s,b) an (Nat.lt_succ_self _) ⟨(iterK_in H ar),am,ae⟩ (AllIn.app ⟨z,z,z,trivial⟩ ⟨z,z,z,z,z,z,trivial⟩) z
      refine T.exit<|Te<|Te<|have H:=iterK_out H ar; Be<|Th<|T.met (D,G,a,f,s,b) an ⟨H,am,ae⟩ (AllIn.app ⟨z,z,trivial⟩ ⟨z,z,z,z,trivial⟩) z
     rintro ⟨aa,ab,K,q,M,N⟩ dj bh ⟨bl,bv,bz⟩
     have H:=cutE bl bS
     refine T.norm [5,6,0,41,42,43] z<|Sl_ (blk K (.map q.toArray q.length)::rowR 3 1 M N::L) z<|Bn<|Th<|Rg ?_
     obtain ⟨ca,cb,H⟩:=bnd H
     refine Vv (V.addS z z cb)<|Mv z<|Nt<|have cc:=(aq.trans bh); T.again (bM,ca,aa,ab,K,q,M,N) cc (Nat.lt_succ_self _) ⟨(iterK_in H a0),bv,bz⟩ (AllIn.app ⟨z,z,z,trivial⟩ ⟨z,z,z,trivial⟩) z
    refine T.exit<|Te<|Te<|have H:=iterK_out H a0; Be<|Th<|T.met (B,C,n,d,o,p) aq ⟨H,aY,aZ⟩ (AllIn.app ⟨z,z,trivial⟩ ⟨z,trivial⟩) z
   rintro ⟨W,aj,J,m,X,A⟩ cd ce ⟨cf,cg,az⟩
   have H:=cutE cf bG
   refine T.norm [5,6,0] z<|Sl_ (blk J (.map m.toArray m.length)::rowR 3 1 X A::L) z<|Bn<|Th<|Rg<|Mv z ?_
   obtain ⟨ba,bb,H⟩:=bnd H
   refine To (O.slR elrule2_25 z z (j:=1) z (RowF.slb az bb) z fun ci=>have cj:RowF (VI .i64) cd (List.drop (1:Int).toNat A) ba:=RowF.sl az bb; Ag z<|Nt<|Fr_ 1 z<|have ck:=((ao.trans ai).trans ce); T.again (bq,W,ba,J,m,ci,(List.drop (1:Int).toNat A)) ck (Nat.lt_succ_self _) ⟨(iterK_in H aC),cg,cj⟩ (AllIn.app ⟨z,z,trivial⟩ ⟨z,trivial⟩) z)
  refine T.exit<|Te<|Te<|have H:=iterK_out H aC; Be<|Th<|Fr_ 1 z<|T.drop<|T.met (w,i,c) ao ⟨H,aB⟩ (AllIn.app ⟨z,trivial⟩ trivial) z
 rintro ⟨ag,P,u⟩ dk cm ⟨cn,co⟩
 have H:=cutE cn bn
 refine T.norm [5] z<|Sl_ (blk P (.map u.toArray u.length)::L) z<|Sr<|Mv z<|Ag z<|Nt<|T.ret ?_
 obtain rfl:=Option.some.inj H
 exact T.retL Tryz.results82 (Rv z) cm ⟨_,_,z,z,co⟩
theorem Judge_none_ok {h:PH} {pv0:Value} {j1:ruleJudge} (pr0:Pt VruleJudge h pv0 j1) {r_0:Bool} (H:Judge_none j1 = some r_0):∀ L,FnS Tryz.prog 56 [pv0] h (L) (fun v h' L'=>v = .bool r_0∧L' = L):=by
 intro L
 refine FnS.enter Tryz.func56 z Tryz.ntmps56 z<|Sr<|Ag z<|Nt<|Sr<|Mv z<|have a:=pr0; ?_
 obtain ⟨e,_,rfl,b,⟨f,g,i,j,m,n,o,p,q,r,s,t,u,w,rfl,x,y,A,B,C,c,D,E,G,I,J,K,M,N⟩⟩:=a
 refine Vv (V.nilP Tryz.underlying67 z)<|Mv z<|Mv z<|Vv (V.nck z)<|Vv (V.fa fdrule2_111_1 z)<|Vv (V.ldf (k:=5) shrule2_104 z b z)<|have d:=c; ?_
 obtain ⟨O,_,rfl,_⟩:=d
 refine Vv (V.nilM Tryz.underlying104 z)<|Vv (V.pkF z z)<|Ag z<|Nt<|T.ret ?_
 obtain rfl:=Option.some.inj H
 exact T.retL Tryz.results56 (Rv z) Lr ⟨z,z⟩
theorem rule_New_ok {h:PH} {pc0:List Value} {p1:apiProblem} (pr0:VapiProblem h pc0 p1) {r_0:ruleJudge} {r_1:Int} {r_2:Int} (H:rule_New p1 = some (r_0,r_1,r_2)):∀ L,FnS Tryz.prog 27 [.agg pc0.toArray] h (L) (fun v h' L'=>∃ w0,v = .tuple #[w0,.int .i64 r_1,.int .i64 r_2]∧L' = L∧Pt VruleJudge h' w0 r_0):=by
 intro L
 obtain ⟨a5,aA,aB,a6,a7,rfl,gK,gM,gN,gO,gP⟩:=pr0
 refine FnS.enter Tryz.func27 rfl Tryz.ntmps27 rfl<|Sr<|To (O.boxF rfl rfl rfl fun cX gS b7 dX=>Ag z<|Ag z<|Ag z<|Nt<|Sq<|Sr<|Vv (V.ldS rfl dX (by exact shrule2_28)) ?_)
 have dY:=Slc.mono VapiTable.mono gK b7
 have dZ:=Slc.mono VapiGuest.mono gM b7
 have d0:=Slc.mono VapiTie.mono gN b7
 have d1:=Slc.mono VI.mono gO b7
 have d2:=Slc.mono VapiRule.mono gP b7
 obtain ⟨⟨ox,oy⟩,gU,H⟩:=bnd H
 refine To (O.callS z (rule_Check_ok (show VapiProblem gS [a5,aA,aB,a6,a7] p1 from ⟨a5,aA,aB,a6,a7,z,dY,dZ,d0,d1,d2⟩) gU _) z fun oA gV oB bx gW=>?_)
 obtain ⟨rfl,gX⟩:=gW
 refine Sl_ _ gX<|Mv z<|Vv (V.ext z z)<|Vv (V.ext z z)<|Ag z<|Ag z<|Nt<|Sr<|Mv z<|Vv (V.ne z z)<|Nt<|T.cH H z (fun H=>?_) (fun H=>?_)
 ·exact dead H
 refine T.skip<|Th<|Sr<|have d3:=dX.mono bx; Vv (V.ldS rfl d3 (by exact shrule2_28)) ?_
 have d4:=Slc.mono VapiTable.mono dY bx
 have cv:=Slc.mono VapiGuest.mono dZ bx
 have cz:=Slc.mono VapiTie.mono d0 bx
 have d5:=Slc.mono VI.mono d1 bx
 have d6:=Slc.mono VapiRule.mono d2 bx
 obtain ⟨da,gY,H⟩:=bnd H
 refine To (O.callS z (rule_copied_ok (show VapiProblem gV [a5,aA,aB,a6,a7] p1 from ⟨a5,aA,aB,a6,a7,z,d4,cv,cz,d5,d6⟩) gY _) z fun oC oD oE d7 gZ=>?_)
 obtain ⟨n,o,p,q,r,rfl,g0,d8,d9,dh,dl,dv⟩:=gZ
 refine Sl_ _ g0 ?_
 obtain ⟨db,g1,H⟩:=bnd H
 refine To (O.callS z (rule_kinds_ok g1 _) z fun s cB oG cY g2=>?_)
 obtain ⟨g3,dc⟩:=g2
 refine Sl_ _ g3<|Vv (V.bld (xs:=[(0,.tmp 34),(1,.tmp 35)]) (cs:=[_,_,_,_,_,_,_,_,_,_,_,_,_,_]) blrule2_111 borule2_111 z (Fills.cons z z z (Fills.cons z (Mp.cells dc) z Fills.nil)))<|To (O.box z z z fun u=>Ag z<|Nt<|Sq<|Sr<|Vv (V.fa fdrule2_28_0 z)<|have cZ:=(d7.trans cY); have dd:=d3.mono cZ; Vv (V.ldf (k:=0) shrule2_22 z dd z)<|have dz:=Slc.mono VapiTable.mono d4 cZ; Vv (V.lenS elrule2_22 z dz)<|Mv z<|Nt ?_)
 obtain ⟨ea,g4,g5⟩:=bndK H
 refine T.cutK (α:=(List Int)×(List Int)×(List Bool)×(List (List Int))×(List (List Int))×Value×(List (List Value))×Value×(List (List Value))×Value×(List (List Value))×Value×(List (List Value))×Value×(List (List Value))) [1,7] z (fun ⟨a8,a9,ah,al,av,f,D,d,C,c,A,b,y,a,w⟩=>[]) (fun ⟨a8,a9,ah,al,av,f,D,d,C,c,A,b,y,a,w⟩=>blk u (.cells [n,o,p,q,r,s,f,d,c,b,a,.slice none 0 0,.slice none 0 0,.slice none 0 0].toArray 111)::rowR 3 1 f D::rowR 3 1 d C::rowR 4 1 c A::rowR 25 1 b y::rowR 25 1 a w::L) (fun ⟨a8,a9,ah,al,av,f,D,d,C,c,A,b,y,a,w⟩ hh=>ea = (a8,a9,ah,al,av)∧RowF (VI .i64) hh D a8∧RowF (VI .i64) hh C a9∧RowF VB hh A ah∧RowF (VSl (VI .i64) 1) hh y al∧RowF (VSl (VI .i64) 1) hh w av) ?_ ?_
 ·have H:=g4
  refine Bl<|T.rowNil 3 1<|have g6:RowF (VI .i64) cB [] ([]:List Int):=RowF.nil; T.rowNil 3 1<|have g7:RowF (VI .i64) cB [] ([]:List Int):=RowF.nil; T.rowNil 4 1<|have g8:RowF VB cB [] ([]:List Bool):=RowF.nil; T.rowNil 25 1<|have g9:RowF (VSl (VI .i64) 1) cB [] ([]:List (List Int)):=RowF.nil; T.rowNil 25 1<|have gh:RowF (VSl (VI .i64) 1) cB [] ([]:List (List Int)):=RowF.nil; Fr_ 1 z<|T.fl ?_
  refine Fr_ 2 z<|T.fl ?_
  refine Fr_ 3 z<|T.fl ?_
  refine Fr_ 4 z<|T.fl ?_
  refine Fr_ 5 z<|T.fl ?_
  refine T.loopK (α:=Nat×(List Int)×(List Int)×(List Bool)×(List (List Int))×(List (List Int))×Int×Value×(List (List Value))×Value×(List (List Value))×Value×(List (List Value))×Value×(List (List Value))×Value×(List (List Value))) [1,7,40] z (fun ⟨b8,az,ba,bb,bc,bd,W,aC,aP,aD,aS,aE,aU,aG,aV,aI,aW⟩=>[(41,.int .i64 W)]) (fun ⟨b8,az,ba,bb,bc,bd,W,aC,aP,aD,aS,aE,aU,aG,aV,aI,aW⟩=>blk u (.cells [n,o,p,q,r,s,aC,aD,aE,aG,aI,.slice none 0 0,.slice none 0 0,.slice none 0 0].toArray 111)::rowR 3 1 aC aP::rowR 3 1 aD aS::rowR 4 1 aE aU::rowR 25 1 aG aV::rowR 25 1 aI aW::L) (fun ⟨b8,az,ba,bb,bc,bd,W,aC,aP,aD,aS,aE,aU,aG,aV,aI,aW⟩ hh=>iter (rule_New_l0 p1) b8 (az,ba,bb,bc,bd,W) = some ea∧RowF (VI .i64) hh aP az∧RowF (VI .i64) hh aS ba∧RowF VB hh aU bb∧RowF (VSl (VI .i64) 1) hh aV bc∧RowF (VSl (VI .i64) 1) hh aW bd) (fun ⟨b8,az,ba,bb,bc,bd,W,aC,aP,aD,aS,aE,aU,aG,aV,aI,aW⟩=>b8) (FUEL,([]:List Int),([]:List Int),([]:List Bool),([]:List (List Int)),([]:List (List Int)),(0:Int),(.slice none 0 0),[],(.slice none 0 0),[],(.slice none 0 0),[],(.slice none 0 0),[],(.slice none 0 0),[]) ⟨z,trivial⟩ z ⟨H,g6,g7,g8,g9,gh⟩ ?_
  rintro ⟨b8,az,ba,bb,bc,bd,W,aC,aP,aD,aS,aE,aU,aG,aV,aI,aW⟩ oI cC ⟨gl,eb,ec,ed,ee,ef⟩
  obtain ⟨gv,oJ,rfl,H,eg⟩:=iter_go gl
  refine T.norm [41,1,7,40] z<|Sl_ (blk u (.cells [n,o,p,q,r,s,aC,aD,aE,aG,aI,.slice none 0 0,.slice none 0 0,.slice none 0 0].toArray 111)::rowR 3 1 aC aP::rowR 3 1 aD aS::rowR 4 1 aE aU::rowR 25 1 aG aV::rowR 25 1 aI aW::L) z<|Sr<|Vv (V.lt z z)<|Nt<|Sq<|T.cH H z (fun H=>?_) (fun H=>?_)
  ·refine T.skip<|Th<|Sq<|Bl<|Sr<|Mv z<|Ag z<|Nt<|Sr<|Vv (V.fa fdrule2_28_0 z)<|have ei:=dd.mono cC; Vv (V.ldf (k:=0) shrule2_22 z ei z)<|Mv z<|have ej:=Slc.mono VapiTable.mono dz cC; ?_
   obtain ⟨de,gz,H⟩:=bnd H
   refine To (O.callS z (hall_First_ok ej gz _) z fun oK ia oM cD ib=>?_)
   obtain ⟨rfl,ic⟩:=ib
   refine Sl_ _ ic<|Ag z<|Nt<|Sr<|Vv (V.fa fdrule2_28_0 z)<|have ek:=ei.mono cD; Vv (V.ldf (k:=0) shrule2_22 z ek z)<|Mv z<|Mv z ?_
   obtain ⟨oN,id,H⟩:=bnd H
   refine Vv (V.addS z z id)<|have em:=Slc.mono VapiTable.mono ej cD; ?_
   obtain ⟨ie,en,H⟩:=bnd H
   refine T.slM z elrule2_22 z em (.inr ⟨_,_,z,z⟩) (.inr ⟨_,_,z,z⟩) (sbL_eq en).2 z fun ig ii oO=>?_
   have ij:Slc VapiTable 7 ia ig ie:=by rw [(sbL_eq en).1]; exact ii
   obtain ⟨ik,im,H⟩:=bnd H
   refine To (O.callS z (hall_Count_ok ij im _) z fun oP oS oU c0 io=>?_)
   obtain ⟨rfl,ip⟩:=io
   refine Sl_ _ ip<|Ag z<|Nt<|Sr<|Mv z<|To (O.alloc zerule2_3 z z fun iq=>To (O.stF (vs:=[.int .i64 de]) shrule2_3 z z (j:=0) z z z z<|T.fl ?_))
   refine Nt<|T.asThen ?_
   obtain ⟨eo,ir,it⟩:=bndK H
   refine T.cutK (α:=(List Int)×(List Int)×(List Bool)×(List (List Int))×(List (List Int))×Value×(List (List Value))×Value×(List (List Value))×Value×(List (List Value))×Value×(List (List Value))×Value×(List (List Value))) [1,7,40,41] z (fun ⟨b9,bh,bl,bv,bz,be,bA,bf,bB,bg,bC,bi,bD,bj,bE⟩=>[]) (fun ⟨b9,bh,bl,bv,bz,be,bA,bf,bB,bg,bC,bi,bD,bj,bE⟩=>blk u (.cells [n,o,p,q,r,s,be,bf,bg,bi,bj,.slice none 0 0,.slice none 0 0,.slice none 0 0].toArray 111)::rowR 3 1 be bA::rowR 3 1 bf bB::rowR 4 1 bg bC::rowR 25 1 bi bD::rowR 25 1 bj bE::L) (fun ⟨b9,bh,bl,bv,bz,be,bA,bf,bB,bg,bC,bi,bD,bj,bE⟩ hh=>eo = (b9,bh,bl,bv,bz)∧RowF (VI .i64) hh bA b9∧RowF (VI .i64) hh bB bh∧RowF VB hh bC bl∧RowF (VSl (VI .i64) 1) hh bD bv∧RowF (VSl (VI .i64) 1) hh bE bz) ?_ ?_
   ·have H:=ir
    refine Bl<|have cE:=(cD.trans c0); have iu:=RowF.mono VI.mono eb cE; have iw:=RowF.mono VI.mono ec cE; have iy:=RowF.mono VB.mono ed cE; have iA:=RowF.mono (VSl.mono VI.mono) ee cE; have iB:=RowF.mono (VSl.mono VI.mono) ef cE; Fr_ 6 z<|T.fl ?_
    refine Fr_ 6 z<|T.fl ?_
    refine Fr_ 6 z<|T.fl ?_
    refine Fr_ 6 z<|T.fl ?_
    refine Fr_ 6 z<|T.fl ?_
    refine Fr_ 6 z<|T.fl ?_
    refine T.loopK (α:=Nat×(List Int)×(List Int)×(List Bool)×(List (List Int))×(List (List Int))×Int×Value×(List (List Value))×Value×(List (List Value))×Value×(List (List Value))×Value×(List (List Value))×Value×(List (List Value))×Nat) [1,7,8,9,10,40,41] z (fun ⟨ca,bG,bI,bJ,bK,bM,X,aJ,aa,an,ab,ai,ac,Y,ad,P,ae,af⟩=>[(11,.pointer (some ⟨af,0,none⟩))]) (fun ⟨ca,bG,bI,bJ,bK,bM,X,aJ,aa,an,ab,ai,ac,Y,ad,P,ae,af⟩=>blk u (.cells [n,o,p,q,r,s,aJ,an,ai,Y,P,.slice none 0 0,.slice none 0 0,.slice none 0 0].toArray 111)::rowR 3 1 aJ aa::rowR 3 1 an ab::rowR 4 1 ai ac::rowR 25 1 Y ad::rowR 25 1 P ae::blk af (.cells [.int .i64 X].toArray 3)::L) (fun ⟨ca,bG,bI,bJ,bK,bM,X,aJ,aa,an,ab,ai,ac,Y,ad,P,ae,af⟩ hh=>iter (rule_New_l1 p1 W de ik) ca (bG,bI,bJ,bK,bM,X) = some eo∧RowF (VI .i64) hh aa bG∧RowF (VI .i64) hh ab bI∧RowF VB hh ac bJ∧RowF (VSl (VI .i64) 1) hh ad bK∧RowF (VSl (VI .i64) 1) hh ae bM) (fun ⟨ca,bG,bI,bJ,bK,bM,X,aJ,aa,an,ab,ai,ac,Y,ad,P,ae,af⟩=>ca) (FUEL,az,ba,bb,bc,bd,de,aC,aP,aD,aS,aE,aU,aG,aV,aI,aW,iq) ⟨z,trivial⟩ z ⟨H,iu,iw,iy,iA,iB⟩ ?_
    rintro ⟨ca,bG,bI,bJ,bK,bM,X,aJ,aa,an,ab,ai,ac,Y,ad,P,ae,af⟩ ep c1 ⟨iC,df,er,es,et,eu⟩
    obtain ⟨iD,oV,rfl,H,ew⟩:=iter_go iC
    refine T.norm [11,1,7,8,9,10,40,41] z<|Sl_ (blk u (.cells [n,o,p,q,r,s,aJ,an,ai,Y,P,.slice none 0 0,.slice none 0 0,.slice none 0 0].toArray 111)::rowR 3 1 aJ aa::rowR 3 1 an ab::rowR 4 1 ai ac::rowR 25 1 Y ad::rowR 25 1 P ae::blk af (.cells [.int .i64 X].toArray 3)::L) z<|Sq<|Sr<|Vv (V.ldO0 shrule2_3 z (j:=6) z z)<|Mv z<|Mv z ?_
    obtain ⟨oW,iE,H⟩:=bnd H
    refine Vv (V.addS z z iE)<|Vv (V.lt z z)<|Nt<|T.cH H z (fun H=>?_) (fun H=>?_)
    ·refine T.skip<|Th<|Sq<|Bl<|Sr<|Mv z<|Mv z<|Vv (V.nck z)<|Vv (V.fa fdrule2_111_2 z)<|Vv (V.ldO (k:=6) shrule2_25 z (j:=0) z z)<|Mv z<|To (O.bs elrule2_25 zerule2_3 z (e:=z) (hk:=z) (xs:=[.tmp 68]) (hv:=CO.eq (CO.cons z CO.nil)) (hw:=Wide.of z) (hd:=z) fun iG=>have dg:RowF (VI .i64) ep [[.int .i64 W]] ([W]:List Int):=(RowF.cons z RowF.nil); ?_)
     obtain ⟨ex,ey,H⟩:=bnd H
     refine To (O.apX elrule2_25 elrule2_25 zerule2_3 z z z (j:=2) z (Src.row (j:=0) z) (Wide.of z) (RowF.ones VI.plain dg) df dg ey z fun ag oX oY=>have iI:RowF (VI .i64) ep (aa ++ [[.int .i64 W]]) ex:=RowF.ap df dg ey; Sl_ (rowR 3 1 ag (aa ++ [[.int .i64 W]])::rowR 3 1 (.slice (some ⟨iG,0,none⟩) 1 1) [[.int .i64 W]]::blk u (.cells [n,o,p,q,r,s,aJ,an,ai,Y,P,.slice none 0 0,.slice none 0 0,.slice none 0 0].toArray 111)::rowR 3 1 an ab::rowR 4 1 ai ac::rowR 25 1 Y ad::rowR 25 1 P ae::blk af (.cells [.int .i64 X].toArray 3)::L) z<|Fr_ 1 z<|T.fl ?_)
     refine T.drop<|Vv (V.nck rfl)<|Vv (V.fa fdrule2_111_2 rfl)<|T.rowOne 0 rfl fun iJ iK=>To (O.st (vs:=[ag]) (k:=6) shrule2_25 rfl rfl (j:=1) rfl iK (by (simp only [Sl.ones,iJ,Bool.and_true,Bool.true_and]) <;> rfl) ?_)
     refine T.fl ?_
     refine Nt<|Sq<|Fr_ 2 z<|T.fl ?_
     refine Fr_ 1 z<|T.fl ?_
     refine Fr_ 6 z<|T.fl ?_
     refine T.drawF (t:=(.v 0 (.v 1 (.v 2 (.v 3 (.x 4 (.v 5 (.v 6 (.v 7 (.alt 8 (.g (.alt 9 (.alt 10 (.g (.v 11 (.v 12 (.alt 13 .done .no)))) .no) .no)) .no)))))))))) 10 3 1 rfl rfl rule2mixed (by kernel_rfl) ?_
     refine Tm z z<|Tm z z<|Tv z (V.nck z)<|Tv z (V.fa fdrule2_111_3 z)<|T.tx z z (Val.XA fun _ _ _=>V.ldO (k:=7) shrule2_25 z (j:=1) z z) z Calm.i<|Tv z (V.fa fdrule2_28_0 z)<|have eA:=(c0.trans c1); have eB:=ek.mono eA; Tv z (V.ldf (k:=0) shrule2_22 z eB z)<|Tv z (Val.XA fun _ _ _=>V.ldO0 shrule2_3 z (j:=0) z z)<|have eC:=Slc.mono VapiTable.mono em eA; ?_
     obtain ⟨ao,iM,H⟩:=bnd H
     refine Tp z z (SX.two (XA.fr [0] Lr z) (XA.fr [2,2,2] Lr z)) (O.callS z (hall_Level_ok eC iM _) z fun oZ eD o0 bN iN=>?_) T.tno
     obtain ⟨rfl,iO⟩:=iN
     refine Sl_ _ iO<|T.tgrow bN<|Tp z z (SX.two (XA.fr [0] Lr z) (XA.fr [2,2,2] Lr z)) (O.bs elrule2_25 zerule2_3 z (e:=z) (hk:=z) (xs:=[.tmp 81]) (hv:=CO.eq (CO.cons z CO.nil)) (hw:=Wide.of z) (hd:=z) fun iP=>?_) T.tno
     have di:RowF (VI .i64) eD [[.int .i64 ao]] ([ao]:List Int):=(RowF.cons z RowF.nil)
     obtain ⟨eE,eG,H⟩:=bnd H
     have eI:=RowF.mono VI.mono er bN
     refine Tp z z (SX.two (XA.fr [1] Lr z) (XA.fr [3,3,3] Lr z)) (O.apX elrule2_25 elrule2_25 zerule2_3 z z z (j:=3) z (Src.row (j:=0) z) (Wide.of z) (RowF.ones VI.plain di) eI di eG z fun aj o1 o2=>?_) T.tno
     have iS:RowF (VI .i64) eD (ab ++ [[.int .i64 ao]]) eE:=RowF.ap eI di eG
     refine Sl_ (rowR 3 1 aj (ab ++ [[.int .i64 ao]])::rowR 3 1 (.slice (some ⟨iP,0,none⟩) 1 1) [[.int .i64 ao]]::blk af (.cells [.int .i64 X].toArray 3)::blk u (.cells [n,o,p,q,r,s,ag,an,ai,Y,P,.slice none 0 0,.slice none 0 0,.slice none 0 0].toArray 111)::rowR 3 1 ag (aa ++ [[.int .i64 W]])::rowR 4 1 ai ac::rowR 25 1 Y ad::rowR 25 1 P ae::L) z<|Fr_ 1 z<|T.fl ?_
     refine T.drop<|T.tgrow Lr<|Tv z (V.nck rfl)<|Tv z (V.fa fdrule2_111_3 rfl)<|T.rowOne 0 rfl fun iU iV=>Tp z z (SX.one (XA.fr [1] Lr rfl) rfl) (O.st (vs:=[aj]) (k:=7) shrule2_25 rfl rfl (j:=2) rfl iV (by (simp only [Sl.ones,iU,Bool.and_true,Bool.true_and]) <;> rfl) ?_) T.tno
     refine T.fl ?_
     refine T.tnil (SX.one (XA.fr [2] Lr z) z)<|Th<|Sq<|Fr_ 4 z<|T.fl ?_
     refine Fr_ 1 z<|T.fl ?_
     refine Fr_ 3 z<|T.fl ?_
     refine T.drawF (t:=(.v 0 (.v 1 (.v 2 (.v 3 (.x 4 (.v 5 (.v 6 (.v 7 (.alt 8 (.g (.alt 9 (.alt 10 (.g (.v 11 (.v 12 (.alt 13 .done .no)))) .no) .no)) .no)))))))))) 10 3 1 rfl rfl rule2mixed (by kernel_rfl) ?_
     refine Tm z z<|Tm z z<|Tv z (V.nck z)<|Tv z (V.fa fdrule2_111_4 z)<|T.tx z z (Val.XA fun _ _ _=>V.ldO (k:=8) shrule2_105 z (j:=1) z z) z Calm.i<|Tv z (V.fa fdrule2_28_0 z)<|have eJ:=eB.mono bN; Tv z (V.ldf (k:=0) shrule2_22 z eJ z)<|Tv z (Val.XA fun _ _ _=>V.ldO0 shrule2_3 z (j:=0) z z)<|have eK:=Slc.mono VapiTable.mono eC bN; ?_
     obtain ⟨aK,iW,H⟩:=bnd H
     refine Tp z z (SX.two (XA.fr [0] Lr z) (XA.fr [2,2,2] Lr z)) (O.callS z (hall_Open_ok eK iW _) z fun o3 eM o4 cG iX=>?_) T.tno
     obtain ⟨rfl,iY⟩:=iX
     refine Sl_ _ iY<|T.tgrow cG<|Tp z z (SX.two (XA.fr [0] Lr z) (XA.fr [2,2,2] Lr z)) (O.bs elrule2_105 zerule2_4 z (e:=z) (hk:=z) (xs:=[.tmp 94]) (hv:=CO.eq (CO.cons z CO.nil)) (hw:=Wide.of z) (hd:=z) fun iZ=>?_) T.tno
     have dj:RowF VB eM [[.bool aK]] ([aK]:List Bool):=(RowF.cons z RowF.nil)
     obtain ⟨eN,eO,H⟩:=bnd H
     have eP:=(bN.trans cG)
     have eS:=RowF.mono VB.mono es eP
     refine Tp z z (SX.two (XA.fr [1] Lr z) (XA.fr [3,3,3] Lr z)) (O.apX elrule2_105 elrule2_105 zerule2_4 z z z (j:=3) z (Src.row (j:=0) z) (Wide.of z) (RowF.ones VB.plain dj) eS dj eO z fun aq o5 o6=>?_) T.tno
     have i0:RowF VB eM (ac ++ [[.bool aK]]) eN:=RowF.ap eS dj eO
     refine Sl_ (rowR 4 1 aq (ac ++ [[.bool aK]])::rowR 4 1 (.slice (some ⟨iZ,0,none⟩) 1 1) [[.bool aK]]::blk af (.cells [.int .i64 X].toArray 3)::blk u (.cells [n,o,p,q,r,s,ag,aj,ai,Y,P,.slice none 0 0,.slice none 0 0,.slice none 0 0].toArray 111)::rowR 3 1 aj (ab ++ [[.int .i64 ao]])::rowR 3 1 ag (aa ++ [[.int .i64 W]])::rowR 25 1 Y ad::rowR 25 1 P ae::L) z<|Fr_ 1 z<|T.fl ?_
     refine T.drop<|T.tgrow Lr<|Tv z (V.nck rfl)<|Tv z (V.fa fdrule2_111_4 rfl)<|T.rowOne 0 rfl fun i1 i2=>Tp z z (SX.one (XA.fr [1] Lr rfl) rfl) (O.st (vs:=[aq]) (k:=8) shrule2_105 rfl rfl (j:=2) rfl i2 (by (simp only [Sl.ones,i1,Bool.and_true,Bool.true_and]) <;> rfl) ?_) T.tno
     refine T.fl ?_
     refine T.tnil (SX.one (XA.fr [2] Lr z) z)<|Th<|Sq<|T.norm [1,7,8,9,10,11,40,41] z<|Sl_ (blk u (.cells [n,o,p,q,r,s,ag,aj,aq,Y,P,.slice none 0 0,.slice none 0 0,.slice none 0 0].toArray 111)::rowR 4 1 aq (ac ++ [[.bool aK]])::blk af (.cells [.int .i64 X].toArray 3)::rowR 3 1 aj (ab ++ [[.int .i64 ao]])::rowR 3 1 ag (aa ++ [[.int .i64 W]])::rowR 25 1 Y ad::rowR 25 1 P ae::L) z<|Fr_ 2 z<|T.fl ?_
     refine T.blkFix fun i3 cI eU=>Fr_ 4 z<|T.fl ?_
     refine Fr_ 1 z<|T.fl ?_
     refine T.drawF (t:=(.v 0 (.v 1 (.v 2 (.v 3 (.x 4 (.v 5 (.v 6 (.v 7 (.alt 8 (.g (.alt 9 (.alt 10 (.g (.v 11 (.v 12 (.alt 13 .done .no)))) .no) .no)) .no)))))))))) 10 2 0 rfl rfl rule2mixed (by kernel_rfl) ?_
     refine Tm z z<|Tm z z<|Tv z (V.nck z)<|Tv z (V.fa fdrule2_111_5 z)<|T.tx z z (Val.XA fun _ _ _=>V.ldO (k:=9) shrule2_106 z (j:=0) z z) z Calm.i<|Tm z z<|Tm z z<|Tv z (V.mkf z z)<|have dk:=(cG.trans cI); have eV:=eJ.mono dk; have eW:=Slc.mono VapiTable.mono eK dk; have c2:=(((((((cZ.trans cC).trans cD).trans c0).trans c1).trans bN).trans cG).trans cI); have eX:=Slc.mono VapiGuest.mono cv c2; have eY:=Slc.mono VapiTie.mono cz c2; have eZ:=Slc.mono VI.mono d5 c2; have e0:=Slc.mono VapiRule.mono d6 c2; ?_
     obtain ⟨i4,i5,H⟩:=bnd H
     refine Tp z z (SX.two (XA.fr [] Lr z) (XA.fr [1,1] Lr z)) (O.callS z (rule_seats_ok (show CF130 i3 (.func (.func 78) #[] #[.pointer (some ⟨cX,0,none⟩),.pointer (some ⟨af,0,none⟩)]) (fun dm=>rule_New_1 dm p1 X) from ⟨⟨z,z⟩,.inr ⟨78,[],[.pointer (some ⟨cX,0,none⟩),.pointer (some ⟨af,0,none⟩)],z,fun e1 bO o7 o8 i6 i7=>rule_New_1_ok (eV.mono bO) (show VapiProblem e1 [a5,aA,aB,a6,a7] p1 from ⟨a5,aA,aB,a6,a7,z,(Slc.mono VapiTable.mono eW bO),(Slc.mono VapiGuest.mono eX bO),(Slc.mono VapiTie.mono eY bO),(Slc.mono VI.mono eZ bO),(Slc.mono VapiRule.mono e0 bO)⟩) (eU.mono bO) (show (VI .i64) e1 [.int .i64 X] X from z) i6 i7⟩⟩) i5 _) z fun bk o9 oh cb i8=>?_) T.tno
     obtain ⟨ol,i9,ih⟩:=i8
     refine Sl_ _ i9<|T.tgrow cb<|T.rowFix fun dn ar il=>have iv:=RowF.mono VI.mono ih ar; have e2:=RowF.slc il iv; Tp z z (SX.two (XA.fr [] ar z) (XA.fr [1,1] ar z)) (O.bs elrule2_106 zerule2_25 z (e:=z) (hk:=z) (xs:=[.tmp 107]) (hv:=CO.eq (CO.cons (Slc.cells e2) CO.nil)) (hw:=Wide.of z) (hd:=z) fun iz=>?_) T.tno
     have dp:RowF (VSl (VI .i64) 1) dn [[bk]] ([i4]:List (List Int)):=(RowF.cons ⟨bk,z,e2⟩ RowF.nil)
     obtain ⟨e3,e4,H⟩:=bnd H
     have e5:=(((eP.trans cI).trans cb).trans ar)
     have e6:=RowF.mono (VSl.mono VI.mono) et e5
     refine Tp z z (SX.two (XA.fr [] ar z) (XA.fr [2,2] ar z)) (O.apX elrule2_106 elrule2_106 zerule2_25 z z z (j:=2) z (Src.row (j:=0) z) (Wide.of z) (RowF.ones VSl.plain dp) e6 dp e4 z fun bP ov oz=>?_) T.tno
     have ja:RowF (VSl (VI .i64) 1) dn (ad ++ [[bk]]) e3:=RowF.ap e6 dp e4
     refine Sl_ (rowR 25 1 bP (ad ++ [[bk]])::rowR 25 1 (.slice (some ⟨iz,0,none⟩) 1 1) [[bk]]::blk u (.cells [n,o,p,q,r,s,ag,aj,aq,Y,P,.slice none 0 0,.slice none 0 0,.slice none 0 0].toArray 111)::rowR 4 1 aq (ac ++ [[.bool aK]])::rowR 3 1 aj (ab ++ [[.int .i64 ao]])::rowR 3 1 ag (aa ++ [[.int .i64 W]])::rowR 25 1 P ae::L) z<|Fr_ 1 z<|T.fl ?_
     refine T.drop<|T.tgrow ar<|Tv z (V.nck rfl)<|Tv z (V.fa fdrule2_111_5 rfl)<|T.rowOne 0 rfl fun jb jc=>Tp z z (SX.one (XA.fr [] Lr rfl) rfl) (O.st (vs:=[bP]) (k:=9) shrule2_106 rfl rfl (j:=1) rfl jc (by (simp only [Sl.ones,jb,Bool.and_true,Bool.true_and]) <;> rfl) ?_) T.tno
     refine T.fl ?_
     refine T.tnil (SX.one (XA.fr [] Lr z) z)<|Th<|Fr_ 5 z<|T.fl ?_
     refine Fr_ 1 z<|T.fl ?_
     refine T.drawF (t:=(.v 0 (.v 1 (.v 2 (.v 3 (.x 4 (.v 5 (.v 6 (.v 7 (.alt 8 (.g (.alt 9 (.alt 10 (.g (.v 11 (.v 12 (.alt 13 .done .no)))) .no) .no)) .no)))))))))) 10 2 0 rfl rfl rule2mixed (by kernel_rfl) ?_
     refine Tm z z<|Tm z z<|Tv z (V.nck z)<|Tv z (V.fa fdrule2_111_6 z)<|T.tx z z (Val.XA fun _ _ _=>V.ldO (k:=10) shrule2_106 z (j:=0) z z) z Calm.i<|Tm z z<|Tm z z<|Tv z (V.mkf z z)<|have bS:=(cb.trans ar); have jd:=eV.mono bS; have je:=Slc.mono VapiTable.mono eW bS; have jf:=Slc.mono VapiGuest.mono eX bS; have jg:=Slc.mono VapiTie.mono eY bS; have ji:=Slc.mono VI.mono eZ bS; have jj:=Slc.mono VapiRule.mono e0 bS; have e7:=eU.mono bS; ?_
     obtain ⟨jk,jm,H⟩:=bnd H
     refine Tp z z (SX.two (XA.fr [] Lr z) (XA.fr [1,1] Lr z)) (O.callS z (rule_seats_ok (show CF130 dn (.func (.func 80) #[] #[.pointer (some ⟨cX,0,none⟩),.pointer (some ⟨af,0,none⟩)]) (fun dm=>rule_New_2 dm p1 X) from ⟨⟨z,z⟩,.inr ⟨80,[],[.pointer (some ⟨cX,0,none⟩),.pointer (some ⟨af,0,none⟩)],z,fun e8 bU pa pb jn jo=>rule_New_2_ok (jd.mono bU) (show VapiProblem e8 [a5,aA,aB,a6,a7] p1 from ⟨a5,aA,aB,a6,a7,z,(Slc.mono VapiTable.mono je bU),(Slc.mono VapiGuest.mono jf bU),(Slc.mono VapiTie.mono jg bU),(Slc.mono VI.mono ji bU),(Slc.mono VapiRule.mono jj bU)⟩) (e7.mono bU) (show (VI .i64) e8 [.int .i64 X] X from z) jn jo⟩⟩) jm _) z fun bV pc pd cc jp=>?_) T.tno
     obtain ⟨pe,jq,jr⟩:=jp
     refine Sl_ _ jq<|T.tgrow cc<|T.rowFix fun e9 au js=>have jt:=RowF.mono VI.mono jr au; have eh:=RowF.slc js jt; Tp z z (SX.two (XA.fr [] au z) (XA.fr [1,1] au z)) (O.bs elrule2_106 zerule2_25 z (e:=z) (hk:=z) (xs:=[.tmp 120]) (hv:=CO.eq (CO.cons (Slc.cells eh) CO.nil)) (hw:=Wide.of z) (hd:=z) fun ju=>?_) T.tno
     have dq:RowF (VSl (VI .i64) 1) e9 [[bV]] ([jk]:List (List Int)):=(RowF.cons ⟨bV,z,eh⟩ RowF.nil)
     obtain ⟨el,ev,H⟩:=bnd H
     have ez:=((e5.trans cc).trans au)
     have fb:=RowF.mono (VSl.mono VI.mono) eu ez
     refine Tp z z (SX.two (XA.fr [] au z) (XA.fr [2,2] au z)) (O.apX elrule2_106 elrule2_106 zerule2_25 z z z (j:=2) z (Src.row (j:=0) z) (Wide.of z) (RowF.ones VSl.plain dq) fb dq ev z fun cJ pf pg=>?_) T.tno
     have jw:RowF (VSl (VI .i64) 1) e9 (ae ++ [[bV]]) el:=RowF.ap fb dq ev
     refine Sl_ (rowR 25 1 cJ (ae ++ [[bV]])::rowR 25 1 (.slice (some ⟨ju,0,none⟩) 1 1) [[bV]]::blk u (.cells [n,o,p,q,r,s,ag,aj,aq,bP,P,.slice none 0 0,.slice none 0 0,.slice none 0 0].toArray 111)::rowR 25 1 bP (ad ++ [[bk]])::rowR 4 1 aq (ac ++ [[.bool aK]])::rowR 3 1 aj (ab ++ [[.int .i64 ao]])::rowR 3 1 ag (aa ++ [[.int .i64 W]])::L) z<|Fr_ 1 z<|T.fl ?_
     refine T.drop<|T.tgrow au<|Tv z (V.nck rfl)<|Tv z (V.fa fdrule2_111_6 rfl)<|T.rowOne 0 rfl fun jx jy=>Tp z z (SX.one (XA.fr [] Lr rfl) rfl) (O.st (vs:=[cJ]) (k:=10) shrule2_106 rfl rfl (j:=1) rfl jy (by (simp only [Sl.ones,jx,Bool.and_true,Bool.true_and]) <;> rfl) ?_) T.tno
     refine T.fl ?_
     refine T.tnil (SX.one (XA.fr [] Lr z) z)<|Bn<|Th<|Sq<|Sr<|have fc:=(cc.trans au); have jA:=e7.mono fc; Vv (V.ld0 shrule2_3 z jA z)<|Nt<|Rg<|To (O.alloc zerule2_3 z z fun fd=>To (O.stF (vs:=[.int .i64 X]) shrule2_3 z z (j:=0) z z z z<|T.fl ?_))
     refine Nt<|T.norm [1,7,8,9,10,11,40,41] z<|Sl_ (blk fd (.cells [.int .i64 X].toArray 3)::blk u (.cells [n,o,p,q,r,s,ag,aj,aq,bP,cJ,.slice none 0 0,.slice none 0 0,.slice none 0 0].toArray 111)::rowR 25 1 cJ (ae ++ [[bV]])::rowR 25 1 bP (ad ++ [[bk]])::rowR 4 1 aq (ac ++ [[.bool aK]])::rowR 3 1 aj (ab ++ [[.int .i64 ao]])::rowR 3 1 ag (aa ++ [[.int .i64 W]])::L) z<|Rg<|Vv (V.ldO0 shrule2_3 z (j:=0) z z) ?_
     obtain ⟨fe,jB,H⟩:=bnd H
     refine Vv (V.addS z z jB)<|To (O.stF (vs:=[.int .i64 fe]) shrule2_3 z z (j:=0) z z z z<|T.fl ?_)
     refine Nt<|have jC:=RowF.mono VI.mono iI ez; have jD:=((((dk.trans cb).trans ar).trans cc).trans au); have jE:=RowF.mono VI.mono iS jD; have jG:=((((cI.trans cb).trans ar).trans cc).trans au); have jI:=RowF.mono VB.mono i0 jG; have jJ:=RowF.mono (VSl.mono VI.mono) ja fc; Fr_ 2 z<|T.fl ?_
     refine Fr_ 3 z<|T.fl ?_
     refine Fr_ 4 z<|T.fl ?_
     refine Fr_ 5 z<|T.fl ?_
     refine Fr_ 6 z<|T.fl ?_
     refine Fr_ 6 z<|T.fl ?_
     have jK:=(((((((c1.trans bN).trans cG).trans cI).trans cb).trans ar).trans cc).trans au)
     exact T.again (iD,ex,eE,eN,e3,el,fe,ag,(aa ++ [[.int .i64 W]]),aj,(ab ++ [[.int .i64 ao]]),aq,(ac ++ [[.bool aK]]),bP,(ad ++ [[bk]]),cJ,(ae ++ [[bV]]),fd) jK (Nat.lt_succ_self _) ⟨(iterK_in H ew),jC,jE,jI,jJ,jw⟩ (AllIn.app ⟨z,trivial⟩ ⟨z,z,z,z,z,z,z,trivial⟩) z
    refine T.exit<|Te<|Te<|have H:=iterK_out H ew; Be<|Th<|Fr_ 6 z<|T.fl ?_
    refine T.drop<|T.met (bG,bI,bJ,bK,bM,aJ,aa,an,ab,ai,ac,Y,ad,P,ae) c1 ⟨H,df,er,es,et,eu⟩ (AllIn.app trivial ⟨z,z,z,z,trivial⟩) z
   rintro ⟨b9,bh,bl,bv,bz,be,bA,bf,bB,bg,bC,bi,bD,bj,bE⟩ pi jM ⟨jN,jO,jP,jS,jU,jV⟩
   have H:=cutE jN it
   refine T.norm [1,7,40,41] z<|Sl_ (blk u (.cells [n,o,p,q,r,s,be,bf,bg,bi,bj,.slice none 0 0,.slice none 0 0,.slice none 0 0].toArray 111)::rowR 3 1 be bA::rowR 3 1 bf bB::rowR 4 1 bg bC::rowR 25 1 bi bD::rowR 25 1 bj bE::L) z<|Bn<|Th<|Rg ?_
   obtain ⟨jW,jX,H⟩:=bnd H
   refine Vv (V.addS z z jX)<|Mv z<|Nt<|have jY:=(((cC.trans cD).trans c0).trans jM); T.again (gv,b9,bh,bl,bv,bz,jW,be,bA,bf,bB,bg,bC,bi,bD,bj,bE) jY (Nat.lt_succ_self _) ⟨(iterK_in H eg),jO,jP,jS,jU,jV⟩ (AllIn.app ⟨z,trivial⟩ ⟨z,z,z,trivial⟩) z
  refine T.exit<|Te<|Te<|have H:=iterK_out H eg; Be<|Th<|T.met (az,ba,bb,bc,bd,aC,aP,aD,aS,aE,aU,aG,aV,aI,aW) cC ⟨H,eb,ec,ed,ee,ef⟩ (AllIn.app trivial ⟨z,z,trivial⟩) z
 rintro ⟨a8,a9,ah,al,av,f,D,d,C,c,A,b,y,a,w⟩ jZ cd ⟨j0,dr,ff,fg,fi,fj⟩
 have H:=cutE j0 g5
 refine T.norm [1,7] z<|Sl_ (blk u (.cells [n,o,p,q,r,s,f,d,c,b,a,.slice none 0 0,.slice none 0 0,.slice none 0 0].toArray 111)::rowR 3 1 f D::rowR 3 1 d C::rowR 4 1 c A::rowR 25 1 b y::rowR 25 1 a w::L) z<|Sq<|Sr<|Mv z<|Vv (V.nck z)<|Vv (V.fa fdrule2_111_2 z)<|Vv (V.ldO (k:=6) shrule2_25 z (j:=0) z z)<|Vv (V.lenX elrule2_25 z (j:=1) z dr.len)<|Mv z<|Nt ?_
 obtain ⟨fk,j1,j2⟩:=bndK H
 refine T.cutK (α:=(List (List (Int×Int)))×Value×(List (List Value))) [1,7] z (fun ⟨ce,m,N⟩=>[]) (fun ⟨ce,m,N⟩=>blk u (.cells [n,o,p,q,r,s,f,d,c,b,a,m,.slice none 0 0,.slice none 0 0].toArray 111)::rowR 3 1 f D::rowR 3 1 d C::rowR 4 1 c A::rowR 25 1 b y::rowR 25 1 a w::rowR 137 1 m N::L) (fun ⟨ce,m,N⟩ hh=>fk = ce∧RowF (VMp (Value.int .i64) false (VI .i64)) hh N ce) ?_ ?_
 ·have H:=j1
  refine Bl<|T.rowNil 137 1<|have j3:RowF (VMp (Value.int .i64) false (VI .i64)) jZ [] ([]:List (List (Int×Int))):=RowF.nil; Fr_ 6 z<|T.fl ?_
  refine Fr_ 6 z<|T.fl ?_
  refine Fr_ 6 z<|T.fl ?_
  refine Fr_ 6 z<|T.fl ?_
  refine Fr_ 6 z<|T.fl ?_
  refine Fr_ 6 z<|T.fl ?_
  refine T.loopK (α:=Nat×(List (List (Int×Int)))×Int×Value×(List (List Value))) [1,7,131] z (fun ⟨cf,bm,cg,S,Z⟩=>[(132,.int .i64 cg)]) (fun ⟨cf,bm,cg,S,Z⟩=>blk u (.cells [n,o,p,q,r,s,f,d,c,b,a,S,.slice none 0 0,.slice none 0 0].toArray 111)::rowR 3 1 f D::rowR 3 1 d C::rowR 4 1 c A::rowR 25 1 b y::rowR 25 1 a w::rowR 137 1 S Z::L) (fun ⟨cf,bm,cg,S,Z⟩ hh=>iter (rule_New_l2 da db a8 a9 ah al av) cf (bm,cg) = some fk∧RowF (VMp (Value.int .i64) false (VI .i64)) hh Z bm) (fun ⟨cf,bm,cg,S,Z⟩=>cf) (FUEL,([]:List (List (Int×Int))),(0:Int),(.slice none 0 0),[]) ⟨z,trivial⟩ z ⟨H,j3⟩ ?_
  rintro ⟨cf,bm,cg,S,Z⟩ pj cK ⟨j4,ds⟩
  obtain ⟨j5,pk,rfl,H,fm⟩:=iter_go j4
  refine T.norm [132,1,7,131] z<|Sl_ (blk u (.cells [n,o,p,q,r,s,f,d,c,b,a,S,.slice none 0 0,.slice none 0 0].toArray 111)::rowR 3 1 f D::rowR 3 1 d C::rowR 4 1 c A::rowR 25 1 b y::rowR 25 1 a w::rowR 137 1 S Z::L) z<|Sr<|Vv (V.lt z z)<|Nt<|Sq<|T.cH H z (fun H=>?_) (fun H=>?_)
  ·refine T.skip<|Th<|Sq<|Bl<|Sr<|Mv z<|Ag z<|Nt<|Fr_ 6 z<|T.fl ?_
   refine Fr_ 1 z<|T.fl ?_
   refine Fr_ 6 z<|T.fl ?_
   refine Fr_ 6 z<|T.fl ?_
   refine Fr_ 6 z<|T.fl ?_
   refine Fr_ 6 z<|T.fl ?_
   refine Fr_ 6 z<|T.fl ?_
   refine T.drawF (t:=(.v 0 (.v 1 (.v 2 (.v 3 (.x 4 (.v 5 (.v 6 (.alt 7 (.g (.alt 8 (.alt 9 (.g (.v 10 (.v 11 (.alt 12 .done .no)))) .no) .no)) .no))))))))) 9 7 5 rfl rfl rule2mixed (by kernel_rfl) ?_
   refine Tm z z<|Tm z z<|Tv z (V.nck z)<|Tv z (V.fa fdrule2_111_7 z)<|T.tx z z (Val.XA fun _ _ _=>V.ldO (k:=11) shrule2_107 z (j:=5) z z) z Calm.i<|Tm z z<|Tm z z<|Fr_ 6 z<|T.fl ?_
   refine Fr_ 5 z<|T.fl ?_
   refine Fr_ 5 z<|T.fl ?_
   refine Fr_ 5 z<|T.fl ?_
   refine Fr_ 5 z<|T.fl ?_
   refine Fr_ 5 z<|T.fl ?_
   refine Fr_ 6 z<|T.fl ?_
   obtain ⟨bn,j6,H⟩:=bnd H
   refine Tp z z (SX.two (XA.fr [5,5,5,5,5] Lr z) (XA.fr [6,1,6,6,6,6,6] Lr z)) (O.callS z (FnS.lendG (R:=fun v h' L'=>∃ L1_,L' = rowR 3 1 f D::L1_∧(∃ L2_,L1_ = rowR 3 1 d C::L2_∧(∃ L3_,L2_ = rowR 4 1 c A::L3_∧(∃ L4_,L3_ = rowR 25 1 b y::L4_∧(∃ L5_,L4_ = rowR 25 1 a w::L5_∧(∃ L6_,L5_ = rowR 137 1 S Z::L6_∧(∃ (U:Nat) (G:List MapEntry),v = .map (some U)∧L6_ = blk U (.map G.toArray G.length)::L∧MapG (Value.int .i64) false (VI .i64) h' 0 G bn))))))) Tryz.func82 z (fun _ _ _ _ ⟨a5_,b5_,⟨a4_,b4_,⟨a3_,b3_,⟨a2_,b2_,⟨a1_,b1_,⟨a0_,b0_,⟨e_0,e_1,v_,l_,f_0⟩⟩⟩⟩⟩⟩⟩=>⟨a5_,b5_,⟨a4_,b4_,⟨a3_,b3_,⟨a2_,b2_,⟨a1_,b1_,⟨a0_,b0_,⟨e_0,e_1,v_,l_,(MapG.free VI.free f_0)⟩⟩⟩⟩⟩⟩⟩) lendB fun pm c3 j7=>FnS.lendG (R:=fun v h' L'=>∃ L1_,L' = rowR 3 1 d C::L1_∧(∃ L2_,L1_ = rowR 4 1 c A::L2_∧(∃ L3_,L2_ = rowR 25 1 b y::L3_∧(∃ L4_,L3_ = rowR 25 1 a w::L4_∧(∃ L5_,L4_ = rowR 137 1 S Z::L5_∧(∃ (U:Nat) (G:List MapEntry),v = .map (some U)∧L5_ = blk U (.map G.toArray G.length)::L∧MapG (Value.int .i64) false (VI .i64) h' 0 G bn)))))) Tryz.func82 z (fun _ _ _ _ ⟨a4_,b4_,⟨a3_,b3_,⟨a2_,b2_,⟨a1_,b1_,⟨a0_,b0_,⟨e_0,e_1,v_,l_,f_0⟩⟩⟩⟩⟩⟩=>⟨a4_,b4_,⟨a3_,b3_,⟨a2_,b2_,⟨a1_,b1_,⟨a0_,b0_,⟨e_0,e_1,v_,l_,(MapG.free VI.free f_0)⟩⟩⟩⟩⟩⟩) lendR fun pn cM j8=>FnS.lendG (R:=fun v h' L'=>∃ L1_,L' = rowR 4 1 c A::L1_∧(∃ L2_,L1_ = rowR 25 1 b y::L2_∧(∃ L3_,L2_ = rowR 25 1 a w::L3_∧(∃ L4_,L3_ = rowR 137 1 S Z::L4_∧(∃ (U:Nat) (G:List MapEntry),v = .map (some U)∧L4_ = blk U (.map G.toArray G.length)::L∧MapG (Value.int .i64) false (VI .i64) h' 0 G bn))))) Tryz.func82 z (fun _ _ _ _ ⟨a3_,b3_,⟨a2_,b2_,⟨a1_,b1_,⟨a0_,b0_,⟨e_0,e_1,v_,l_,f_0⟩⟩⟩⟩⟩=>⟨a3_,b3_,⟨a2_,b2_,⟨a1_,b1_,⟨a0_,b0_,⟨e_0,e_1,v_,l_,(MapG.free VI.free f_0)⟩⟩⟩⟩⟩) lendR fun po ci j9=>FnS.lendG (R:=fun v h' L'=>∃ L1_,L' = rowR 25 1 b y::L1_∧(∃ L2_,L1_ = rowR 25 1 a w::L2_∧(∃ L3_,L2_ = rowR 137 1 S Z::L3_∧(∃ (U:Nat) (G:List MapEntry),v = .map (some U)∧L3_ = blk U (.map G.toArray G.length)::L∧MapG (Value.int .i64) false (VI .i64) h' 0 G bn)))) Tryz.func82 z (fun _ _ _ _ ⟨a2_,b2_,⟨a1_,b1_,⟨a0_,b0_,⟨e_0,e_1,v_,l_,f_0⟩⟩⟩⟩=>⟨a2_,b2_,⟨a1_,b1_,⟨a0_,b0_,⟨e_0,e_1,v_,l_,(MapG.free VI.free f_0)⟩⟩⟩⟩) lendR fun pp bW jh=>FnS.lendG (R:=fun v h' L'=>∃ L1_,L' = rowR 25 1 a w::L1_∧(∃ L2_,L1_ = rowR 137 1 S Z::L2_∧(∃ (U:Nat) (G:List MapEntry),v = .map (some U)∧L2_ = blk U (.map G.toArray G.length)::L∧MapG (Value.int .i64) false (VI .i64) h' 0 G bn))) Tryz.func82 z (fun _ _ _ _ ⟨a1_,b1_,⟨a0_,b0_,⟨e_0,e_1,v_,l_,f_0⟩⟩⟩=>⟨a1_,b1_,⟨a0_,b0_,⟨e_0,e_1,v_,l_,(MapG.free VI.free f_0)⟩⟩⟩) lendR fun pq bo jl=>FnS.lendG (R:=fun v h' L'=>∃ L1_,L' = rowR 137 1 S Z::L1_∧(∃ (U:Nat) (G:List MapEntry),v = .map (some U)∧L1_ = blk U (.map G.toArray G.length)::L∧MapG (Value.int .i64) false (VI .i64) h' 0 G bn)) Tryz.func82 z (fun _ _ _ _ ⟨a0_,b0_,⟨e_0,e_1,v_,l_,f_0⟩⟩=>⟨a0_,b0_,⟨e_0,e_1,v_,l_,(MapG.free VI.free f_0)⟩⟩) lendR fun pr aX jv=>FnS.lendG (R:=fun v h' L'=>∃ (U:Nat) (G:List MapEntry),v = .map (some U)∧L' = blk U (.map G.toArray G.length)::L∧MapG (Value.int .i64) false (VI .i64) h' 0 G bn) Tryz.func82 z (fun _ _ _ _ ⟨e_0,e_1,v_,l_,f_0⟩=>⟨e_0,e_1,v_,l_,(MapG.free VI.free f_0)⟩) lendR fun jz aY ka=>?_) z fun ps pt pu dt kb=>?_) T.tno
   ·have fn:=((cK.trans c3).trans cM)
    have kc:=RowF.mono VI.mono dr fn
    have kd:=RowF.slc j8 kc
    have fo:=(fn.trans ci)
    have ke:=RowF.mono VI.mono ff fo
    have kf:=RowF.slc j9 ke
    have fp:=(fo.trans bW)
    have kg:=RowF.mono VB.mono fg fp
    have ki:=RowF.slc jh kg
    have fq:=(fp.trans bo)
    have kj:=RowF.mono (VSl.mono VI.mono) fi fq
    have kk:=RowF.slc jl kj
    have km:=(fq.trans aX)
    have kn:=RowF.mono (VSl.mono VI.mono) fj km
    have ko:=RowF.slc jv kn
    have kp:=((((((c3.trans cM).trans ci).trans bW).trans bo).trans aX).trans aY)
    have kq:=RowF.mono (VMp.mono VI.mono) ds kp
    have kr:=RowF.slc ka kq
    have ks:=(((((cM.trans ci).trans bW).trans bo).trans aX).trans aY)
    have kt:=j7.mono ks
    have cN:=(((((((((cY.trans cd).trans cK).trans c3).trans cM).trans ci).trans bW).trans bo).trans aX).trans aY)
    have ku:=Slc.mono VapiTable.mono d8 cN
    have kw:=Slc.mono VapiGuest.mono d9 cN
    have kx:=Slc.mono VapiTie.mono dh cN
    have ky:=Slc.mono VI.mono dl cN
    have kA:=Slc.mono VapiRule.mono dv cN
    have kB:=((((((((cd.trans cK).trans c3).trans cM).trans ci).trans bW).trans bo).trans aX).trans aY)
    have kC:=Mp.mono Vrulekind.mono dc kB
    have kD:=((((ci.trans bW).trans bo).trans aX).trans aY)
    have kE:=Slc.mono VI.mono kd kD
    have kG:=(((bW.trans bo).trans aX).trans aY)
    have kI:=Slc.mono VI.mono kf kG
    have kJ:=((bo.trans aX).trans aY)
    have kK:=Slc.mono VB.mono ki kJ
    have kM:=(aX.trans aY)
    have kN:=Slc.mono (VSl.mono VI.mono) kk kM
    have kO:=Slc.mono (VSl.mono VI.mono) ko aY
    exact Judge_walk_ok (Pt.mk kt (show VruleJudge jz [n,o,p,q,r,s,f,d,c,b,a,S,.slice none 0 0,.slice none 0 0] (ruleJudge.mk da db a8 a9 ah al av bm ([]:List (List Bool)) ([]:List (List Int))) from ⟨n,o,p,q,r,s,f,d,c,b,a,S,(.slice none 0 0),(.slice none 0 0),z,ku,kw,kx,ky,kA,kC,kE,kI,kK,kN,kO,kr,Slc.nil,Slc.nil⟩)) j6 _
   obtain ⟨_,rfl,⟨_,rfl,⟨_,rfl,⟨_,rfl,⟨_,rfl,⟨_,rfl,⟨_,rfl,⟨bX,fs,rfl,rfl,kP⟩⟩⟩⟩⟩⟩⟩⟩:=kb
   refine Sl_ (blk u (.cells [n,o,p,q,r,s,f,d,c,b,a,S,.slice none 0 0,.slice none 0 0].toArray 111)::rowR 3 1 f D::rowR 3 1 d C::rowR 4 1 c A::rowR 25 1 b y::rowR 25 1 a w::rowR 137 1 S Z::blk bX (.map fs.toArray fs.length)::L) z<|T.tgrow dt<|Fr_ 7 z<|T.fl ?_
   refine T.mapFix VI.mono kP fun ft bY fu=>Tp z z (SX.two (XA.fr [5,5,5,5,5] bY z) (XA.fr [6,1,6,6,6,6,6] bY z)) (O.bs elrule2_107 zerule2_137 z (e:=z) (hk:=z) (xs:=[.tmp 142]) (hv:=CO.eq (CO.cons (Mp.cells fu) CO.nil)) (hw:=Wide.of z) (hd:=z) fun kS=>?_) T.tno
   have du:RowF (VMp (Value.int .i64) false (VI .i64)) ft [[(.map (some bX))]] ([bn]:List (List (Int×Int))):=(RowF.cons ⟨(.map (some bX)),z,fu⟩ RowF.nil)
   obtain ⟨fw,fx,H⟩:=bnd H
   have kU:=(dt.trans bY)
   have fy:=RowF.mono (VMp.mono VI.mono) ds kU
   refine Tp z z (SX.two (XA.fr [6,6,6,6,6] bY z) (XA.fr [7,2,7,7,7,7,7] bY z)) (O.apX elrule2_107 elrule2_107 zerule2_137 z z z (j:=7) z (Src.row (j:=0) z) (Wide.of z) (RowF.ones VMp.plain du) fy du fx z fun dw pw px=>?_) T.tno
   have kV:RowF (VMp (Value.int .i64) false (VI .i64)) ft (Z ++ [[(.map (some bX))]]) fw:=RowF.ap fy du fx
   refine Sl_ (rowR 137 1 dw (Z ++ [[(.map (some bX))]])::rowR 137 1 (.slice (some ⟨kS,0,none⟩) 1 1) [[(.map (some bX))]]::blk u (.cells [n,o,p,q,r,s,f,d,c,b,a,S,.slice none 0 0,.slice none 0 0].toArray 111)::rowR 3 1 f D::rowR 3 1 d C::rowR 4 1 c A::rowR 25 1 b y::rowR 25 1 a w::L) z<|Fr_ 1 z<|T.fl ?_
   refine T.drop<|T.tgrow bY<|Tv z (V.nck rfl)<|Tv z (V.fa fdrule2_111_7 rfl)<|T.rowOne 0 rfl fun kW kX=>Tp z z (SX.one (XA.fr [6,6,6,6,6] Lr rfl) rfl) (O.st (vs:=[dw]) (k:=11) shrule2_107 rfl rfl (j:=1) rfl kX (by (simp only [Sl.ones,kW,Bool.and_true,Bool.true_and]) <;> rfl) ?_) T.tno
   refine T.fl ?_
   refine T.tnil (SX.one (XA.fr [6,6,6,6,6] Lr z) z)<|Bn<|Th<|Rg ?_
   obtain ⟨kY,kZ,H⟩:=bnd H
   refine Vv (V.addS z z kZ)<|Mv z<|Nt<|Fr_ 1 z<|T.fl ?_
   refine Fr_ 6 z<|T.fl ?_
   refine Fr_ 6 z<|T.fl ?_
   refine Fr_ 6 z<|T.fl ?_
   refine Fr_ 6 z<|T.fl ?_
   refine Fr_ 6 z<|T.fl ?_
   refine Fr_ 6 z<|T.fl ?_
   have k0:=((cK.trans dt).trans bY)
   exact T.again (j5,fw,kY,dw,(Z ++ [[(.map (some bX))]])) k0 (Nat.lt_succ_self _) ⟨(iterK_in H fm),kV⟩ (AllIn.app ⟨z,trivial⟩ ⟨z,z,z,trivial⟩) z
  refine T.exit<|Te<|Te<|have H:=iterK_out H fm; Be<|Th<|T.met (bm,S,Z) cK ⟨H,ds⟩ (AllIn.app trivial ⟨z,z,trivial⟩) z
 rintro ⟨ce,m,N⟩ k1 cO ⟨k2,k3⟩
 have H:=cutE k2 j2
 refine T.norm [1,7] z<|Sl_ (blk u (.cells [n,o,p,q,r,s,f,d,c,b,a,m,.slice none 0 0,.slice none 0 0].toArray 111)::rowR 3 1 f D::rowR 3 1 d C::rowR 4 1 c A::rowR 25 1 b y::rowR 25 1 a w::rowR 137 1 m N::L) z<|Sr<|Vv (V.fa fdrule2_28_1 z)<|have fA:=(cd.trans cO); have dx:=dd.mono fA; Vv (V.ldf (k:=1) shrule2_23 z dx z)<|Vv (V.fa fdrule2_28_2 z)<|Vv (V.ldf (k:=2) shrule2_24 z dx z)<|have fB:=((cZ.trans cd).trans cO); have fC:=Slc.mono VapiTie.mono cz fB; have dy:=Slc.mono VapiGuest.mono cv fB; Vv (V.bld (xs:=[(0,.tmp 150),(1,.tmp 152)]) (cs:=[_,_]) blrule2_143 borule2_143 z (Fills.cons z (Slc.cells dy) z (Fills.cons z (Slc.cells fC) z Fills.nil))) ?_
 obtain ⟨⟨fD,py,pA⟩,k4,H⟩:=bnd H
 refine To (O.callS z (guest_Load_ok (show VapiRoll k1 [aA,aB] (apiRoll.mk p1.fGuests p1.fTies) from ⟨aA,aB,z,dy,fC⟩) k4 _) z fun pB fE pC bZ k5=>?_)
 obtain ⟨pD,rfl,k6,k7⟩:=k5
 refine Sl_ _ k6<|Mv z<|Vv (V.ext z z)<|Vv (V.ext z z)<|Vv (V.ext z z)<|Ag z<|Ag z<|Ag z<|Nt<|Sq<|Sr<|Vv (V.fa fdrule2_28_1 z)<|have fG:=dx.mono bZ; Vv (V.ldf (k:=1) shrule2_23 z fG z)<|have fI:=Slc.mono VapiGuest.mono dy bZ; Vv (V.lenS elrule2_23 z fI)<|Mv z<|Nt ?_
 obtain ⟨fJ,k8,k9⟩:=bndK H
 refine T.cutK (α:=(List (List Bool))×(List (List Int))×Value×(List (List Value))×Value×(List (List Value))) [7] z (fun ⟨cj,ck,aZ,cm,a0,cn⟩=>[]) (fun ⟨cj,ck,aZ,cm,a0,cn⟩=>blk u (.cells [n,o,p,q,r,s,f,d,c,b,a,m,aZ,a0].toArray 111)::rowR 3 1 f D::rowR 3 1 d C::rowR 4 1 c A::rowR 25 1 b y::rowR 25 1 a w::rowR 137 1 m N::rowR 105 1 aZ cm::rowR 144 1 a0 cn::L) (fun ⟨cj,ck,aZ,cm,a0,cn⟩ hh=>fJ = (cj,ck)∧RowF (VSl VB 1) hh cm cj∧RowF (VSl (VI .u8) 1) hh cn ck) ?_ ?_
 ·have H:=k8
  refine Bl<|T.rowNil 105 1<|have kh:RowF (VSl VB 1) fE [] ([]:List (List Bool)):=RowF.nil; T.rowNil 144 1<|have kl:RowF (VSl (VI .u8) 1) fE [] ([]:List (List Int)):=RowF.nil; Fr_ 1 z<|T.fl ?_
  refine Fr_ 8 z<|T.fl ?_
  refine Fr_ 8 z<|T.fl ?_
  refine Fr_ 8 z<|T.fl ?_
  refine Fr_ 8 z<|T.fl ?_
  refine Fr_ 8 z<|T.fl ?_
  refine Fr_ 8 z<|T.fl ?_
  refine Fr_ 8 z<|T.fl ?_
  refine T.loopK (α:=Nat×(List (List Bool))×(List (List Int))×Int×Value×(List (List Value))×Value×(List (List Value))) [1,7,13,159,160] z (fun ⟨co,b0,b1,cp,E,I,B,J⟩=>[(161,.int .i64 cp)]) (fun ⟨co,b0,b1,cp,E,I,B,J⟩=>blk u (.cells [n,o,p,q,r,s,f,d,c,b,a,m,E,B].toArray 111)::rowR 3 1 f D::rowR 3 1 d C::rowR 4 1 c A::rowR 25 1 b y::rowR 25 1 a w::rowR 137 1 m N::rowR 105 1 E I::rowR 144 1 B J::L) (fun ⟨co,b0,b1,cp,E,I,B,J⟩ hh=>iter (rule_New_l3 p1 fD) co (b0,b1,cp) = some fJ∧RowF (VSl VB 1) hh I b0∧RowF (VSl (VI .u8) 1) hh J b1) (fun ⟨co,b0,b1,cp,E,I,B,J⟩=>co) (FUEL,([]:List (List Bool)),([]:List (List Int)),(0:Int),(.slice none 0 0),[],(.slice none 0 0),[]) ⟨z,trivial⟩ z ⟨H,kh,kl⟩ ?_
  rintro ⟨co,b0,b1,cp,E,I,B,J⟩ pE dA ⟨kv,c4,c5⟩
  obtain ⟨dB,pG,rfl,H,c6⟩:=iter_go kv
  refine T.norm [161,1,7,13,159,160] z<|Sl_ (blk u (.cells [n,o,p,q,r,s,f,d,c,b,a,m,E,B].toArray 111)::rowR 3 1 f D::rowR 3 1 d C::rowR 4 1 c A::rowR 25 1 b y::rowR 25 1 a w::rowR 137 1 m N::rowR 105 1 E I::rowR 144 1 B J::L) z<|Sr<|Vv (V.lt z z)<|Nt<|Sq<|T.cH H z (fun H=>?_) (fun H=>?_)
  ·refine T.skip<|Th<|Sq<|Bl<|Sr ?_
   obtain ⟨a1,fK,H⟩:=bnd H
   have dC:=Slc.mono VapiGuest.mono fI dA
   obtain ⟨pI,kz,⟨ma,rfl,mb⟩⟩:=Slc.at dC fK
   refine Vv (V.ix elrule2_23 rfl rfl dC (getI_bd fK))<|Vv (V.ldS rfl kz (by exact shrule2_35)) ?_
   refine To (O.alloc zerule2_35 rfl rfl fun pJ=>To (O.stF (vs:=[.string a1.fName,.string a1.fRank,.string a1.fCourt,.int .i64 a1.fSince,.int .i64 a1.fSide,.string a1.fDiet,.bool a1.fHost,.bool a1.fAccess,ma]) shrule2_35 rfl rfl (j:=0) rfl rfl (by (simp only [Sl.ones,Slc.one mb,Bool.and_true,Bool.true_and]) <;> rfl) rfl ?_))
   refine T.fl ?_
   refine T.freeze fun fM cP mc=>have md:=AtC.of mc; Nt<|Sr<|Ag z<|Nt<|Sr<|Ag z<|Nt<|Sq<|Sr<|Vv (V.fa fdrule2_28_1 z)<|have cS:=(dA.trans cP); have me:=fG.mono cS; Vv (V.ldf (k:=1) shrule2_23 z me z)<|have fN:=Slc.mono VapiGuest.mono dC cP; Vv (V.lenS elrule2_23 z fN)<|Mv z<|Nt ?_
   obtain ⟨fO,mf,mg⟩:=bndK H
   refine T.cutK (α:=(List Bool)×(List Int)×Value×(List (List Value))×Value×(List (List Value))) [1,7,13,159,160,161] z (fun ⟨b2,bp,M,cq,K,cr⟩=>[(18,M),(19,K)]) (fun ⟨b2,bp,M,cq,K,cr⟩=>blk u (.cells [n,o,p,q,r,s,f,d,c,b,a,m,E,B].toArray 111)::rowR 3 1 f D::rowR 3 1 d C::rowR 4 1 c A::rowR 25 1 b y::rowR 25 1 a w::rowR 137 1 m N::rowR 105 1 E I::rowR 144 1 B J::rowR 4 1 M cq::rowR 146 1 K cr::L) (fun ⟨b2,bp,M,cq,K,cr⟩ hh=>fO = (b2,bp)∧RowF VB hh cq b2∧RowF (VI .u8) hh cr bp) ?_ ?_
   ·have H:=mf
    refine Bl<|T.rowNil 4 1<|have mi:RowF VB fM [] ([]:List Bool):=RowF.nil; T.rowNil 146 1<|have mj:RowF (VI .u8) fM [] ([]:List Int):=RowF.nil; Fr_ 1 z<|T.fl ?_
    refine Fr_ 10 z<|T.fl ?_
    refine Fr_ 10 z<|T.fl ?_
    refine Fr_ 10 z<|T.fl ?_
    refine Fr_ 10 z<|T.fl ?_
    refine Fr_ 10 z<|T.fl ?_
    refine Fr_ 10 z<|T.fl ?_
    refine Fr_ 10 z<|T.fl ?_
    refine Fr_ 10 z<|T.fl ?_
    refine Fr_ 10 z<|T.fl ?_
    refine T.loopK (α:=Nat×Int×(List Bool)×(List Int)×Value×(List (List Value))×Value×(List (List Value))) [1,7,13,17,159,160,161,166,167] z (fun ⟨ct,cu,b3,b4,bq,ak,a2,am⟩=>[(168,.int .i64 cu),(18,bq),(19,a2)]) (fun ⟨ct,cu,b3,b4,bq,ak,a2,am⟩=>blk u (.cells [n,o,p,q,r,s,f,d,c,b,a,m,E,B].toArray 111)::rowR 3 1 f D::rowR 3 1 d C::rowR 4 1 c A::rowR 25 1 b y::rowR 25 1 a w::rowR 137 1 m N::rowR 105 1 E I::rowR 144 1 B J::rowR 4 1 bq ak::rowR 146 1 a2 am::L) (fun ⟨ct,cu,b3,b4,bq,ak,a2,am⟩ hh=>iter (rule_New_l4 p1 fD a1) ct (cu,b3,b4) = some fO∧RowF VB hh ak b3∧RowF (VI .u8) hh am b4) (fun ⟨ct,cu,b3,b4,bq,ak,a2,am⟩=>ct) (FUEL,(0:Int),([]:List Bool),([]:List Int),(.slice none 0 0),[],(.slice none 0 0),[]) ⟨z,z,z,trivial⟩ z ⟨H,mi,mj⟩ ?_
    rintro ⟨ct,cu,b3,b4,bq,ak,a2,am⟩ pK c7 ⟨mm,fP,fS⟩
    obtain ⟨mn,pM,rfl,H,fU⟩:=iter_go mm
    refine T.norm [168,18,19,1,7,13,17,159,160,161,166,167] z<|Sl_ (blk u (.cells [n,o,p,q,r,s,f,d,c,b,a,m,E,B].toArray 111)::rowR 3 1 f D::rowR 3 1 d C::rowR 4 1 c A::rowR 25 1 b y::rowR 25 1 a w::rowR 137 1 m N::rowR 105 1 E I::rowR 144 1 B J::rowR 4 1 bq ak::rowR 146 1 a2 am::L) z<|Sr<|Vv (V.lt z z)<|Nt<|Sq<|T.cH H z (fun H=>?_) (fun H=>?_)
    ·refine T.skip<|Th<|Sq<|Bl<|Sr ?_
     obtain ⟨br,fV,H⟩:=bnd H
     have fW:=Slc.mono VapiGuest.mono fN c7
     obtain ⟨pN,mo,⟨mp,rfl,mq⟩⟩:=Slc.at fW fV
     refine Vv (V.ix elrule2_23 rfl rfl fW (getI_bd fV))<|Vv (V.ldS rfl mo (by exact shrule2_35)) ?_
     refine To (O.alloc zerule2_35 rfl rfl fun pO=>To (O.stF (vs:=[.string br.fName,.string br.fRank,.string br.fCourt,.int .i64 br.fSince,.int .i64 br.fSide,.string br.fDiet,.bool br.fHost,.bool br.fAccess,mp]) shrule2_35 rfl rfl (j:=0) rfl rfl (by (simp only [Sl.ones,Slc.one mq,Bool.and_true,Bool.true_and]) <;> rfl) rfl ?_))
     refine T.fl ?_
     refine T.freeze fun pP dD mr=>have fX:=AtC.of mr; Nt<|Sr<|Mv z<|Mv z<|Vv (V.fa fdrule2_35_0 z)<|have fY:=(c7.trans dD); have fZ:=md.mono fY; Vv (V.ldf (k:=0) shrule2_9 z fZ z)<|Vv (V.fa fdrule2_35_0 z)<|Vv (V.ldf (k:=0) shrule2_9 z fX z)<|have ms:=((cS.trans c7).trans dD); have f0:=Pt.mono VguestBook.mono k7 ms; ?_
     obtain ⟨bt,mt,H⟩:=bnd H
     refine To (O.callS z (Book_Common_ok f0 mt _) z fun dE f1 pS cU mu=>?_)
     obtain ⟨dG,mw,mx⟩:=mu
     refine Sl_ _ mw<|Vv (V.lenX elrule2_33 z (j:=0) z mx.len)<|Vv (V.gt z z)<|To (O.bs elrule2_105 zerule2_4 z (e:=z) (hk:=z) (xs:=[.tmp 180]) (hv:=CO.eq (CO.cons z CO.nil)) (hw:=Wide.of z) (hd:=z) fun my=>have dI:RowF VB f1 [[.bool (decide ((0:Int) < (bt.length:Int)))]] ([decide ((0:Int) < (bt.length:Int))]:List Bool):=(RowF.cons z RowF.nil); ?_)
     obtain ⟨f2,f3,H⟩:=bnd H
     have f4:=(dD.trans cU)
     have f5:=RowF.mono VB.mono fP f4
     refine To (O.apX elrule2_105 elrule2_105 zerule2_4 z z z (j:=11) z (Src.row (j:=0) z) (Wide.of z) (RowF.ones VB.plain dI) f5 dI f3 z fun c8 pU pV=>have mA:RowF VB f1 (ak ++ [[.bool (decide ((0:Int) < (bt.length:Int)))]]) f2:=RowF.ap f5 dI f3; Sl_ (rowR 4 1 c8 (ak ++ [[.bool (decide ((0:Int) < (bt.length:Int)))]])::rowR 4 1 (.slice (some ⟨my,0,none⟩) 1 1) [[.bool (decide ((0:Int) < (bt.length:Int)))]]::rowR 9 1 dE dG::blk u (.cells [n,o,p,q,r,s,f,d,c,b,a,m,E,B].toArray 111)::rowR 3 1 f D::rowR 3 1 d C::rowR 4 1 c A::rowR 25 1 b y::rowR 25 1 a w::rowR 137 1 m N::rowR 105 1 E I::rowR 144 1 B J::rowR 146 1 a2 am::L) z<|Fr_ 1 z<|T.fl ?_)
     refine T.drop<|Ag z<|Nt<|Sr<|Mv z<|Vv (V.fa fdrule2_35_0 z)<|have mB:=fZ.mono cU; Vv (V.ldf (k:=0) shrule2_9 z mB z)<|Vv (V.fa fdrule2_35_0 z)<|have mC:=fX.mono cU; Vv (V.ldf (k:=0) shrule2_9 z mC z)<|have mD:=Pt.mono VguestBook.mono f0 cU; ?_
     obtain ⟨⟨b5,pW⟩,mE,H⟩:=bnd H
     refine To (O.callS z (Book_Tied_ok mD mE _) z fun pX f6 pY dJ mG=>?_)
     obtain ⟨rfl,mI⟩:=mG
     refine Sl_ _ mI<|Mv z<|Vv (V.ext z z)<|Vv (V.ext z z)<|Ag z<|Ag z<|Nt<|Rg<|Mv z<|Mv z<|To (O.bs elrule2_144 zerule2_146 z (e:=z) (hk:=z) (xs:=[.tmp 193]) (hv:=CO.eq (CO.cons z CO.nil)) (hw:=Wide.of z) (hd:=z) fun mJ=>have dK:RowF (VI .u8) f6 [[.int .u8 b5]] ([b5]:List Int):=(RowF.cons z RowF.nil); ?_)
     obtain ⟨f7,f8,H⟩:=bnd H
     have mK:=(f4.trans dJ)
     have f9:=RowF.mono VI.mono fS mK
     refine To (O.apX elrule2_144 elrule2_144 zerule2_146 z z z (j:=12) z (Src.row (j:=0) z) (Wide.of z) (RowF.ones VI.plain dK) f9 dK f8 z fun dM pZ p0=>have mM:RowF (VI .u8) f6 (am ++ [[.int .u8 b5]]) f7:=RowF.ap f9 dK f8; Sl_ (rowR 146 1 dM (am ++ [[.int .u8 b5]])::rowR 146 1 (.slice (some ⟨mJ,0,none⟩) 1 1) [[.int .u8 b5]]::rowR 4 1 c8 (ak ++ [[.bool (decide ((0:Int) < (bt.length:Int)))]])::rowR 9 1 dE dG::blk u (.cells [n,o,p,q,r,s,f,d,c,b,a,m,E,B].toArray 111)::rowR 3 1 f D::rowR 3 1 d C::rowR 4 1 c A::rowR 25 1 b y::rowR 25 1 a w::rowR 137 1 m N::rowR 105 1 E I::rowR 144 1 B J::L) z<|Fr_ 1 z<|T.fl ?_)
     refine T.drop<|Ag z<|Ni<|Bn<|Th<|T.norm [1,7,13,17,18,19,159,160,161,166,167,168] z<|Sl_ (rowR 146 1 dM (am ++ [[.int .u8 b5]])::rowR 4 1 c8 (ak ++ [[.bool (decide ((0:Int) < (bt.length:Int)))]])::rowR 9 1 dE dG::blk u (.cells [n,o,p,q,r,s,f,d,c,b,a,m,E,B].toArray 111)::rowR 3 1 f D::rowR 3 1 d C::rowR 4 1 c A::rowR 25 1 b y::rowR 25 1 a w::rowR 137 1 m N::rowR 105 1 E I::rowR 144 1 B J::L) z<|Rg ?_
     obtain ⟨mN,mO,H⟩:=bnd H
     refine Vv (V.addS z z mO)<|Mv z<|Nt<|have mP:=RowF.mono VB.mono mA dJ; Fr_ 2 z<|T.fl ?_
     refine T.drop<|Fr_ 1 z<|T.fl ?_
     refine Fr_ 10 z<|T.fl ?_
     refine Fr_ 10 z<|T.fl ?_
     refine Fr_ 10 z<|T.fl ?_
     refine Fr_ 10 z<|T.fl ?_
     refine Fr_ 10 z<|T.fl ?_
     refine Fr_ 10 z<|T.fl ?_
     refine Fr_ 10 z<|T.fl ?_
     refine Fr_ 10 z<|T.fl ?_
     refine Fr_ 10 z<|T.fl ?_
     have mS:=((fY.trans cU).trans dJ)
     exact T.again (mn,mN,f2,f7,c8,(ak ++ [[.bool (decide ((0:Int) < (bt.length:Int)))]]),dM,(am ++ [[.int .u8 b5]])) mS (Nat.lt_succ_self _) ⟨(iterK_in H fU),mP,mM⟩ (AllIn.app ⟨z,z,z,trivial⟩ ⟨z,z,z,z,z,z,z,z,z,trivial⟩) z
    refine T.exit<|Te<|Te<|have H:=iterK_out H fU; Be<|Th<|T.met (b3,b4,bq,ak,a2,am) c7 ⟨H,fP,fS⟩ (AllIn.app ⟨z,z,trivial⟩ ⟨z,z,z,z,z,z,trivial⟩) z
   rintro ⟨b2,bp,M,cq,K,cr⟩ p2 cw ⟨mU,mV,mW⟩
   have H:=cutE mU mg
   refine T.norm [18,19,1,7,13,159,160,161] z<|Sl_ (blk u (.cells [n,o,p,q,r,s,f,d,c,b,a,m,E,B].toArray 111)::rowR 3 1 f D::rowR 3 1 d C::rowR 4 1 c A::rowR 25 1 b y::rowR 25 1 a w::rowR 137 1 m N::rowR 105 1 E I::rowR 144 1 B J::rowR 4 1 M cq::rowR 146 1 K cr::L) z<|Fr_ 9 z<|T.fl ?_
   refine T.rowFix fun p3 bu mX=>have mY:=RowF.mono VB.mono mV bu; have fh:=RowF.slc mX mY; Fr_ 9 z<|T.fl ?_
   refine T.rowFix fun aw a3 mZ=>have m0:=(bu.trans a3); have m1:=RowF.mono VI.mono mW m0; have cx:=RowF.slc mZ m1; T.drawF (t:=(.v 0 (.v 1 (.v 2 (.v 3 (.v 4 (.x 5 (.v 6 (.v 9 (.v 10 (.v 11 (.x 12 (.v 13 (.alt 7 (.alt 8 (.g (.alt 14 (.alt 15 (.g (.v 16 (.v 17 (.alt 18 (.g (.v 19 (.v 20 (.alt 21 .done .no)))) .no)))) .no) .no)) (.alt 14 (.alt 8 (.g (.alt 15 (.g (.v 16 (.v 17 (.alt 18 (.g (.v 19 (.v 20 (.alt 21 .done .no)))) .no)))) .no)) .no) .no)) (.alt 14 (.alt 7 (.alt 8 (.g (.alt 15 (.g (.v 16 (.v 17 (.alt 18 (.g (.v 19 (.v 20 (.alt 21 .done .no)))) .no)))) .no)) .no) .no) .no))))))))))))))) 18 1 0 rfl rfl rule2mixed (by kernel_rfl) ?_
   refine Tm z z<|Tm z z<|Tm z z<|Tv z (V.nck z)<|Tv z (V.fa fdrule2_111_8 z)<|T.tx z z (Val.XA fun _ _ _=>V.ldO (k:=12) shrule2_108 z (j:=0) z z) z Calm.i<|Tm z z<|Tm z z<|Tv z (V.nck z)<|Tv z (V.fa fdrule2_111_9 z)<|T.tx z z (Val.XA fun _ _ _=>V.ldO (k:=13) shrule2_109 z (j:=0) z z) z Calm.i<|Tm z z<|T.tfork ?_ ?_
   ·have fv:=Slc.mono VB.mono fh a3
    refine Tp z z (SX.two (XA.fr [] Lr z) (XA.fr [0] Lr z)) (O.bs elrule2_108 zerule2_105 z (e:=z) (hk:=z) (xs:=[.tmp 203]) (hv:=CO.eq (CO.cons (Slc.cells fv) CO.nil)) (hw:=Wide.of z) (hd:=z) fun fz=>?_) T.tno
    have cy:RowF (VSl VB 1) aw [[M]] ([b2]:List (List Bool)):=(RowF.cons ⟨M,z,fv⟩ RowF.nil)
    refine T.tfork ?_ ?_
    ·obtain ⟨ga,gb,H⟩:=bnd H
     have gc:=(((cP.trans cw).trans bu).trans a3)
     have gd:=RowF.mono (VSl.mono VB.mono) c4 gc
     refine Tp z z (SX.two (XA.fr [] Lr z) (XA.fr [1] Lr z)) (O.apX elrule2_108 elrule2_108 zerule2_105 z z z (j:=8) z (Src.row (j:=0) z) (Wide.of z) (RowF.ones VSl.plain cy) gd cy gb z fun c9 p4 p5=>?_) T.tno
     have m2:RowF (VSl VB 1) aw (I ++ [[M]]) ga:=RowF.ap gd cy gb
     refine Sl_ (rowR 105 1 c9 (I ++ [[M]])::rowR 105 1 (.slice (some ⟨fz,0,none⟩) 1 1) [[M]]::blk u (.cells [n,o,p,q,r,s,f,d,c,b,a,m,E,B].toArray 111)::rowR 3 1 f D::rowR 3 1 d C::rowR 4 1 c A::rowR 25 1 b y::rowR 25 1 a w::rowR 137 1 m N::rowR 144 1 B J::L) z<|Fr_ 1 z<|T.fl ?_
     refine T.drop<|T.tgrow Lr<|Tp z z (SX.two (XA.fr [] Lr z) (XA.fr [1] Lr z)) (O.bs elrule2_109 zerule2_144 z (e:=z) (hk:=z) (xs:=[.tmp 210]) (hv:=CO.eq (CO.cons (Slc.cells cx) CO.nil)) (hw:=Wide.of z) (hd:=z) fun m3=>?_) T.tno
     have dN:RowF (VSl (VI .u8) 1) aw [[K]] ([bp]:List (List Int)):=(RowF.cons ⟨K,z,cx⟩ RowF.nil)
     obtain ⟨ge,gf,H⟩:=bnd H
     have gg:=RowF.mono (VSl.mono VI.mono) c5 gc
     refine Tp z z (SX.two (XA.fr [] Lr z) (XA.fr [2] Lr z)) (O.apX elrule2_109 elrule2_109 zerule2_144 z z z (j:=9) z (Src.row (j:=0) z) (Wide.of z) (RowF.ones VSl.plain dN) gg dN gf z fun dO p6 p7=>?_) T.tno
     have m4:RowF (VSl (VI .u8) 1) aw (J ++ [[K]]) ge:=RowF.ap gg dN gf
     refine Sl_ (rowR 144 1 dO (J ++ [[K]])::rowR 144 1 (.slice (some ⟨m3,0,none⟩) 1 1) [[K]]::rowR 105 1 c9 (I ++ [[M]])::blk u (.cells [n,o,p,q,r,s,f,d,c,b,a,m,E,B].toArray 111)::rowR 3 1 f D::rowR 3 1 d C::rowR 4 1 c A::rowR 25 1 b y::rowR 25 1 a w::rowR 137 1 m N::L) z<|Fr_ 1 z<|T.fl ?_
     refine T.drop<|T.tgrow Lr<|Tv z (V.nck rfl)<|Tv z (V.fa fdrule2_111_8 rfl)<|T.rowOne 1 rfl fun m5 m6=>Tp z z (SX.two (XA.fr [] Lr rfl) (XA.fr [2] Lr rfl)) (O.st (vs:=[c9]) (k:=12) shrule2_108 rfl rfl (j:=2) rfl m6 (by (simp only [Sl.ones,m5,Bool.and_true,Bool.true_and]) <;> rfl) ?_) T.tno
     refine T.fl ?_
     refine T.tgrow Lr<|Tv z (V.nck rfl)<|Tv z (V.fa fdrule2_111_9 rfl)<|T.rowOne 1 rfl fun m7 m8=>Tp z z (SX.one (XA.fr [] Lr rfl) rfl) (O.st (vs:=[dO]) (k:=13) shrule2_109 rfl rfl (j:=0) rfl m8 (by (simp only [Sl.ones,m7,Bool.and_true,Bool.true_and]) <;> rfl) ?_) T.tno
     refine T.fl ?_
     refine T.tnil (SX.one (XA.fr [] Lr z) z)<|Bn<|Th<|Rg ?_
     obtain ⟨m9,mh,H⟩:=bnd H
     refine Vv (V.addS z z mh)<|Mv z<|Nt<|Fr_ 1 z<|T.fl ?_
     refine Fr_ 2 z<|T.fl ?_
     refine Fr_ 8 z<|T.fl ?_
     refine Fr_ 8 z<|T.fl ?_
     refine Fr_ 8 z<|T.fl ?_
     refine Fr_ 8 z<|T.fl ?_
     refine Fr_ 8 z<|T.fl ?_
     refine Fr_ 8 z<|T.fl ?_
     refine Fr_ 8 z<|T.fl ?_
     have ml:=(((cS.trans cw).trans bu).trans a3)
     exact T.again (dB,ga,ge,m9,c9,(I ++ [[M]]),dO,(J ++ [[K]])) ml (Nat.lt_succ_self _) ⟨(iterK_in H c6),m2,m4⟩ (AllIn.app ⟨z,trivial⟩ ⟨z,z,z,z,z,trivial⟩) z
    refine Tp z z (SX.two (XA.fr [] Lr z) (XA.fr [1] Lr z)) (O.bs elrule2_109 zerule2_144 z (e:=z) (hk:=z) (xs:=[.tmp 210]) (hv:=CO.eq (CO.cons (Slc.cells cx) CO.nil)) (hw:=Wide.of z) (hd:=z) fun gi=>?_) T.tno
    have dP:RowF (VSl (VI .u8) 1) aw [[K]] ([bp]:List (List Int)):=(RowF.cons ⟨K,z,cx⟩ RowF.nil)
    obtain ⟨gj,gk,H⟩:=bnd H
    have gm:=(((cP.trans cw).trans bu).trans a3)
    have gn:=RowF.mono (VSl.mono VB.mono) c4 gm
    refine Tp z z (SX.two (XA.fr [] Lr z) (XA.fr [2] Lr z)) (O.apX elrule2_108 elrule2_108 zerule2_105 z z z (j:=9) z (Src.row (j:=1) z) (Wide.of z) (RowF.ones VSl.plain cy) gn cy gk z fun ch p8 p9=>?_) T.tno
    have mv:RowF (VSl VB 1) aw (I ++ [[M]]) gj:=RowF.ap gn cy gk
    refine Sl_ (rowR 105 1 ch (I ++ [[M]])::rowR 144 1 (.slice (some ⟨gi,0,none⟩) 1 1) [[K]]::rowR 105 1 (.slice (some ⟨fz,0,none⟩) 1 1) [[M]]::blk u (.cells [n,o,p,q,r,s,f,d,c,b,a,m,E,B].toArray 111)::rowR 3 1 f D::rowR 3 1 d C::rowR 4 1 c A::rowR 25 1 b y::rowR 25 1 a w::rowR 137 1 m N::rowR 144 1 B J::L) z<|Fr_ 2 z<|T.fl ?_
    refine T.drop<|T.tgrow Lr ?_
    obtain ⟨go,gp,H⟩:=bnd H
    have gq:=RowF.mono (VSl.mono VI.mono) c5 gm
    refine Tp z z (SX.two (XA.fr [] Lr z) (XA.fr [2] Lr z)) (O.apX elrule2_109 elrule2_109 zerule2_144 z z z (j:=9) z (Src.row (j:=1) z) (Wide.of z) (RowF.ones VSl.plain dP) gq dP gp z fun dS ph pl=>?_) T.tno
    have mz:RowF (VSl (VI .u8) 1) aw (J ++ [[K]]) go:=RowF.ap gq dP gp
    refine Sl_ (rowR 144 1 dS (J ++ [[K]])::rowR 105 1 ch (I ++ [[M]])::rowR 144 1 (.slice (some ⟨gi,0,none⟩) 1 1) [[K]]::blk u (.cells [n,o,p,q,r,s,f,d,c,b,a,m,E,B].toArray 111)::rowR 3 1 f D::rowR 3 1 d C::rowR 4 1 c A::rowR 25 1 b y::rowR 25 1 a w::rowR 137 1 m N::L) z<|Fr_ 2 z<|T.fl ?_
    refine T.drop<|T.tgrow Lr<|Tv z (V.nck rfl)<|Tv z (V.fa fdrule2_111_8 rfl)<|T.rowOne 1 rfl fun na nb=>Tp z z (SX.two (XA.fr [] Lr rfl) (XA.fr [2] Lr rfl)) (O.st (vs:=[ch]) (k:=12) shrule2_108 rfl rfl (j:=2) rfl nb (by (simp only [Sl.ones,na,Bool.and_true,Bool.true_and]) <;> rfl) ?_) T.tno
    refine T.fl ?_
    refine T.tgrow Lr<|Tv z (V.nck rfl)<|Tv z (V.fa fdrule2_111_9 rfl)<|T.rowOne 1 rfl fun nc nd=>Tp z z (SX.one (XA.fr [] Lr rfl) rfl) (O.st (vs:=[dS]) (k:=13) shrule2_109 rfl rfl (j:=0) rfl nd (by (simp only [Sl.ones,nc,Bool.and_true,Bool.true_and]) <;> rfl) ?_) T.tno
    refine T.fl ?_
    refine T.tnil (SX.one (XA.fr [] Lr z) z)<|Bn<|Th<|Rg ?_
    obtain ⟨nf,ng,H⟩:=bnd H
    refine Vv (V.addS z z ng)<|Mv z<|Nt<|Fr_ 1 z<|T.fl ?_
    refine Fr_ 2 z<|T.fl ?_
    refine Fr_ 8 z<|T.fl ?_
    refine Fr_ 8 z<|T.fl ?_
    refine Fr_ 8 z<|T.fl ?_
    refine Fr_ 8 z<|T.fl ?_
    refine Fr_ 8 z<|T.fl ?_
    refine Fr_ 8 z<|T.fl ?_
    refine Fr_ 8 z<|T.fl ?_
    have ni:=(((cS.trans cw).trans bu).trans a3)
    exact T.again (dB,gj,go,nf,ch,(I ++ [[M]]),dS,(J ++ [[K]])) ni (Nat.lt_succ_self _) ⟨(iterK_in H c6),mv,mz⟩ (AllIn.app ⟨z,trivial⟩ ⟨z,z,z,z,z,trivial⟩) z
   refine Tp z z (SX.two (XA.fr [] Lr z) (XA.fr [0] Lr z)) (O.bs elrule2_109 zerule2_144 z (e:=z) (hk:=z) (xs:=[.tmp 210]) (hv:=CO.eq (CO.cons (Slc.cells cx) CO.nil)) (hw:=Wide.of z) (hd:=z) fun gr=>?_) T.tno
   have dU:RowF (VSl (VI .u8) 1) aw [[K]] ([bp]:List (List Int)):=(RowF.cons ⟨K,z,cx⟩ RowF.nil)
   have gs:=Slc.mono VB.mono fh a3
   refine Tp z z (SX.two (XA.fr [] Lr z) (XA.fr [1] Lr z)) (O.bs elrule2_108 zerule2_105 z (e:=z) (hk:=z) (xs:=[.tmp 203]) (hv:=CO.eq (CO.cons (Slc.cells gs) CO.nil)) (hw:=Wide.of z) (hd:=z) fun nj=>?_) T.tno
   have dV:RowF (VSl VB 1) aw [[M]] ([b2]:List (List Bool)):=(RowF.cons ⟨M,z,gs⟩ RowF.nil)
   obtain ⟨gu,gw,H⟩:=bnd H
   have gx:=(((cP.trans cw).trans bu).trans a3)
   have gy:=RowF.mono (VSl.mono VB.mono) c4 gx
   refine Tp z z (SX.two (XA.fr [] Lr z) (XA.fr [2] Lr z)) (O.apX elrule2_108 elrule2_108 zerule2_105 z z z (j:=9) z (Src.row (j:=0) z) (Wide.of z) (RowF.ones VSl.plain dV) gy dV gw z fun cl pv pz=>?_) T.tno
   have nk:RowF (VSl VB 1) aw (I ++ [[M]]) gu:=RowF.ap gy dV gw
   refine Sl_ (rowR 105 1 cl (I ++ [[M]])::rowR 105 1 (.slice (some ⟨nj,0,none⟩) 1 1) [[M]]::rowR 144 1 (.slice (some ⟨gr,0,none⟩) 1 1) [[K]]::blk u (.cells [n,o,p,q,r,s,f,d,c,b,a,m,E,B].toArray 111)::rowR 3 1 f D::rowR 3 1 d C::rowR 4 1 c A::rowR 25 1 b y::rowR 25 1 a w::rowR 137 1 m N::rowR 144 1 B J::L) z<|Fr_ 1 z<|T.fl ?_
   refine T.drop<|T.tgrow Lr ?_
   obtain ⟨gA,gB,H⟩:=bnd H
   have gC:=RowF.mono (VSl.mono VI.mono) c5 gx
   refine Tp z z (SX.two (XA.fr [] Lr z) (XA.fr [2] Lr z)) (O.apX elrule2_109 elrule2_109 zerule2_144 z z z (j:=9) z (Src.row (j:=1) z) (Wide.of z) (RowF.ones VSl.plain dU) gC dU gB z fun dW qa qb=>?_) T.tno
   have nm:RowF (VSl (VI .u8) 1) aw (J ++ [[K]]) gA:=RowF.ap gC dU gB
   refine Sl_ (rowR 144 1 dW (J ++ [[K]])::rowR 105 1 cl (I ++ [[M]])::rowR 144 1 (.slice (some ⟨gr,0,none⟩) 1 1) [[K]]::blk u (.cells [n,o,p,q,r,s,f,d,c,b,a,m,E,B].toArray 111)::rowR 3 1 f D::rowR 3 1 d C::rowR 4 1 c A::rowR 25 1 b y::rowR 25 1 a w::rowR 137 1 m N::L) z<|Fr_ 2 z<|T.fl ?_
   refine T.drop<|T.tgrow Lr<|Tv z (V.nck rfl)<|Tv z (V.fa fdrule2_111_8 rfl)<|T.rowOne 1 rfl fun nn np=>Tp z z (SX.two (XA.fr [] Lr rfl) (XA.fr [2] Lr rfl)) (O.st (vs:=[cl]) (k:=12) shrule2_108 rfl rfl (j:=2) rfl np (by (simp only [Sl.ones,nn,Bool.and_true,Bool.true_and]) <;> rfl) ?_) T.tno
   refine T.fl ?_
   refine T.tgrow Lr<|Tv z (V.nck rfl)<|Tv z (V.fa fdrule2_111_9 rfl)<|T.rowOne 1 rfl fun nq nr=>Tp z z (SX.one (XA.fr [] Lr rfl) rfl) (O.st (vs:=[dW]) (k:=13) shrule2_109 rfl rfl (j:=0) rfl nr (by (simp only [Sl.ones,nq,Bool.and_true,Bool.true_and]) <;> rfl) ?_) T.tno
   refine T.fl ?_
   refine T.tnil (SX.one (XA.fr [] Lr z) z)<|Bn<|Th<|Rg ?_
   obtain ⟨ns,nt,H⟩:=bnd H
   refine Vv (V.addS z z nt)<|Mv z<|Nt<|Fr_ 1 z<|T.fl ?_
   refine Fr_ 2 z<|T.fl ?_
   refine Fr_ 8 z<|T.fl ?_
   refine Fr_ 8 z<|T.fl ?_
   refine Fr_ 8 z<|T.fl ?_
   refine Fr_ 8 z<|T.fl ?_
   refine Fr_ 8 z<|T.fl ?_
   refine Fr_ 8 z<|T.fl ?_
   refine Fr_ 8 z<|T.fl ?_
   have nu:=(((cS.trans cw).trans bu).trans a3)
   exact T.again (dB,gu,gA,ns,cl,(I ++ [[M]]),dW,(J ++ [[K]])) nu (Nat.lt_succ_self _) ⟨(iterK_in H c6),nk,nm⟩ (AllIn.app ⟨z,trivial⟩ ⟨z,z,z,z,z,trivial⟩) z
  refine T.exit<|Te<|Te<|have H:=iterK_out H c6; Be<|Th<|T.met (b0,b1,E,I,B,J) dA ⟨H,c4,c5⟩ (AllIn.app trivial ⟨z,trivial⟩) z
 rintro ⟨cj,ck,aZ,cm,a0,cn⟩ qc cV ⟨nw,nx,ny⟩
 have H:=cutE nw k9
 refine T.norm [7] z<|Sl_ (blk u (.cells [n,o,p,q,r,s,f,d,c,b,a,m,aZ,a0].toArray 111)::rowR 3 1 f D::rowR 3 1 d C::rowR 4 1 c A::rowR 25 1 b y::rowR 25 1 a w::rowR 137 1 m N::rowR 105 1 aZ cm::rowR 144 1 a0 cn::L) z<|Sr<|Mv z<|Ag z<|Ag z<|Ag z<|Nt<|T.ret<|Fr_ 1 z<|T.fl ?_
 refine T.rowFix fun qd cA nA=>have gD:=(((cO.trans bZ).trans cV).trans cA); have nB:=RowF.mono VI.mono dr gD; have nC:=RowF.slc nA nB; Fr_ 1 z<|T.fl ?_
 refine T.rowFix fun qe b6 nD=>have gE:=(gD.trans b6); have nE:=RowF.mono VI.mono ff gE; have nG:=RowF.slc nD nE; Fr_ 1 z<|T.fl ?_
 refine T.rowFix fun qf bw nI=>have gG:=(gE.trans bw); have nJ:=RowF.mono VB.mono fg gG; have nK:=RowF.slc nI nJ; Fr_ 1 z<|T.fl ?_
 refine T.rowFix fun qg a4 nM=>have gI:=(gG.trans a4); have nN:=RowF.mono (VSl.mono VI.mono) fi gI; have nO:=RowF.slc nM nN; Fr_ 1 z<|T.fl ?_
 refine T.rowFix fun qi aM nP=>have nS:=(gI.trans aM); have nU:=RowF.mono (VSl.mono VI.mono) fj nS; have nV:=RowF.slc nP nU; Fr_ 1 z<|T.fl ?_
 refine T.rowFix fun qj aN nW=>have nX:=(((((((bZ.trans cV).trans cA).trans b6).trans bw).trans a4).trans aM).trans aN); have nY:=RowF.mono (VMp.mono VI.mono) k3 nX; have nZ:=RowF.slc nW nY; Fr_ 1 z<|T.fl ?_
 refine T.rowFix fun qk aO n0=>have gJ:=((((((cA.trans b6).trans bw).trans a4).trans aM).trans aN).trans aO); have n1:=RowF.mono (VSl.mono VB.mono) nx gJ; have n2:=RowF.slc n0 n1; Fr_ 1 z<|T.rowFix fun qm ax n3=>have n4:=(gJ.trans ax); have n5:=RowF.mono (VSl.mono VI.mono) ny n4; have n6:=RowF.slc n3 n5; T.blkFix fun n7 ay n8=>have cW:=(((((((((((((cY.trans cd).trans cO).trans bZ).trans cV).trans cA).trans b6).trans bw).trans a4).trans aM).trans aN).trans aO).trans ax).trans ay); have n9:=Slc.mono VapiTable.mono d8 cW; have nh:=Slc.mono VapiGuest.mono d9 cW; have nl:=Slc.mono VapiTie.mono dh cW; have nv:=Slc.mono VI.mono dl cW; have nz:=Slc.mono VapiRule.mono dv cW; have oa:=(((((((((((fA.trans bZ).trans cV).trans cA).trans b6).trans bw).trans a4).trans aM).trans aN).trans aO).trans ax).trans ay); have ob:=Mp.mono Vrulekind.mono dc oa; have oc:=(((((((b6.trans bw).trans a4).trans aM).trans aN).trans aO).trans ax).trans ay); have od:=Slc.mono VI.mono nC oc; have oe:=((((((bw.trans a4).trans aM).trans aN).trans aO).trans ax).trans ay); have og:=Slc.mono VI.mono nG oe; have oi:=(((((a4.trans aM).trans aN).trans aO).trans ax).trans ay); have oj:=Slc.mono VB.mono nK oi; have ok:=((((aM.trans aN).trans aO).trans ax).trans ay); have om:=Slc.mono (VSl.mono VI.mono) nO ok; have on:=(((aN.trans aO).trans ax).trans ay); have oo:=Slc.mono (VSl.mono VI.mono) nV on; have op:=((aO.trans ax).trans ay); have oq:=Slc.mono (VMp.mono VI.mono) nZ op; have os:=(ax.trans ay); have ot:=Slc.mono (VSl.mono VB.mono) n2 os; have ou:=Slc.mono (VSl.mono VI.mono) n6 ay; ?_
 obtain ⟨rfl,rfl,rfl⟩:=inj3 H
 have ow:=((((((((((((((((b7.trans bx).trans d7).trans cY).trans cd).trans cO).trans bZ).trans cV).trans cA).trans b6).trans bw).trans a4).trans aM).trans aN).trans aO).trans ax).trans ay)
 exact T.retL Tryz.results27 (RVs.cons (RV.tmp z) (RVs.cons (RV.tmp z) (Rv z))) ow ⟨_,z,z,(Pt.mk n8 (show VruleJudge n7 [n,o,p,q,r,s,f,d,c,b,a,m,aZ,a0] (ruleJudge.mk da db a8 a9 ah al av ce cj ck) from ⟨n,o,p,q,r,s,f,d,c,b,a,m,aZ,a0,z,n9,nh,nl,nv,nz,ob,od,og,oj,om,oo,oq,ot,ou⟩))⟩
theorem Judge_Problem_ok {h:PH} {pv0:Value} {j1:ruleJudge} (pr0:Pt VruleJudge h pv0 j1) {r_0:apiProblem} (H:Judge_Problem j1 = some r_0):∀ L,FnS Tryz.prog 15 [pv0] h (L) (fun v h' L'=>∃ v0_1 v0_3 v0_5 v0_7 v0_9,v = .agg #[v0_1,v0_3,v0_5,v0_7,v0_9]∧L' = L∧Slc VapiTable 7 h' v0_1 r_0.fTables∧Slc VapiGuest 9 h' v0_3 r_0.fGuests∧Slc VapiTie 3 h' v0_5 r_0.fTies∧Slc (VI .i64) 1 h' v0_7 r_0.fClass∧Slc VapiRule 6 h' v0_9 r_0.fRules):=by
 intro L
 refine FnS.enter Tryz.func15 z Tryz.ntmps15 z<|Sr<|To (O.alloc zerule2_28 z z fun U=>Nt<|Sq<|Sr<|Mv z ?_)
 obtain ⟨W,p,H⟩:=bnd H
 refine To (O.callS z (Judge_none_ok pr0 p _) z fun X q Y a r=>?_)
 obtain ⟨rfl,s⟩:=r
 refine Sl_ _ s<|Nt<|T.cH H z (fun H=>?_) (fun H=>?_)
 ·exact dead H
 refine T.skip<|Th<|Sr<|Mv z<|have t:=Pt.mono VruleJudge.mono pr0 a; have u:=t; ?_
 obtain ⟨Z,_,rfl,w,⟨b,c,d,e,f,aa,ab,ac,ad,ae,af,ag,ai,aj,rfl,x,y,A,B,C,ak,am,an,ao,ap,aq,ar,au,aw⟩⟩:=u
 refine Vv (V.nck z)<|Vv (V.fa fdrule2_111_0 z)<|Vv (V.ldSf (k:=0) shrule2_103 z w (Nat.le_of_ble_eq_true z)) ?_
 obtain ⟨ax,D,H⟩:=bnd H
 refine To (O.callS z (rule_copied_ok (show VapiProblem q [b,c,d,e,f] j1.fgiven from ⟨b,c,d,e,f,z,x,y,A,B,C⟩) D _) z fun ay aA aB E G=>?_)
 obtain ⟨I,J,K,M,N,rfl,P,g,i,m,n,o⟩:=G
 refine Sl_ _ P<|To (O.stF (vs:=[I,J,K,M,N]) shrule2_28 rfl rfl (j:=0) rfl rfl (by (simp only [Sl.ones,Slc.one g,Slc.one i,Slc.one m,Slc.one n,Slc.one o,Bool.and_true,Bool.true_and]) <;> rfl) rfl ?_)
 refine Nt<|T.ret ?_
 obtain rfl:=Option.some.inj H
 have S:=(a.trans E)
 exact T.retD (L':=L) Tryz.results15 (RVs.cons (RV.cellS z (j:=0) z shrule2_28) RVs.nil) S (fun _ iv=>iv.drop) ⟨_,_,_,_,_,z,z,g,i,m,n,o⟩
theorem Judge_look_ok {h:PH} {pv0:Value} {j1:ruleJudge} (pr0:Pt VruleJudge h pv0 j1) {pv1:Value} {part2:List Int} (pr1:Slc (VI .i64) 1 h pv1 part2) {r_0:ruleview} (H:Judge_look j1 part2 = some r_0):∀ L,FnS Tryz.prog 130 [pv0,pv1] h (L) (fun v h' L'=>L' = L∧Pt Vruleview h' v r_0):=by
 intro L
 refine FnS.enter Tryz.func130 z Tryz.ntmps130 z<|Sr<|Ag z<|Nt<|Sq<|Sr<|Mv z ?_
 obtain ⟨bV,ar,H⟩:=bnd H
 refine To (O.callS z (Judge_none_ok pr0 ar _) z fun bW au bX B aw=>?_)
 obtain ⟨rfl,ax⟩:=aw
 refine Sl_ _ ax<|Mv z<|T.bH 10 H z (fun H=>?_) (fun H=>?_)
 ·exact dead H
 refine Mv z<|have K:=Slc.mono VI.mono pr1 B; Vv (V.lenS elrule2_25 z K)<|Mv z<|have ay:=Pt.mono VruleJudge.mono pr0 B; have aA:=ay; ?_
 obtain ⟨i,_,rfl,t,⟨M,N,P,S,U,W,X,Y,Z,aa,ab,ac,ad,ae,rfl,aB,af,aC,aD,aE,aG,C,aI,aJ,aK,aM,aN,aO,aP⟩⟩:=aA
 refine Vv (V.nck z)<|Vv (V.fa fdrule2_111_0 z)<|Vv (V.fa fdrule2_103_1 z)<|Vv (V.ldf (k:=1) shrule2_23 z t z)<|Vv (V.lenS elrule2_23 z af)<|Vv (V.ne z z)<|Vv (V.pkF z z)<|Nt<|T.cH H z (fun H=>?_) (fun H=>?_)
 ·exact dead H
 refine T.skip<|Th<|Sr<|Mv z<|Mv z<|To (O.bs elrule2_25 zerule2_3 z (e:=z) (hk:=z) (xs:=[.const (.int .i64 (-1))]) (hv:=CO.eq (CO.cons z CO.nil)) (hw:=Wide.of z) (hd:=z) fun bY=>have aS:RowF (VI .i64) au [[.int .i64 (-1:Int)]] ([(-1:Int)]:List Int):=(RowF.cons z RowF.nil); Mv z<|Vv (V.nck z)<|Vv (V.fa fdrule2_111_2 z)<|Vv (V.ldf (k:=6) shrule2_25 z t z)<|Vv (V.lenS elrule2_25 z C)<|T.rowFix fun bZ D aU=>have aV:=RowF.mono VI.mono aS D; have aW:=RowF.slc aU aV; ?_)
 obtain ⟨aX,aY,H⟩:=bnd H
 refine To (O.callS z (sl_Repeat_ok aW aY _) z fun d b0 b1 ag aZ=>?_)
 obtain ⟨a0,a1,a2⟩:=aZ
 refine Sl_ _ a1<|T.rowOne 0 z fun b2 a3=>have E:=(D.trans ag); have u:=Slc.mono VI.mono K E; Vv (V.bld (xs:=[(0,.tmp 21),(1,.tmp 22),(2,.tmp 29)]) (cs:=[_,_,_]) blrule2_207 borule2_207 z (Fills.cons z z z (Fills.cons z (Slc.cells u) z (Fills.cons z a3 z Fills.nil))))<|To (O.box z z z fun n=>Ag z<|Nt<|Sq<|Sr<|Mv z<|Vv (V.lenS elrule2_25 z u)<|Mv z<|Nt ?_)
 obtain ⟨ai,a4,a5⟩:=bndK H
 refine T.cutK (α:=(List Int)×(List (List Value))) [5] z (fun ⟨o,p⟩=>[]) (fun ⟨o,p⟩=>blk n (.cells [.pointer (some i),pv1,d].toArray 207)::rowR 3 1 d p::L) (fun ⟨o,p⟩ hh=>ai = o∧RowF (VI .i64) hh p o) ?_ ?_
 ·have H:=a4
  refine Bl<|T.loopK (α:=Nat×(List Int)×Int×(List (List Value))) [0,5,32,33] z (fun ⟨q,g,b,a⟩=>[(34,.int .i64 b)]) (fun ⟨q,g,b,a⟩=>blk n (.cells [.pointer (some i),pv1,d].toArray 207)::rowR 3 1 d a::L) (fun ⟨q,g,b,a⟩ hh=>iter (Judge_look_l0 j1 part2) q (g,b) = some ai∧RowF (VI .i64) hh a g) (fun ⟨q,g,b,a⟩=>q) (FUEL,aX,(0:Int),a0) ⟨z,trivial⟩ z ⟨H,a2⟩ ?_
  rintro ⟨q,g,b,a⟩ w m ⟨a6,f⟩
  obtain ⟨x,b3,rfl,H,r⟩:=iter_go a6
  refine T.norm [34,0,5,32,33] z<|Sl_ (blk n (.cells [.pointer (some i),pv1,d].toArray 207)::rowR 3 1 d a::L) z<|Sr<|Vv (V.lt z z)<|Nt<|Sq<|T.cH H z (fun H=>?_) (fun H=>?_)
  ·refine T.skip<|Th<|Sq<|Bl<|Sr<|Mv z ?_
   obtain ⟨s,aj,H⟩:=bnd H
   have ak:=Slc.mono VI.mono u m
   obtain ⟨b4,a7,rfl⟩:=Slc.at ak aj
   refine Vv (V.ix elrule2_25 z z ak (getI_bd aj))<|Vv (V.ld0 shrule2_3 z a7 z)<|Ag z<|Ag z<|Nt<|Sq<|Sr<|Mv z<|Vv (V.lt z z)<|Mv z<|T.bH 41 H z (fun H=>?_) (fun H=>?_)
   ·exact dead H
   refine Mv z<|Mv z<|Vv (V.nck z)<|Vv (V.fa fdrule2_111_2 z)<|have am:=(E.trans m); have a8:=t.mono am; Vv (V.ldf (k:=6) shrule2_25 z a8 z)<|have a9:=Slc.mono VI.mono C am; Vv (V.lenS elrule2_25 z a9)<|Vv (V.ge z z)<|Vv (V.pkF z z)<|Mv z<|T.bH 50 H z (fun H=>?_) (fun H=>?_)
   ·exact dead H
   refine Mv z<|Vv (V.ge z z)<|Mv z<|T.bH 53 H z (fun H=>?_) (fun H=>?_)
   ·refine Mv z<|Vv (V.nck z)<|Vv (V.fa fdrule2_207_2 z)<|Vv (V.ldO (k:=2) shrule2_25 z (j:=0) z z)<|Mv z ?_
    obtain ⟨b5,an,H⟩:=bnd H
    obtain ⟨b6,ah,rfl⟩:=RowF.get f an
    refine Vv (V.ixR elrule2_25 z z (j:=1) z (RowF.bd f an))<|Vv (V.ldR shrule2_3 z (j:=1) z ah z)<|Vv (V.ge z z)<|Vv (V.pkT z z)<|Vv (V.pkF z z)<|Nt<|T.cH H z (fun H=>?_) (fun H=>?_)
    ·exact dead H
    refine T.skip<|Th<|Sq<|T.norm [0,5,6,7,32,33,34] z<|Sl_ (blk n (.cells [.pointer (some i),pv1,d].toArray 207)::rowR 3 1 d a::L) z<|Rg<|Mv z<|Vv (V.ge z z)<|Nt<|T.cH H z (fun H=>?_) (fun H=>?_)
    ·refine Rg<|Mv z<|Vv (V.nck z)<|Vv (V.fa fdrule2_207_2 z)<|Vv (V.ldO (k:=2) shrule2_25 z (j:=0) z z)<|Mv z<|Mv z ?_
     obtain ⟨b7,G,H⟩:=bnd H
     obtain ⟨b8,b9,rfl⟩:=RowF.get f G
     refine Vv (V.ixR elrule2_25 z z (j:=1) z (RowF.bd f G)) ?_
     obtain ⟨ao,al,H⟩:=bnd H
     refine To (O.stR shrule2_3 z z (j:=1) z (RowF.bdN f G) z<|have av:RowF (VI .i64) w (a.set s.toNat [.int .i64 b]) ao:=RowF.set f (show (VI .i64) w [.int .i64 b] b from z) al; Ni<|Bn<|Th<|Rg ?_)
     obtain ⟨az,ba,H⟩:=bnd H
     refine Vv (V.addS z z ba)<|Mv z<|Nt<|Fr_ 1 z<|T.again (x,ao,az,(a.set s.toNat [.int .i64 b])) m (Nat.lt_succ_self _) ⟨(iterK_in H r),av⟩ (AllIn.app ⟨z,trivial⟩ ⟨z,z,z,z,trivial⟩) z
    refine T.skip<|Bn<|Th<|Rg ?_
    obtain ⟨bb,bc,H⟩:=bnd H
    refine Vv (V.addS z z bc)<|Mv z<|Nt<|T.again (x,g,bb,a) m (Nat.lt_succ_self _) ⟨(iterK_in H r),f⟩ (AllIn.app ⟨z,trivial⟩ ⟨z,z,z,z,trivial⟩) z
   refine Sk<|Sk<|Sk<|Sk<|Sk<|Sk<|Sk<|Sk<|Vv (V.pkF z z)<|Vv (V.pkF z z)<|Nt<|Cf z<|T.skip<|Th<|Sr<|Mv z<|Vv (V.ge z z)<|Nt<|T.cH H z (fun H=>?_) (fun H=>?_)
   ·refine Rg<|Mv z<|Vv (V.nck z)<|Vv (V.fa fdrule2_207_2 z)<|Vv (V.ldO (k:=2) shrule2_25 z (j:=0) z z)<|Mv z<|Mv z ?_
    obtain ⟨bh,I,H⟩:=bnd H
    obtain ⟨bl,bv,rfl⟩:=RowF.get f I
    refine Vv (V.ixR elrule2_25 z z (j:=1) z (RowF.bd f I)) ?_
    obtain ⟨ap,be,H⟩:=bnd H
    refine To (O.stR shrule2_3 z z (j:=1) z (RowF.bdN f I) z<|have bf:RowF (VI .i64) w (a.set s.toNat [.int .i64 b]) ap:=RowF.set f (show (VI .i64) w [.int .i64 b] b from z) be; Ni<|Bn<|Th<|T.norm [0,5,32,33,34] z<|Sl_ (rowR 3 1 d (a.set s.toNat [.int .i64 b])::blk n (.cells [.pointer (some i),pv1,d].toArray 207)::L) z<|Rg ?_)
    obtain ⟨bg,bi,H⟩:=bnd H
    refine Vv (V.addS z z bi)<|Mv z<|Nt<|Fr_ 1 z<|T.again (x,ap,bg,(a.set s.toNat [.int .i64 b])) m (Nat.lt_succ_self _) ⟨(iterK_in H r),bf⟩ (AllIn.app ⟨z,trivial⟩ ⟨z,z,z,z,trivial⟩) z
   refine T.skip<|Bn<|Th<|Rg ?_
   obtain ⟨bj,bk,H⟩:=bnd H
   refine Vv (V.addS z z bk)<|Mv z<|Nt<|T.again (x,g,bj,a) m (Nat.lt_succ_self _) ⟨(iterK_in H r),f⟩ (AllIn.app ⟨z,trivial⟩ ⟨z,z,z,z,trivial⟩) z
  refine T.exit<|Te<|Te<|have H:=iterK_out H r; Be<|Th<|T.met (g,a) m ⟨H,f⟩ (AllIn.app trivial ⟨z,trivial⟩) z
 rintro ⟨o,p⟩ bz J ⟨bm,bn⟩
 have H:=cutE bm a5
 refine T.norm [5] z<|Sl_ (blk n (.cells [.pointer (some i),pv1,d].toArray 207)::rowR 3 1 d p::L) z<|Sr<|Mv z<|Ag z<|Nt<|T.ret<|Fr_ 1 z<|T.rowFix fun ca y bo=>have bp:=RowF.mono VI.mono bn y; have bq:=RowF.slc bo bp; T.blkFix fun aq A br=>have c:=(((E.trans J).trans y).trans A); have bt:=t.mono c; have bu:=Slc.mono VapiTable.mono aB c; have bw:=Slc.mono VapiGuest.mono af c; have bx:=Slc.mono VapiTie.mono aC c; have bA:=Slc.mono VI.mono aD c; have bB:=Slc.mono VapiRule.mono aE c; have bC:=Mp.mono Vrulekind.mono aG c; have bD:=Slc.mono VI.mono C c; have bE:=Slc.mono VI.mono aI c; have bG:=Slc.mono VB.mono aJ c; have bI:=Slc.mono (VSl.mono VI.mono) aK c; have bJ:=Slc.mono (VSl.mono VI.mono) aM c; have bK:=Slc.mono (VMp.mono VI.mono) aN c; have bM:=Slc.mono (VSl.mono VB.mono) aO c; have bN:=Slc.mono (VSl.mono VI.mono) aP c; have bO:=((J.trans y).trans A); have bP:=Slc.mono VI.mono u bO; have bS:=Slc.mono VI.mono bq A; ?_
 obtain rfl:=Option.some.inj H
 have bU:=(((((B.trans D).trans ag).trans J).trans y).trans A)
 exact T.retL Tryz.results130 (Rv z) bU ⟨z,(Pt.mk br (show Vruleview aq [.pointer (some i),pv1,d] (ruleview.mk j1 part2 o) from ⟨(.pointer (some i)),pv1,d,z,(Pt.mk bt (show VruleJudge aq [M,N,P,S,U,W,X,Y,Z,aa,ab,ac,ad,ae] j1 from ⟨M,N,P,S,U,W,X,Y,Z,aa,ab,ac,ad,ae,z,bu,bw,bx,bA,bB,bC,bD,bE,bG,bI,bJ,bK,bM,bN⟩)),bP,bS⟩))⟩
theorem Judge_Least_ok {h:PH} {pv0:Value} {j1:ruleJudge} (pr0:Pt VruleJudge h pv0 j1) {pv1:Value} {part2:List Int} (pr1:Slc (VI .i64) 1 h pv1 part2) {i3:Int} {r_0:Int} (H:Judge_Least j1 part2 i3 = some r_0):∀ L,FnS Tryz.prog 127 [pv0,pv1,.int .i64 i3] h (L) (fun v h' L'=>v = .int .i64 r_0∧L' = L):=by
 intro L
 refine FnS.enter Tryz.func127 z Tryz.ntmps127 z<|Sr<|Ag z<|Nt<|Sr<|Mv z<|Mv z ?_
 obtain ⟨a,B,H⟩:=bnd H
 refine To (O.callS z (Judge_look_ok pr0 pr1 B _) z fun an b ao C D=>?_)
 obtain ⟨E,G⟩:=D
 refine Sl_ _ E<|Ag z<|Nt<|Sq<|Sr<|Mv z<|have I:=G; ?_
 obtain ⟨ap,_,rfl,c,⟨aq,d,e,rfl,J,K,M⟩⟩:=I
 refine Vv (V.nilP Tryz.underlying204 z)<|Mv z<|Mv z<|Vv (V.lt z z)<|Vv (V.pkF z z)<|Mv z<|T.bH 17 H z (fun H=>?_) (fun H=>?_)
 ·exact dead H
 refine Mv z<|Mv z<|Vv (V.nck z)<|Vv (V.fa fdrule2_207_0 z)<|Vv (V.ldf (k:=0) shrule2_67 z c z)<|have N:=J; ?_
 obtain ⟨f,_,rfl,g,⟨i,j,m,n,o,p,q,r,s,t,u,w,x,y,rfl,P,S,U,W,A,X,Y,Z,aa,ab,ac,ad,ae,af⟩⟩:=N
 refine Vv (V.nck z)<|Vv (V.fa fdrule2_111_0 z)<|Vv (V.fa fdrule2_103_4 z)<|Vv (V.ldf (k:=4) shrule2_26 z g z)<|Vv (V.lenS elrule2_26 z A)<|Vv (V.ge z z)<|Vv (V.pkF z z)<|Nt<|T.cH H z (fun H=>?_) (fun H=>?_)
 ·exact dead H
 refine T.skip<|Th<|Sr<|Mv z<|Mv z ?_
 obtain ⟨ar,ag,H⟩:=bnd H
 refine To (O.callS z (view_least_ok (Pt.mk c (show Vruleview b [.pointer (some f),d,e] a from ⟨(.pointer (some f)),d,e,z,(Pt.mk g (show VruleJudge b [i,j,m,n,o,p,q,r,s,t,u,w,x,y] a.fJudge from ⟨i,j,m,n,o,p,q,r,s,t,u,w,x,y,z,P,S,U,W,A,X,Y,Z,aa,ab,ac,ad,ae,af⟩)),K,M⟩)) ag _) z fun au aw ax ai aj=>?_)
 obtain ⟨rfl,ak⟩:=aj
 refine Sl_ _ ak<|Ag z<|Nt<|T.ret ?_
 obtain rfl:=Option.some.inj H
 have am:=(C.trans ai)
 exact T.retL Tryz.results127 (Rv z) am ⟨z,z⟩
theorem Judge_sum_ok {h:PH} {pv0:Value} {j1:ruleJudge} (pr0:Pt VruleJudge h pv0 j1) {pv1:Value} {part2:List Int} (pr1:Slc (VI .i64) 1 h pv1 part2) {pv2:Value} {count3:ruleview→Int→Option Int} (pr2:CF266 h pv2 count3) {r_0:Int} (H:Judge_sum j1 part2 count3 = some r_0):∀ L,FnS Tryz.prog 198 [pv0,pv1,pv2] h (L) (fun v h' L'=>v = .int .i64 r_0∧L' = L):=by
 intro L
 refine FnS.enter Tryz.func198 z Tryz.ntmps198 z<|Sr<|Ag z<|Nt<|Sr<|Mv z<|Mv z ?_
 obtain ⟨n,ac,H⟩:=bnd H
 refine To (O.callS z (Judge_look_ok pr0 pr1 ac _) z fun bo bp bq q ad=>?_)
 obtain ⟨ae,af⟩:=ad
 refine Sl_ _ ae<|Ag z<|Nt<|Sq<|Sr<|Mv z<|have ag:=af; ?_
 obtain ⟨br,_,rfl,r,⟨bs,s,u,rfl,ai,aj,ak⟩⟩:=ag
 refine Vv (V.nilP Tryz.underlying204 z)<|Nt<|Cf z<|T.skip<|Th<|Sr<|Ag z<|Nt<|Sq<|Sr<|Mv z<|Vv (V.nck z)<|Vv (V.fa fdrule2_207_0 z)<|Vv (V.ldf (k:=0) shrule2_67 z r z)<|have am:=ai; ?_
 obtain ⟨w,_,rfl,x,⟨y,A,B,C,D,E,G,I,J,K,M,N,P,S,rfl,an,ao,ap,aq,U,ar,au,aw,ax,ay,aA,aB,aC,aD⟩⟩:=am
 refine Vv (V.nck z)<|Vv (V.fa fdrule2_111_0 z)<|Vv (V.fa fdrule2_103_4 z)<|Vv (V.ldf (k:=4) shrule2_26 z x z)<|Vv (V.lenS elrule2_26 z U)<|Mv z<|Nt ?_
 obtain ⟨W,aE,aG⟩:=bndK H
 refine T.cutK (α:=Int) [] z (fun f=>[(8,.int .i64 f)]) (fun f=>L) (fun f hh=>W = f) ?_ ?_
 ·have H:=aE
  refine Bl<|T.loopK (α:=Nat×Int×Int) [2,7,23,24] z (fun ⟨c,d,b⟩=>[(25,.int .i64 d),(8,.int .i64 b)]) (fun ⟨c,d,b⟩=>L) (fun ⟨c,d,b⟩ hh=>iter (Judge_sum_l0 count3 n) c (d,b) = some W) (fun ⟨c,d,b⟩=>c) (FUEL,(0:Int),(0:Int)) ⟨z,z,trivial⟩ z H ?_
  rintro ⟨c,d,b⟩ bt i aI
  obtain ⟨X,bu,rfl,H,o⟩:=iter_go aI
  refine T.norm [25,8,2,7,23,24] z<|Sl_ (L) z<|Sr<|Vv (V.lt z z)<|Nt<|Sq<|T.cH H z (fun H=>?_) (fun H=>?_)
  ·refine T.skip<|Th<|Sq<|Bl<|Sr<|Mv z ?_
   obtain ⟨e,Y,H⟩:=bnd H
   have p:=Slc.mono VapiRule.mono U i
   obtain ⟨bw,aJ,rfl⟩:=Slc.at p Y
   refine Vv (V.ix elrule2_26 rfl rfl p (getI_bd Y))<|Vv (V.ldS rfl aJ (by exact shrule2_39)) ?_
   refine To (O.alloc zerule2_39 z z fun bx=>Ag z<|To (O.stF (vs:=[.int .u8 e.fKind,.int .i64 e.fWeight,.string e.fA,.string e.fB,.string e.fTable,.int .i64 e.fN]) shrule2_39 z z (j:=0) z z z z<|T.freeze fun Z m aK=>have aa:=AtC.of aK; Nt<|Sr<|Vv (V.fa fdrule2_39_1 z)<|Vv (V.ldf (k:=1) shrule2_3 z aa z)<|Vv (V.gt z z)<|Nt<|T.cH H z (fun H=>?_) (fun H=>?_)))
   ·refine T.drawF (t:=(.v 0 (.v 1 (.v 2 (.v 3 (.v 4 (.v 5 (.alt 6 (.g (.v 7 (.v 8 (.alt 9 .done .no)))) .no)))))))) 11 0 0 rfl rfl rule2mixed (by kernel_rfl) ?_
    refine Tm z z<|Tv z (V.fa fdrule2_39_1 z)<|Tv z (V.ldf (k:=1) shrule2_3 z aa z)<|Tm z z<|Tm z z<|Tm z z<|have a:=(i.trans m); have aM:=r.mono a; have aN:=x.mono a; have aO:=Slc.mono VapiTable.mono an a; have aP:=Slc.mono VapiGuest.mono ao a; have aS:=Slc.mono VapiTie.mono ap a; have aU:=Slc.mono VI.mono aq a; have aV:=Slc.mono VapiRule.mono p m; have aW:=Mp.mono Vrulekind.mono ar a; have aX:=Slc.mono VI.mono au a; have aY:=Slc.mono VI.mono aw a; have aZ:=Slc.mono VB.mono ax a; have a0:=Slc.mono (VSl.mono VI.mono) ay a; have a1:=Slc.mono (VSl.mono VI.mono) aA a; have a2:=Slc.mono (VMp.mono VI.mono) aB a; have a3:=Slc.mono (VSl.mono VB.mono) aC a; have a4:=Slc.mono (VSl.mono VI.mono) aD a; have a5:=Slc.mono VI.mono aj a; have a6:=Slc.mono VI.mono ak a; ?_
    obtain ⟨bA,a7,H⟩:=bnd H
    have a8:=((q.trans i).trans m)
    have a9:=CF266.mono pr2 a8
    obtain ⟨bB,bC,bD,ah,al⟩:=CF266.call a9 (Pt.mk aM (show Vruleview Z [.pointer (some w),s,u] n from ⟨(.pointer (some w)),s,u,rfl,(Pt.mk aN (show VruleJudge Z [y,A,B,C,D,E,G,I,J,K,M,N,P,S] n.fJudge from ⟨y,A,B,C,D,E,G,I,J,K,M,N,P,S,rfl,aO,aP,aS,aU,aV,aW,aX,aY,aZ,a0,a1,a2,a3,a4⟩)),a5,a6⟩)) a7
    refine Tp z z (SX.two (XA.fr [] Lr z) (XA.fr [] Lr z)) (O.callfW z ah z (al _) z fun bE bG bI ab av=>?_) T.tno
    obtain ⟨rfl,az⟩:=av
    refine Sl_ _ az<|T.tgrow ab ?_
    obtain ⟨bJ,ba,H⟩:=bnd H
    refine Tv z (V.mulS z z ba) ?_
    obtain ⟨bb,bc,H⟩:=bnd H
    refine Tv z (V.addS z z bc)<|Ts z z (SX.two (XA.fr [] Lr z) (XA.fr [] Lr z)) (V.asg z) z ?_ T.tno
    refine T.tnil (SX.two (XA.fr [] Lr z) (XA.fr [] Lr z))<|Bn<|Th<|Rg ?_
    obtain ⟨bd,be,H⟩:=bnd H
    refine Vv (V.addS z z be)<|Mv z<|Nt<|have bf:=(a.trans ab); T.again (X,bd,bb) bf (Nat.lt_succ_self _) (iterK_in H o) (AllIn.app ⟨z,z,trivial⟩ ⟨z,z,z,z,trivial⟩) z
   refine T.skip<|Bn<|Th<|Rg ?_
   obtain ⟨bg,bi,H⟩:=bnd H
   refine Vv (V.addS z z bi)<|Mv z<|Nt<|have bj:=(i.trans m); T.again (X,bg,b) bj (Nat.lt_succ_self _) (iterK_in H o) (AllIn.app ⟨z,z,trivial⟩ ⟨z,z,z,z,trivial⟩) z
  refine T.exit<|Te<|Te<|have H:=iterK_out H o; Be<|Th<|T.met b i H (AllIn.app ⟨z,trivial⟩ trivial) z
 rintro f bK bk bm
 have H:=cutE bm aG
 refine T.norm [8] z<|Sl_ (L) z<|Sr<|Mv z<|Ag z<|Nt<|T.ret ?_
 obtain rfl:=Option.some.inj H
 have bn:=(q.trans bk)
 exact T.retL Tryz.results198 (Rv z) bn ⟨z,z⟩
theorem Judge_Floor_ok {h:PH} {pv0:Value} {j1:ruleJudge} (pr0:Pt VruleJudge h pv0 j1) {pv1:Value} {part2:List Int} (pr1:Slc (VI .i64) 1 h pv1 part2) {r_0:Int} (H:Judge_Floor j1 part2 = some r_0):∀ L,FnS Tryz.prog 128 [pv0,pv1] h (L) (fun v h' L'=>v = .int .i64 r_0∧L' = L):=by
 intro L
 refine FnS.enter Tryz.func128 z Tryz.ntmps128 z<|Sr<|Ag z<|Nt<|Sr<|Mv z<|Mv z ?_
 obtain ⟨i,a,H⟩:=bnd H
 refine To (O.callS z (Judge_sum_ok pr0 pr1 (show CF266 h (.func (.func 197) #[] #[]) view_least from ⟨⟨z,z⟩,.inr ⟨197,[],[],z,fun j k m n b o p c d=>view_least_ok b c d⟩⟩) a _) z fun q r s e f=>?_)
 obtain ⟨rfl,g⟩:=f
 refine Sl_ _ g<|Ag z<|Nt<|T.ret ?_
 obtain rfl:=Option.some.inj H
 exact T.retL Tryz.results128 (Rv z) e ⟨z,z⟩
theorem Judge_Dead_ok {h:PH} {pv0:Value} {j1:ruleJudge} (pr0:Pt VruleJudge h pv0 j1) {pv1:Value} {part2:List Int} (pr1:Slc (VI .i64) 1 h pv1 part2) {r_0:Int} {r_1:Bool} (H:Judge_Dead j1 part2 = some (r_0,r_1)):∀ L,FnS Tryz.prog 115 [pv0,pv1] h (L) (fun v h' L'=>v = .tuple #[.int .i64 r_0,.bool r_1]∧L' = L):=by
 intro L
 refine FnS.enter Tryz.func115 z Tryz.ntmps115 z<|Sr<|Ag z<|Ag z<|Nt<|Sr<|Mv z<|Mv z ?_
 obtain ⟨i,Y,H⟩:=bnd H
 refine To (O.callS z (Judge_look_ok pr0 pr1 Y _) z fun bc bd be n Z=>?_)
 obtain ⟨aa,ab⟩:=Z
 refine Sl_ _ aa<|Ag z<|Nt<|Sq<|Sr<|Mv z<|have ac:=ab; ?_
 obtain ⟨bf,_,rfl,o,⟨bg,p,q,rfl,ad,ae,af⟩⟩:=ac
 refine Vv (V.nilP Tryz.underlying204 z)<|Nt<|Cf z<|T.skip<|Th<|Sq<|Sr<|Mv z<|Vv (V.nck z)<|Vv (V.fa fdrule2_207_0 z)<|Vv (V.ldf (k:=0) shrule2_67 z o z)<|have ag:=ad; ?_
 obtain ⟨r,_,rfl,s,⟨t,u,w,x,y,A,B,C,D,E,G,I,J,K,rfl,ai,aj,ak,am,M,an,ao,ap,aq,ar,au,aw,ax,ay⟩⟩:=ag
 refine Vv (V.nck z)<|Vv (V.fa fdrule2_111_0 z)<|Vv (V.fa fdrule2_103_4 z)<|Vv (V.ldf (k:=4) shrule2_26 z s z)<|Vv (V.lenS elrule2_26 z M)<|Mv z<|Nt ?_
 obtain ⟨N,aA,P⟩:=bndK H
 refine T.cutK (α:=Unit) [] z (fun _u=>[]) (fun _u=>L) (fun _u hh=>N = (Sum.inl ())) ?_ ?_
 ·have H:=aA
  refine Bl<|T.loopK (α:=Nat×Int) [6,21,22] z (fun ⟨b,c⟩=>[(23,.int .i64 c)]) (fun ⟨b,c⟩=>L) (fun ⟨b,c⟩ hh=>iter (Judge_Dead_l0 i) b c = some N) (fun ⟨b,c⟩=>b) (FUEL,(0:Int)) ⟨z,trivial⟩ z H ?_
  rintro ⟨b,c⟩ bi e aB
  obtain ⟨S,bj,rfl,H,f⟩:=iter_go aB
  refine T.norm [23,6,21,22] z<|Sl_ (L) z<|Sr<|Vv (V.lt z z)<|Nt<|Sq<|T.cH H z (fun H=>?_) (fun H=>?_)
  ·refine T.skip<|Th<|Sq<|Bl<|Sr<|Mv z ?_
   obtain ⟨d,U,H⟩:=bnd H
   have m:=Slc.mono VapiRule.mono M e
   obtain ⟨bk,aC,rfl⟩:=Slc.at m U
   refine Vv (V.ix elrule2_26 rfl rfl m (getI_bd U))<|Vv (V.ldS rfl aC (by exact shrule2_39)) ?_
   refine To (O.alloc zerule2_39 z z fun bm=>Ag z<|To (O.stF (vs:=[.int .u8 d.fKind,.int .i64 d.fWeight,.string d.fA,.string d.fB,.string d.fTable,.int .i64 d.fN]) shrule2_39 z z (j:=0) z z z z<|T.freeze fun W g aD=>have aE:=AtC.of aD; Nt<|Sr<|Vv (V.fa fdrule2_39_1 z)<|Vv (V.ldf (k:=1) shrule2_3 z aE z)<|Vv (V.eq z z)<|Mv z<|T.bH 31 H z (fun H=>?_) (fun H=>?_)))
   ·refine Mv z<|Mv z<|have a:=(e.trans g); have aG:=o.mono a; have aI:=s.mono a; have aJ:=Slc.mono VapiTable.mono ai a; have aK:=Slc.mono VapiGuest.mono aj a; have aM:=Slc.mono VapiTie.mono ak a; have aN:=Slc.mono VI.mono am a; have aO:=Slc.mono VapiRule.mono m g; have aP:=Mp.mono Vrulekind.mono an a; have aS:=Slc.mono VI.mono ao a; have aU:=Slc.mono VI.mono ap a; have aV:=Slc.mono VB.mono aq a; have aW:=Slc.mono (VSl.mono VI.mono) ar a; have aX:=Slc.mono (VSl.mono VI.mono) au a; have aY:=Slc.mono (VMp.mono VI.mono) aw a; have aZ:=Slc.mono (VSl.mono VB.mono) ax a; have a0:=Slc.mono (VSl.mono VI.mono) ay a; have a1:=Slc.mono VI.mono ae a; have a2:=Slc.mono VI.mono af a; ?_
    obtain ⟨bn,a3,H⟩:=bnd H
    refine To (O.callS z (view_least_ok (Pt.mk aG (show Vruleview W [.pointer (some r),p,q] i from ⟨(.pointer (some r)),p,q,z,(Pt.mk aI (show VruleJudge W [t,u,w,x,y,A,B,C,D,E,G,I,J,K] i.fJudge from ⟨t,u,w,x,y,A,B,C,D,E,G,I,J,K,z,aJ,aK,aM,aN,aO,aP,aS,aU,aV,aW,aX,aY,aZ,a0⟩)),a1,a2⟩)) a3 _) z fun bo bp bq X a4=>?_)
    obtain ⟨rfl,a5⟩:=a4
    refine Sl_ _ a5<|Vv (V.gt z z)<|Vv (V.pkT z z)<|Nt<|T.cH H z (fun H=>?_) (fun H=>?_)
    ·refine Sr<|Mv z<|Ag z<|Ag z<|Nt<|T.ret<|Br<|Tr<|Tr<|have H:=iterK_out H f; Br<|Tr<|have H:=cutE H P; ?_
     obtain ⟨rfl,rfl⟩:=inj2 H
     have a6:=(((n.trans e).trans g).trans X)
     exact T.retL Tryz.results115 (RVs.cons (RV.tmp z) (Rv z)) a6 ⟨z,z⟩
    refine T.skip<|Bn<|Th<|Rg ?_
    obtain ⟨a7,a8,H⟩:=bnd H
    refine Vv (V.addS z z a8)<|Mv z<|Nt<|have a9:=(a.trans X); T.again (S,a7) a9 (Nat.lt_succ_self _) (iterK_in H f) (AllIn.app ⟨z,trivial⟩ ⟨z,z,z,trivial⟩) z
   refine Sk<|Sk<|Sk<|Sk<|Vv (V.pkF z z)<|Nt<|Cf z<|T.skip<|Bn<|Th<|Rg ?_
   obtain ⟨ah,al,H⟩:=bnd H
   refine Vv (V.addS z z al)<|Mv z<|Nt<|have av:=(e.trans g); T.again (S,ah) av (Nat.lt_succ_self _) (iterK_in H f) (AllIn.app ⟨z,trivial⟩ ⟨z,z,z,trivial⟩) z
  refine T.exit<|Te<|Te<|have H:=iterK_out H f; Be<|Th<|T.met () e H (AllIn.app trivial trivial) z
 rintro _ br az ba
 have H:=cutE ba P
 refine T.norm [] z<|Sl_ (L) z<|Sr<|Ag z<|Ag z<|Nt<|T.ret ?_
 obtain ⟨rfl,rfl⟩:=inj2 H
 have bb:=(n.trans az)
 exact T.retL Tryz.results115 (RVs.cons (RV.tmp z) (Rv z)) bb ⟨z,z⟩
theorem Judge_Cost_ok {h:PH} {pv0:Value} {j1:ruleJudge} (pr0:Pt VruleJudge h pv0 j1) {pv1:Value} {part2:List Int} (pr1:Slc (VI .i64) 1 h pv1 part2) {r_0:Int} (H:Judge_Cost j1 part2 = some r_0):∀ L,FnS Tryz.prog 116 [pv0,pv1] h (L) (fun v h' L'=>v = .int .i64 r_0∧L' = L):=by
 intro L
 refine FnS.enter Tryz.func116 z Tryz.ntmps116 z<|Sr<|Ag z<|Nt<|Sr<|Mv z<|Mv z ?_
 obtain ⟨i,a,H⟩:=bnd H
 refine To (O.callS z (Judge_sum_ok pr0 pr1 (show CF266 h (.func (.func 199) #[] #[]) view_faults from ⟨⟨z,z⟩,.inr ⟨199,[],[],z,fun j k m n b o p c d=>view_faults_ok b c d⟩⟩) a _) z fun q r s e f=>?_)
 obtain ⟨rfl,g⟩:=f
 refine Sl_ _ g<|Ag z<|Nt<|T.ret ?_
 obtain rfl:=Option.some.inj H
 exact T.retL Tryz.results116 (Rv z) e ⟨z,z⟩
theorem rule_Pinned_ok {h:PH} {pc0:List Value} {p1:apiProblem} (pr0:VapiProblem h pc0 p1) {t12:Int} {r_0:List Int} (H:rule_Pinned p1 t12 = some r_0):∀ L,FnS Tryz.prog 295 [.agg pc0.toArray,.int .i64 t12] h (L) (fun v h' L'=>∃ cs0,L' = rowR 3 1 v cs0::L∧RowF (VI .i64) h' cs0 r_0):=by
 intro L
 obtain ⟨J,K,M,N,P,rfl,ak,am,an,ao,aq⟩:=pr0
 refine FnS.enter Tryz.func295 rfl Tryz.ntmps295 rfl<|Sr<|To (O.boxF rfl rfl rfl fun br ar f S=>Ag z<|Nt<|Sq<|Sr<|Vv (V.ldS rfl S (by exact shrule2_28)) ?_)
 have U:=Slc.mono VapiTable.mono ak f
 have au:=Slc.mono VapiGuest.mono am f
 have aw:=Slc.mono VapiTie.mono an f
 have ax:=Slc.mono VI.mono ao f
 have W:=Slc.mono VapiRule.mono aq f
 obtain ⟨⟨bt,bu⟩,ay,H⟩:=bnd H
 refine To (O.callS z (rule_Check_ok (show VapiProblem ar [J,K,M,N,P] p1 from ⟨J,K,M,N,P,z,U,au,aw,ax,W⟩) ay _) z fun bw aA bx w aB=>?_)
 obtain ⟨rfl,aC⟩:=aB
 refine Sl_ _ aC<|Mv z<|Vv (V.ext z z)<|Vv (V.ext z z)<|Ag z<|Ag z<|Nt<|Sr<|Mv z<|Vv (V.ne z z)<|Mv z<|T.bH 17 H z (fun H=>?_) (fun H=>?_)
 ·exact dead H
 refine Mv z<|Vv (V.lt z z)<|Vv (V.pkF z z)<|Mv z<|T.bH 21 H z (fun H=>?_) (fun H=>?_)
 ·exact dead H
 refine Mv z<|Vv (V.fa fdrule2_28_0 z)<|have x:=S.mono w; Vv (V.ldf (k:=0) shrule2_22 z x z)<|have B:=Slc.mono VapiTable.mono U w; Vv (V.lenS elrule2_22 z B)<|Vv (V.ge z z)<|Vv (V.pkF z z)<|Nt<|T.cH H z (fun H=>?_) (fun H=>?_)
 ·exact dead H
 refine T.skip<|Th<|Sr<|Ag z<|Nt<|Sq<|Sr<|Vv (V.fa fdrule2_28_4 z)<|Vv (V.ldf (k:=4) shrule2_26 z x z)<|have X:=Slc.mono VapiRule.mono W w; Vv (V.lenS elrule2_26 z X)<|Mv z<|Nt ?_
 obtain ⟨Y,aD,aE⟩:=bndK H
 refine T.cutK (α:=(List Int)×Value×(List (List Value))) [] z (fun ⟨q,i,m⟩=>[(7,i)]) (fun ⟨q,i,m⟩=>rowR 3 1 i m::L) (fun ⟨q,i,m⟩ hh=>Y = q∧RowF (VI .i64) hh m q) ?_ ?_
 ·have H:=aD
  refine Bl<|T.rowNil 3 1<|have aG:RowF (VI .i64) aA [] ([]:List Int):=RowF.nil; T.loopK (α:=Nat×Int×(List Int)×Value×(List (List Value))) [1,2,29,30] z (fun ⟨n,o,c,b,a⟩=>[(31,.int .i64 o),(7,b)]) (fun ⟨n,o,c,b,a⟩=>rowR 3 1 b a::L) (fun ⟨n,o,c,b,a⟩ hh=>iter (rule_Pinned_l0 p1 t12) n (o,c) = some Y∧RowF (VI .i64) hh a c) (fun ⟨n,o,c,b,a⟩=>n) (FUEL,(0:Int),([]:List Int),(.slice none 0 0),[]) ⟨z,z,trivial⟩ z ⟨H,aG⟩ ?_
  rintro ⟨n,o,c,b,a⟩ bA r ⟨aI,C⟩
  obtain ⟨Z,bB,rfl,H,D⟩:=iter_go aI
  refine T.norm [31,7,1,2,29,30] z<|Sl_ (rowR 3 1 b a::L) z<|Sr<|Vv (V.lt z z)<|Nt<|Sq<|T.cH H z (fun H=>?_) (fun H=>?_)
  ·refine T.skip<|Th<|Sq<|Bl<|Sr ?_
   obtain ⟨d,aa,H⟩:=bnd H
   have ab:=Slc.mono VapiRule.mono X r
   obtain ⟨bC,aJ,rfl⟩:=Slc.at ab aa
   refine Vv (V.ix elrule2_26 rfl rfl ab (getI_bd aa))<|Vv (V.ldS rfl aJ (by exact shrule2_39)) ?_
   refine To (O.alloc zerule2_39 z z fun bD=>To (O.stF (vs:=[.int .u8 d.fKind,.int .i64 d.fWeight,.string d.fA,.string d.fB,.string d.fTable,.int .i64 d.fN]) shrule2_39 z z (j:=0) z z z z<|T.freeze fun bE s aK=>have y:=AtC.of aK; Nt<|Bl<|Sq ?_))
   obtain ⟨aM,aN,aO⟩:=bndK H
   refine T.cutK (α:=Bool) [1,2,7,9,29,30,31] z (fun u=>[(35,.bool u)]) (fun u=>rowR 3 1 b a::L) (fun u hh=>aM = u) ?_ ?_
   ·have H:=aN
    refine T.drawF (t:=(.v 0 (.v 1 (.v 2 (.v 3 (.v 4 (.v 5 (.v 6 (.v 7 (.v 8 (.v 9 (.v 10 (.v 11 (.v 12 (.v 13 (.alt 14 .done .no)))))))))))))))) 16 0 0 rfl rfl rule2mixed (by kernel_rfl) ?_
    refine Tv z (V.fa fdrule2_39_0 z)<|Tv z (V.ldf (k:=0) shrule2_37 z y z)<|Tv z (V.eq z z)<|Tm z z<|T.bH 39 H z (fun H=>?_) (fun H=>?_)
    ·refine Tv z (V.fa fdrule2_39_4 z)<|Tv z (V.ldf (k:=4) shrule2_9 z y z)<|Tv z (V.fa fdrule2_28_0 z)<|have ac:=(r.trans s); have aP:=x.mono ac; Tv z (V.ldf (k:=0) shrule2_22 z aP z)<|Tm z z ?_
     obtain ⟨aS,ad,H⟩:=bnd H
     have ae:=Slc.mono VapiTable.mono B ac
     obtain ⟨bG,aU,⟨bI,rfl,bJ⟩⟩:=Slc.at ae ad
     refine Tv z (V.ix elrule2_22 z z ae (getI_bd ad))<|Tv z (V.fa fdrule2_31_0 z)<|Tv z (V.ldf (k:=0) shrule2_9 z aU z)<|Tv z (V.seq z z)<|Tv z (V.pkT z z)<|Ts z z (SX.two (XA.fr [] Lr z) (XA.fr [] Lr z)) (V.asg z) z ?_ T.tno
     refine T.tnil (SX.two (XA.fr [] Lr z) (XA.fr [] Lr z))<|Th<|T.met (decide (d.fTable = aS.fName)) Lr (sinj H) (AllIn.app ⟨z,trivial⟩ ⟨z,z,z,z,z,z,z,trivial⟩) z
    refine Tk z<|Tk z<|Tk z<|Tk z<|Tk z<|Tk z<|Tk z<|Tk z<|Tk z<|Tv z (V.pkF z z)<|Ts z z (SX.two (XA.fr [] Lr z) (XA.fr [] Lr z)) (V.asg z) z ?_ T.tno
    refine T.tnil (SX.two (XA.fr [] Lr z) (XA.fr [] Lr z))<|Th<|T.met false Lr (sinj H) (AllIn.app ⟨z,trivial⟩ ⟨z,z,z,z,z,z,z,trivial⟩) z
   rintro u bK p aV
   have H:=cutE aV aO
   refine T.norm [35,1,2,7,9,29,30,31] z<|Sl_ (rowR 3 1 b a::L) z<|T.cH H z (fun H=>?_) (fun H=>?_)
   ·refine T.drawF (t:=(.v 0 (.v 1 (.v 2 (.v 3 (.v 5 (.v 6 (.alt 4 (.g (.v 7 (.alt 8 (.alt 9 (.alt 10 .done .no) .no) .no))) .no)))))))) 9 1 0 rfl rfl rule2mixed (by kernel_rfl) ?_
    refine Tm z z<|Tv z (V.fa fdrule2_28_0 z)<|have E:=((r.trans s).trans p); have aW:=x.mono E; Tv z (V.ldf (k:=0) shrule2_22 z aW z)<|Tm z z<|Tv z (V.fa fdrule2_39_5 z)<|have aX:=y.mono p; Tv z (V.ldf (k:=5) shrule2_3 z aX z)<|have aY:=Slc.mono VapiTable.mono B E; ?_
    obtain ⟨bM,aZ,H⟩:=bnd H
    refine Tp z z (SX.two (XA.fr [] Lr z) (XA.fr [0] Lr z)) (O.callS z (hall_First_ok aY aZ _) z fun bN af bO G a0=>?_) T.tno
    obtain ⟨rfl,a1⟩:=a0
    refine Sl_ _ a1<|T.tgrow G ?_
    obtain ⟨A,a2,H⟩:=bnd H
    refine Tv z (V.addS z z a2)<|Tp z z (SX.two (XA.fr [] Lr z) (XA.fr [0] Lr z)) (O.bs elrule2_25 zerule2_3 z (e:=z) (hk:=z) (xs:=[.tmp 57]) (hv:=CO.eq (CO.cons z CO.nil)) (hw:=Wide.of z) (hd:=z) fun bP=>?_) T.tno
    have I:RowF (VI .i64) af [[.int .i64 A]] ([A]:List Int):=(RowF.cons z RowF.nil)
    obtain ⟨ag,ai,H⟩:=bnd H
    have a3:=((s.trans p).trans G)
    have aj:=RowF.mono VI.mono C a3
    refine Tp z z (SX.two (XA.fr [] Lr z) (XA.fr [1] Lr z)) (O.apX elrule2_25 elrule2_25 zerule2_3 z z z (j:=1) z (Src.row (j:=0) z) (Wide.of z) (RowF.ones VI.plain I) aj I ai z fun a4 bS bU=>?_) T.tno
    have a5:RowF (VI .i64) af (a ++ [[.int .i64 A]]) ag:=RowF.ap aj I ai
    refine Fr_ 1 z<|T.drop<|Ts z z (SX.one (XA.fr [] Lr z) z) (V.asg z) z ?_ T.tno
    refine T.tnil (SX.one (XA.fr [] Lr z) z)<|Bn<|Bn<|Th<|Rg ?_
    obtain ⟨a6,a7,H⟩:=bnd H
    refine Vv (V.addS z z a7)<|Mv z<|Nt<|have a8:=(E.trans G); T.again (Z,a6,ag,a4,(a ++ [[.int .i64 A]])) a8 (Nat.lt_succ_self _) ⟨(iterK_in H D),a5⟩ (AllIn.app ⟨z,z,trivial⟩ ⟨z,z,z,z,trivial⟩) z
   refine Sq<|T.drawF (t:=(.v 0 (.v 1 (.v 2 (.v 3 (.v 4 (.v 5 (.v 6 (.v 7 (.v 8 (.v 9 (.v 10 (.v 11 (.v 12 (.v 13 (.v 14 (.v 15 (.v 16 (.v 17 (.v 18 (.alt 19 .done .no))))))))))))))))))))) 21 0 0 rfl rfl rule2mixed (by kernel_rfl) ?_
   refine Tv z (V.fa fdrule2_39_0 z)<|have a9:=y.mono p; Tv z (V.ldf (k:=0) shrule2_37 z a9 z)<|Tv z (V.eq z z)<|Tm z z<|T.bH 64 H z (fun H=>?_) (fun H=>?_)
   ·exact dead H
   refine Tk z<|Tk z<|Tk z<|Tk z<|Tk z<|Tk z<|Tk z<|Tk z<|Tk z<|Tk z<|Tk z<|Tk z<|Tk z<|Tk z<|Tv z (V.pkF z z)<|Ts z z (SX.two (XA.fr [] Lr z) (XA.fr [] Lr z)) (V.asg z) z ?_ T.tno
   refine T.tnil (SX.two (XA.fr [] Lr z) (XA.fr [] Lr z))<|Th<|Cf z<|T.skip<|Bn<|Bn<|Th<|Rg ?_
   obtain ⟨ah,al,H⟩:=bnd H
   refine Vv (V.addS z z al)<|Mv z<|Nt<|have av:=(s.trans p); have az:=RowF.mono VI.mono C av; have ba:=((r.trans s).trans p); T.again (Z,ah,c,b,a) ba (Nat.lt_succ_self _) ⟨(iterK_in H D),az⟩ (AllIn.app ⟨z,z,trivial⟩ ⟨z,z,z,z,trivial⟩) z
  refine T.exit<|Te<|Te<|have H:=iterK_out H D; Be<|Th<|T.met (c,b,a) r ⟨H,C⟩ (AllIn.app ⟨z,trivial⟩ trivial) z
 rintro ⟨q,i,m⟩ bV bb ⟨bc,bd⟩
 have H:=cutE bc aE
 refine T.norm [7] z<|Sl_ (rowR 3 1 i m::L) z<|Sr<|Mv z ?_
 obtain ⟨bW,be,H⟩:=bnd H
 refine To (O.callS z (sl_SortInt_ok bd be _) z fun bX bY bZ bf bg=>?_)
 obtain ⟨b0,rfl,bi,bj⟩:=bg
 refine Sl_ _ bi<|Nt<|Sr<|Mv z ?_
 obtain ⟨b1,bk,H⟩:=bnd H
 refine To (O.callS z (sl_CompactInt_ok bj bk _) z fun b2 b3 b4 bm bn=>?_)
 obtain ⟨b5,bo,bp⟩:=bn
 refine Sl_ _ bo<|Ag z<|Nt<|T.ret ?_
 obtain rfl:=Option.some.inj H
 have bq:=((((f.trans w).trans bb).trans bf).trans bm)
 exact T.retL Tryz.results295 (Rv z) bq ⟨_,z,bp⟩
end Go.Proofs.X
open Go Go.Proofs Go.Sl Go.Dm
namespace Go.Proofs.X
theorem hall2mixed : Tryz.prog.follows .mixedOrders = true := by kernel_rfl
theorem elhall2_106 : elSh Tryz.prog 106 = some (25, 1, 24) := by kernel_rfl
theorem elhall2_25 : elSh Tryz.prog 25 = some (3, 1, 8) := by kernel_rfl
theorem elhall2_317 : elSh Tryz.prog 317 = some (71, 1, 8) := by kernel_rfl
theorem fdhall2_187_5 : fldOf Tryz.prog 187 5 = some 5 := by kernel_rfl
theorem fdhall2_31_1 : fldOf Tryz.prog 31 1 = some 1 := by kernel_rfl
theorem fdhall2_31_2 : fldOf Tryz.prog 31 2 = some 2 := by kernel_rfl
theorem fdhall2_31_3 : fldOf Tryz.prog 31 3 = some 3 := by kernel_rfl
theorem fdhall2_31_4 : fldOf Tryz.prog 31 4 = some 4 := by kernel_rfl
theorem shhall2_106 : tySh Tryz.prog 106 = some (false, 1) := by kernel_rfl
theorem shhall2_185 : tySh Tryz.prog 185 = some (false, 1) := by kernel_rfl
theorem shhall2_187 : tySh Tryz.prog 187 = some (true, 6) := by kernel_rfl
theorem shhall2_25 : tySh Tryz.prog 25 = some (false, 1) := by kernel_rfl
theorem shhall2_29 : tySh Tryz.prog 29 = some (false, 1) := by kernel_rfl
theorem shhall2_3 : tySh Tryz.prog 3 = some (false, 1) := by kernel_rfl
theorem shhall2_31 : tySh Tryz.prog 31 = some (true, 7) := by kernel_rfl
theorem shhall2_71 : tySh Tryz.prog 71 = some (false, 1) := by kernel_rfl
theorem zehall2_106 : zer Tryz.prog 106 = some (.slice none 0 0) := by kernel_rfl
theorem zehall2_187 : zer Tryz.prog 187 = some (.agg #[.string ⟨#[]⟩, .nilFunc, .nilFunc, .nilFunc, .nilFunc, .nilFunc]) := by kernel_rfl
theorem zehall2_25 : zer Tryz.prog 25 = some (.slice none 0 0) := by kernel_rfl
theorem zehall2_3 : zer Tryz.prog 3 = some (.int .i64 (0)) := by kernel_rfl
theorem hall_Stay_1_ok {h:PH} {k1:Int} {pp1:Addr} {pc1:List Value} {t2:apiTable} (pa1:AtC h pp1 pc1) (pr1:VapiTable h pc1 t2) {r_0:Bool} (H:hall_Stay_1 k1 t2 = some r_0):∀ L,FnS Tryz.prog 335 [.int .i64 k1,.pointer (some pp1)] h (L) (fun v h' L'=>v = .bool r_0∧L' = L):=by
 intro L
 obtain ⟨a,rfl,b⟩:=pr1
 refine FnS.enter Tryz.func335 z Tryz.ntmps335 z<|Sr<|Ag z<|Nt<|Sr<|Mv z<|Vv (V.lt z z)<|Mv z<|T.bH 6 H z (fun H=>?_) (fun H=>?_)
 ·exact dead H
 refine Mv z<|Vv (V.ldS rfl pa1 (by exact shhall2_31)) ?_
 obtain ⟨g,c,H⟩:=bnd H
 refine To (O.callS z (hall_size_ok (show VapiTable h [.string t2.fName,.int .u8 t2.fShape,.int .i64 t2.fA,.int .i64 t2.fB,a,.int .i64 t2.fX,.int .i64 t2.fY] t2 from ⟨a,z,b⟩) c _) z fun i j k d e=>?_)
 obtain ⟨rfl,f⟩:=e
 refine Sl_ _ f<|Vv (V.ge z z)<|Vv (V.pkF z z)<|Ag z<|Nt<|T.ret ?_
 obtain rfl:=Option.some.inj H
 exact T.retL Tryz.results335 (Rv z) d ⟨z,z⟩
theorem hall_Stay_2_ok {h:PH} {k1:Int} {pp1:Addr} {pc1:List Value} {t2:List Int} (pa1:AtC h pp1 pc1) (pr1:(VSl (VI .i64) 1) h pc1 t2) {r_0:Bool} (H:hall_Stay_2 k1 t2 = some r_0):∀ L,FnS Tryz.prog 338 [.int .i64 k1,.pointer (some pp1)] h (L) (fun v h' L'=>v = .bool r_0∧L' = L):=by
 intro L
 obtain ⟨d,rfl,a⟩:=pr1
 refine FnS.enter Tryz.func338 z Tryz.ntmps338 z<|Sr<|Ag z<|Nt<|Sr<|Vv (V.ld0 shhall2_25 z pa1 z)<|Mv z ?_
 obtain ⟨e,b,H⟩:=bnd H
 obtain ⟨f,c,rfl⟩:=Slc.at a b
 refine Vv (V.ix elhall2_25 z z a (getI_bd b))<|Vv (V.ld0 shhall2_3 z c z)<|Mv z<|Vv (V.ne z z)<|Ag z<|Nt<|T.ret ?_
 obtain rfl:=Option.some.inj H
 exact T.retL Tryz.results338 (Rv z) Lr ⟨z,z⟩
theorem hall_keeps_ok {h:PH} {pc0:List Value} {t1:apiTable} (pr0:VapiTable h pc0 t1) {pv1:Value} {p4:List Int} (pr1:Slc (VI .i64) 1 h pv1 p4) {r_0:Bool} (H:hall_keeps t1 p4 = some r_0):∀ L,FnS Tryz.prog 337 [.agg pc0.toArray,pv1] h (L) (fun v h' L'=>v = .bool r_0∧L' = L):=by
 intro L
 obtain ⟨a,rfl,aa⟩:=pr0
 refine FnS.enter Tryz.func337 z Tryz.ntmps337 z<|Sr<|To (O.boxF z z z fun al av r ab=>Ag z<|Nt<|Sq<|Sr<|Mv z<|have y:=Slc.mono VI.mono pr1 r; Vv (V.lenS elhall2_25 z y)<|Mv z<|Nt ?_)
 obtain ⟨A,ac,ad⟩:=bndK H
 refine T.cutK (α:=Unit) [] z (fun _u=>[]) (fun _u=>L) (fun _u hh=>A = ()) ?_ ?_
 ·have H:=ac
  refine Bl<|T.loopK (α:=Nat×Int) [1,2,8] z (fun ⟨c,b⟩=>[(9,.int .i64 b)]) (fun ⟨c,b⟩=>L) (fun ⟨c,b⟩ hh=>iter (hall_keeps_l0 t1 p4) c b = some A) (fun ⟨c,b⟩=>c) (FUEL,(0:Int)) ⟨z,trivial⟩ z H ?_
  rintro ⟨c,b⟩ az f ae
  obtain ⟨af,ba,rfl,H,B⟩:=iter_go ae
  refine T.norm [9,1,2,8] z<|Sl_ (L) z<|Sr<|Vv (V.lt z z)<|Nt<|Sq<|T.cH H z (fun H=>?_) (fun H=>?_)
  ·refine T.skip<|Th<|Sq<|Bl<|Sr<|Mv z<|Ag z<|Nt<|Sq<|Sq<|T.drawF (t:=(.v 0 (.v 1 (.v 2 (.v 4 (.v 5 (.v 6 (.v 7 (.v 8 (.v 9 (.alt 3 (.g (.alt 10 (.g (.v 11 .done)) .no)) .no))))))))))) 13 0 0 rfl rfl hall2mixed (by kernel_rfl) ?_
   refine Tv z (V.fa fdhall2_31_4 z)<|have s:=ab.mono f; Tv z (V.ldf (k:=4) shhall2_25 z s z)<|Tm z z<|Tv z (V.fa fdhall2_31_4 z)<|Tv z (V.ldf (k:=4) shhall2_25 z s z)<|Tm z z<|Tm z z ?_
   obtain ⟨bb,C,H⟩:=bnd H
   have u:=Slc.mono VI.mono y f
   obtain ⟨bc,ag,rfl⟩:=Slc.at u C
   refine Tv z (V.ix elhall2_25 z z u (getI_bd C))<|Tv z (V.ld0 shhall2_3 z ag z)<|have ai:=(r.trans f); have D:=Slc.mono VI.mono aa ai; ?_
   obtain ⟨bd,aj,H⟩:=bnd H
   refine Tp z z (SX.two (XA.fr [] Lr z) (XA.fr [] Lr z)) (O.callS z (sl_ContainsInt_ok D aj _) z fun be bf bg j ak=>?_) T.tno
   obtain ⟨rfl,am⟩:=ak
   refine Sl_ _ am<|T.tgrow j<|have E:=Slc.mono VI.mono D j; ?_
   obtain ⟨bi,an,H⟩:=bnd H
   refine Tp z z (SX.two (XA.fr [] Lr z) (XA.fr [] Lr z)) (O.callS z (sl_ContainsInt_ok E an _) z fun bj bk bm m ao=>?_) T.tno
   obtain ⟨rfl,ap⟩:=ao
   refine Sl_ _ ap<|T.tgrow m<|Tv z (V.bne Tryz.underlying4 z z)<|T.tnil (SX.two (XA.fr [] Lr z) (XA.fr [] Lr z))<|Th<|T.cH H z (fun H=>?_) (fun H=>?_)
   ·exact dead H
   refine T.skip<|Th<|Sr<|Mv z<|Mv z<|Nt<|T.asThen ?_
   obtain ⟨G,aq,ar⟩:=bndK H
   refine T.cutK (α:=Unit) [1,2,8,9] z (fun _u=>[]) (fun _u=>L) (fun _u hh=>G = ()) ?_ ?_
   ·have H:=aq
    refine Bl<|T.loopK (α:=Nat×Int) [1,2,5,8,9,24] z (fun ⟨d,e⟩=>[(25,.int .i64 e)]) (fun ⟨d,e⟩=>L) (fun ⟨d,e⟩ hh=>iter (hall_keeps_l1 t1 p4 b) d e = some G) (fun ⟨d,e⟩=>d) (FUEL,(0:Int)) ⟨z,trivial⟩ z H ?_
    rintro ⟨d,e⟩ au n aw
    obtain ⟨ax,bn,rfl,H,I⟩:=iter_go aw
    refine T.norm [25,1,2,5,8,9,24] z<|Sl_ (L) z<|Sr<|Vv (V.lt z z)<|Nt<|Sq<|T.cH H z (fun H=>?_) (fun H=>?_)
    ·refine T.skip<|Th<|Sq<|Bl<|Sr<|Mv z<|Ag z<|Nt<|Sq<|T.drawF (t:=(.v 0 (.v 1 (.v 2 (.v 4 (.v 5 (.v 6 (.v 7 (.v 8 (.v 9 (.v 10 (.v 11 (.v 12 (.alt 3 (.g (.alt 13 (.g (.v 14 (.v 15 (.v 16 (.v 17 (.v 18 (.v 20 (.v 21 (.v 22 (.v 23 (.v 24 (.v 25 (.v 26 (.v 27 (.v 28 (.alt 19 (.g (.alt 29 (.g (.v 30 (.v 31 .done))) .no)) .no)))))))))))))))) .no)) .no)))))))))))))) 33 0 0 rfl rfl hall2mixed (by kernel_rfl) ?_
     have J:=((j.trans m).trans n)
     have w:=s.mono J
     refine Tv z (V.ldS rfl w (by exact shhall2_31)) ?_
     refine Tm z z<|Tm z z<|Tv z (V.ldS rfl w (by exact shhall2_31)) ?_
     refine Tm z z<|Tm z z ?_
     obtain ⟨bo,K,H⟩:=bnd H
     have i:=Slc.mono VI.mono u J
     obtain ⟨bp,ay,rfl⟩:=Slc.at i K
     refine Tv z (V.ix elhall2_25 z z i (getI_bd K))<|Tv z (V.ld0 shhall2_3 z ay z)<|Tm z z<|Tm z z ?_
     obtain ⟨bq,M,H⟩:=bnd H
     obtain ⟨br,aA,rfl⟩:=Slc.at i M
     refine Tv z (V.ix elhall2_25 z z i (getI_bd M))<|Tv z (V.ld0 shhall2_3 z aA z)<|have aB:=(m.trans n); have N:=Slc.mono VI.mono E aB; ?_
     obtain ⟨bs,aC,H⟩:=bnd H
     refine Tp z z (SX.two (XA.fr [] Lr z) (XA.fr [] Lr z)) (O.callS z (hall_beside_ok (show VapiTable au [.string t1.fName,.int .u8 t1.fShape,.int .i64 t1.fA,.int .i64 t1.fB,a,.int .i64 t1.fX,.int .i64 t1.fY] t1 from ⟨a,z,N⟩) aC _) z fun bt aD bu o aE=>?_) T.tno
     obtain ⟨rfl,aG⟩:=aE
     refine Sl_ _ aG<|T.tgrow o<|have P:=Slc.mono VI.mono N o; ?_
     obtain ⟨bw,aI,H⟩:=bnd H
     refine Tp z z (SX.two (XA.fr [] Lr z) (XA.fr [] Lr z)) (O.callS z (hall_beside_ok (show VapiTable aD [.string t1.fName,.int .u8 t1.fShape,.int .i64 t1.fA,.int .i64 t1.fB,a,.int .i64 t1.fX,.int .i64 t1.fY] t1 from ⟨a,z,P⟩) aI _) z fun bx aJ bA p aK=>?_) T.tno
     obtain ⟨rfl,aM⟩:=aK
     refine Sl_ _ aM<|T.tgrow p<|Tv z (V.bne Tryz.underlying4 z z)<|Tm z z<|T.bH 43 H z (fun H=>?_) (fun H=>?_)
     ·exact dead H
     have S:=(o.trans p)
     have U:=w.mono S
     refine Tv z (V.ldS rfl U (by exact shhall2_31)) ?_
     refine Tm z z<|Tm z z<|Tv z (V.ldS rfl U (by exact shhall2_31)) ?_
     refine Tm z z<|Tm z z ?_
     obtain ⟨bB,W,H⟩:=bnd H
     have q:=Slc.mono VI.mono i S
     obtain ⟨bC,aN,rfl⟩:=Slc.at q W
     refine Tv z (V.ix elhall2_25 z z q (getI_bd W))<|Tv z (V.ld0 shhall2_3 z aN z)<|Tm z z<|Tm z z ?_
     obtain ⟨bD,X,H⟩:=bnd H
     obtain ⟨bE,aO,rfl⟩:=Slc.at q X
     refine Tv z (V.ix elhall2_25 z z q (getI_bd X))<|Tv z (V.ld0 shhall2_3 z aO z)<|have Y:=Slc.mono VI.mono P p; ?_
     obtain ⟨bG,aP,H⟩:=bnd H
     refine Tp z z (SX.two (XA.fr [] Lr z) (XA.fr [] Lr z)) (O.callS z (hall_across_ok (show VapiTable aJ [.string t1.fName,.int .u8 t1.fShape,.int .i64 t1.fA,.int .i64 t1.fB,a,.int .i64 t1.fX,.int .i64 t1.fY] t1 from ⟨a,z,Y⟩) aP _) z fun bI aS bJ x aU=>?_) T.tno
     obtain ⟨rfl,aV⟩:=aU
     refine Sl_ _ aV<|T.tgrow x<|have aW:=Slc.mono VI.mono Y x; ?_
     obtain ⟨bK,aX,H⟩:=bnd H
     refine Tp z z (SX.two (XA.fr [] Lr z) (XA.fr [] Lr z)) (O.callS z (hall_across_ok (show VapiTable aS [.string t1.fName,.int .u8 t1.fShape,.int .i64 t1.fA,.int .i64 t1.fB,a,.int .i64 t1.fX,.int .i64 t1.fY] t1 from ⟨a,z,aW⟩) aX _) z fun bM bN bO Z aY=>?_) T.tno
     obtain ⟨rfl,aZ⟩:=aY
     refine Sl_ _ aZ<|T.tgrow Z<|Tv z (V.bne Tryz.underlying4 z z)<|Tv z (V.pkF z z)<|T.tnil (SX.two (XA.fr [] Lr z) (XA.fr [] Lr z))<|Th<|T.cH H z (fun H=>?_) (fun H=>?_)
     ·exact dead H
     refine T.skip<|Bn<|Th<|T.norm [1,2,5,8,9,24,25] z<|Rg ?_
     obtain ⟨a0,a1,H⟩:=bnd H
     refine Vv (V.addS z z a1)<|Mv z<|Nt<|have a2:=((((n.trans o).trans p).trans x).trans Z); T.again (ax,a0) a2 (Nat.lt_succ_self _) (iterK_in H I) (AllIn.app ⟨z,trivial⟩ ⟨z,z,z,z,z,z,trivial⟩) z
    refine T.exit<|Te<|Te<|have H:=iterK_out H I; Be<|Th<|T.met () n H (AllIn.app trivial ⟨z,z,z,z,trivial⟩) z
   rintro _ bP a3 a4
   have H:=cutE a4 ar
   refine T.norm [1,2,8,9] z<|Sl_ (L) z<|Bn<|Th<|Rg ?_
   obtain ⟨a5,a6,H⟩:=bnd H
   refine Vv (V.addS z z a6)<|Mv z<|Nt<|have a7:=(((f.trans j).trans m).trans a3); T.again (af,a5) a7 (Nat.lt_succ_self _) (iterK_in H B) (AllIn.app ⟨z,trivial⟩ ⟨z,z,z,trivial⟩) z
  refine T.exit<|Te<|Te<|have H:=iterK_out H B; Be<|Th<|T.met () f H (AllIn.app trivial trivial) z
 rintro _ bS a8 a9
 have H:=cutE a9 ad
 refine T.norm [] z<|Sl_ (L) z<|Sr<|Ag z<|Nt<|T.ret ?_
 obtain rfl:=Option.some.inj H
 have ah:=(r.trans a8)
 exact T.retL Tryz.results337 (Rv z) ah ⟨z,z⟩
theorem hall_candidates_1_ok {h:PH} {σ:Type} {R:σ→PH→List HProp→Prop} {pv0:Value} {yield1:σ→(List Int)→Option (σ×Bool)} (pr0:CY367 R h pv0 yield1) {s0:σ} {La:List HProp} (hRa:R s0 h La) {pp1:Addr} {pc1:List Value} {t2:apiTable} (pa1:AtC h pp1 pc1) (pr1:VapiTable h pc1 t2) {q_s:σ} (H:hall_candidates_1 yield1 s0 t2 = some q_s):∀ As L,FnS Tryz.prog 360 [pv0,.pointer (some pp1)] h ((As ++ (La ++ L))) (fun v h' L'=>∃ La',v = .tuple #[]∧L' = (As ++ (La' ++ L))∧R q_s h' La'):=by
 intro As L
 obtain ⟨D,rfl,aj⟩:=pr1
 refine FnS.enter Tryz.func360 z Tryz.ntmps360 z<|Sr<|Vv (V.fa fdhall2_31_1 z)<|Vv (V.ldf (k:=1) shhall2_29 z pa1 z) ?_
 obtain ⟨⟨ak,bO⟩,am,H⟩:=bnd H
 refine To (O.callS z (hall_layoutOf_ok am _) z fun bP bS bU an ao=>?_)
 obtain ⟨ap,aq,ar,au,aw,rfl,ax,ay,aA,aB,aC,E⟩:=ao
 refine Sl_ _ ax<|Mv z<|Vv (V.ext rfl rfl)<|Vv (V.ext rfl rfl)<|To (O.alloc zehall2_187 rfl rfl fun bV=>To (O.stF (vs:=[.string ak.fword,ap,aq,ar,au,aw]) shhall2_187 rfl rfl (j:=0) rfl rfl (by (simp only [Sl.ones,ay.1.1,aA.1.1,aB.1.1,aC.1.1,E.1.1,Bool.and_true,Bool.true_and]) <;> rfl) rfl ?_))
 refine T.freeze fun aD G aE=>have aG:=AtC.of aE; Ag z<|Nt<|Sr<|have s:=(an.trans G); have I:=pa1.mono s; Vv (V.ldS rfl I (by exact shhall2_31)) ?_
 have aI:=Slc.mono VI.mono aj s
 obtain ⟨J,aJ,H⟩:=bnd H
 refine To (O.callS z (hall_size_ok (show VapiTable aD [.string t2.fName,.int .u8 t2.fShape,.int .i64 t2.fA,.int .i64 t2.fB,D,.int .i64 t2.fX,.int .i64 t2.fY] t2 from ⟨D,z,aI⟩) aJ _) z fun bW bX bY p aK=>?_)
 obtain ⟨rfl,aM⟩:=aK
 refine Sl_ _ aM<|Ag z<|Nt<|Sr<|Vv (V.fa fdhall2_187_5 z)<|have aN:=aG.mono p; Vv (V.ldf (k:=5) shhall2_185 z aN z)<|Vv (V.fa fdhall2_31_2 z)<|have K:=I.mono p; Vv (V.ldf (k:=2) shhall2_3 z K z)<|Vv (V.fa fdhall2_31_3 z)<|Vv (V.ldf (k:=3) shhall2_3 z K z) ?_
 obtain ⟨aO,aP,H⟩:=bnd H
 have aS:=(G.trans p)
 have aU:=CF185.mono E aS
 obtain ⟨bZ,b0,b1,aV,aW⟩:=CF185.call aU aP
 refine To (O.callfW z aV z (aW _) z fun b2 b3 b4 M aX=>?_)
 obtain ⟨aY,N⟩:=aX
 refine Sl_ _ aY<|Vv (V.lenS elhall2_317 z N)<|Mv z<|Nt<|T.asThen ?_
 obtain ⟨P,aZ,a0⟩:=bndK H
 refine T.cutK (α:=σ×(List HProp)) [] z (fun ⟨q,d⟩=>[]) (fun ⟨q,d⟩=>(As ++ (d ++ L))) (fun ⟨q,d⟩ hh=>P = q∧R q hh d) ?_ ?_
 ·have H:=aZ
  refine Bl<|have S:=((s.trans p).trans M); have a1:=pr0.2.1 _ _ _ _ S hRa; T.loopK (α:=Nat×σ×Int×(List HProp)) [0,5,24,25] z (fun ⟨g,e,i,a⟩=>[(26,.int .i64 i)]) (fun ⟨g,e,i,a⟩=>(As ++ (a ++ L))) (fun ⟨g,e,i,a⟩ hh=>iter (hall_candidates_1_l0 yield1 J aO) g (e,i) = some P∧R e hh a) (fun ⟨g,e,i,a⟩=>g) (FUEL,s0,(0:Int),La) ⟨z,trivial⟩ z ⟨H,a1⟩ ?_
  rintro ⟨g,e,i,a⟩ a2 t ⟨a3,U⟩
  obtain ⟨a4,b5,rfl,H,W⟩:=iter_go a3
  refine T.norm [26,0,5,24,25] z<|Sl_ ((As ++ (a ++ L))) z<|Sr<|Vv (V.lt z z)<|Nt<|Sq<|T.cH H z (fun H=>?_) (fun H=>?_)
  ·refine T.skip<|Th<|Sq<|Bl<|Sr ?_
   obtain ⟨a5,X,H⟩:=bnd H
   have Y:=Slc.mono VF71.mono N t
   obtain ⟨b6,a6,⟨b7,rfl,a7⟩⟩:=Slc.at Y X
   refine Vv (V.ix elhall2_317 z z Y (getI_bd X))<|Vv (V.ld0 shhall2_71 z a6 z)<|Ag z<|Nt<|Sr<|Mv z ?_
   obtain ⟨y,Z,H⟩:=bnd H
   refine To (O.mkX elhall2_25 zehall2_3 z z z z Z z fun m b8 b9=>have aa:RowF (VI .i64) a2 _ y:=RowF.rep z Z; Ag z<|Nt<|Sq<|Sr<|Mv z<|Vv (V.lenX elhall2_25 z (j:=0) z aa.len)<|Mv z<|Nt ?_)
   obtain ⟨ab,a8,a9⟩:=bndK H
   refine T.cutK (α:=(List Int)×(List (List Value))) [0,5,24,25,26] z (fun ⟨r,n⟩=>[(8,m)]) (fun ⟨r,n⟩=>rowR 3 1 m n::(As ++ (a ++ L))) (fun ⟨r,n⟩ hh=>ab = r∧RowF (VI .i64) hh n r) ?_ ?_
   ·have H:=a8
    refine Bl<|T.loopK (α:=Nat×Int×(List Int)×(List (List Value))) [0,5,7,24,25,26,33] z (fun ⟨o,c,f,b⟩=>[(34,.int .i64 c),(8,m)]) (fun ⟨o,c,f,b⟩=>rowR 3 1 m b::(As ++ (a ++ L))) (fun ⟨o,c,f,b⟩ hh=>iter (hall_candidates_1_l1 a5 y) o (c,f) = some ab∧RowF (VI .i64) hh b f) (fun ⟨o,c,f,b⟩=>o) (FUEL,(0:Int),y,(List.replicate J.toNat [.int .i64 (0:Int)])) ⟨z,z,trivial⟩ z ⟨H,aa⟩ ?_
    rintro ⟨o,c,f,b⟩ bh A ⟨ah,ac⟩
    obtain ⟨al,bl,rfl,H,ad⟩:=iter_go ah
    refine T.norm [34,8,0,5,7,24,25,26,33] z<|Sl_ (rowR 3 1 m b::(As ++ (a ++ L))) z<|Sr<|Vv (V.lt z z)<|Nt<|Sq<|T.cH H z (fun H=>?_) (fun H=>?_)
    ·refine T.skip<|Th<|Sq<|Bl<|Sr<|Mv z<|Ag z<|Nt<|Rg<|Mv z<|Mv z<|Mv z<|Mv z ?_
     obtain ⟨u,av,H⟩:=bnd H
     have az:=CF71.mono a7 A
     obtain ⟨bv,bz,ca,ba,bb⟩:=CF71.call az av
     refine To (O.callfW z ba z (bb _) z fun cb ae cc af bc=>?_)
     obtain ⟨rfl,be⟩:=bc
     refine Sl_ _ be ?_
     obtain ⟨cd,B,H⟩:=bnd H
     have w:=RowF.mono VI.mono ac af
     obtain ⟨ce,cf,rfl⟩:=RowF.get w B
     refine Vv (V.ixR elhall2_25 z z (j:=0) z (RowF.bd w B)) ?_
     obtain ⟨ag,bf,H⟩:=bnd H
     refine To (O.stR shhall2_3 z z (j:=0) z (RowF.bdN w B) z<|have bg:RowF (VI .i64) ae (b.set c.toNat [.int .i64 u]) ag:=RowF.set w (show (VI .i64) ae [.int .i64 u] u from z) bf; Ni<|Bn<|Th<|Rg ?_)
     obtain ⟨bi,bj,H⟩:=bnd H
     refine Vv (V.addS z z bj)<|Mv z<|Nt<|have bk:=(A.trans af); T.again (al,bi,ag,(b.set c.toNat [.int .i64 u])) bk (Nat.lt_succ_self _) ⟨(iterK_in H ad),bg⟩ (AllIn.app ⟨z,z,trivial⟩ ⟨z,z,z,z,z,z,z,trivial⟩) z
    refine T.exit<|Te<|Te<|have H:=iterK_out H ad; Be<|Th<|T.met (f,b) A ⟨H,ac⟩ (AllIn.app ⟨z,trivial⟩ ⟨z,z,z,z,z,trivial⟩) z
   rintro ⟨r,n⟩ cg C ⟨bm,bn⟩
   have H:=cutE bm a9
   refine T.norm [8,0,5,24,25,26] z<|Sl_ (rowR 3 1 m n::(As ++ (a ++ L))) z<|Sr<|Mv z<|Mv z<|T.rowFix fun ci x bo=>have bp:=RowF.mono VI.mono bn x; have bq:=RowF.slc bo bp; ?_
   obtain ⟨⟨br,cj⟩,bs,H⟩:=bnd H
   have bt:=(((S.trans t).trans C).trans x)
   have bu:=CY367.mono pr0 bt
   have bw:=(C.trans x)
   have bx:=pr0.2.1 _ _ _ _ bw U
   refine To (O.callY z z (CY367.call bu bq bx bs As _) z fun ck cm cn bA bB=>?_)
   obtain ⟨ai,rfl,bC,bD⟩:=bB
   refine Sl_ ((As ++ (ai ++ L))) bC<|Vv (V.not z)<|Nt<|T.cH H z (fun H=>?_) (fun H=>?_)
   ·exact dead H
   refine T.skip<|Bn<|Th<|Rg ?_
   obtain ⟨bE,bG,H⟩:=bnd H
   refine Vv (V.addS z z bG)<|Mv z<|Nt<|have bI:=(((t.trans C).trans x).trans bA); T.again (a4,br,bE,ai) bI (Nat.lt_succ_self _) ⟨(iterK_in H W),bD⟩ (AllIn.app ⟨z,trivial⟩ ⟨z,z,z,z,trivial⟩) z
  refine T.exit<|Te<|Te<|have H:=iterK_out H W; Be<|Th<|T.met (e,a) t ⟨H,U⟩ (AllIn.app trivial trivial) z
 rintro ⟨q,d⟩ co bJ ⟨bK,bM⟩
 have H:=cutE bK a0
 refine T.norm [] z<|Sl_ ((As ++ (d ++ L))) z ?_
 obtain rfl:=Option.some.inj H
 have bN:=(((s.trans p).trans M).trans bJ)
 exact T.end0 Tryz.results360 bN ⟨d,z,z,bM⟩
theorem hall_candidates_ok {h:PH} {pc0:List Value} {t1:apiTable} (pr0:VapiTable h pc0 t1) {r_0:apiTable} (H:hall_candidates t1 = some r_0):∀ L,FnS Tryz.prog 336 [.agg pc0.toArray] h (L) (fun v h' L'=>∃ p0_1 v0_3,v = .func (.func 360) #[] #[.pointer (some p0_1)]∧L' = L∧AtC h' p0_1 [.string r_0.fName,.int .u8 r_0.fShape,.int .i64 r_0.fA,.int .i64 r_0.fB,v0_3,.int .i64 r_0.fX,.int .i64 r_0.fY]∧Slc (VI .i64) 1 h' v0_3 r_0.fOpen):=by
 intro L
 obtain ⟨e,rfl,b⟩:=pr0
 refine FnS.enter Tryz.func336 z Tryz.ntmps336 z<|Sr<|To (O.boxF z z z fun f g a c=>Ag z<|Nt<|Sr<|Vv (V.mkf z z)<|Ag z<|Nt<|T.ret<|have d:=Slc.mono VI.mono b a; ?_)
 obtain rfl:=Option.some.inj H
 exact T.retL Tryz.results336 (Rv z) a ⟨_,_,z,z,c,d⟩
theorem hall_Stay_ok {h:PH} {pc0:List Value} {t1:apiTable} (pr0:VapiTable h pc0 t1) {pv1:Value} {seats4:List Int} (pr1:Slc (VI .i64) 1 h pv1 seats4) {r_0:List (List Int)} (H:hall_Stay t1 seats4 = some r_0):∀ L,FnS Tryz.prog 296 [.agg pc0.toArray,pv1] h (L) (fun v h' L'=>∃ cs0,L' = rowR 25 1 v cs0::L∧RowF (VSl (VI .i64) 1) h' cs0 r_0):=by
 intro L
 obtain ⟨d,rfl,ay⟩:=pr0
 refine FnS.enterM Tryz.func296 rfl Tryz.ntmps296 rfl<|Sr<|To (O.boxF rfl rfl rfl fun C b3 D aA=>have E:=Slc.mono VI.mono pr1 D; To (O.boxF rfl (Slc.cells E) rfl fun b4 aB s aC=>Ag z<|Nt<|Sq<|Sr<|have G:=aA.mono s; Vv (V.ldS rfl G (by exact shhall2_31)) ?_))
 have I:=(D.trans s)
 have J:=Slc.mono VI.mono ay I
 obtain ⟨b5,aD,H⟩:=bnd H
 refine To (O.callS z (hall_Check_ok (show VapiTable aB [.string t1.fName,.int .u8 t1.fShape,.int .i64 t1.fA,.int .i64 t1.fB,d,.int .i64 t1.fX,.int .i64 t1.fY] t1 from ⟨d,z,J⟩) aD _) z fun b6 aE b7 i aG=>?_)
 obtain ⟨rfl,aI⟩:=aG
 refine Sl_ _ aI<|Vv (V.ne z z)<|Mv z<|T.bH 10 H z (fun H=>?_) (fun H=>?_)
 ·exact dead H
 have K:=aC.mono i
 refine Vv (V.ld0 shhall2_25 z K z)<|Vv (V.mkf z z)<|have aJ:=(s.trans i); have M:=Slc.mono VI.mono E aJ; have N:=G.mono i; have P:=Slc.mono VI.mono J i; ?_
 obtain ⟨b8,aK,H⟩:=bnd H
 refine To (O.callS z (sl_ContainsFuncInt_ok M (show CF130 aE (.func (.func 335) #[] #[.pointer (some ⟨C,0,none⟩)]) (fun t=>hall_Stay_1 t t1) from ⟨⟨z,z⟩,.inr ⟨335,[],[.pointer (some ⟨C,0,none⟩)],z,fun aM U b9 bh aN aO=>hall_Stay_1_ok (N.mono U) (show VapiTable aM [.string t1.fName,.int .u8 t1.fShape,.int .i64 t1.fA,.int .i64 t1.fB,d,.int .i64 t1.fX,.int .i64 t1.fY] t1 from ⟨d,z,(Slc.mono VI.mono P U)⟩) aN aO⟩⟩) aK _) z fun bl aP bv o aS=>?_)
 obtain ⟨rfl,aU⟩:=aS
 refine Sl_ _ aU<|Vv (V.pkF z z)<|Nt<|T.cH H z (fun H=>?_) (fun H=>?_)
 ·exact dead H
 refine T.skip<|Th<|Sr<|To (O.alloc zehall2_106 rfl rfl fun f=>Nt<|Sq<|Sr<|have W:=N.mono o; Vv (V.ldS rfl W (by exact shhall2_31)) ?_)
 have X:=Slc.mono VI.mono P o
 obtain ⟨g,aV,H⟩:=bnd H
 refine To (O.callS z (hall_candidates_ok (show VapiTable aP [.string t1.fName,.int .u8 t1.fShape,.int .i64 t1.fA,.int .i64 t1.fB,d,.int .i64 t1.fX,.int .i64 t1.fY] t1 from ⟨d,z,X⟩) aV _) z fun bz u ca w aW=>?_)
 obtain ⟨cb,Y,rfl,aX,aY,aZ⟩:=aW
 refine Sl_ _ aX<|Nt<|Bl ?_
 obtain ⟨cc,a0,a1⟩:=bndK H
 refine T.rowNil 25 1<|have a2:RowF (VSl (VI .i64) 1) u [] ([]:List (List Int)):=RowF.nil; Fr_ 1 z<|T.rangeY (S:=(List (List Int))) (O:=Unit) (La0:=[blk f (.cells [(.slice none 0 0)].toArray 106),rowR 25 1 (.slice none 0 0) []]) (Lr:=L) (fun p hh a3=>∃ a:Value,∃ b:List (List Value),a3 = ([blk f (.cells [a].toArray 106),rowR 25 1 a b]:List HProp)∧RowF (VSl (VI .i64) 1) hh b p) (fun _ _ _ _=>False) z z ⟨(.slice none 0 0),[],z,a2⟩ (fun R_ y_=>CY367 R_ u y_ (hall_Stay_l0 t1 seats4)) (fun Z=>⟨⟨z,z⟩,RYs.mono (fun p _ _ _ l_ ⟨a,b,e_,f0_⟩=>⟨a,b,e_,RowF.mono (VSl.mono VI.mono) f0_ l_⟩) (fun _ _ _ _ _ _ q_=>q_),?_⟩) (fun _ La_ a4 a5 a6=>FnS.perm (List.Perm.refl _) (hall_candidates_1_ok a4 a5 aY (show VapiTable u [.string g.fName,.int .u8 g.fShape,.int .i64 g.fA,.int .i64 g.fB,Y,.int .i64 g.fX,.int .i64 g.fY] g from ⟨Y,z,aZ⟩) a0 [] a6) fun _ _ _ ⟨La_,_,e_,q_⟩=>⟨_,List.Perm.refl _,La_,e_,q_⟩) ?_ ?_
 ·intro cd aa c x y a7 ce cf cg a8 H As_ L_
  rcases a7 with p | _
  rotate_left
  ·exact dead H
  obtain ⟨ab,_,rfl,A,a9,ci,a,b,rfl,q⟩:=a8
  refine Yld.front fun L=>Yld.round1 (j:=0) rfl A rfl<|Sl_ (blk Z (.loop ab)::blk f (.cells [a].toArray 106)::rowR 25 1 a b::L) rfl<|Rg<|To (O.alloc zehall2_25 rfl rfl fun ac=>To (O.stF (vs:=[c]) shhall2_25 rfl rfl (j:=0) rfl (Slc.cells y) (by (simp only [Sl.ones,Slc.one y,Bool.and_true,Bool.true_and]) <;> rfl) rfl ?_))
  refine T.fl ?_
  refine T.freeze fun ah k al=>have ad:=AtC.of al; Nt<|T.begin (j:=0) z a9<|T.fl ?_
  refine Bl<|Sr<|have ae:=((w.trans aa).trans k); have av:=W.mono ae; Vv (V.ldS rfl av (by exact shhall2_31)) ?_
  refine Vv (V.ld0 shhall2_25 z ad z)<|have az:=Slc.mono VI.mono X ae; have af:=Slc.mono VI.mono y k; ?_
  obtain ⟨cj,ba,H⟩:=bnd H
  refine To (O.callS z (hall_keeps_ok (show VapiTable ah [.string t1.fName,.int .u8 t1.fShape,.int .i64 t1.fA,.int .i64 t1.fB,d,.int .i64 t1.fX,.int .i64 t1.fY] t1 from ⟨d,z,az⟩) af ba _) z fun ck bb cm m bc=>?_)
  obtain ⟨rfl,bd⟩:=bc
  refine Sl_ _ bd<|Mv z<|T.bH 21 H z (fun H=>?_) (fun H=>?_)
  ·have ag:=((((o.trans w).trans aa).trans k).trans m)
   have be:=K.mono ag
   refine Vv (V.ld0 shhall2_25 z be z)<|Vv (V.mkf z z)<|have bf:=Slc.mono VI.mono M ag; have ai:=ad.mono m; have aj:=Slc.mono VI.mono af m; ?_
   obtain ⟨cn,bg,H⟩:=bnd H
   refine To (O.callS z (sl_ContainsFuncInt_ok bf (show CF130 bb (.func (.func 338) #[] #[.pointer (some ⟨ac,0,none⟩)]) (fun t=>hall_Stay_2 t x) from ⟨⟨z,z⟩,.inr ⟨338,[],[.pointer (some ⟨ac,0,none⟩)],z,fun bi ak co cp bj bk=>hall_Stay_2_ok (ai.mono ak) (show (VSl (VI .i64) 1) bi [c] x from ⟨c,z,(Slc.mono VI.mono aj ak)⟩) bj bk⟩⟩) bg _) z fun cq am cr r bm=>?_)
   obtain ⟨rfl,bn⟩:=bm
   refine Sl_ _ bn<|Vv (V.not z)<|Vv (V.pkT z z)<|Nt<|T.cH H z (fun H=>?_) (fun H=>?_)
   ·refine Rg<|Vv (V.ldO0 shhall2_106 z (j:=1) z z)<|have bo:=ai.mono r; Vv (V.ld0 shhall2_25 z bo z)<|have an:=Slc.mono VI.mono aj r; To (O.bs elhall2_106 zehall2_25 z (e:=z) (hk:=z) (xs:=[.tmp 28]) (hv:=CO.eq (CO.cons (Slc.cells an) CO.nil)) (hw:=Wide.of z) (hd:=z) fun bp=>have B:RowF (VSl (VI .i64) 1) am [[c]] ([x]:List (List Int)):=(RowF.cons ⟨c,z,an⟩ RowF.nil); ?_)
    obtain ⟨bq,ao,H⟩:=bnd H
    have aq:=((k.trans m).trans r)
    have ar:=RowF.mono (VSl.mono VI.mono) q aq
    refine To (O.apX elhall2_106 elhall2_106 zehall2_25 z z z (j:=3) z (Src.row (j:=0) z) (Wide.of z) (RowF.ones VSl.plain B) ar B ao z fun n cs ct=>have br:RowF (VSl (VI .i64) 1) am (b ++ [[c]]) bq:=RowF.ap ar B ao; Sl_ (rowR 25 1 n (b ++ [[c]])::rowR 25 1 (.slice (some ⟨bp,0,none⟩) 1 1) [[c]]::blk Z (.loop { ab with state:=.busy })::blk f (.cells [a].toArray 106)::L) z<|Fr_ 1 z<|T.fl ?_)
    refine T.drop<|T.rowOne 0 rfl fun bt bu=>To (O.stF (vs:=[n]) shhall2_106 rfl rfl (j:=2) rfl bu (by (simp only [Sl.ones,bt,Bool.and_true,Bool.true_and]) <;> rfl) rfl ?_)
    refine T.fl ?_
    refine Ni<|Bn<|Fr_ 1 z<|T.fl ?_
    refine Fr_ 1 z<|T.fl ?_
    refine Fr_ 2 z<|T.fl ?_
    obtain ⟨rfl,rfl⟩:=inj2 H
    exact T.endN (j:=0) z aq ⟨_::[blk f (.cells [n].toArray 106),rowR 25 1 n (b ++ [[c]])],z,z,⟨_,_,z,A.turn .ready none,z,z,⟨n,(b ++ [[c]]),z,br⟩⟩⟩
   refine T.skip<|Bn<|have au:=((k.trans m).trans r); have bw:=RowF.mono (VSl.mono VI.mono) q au; ?_
   obtain ⟨rfl,rfl⟩:=inj2 H
   exact T.endN (j:=0) z au ⟨_::[blk f (.cells [a].toArray 106),rowR 25 1 a b],z,z,⟨_,_,z,A.turn .ready none,z,z,⟨a,b,z,bw⟩⟩⟩
  exact dead H
 ·rintro bx bA _ p bB bC ⟨a,b,rfl,q⟩
  have H:=cutE bC a1
  refine Sl_ (blk bx (.deferred (some []))::blk f (.cells [a].toArray 106)::rowR 25 1 a b::L) z<|Bn<|Th<|Sr<|Vv (V.ldO0 shhall2_106 z (j:=1) z z)<|Fr_ 2 z<|T.fl ?_
  obtain ⟨cu,bD,H⟩:=bnd H
  refine To (O.callS z (sl_SortFuncInts_ok q (show CF353 bA (.func (.func 340) #[] #[]) sl_CompareInt from ⟨⟨z,z⟩,.inr ⟨340,[],[],z,fun cw cx cy cA bE cB cC bG cD bI bJ=>sl_CompareInt_ok bE bG bI bJ⟩⟩) bD _) z fun cE bK cG bM bN=>?_)
  obtain ⟨cI,rfl,bO,bP⟩:=bN
  refine Sl_ _ bO<|Nt<|Sr<|Vv (V.ldO0 shhall2_106 z (j:=2) z z) ?_
  obtain ⟨cJ,bS,H⟩:=bnd H
  refine To (O.callS z (sl_CompactFuncInts_ok bP (show CF78 bK (.func (.func 342) #[] #[]) sl_EqualInt from ⟨⟨z,z⟩,.inr ⟨342,[],[],z,fun cK cM cN cO bU cP cS bV cU bW bX=>sl_EqualInt_ok bU bV bW bX⟩⟩) bS _) z fun aw cV cW bY bZ=>?_)
  obtain ⟨ax,b0,b1⟩:=bZ
  refine Sl_ _ b0<|Ag z<|Nt<|T.ret<|Fr_ 2 z<|T.fl ?_
  refine T.drop<|Fr_ 1 z<|T.lvRet<|T.lvMark (j:=0) z<|Sl_ (rowR 25 1 aw ax::L) z ?_
  obtain rfl:=Option.some.inj H
  have b2:=((((((I.trans i).trans o).trans w).trans bB).trans bM).trans bY)
  exact T.lvDone (L':=rowR 25 1 aw ax::L) Tryz.results296 (Rv z) b2 (fun _ iv=>iv) ⟨_,z,b1⟩
 rintro _ _ _ _ _ _ _ ⟨⟩
end Go.Proofs.X
open Go Go.Proofs Go.Sl Go.Dm
namespace Go.Proofs.X
theorem elplan_105 : elSh Tryz.prog 105 = some (4, 1, 1) := by kernel_rfl
theorem elplan_22 : elSh Tryz.prog 22 = some (31, 7, 80) := by kernel_rfl
theorem elplan_23 : elSh Tryz.prog 23 = some (35, 9, 112) := by kernel_rfl
theorem elplan_25 : elSh Tryz.prog 25 = some (3, 1, 8) := by kernel_rfl
theorem fdplan_28_0 : fldOf Tryz.prog 28 0 = some 0 := by kernel_rfl
theorem fdplan_28_1 : fldOf Tryz.prog 28 1 = some 1 := by kernel_rfl
theorem shplan_22 : tySh Tryz.prog 22 = some (false, 1) := by kernel_rfl
theorem shplan_23 : tySh Tryz.prog 23 = some (false, 1) := by kernel_rfl
theorem shplan_28 : tySh Tryz.prog 28 = some (true, 5) := by kernel_rfl
theorem shplan_3 : tySh Tryz.prog 3 = some (false, 1) := by kernel_rfl
theorem shplan_31 : tySh Tryz.prog 31 = some (true, 7) := by kernel_rfl
theorem shplan_4 : tySh Tryz.prog 4 = some (false, 1) := by kernel_rfl
theorem zeplan_3 : zer Tryz.prog 3 = some (.int .i64 (0)) := by kernel_rfl
theorem zeplan_4 : zer Tryz.prog 4 = some (.bool false) := by kernel_rfl
theorem plan_group_ok {h:PH} {pc0:List Value} {p1:apiProblem} (pr0:VapiProblem h pc0 p1) {t12:Int} {r_0:List (List Int)} (H:plan_group p1 t12 = some r_0):∀ L,FnS Tryz.prog 226 [.agg pc0.toArray,.int .i64 t12] h (L) (fun v h' L'=>∃ cs0,L' = rowR 25 1 v cs0::L∧RowF (VSl (VI .i64) 1) h' cs0 r_0):=by
 intro L
 obtain ⟨A,B,C,D,E,rfl,af,ag,ai,aj,ak⟩:=pr0
 refine FnS.enter Tryz.func226 rfl Tryz.ntmps226 rfl<|Sr<|To (O.boxF rfl rfl rfl fun ba am f r=>Ag z<|Nt<|Sr<|Ag z<|Nt<|Sq<|Sr<|Vv (V.ldS rfl r (by exact shplan_28)) ?_)
 refine Mv z<|have s:=Slc.mono VapiTable.mono af f; have an:=Slc.mono VapiGuest.mono ag f; have ao:=Slc.mono VapiTie.mono ai f; have aq:=Slc.mono VI.mono aj f; have ar:=Slc.mono VapiRule.mono ak f; ?_
 obtain ⟨au,aw,H⟩:=bnd H
 refine To (O.callS z (rule_Pinned_ok (show VapiProblem am [A,B,C,D,E] p1 from ⟨A,B,C,D,E,z,s,an,ao,aq,ar⟩) aw _) z fun t ax bb u ay=>?_)
 obtain ⟨w,aA,G⟩:=ay
 refine Sl_ _ aA<|Vv (V.lenX elplan_25 z (j:=0) z G.len)<|Mv z<|Nt ?_
 obtain ⟨I,aB,aC⟩:=bndK H
 refine T.cutK (α:=(List Int)×Value×(List (List Value))) [1,2] z (fun ⟨p,g,i⟩=>[(5,g)]) (fun ⟨p,g,i⟩=>rowR 3 1 g i::L) (fun ⟨p,g,i⟩ hh=>I = p∧RowF (VI .i64) hh i p) ?_ ?_
 ·have H:=aB
  refine Bl<|T.rowNil 3 1<|have aD:RowF (VI .i64) ax [] ([]:List Int):=RowF.nil; Fr_ 1 z<|T.loopK (α:=Nat×Int×(List Int)×Value×(List (List Value))) [1,2,10,11] z (fun ⟨m,n,c,b,a⟩=>[(12,.int .i64 n),(5,b)]) (fun ⟨m,n,c,b,a⟩=>rowR 3 1 t w::rowR 3 1 b a::L) (fun ⟨m,n,c,b,a⟩ hh=>iter (plan_group_l0 p1 t12 au) m (n,c) = some I∧RowF (VI .i64) hh a c) (fun ⟨m,n,c,b,a⟩=>m) (FUEL,(0:Int),([]:List Int),(.slice none 0 0),[]) ⟨z,z,trivial⟩ z ⟨H,aD⟩ ?_
  rintro ⟨m,n,c,b,a⟩ bc q ⟨aE,J⟩
  obtain ⟨aG,be,rfl,H,K⟩:=iter_go aE
  refine T.norm [12,5,1,2,10,11] z<|Sl_ (rowR 3 1 t w::rowR 3 1 b a::L) z<|Sr<|Vv (V.lt z z)<|Nt<|Sq<|T.cH H z (fun H=>?_) (fun H=>?_)
  ·refine T.skip<|Th<|Sq<|Bl<|Sr ?_
   obtain ⟨bf,M,H⟩:=bnd H
   have N:=RowF.mono VI.mono G q
   obtain ⟨bg,aI,rfl⟩:=RowF.get N M
   refine Vv (V.ixR elplan_25 z z (j:=0) z (RowF.bd N M))<|Vv (V.ldR shplan_3 z (j:=0) z aI z)<|Ag z<|Nt<|Rg<|Mv z<|Mv z<|Vv (V.fa fdplan_28_0 z)<|have P:=(u.trans q); have aJ:=r.mono P; Vv (V.ldf (k:=0) shplan_22 z aJ z)<|Mv z<|have aK:=Slc.mono VapiTable.mono s P; ?_
   obtain ⟨bi,aM,H⟩:=bnd H
   refine To (O.callS z (hall_First_ok aK aM _) z fun bj S bk U aN=>?_)
   obtain ⟨rfl,aO⟩:=aN
   refine Sl_ _ aO ?_
   obtain ⟨o,aP,H⟩:=bnd H
   refine Vv (V.subS z z aP)<|To (O.bs elplan_25 zeplan_3 z (e:=z) (hk:=z) (xs:=[.tmp 22]) (hv:=CO.eq (CO.cons z CO.nil)) (hw:=Wide.of z) (hd:=z) fun aS=>have x:RowF (VI .i64) S [[.int .i64 o]] ([o]:List Int):=(RowF.cons z RowF.nil); ?_)
   obtain ⟨W,X,H⟩:=bnd H
   have Y:=RowF.mono VI.mono J U
   refine To (O.apX elplan_25 elplan_25 zeplan_3 z z z (j:=2) z (Src.row (j:=0) z) (Wide.of z) (RowF.ones VI.plain x) Y x X z fun Z bm bn=>have aU:RowF (VI .i64) S (a ++ [[.int .i64 o]]) W:=RowF.ap Y x X; Sl_ (rowR 3 1 Z (a ++ [[.int .i64 o]])::rowR 3 1 (.slice (some ⟨aS,0,none⟩) 1 1) [[.int .i64 o]]::rowR 3 1 t w::L) z<|Fr_ 1 z<|T.fl ?_)
   refine T.drop<|Ag z<|Ni<|Bn<|Th<|Rg ?_
   obtain ⟨aV,aW,H⟩:=bnd H
   refine Vv (V.addS z z aW)<|Mv z<|Nt<|Fr_ 1 z<|have aX:=(q.trans U); T.again (aG,aV,W,Z,(a ++ [[.int .i64 o]])) aX (Nat.lt_succ_self _) ⟨(iterK_in H K),aU⟩ (AllIn.app ⟨z,z,trivial⟩ ⟨z,z,z,z,trivial⟩) z
  refine T.exit<|Te<|Te<|have H:=iterK_out H K; Be<|Th<|T.drop<|T.met (c,b,a) q ⟨H,J⟩ (AllIn.app ⟨z,trivial⟩ ⟨z,z,trivial⟩) z
 rintro ⟨p,g,i⟩ bo aa ⟨aY,aZ⟩
 have H:=cutE aY aC
 refine T.norm [5,1,2] z<|Sl_ (rowR 3 1 g i::L) z<|Sr<|Vv (V.fa fdplan_28_0 z)<|have ab:=(u.trans aa); have a0:=r.mono ab; Vv (V.ldf (k:=0) shplan_22 z a0 z)<|Mv z ?_
 obtain ⟨d,ac,H⟩:=bnd H
 have ad:=Slc.mono VapiTable.mono s ab
 obtain ⟨bp,a1,⟨ae,rfl,a2⟩⟩:=Slc.at ad ac
 refine Vv (V.ix elplan_22 rfl rfl ad (getI_bd ac))<|Vv (V.ldS rfl a1 (by exact shplan_31)) ?_
 refine Mv z<|T.rowFix fun a3 y a4=>have a5:=RowF.mono VI.mono aZ y; have a6:=RowF.slc a4 a5; have a7:=Slc.mono VI.mono a2 y; ?_
 obtain ⟨bq,a8,H⟩:=bnd H
 refine To (O.callS z (hall_Stay_ok (show VapiTable a3 [.string d.fName,.int .u8 d.fShape,.int .i64 d.fA,.int .i64 d.fB,ae,.int .i64 d.fX,.int .i64 d.fY] d from ⟨ae,z,a7⟩) a6 a8 _) z fun br bt bu a9 ah=>?_)
 obtain ⟨bw,al,av⟩:=ah
 refine Sl_ _ al<|Ag z<|Nt<|T.ret ?_
 obtain rfl:=Option.some.inj H
 have az:=((((f.trans u).trans aa).trans y).trans a9)
 exact T.retL Tryz.results226 (Rv z) az ⟨_,z,av⟩
theorem plan_Group_ok {h:PH} {pc0:List Value} {p1:apiProblem} (pr0:VapiProblem h pc0 p1) {t12:Int} {r_0:List (List Int)} (H:plan_Group p1 t12 = some r_0):∀ L,FnS Tryz.prog 126 [.agg pc0.toArray,.int .i64 t12] h (L) (fun v h' L'=>∃ cs0,L' = rowR 25 1 v cs0::L∧RowF (VSl (VI .i64) 1) h' cs0 r_0):=by
 intro L
 obtain ⟨c,d,e,f,g,rfl,s,t,u,w,x⟩:=pr0
 refine FnS.enter Tryz.func126 rfl Tryz.ntmps126 rfl<|Sr<|To (O.boxF rfl rfl rfl fun W y b i=>Ag z<|Nt<|Sq<|Sr<|Vv (V.ldS rfl i (by exact shplan_28)) ?_)
 have j:=Slc.mono VapiTable.mono s b
 have m:=Slc.mono VapiGuest.mono t b
 have n:=Slc.mono VapiTie.mono u b
 have o:=Slc.mono VI.mono w b
 have p:=Slc.mono VapiRule.mono x b
 obtain ⟨⟨X,Y⟩,A,H⟩:=bnd H
 refine To (O.callS z (rule_Check_ok (show VapiProblem y [c,d,e,f,g] p1 from ⟨c,d,e,f,g,z,j,m,n,o,p⟩) A _) z fun Z B aa a C=>?_)
 obtain ⟨rfl,D⟩:=C
 refine Sl_ _ D<|Mv z<|Vv (V.ext z z)<|Vv (V.ext z z)<|Ag z<|Ag z<|Nt<|Sr<|Mv z<|Vv (V.ne z z)<|Mv z<|T.bH 14 H z (fun H=>?_) (fun H=>?_)
 ·exact dead H
 refine Mv z<|Vv (V.lt z z)<|Vv (V.pkF z z)<|Mv z<|T.bH 18 H z (fun H=>?_) (fun H=>?_)
 ·exact dead H
 refine Mv z<|Vv (V.fa fdplan_28_0 z)<|have q:=i.mono a; Vv (V.ldf (k:=0) shplan_22 z q z)<|have r:=Slc.mono VapiTable.mono j a; Vv (V.lenS elplan_22 z r)<|Vv (V.ge z z)<|Vv (V.pkF z z)<|Nt<|T.cH H z (fun H=>?_) (fun H=>?_)
 ·exact dead H
 refine T.skip<|Th<|Sr<|Vv (V.ldS rfl q (by exact shplan_28)) ?_
 refine Mv z<|have E:=Slc.mono VapiGuest.mono m a; have G:=Slc.mono VapiTie.mono n a; have I:=Slc.mono VI.mono o a; have J:=Slc.mono VapiRule.mono p a; ?_
 obtain ⟨ab,K,H⟩:=bnd H
 refine To (O.callS z (plan_group_ok (show VapiProblem B [c,d,e,f,g] p1 from ⟨c,d,e,f,g,z,r,E,G,I,J⟩) K _) z fun ac ad ae M N=>?_)
 obtain ⟨af,P,S⟩:=N
 refine Sl_ _ P<|Ag z<|Nt<|T.ret ?_
 obtain rfl:=Option.some.inj H
 have U:=((b.trans a).trans M)
 exact T.retL Tryz.results126 (Rv z) U ⟨_,z,S⟩
theorem plan_check_ok {h:PH} {pc0:List Value} {p1:apiProblem} (pr0:VapiProblem h pc0 p1) {pv1:Value} {part12:List Int} (pr1:Slc (VI .i64) 1 h pv1 part12) {whole13:Bool} {r_0:Int} {r_1:Int} (H:plan_check p1 part12 whole13 = some (r_0,r_1)):∀ L,FnS Tryz.prog 170 [.agg pc0.toArray,pv1,.bool whole13] h (L) (fun v h' L'=>v = .tuple #[.int .i64 r_0,.int .i64 r_1]∧L' = L):=by
 intro L
 obtain ⟨aO,aP,aS,aU,aV,rfl,P,S,aW,aX,aY⟩:=pr0
 refine FnS.enter Tryz.func170 z Tryz.ntmps170 z<|Sr<|To (O.boxF z z z fun aZ a0 o x=>Ag z<|Ag z<|Nt<|Sq<|Sr<|Mv z<|have y:=Slc.mono VI.mono pr1 o; Vv (V.lenS elplan_25 z y)<|Vv (V.fa fdplan_28_1 z)<|Vv (V.ldf (k:=1) shplan_23 z x z)<|have U:=Slc.mono VapiGuest.mono S o; Vv (V.lenS elplan_23 z U)<|Vv (V.ne z z)<|Nt<|T.cH H z (fun H=>?_) (fun H=>?_))
 ·exact dead H
 refine T.skip<|Th<|Sr<|Vv (V.fa fdplan_28_0 z)<|Vv (V.ldf (k:=0) shplan_22 z x z)<|have W:=Slc.mono VapiTable.mono P o; ?_
 obtain ⟨A,X,H⟩:=bnd H
 refine To (O.callS z (hall_Count_ok W X _) z fun a1 Y a2 B Z=>?_)
 obtain ⟨rfl,aa⟩:=Z
 refine Sl_ _ aa<|Ag z<|Nt<|Sr<|Mv z ?_
 obtain ⟨C,D,H⟩:=bnd H
 refine To (O.mkX elplan_105 zeplan_4 z z z z D z fun i a3 a4=>have ab:RowF VB Y _ C:=RowF.rep z D; Ag z<|Nt<|Sq<|Sr<|Mv z<|have E:=Slc.mono VI.mono y B; Vv (V.lenS elplan_25 z E)<|Mv z<|Nt ?_)
 obtain ⟨G,ac,ad⟩:=bndK H
 refine T.cutK (α:=Unit) [] z (fun _u=>[]) (fun _u=>L) (fun _u hh=>G = ()) ?_ ?_
 ·have H:=ac
  refine Bl<|T.loopK (α:=Nat×Int×(List Bool)×(List (List Value))) [2,8,23,24] z (fun ⟨e,f,b,a⟩=>[(25,.int .i64 f),(9,i)]) (fun ⟨e,f,b,a⟩=>rowR 4 1 i a::L) (fun ⟨e,f,b,a⟩ hh=>iter (plan_check_l0 part12 whole13 A) e (f,b) = some G∧RowF VB hh a b) (fun ⟨e,f,b,a⟩=>e) (FUEL,(0:Int),C,(List.replicate A.toNat [.bool false])) ⟨z,z,trivial⟩ z ⟨H,ab⟩ ?_
  rintro ⟨e,f,b,a⟩ a5 g ⟨ae,t⟩
  obtain ⟨p,a6,rfl,H,m⟩:=iter_go ae
  refine T.norm [25,9,2,8,23,24] z<|Sl_ (rowR 4 1 i a::L) z<|Sr<|Vv (V.lt z z)<|Nt<|Sq<|T.cH H z (fun H=>?_) (fun H=>?_)
  ·refine T.skip<|Th<|Sq<|Bl<|Sr<|Mv z ?_
   obtain ⟨q,I,H⟩:=bnd H
   have J:=Slc.mono VI.mono E g
   obtain ⟨a7,af,rfl⟩:=Slc.at J I
   refine Vv (V.ix elplan_25 z z J (getI_bd I))<|Vv (V.ld0 shplan_3 z af z)<|Ag z<|Ag z<|Nt<|Sq<|Bl<|Sq ?_
   obtain ⟨ag,ai,aj⟩:=bndK H
   refine T.cutK (α:=Bool) [2,8,9,11,23,24,25] z (fun n=>[(30,.bool n)]) (fun n=>rowR 4 1 i a::L) (fun n hh=>ag = n) ?_ ?_
   ·have H:=ai
    refine Rg<|Mv z<|Vv (V.eq z z)<|Mv z<|T.bH 33 H z (fun H=>?_) (fun H=>?_)
    ·refine Mv z<|Vv (V.pkT z z)<|Ag z<|Nt<|T.met whole13 Lr (sinj H) (AllIn.app ⟨z,trivial⟩ ⟨z,z,z,z,z,z,z,trivial⟩) z
    refine Sk<|Vv (V.pkF z z)<|Ag z<|Nt<|T.met false Lr (sinj H) (AllIn.app ⟨z,trivial⟩ ⟨z,z,z,z,z,z,z,trivial⟩) z
   rintro n r c ak
   have H:=cutE ak aj
   refine T.norm [30,2,8,9,11,23,24,25] z<|Sl_ (rowR 4 1 i a::L) z<|T.cH H z (fun H=>?_) (fun H=>?_)
   ·exact dead H
   refine Sr<|Mv z<|Vv (V.lt z z)<|Mv z<|T.bH 40 H z (fun H=>?_) (fun H=>?_)
   ·exact dead H
   refine Mv z<|Mv z<|Vv (V.ge z z)<|Vv (V.pkF z z)<|Ag z<|Nt<|T.cH H z (fun H=>?_) (fun H=>?_)
   ·exact dead H
   refine Sr<|Mv z<|Vv (V.ge z z)<|Mv z<|T.bH 49 H z (fun H=>?_) (fun H=>?_)
   ·refine Mv z<|Mv z ?_
    obtain ⟨a8,K,H⟩:=bnd H
    have d:=RowF.mono VB.mono t c
    obtain ⟨a9,am,rfl⟩:=RowF.get d K
    refine Vv (V.ixR elplan_105 z z (j:=0) z (RowF.bd d K))<|Vv (V.ldR shplan_4 z (j:=0) z am z)<|Vv (V.pkT z z)<|Ag z<|Nt<|T.cH H z (fun H=>?_) (fun H=>?_)
    ·exact dead H
    refine T.skip<|Bn<|Th<|Sr<|Mv z<|Vv (V.ge z z)<|Nt<|T.cH H z (fun H=>?_) (fun H=>?_)
    ·refine Rg<|Mv z<|Mv z ?_
     obtain ⟨ah,u,H⟩:=bnd H
     obtain ⟨al,av,rfl⟩:=RowF.get d u
     refine Vv (V.ixR elplan_105 z z (j:=0) z (RowF.bd d u)) ?_
     obtain ⟨M,an,H⟩:=bnd H
     refine To (O.stR shplan_4 z z (j:=0) z (RowF.bdN d u) z<|have ao:RowF VB r (a.set q.toNat [.bool true]) M:=RowF.set d (show VB r [.bool true] true from z) an; Ni<|Bn<|Th<|Rg ?_)
     obtain ⟨ap,aq,H⟩:=bnd H
     refine Vv (V.addS z z aq)<|Mv z<|Nt<|have ar:=(g.trans c); T.again (p,ap,M,(a.set q.toNat [.bool true])) ar (Nat.lt_succ_self _) ⟨(iterK_in H m),ao⟩ (AllIn.app ⟨z,z,trivial⟩ ⟨z,z,z,z,trivial⟩) z
    refine T.skip<|Bn<|Th<|Rg ?_
    obtain ⟨au,aw,H⟩:=bnd H
    refine Vv (V.addS z z aw)<|Mv z<|Nt<|have ax:=(g.trans c); T.again (p,au,b,a) ax (Nat.lt_succ_self _) ⟨(iterK_in H m),d⟩ (AllIn.app ⟨z,z,trivial⟩ ⟨z,z,z,z,trivial⟩) z
   refine Sk<|Sk<|Sk<|Sk<|Vv (V.pkF z z)<|Ag z<|Nt<|Cf z<|T.skip<|Bn<|Th<|Sr<|Mv z<|Vv (V.ge z z)<|Nt<|T.cH H z (fun H=>?_) (fun H=>?_)
   ·refine Rg<|Mv z<|Mv z ?_
    obtain ⟨az,w,H⟩:=bnd H
    have s:=RowF.mono VB.mono t c
    obtain ⟨ba,bb,rfl⟩:=RowF.get s w
    refine Vv (V.ixR elplan_105 z z (j:=0) z (RowF.bd s w)) ?_
    obtain ⟨N,ay,H⟩:=bnd H
    refine To (O.stR shplan_4 z z (j:=0) z (RowF.bdN s w) z<|have aA:RowF VB r (a.set q.toNat [.bool true]) N:=RowF.set s (show VB r [.bool true] true from z) ay; Ni<|Bn<|Th<|Rg ?_)
    obtain ⟨aB,aC,H⟩:=bnd H
    refine Vv (V.addS z z aC)<|Mv z<|Nt<|have aD:=(g.trans c); T.again (p,aB,N,(a.set q.toNat [.bool true])) aD (Nat.lt_succ_self _) ⟨(iterK_in H m),aA⟩ (AllIn.app ⟨z,z,trivial⟩ ⟨z,z,z,z,trivial⟩) z
   refine T.skip<|Bn<|Th<|Rg ?_
   obtain ⟨aE,aG,H⟩:=bnd H
   refine Vv (V.addS z z aG)<|Mv z<|Nt<|have aI:=RowF.mono VB.mono t c; have aJ:=(g.trans c); T.again (p,aE,b,a) aJ (Nat.lt_succ_self _) ⟨(iterK_in H m),aI⟩ (AllIn.app ⟨z,z,trivial⟩ ⟨z,z,z,z,trivial⟩) z
  refine T.exit<|Te<|Te<|have H:=iterK_out H m; Be<|Th<|T.drop<|T.met () g H (AllIn.app trivial trivial) z
 rintro _ bc aK aM
 have H:=cutE aM ad
 refine T.norm [] z<|Sl_ (L) z<|Sr<|Ag z<|Ag z<|Nt<|T.ret ?_
 obtain ⟨rfl,rfl⟩:=inj2 H
 have aN:=((o.trans B).trans aK)
 exact T.retL Tryz.results170 (RVs.cons (RV.tmp z) (Rv z)) aN ⟨z,z⟩
theorem plan_checked_ok {h:PH} {pc0:List Value} {p1:apiProblem} (pr0:VapiProblem h pc0 p1) {pv1:Value} {part12:List Int} (pr1:Slc (VI .i64) 1 h pv1 part12) {whole13:Bool} {r_0:Int} {r_1:Int} (H:plan_checked p1 part12 whole13 = some (r_0,r_1)):∀ L,FnS Tryz.prog 86 [.agg pc0.toArray,pv1,.bool whole13] h (L) (fun v h' L'=>v = .tuple #[.int .i64 r_0,.int .i64 r_1]∧L' = L):=by
 intro L
 obtain ⟨c,d,e,f,g,rfl,q,r,s,t,u⟩:=pr0
 refine FnS.enter Tryz.func86 rfl Tryz.ntmps86 rfl<|Sr<|To (O.boxF rfl rfl rfl fun W w b i=>Ag z<|Ag z<|Nt<|Sq<|Sr<|Vv (V.ldS rfl i (by exact shplan_28)) ?_)
 have j:=Slc.mono VapiTable.mono q b
 have k:=Slc.mono VapiGuest.mono r b
 have m:=Slc.mono VapiTie.mono s b
 have n:=Slc.mono VI.mono t b
 have o:=Slc.mono VapiRule.mono u b
 obtain ⟨⟨X,Y⟩,x,H⟩:=bnd H
 refine To (O.callS z (rule_Check_ok (show VapiProblem w [c,d,e,f,g] p1 from ⟨c,d,e,f,g,z,j,k,m,n,o⟩) x _) z fun Z y aa a A=>?_)
 obtain ⟨rfl,B⟩:=A
 refine Sl_ _ B<|Mv z<|Vv (V.ext z z)<|Vv (V.ext z z)<|Ag z<|Ag z<|Nt<|Sr<|Mv z<|Vv (V.ne z z)<|Nt<|T.cH H z (fun H=>?_) (fun H=>?_)
 ·exact dead H
 refine T.skip<|Th<|Sr<|have C:=i.mono a; Vv (V.ldS rfl C (by exact shplan_28)) ?_
 refine Mv z<|Mv z<|have D:=Slc.mono VapiTable.mono j a; have E:=Slc.mono VapiGuest.mono k a; have G:=Slc.mono VapiTie.mono m a; have I:=Slc.mono VI.mono n a; have J:=Slc.mono VapiRule.mono o a; have p:=(b.trans a); have K:=Slc.mono VI.mono pr1 p; ?_
 obtain ⟨⟨ab,ac⟩,M,H⟩:=bnd H
 refine To (O.callS z (plan_check_ok (show VapiProblem y [c,d,e,f,g] p1 from ⟨c,d,e,f,g,z,D,E,G,I,J⟩) K M _) z fun ad ae af N P=>?_)
 obtain ⟨rfl,S⟩:=P
 refine Sl_ _ S<|Vv (V.ext z z)<|Vv (V.ext z z)<|Ag z<|Ag z<|Nt<|T.ret ?_
 obtain ⟨rfl,rfl⟩:=inj2 H
 have U:=(p.trans N)
 exact T.retL Tryz.results86 (RVs.cons (RV.tmp z) (Rv z)) U ⟨z,z⟩
theorem plan_CheckPart_ok {h:PH} {pc0:List Value} {p1:apiProblem} (pr0:VapiProblem h pc0 p1) {pv1:Value} {part12:List Int} (pr1:Slc (VI .i64) 1 h pv1 part12) {r_0:Int} {r_1:Int} (H:plan_CheckPart p1 part12 = some (r_0,r_1)):∀ L,FnS Tryz.prog 28 [.agg pc0.toArray,pv1] h (L) (fun v h' L'=>v = .tuple #[.int .i64 r_0,.int .i64 r_1]∧L' = L):=by
 intro L
 obtain ⟨b,c,d,e,f,rfl,g,i,j,k,m⟩:=pr0
 refine FnS.enter Tryz.func28 rfl Tryz.ntmps28 rfl<|Sr<|To (O.boxF rfl rfl rfl fun C n a o=>Ag z<|Ag z<|Nt<|Sr<|Vv (V.ldS rfl o (by exact shplan_28)) ?_)
 refine Mv z<|have p:=Slc.mono VapiTable.mono g a; have q:=Slc.mono VapiGuest.mono i a; have r:=Slc.mono VapiTie.mono j a; have s:=Slc.mono VI.mono k a; have t:=Slc.mono VapiRule.mono m a; have u:=Slc.mono VI.mono pr1 a; ?_
 obtain ⟨⟨D,E⟩,w,H⟩:=bnd H
 refine To (O.callS z (plan_checked_ok (show VapiProblem n [b,c,d,e,f] p1 from ⟨b,c,d,e,f,z,p,q,r,s,t⟩) u w _) z fun G I J x y=>?_)
 obtain ⟨rfl,A⟩:=y
 refine Sl_ _ A<|Vv (V.ext z z)<|Vv (V.ext z z)<|Ag z<|Ag z<|Nt<|T.ret ?_
 obtain ⟨rfl,rfl⟩:=inj2 H
 have B:=(a.trans x)
 exact T.retL Tryz.results28 (RVs.cons (RV.tmp z) (Rv z)) B ⟨z,z⟩
end Go.Proofs.X
open Go Go.Proofs Go.Sl Go.Dm
namespace Go.Proofs.X
theorem searchmixed : Tryz.prog.follows .mixedOrders = true := by kernel_rfl
theorem blsearch_197 : bldSh Tryz.prog 197 = some ([.pointer none, .slice none 0 0, .slice none 0 0, .slice none 0 0, .slice none 0 0, .slice none 0 0, .slice none 0 0, .slice none 0 0, .slice none 0 0], [(0, 1), (1, 5), (6, 1), (7, 1), (8, 1)]) := by kernel_rfl
theorem bosearch_197 : fieldsOK Tryz.prog 197 = true := by kernel_rfl
theorem elsearch_106 : elSh Tryz.prog 106 = some (25, 1, 24) := by kernel_rfl
theorem elsearch_195 : elSh Tryz.prog 195 = some (106, 1, 24) := by kernel_rfl
theorem elsearch_22 : elSh Tryz.prog 22 = some (31, 7, 80) := by kernel_rfl
theorem elsearch_23 : elSh Tryz.prog 23 = some (35, 9, 112) := by kernel_rfl
theorem elsearch_25 : elSh Tryz.prog 25 = some (3, 1, 8) := by kernel_rfl
theorem fdsearch_197_1 : fldOf Tryz.prog 197 1 = some 1 := by kernel_rfl
theorem fdsearch_197_2 : fldOf Tryz.prog 197 2 = some 6 := by kernel_rfl
theorem fdsearch_197_3 : fldOf Tryz.prog 197 3 = some 7 := by kernel_rfl
theorem fdsearch_197_4 : fldOf Tryz.prog 197 4 = some 8 := by kernel_rfl
theorem fdsearch_28_0 : fldOf Tryz.prog 28 0 = some 0 := by kernel_rfl
theorem fdsearch_28_1 : fldOf Tryz.prog 28 1 = some 1 := by kernel_rfl
theorem shsearch_106 : tySh Tryz.prog 106 = some (false, 1) := by kernel_rfl
theorem shsearch_195 : tySh Tryz.prog 195 = some (false, 1) := by kernel_rfl
theorem shsearch_22 : tySh Tryz.prog 22 = some (false, 1) := by kernel_rfl
theorem shsearch_23 : tySh Tryz.prog 23 = some (false, 1) := by kernel_rfl
theorem shsearch_25 : tySh Tryz.prog 25 = some (false, 1) := by kernel_rfl
theorem shsearch_28 : tySh Tryz.prog 28 = some (true, 5) := by kernel_rfl
theorem shsearch_3 : tySh Tryz.prog 3 = some (false, 1) := by kernel_rfl
theorem shsearch_31 : tySh Tryz.prog 31 = some (true, 7) := by kernel_rfl
theorem zesearch_106 : zer Tryz.prog 106 = some (.slice none 0 0) := by kernel_rfl
theorem zesearch_3 : zer Tryz.prog 3 = some (.int .i64 (0)) := by kernel_rfl
theorem search_open_ok {h:PH} {pc0:List Value} {p1:apiProblem} (pr0:VapiProblem h pc0 p1) {r_0:searchhunt} {r_1:Int} {r_2:Int} (H:search_open p1 = some (r_0,r_1,r_2)):∀ L,FnS Tryz.prog 62 [.agg pc0.toArray] h (L) (fun v h' L'=>∃ w0,v = .tuple #[w0,.int .i64 r_1,.int .i64 r_2]∧L' = L∧Pt Vsearchhunt h' w0 r_0):=by
 intro L
 obtain ⟨aj,ak,am,an,ao,rfl,bC,bD,bE,bG,bI⟩:=pr0
 refine FnS.enter Tryz.func62 rfl Tryz.ntmps62 rfl<|Sr<|To (O.boxF rfl rfl rfl fun dW bJ N aY=>Ag z<|Ag z<|Ag z<|Nt<|Sr<|Vv (V.ldS rfl aY (by exact shsearch_28)) ?_)
 have aZ:=Slc.mono VapiTable.mono bC N
 have a0:=Slc.mono VapiGuest.mono bD N
 have a1:=Slc.mono VapiTie.mono bE N
 have a2:=Slc.mono VI.mono bG N
 have a3:=Slc.mono VapiRule.mono bI N
 obtain ⟨⟨bK,dX,dY⟩,bM,H⟩:=bnd H
 refine To (O.callS z (rule_New_ok (show VapiProblem bJ [aj,ak,am,an,ao] p1 from ⟨aj,ak,am,an,ao,z,aZ,a0,a1,a2,a3⟩) bM _) z fun dZ d0 d1 a4 bN=>?_)
 obtain ⟨p,rfl,bO,a5⟩:=bN
 refine Sl_ _ bO<|Mv z<|Vv (V.ext z z)<|Vv (V.ext z z)<|Vv (V.ext z z)<|Ag z<|Ag z<|Ag z<|Nt<|Sq<|Sr<|Mv z<|Vv (V.ne z z)<|Nt<|T.cH H z (fun H=>?_) (fun H=>?_)
 ·exact dead H
 refine T.skip<|Th<|Sr<|Mv z<|Mv z ?_
 obtain ⟨bP,bS,H⟩:=bnd H
 refine To (O.callS z (Judge_Problem_ok a5 bS _) z fun d2 aD d3 aE bU=>?_)
 obtain ⟨q,r,s,u,w,rfl,bV,bW,bX,bY,bZ,b0⟩:=bU
 refine Sl_ _ bV<|have a6:=Pt.mono VruleJudge.mono a5 aE; Vv (V.bld (xs:=[(0,.tmp 20),(1,.tmp 22)]) (cs:=[_,_,_,_,_,_,_,_,_]) blsearch_197 bosearch_197 z (Fills.cons z (Pt.cells a6) z (Fills.cons z z z Fills.nil)))<|To (O.box z z z fun y=>Ag z<|Nt<|Sq<|Sr<|Vv (V.fa fdsearch_28_0 z)<|have aG:=(a4.trans aE); have aI:=aY.mono aG; Vv (V.ldf (k:=0) shsearch_22 z aI z)<|have aJ:=Slc.mono VapiTable.mono aZ aG; Vv (V.lenS elsearch_22 z aJ)<|Mv z<|Nt ?_)
 obtain ⟨a7,b1,b2⟩:=bndK H
 refine T.cutK (α:=(List Int)×(List Int)×(List (List (List Int)))×Value×(List (List Value))×Value×(List (List Value))×Value×(List (List Value))) [8] z (fun ⟨P,S,U,D,W,E,X,G,Y⟩=>[]) (fun ⟨P,S,U,D,W,E,X,G,Y⟩=>blk y (.cells [p,q,r,s,u,w,D,E,G].toArray 197)::rowR 3 1 D W::rowR 3 1 E X::rowR 106 1 G Y::L) (fun ⟨P,S,U,D,W,E,X,G,Y⟩ hh=>a7 = (P,S,U)∧RowF (VI .i64) hh W P∧RowF (VI .i64) hh X S∧RowF (VSl (VSl (VI .i64) 1) 1) hh Y U) ?_ ?_
 ·have H:=b1
  refine Bl<|T.rowNil 3 1<|have b3:RowF (VI .i64) aD [] ([]:List Int):=RowF.nil; T.rowNil 3 1<|have b4:RowF (VI .i64) aD [] ([]:List Int):=RowF.nil; T.rowNil 106 1<|have b5:RowF (VSl (VSl (VI .i64) 1) 1) aD [] ([]:List (List (List Int))):=RowF.nil; Fr_ 1 z<|T.fl ?_
  refine Fr_ 2 z<|T.fl ?_
  refine Fr_ 3 z<|T.fl ?_
  refine T.loopK (α:=Nat×(List Int)×(List Int)×(List (List (List Int)))×Int×Value×(List (List Value))×Value×(List (List Value))×Value×(List (List Value))) [1,8,27] z (fun ⟨Z,b,K,M,A,n,f,B,c,a,d⟩=>[(28,.int .i64 A)]) (fun ⟨Z,b,K,M,A,n,f,B,c,a,d⟩=>blk y (.cells [p,q,r,s,u,w,n,B,a].toArray 197)::rowR 3 1 n f::rowR 3 1 B c::rowR 106 1 a d::L) (fun ⟨Z,b,K,M,A,n,f,B,c,a,d⟩ hh=>iter (search_open_l0 p1) Z (b,K,M,A) = some a7∧RowF (VI .i64) hh f b∧RowF (VI .i64) hh c K∧RowF (VSl (VSl (VI .i64) 1) 1) hh d M) (fun ⟨Z,b,K,M,A,n,f,B,c,a,d⟩=>Z) (FUEL,([]:List Int),([]:List Int),([]:List (List (List Int))),(0:Int),(.slice none 0 0),[],(.slice none 0 0),[],(.slice none 0 0),[]) ⟨z,trivial⟩ z ⟨H,b3,b4,b5⟩ ?_
  rintro ⟨Z,b,K,M,A,n,f,B,c,a,d⟩ ad ae ⟨b6,aq,aK,a8⟩
  obtain ⟨b7,d4,rfl,H,a9⟩:=iter_go b6
  refine T.norm [28,1,8,27] z<|Sl_ (blk y (.cells [p,q,r,s,u,w,n,B,a].toArray 197)::rowR 3 1 n f::rowR 3 1 B c::rowR 106 1 a d::L) z<|Sr<|Vv (V.lt z z)<|Nt<|Sq<|T.cH H z (fun H=>?_) (fun H=>?_)
  ·refine T.skip<|Th<|Sq<|Bl<|Sr<|Mv z<|Ag z<|Nt<|Sq<|Fr_ 2 z<|T.fl ?_
   refine Fr_ 1 z<|T.fl ?_
   refine Fr_ 2 z<|T.fl ?_
   refine T.drawF (t:=(.v 0 (.v 1 (.v 2 (.v 3 (.x 4 (.v 5 (.v 6 (.v 7 (.alt 8 (.v 9 (.alt 10 (.alt 11 (.g (.v 12 (.v 13 (.alt 14 .done .no)))) .no) .no)) .no)))))))))) 11 3 1 rfl rfl searchmixed (by kernel_rfl) ?_
   refine Tm z z<|Tm z z<|Tv z (V.nck z)<|Tv z (V.fa fdsearch_197_3 z)<|T.tx z z (Val.XA fun _ _ _=>V.ldO (k:=7) shsearch_25 z (j:=1) z z) z Calm.i<|Tm z z<|Tv z (V.nck z)<|Tv z (V.fa fdsearch_197_2 z)<|Ts z z (SX.two (XA.fr [0] Lr z) (XA.fr [2,2,2] Lr z)) (V.ldO (k:=6) shsearch_25 z (j:=1) z z) z ?_ T.tno
   refine Tv z (Val.XA fun _ _ _=>V.lenX elsearch_25 z (j:=0) z aq.len)<|Tp z z (SX.two (XA.fr [0] Lr z) (XA.fr [2,2,2] Lr z)) (O.bs elsearch_25 zesearch_3 z (e:=z) (hk:=z) (xs:=[.tmp 40]) (hv:=CO.eq (CO.cons z CO.nil)) (hw:=Wide.of z) (hd:=z) fun b8=>?_) T.tno
   have aM:RowF (VI .i64) ad [[.int .i64 (b.length:Int)]] ([(b.length:Int)]:List Int):=(RowF.cons z RowF.nil)
   obtain ⟨ah,al,H⟩:=bnd H
   refine Tp z z (SX.two (XA.fr [1] Lr z) (XA.fr [3,3,3] Lr z)) (O.apX elsearch_25 elsearch_25 zesearch_3 z z z (j:=3) z (Src.row (j:=0) z) (Wide.of z) (RowF.ones VI.plain aM) aK aM al z fun o d5 d6=>?_) T.tno
   have b9:RowF (VI .i64) ad (c ++ [[.int .i64 (b.length:Int)]]) ah:=RowF.ap aK aM al
   refine Sl_ (rowR 3 1 o (c ++ [[.int .i64 (b.length:Int)]])::rowR 3 1 (.slice (some ⟨b8,0,none⟩) 1 1) [[.int .i64 (b.length:Int)]]::rowR 3 1 n f::blk y (.cells [p,q,r,s,u,w,n,B,a].toArray 197)::rowR 106 1 a d::L) z<|Fr_ 1 z<|T.fl ?_
   refine T.drop<|T.tgrow Lr<|Tv z (V.nck rfl)<|Tv z (V.fa fdsearch_197_3 rfl)<|T.rowOne 0 rfl fun bh bl=>Tp z z (SX.one (XA.fr [1] Lr rfl) rfl) (O.st (vs:=[o]) (k:=7) shsearch_25 rfl rfl (j:=2) rfl bl (by (simp only [Sl.ones,bh,Bool.and_true,Bool.true_and]) <;> rfl) ?_) T.tno
   refine T.fl ?_
   refine T.tnil (SX.one (XA.fr [2] Lr z) z)<|Th<|Sq ?_
   obtain ⟨bv,bz,ca⟩:=bndK H
   refine T.cutK (α:=(List Int)×Value×(List (List Value))) [1,8,9,27,28] z (fun ⟨aa,C,J⟩=>[]) (fun ⟨aa,C,J⟩=>blk y (.cells [p,q,r,s,u,w,C,o,a].toArray 197)::rowR 3 1 o (c ++ [[.int .i64 (b.length:Int)]])::rowR 106 1 a d::rowR 3 1 C J::L) (fun ⟨aa,C,J⟩ hh=>bv = aa∧RowF (VI .i64) hh J aa) ?_ ?_
   ·have H:=bz
    refine Fr_ 2 z<|T.fl ?_
    refine Fr_ 1 z<|T.fl ?_
    refine T.drawF (t:=(.v 0 (.v 1 (.v 2 (.v 3 (.x 4 (.v 5 (.v 7 (.v 8 (.v 9 (.v 10 (.v 11 (.alt 6 (.alt 12 (.g (.alt 13 (.g (.alt 14 (.g (.v 15 (.v 16 (.alt 17 .done .no)))) .no)) .no)) .no) (.alt 12 (.g (.alt 6 (.alt 13 (.g (.alt 14 (.g (.v 15 (.v 16 (.alt 17 .done .no)))) .no)) .no) .no)) .no)))))))))))))) 14 2 0 rfl rfl searchmixed (by kernel_rfl) ?_
    refine Tm z z<|Tm z z<|Tv z (V.nck z)<|Tv z (V.fa fdsearch_197_2 z)<|T.tx z z (Val.XA fun _ _ _=>V.ldO (k:=6) shsearch_25 z (j:=0) z z) z Calm.i<|Tm z z<|Tv z (V.fa fdsearch_28_0 z)<|have cb:=aI.mono ae; Tv z (V.ldf (k:=0) shsearch_22 z cb z)<|Tm z z ?_
    obtain ⟨m,av,H⟩:=bnd H
    have az:=Slc.mono VapiTable.mono aJ ae
    obtain ⟨d7,cc,⟨ar,rfl,ba⟩⟩:=Slc.at az av
    refine Tv z (V.ix elsearch_22 rfl rfl az (getI_bd av))<|Tv z (V.ldS rfl cc (by exact shsearch_31)) ?_
    refine T.tfork ?_ ?_
    ·refine Tp z z (SX.two (XA.fr [] Lr z) (XA.fr [1,1] Lr z)) (O.bs elsearch_25 zesearch_3 z (e:=z) (hk:=z) (xs:=[.tmp 50]) (hv:=CO.eq (CO.cons z CO.nil)) (hw:=Wide.of z) (hd:=z) fun d8=>?_) T.tno
     have cd:RowF (VI .i64) ad [[.int .i64 A]] ([A]:List Int):=(RowF.cons z RowF.nil)
     obtain ⟨d9,ce,H⟩:=bnd H
     refine Tp z z (SX.two (XA.fr [] Lr z) (XA.fr [2,2] Lr z)) (O.callS z (hall_Seats_ok (show VapiTable ad [.string m.fName,.int .u8 m.fShape,.int .i64 m.fA,.int .i64 m.fB,ar,.int .i64 m.fX,.int .i64 m.fY] m from ⟨ar,z,ba⟩) ce _) z fun dh dl dv bb cf=>?_) T.tno
     obtain ⟨rfl,cg⟩:=cf
     refine Sl_ _ cg<|T.tgrow bb<|T.rowFix fun dz au ci=>have bc:=(bb.trans au); have cj:=RowF.mono VI.mono cd bc; have ck:=RowF.slc ci cj; ?_
     obtain ⟨ea,cm,H⟩:=bnd H
     refine Tp z z (SX.two (XA.fr [] au z) (XA.fr [1,1] au z)) (O.callS z (sl_Repeat_ok ck cm _) z fun cn co eb bd cp=>?_) T.tno
     obtain ⟨aw,cq,aN⟩:=cp
     refine Sl_ _ cq<|have cr:=(au.trans bd); T.tgrow cr<|T.wide 0 z fun ct=>?_
     obtain ⟨be,bf,H⟩:=bnd H
     have bg:=(bc.trans bd)
     have bi:=RowF.mono VI.mono aq bg
     refine Tp z z (SX.two (XA.fr [] Lr z) (XA.fr [2,2] Lr z)) (O.apX elsearch_25 elsearch_25 zesearch_3 z z z (j:=2) z (Src.row (j:=0) z) ct (RowF.ones VI.plain aN) bi aN bf z fun aO ec ed=>?_) T.tno
     have cu:RowF (VI .i64) co (f ++ aw) be:=RowF.ap bi aN bf
     refine Sl_ (rowR 3 1 aO (f ++ aw)::rowR 3 1 cn aw::blk y (.cells [p,q,r,s,u,w,n,o,a].toArray 197)::rowR 3 1 o (c ++ [[.int .i64 (b.length:Int)]])::rowR 106 1 a d::L) rfl<|T.tgrow Lr<|Tv z (V.nck rfl)<|Tv z (V.fa fdsearch_197_2 rfl)<|T.rowOne 0 rfl fun cw cx=>Tp z z (SX.one (XA.fr [] Lr rfl) rfl) (O.st (vs:=[aO]) (k:=6) shsearch_25 rfl rfl (j:=2) rfl cx (by (simp only [Sl.ones,cw,Bool.and_true,Bool.true_and]) <;> rfl) ?_) T.tno
     refine T.fl ?_
     refine T.tnil (SX.one (XA.fr [] Lr z) z)<|Th<|Fr_ 2 z<|T.fl ?_
     refine T.drop<|Fr_ 1 z<|T.fl ?_
     refine Fr_ 3 z<|T.fl ?_
     refine Fr_ 3 z<|T.fl ?_
     refine Fr_ 3 z<|T.fl ?_
     exact T.met (be,aO,(f ++ aw)) bg ⟨(sinj H),cu⟩ (AllIn.app trivial ⟨z,z,z,z,z,trivial⟩) z
    obtain ⟨ee,cy,H⟩:=bnd H
    refine Tp z z (SX.two (XA.fr [] Lr z) (XA.fr [1,1] Lr z)) (O.callS z (hall_Seats_ok (show VapiTable ad [.string m.fName,.int .u8 m.fShape,.int .i64 m.fA,.int .i64 m.fB,ar,.int .i64 m.fX,.int .i64 m.fY] m from ⟨ar,z,ba⟩) cy _) z fun ef cA eg bj cB=>?_) T.tno
    obtain ⟨rfl,cC⟩:=cB
    refine Sl_ _ cC<|T.tgrow bj<|Tp z z (SX.two (XA.fr [] Lr z) (XA.fr [1,1] Lr z)) (O.bs elsearch_25 zesearch_3 z (e:=z) (hk:=z) (xs:=[.tmp 50]) (hv:=CO.eq (CO.cons z CO.nil)) (hw:=Wide.of z) (hd:=z) fun ei=>?_) T.tno
    have cD:RowF (VI .i64) cA [[.int .i64 A]] ([A]:List Int):=(RowF.cons z RowF.nil)
    refine T.rowFix fun ej af cE=>have cG:=RowF.mono VI.mono cD af; have cI:=RowF.slc cE cG; ?_
    obtain ⟨ek,cJ,H⟩:=bnd H
    refine Tp z z (SX.two (XA.fr [] af z) (XA.fr [1,1] af z)) (O.callS z (sl_Repeat_ok cI cJ _) z fun cK cM em bk cN=>?_) T.tno
    obtain ⟨ax,cO,aP⟩:=cN
    refine Sl_ _ cO<|have cP:=(af.trans bk); T.tgrow cP<|T.wide 0 z fun cS=>?_
    obtain ⟨bm,bn,H⟩:=bnd H
    have bo:=((bj.trans af).trans bk)
    have bp:=RowF.mono VI.mono aq bo
    refine Tp z z (SX.two (XA.fr [] Lr z) (XA.fr [2,2] Lr z)) (O.apX elsearch_25 elsearch_25 zesearch_3 z z z (j:=2) z (Src.row (j:=0) z) cS (RowF.ones VI.plain aP) bp aP bn z fun aS en eo=>?_) T.tno
    have cU:RowF (VI .i64) cM (f ++ ax) bm:=RowF.ap bp aP bn
    refine Sl_ (rowR 3 1 aS (f ++ ax)::rowR 3 1 cK ax::blk y (.cells [p,q,r,s,u,w,n,o,a].toArray 197)::rowR 3 1 o (c ++ [[.int .i64 (b.length:Int)]])::rowR 106 1 a d::L) rfl<|T.tgrow Lr<|Tv z (V.nck rfl)<|Tv z (V.fa fdsearch_197_2 rfl)<|T.rowOne 0 rfl fun cV cW=>Tp z z (SX.one (XA.fr [] Lr rfl) rfl) (O.st (vs:=[aS]) (k:=6) shsearch_25 rfl rfl (j:=2) rfl cW (by (simp only [Sl.ones,cV,Bool.and_true,Bool.true_and]) <;> rfl) ?_) T.tno
    refine T.fl ?_
    refine T.tnil (SX.one (XA.fr [] Lr z) z)<|Th<|Fr_ 2 z<|T.fl ?_
    refine T.drop<|Fr_ 1 z<|T.fl ?_
    refine Fr_ 3 z<|T.fl ?_
    refine Fr_ 3 z<|T.fl ?_
    refine Fr_ 3 z<|T.fl ?_
    exact T.met (bm,aS,(f ++ ax)) bo ⟨(sinj H),cU⟩ (AllIn.app trivial ⟨z,z,z,z,z,trivial⟩) z
   rintro ⟨aa,C,J⟩ cX aU ⟨cY,cZ⟩
   have H:=cutE cY ca
   refine T.norm [1,8,9,27,28] z<|Sl_ (blk y (.cells [p,q,r,s,u,w,C,o,a].toArray 197)::rowR 3 1 o (c ++ [[.int .i64 (b.length:Int)]])::rowR 106 1 a d::rowR 3 1 C J::L) z<|Fr_ 2 z<|T.fl ?_
   refine Fr_ 1 z<|T.fl ?_
   refine T.drawF (t:=(.v 0 (.v 1 (.v 2 (.v 3 (.x 4 (.v 5 (.v 6 (.alt 7 (.g (.alt 8 (.alt 9 (.g (.v 10 (.v 11 (.alt 12 .done .no)))) .no) .no)) .no))))))))) 9 2 0 rfl rfl searchmixed (by kernel_rfl) ?_
   refine Tm z z<|Tm z z<|Tv z (V.nck rfl)<|Tv z (V.fa fdsearch_197_4 rfl)<|T.tx rfl rfl (Val.XA fun _ _ _=>V.ldO (k:=8) shsearch_195 rfl (j:=0) rfl rfl) rfl Calm.i<|have aV:=(ae.trans aU); have c0:=aI.mono aV; Tv z (V.ldS rfl c0 (by exact shsearch_28)) ?_
   refine Tm z z<|have c1:=Slc.mono VapiTable.mono aJ aV; have ay:=((aG.trans ae).trans aU); have c2:=Slc.mono VapiGuest.mono a0 ay; have c3:=Slc.mono VapiTie.mono a1 ay; have c4:=Slc.mono VI.mono a2 ay; have c5:=Slc.mono VapiRule.mono a3 ay; ?_
   obtain ⟨c6,c7,H⟩:=bnd H
   refine Tp z z (SX.two (XA.fr [] Lr z) (XA.fr [1,1] Lr z)) (O.callS z (plan_Group_ok (show VapiProblem cX [aj,ak,am,an,ao] p1 from ⟨aj,ak,am,an,ao,z,c1,c2,c3,c4,c5⟩) c7 _) z fun ab ep er aA c8=>?_) T.tno
   obtain ⟨es,c9,ch⟩:=c8
   refine Sl_ _ c9<|T.tgrow aA<|T.rowFix fun bq I cl=>have cv:=RowF.mono (VSl.mono VI.mono) ch I; have br:=RowF.slc cl cv; Tp z z (SX.two (XA.fr [] I z) (XA.fr [1,1] I z)) (O.bs elsearch_195 zesearch_106 z (e:=z) (hk:=z) (xs:=[.tmp 69]) (hv:=CO.eq (CO.cons (Slc.cells br) CO.nil)) (hw:=Wide.of z) (hd:=z) fun cz=>?_) T.tno
   have aW:RowF (VSl (VSl (VI .i64) 1) 1) bq [[ab]] ([c6]:List (List (List Int))):=(RowF.cons ⟨ab,z,br⟩ RowF.nil)
   obtain ⟨bt,bu,H⟩:=bnd H
   have bw:=((aU.trans aA).trans I)
   have bx:=RowF.mono (VSl.mono (VSl.mono VI.mono)) a8 bw
   refine Tp z z (SX.two (XA.fr [] I z) (XA.fr [2,2] I z)) (O.apX elsearch_195 elsearch_195 zesearch_106 z z z (j:=2) z (Src.row (j:=0) z) (Wide.of z) (RowF.ones VSl.plain aW) bx aW bu z fun aX et eu=>?_) T.tno
   have da:RowF (VSl (VSl (VI .i64) 1) 1) bq (d ++ [[ab]]) bt:=RowF.ap bx aW bu
   refine Sl_ (rowR 106 1 aX (d ++ [[ab]])::rowR 106 1 (.slice (some ⟨cz,0,none⟩) 1 1) [[ab]]::blk y (.cells [p,q,r,s,u,w,C,o,a].toArray 197)::rowR 3 1 o (c ++ [[.int .i64 (b.length:Int)]])::rowR 3 1 C J::L) z<|Fr_ 1 z<|T.fl ?_
   refine T.drop<|T.tgrow I<|Tv z (V.nck rfl)<|Tv z (V.fa fdsearch_197_4 rfl)<|T.rowOne 0 rfl fun db dc=>Tp z z (SX.one (XA.fr [] Lr rfl) rfl) (O.st (vs:=[aX]) (k:=8) shsearch_195 rfl rfl (j:=1) rfl dc (by (simp only [Sl.ones,db,Bool.and_true,Bool.true_and]) <;> rfl) ?_) T.tno
   refine T.fl ?_
   refine T.tnil (SX.one (XA.fr [] Lr z) z)<|Bn<|Th<|Rg ?_
   obtain ⟨dd,de,H⟩:=bnd H
   refine Vv (V.addS z z de)<|Mv z<|Nt<|have df:=(aA.trans I); have dg:=RowF.mono VI.mono cZ df; have di:=RowF.mono VI.mono b9 bw; Fr_ 1 z<|T.fl ?_
   refine Fr_ 2 z<|T.fl ?_
   refine Fr_ 3 z<|T.fl ?_
   refine Fr_ 3 z<|T.fl ?_
   have dj:=((aV.trans aA).trans I)
   exact T.again (b7,aa,ah,bt,dd,C,J,o,(c ++ [[.int .i64 (b.length:Int)]]),aX,(d ++ [[ab]])) dj (Nat.lt_succ_self _) ⟨(iterK_in H a9),dg,di,da⟩ (AllIn.app ⟨z,trivial⟩ ⟨z,z,z,trivial⟩) z
  refine T.exit<|Te<|Te<|have H:=iterK_out H a9; Be<|Th<|T.met (b,K,M,n,f,B,c,a,d) ae ⟨H,aq,aK,a8⟩ (AllIn.app trivial ⟨z,trivial⟩) z
 rintro ⟨P,S,U,D,W,E,X,G,Y⟩ ew bA ⟨dk,dm,dn,dp⟩
 have H:=cutE dk b2
 refine T.norm [8] z<|Sl_ (blk y (.cells [p,q,r,s,u,w,D,E,G].toArray 197)::rowR 3 1 D W::rowR 3 1 E X::rowR 106 1 G Y::L) z<|Sr<|Mv z<|Ag z<|Ag z<|Ag z<|Nt<|T.ret<|Fr_ 1 z<|T.fl ?_
 refine T.rowFix fun ex aB dq=>have dr:=RowF.mono VI.mono dm aB; have ds:=RowF.slc dq dr; Fr_ 1 z<|T.fl ?_
 refine T.rowFix fun ey aC dt=>have bB:=(aB.trans aC); have du:=RowF.mono VI.mono dn bB; have dw:=RowF.slc dt du; Fr_ 1 z<|T.rowFix fun eA ag dx=>have dy:=(bB.trans ag); have dA:=RowF.mono (VSl.mono (VSl.mono VI.mono)) dp dy; have dB:=RowF.slc dx dA; T.blkFix fun dC ai dD=>have ac:=((((bA.trans aB).trans aC).trans ag).trans ai); have dE:=Pt.mono VruleJudge.mono a6 ac; have dG:=Slc.mono VapiTable.mono bW ac; have dI:=Slc.mono VapiGuest.mono bX ac; have dJ:=Slc.mono VapiTie.mono bY ac; have dK:=Slc.mono VI.mono bZ ac; have dM:=Slc.mono VapiRule.mono b0 ac; have dN:=((aC.trans ag).trans ai); have dO:=Slc.mono VI.mono ds dN; have dP:=(ag.trans ai); have dS:=Slc.mono VI.mono dw dP; have dU:=Slc.mono (VSl.mono (VSl.mono VI.mono)) dB ai; ?_
 obtain ⟨rfl,rfl,rfl⟩:=inj3 H
 have dV:=(((((((N.trans a4).trans aE).trans bA).trans aB).trans aC).trans ag).trans ai)
 exact T.retL Tryz.results62 (RVs.cons (RV.tmp z) (RVs.cons (RV.tmp z) (Rv z))) dV ⟨_,z,z,(Pt.mk dD (show Vsearchhunt dC [p,q,r,s,u,w,D,E,G] (searchhunt.mk bK bP P S U) from ⟨p,q,r,s,u,w,D,E,G,z,dE,dG,dI,dJ,dK,dM,dO,dS,dU⟩))⟩
theorem search_work_ok {h:PH} {free1:Int} {guests2:Int} {r_0:Int} (H:search_work free1 guests2 = some r_0):∀ L,FnS Tryz.prog 223 [.int .i64 free1,.int .i64 guests2] h (L) (fun v h' L'=>v = .int .i64 r_0∧L' = L):=by
 intro L
 refine FnS.enter Tryz.func223 z Tryz.ntmps223 z<|Sr<|Ag z<|Nt<|Sr<|Ag z<|Nt<|Sq<|Sr<|Mv z<|Mv z<|Nt ?_
 obtain ⟨e,i,j⟩:=bndK H
 refine T.cutK (α:=Int) [] z (fun d=>[(5,.int .i64 d)]) (fun d=>L) (fun d hh=>e = d) ?_ ?_
 ·have H:=i
  refine Bl<|T.loopK (α:=Nat×Int×Int) [0,7] z (fun ⟨b,a,c⟩=>[(5,.int .i64 a),(8,.int .i64 c)]) (fun ⟨b,a,c⟩=>L) (fun ⟨b,a,c⟩ hh=>iter (search_work_l0 free1 guests2) b (a,c) = some e) (fun ⟨b,a,c⟩=>b) (FUEL,(1:Int),(0:Int)) ⟨z,z,trivial⟩ z H ?_
  rintro ⟨b,a,c⟩ u f k
  obtain ⟨m,w,rfl,H,g⟩:=iter_go k
  refine T.norm [5,8,0,7] z<|Sl_ (L) z<|Sr<|Vv (V.lt z z)<|Nt<|Sq<|T.cH H z (fun H=>?_) (fun H=>?_)
  ·refine T.skip<|Th<|Sq<|Bl<|Sr<|Mv z<|Ag z<|Nt<|Sr<|Mv z<|Mv z<|Mv z ?_
   obtain ⟨x,n,H⟩:=bnd H
   refine Vv (V.subS z z n) ?_
   obtain ⟨o,p,H⟩:=bnd H
   refine Vv (V.mulS z z p)<|Ag z<|Nt<|Sr<|Mv z<|Vv (V.gt z z)<|Nt<|T.cH H z (fun H=>?_) (fun H=>?_)
   ·exact dead H
   refine T.skip<|Bn<|Th<|Rg ?_
   obtain ⟨q,r,H⟩:=bnd H
   refine Vv (V.addS z z r)<|Mv z<|Nt<|T.again (m,o,q) f (Nat.lt_succ_self _) (iterK_in H g) (AllIn.app ⟨z,z,trivial⟩ ⟨z,z,trivial⟩) z
  refine T.exit<|Te<|Te<|have H:=iterK_out H g; Be<|Th<|T.met a f H (AllIn.app ⟨z,trivial⟩ trivial) z
 rintro d y s t
 have H:=cutE t j
 refine T.norm [5] z<|Sl_ (L) z<|Sr<|Mv z<|Ag z<|Nt<|T.ret ?_
 obtain rfl:=Option.some.inj H
 exact T.retL Tryz.results223 (Rv z) s ⟨z,z⟩
theorem search_begin_ok {h:PH} {pc0:List Value} {p1:apiProblem} (pr0:VapiProblem h pc0 p1) {r_0:searchhunt} {r_1:Int} (H:search_begin p1 = some (r_0,r_1)):∀ L,FnS Tryz.prog 123 [.agg pc0.toArray] h (L) (fun v h' L'=>∃ w0,v = .tuple #[w0,.int .i64 r_1]∧L' = L∧Pt Vsearchhunt h' w0 r_0):=by
 intro L
 obtain ⟨d,e,f,i,j,rfl,C,D,E,G,I⟩:=pr0
 refine FnS.enter Tryz.func123 rfl Tryz.ntmps123 rfl<|Sr<|To (O.boxF rfl rfl rfl fun aG J b m=>Ag z<|Ag z<|Nt<|Sr<|Vv (V.ldS rfl m (by exact shsearch_28)) ?_)
 have K:=Slc.mono VapiTable.mono C b
 have n:=Slc.mono VapiGuest.mono D b
 have M:=Slc.mono VapiTie.mono E b
 have N:=Slc.mono VI.mono G b
 have P:=Slc.mono VapiRule.mono I b
 obtain ⟨⟨S,aI,aJ⟩,U,H⟩:=bnd H
 refine To (O.callS z (search_open_ok (show VapiProblem J [d,e,f,i,j] p1 from ⟨d,e,f,i,j,z,K,n,M,N,P⟩) U _) z fun aK aM aN c W=>?_)
 obtain ⟨aO,rfl,X,Y⟩:=W
 refine Sl_ _ X<|Mv z<|Vv (V.ext z z)<|Vv (V.ext z z)<|Vv (V.ext z z)<|Ag z<|Ag z<|Ag z<|Nt<|Sq<|Sr<|Mv z<|Vv (V.ne z z)<|Nt<|T.cH H z (fun H=>?_) (fun H=>?_)
 ·exact dead H
 refine T.skip<|Th<|Sq<|Sq<|T.drawF (t:=(.v 0 (.v 1 (.v 2 (.v 3 (.v 4 (.v 5 (.v 6 (.v 7 (.alt 8 (.g (.v 9 .done)) .no)))))))))) 11 0 0 rfl rfl searchmixed (by kernel_rfl) ?_
 refine Tm z z<|have Z:=Y; ?_
 obtain ⟨aP,_,rfl,o,⟨p,q,r,s,u,w,x,y,A,rfl,aa,ab,ac,ad,ae,af,B,ag,ai⟩⟩:=Z
 refine Tv z (V.nck z)<|Tv z (V.fa fdsearch_197_2 z)<|Tv z (V.ldf (k:=6) shsearch_25 z o z)<|Tv z (V.lenS elsearch_25 z B)<|Tv z (V.fa fdsearch_28_1 z)<|have aj:=m.mono c; Tv z (V.ldf (k:=1) shsearch_23 z aj z)<|have ak:=Slc.mono VapiGuest.mono n c; Tv z (V.lenS elsearch_23 z ak) ?_
 obtain ⟨aS,am,H⟩:=bnd H
 refine Tp z z (SX.two (XA.fr [] Lr z) (XA.fr [] Lr z)) (O.callS z (search_work_ok am _) z fun aU an aV a ao=>?_) T.tno
 obtain ⟨rfl,ap⟩:=ao
 refine Sl_ _ ap<|T.tgrow a<|Tv z (V.gt z z)<|T.tnil (SX.two (XA.fr [] Lr z) (XA.fr [] Lr z))<|Th<|T.cH H z (fun H=>?_) (fun H=>?_)
 ·exact dead H
 refine T.skip<|Th<|Sr<|Mv z<|Ag z<|Ag z<|Nt<|T.ret<|have aq:=o.mono a; have ar:=Pt.mono VruleJudge.mono aa a; have au:=Slc.mono VapiTable.mono ab a; have aw:=Slc.mono VapiGuest.mono ac a; have ax:=Slc.mono VapiTie.mono ad a; have ay:=Slc.mono VI.mono ae a; have aA:=Slc.mono VapiRule.mono af a; have aB:=Slc.mono VI.mono B a; have aC:=Slc.mono VI.mono ag a; have aD:=Slc.mono (VSl.mono (VSl.mono VI.mono)) ai a; ?_
 obtain ⟨rfl,rfl⟩:=inj2 H
 have aE:=((b.trans c).trans a)
 exact T.retL Tryz.results123 (RVs.cons (RV.tmp z) (Rv z)) aE ⟨_,z,z,(Pt.mk aq (show Vsearchhunt an [p,q,r,s,u,w,x,y,A] S from ⟨p,q,r,s,u,w,x,y,A,z,ar,au,aw,ax,ay,aA,aB,aC,aD⟩))⟩
theorem hunt_nobody_ok {h:PH} {pv0:Value} {h1:searchhunt} (pr0:Pt Vsearchhunt h pv0 h1) {r_0:List Int} (H:hunt_nobody h1 = some r_0):∀ L,FnS Tryz.prog 64 [pv0] h (L) (fun v h' L'=>∃ cs0,L' = rowR 3 1 v cs0::L∧RowF (VI .i64) h' cs0 r_0):=by
 intro L
 refine FnS.enter Tryz.func64 z Tryz.ntmps64 z<|Sr<|Ag z<|Nt<|Sr<|To (O.bs elsearch_25 zesearch_3 z (e:=z) (hk:=z) (xs:=[.const (.int .i64 (-1))]) (hv:=CO.eq (CO.cons z CO.nil)) (hw:=Wide.of z) (hd:=z) fun s=>have b:RowF (VI .i64) h [[.int .i64 (-1:Int)]] ([(-1:Int)]:List Int):=(RowF.cons z RowF.nil); Mv z<|have c:=pr0; ?_)
 obtain ⟨t,_,rfl,d,⟨u,w,x,y,A,B,C,D,E,rfl,G,I,f,J,K,M,N,P,S⟩⟩:=c
 refine Vv (V.nck z)<|Vv (V.fa fdsearch_197_1 z)<|Vv (V.fa fdsearch_28_1 z)<|Vv (V.ldf (k:=2) shsearch_23 z d z)<|Vv (V.lenS elsearch_23 z f)<|T.rowFix fun U a g=>have i:=RowF.mono VI.mono b a; have j:=RowF.slc g i; ?_
 obtain ⟨W,m,H⟩:=bnd H
 refine To (O.callS z (sl_Repeat_ok j m _) z fun X Y Z n o=>?_)
 obtain ⟨aa,p,q⟩:=o
 refine Sl_ _ p<|Ag z<|Nt<|T.ret ?_
 obtain rfl:=Option.some.inj H
 have r:=(a.trans n)
 exact T.retL Tryz.results64 (Rv z) r ⟨_,z,q⟩
theorem hunt_turns_ok {h:PH} {pv0:Value} {h1:searchhunt} (pr0:Pt Vsearchhunt h pv0 h1) {pv1:Value} {part2:List Int} (pr1:Slc (VI .i64) 1 h pv1 part2) {g3:Int} {k4:Int} {r_0:Bool} (H:hunt_turns h1 part2 g3 k4 = some r_0):∀ L,FnS Tryz.prog 129 [pv0,pv1,.int .i64 g3,.int .i64 k4] h (L) (fun v h' L'=>v = .bool r_0∧L' = L):=by
 intro L
 refine FnS.enter Tryz.func129 rfl Tryz.ntmps129 rfl<|Sr<|Ag z<|Nt<|Sq<|T.drawF (t:=(.v 0 (.v 1 (.v 2 (.v 3 (.v 4 (.v 5 (.v 6 (.v 7 (.v 8 (.v 9 (.alt 10 .done .no)))))))))))) 12 0 0 rfl rfl searchmixed (by kernel_rfl) ?_
 refine Tm z z<|have N:=pr0; ?_
 obtain ⟨aG,_,rfl,d,⟨aI,aJ,aK,aM,aN,aO,aP,aS,aU,rfl,aV,aW,aX,aY,aZ,a0,j,n,f⟩⟩:=N
 refine Tv z (V.nck z)<|Tv z (V.fa fdsearch_197_2 z)<|Tv z (V.ldf (k:=6) shsearch_25 z d z)<|Tm z z<|Tm z z ?_
 obtain ⟨a1,o,H⟩:=bnd H
 obtain ⟨a2,O,rfl⟩:=Slc.at pr1 o
 refine Tv z (V.ix elsearch_25 z z pr1 (getI_bd o))<|Tv z (V.ld0 shsearch_3 z O z) ?_
 obtain ⟨P,p,H⟩:=bnd H
 obtain ⟨a3,S,rfl⟩:=Slc.at j p
 refine Tv z (V.ix elsearch_25 z z j (getI_bd p))<|Tv z (V.ld0 shsearch_3 z S z)<|Ts z z (SX.two (XA.fr [] Lr z) (XA.fr [] Lr z)) (V.asg z) z ?_ T.tno
 refine T.tnil (SX.two (XA.fr [] Lr z) (XA.fr [] Lr z))<|Th<|Sq<|Sr<|Mv z<|Vv (V.lt z z)<|Mv z<|T.bH 26 H z (fun H=>?_) (fun H=>?_)
 ·exact dead H
 refine Mv z<|Mv z<|Vv (V.nck z)<|Vv (V.fa fdsearch_197_4 z)<|Vv (V.ldf (k:=8) shsearch_195 z d z)<|Mv z ?_
 obtain ⟨a4,q,H⟩:=bnd H
 obtain ⟨a5,U,⟨a6,rfl,W⟩⟩:=Slc.at f q
 refine Vv (V.ix elsearch_195 z z f (getI_bd q))<|Vv (V.ld0 shsearch_106 z U z)<|Vv (V.lenS elsearch_106 z W)<|Vv (V.ge z z)<|Vv (V.pkF z z)<|Nt<|T.cH H z (fun H=>?_) (fun H=>?_)
 ·exact dead H
 refine T.skip<|Th<|Sq<|T.drawF (t:=(.v 0 (.v 1 (.v 2 (.v 3 (.v 4 (.v 5 (.v 6 (.v 7 (.v 8 (.v 9 (.v 10 (.v 11 (.v 12 (.v 13 (.v 14 (.v 15 (.v 16 (.alt 17 (.alt 18 .done .no) .no))))))))))))))))))) 20 0 0 rfl rfl searchmixed (by kernel_rfl) ?_
 refine Tm z z<|Tv z (V.nck z)<|Tv z (V.fa fdsearch_197_4 z)<|Tv z (V.ldf (k:=8) shsearch_195 z d z)<|Tm z z ?_
 obtain ⟨a7,r,H⟩:=bnd H
 obtain ⟨a8,X,⟨a9,rfl,s⟩⟩:=Slc.at f r
 refine Tv z (V.ix elsearch_195 z z f (getI_bd r))<|Tv z (V.ld0 shsearch_106 z X z)<|Tm z z ?_
 obtain ⟨Y,u,H⟩:=bnd H
 obtain ⟨ah,Z,⟨al,rfl,w⟩⟩:=Slc.at s u
 refine Tv z (V.ix elsearch_106 z z s (getI_bd u))<|Tv z (V.ld0 shsearch_25 z Z z)<|Tm z z<|Tv z (V.nck z)<|Tv z (V.fa fdsearch_197_3 z)<|Tv z (V.ldf (k:=7) shsearch_25 z d z)<|Tm z z ?_
 obtain ⟨aa,x,H⟩:=bnd H
 obtain ⟨av,ab,rfl⟩:=Slc.at n x
 refine Tv z (V.ix elsearch_25 z z n (getI_bd x))<|Tv z (V.ld0 shsearch_3 z ab z)<|Ts z z (SX.two (XA.fr [] Lr z) (XA.fr [] Lr z)) (V.asg z) z ?_ T.tno
 refine Ts z z (SX.two (XA.fr [] Lr z) (XA.fr [] Lr z)) (V.asg z) z ?_ T.tno
 refine T.tnil (SX.two (XA.fr [] Lr z) (XA.fr [] Lr z))<|Th<|Sq<|Sq<|T.norm [0,1,2,9,10,11] z<|Rg<|Mv z<|Vv (V.lenS elsearch_25 z pr1)<|Mv z<|Nt ?_
 obtain ⟨y,ac,ad⟩:=bndK H
 refine T.cutK (α:=Unit) [1,2,10,11] z (fun _u=>[]) (fun _u=>L) (fun _u hh=>y = ()) ?_ ?_
 ·have H:=ac
  refine Bl<|T.loopK (α:=Nat×Int) [0,1,2,9,10,11,55,56] z (fun ⟨b,c⟩=>[(57,.int .i64 c)]) (fun ⟨b,c⟩=>L) (fun ⟨b,c⟩ hh=>iter (hunt_turns_l0 h1 part2 g3 P Y aa) b c = some y) (fun ⟨b,c⟩=>b) (FUEL,(0:Int)) ⟨z,trivial⟩ z H ?_
  rintro ⟨b,c⟩ az a ae
  obtain ⟨g,ba,rfl,H,e⟩:=iter_go ae
  refine T.norm [57,0,1,2,9,10,11,55,56] z<|Sl_ (L) z<|Sr<|Vv (V.lt z z)<|Nt<|Sq<|T.cH H z (fun H=>?_) (fun H=>?_)
  ·refine T.skip<|Th<|Sq<|Bl<|Sr<|Mv z ?_
   obtain ⟨bb,A,H⟩:=bnd H
   have B:=Slc.mono VI.mono pr1 a
   obtain ⟨bc,af,rfl⟩:=Slc.at B A
   refine Vv (V.ix elsearch_25 z z B (getI_bd A))<|Vv (V.ld0 shsearch_3 z af z)<|Ag z<|Ag z<|Nt<|Sr<|Mv z<|Mv z<|Vv (V.ne z z)<|Mv z<|T.bH 65 H z (fun H=>?_) (fun H=>?_)
   ·refine Mv z<|Vv (V.ge z z)<|Vv (V.pkT z z)<|Mv z<|T.bH 69 H z (fun H=>?_) (fun H=>?_)
    ·refine Mv z<|Vv (V.nck z)<|Vv (V.fa fdsearch_197_2 z)<|have ag:=d.mono a; Vv (V.ldf (k:=6) shsearch_25 z ag z)<|Mv z ?_
     obtain ⟨bd,C,H⟩:=bnd H
     have D:=Slc.mono VI.mono j a
     obtain ⟨be,ai,rfl⟩:=Slc.at D C
     refine Vv (V.ix elsearch_25 z z D (getI_bd C))<|Vv (V.ld0 shsearch_3 z ai z)<|Mv z<|Vv (V.eq z z)<|Vv (V.pkT z z)<|Mv z<|T.bH 80 H z (fun H=>?_) (fun H=>?_)
     ·refine Mv z<|Mv z<|Mv z ?_
      obtain ⟨bf,aj,H⟩:=bnd H
      refine Vv (V.subS z z aj) ?_
      obtain ⟨bg,E,H⟩:=bnd H
      have G:=Slc.mono VI.mono w a
      obtain ⟨bi,ak,rfl⟩:=Slc.at G E
      refine Vv (V.ix elsearch_25 z z G (getI_bd E))<|Vv (V.ld0 shsearch_3 z ak z)<|Mv z<|Mv z ?_
      obtain ⟨bj,am,H⟩:=bnd H
      refine Vv (V.subS z z am)<|Vv (V.ne z z)<|Vv (V.pkT z z)<|Nt<|T.cH H z (fun H=>?_) (fun H=>?_)
      ·exact dead H
      refine T.skip<|Bn<|Th<|T.norm [0,1,2,9,10,11,55,56,57] z<|Rg ?_
      obtain ⟨an,ao,H⟩:=bnd H
      refine Vv (V.addS z z ao)<|Mv z<|Nt<|T.again (g,an) a (Nat.lt_succ_self _) (iterK_in H e) (AllIn.app ⟨z,trivial⟩ ⟨z,z,z,z,z,z,z,z,trivial⟩) z
     refine Sk<|Sk<|Sk<|Sk<|Sk<|Sk<|Sk<|Sk<|Sk<|Sk<|Vv (V.pkF z z)<|Nt<|Cf z<|T.skip<|Bn<|Th<|Rg ?_
     obtain ⟨ap,aq,H⟩:=bnd H
     refine Vv (V.addS z z aq)<|Mv z<|Nt<|T.again (g,ap) a (Nat.lt_succ_self _) (iterK_in H e) (AllIn.app ⟨z,trivial⟩ ⟨z,z,z,z,z,z,z,z,trivial⟩) z
    refine Sk<|Sk<|Sk<|Sk<|Sk<|Sk<|Sk<|Sk<|Sk<|Vv (V.pkF z z)<|Mv z<|Sk<|Sk<|Sk<|Sk<|Sk<|Sk<|Sk<|Sk<|Sk<|Sk<|Vv (V.pkF z z)<|Nt<|Cf z<|T.skip<|Bn<|Th<|Rg ?_
    obtain ⟨ar,au,H⟩:=bnd H
    refine Vv (V.addS z z au)<|Mv z<|Nt<|T.again (g,ar) a (Nat.lt_succ_self _) (iterK_in H e) (AllIn.app ⟨z,trivial⟩ ⟨z,z,z,z,z,z,z,z,trivial⟩) z
   refine Sk<|Sk<|Vv (V.pkF z z)<|Mv z<|Sk<|Sk<|Sk<|Sk<|Sk<|Sk<|Sk<|Sk<|Sk<|Vv (V.pkF z z)<|Mv z<|Sk<|Sk<|Sk<|Sk<|Sk<|Sk<|Sk<|Sk<|Sk<|Sk<|Vv (V.pkF z z)<|Nt<|Cf z<|T.skip<|Bn<|Th<|Rg ?_
   obtain ⟨aw,ax,H⟩:=bnd H
   refine Vv (V.addS z z ax)<|Mv z<|Nt<|T.again (g,aw) a (Nat.lt_succ_self _) (iterK_in H e) (AllIn.app ⟨z,trivial⟩ ⟨z,z,z,z,z,z,z,z,trivial⟩) z
  refine T.exit<|Te<|Te<|have H:=iterK_out H e; Be<|Th<|T.met () a H (AllIn.app trivial ⟨z,z,z,z,trivial⟩) z
 rintro _ bk m ay
 have H:=cutE ay ad
 refine T.norm [1,2,10,11] rfl<|Sl_ (L) rfl<|Sq<|T.drawF (t:=(.v 0 (.v 1 (.v 2 (.v 3 (.v 4 (.v 5 (.v 6 (.v 7 (.v 8 (.v 9 (.v 10 (.v 11 (.v 12 (.v 13 (.v 14 (.v 15 (.alt 16 .done .no)))))))))))))))))) 18 0 0 rfl rfl searchmixed (by kernel_rfl) ?_
 refine Tm z z<|Tm z z<|Tm z z ?_
 obtain ⟨bm,I,H⟩:=bnd H
 have i:=Slc.mono VI.mono pr1 m
 obtain ⟨bn,aA,rfl⟩:=Slc.at i I
 refine Tv z (V.ix elsearch_25 z z i (getI_bd I))<|Tv z (V.ld0 shsearch_3 z aA z)<|Tm z z ?_
 obtain ⟨bo,aB,H⟩:=bnd H
 refine Tv z (V.subS z z aB) ?_
 obtain ⟨bp,J,H⟩:=bnd H
 have K:=Slc.mono VI.mono w m
 obtain ⟨bq,aC,rfl⟩:=Slc.at K J
 refine Tv z (V.ix elsearch_25 z z K (getI_bd J))<|Tv z (V.ld0 shsearch_3 z aC z)<|Tm z z<|Tm z z ?_
 obtain ⟨br,M,H⟩:=bnd H
 obtain ⟨bs,aD,rfl⟩:=Slc.at i M
 refine Tv z (V.ix elsearch_25 z z i (getI_bd M))<|Tv z (V.ld0 shsearch_3 z aD z)<|Tm z z ?_
 obtain ⟨bt,aE,H⟩:=bnd H
 refine Tv z (V.subS z z aE)<|Tv z (V.lt z z)<|Ts z z (SX.two (XA.fr [] Lr z) (XA.fr [] Lr z)) (V.asg z) z ?_ T.tno
 refine T.tnil (SX.two (XA.fr [] Lr z) (XA.fr [] Lr z))<|Th<|T.ret ?_
 obtain rfl:=Option.some.inj H
 exact T.retL Tryz.results129 (Rv z) m ⟨z,z⟩
end Go.Proofs.X
open Go Go.Proofs Go.Sl Go.Dm
namespace Go.Proofs.X
theorem search2mixed : Tryz.prog.follows .mixedOrders = true := by kernel_rfl
theorem elsearch2_25 : elSh Tryz.prog 25 = some (3, 1, 8) := by kernel_rfl
theorem elsearch2_26 : elSh Tryz.prog 26 = some (39, 6, 72) := by kernel_rfl
theorem elsearch2_80 : elSh Tryz.prog 80 = some (201, 2, 16) := by kernel_rfl
theorem fdsearch2_124_0 : fldOf Tryz.prog 124 0 = some 0 := by kernel_rfl
theorem fdsearch2_124_1 : fldOf Tryz.prog 124 1 = some 1 := by kernel_rfl
theorem fdsearch2_124_2 : fldOf Tryz.prog 124 2 = some 2 := by kernel_rfl
theorem fdsearch2_124_3 : fldOf Tryz.prog 124 3 = some 3 := by kernel_rfl
theorem fdsearch2_124_4 : fldOf Tryz.prog 124 4 = some 4 := by kernel_rfl
theorem fdsearch2_197_0 : fldOf Tryz.prog 197 0 = some 0 := by kernel_rfl
theorem fdsearch2_197_1 : fldOf Tryz.prog 197 1 = some 1 := by kernel_rfl
theorem fdsearch2_197_2 : fldOf Tryz.prog 197 2 = some 6 := by kernel_rfl
theorem fdsearch2_201_0 : fldOf Tryz.prog 201 0 = some 0 := by kernel_rfl
theorem fdsearch2_201_1 : fldOf Tryz.prog 201 1 = some 1 := by kernel_rfl
theorem fdsearch2_28_4 : fldOf Tryz.prog 28 4 = some 4 := by kernel_rfl
theorem fdsearch2_39_1 : fldOf Tryz.prog 39 1 = some 1 := by kernel_rfl
theorem shsearch2_116 : tySh Tryz.prog 116 = some (false, 1) := by kernel_rfl
theorem shsearch2_199 : tySh Tryz.prog 199 = some (false, 1) := by kernel_rfl
theorem shsearch2_201 : tySh Tryz.prog 201 = some (true, 2) := by kernel_rfl
theorem shsearch2_25 : tySh Tryz.prog 25 = some (false, 1) := by kernel_rfl
theorem shsearch2_26 : tySh Tryz.prog 26 = some (false, 1) := by kernel_rfl
theorem shsearch2_3 : tySh Tryz.prog 3 = some (false, 1) := by kernel_rfl
theorem shsearch2_67 : tySh Tryz.prog 67 = some (false, 1) := by kernel_rfl
theorem shsearch2_80 : tySh Tryz.prog 80 = some (false, 1) := by kernel_rfl
theorem zesearch2_201 : zer Tryz.prog 201 = some (.agg #[.int .u8 (0), .int .i64 (0)]) := by kernel_rfl
theorem reader_node_ok (n:Nat):∀ {h:PH} {pb0:Nat} {r1:searchreader} {v0_1:Value} {v0_3:Value} {v0_5:Value} {css0_6:List (List Value)} (hP0_2:Pt Vsearchhunt h v0_1 r1.fhunt) (hS0_4:Slc VapiStep 2 h v0_3 r1.fsteps) (hR0_7:RowF (VI .i64) h css0_6 r1.fpart) {last2:Int} {o_:(Int×(List Int))⊕searchwrong} (H:reader_node n r1 last2 = some o_) (L:List HProp),FnE Tryz.prog 65 [.pointer (some ⟨pb0,0,none⟩),.int .i64 last2] h (blk pb0 (.cells [v0_1,.int .i64 r1.fbound,v0_3,.int .i64 r1.fat,v0_5].toArray 124)::rowR 3 1 v0_5 css0_6::L) (PE (fun q_0 v h' L'=>∃ vl0_1 cssl0_2,v = .tuple #[]∧L' = blk pb0 (.cells [v0_1,.int .i64 r1.fbound,v0_3,.int .i64 q_0.1,vl0_1].toArray 124)::rowR 3 1 vl0_1 cssl0_2::L∧RowF (VI .i64) h' cssl0_2 q_0.2) (fun x_=>.iface 120 (.agg #[.int .i64 x_.fat,.int .i64 x_.fe])) L o_):=by
  induction n with
  | zero => intros; rename_i H _; cases H
  | succ n self =>
    intro h pb0 r1 v0_1 v0_3 v0_5 css0_6 hP0_2 hS0_4 hR0_7 last2 o_ H L
    refine FnE.enter Tryz.func65 rfl Tryz.ntmps65 rfl<|Sq<|Sq<|T.drawF (t:=(.v 0 (.v 1 (.v 2 (.v 3 (.v 4 (.v 5 (.v 6 (.v 7 (.v 8 (.v 9 .done))))))))))) 11 1 1 rfl rfl search2mixed (by kernel_rfl) ?_
    refine Tm z z<|Tv z (V.nck z)<|Tv z (V.fa fdsearch2_124_3 z)<|Tv z (Val.XA fun _ _ _=>V.ldO (k:=3) shsearch2_3 z (j:=0) z z)<|Tm z z<|Tv z (V.nck z)<|Tv z (V.fa fdsearch2_124_2 z)<|Tv z (Val.XA fun _ _ _=>V.ldO (k:=2) shsearch2_80 z (j:=0) z z)<|Tv z (V.lenS elsearch2_80 z hS0_4)<|Tv z (V.eq z z)<|T.tnil (SX.two (XA.fr [0] Lr z) (XA.fr [0] Lr z))<|Th<|T.cH H z (fun H=>?_) (fun H=>?_)
    ·exact dead H
    refine T.skip<|Th<|Sq<|T.drawF (t:=(.v 0 (.v 1 (.v 2 (.v 3 (.v 4 (.v 5 (.v 6 (.v 7 (.v 8 (.v 9 (.alt 10 (.alt 11 .done .no) .no)))))))))))) 13 1 1 rfl rfl search2mixed (by kernel_rfl) ?_
    refine Tm z z<|Tv z (V.nck z)<|Tv z (V.fa fdsearch2_124_2 z)<|Tv z (Val.XA fun _ _ _=>V.ldO (k:=2) shsearch2_80 z (j:=0) z z)<|Tm z z<|Tv z (V.nck z)<|Tv z (V.fa fdsearch2_124_3 z)<|Tv z (Val.XA fun _ _ _=>V.ldO (k:=3) shsearch2_3 z (j:=0) z z) ?_
    obtain ⟨p,Y,H⟩:=bnd H
    obtain ⟨ck,aI,rfl⟩:=Slc.at hS0_4 Y
    refine Tv z (V.ix elsearch2_80 rfl rfl hS0_4 (getI_bd Y))<|Tv z (V.ldS rfl aI (by exact shsearch2_201)) ?_
    refine Tp z z (SX.two (XA.fr [0] Lr z) (XA.fr [0] Lr z)) (O.alloc zesearch2_201 z z fun cm=>?_) T.tno
    refine Tp z z (SX.two (XA.fr [1] Lr z) (XA.fr [1] Lr z)) (O.stF (vs:=[.int .u8 p.fKind,.int .i64 p.fN]) shsearch2_201 z z (j:=0) z z z z ?_) T.tno
    refine T.fl ?_
    refine T.freeze fun cn a aJ=>have f:=AtC.of aJ; T.tnil (SX.two (XA.fr [0] a z) (XA.fr [0] a z))<|Th<|Sq<|Sr<|Vv (V.fa fdsearch2_201_0 z)<|Vv (V.ldf (k:=0) shsearch2_199 z f z)<|Nt<|Bl<|Sr<|Vv (V.eq z z)<|Ag z<|Nt<|T.cH H z (fun H=>?_) (fun H=>?_)
    ·refine Sq<|Sq<|T.drawF (t:=(.v 0 (.v 1 (.v 2 (.v 3 (.v 4 (.v 5 (.v 6 (.v 7 (.v 8 (.v 9 (.v 10 (.v 11 (.v 12 (.v 13 (.v 14 (.v 15 (.v 16 (.v 17 (.v 18 (.v 19 (.v 20 (.v 21 (.v 22 (.v 23 .done))))))))))))))))))))))))) 25 2 2 rfl rfl search2mixed (by kernel_rfl) ?_
     refine Tv z (V.fa fdsearch2_201_1 z)<|Tv z (V.ldf (k:=1) shsearch2_3 z f z)<|Tv z (V.lt z z)<|Tm z z<|T.bH 37 H z (fun H=>?_) (fun H=>?_)
     ·exact dead H
     refine Tv z (V.fa fdsearch2_201_1 z)<|Tv z (V.ldf (k:=1) shsearch2_3 z f z)<|Tm z z<|Tv z (V.nck z)<|Tv z (V.fa fdsearch2_124_4 z)<|Tv z (Val.XA fun _ _ _=>V.ldO (k:=4) shsearch2_25 z (j:=0) z z)<|have C:=RowF.mono VI.mono hR0_7 a; Tv z (Val.XA fun _ _ _=>V.lenX elsearch2_25 z (j:=1) z C.len)<|Tv z (V.ge z z)<|Tv z (V.pkF z z)<|Tm z z<|T.bH 47 H z (fun H=>?_) (fun H=>?_)
     ·exact dead H
     refine Tm z z<|Tv z (V.nck z)<|Tv z (V.fa fdsearch2_124_4 z)<|Tv z (Val.XA fun _ _ _=>V.ldO (k:=4) shsearch2_25 z (j:=0) z z)<|Tv z (V.fa fdsearch2_201_1 z)<|Tv z (V.ldf (k:=1) shsearch2_3 z f z) ?_
     obtain ⟨co,Z,H⟩:=bnd H
     obtain ⟨cp,aK,rfl⟩:=RowF.get C Z
     refine Tv z (Val.XA fun _ _ _=>V.ixR elsearch2_25 z z (j:=1) z (RowF.bd C Z))<|Tv z (Val.XA fun _ _ _=>V.ldR shsearch2_3 z (j:=1) z aK z)<|Tv z (V.ge z z)<|Tv z (V.pkF z z)<|T.tnil (SX.two (XA.fr [1,1] Lr z) (XA.fr [1,1] Lr z))<|Th<|T.cH H z (fun H=>?_) (fun H=>?_)
     ·exact dead H
     refine T.skip<|Th<|Sq<|T.norm [0,4] z<|Sl_ (blk pb0 (.cells [v0_1,.int .i64 r1.fbound,v0_3,.int .i64 r1.fat,v0_5].toArray 124)::rowR 3 1 v0_5 css0_6::L) z<|Rg<|Mv z<|Vv (V.nck z)<|Vv (V.fa fdsearch2_124_3 z)<|Vv (V.ldO (k:=3) shsearch2_3 z (j:=0) z z) ?_
     obtain ⟨aa,aM,H⟩:=bnd H
     refine Vv (V.addS z z aM)<|Vv (V.nck z)<|Vv (V.fa fdsearch2_124_3 z)<|To (O.st (vs:=[.int .i64 aa]) (k:=3) shsearch2_3 z z (j:=0) z z z<|Nt<|Sq<|Sr<|Mv z<|Vv (V.nck z)<|Vv (V.fa fdsearch2_124_0 z)<|Vv (V.ldO (k:=0) shsearch2_116 z (j:=0) z z)<|have aN:=Pt.mono Vsearchhunt.mono hP0_2 a; have aO:=aN; ?_)
     obtain ⟨y,_,rfl,ab,⟨ac,ad,ae,af,ag,ai,aj,ak,am,rfl,aP,aS,aU,aV,aW,aX,an,aY,aZ⟩⟩:=aO
     refine Vv (V.nck z)<|Vv (V.fa fdsearch2_197_2 z)<|Vv (V.ldf (k:=6) shsearch2_25 z ab z)<|Vv (V.lenS elsearch2_25 z an)<|Mv z<|Nt ?_
     obtain ⟨ao,a0,a1⟩:=bndK H
     refine T.cutK (α:=Int×(List Int)×Value×(List (List Value))) [0] z (fun ⟨s,A,r,u⟩=>[]) (fun ⟨s,A,r,u⟩=>blk pb0 (.cells [.pointer (some y),.int .i64 r1.fbound,v0_3,.int .i64 s,r].toArray 124)::rowR 3 1 r u::L) (fun ⟨s,A,r,u⟩ hh=>ao = (Sum.inl (s,A))∧RowF (VI .i64) hh u A) ?_ ?_
     ·have H:=a0
      refine Bl<|T.loopK (α:=Nat×Int×(List Int)×Int×Value×(List (List Value))) [0,4,74] z (fun ⟨w,c,o,m,d,e⟩=>[(75,.int .i64 m)]) (fun ⟨w,c,o,m,d,e⟩=>blk pb0 (.cells [.pointer (some y),.int .i64 r1.fbound,v0_3,.int .i64 c,d].toArray 124)::rowR 3 1 d e::L) (fun ⟨w,c,o,m,d,e⟩ hh=>iter (reader_node_l0 (reader_node n) r1 p) w (c,o,m) = some ao∧RowF (VI .i64) hh e o) (fun ⟨w,c,o,m,d,e⟩=>w) (FUEL,aa,r1.fpart,(0:Int),v0_5,css0_6) ⟨z,trivial⟩ z ⟨H,C⟩ ?_
      rintro ⟨w,c,o,m,d,e⟩ cq D ⟨a2,E⟩
      obtain ⟨ap,cr,rfl,H,J⟩:=iter_go a2
      refine T.norm [75,0,4,74] z<|Sl_ (blk pb0 (.cells [.pointer (some y),.int .i64 r1.fbound,v0_3,.int .i64 c,d].toArray 124)::rowR 3 1 d e::L) z<|Sr<|Vv (V.lt z z)<|Nt<|Sq<|T.cH H z (fun H=>?_) (fun H=>?_)
      ·refine T.skip<|Th<|Sq<|Bl<|Sr<|Mv z<|Ag z<|Nt<|Sr<|Mv z<|Vv (V.nck z)<|Vv (V.fa fdsearch2_124_4 z)<|Vv (V.ldO (k:=4) shsearch2_25 z (j:=0) z z)<|Mv z<|Fr_ 1 z ?_
       obtain ⟨a3,a4,H⟩:=bnd H
       refine To (O.callS z (FnS.lend (val:=.bool a3) Tryz.func71 z lendR fun cs a5 a6=>?_) z fun ct K cu B a7=>?_)
       ·have a8:=RowF.mono VI.mono E a5
        have a9:=RowF.slc a6 a8
        exact sl_ContainsInt_ok a9 a4 _
       obtain ⟨rfl,ah⟩:=a7
       refine Sl_ _ ah<|Vv (V.not z)<|Nt<|T.cH H z (fun H=>?_) (fun H=>?_)
       ·refine Sq<|Fr_ 1 z<|T.drawF (t:=(.v 0 (.v 1 (.v 2 (.v 3 (.v 4 (.v 5 (.v 6 (.x 7 (.alt 8 .done .no)))))))))) 8 2 1 rfl rfl search2mixed (by kernel_rfl) ?_
        refine Tm z z<|Tv z (V.nck z)<|Tv z (V.fa fdsearch2_124_4 z)<|Tv z (Val.XA fun _ _ _=>V.ldO (k:=4) shsearch2_25 z (j:=0) z z)<|Tv z (V.fa fdsearch2_201_1 z)<|have b:=(D.trans B); have M:=f.mono b; Tv z (V.ldf (k:=1) shsearch2_3 z M z)<|Tm z z ?_
        obtain ⟨cw,N,H⟩:=bnd H
        have G:=RowF.mono VI.mono E B
        obtain ⟨cx,cy,rfl⟩:=RowF.get G N
        refine T.tx z z (Val.XA fun _ _ _=>V.ixR elsearch2_25 z z (j:=1) z (RowF.bd G N)) z Calm.i ?_
        obtain ⟨aq,al,H⟩:=bnd H
        refine Tp z z (SX.two (XA.fr [0] Lr z) (XA.fr [1,1] Lr z)) (O.stR shsearch2_3 z z (j:=1) z (RowF.bdN G N) z ?_) T.tno
        have av:RowF (VI .i64) K (e.set p.fN.toNat [.int .i64 m]) aq:=RowF.set G (show (VI .i64) K [.int .i64 m] m from z) al
        refine T.tnil (SX.one (XA.fr [1] Lr z) z)<|Th<|Sr<|Mv z<|Vv (V.fa fdsearch2_201_1 z)<|Vv (V.ldf (k:=1) shsearch2_3 z M z)<|have az:=ab.mono b; have ba:=Pt.mono VruleJudge.mono aP b; have bb:=Slc.mono VapiTable.mono aS b; have bc:=Slc.mono VapiGuest.mono aU b; have be:=Slc.mono VapiTie.mono aV b; have bf:=Slc.mono VI.mono aW b; have bg:=Slc.mono VapiRule.mono aX b; have bi:=Slc.mono VI.mono an b; have bj:=Slc.mono VI.mono aY b; have bk:=Slc.mono (VSl.mono (VSl.mono VI.mono)) aZ b; have bm:=((a.trans D).trans B); have bn:=Slc.mono VapiStep.mono hS0_4 bm; Fr_ 1 z ?_
        obtain ⟨bo,bp,H⟩:=bnd H
        rcases bo with ar | cA
        rotate_left
        ·exact dead H
        refine To (O.callS z (FnE.toS (self (r1:=(searchreader.mk r1.fhunt r1.fbound r1.fsteps c aq)) (Pt.mk az (show Vsearchhunt K [ac,ad,ae,af,ag,ai,aj,ak,am] r1.fhunt from ⟨ac,ad,ae,af,ag,ai,aj,ak,am,z,ba,bb,bc,be,bf,bg,bi,bj,bk⟩)) bn av bp _) fun _ _ _ q=>q) z fun cB au cC aw bq=>?_)
        obtain ⟨P,S,rfl,br,I⟩:=bq
        refine Sl_ _ br<|Nt<|T.drawF (t:=(.v 0 (.v 1 (.v 2 (.v 3 (.v 4 (.v 5 (.x 6 (.alt 7 .done .no))))))))) 7 2 1 rfl rfl search2mixed (by kernel_rfl) ?_
        refine Tm z z<|Tv z (V.nck z)<|Tv z (V.fa fdsearch2_124_4 z)<|Tv z (Val.XA fun _ _ _=>V.ldO (k:=4) shsearch2_25 z (j:=0) z z)<|Tv z (V.fa fdsearch2_201_1 z)<|have bs:=M.mono aw; Tv z (V.ldf (k:=1) shsearch2_3 z bs z) ?_
        obtain ⟨cD,U,H⟩:=bnd H
        obtain ⟨cE,cG,rfl⟩:=RowF.get I U
        refine T.tx z z (Val.XA fun _ _ _=>V.ixR elsearch2_25 z z (j:=1) z (RowF.bd I U)) z Calm.i ?_
        obtain ⟨ax,bt,H⟩:=bnd H
        refine Tp z z (SX.two (XA.fr [0] Lr z) (XA.fr [1,1] Lr z)) (O.stR shsearch2_3 z z (j:=1) z (RowF.bdN I U) z ?_) T.tno
        have bu:RowF (VI .i64) au (S.set p.fN.toNat [.int .i64 (-1:Int)]) ax:=RowF.set I (show (VI .i64) au [.int .i64 (-1:Int)] (-1:Int) from z) bt
        refine T.tnil (SX.one (XA.fr [1] Lr z) z)<|Bn<|Th<|T.norm [0,4,74,75] z<|Sl_ (rowR 3 1 P (S.set p.fN.toNat [.int .i64 (-1:Int)])::blk pb0 (.cells [.pointer (some y),.int .i64 r1.fbound,v0_3,.int .i64 ar.1,P].toArray 124)::L) z<|Rg ?_
        obtain ⟨bw,bx,H⟩:=bnd H
        refine Vv (V.addS z z bx)<|Mv z<|Nt<|Fr_ 1 z<|have bA:=(b.trans aw); T.again (ap,ar.1,ax,bw,P,(S.set p.fN.toNat [.int .i64 (-1:Int)])) bA (Nat.lt_succ_self _) ⟨(iterK_in H J),bu⟩ (AllIn.app ⟨z,trivial⟩ ⟨z,z,z,trivial⟩) z
       refine T.skip<|Bn<|Th<|Rg ?_
       obtain ⟨bB,bC,H⟩:=bnd H
       refine Vv (V.addS z z bC)<|Mv z<|Nt<|have bD:=RowF.mono VI.mono E B; Fr_ 1 z<|have bE:=(D.trans B); T.again (ap,c,o,bB,d,e) bE (Nat.lt_succ_self _) ⟨(iterK_in H J),bD⟩ (AllIn.app ⟨z,trivial⟩ ⟨z,z,z,trivial⟩) z
      refine T.exit<|Te<|Te<|have H:=iterK_out H J; Be<|Th<|T.met (c,o,d,e) D ⟨H,E⟩ (AllIn.app trivial ⟨z,trivial⟩) z
     rintro ⟨s,A,r,u⟩ cI bG ⟨bI,bJ⟩
     have H:=cutE bI a1
     refine T.norm [0] z<|Sl_ (blk pb0 (.cells [.pointer (some y),.int .i64 r1.fbound,v0_3,.int .i64 s,r].toArray 124)::rowR 3 1 r u::L) z<|T.ret<|Br<|Tr ?_
     obtain rfl:=Option.some.inj H
     have bK:=(a.trans bG)
     exact T.retE0 Tryz.results65 bK (PE.ret ⟨_,_,z,z,bJ⟩)
    refine Sr<|Vv (V.eq z z)<|Ag z<|Nt<|T.cH H z (fun H=>?_) (fun H=>?_)
    ·refine Sq<|T.drawF (t:=(.v 0 (.v 1 (.v 2 (.v 3 (.v 4 (.v 5 (.v 6 (.v 7 (.v 8 (.v 9 (.v 10 (.v 11 (.v 12 (.v 13 (.v 14 (.v 15 (.v 16 (.v 17 (.v 18 (.v 19 (.v 20 (.v 21 (.v 22 (.v 23 (.v 24 (.v 25 (.v 26 (.v 27 (.v 28 (.v 29 (.v 30 (.v 31 (.v 32 (.v 33 (.v 34 (.v 35 (.v 36 (.v 37 (.v 38 (.v 39 (.v 40 (.v 41 (.v 42 (.v 43 (.v 44 (.v 45 (.v 46 (.alt 47 (.g (.v 48 (.v 49 .done))) .no))))))))))))))))))))))))))))))))))))))))))))))))) 51 2 2 rfl rfl search2mixed (by kernel_rfl) ?_
     refine Tv z (V.fa fdsearch2_201_1 z)<|Tv z (V.ldf (k:=1) shsearch2_3 z f z)<|Tv z (V.lt z z)<|Tm z z<|T.bH 110 H z (fun H=>?_) (fun H=>?_)
     ·exact dead H
     refine Tv z (V.fa fdsearch2_201_1 z)<|Tv z (V.ldf (k:=1) shsearch2_3 z f z)<|Tm z z<|Tv z (V.nck z)<|Tv z (V.fa fdsearch2_124_0 z)<|Tv z (Val.XA fun _ _ _=>V.ldO (k:=0) shsearch2_116 z (j:=0) z z)<|have bM:=Pt.mono Vsearchhunt.mono hP0_2 a; have bN:=bM; ?_
     obtain ⟨bO,_,rfl,W,⟨cJ,cK,cM,cN,cO,cP,cS,cU,cV,rfl,bP,cW,cX,cY,cZ,X,c0,c1,c2⟩⟩:=bN
     refine Tv z (V.nck z)<|Tv z (V.fa fdsearch2_197_1 z)<|Tv z (V.fa fdsearch2_28_4 z)<|Tv z (V.ldf (k:=5) shsearch2_26 z W z)<|Tv z (V.lenS elsearch2_26 z X)<|Tv z (V.ge z z)<|Tv z (V.pkF z z)<|Tm z z<|T.bH 124 H z (fun H=>?_) (fun H=>?_)
     ·exact dead H
     refine Tm z z<|Tv z (V.nck z)<|Tv z (V.fa fdsearch2_124_0 z)<|Tv z (Val.XA fun _ _ _=>V.ldO (k:=0) shsearch2_116 z (j:=0) z z)<|Tv z (V.nck z)<|Tv z (V.fa fdsearch2_197_1 z)<|Tv z (V.fa fdsearch2_28_4 z)<|Tv z (V.ldf (k:=5) shsearch2_26 z W z)<|Tv z (V.fa fdsearch2_201_1 z)<|Tv z (V.ldf (k:=1) shsearch2_3 z f z) ?_
     obtain ⟨c3,ay,H⟩:=bnd H
     obtain ⟨c4,bS,rfl⟩:=Slc.at X ay
     refine Tv z (V.ix elsearch2_26 z z X (getI_bd ay))<|Tv z (V.fa fdsearch2_39_1 z)<|Tv z (V.ldf (k:=1) shsearch2_3 z bS z)<|Tv z (V.gt z z)<|Tv z (V.pkF z z)<|Tm z z<|T.bH 140 H z (fun H=>?_) (fun H=>?_)
     ·exact dead H
     refine Tm z z<|Tv z (V.nck z)<|Tv z (V.fa fdsearch2_124_0 z)<|Tv z (Val.XA fun _ _ _=>V.ldO (k:=0) shsearch2_116 z (j:=0) z z)<|Tv z (V.nck z)<|Tv z (V.fa fdsearch2_197_0 z)<|Tv z (V.ldf (k:=0) shsearch2_67 z W z)<|Tm z z<|Tv z (V.nck z)<|Tv z (V.fa fdsearch2_124_4 z)<|Tv z (Val.XA fun _ _ _=>V.ldO (k:=4) shsearch2_25 z (j:=0) z z)<|Tv z (V.fa fdsearch2_201_1 z)<|Tv z (V.ldf (k:=1) shsearch2_3 z f z)<|Fr_ 1 z ?_
     obtain ⟨bU,bV,H⟩:=bnd H
     refine Tp z z (SX.two (XA.fr [0,1] Lr z) (XA.fr [0,1] Lr z)) (O.callS z (FnS.lend (val:=.int .i64 bU) Tryz.func127 z lendR fun c5 aA bW=>?_) z fun c6 c7 c8 aB bX=>?_) T.tno
     ·have bY:=(a.trans aA)
      have bZ:=RowF.mono VI.mono hR0_7 bY
      have b0:=RowF.slc bW bZ
      have b1:=Pt.mono VruleJudge.mono bP aA
      exact Judge_Least_ok b1 b0 bV _
     obtain ⟨rfl,b2⟩:=bX
     refine Sl_ _ b2<|T.tgrow aB<|Tv z (V.eq z z)<|Tv z (V.pkF z z)<|T.tnil (SX.two (XA.fr [0,1] Lr z) (XA.fr [0,1] Lr z))<|Th<|T.cH H z (fun H=>?_) (fun H=>?_)
     ·exact dead H
     refine T.skip<|Bn<|Th<|T.norm [0] z<|Sl_ (rowR 3 1 v0_5 css0_6::blk pb0 (.cells [.pointer (some bO),.int .i64 r1.fbound,v0_3,.int .i64 r1.fat,v0_5].toArray 124)::L) z<|Rg<|Mv z<|Vv (V.nck z)<|Vv (V.fa fdsearch2_124_3 z)<|Vv (V.ldO (k:=3) shsearch2_3 z (j:=1) z z) ?_
     obtain ⟨b3,b4,H⟩:=bnd H
     refine Vv (V.addS z z b4)<|Vv (V.nck z)<|Vv (V.fa fdsearch2_124_3 z)<|To (O.st (vs:=[.int .i64 b3]) (k:=3) shsearch2_3 z z (j:=1) z z z<|Ni<|have aC:=(a.trans aB); have b5:=RowF.mono VI.mono hR0_7 aC; ?_)
     obtain rfl:=Option.some.inj H
     exact T.endE0 Tryz.results65 aC (PE.ret ⟨_,_,z,z,b5⟩)
    refine Sr<|Vv (V.eq z z)<|Ag z<|Nt<|T.cH H z (fun H=>?_) (fun H=>?_)
    ·refine Sq<|T.drawF (t:=(.v 0 (.v 1 (.v 2 (.v 3 (.v 4 (.v 5 (.v 6 (.v 7 (.v 8 (.v 9 (.v 10 (.v 11 (.v 12 (.v 13 (.v 14 (.v 15 (.v 16 (.v 18 (.v 19 (.v 20 (.v 21 (.alt 17 (.g (.v 22 (.v 23 .done))) .no))))))))))))))))))))))) 25 2 2 rfl rfl search2mixed (by kernel_rfl) ?_
     refine Tm z z<|Tv z (V.nck z)<|Tv z (V.fa fdsearch2_124_1 z)<|Tv z (Val.XA fun _ _ _=>V.ldO (k:=1) shsearch2_3 z (j:=0) z z)<|Tv z (V.lt z z)<|Tm z z<|T.bH 166 H z (fun H=>?_) (fun H=>?_)
     ·exact dead H
     refine Tm z z<|Tv z (V.nck z)<|Tv z (V.fa fdsearch2_124_0 z)<|Tv z (Val.XA fun _ _ _=>V.ldO (k:=0) shsearch2_116 z (j:=0) z z)<|have b6:=Pt.mono Vsearchhunt.mono hP0_2 a; have b7:=b6; ?_
     obtain ⟨b8,_,rfl,b9,⟨c9,ch,cl,cv,cz,da,db,dc,dd,rfl,bh,de,df,dg,di,dj,dk,dm,dn⟩⟩:=b7
     refine Tv z (V.nck z)<|Tv z (V.fa fdsearch2_197_0 z)<|Tv z (V.ldf (k:=0) shsearch2_67 z b9 z)<|Tm z z<|Tv z (V.nck z)<|Tv z (V.fa fdsearch2_124_4 z)<|Tv z (Val.XA fun _ _ _=>V.ldO (k:=4) shsearch2_25 z (j:=0) z z)<|Tm z z<|Tv z (V.nck z)<|Tv z (V.fa fdsearch2_124_1 z)<|Tv z (Val.XA fun _ _ _=>V.ldO (k:=1) shsearch2_3 z (j:=0) z z)<|Fr_ 1 z ?_
     obtain ⟨bl,bv,H⟩:=bnd H
     refine Tp z z (SX.two (XA.fr [0,1] Lr z) (XA.fr [0,1] Lr z)) (O.callS z (FnS.lend (val:=.int .i64 bl) Tryz.func128 z lendR fun dp aD bz=>?_) z fun dq dr ds aE ca=>?_) T.tno
     ·have cb:=(a.trans aD)
      have cc:=RowF.mono VI.mono hR0_7 cb
      have cd:=RowF.slc bz cc
      have ce:=Pt.mono VruleJudge.mono bh aD
      exact Judge_Floor_ok ce cd bv _
     obtain ⟨rfl,cf⟩:=ca
     refine Sl_ _ cf<|T.tgrow aE<|Tv z (V.lt z z)<|Tv z (V.pkF z z)<|T.tnil (SX.two (XA.fr [0,1] Lr z) (XA.fr [0,1] Lr z))<|Th<|T.cH H z (fun H=>?_) (fun H=>?_)
     ·exact dead H
     refine T.skip<|Bn<|Th<|T.norm [0] z<|Sl_ (rowR 3 1 v0_5 css0_6::blk pb0 (.cells [.pointer (some b8),.int .i64 r1.fbound,v0_3,.int .i64 r1.fat,v0_5].toArray 124)::L) z<|Rg<|Mv z<|Vv (V.nck z)<|Vv (V.fa fdsearch2_124_3 z)<|Vv (V.ldO (k:=3) shsearch2_3 z (j:=1) z z) ?_
     obtain ⟨cg,ci,H⟩:=bnd H
     refine Vv (V.addS z z ci)<|Vv (V.nck z)<|Vv (V.fa fdsearch2_124_3 z)<|To (O.st (vs:=[.int .i64 cg]) (k:=3) shsearch2_3 z z (j:=1) z z z<|Ni<|have aG:=(a.trans aE); have cj:=RowF.mono VI.mono hR0_7 aG; ?_)
     obtain rfl:=Option.some.inj H
     exact T.endE0 Tryz.results65 aG (PE.ret ⟨_,_,z,z,cj⟩)
    exact dead H
end Go.Proofs.X
open Go Go.Proofs Go.Sl Go.Dm
namespace Go.Proofs.X
theorem blsearch3_124 : bldSh Tryz.prog 124 = some ([.pointer none, .int .i64 (0), .slice none 0 0, .int .i64 (0), .slice none 0 0], [(0, 1), (1, 1), (2, 1), (3, 1), (4, 1)]) := by kernel_rfl
theorem bosearch3_124 : fieldsOK Tryz.prog 124 = true := by kernel_rfl
theorem elsearch3_80 : elSh Tryz.prog 80 = some (201, 2, 16) := by kernel_rfl
theorem fdsearch3_124_3 : fldOf Tryz.prog 124 3 = some 3 := by kernel_rfl
theorem shsearch3_28 : tySh Tryz.prog 28 = some (true, 5) := by kernel_rfl
theorem shsearch3_3 : tySh Tryz.prog 3 = some (false, 1) := by kernel_rfl
theorem shsearch3_42 : tySh Tryz.prog 42 = some (false, 1) := by kernel_rfl
theorem zesearch3_3 : zer Tryz.prog 3 = some (.int .i64 (0)) := by kernel_rfl
theorem zesearch3_42 : zer Tryz.prog 42 = some (.int .i64 (0)) := by kernel_rfl
theorem search_Verify_1_nil {h : PH} {b0 b1 : Nat} (L : List HProp) : FnQ Tryz.prog 63 [.pointer (some ⟨b0, 0, none⟩), .pointer (some ⟨b1, 0, none⟩)] h L (fun _ L' => L' = L) := by
  refine FnQ.enter Tryz.func63 rfl Tryz.ntmps63 Tryz.results63 rfl rfl rfl ?_
  refine T.seq ?_
  refine T.region ?_
  refine T.v rfl (V.mv rfl) rfl ?_
  refine T.v rfl (V.neN Tryz.underlying20 rfl) rfl ?_
  refine T.nil ?_
  refine T.thN ?_
  refine T.condF rfl ?_
  refine T.skip ?_
  exact T.recN (Le.refl _) rfl
theorem search_Verify_ok {h:PH} {pc0:List Value} {p1:apiProblem} (pr0:VapiProblem h pc0 p1) {bound12:Int} {pv2:Value} {steps13:List apiStep} (pr2:Slc VapiStep 2 h pv2 steps13) {r_0:Int} {r_1:Int} (H:search_Verify p1 bound12 steps13 = some (r_0,r_1)):∀ L,FnS Tryz.prog 23 [.agg pc0.toArray,.int .i64 bound12,pv2] h (L) (fun v h' L'=>v = .tuple #[.int .i64 r_0,.int .i64 r_1]∧L' = L):=by
 intro L
 obtain ⟨d,e,f,g,i,rfl,u,w,x,y,A⟩:=pr0
 refine FnS.enterR Tryz.func23 rfl Tryz.ntmps23 rfl<|Sr<|To (O.boxF rfl rfl rfl fun ar B a C=>To (O.alloc zesearch3_3 rfl rfl fun D=>To (O.alloc zesearch3_42 rfl rfl fun E=>Nt<|Sr<|Vv (V.ldS rfl C (by exact shsearch3_28)) ?_)))
 have G:=Slc.mono VapiTable.mono u a
 have I:=Slc.mono VapiGuest.mono w a
 have J:=Slc.mono VapiTie.mono x a
 have K:=Slc.mono VI.mono y a
 have M:=Slc.mono VapiRule.mono A a
 obtain ⟨⟨N,au,m⟩,P,H⟩:=bnd H
 refine To (O.callS z (search_open_ok (show VapiProblem B [d,e,f,g,i] p1 from ⟨d,e,f,g,i,z,G,I,J,K,M⟩) P _) z fun aw ax ay S U=>?_)
 obtain ⟨W,rfl,X,n⟩:=U
 refine Sl_ _ X<|Mv z<|Vv (V.ext z z)<|Vv (V.ext z z)<|Vv (V.ext z z)<|Ag z<|Ag z<|To (O.stF (vs:=[.int .i64 m]) shsearch3_42 z z (j:=0) z z z z<|Nt<|Sq<|Sr<|Vv (V.ldO0 shsearch3_42 z (j:=0) z z)<|Vv (V.ne z z)<|Nt<|T.cH H z (fun H=>?_) (fun H=>?_))
 ·exact dead H
 refine T.skip<|Th<|Sq<|Sr<|Mv z<|have o:=(a.trans S); have p:=Slc.mono VapiStep.mono pr2 o; Vv (V.lenS elsearch3_80 z p)<|Vv (V.gt z z)<|Nt<|T.cH H z (fun H=>?_) (fun H=>?_)
 ·exact dead H
 refine T.skip<|Th<|Sr<|Vv (V.mkf z z)<|To (T.dfr z<|Nt<|Sr<|Mv z<|Mv z<|Mv z<|Mv z ?_)
 obtain ⟨Y,Z,H⟩:=bnd H
 refine To (O.callS z (hunt_nobody_ok n Z _) z fun aA aB aC b aa=>?_)
 obtain ⟨aD,ab,ac⟩:=aa
 refine Sl_ _ ab<|T.rowOne 0 z fun aE ad=>have c:=Slc.mono VapiStep.mono p b; have r:=Pt.mono Vsearchhunt.mono n b; Vv (V.bld (xs:=[(0,.tmp 24),(1,.tmp 25),(2,.tmp 26),(4,.tmp 28)]) (cs:=[_,_,_,_,_]) blsearch3_124 bosearch3_124 z (Fills.cons z (Pt.cells r) z (Fills.cons z z z (Fills.cons z (Slc.cells c) z (Fills.cons z ad z Fills.nil)))))<|To (O.box z z z fun ae=>Ag z<|Nt<|Sr<|Mv z ?_)
 obtain ⟨af,ag,H⟩:=bnd H
 rcases af with ai | aG
 rotate_left
 ·exact dead H
 refine To (O.callS z (FnE.toS (reader_node_ok _ (r1:=(searchreader.mk N bound12 steps13 (0:Int) Y)) r c ac ag _) fun _ _ _ q=>q) z fun aJ aK aM s aj=>?_)
 obtain ⟨t,ak,rfl,am,aN⟩:=aj
 refine Sl_ _ am<|Nt<|Sq<|Sr<|Mv z<|Vv (V.nck z)<|Vv (V.fa fdsearch3_124_3 z)<|Vv (V.ldO (k:=3) shsearch3_3 z (j:=0) z z)<|Mv z<|have an:=Slc.mono VapiStep.mono c s; Vv (V.lenS elsearch3_80 z an)<|Vv (V.lt z z)<|Nt<|T.cH H z (fun H=>?_) (fun H=>?_)
 ·exact dead H
 refine T.skip<|Th<|Sq<|T.norm [6,7] z<|Sl_ (blk ae (.cells [W,.int .i64 bound12,pv2,.int .i64 ai.1,t].toArray 124)::rowR 3 1 t ak::blk E (.cells [.int .i64 m].toArray 42)::blk D (.cells [.int .i64 (0:Int)].toArray 3)::L) z<|Rg<|To (O.stF (vs:=[.int .i64 (0:Int)]) shsearch3_3 z z (j:=3) z z z z<|T.fl ?_)
 refine To (O.stF (vs:=[.int .i64 (0:Int)]) shsearch3_42 z z (j:=3) z z z z<|T.fl ?_)
 refine Nt<|T.ret<|T.lrRet<|T.lvQ (search_Verify_1_nil _) fun aO aP ao ap=>Sl_ _ ap<|Fr_ 2 z<|T.fl ?_
 refine T.drop<|Fr_ 2 z<|T.fl ?_
 refine T.drop<|Fr_ 1 z ?_
 obtain ⟨rfl,rfl⟩:=inj2 H
 have aq:=(((o.trans b).trans s).trans ao)
 exact T.lvDone (L':=L) Tryz.results23 (RVs.cons (RV.cell shsearch3_3 z (j:=0) z z) (RVs.cons (RV.cell shsearch3_42 z (j:=1) z z) RVs.nil)) aq (fun _ iv=>iv.drop.drop) ⟨z,z⟩
end Go.Proofs.X
