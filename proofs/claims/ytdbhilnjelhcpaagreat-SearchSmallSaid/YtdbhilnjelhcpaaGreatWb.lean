import Derived.Test.YtdbhilnjelhcpaaGreatChecked
import Derived.KernelRfl
import Derived.Test.YtdbhilnjelhcpaaGreatV
import Derived.Test.YtdbhilnjelhcpaaGreatL9
import Derived.Test.YtdbhilnjelhcpaaGreatDa
import Derived.Test.YtdbhilnjelhcpaaGreatWa
/- The walks: each function computes what its Lean function says. -/
set_option maxRecDepth 1000000
set_option maxHeartbeats 40000000
set_option linter.unusedVariables false
set_option linter.unusedSimpArgs false
set_option linter.unnecessarySimpa false
open Go Go.Proofs Go.Sl Go.Dm
namespace Go.Proofs.X
theorem rule2mixed : Tryz.prog.follows .mixedOrders = true := by kernel_rfl
theorem blrule2_119 : bldSh Tryz.prog 119 = some ([.pointer none, .slice none 0 0, .slice none 0 0], [(0, 1), (1, 1), (2, 1)]) := by kernel_rfl
theorem blrule2_127 : bldSh Tryz.prog 127 = some ([.slice none 0 0, .slice none 0 0, .slice none 0 0, .slice none 0 0, .slice none 0 0, .map none, .slice none 0 0, .slice none 0 0, .slice none 0 0, .slice none 0 0, .slice none 0 0, .slice none 0 0, .slice none 0 0, .slice none 0 0], [(0, 5), (5, 1), (6, 1), (7, 1), (8, 1), (9, 1), (10, 1), (11, 1), (12, 1), (13, 1)]) := by kernel_rfl
theorem blrule2_145 : bldSh Tryz.prog 145 = some ([.slice none 0 0, .slice none 0 0], [(0, 1), (1, 1)]) := by kernel_rfl
theorem blrule2_163 : bldSh Tryz.prog 163 = some ([.string ⟨#[]⟩, .int .u8 (0), .bool false, .int .u8 (0), .bool false, .int .i64 (0), .bool false, .nilFunc], [(0, 1), (1, 1), (2, 1), (3, 1), (4, 1), (5, 1), (6, 1), (7, 1)]) := by kernel_rfl
theorem borule2_119 : fieldsOK Tryz.prog 119 = true := by kernel_rfl
theorem borule2_127 : fieldsOK Tryz.prog 127 = true := by kernel_rfl
theorem borule2_145 : fieldsOK Tryz.prog 145 = true := by kernel_rfl
theorem borule2_163 : fieldsOK Tryz.prog 163 = true := by kernel_rfl
theorem elrule2_122 : elSh Tryz.prog 122 = some (4, 1, 1) := by kernel_rfl
theorem elrule2_123 : elSh Tryz.prog 123 = some (139, 1, 8) := by kernel_rfl
theorem elrule2_124 : elSh Tryz.prog 124 = some (122, 1, 24) := by kernel_rfl
theorem elrule2_125 : elSh Tryz.prog 125 = some (146, 1, 24) := by kernel_rfl
theorem elrule2_146 : elSh Tryz.prog 146 = some (148, 1, 1) := by kernel_rfl
theorem elrule2_22 : elSh Tryz.prog 22 = some (9, 1, 16) := by kernel_rfl
theorem elrule2_24 : elSh Tryz.prog 24 = some (3, 1, 8) := by kernel_rfl
theorem elrule2_27 : elSh Tryz.prog 27 = some (26, 7, 80) := by kernel_rfl
theorem elrule2_28 : elSh Tryz.prog 28 = some (38, 9, 112) := by kernel_rfl
theorem elrule2_30 : elSh Tryz.prog 30 = some (41, 6, 72) := by kernel_rfl
theorem elrule2_87 : elSh Tryz.prog 87 = some (24, 1, 24) := by kernel_rfl
theorem fdrule2_119_0 : fldOf Tryz.prog 119 0 = some 0 := by kernel_rfl
theorem fdrule2_119_1 : fldOf Tryz.prog 119 1 = some 1 := by kernel_rfl
theorem fdrule2_119_2 : fldOf Tryz.prog 119 2 = some 2 := by kernel_rfl
theorem fdrule2_120_1 : fldOf Tryz.prog 120 1 = some 1 := by kernel_rfl
theorem fdrule2_120_4 : fldOf Tryz.prog 120 4 = some 4 := by kernel_rfl
theorem fdrule2_127_0 : fldOf Tryz.prog 127 0 = some 0 := by kernel_rfl
theorem fdrule2_127_1 : fldOf Tryz.prog 127 1 = some 5 := by kernel_rfl
theorem fdrule2_127_2 : fldOf Tryz.prog 127 2 = some 6 := by kernel_rfl
theorem fdrule2_127_3 : fldOf Tryz.prog 127 3 = some 7 := by kernel_rfl
theorem fdrule2_127_4 : fldOf Tryz.prog 127 4 = some 8 := by kernel_rfl
theorem fdrule2_127_5 : fldOf Tryz.prog 127 5 = some 9 := by kernel_rfl
theorem fdrule2_127_6 : fldOf Tryz.prog 127 6 = some 10 := by kernel_rfl
theorem fdrule2_127_7 : fldOf Tryz.prog 127 7 = some 11 := by kernel_rfl
theorem fdrule2_127_8 : fldOf Tryz.prog 127 8 = some 12 := by kernel_rfl
theorem fdrule2_127_9 : fldOf Tryz.prog 127 9 = some 13 := by kernel_rfl
theorem fdrule2_163_0 : fldOf Tryz.prog 163 0 = some 0 := by kernel_rfl
theorem fdrule2_163_1 : fldOf Tryz.prog 163 1 = some 1 := by kernel_rfl
theorem fdrule2_163_2 : fldOf Tryz.prog 163 2 = some 2 := by kernel_rfl
theorem fdrule2_163_3 : fldOf Tryz.prog 163 3 = some 3 := by kernel_rfl
theorem fdrule2_163_4 : fldOf Tryz.prog 163 4 = some 4 := by kernel_rfl
theorem fdrule2_163_5 : fldOf Tryz.prog 163 5 = some 5 := by kernel_rfl
theorem fdrule2_163_6 : fldOf Tryz.prog 163 6 = some 6 := by kernel_rfl
theorem fdrule2_32_0 : fldOf Tryz.prog 32 0 = some 0 := by kernel_rfl
theorem fdrule2_32_1 : fldOf Tryz.prog 32 1 = some 1 := by kernel_rfl
theorem fdrule2_32_2 : fldOf Tryz.prog 32 2 = some 2 := by kernel_rfl
theorem fdrule2_32_3 : fldOf Tryz.prog 32 3 = some 3 := by kernel_rfl
theorem fdrule2_32_4 : fldOf Tryz.prog 32 4 = some 4 := by kernel_rfl
theorem fdrule2_38_0 : fldOf Tryz.prog 38 0 = some 0 := by kernel_rfl
theorem fdrule2_38_6 : fldOf Tryz.prog 38 6 = some 6 := by kernel_rfl
theorem fdrule2_41_0 : fldOf Tryz.prog 41 0 = some 0 := by kernel_rfl
theorem fdrule2_41_1 : fldOf Tryz.prog 41 1 = some 1 := by kernel_rfl
theorem fdrule2_41_2 : fldOf Tryz.prog 41 2 = some 2 := by kernel_rfl
theorem fdrule2_41_3 : fldOf Tryz.prog 41 3 = some 3 := by kernel_rfl
theorem fdrule2_41_4 : fldOf Tryz.prog 41 4 = some 4 := by kernel_rfl
theorem fdrule2_41_5 : fldOf Tryz.prog 41 5 = some 5 := by kernel_rfl
theorem shrule2_120 : tySh Tryz.prog 120 = some (true, 5) := by kernel_rfl
theorem shrule2_121 : tySh Tryz.prog 121 = some (false, 1) := by kernel_rfl
theorem shrule2_122 : tySh Tryz.prog 122 = some (false, 1) := by kernel_rfl
theorem shrule2_123 : tySh Tryz.prog 123 = some (false, 1) := by kernel_rfl
theorem shrule2_124 : tySh Tryz.prog 124 = some (false, 1) := by kernel_rfl
theorem shrule2_125 : tySh Tryz.prog 125 = some (false, 1) := by kernel_rfl
theorem shrule2_161 : tySh Tryz.prog 161 = some (false, 1) := by kernel_rfl
theorem shrule2_163 : tySh Tryz.prog 163 = some (true, 8) := by kernel_rfl
theorem shrule2_24 : tySh Tryz.prog 24 = some (false, 1) := by kernel_rfl
theorem shrule2_27 : tySh Tryz.prog 27 = some (false, 1) := by kernel_rfl
theorem shrule2_28 : tySh Tryz.prog 28 = some (false, 1) := by kernel_rfl
theorem shrule2_29 : tySh Tryz.prog 29 = some (false, 1) := by kernel_rfl
theorem shrule2_3 : tySh Tryz.prog 3 = some (false, 1) := by kernel_rfl
theorem shrule2_30 : tySh Tryz.prog 30 = some (false, 1) := by kernel_rfl
theorem shrule2_32 : tySh Tryz.prog 32 = some (true, 5) := by kernel_rfl
theorem shrule2_38 : tySh Tryz.prog 38 = some (true, 9) := by kernel_rfl
theorem shrule2_39 : tySh Tryz.prog 39 = some (false, 1) := by kernel_rfl
theorem shrule2_4 : tySh Tryz.prog 4 = some (false, 1) := by kernel_rfl
theorem shrule2_41 : tySh Tryz.prog 41 = some (true, 6) := by kernel_rfl
theorem shrule2_5 : tySh Tryz.prog 5 = some (false, 1) := by kernel_rfl
theorem shrule2_57 : tySh Tryz.prog 57 = some (false, 1) := by kernel_rfl
theorem shrule2_87 : tySh Tryz.prog 87 = some (false, 1) := by kernel_rfl
theorem shrule2_9 : tySh Tryz.prog 9 = some (false, 1) := by kernel_rfl
theorem zerule2_122 : zer Tryz.prog 122 = some (.slice none 0 0) := by kernel_rfl
theorem zerule2_139 : zer Tryz.prog 139 = some (.map none) := by kernel_rfl
theorem zerule2_146 : zer Tryz.prog 146 = some (.slice none 0 0) := by kernel_rfl
theorem zerule2_148 : zer Tryz.prog 148 = some (.int .u8 (0)) := by kernel_rfl
theorem zerule2_163 : zer Tryz.prog 163 = some (.agg #[.string ⟨#[]⟩, .int .u8 (0), .bool false, .int .u8 (0), .bool false, .int .i64 (0), .bool false, .nilFunc]) := by kernel_rfl
theorem zerule2_24 : zer Tryz.prog 24 = some (.slice none 0 0) := by kernel_rfl
theorem zerule2_3 : zer Tryz.prog 3 = some (.int .i64 (0)) := by kernel_rfl
theorem zerule2_32 : zer Tryz.prog 32 = some (.agg #[.slice none 0 0, .slice none 0 0, .slice none 0 0, .slice none 0 0, .slice none 0 0]) := by kernel_rfl
theorem zerule2_38 : zer Tryz.prog 38 = some (.agg #[.string ⟨#[]⟩, .string ⟨#[]⟩, .string ⟨#[]⟩, .int .i64 (0), .int .i64 (0), .string ⟨#[]⟩, .bool false, .bool false, .slice none 0 0]) := by kernel_rfl
theorem zerule2_4 : zer Tryz.prog 4 = some (.bool false) := by kernel_rfl
theorem zerule2_41 : zer Tryz.prog 41 = some (.agg #[.int .u8 (0), .int .i64 (0), .string ⟨#[]⟩, .string ⟨#[]⟩, .string ⟨#[]⟩, .int .i64 (0)]) := by kernel_rfl
theorem flrule2_163_7 : fldV Tryz.prog 163 7 = some (7, 161) := by kernel_rfl
theorem rfE {c : Prop} [Decidable c] {α : Type} {a b r : α} {P : Prop} (H : (if c then a else b) = r) (x : c → a = r → P) (y : ¬c → b = r → P) : P := by
  by_cases h : c
  · rw [if_pos h] at H; exact x h H
  · rw [if_neg h] at H; exact y h H
theorem rule_find_call {σ : Type} {R : σ → PH → List HProp → Prop} {h : PH} {n : Nat} {pv1 : Value} {v : ruleview} (pr1 : Pt Vruleview h pv1 v) {pc2 : List Value} {r : apiRule} (pr2 : VapiRule h pc2 r) {pv3 : Value} {f : σ → Int → (List Int) → Option σ} (pr3 : CY203 R h pv3 f) {s0 : σ} {La : List HProp} (hRa : R s0 h La) {q_s : σ} (H : rule_find n v r f s0 = some q_s) :
    ∃ fid us vs, fnV n = .func (.func fid) us.toArray vs.toArray ∧ ∀ As L, FnS Tryz.prog fid (us ++ [pv1, .agg pc2.toArray, pv3] ++ vs) h (As ++ (La ++ L)) (fun v h' L' => ∃ La', v = .tuple #[] ∧ L' = (As ++ (La' ++ L)) ∧ R q_s h' La') := by
  unfold rule_find at H
  refine rfE H (fun e H => ?_) (fun _ H => ?_)
  · subst e; exact ⟨87, [], [], rfl, view_apart_ok pr1 pr2 pr3 hRa H⟩
  refine rfE H (fun e H => ?_) (fun _ H => ?_)
  · subst e; exact ⟨88, [], [], rfl, view_sideBySide_ok pr1 pr2 pr3 hRa H⟩
  refine rfE H (fun e H => ?_) (fun _ H => ?_)
  · subst e; exact ⟨89, [], [], rfl, view_faceToFace_ok pr1 pr2 pr3 hRa H⟩
  refine rfE H (fun e H => ?_) (fun _ H => ?_)
  · subst e; exact ⟨90, [], [], rfl, view_within_ok pr1 pr2 pr3 hRa H⟩
  refine rfE H (fun e H => ?_) (fun _ H => ?_)
  · subst e; exact ⟨91, [], [], rfl, view_together_ok pr1 pr2 pr3 hRa H⟩
  refine rfE H (fun e H => ?_) (fun _ H => ?_)
  · subst e; exact ⟨92, [], [], rfl, view_at_ok pr1 pr2 pr3 hRa H⟩
  refine rfE H (fun e H => ?_) (fun _ H => ?_)
  · subst e; exact ⟨93, [], [], rfl, view_seat_ok pr1 pr2 pr3 hRa H⟩
  refine rfE H (fun e H => ?_) (fun _ H => ?_)
  · subst e; exact ⟨94, [], [], rfl, view_alternate_ok pr1 pr2 pr3 hRa H⟩
  refine rfE H (fun e H => ?_) (fun _ H => ?_)
  · subst e; exact ⟨95, [], [], rfl, view_host_ok pr1 pr2 pr3 hRa H⟩
  refine rfE H (fun e H => ?_) (fun _ H => ?_)
  · subst e; exact ⟨96, [], [], rfl, view_reach_ok pr1 pr2 pr3 hRa H⟩
  refine rfE H (fun e H => ?_) (fun _ H => ?_)
  · subst e; exact ⟨97, [], [], rfl, view_speak_ok pr1 pr2 pr3 hRa H⟩
  refine rfE H (fun e H => ?_) (fun _ H => ?_)
  · subst e; exact ⟨98, [], [], rfl, view_peace_ok pr1 pr2 pr3 hRa H⟩
  refine rfE H (fun e H => ?_) (fun _ H => ?_)
  · subst e; exact ⟨99, [], [], rfl, view_company_ok pr1 pr2 pr3 hRa H⟩
  refine rfE H (fun e H => ?_) (fun _ H => ?_)
  · subst e; exact ⟨100, [], [], rfl, view_honour_ok pr1 pr2 pr3 hRa H⟩
  refine rfE H (fun e H => ?_) (fun _ H => ?_)
  · subst e; exact ⟨101, [], [], rfl, view_fill_ok pr1 pr2 pr3 hRa H⟩
  refine rfE H (fun e H => ?_) (fun _ H => ?_)
  · subst e; exact ⟨102, [], [], rfl, view_limit_ok pr1 pr2 pr3 hRa H⟩
  refine rfE H (fun e H => ?_) (fun _ H => ?_)
  · subst e; exact ⟨103, [], [], rfl, view_kitchen_ok pr1 pr2 pr3 hRa H⟩
  refine rfE H (fun e H => ?_) (fun _ H => ?_)
  · subst e; exact ⟨104, [], [], rfl, view_mix_ok pr1 pr2 pr3 hRa H⟩
  cases H
theorem view_faults_1_ok {h:PH} {k1:Int} {pv1:Value} {u2:List Int} (pr1:Slc (VI .i64) 1 h pv1 u2) {pb2:Nat} {t3:Int}  {q_2:Int} (H:view_faults_1 k1 u2 t3 = some q_2):∀ L,FnS Tryz.prog 126 [.int .i64 k1,pv1,.pointer (some ⟨pb2,0,none⟩)] h (blk pb2 (.cells [.int .i64 t3].toArray 3)::L) (fun v h' L'=>v = .tuple #[]∧L' = blk pb2 (.cells [.int .i64 q_2].toArray 3)::L):=by
 intro L
 refine FnS.enter Tryz.func126 z Tryz.ntmps126 z<|Rg<|Vv (V.ldO0 shrule2_3 z (j:=0) z z)<|Mv z ?_
 obtain ⟨a,b,H⟩:=bnd H
 refine Vv (V.addS z z b)<|To (O.stF (vs:=[.int .i64 a]) shrule2_3 z z (j:=0) z z z z<|Ni ?_)
 obtain rfl:=Option.some.inj H
 exact T.end0 Tryz.results126 Lr ⟨z,z⟩
theorem view_faults_ok {h:PH} {pv0:Value} {v1:ruleview} (pr0:Pt Vruleview h pv0 v1) {i2:Int} {r_0:Int} (H:view_faults v1 i2 = some r_0):∀ L,FnS Tryz.prog 74 [pv0,.int .i64 i2] h (L) (fun v h' L'=>v = .int .i64 r_0∧L' = L):=by
 intro L
 refine FnS.enter Tryz.func74 rfl Tryz.ntmps74 rfl<|Sr<|Ag z<|Nt<|Sr<|To (O.alloc zerule2_3 rfl rfl fun c=>To (O.stF (vs:=[.int .i64 (0:Int)]) shrule2_3 rfl rfl (j:=0) rfl rfl rfl rfl<|Nt<|Sq<|T.drawF (t:=(.v 0 (.v 1 (.v 2 (.v 3 (.v 4 (.v 5 (.v 6 (.v 7 (.v 8 (.v 9 (.v 10 (.v 11 (.v 12 (.v 13 (.v 14 (.v 15 (.v 16 (.v 17 (.v 18 (.v 19 (.v 20 (.v 21 (.v 22 (.v 23 (.v 24 (.v 25 (.v 26 (.v 27 (.v 28 (.v 29 (.v 30 (.v 31 (.v 32 (.v 33 (.alt 34 .done .no)))))))))))))))))))))))))))))))))))) 34 1 0 rfl rfl rule2mixed (by kernel_rfl) ?_))
 refine Tm z z<|have K:=pr0; ?_
 obtain ⟨aE,_,rfl,d,⟨aG,g,i,rfl,M,N,P⟩⟩:=K
 refine Tv z (V.nck z)<|Tv z (V.fa fdrule2_119_0 z)<|Tv z (V.ldf (k:=0) shrule2_57 z d z)<|have S:=M; ?_
 obtain ⟨m,_,rfl,f,⟨n,o,p,q,r,s,u,w,x,y,A,B,C,D,rfl,U,W,X,Y,b,E,Z,aa,ab,ac,ad,ae,af,ag⟩⟩:=S
 refine Tv z (V.nck z)<|Tv z (V.fa fdrule2_127_1 z)<|Tv z (V.ldf (k:=5) shrule2_121 z f z)<|Tm z z<|Tv z (V.nck z)<|Tv z (V.fa fdrule2_119_0 z)<|Tv z (V.ldf (k:=0) shrule2_57 z d z)<|Tv z (V.nck z)<|Tv z (V.fa fdrule2_127_0 z)<|Tv z (V.fa fdrule2_120_4 z)<|Tv z (V.ldf (k:=4) shrule2_30 z f z)<|Tm z z ?_
 obtain ⟨aI,G,H⟩:=bnd H
 obtain ⟨aJ,ai,rfl⟩:=Slc.at b G
 refine Tv z (V.ix elrule2_30 z z b (getI_bd G))<|Tv z (V.fa fdrule2_41_0 z)<|Tv z (V.ldf (k:=0) shrule2_39 z ai z) ?_
 obtain ⟨⟨aK,aM⟩,aj,H⟩:=bnd H
 obtain ⟨_,ak,rfl⟩:=Mp.look (zc:=[.string (⟨#[]⟩:ByteArray),.int .u8 (0:Int),.bool false,.int .u8 (0:Int),.bool false,.int .i64 (0:Int),.bool false,(fnV (0:Nat))]) (agg:=true) Tryz.underlying121 (KeyOK.int Tryz.underlying39) zerule2_163 (show Vrulekind h [.string (⟨#[]⟩:ByteArray),.int .u8 (0:Int),.bool false,.int .u8 (0:Int),.bool false,.int .i64 (0:Int),.bool false,(fnV (0:Nat))] (rulekind.mk (⟨#[]⟩:ByteArray) (0:Int) false (0:Int) false (0:Int) false (0:Nat)) from rfl) E aj
 refine Tv z (V.lkF1 z z ak)<|Tv z (V.fld flrule2_163_7 shrule2_161 z z)<|Tm z z<|Tm z z<|Tv z (V.nck z)<|Tv z (V.fa fdrule2_119_0 z)<|Tv z (V.ldf (k:=0) shrule2_57 z d z)<|Tv z (V.nck z)<|Tv z (V.fa fdrule2_127_0 z)<|Tv z (V.fa fdrule2_120_4 z)<|Tv z (V.ldf (k:=4) shrule2_30 z f z)<|Tm z z ?_
 obtain ⟨a,I,H⟩:=bnd H
 obtain ⟨aN,am,rfl⟩:=Slc.at b I
 refine Tv z (V.ix elrule2_30 rfl rfl b (getI_bd I))<|Tv z (V.ldS rfl am (by exact shrule2_41)) ?_
 refine Tv z (V.mkf z z) ?_
 obtain ⟨an,ao,H⟩:=bnd H
 obtain ⟨aO,aP,aS,ap,aq⟩:=rule_find_call (Pt.mk d (show Vruleview h [.pointer (some m),g,i] v1 from ⟨(.pointer (some m)),g,i,rfl,(Pt.mk f (show VruleJudge h [n,o,p,q,r,s,u,w,x,y,A,B,C,D] v1.fJudge from ⟨n,o,p,q,r,s,u,w,x,y,A,B,C,D,rfl,U,W,X,Y,b,E,Z,aa,ab,ac,ad,ae,af,ag⟩)),N,P⟩)) (show VapiRule h [.int .u8 a.fKind,.int .i64 a.fWeight,.string a.fA,.string a.fB,.string a.fTable,.int .i64 a.fN] a from rfl) (show CY203 (fun x_ _ La_=>La_ = [blk c (.cells [.int .i64 x_].toArray 3)]) h (.func (.func 126) #[] #[.pointer (some ⟨c,0,none⟩)]) (fun s_ ar au=>view_faults_1 ar au s_) from ⟨⟨rfl,rfl⟩,fun _ _ _ _ _ e=>e,fun aU aV=>fun aw=>fun ax ay aA aB=>by subst ax; exact Yld.one (us:=[]) (cs:=[.pointer (some ⟨c,0,none⟩)]) (view_faults_1_ok aw ay) aA aB⟩) rfl ao
 refine Tp z z (SX.two (XA.fr [] Lr z) (XA.fr [0] Lr z)) (O.callfW z ap z (aq ([]:List HProp) _) z fun aW aX aY J aC=>?_) T.tno
 obtain ⟨aZ,rfl,aD,rfl⟩:=aC
 refine Sl_ _ aD<|T.tnil (SX.one (XA.fr [] J z) z)<|Th<|Sq<|T.norm [5] z<|Sl_ (blk c (.cells [.int .i64 an].toArray 3)::L) z<|Rg<|Vv (V.ldO0 shrule2_3 z (j:=0) z z)<|Ag z<|Nt<|T.ret<|T.drop ?_
 obtain rfl:=Option.some.inj H
 exact T.retL Tryz.results74 (Rv z) J ⟨z,z⟩
theorem view_least_ok {h:PH} {pv0:Value} {v1:ruleview} (pr0:Pt Vruleview h pv0 v1) {i2:Int} {r_0:Int} (H:view_least v1 i2 = some r_0):∀ L,FnS Tryz.prog 52 [pv0,.int .i64 i2] h (L) (fun v h' L'=>v = .int .i64 r_0∧L' = L):=by
 intro L
 refine FnS.enter Tryz.func52 z Tryz.ntmps52 z<|Sr<|Ag z<|Nt<|Sr<|Mv z<|Mv z ?_
 obtain ⟨ak,x,H⟩:=bnd H
 refine To (O.callS z (view_faults_ok pr0 x _) z fun am an ao g y=>?_)
 obtain ⟨rfl,A⟩:=y
 refine Sl_ _ A<|Ag z<|Nt<|Sr<|Ag z<|Ag z<|Nt<|Sq<|Sr<|Mv z<|have B:=Pt.mono Vruleview.mono pr0 g; have C:=B; ?_
 obtain ⟨ap,_,rfl,i,⟨aq,ar,au,rfl,m,n,aw⟩⟩:=C
 refine Vv (V.nck z)<|Vv (V.fa fdrule2_119_1 z)<|Vv (V.ldf (k:=1) shrule2_24 z i z)<|Vv (V.lenS elrule2_24 z n)<|Mv z<|Nt ?_
 obtain ⟨o,D,E⟩:=bndK H
 refine T.cutK (α:=Int) [0,1,5] z (fun e=>[(6,.int .i64 e)]) (fun e=>L) (fun e hh=>o = e) ?_ ?_
 ·have H:=D
  refine Bl<|T.loopK (α:=Nat×Int×Int) [0,1,5,16,17] z (fun ⟨b,c,a⟩=>[(18,.int .i64 c),(6,.int .i64 a)]) (fun ⟨b,c,a⟩=>L) (fun ⟨b,c,a⟩ hh=>iter (view_least_l0 v1) b (c,a) = some o) (fun ⟨b,c,a⟩=>b) (FUEL,(0:Int),(0:Int)) ⟨z,z,trivial⟩ z H ?_
  rintro ⟨b,c,a⟩ ax d G
  obtain ⟨p,ay,rfl,H,j⟩:=iter_go G
  refine T.norm [18,6,0,1,5,16,17] z<|Sl_ (L) z<|Sr<|Vv (V.lt z z)<|Nt<|Sq<|T.cH H z (fun H=>?_) (fun H=>?_)
  ·refine T.skip<|Th<|Sq<|Bl<|Sr<|Mv z ?_
   obtain ⟨aA,q,H⟩:=bnd H
   have r:=Slc.mono VI.mono n d
   obtain ⟨aB,I,rfl⟩:=Slc.at r q
   refine Vv (V.ix elrule2_24 z z r (getI_bd q))<|Vv (V.ld0 shrule2_3 z I z)<|Ag z<|Ag z<|Nt<|Sr<|Mv z<|Vv (V.lt z z)<|Nt<|T.cH H z (fun H=>?_) (fun H=>?_)
   ·refine Sr<|Mv z ?_
    obtain ⟨J,K,H⟩:=bnd H
    refine Vv (V.addS z z K)<|Ag z<|Nt<|Sr<|Mv z<|Vv (V.nck z)<|Vv (V.fa fdrule2_119_0 z)<|have M:=i.mono d; Vv (V.ldf (k:=0) shrule2_57 z M z)<|have N:=Pt.mono VruleJudge.mono m d; have P:=N; ?_
    obtain ⟨aC,_,rfl,S,⟨aD,aE,aG,aI,aJ,aK,aM,aN,aO,aP,aS,aU,aV,aW,rfl,aX,s,aY,aZ,a0,a1,a2,a3,a4,a5,a6,a7,a8,a9⟩⟩:=P
    refine Vv (V.nck z)<|Vv (V.fa fdrule2_127_0 z)<|Vv (V.fa fdrule2_120_1 z)<|Vv (V.ldf (k:=1) shrule2_28 z S z)<|Mv z ?_
    obtain ⟨ah,t,H⟩:=bnd H
    obtain ⟨al,U,⟨av,rfl,az⟩⟩:=Slc.at s t
    refine Vv (V.ix elrule2_28 z z s (getI_bd t))<|Vv (V.fa fdrule2_38_6 z)<|Vv (V.ldf (k:=6) shrule2_4 z U z)<|Nt<|T.cH H z (fun H=>?_) (fun H=>?_)
    ·exact dead H
    refine T.skip<|Bn<|Th<|Rg ?_
    obtain ⟨W,X,H⟩:=bnd H
    refine Vv (V.addS z z X)<|Mv z<|Nt<|T.again (p,W,J) d (Nat.lt_succ_self _) (iterK_in H j) (AllIn.app ⟨z,z,trivial⟩ ⟨z,z,z,z,z,trivial⟩) z
   refine T.skip<|Bn<|Th<|Rg ?_
   obtain ⟨Y,Z,H⟩:=bnd H
   refine Vv (V.addS z z Z)<|Mv z<|Nt<|T.again (p,Y,a) d (Nat.lt_succ_self _) (iterK_in H j) (AllIn.app ⟨z,z,trivial⟩ ⟨z,z,z,z,z,trivial⟩) z
  refine T.exit<|Te<|Te<|have H:=iterK_out H j; Be<|Th<|T.met a d H (AllIn.app ⟨z,trivial⟩ ⟨z,z,z,trivial⟩) z
 rintro e ba f aa
 have H:=cutE aa E
 refine T.norm [6,0,1,5] z<|Sl_ (L) z<|Sq<|Sr<|Mv z<|Vv (V.nck z)<|Vv (V.fa fdrule2_119_0 z)<|have ab:=i.mono f; Vv (V.ldf (k:=0) shrule2_57 z ab z)<|have ac:=Pt.mono VruleJudge.mono m f; have ad:=ac; ?_
 obtain ⟨bb,_,rfl,ae,⟨bc,bd,be,bf,bg,bi,bj,bk,bm,bn,bo,bp,bq,br,rfl,bs,bt,bu,bw,u,bx,bA,bB,bC,bD,bE,bG,bI,bJ⟩⟩:=ad
 refine Vv (V.nck z)<|Vv (V.fa fdrule2_127_0 z)<|Vv (V.fa fdrule2_120_4 z)<|Vv (V.ldf (k:=4) shrule2_30 z ae z)<|Mv z ?_
 obtain ⟨bK,w,H⟩:=bnd H
 obtain ⟨bM,af,rfl⟩:=Slc.at u w
 refine Vv (V.ix elrule2_30 z z u (getI_bd w))<|Vv (V.fa fdrule2_41_0 z)<|Vv (V.ldf (k:=0) shrule2_39 z af z)<|Nt<|Bl<|Sr<|Vv (V.eq z z)<|Ag z<|Nt<|T.cH H z (fun H=>?_) (fun H=>?_)
 ·exact dead H
 refine Sr<|Vv (V.eq z z)<|Ag z<|Nt<|T.cH H z (fun H=>?_) (fun H=>?_)
 ·refine Rg<|Mv z<|Mv z ?_
  obtain ⟨bN,ag,H⟩:=bnd H
  refine Vv (V.subS z z ag)<|Ag z<|Ni<|Bn<|Th<|Sr<|Mv z<|Vv (V.max2 z z)<|Ag z<|Nt<|T.ret ?_
  obtain rfl:=Option.some.inj H
  have ai:=(g.trans f)
  exact T.retL Tryz.results52 (Rv z) ai ⟨z,z⟩
 refine Sr<|Vv (V.eq z z)<|Ag z<|Nt<|T.cH H z (fun H=>?_) (fun H=>?_)
 ·exact dead H
 refine T.skip<|Bn<|Th<|Sr<|Mv z<|Vv (V.max2 z z)<|Ag z<|Nt<|T.ret ?_
 obtain rfl:=Option.some.inj H
 have aj:=(g.trans f)
 exact T.retL Tryz.results52 (Rv z) aj ⟨z,z⟩
theorem rule_kinds_ok {h:PH}  {r_0:List (Int×rulekind)} (H:rule_kinds  = some r_0):∀ L,FnS Tryz.prog 56 [] h (L) (fun v h' L'=>L' = L∧Mp (Value.int .u8) true Vrulekind h' v r_0):=by
 intro L
 refine FnS.enter Tryz.func56 z Tryz.ntmps56 z<|Sr<|Ag z<|Nt<|Sr<|To (O.mkM z fun ab=>have w:MapG (Value.int .u8) true Vrulekind h 0 ([]:List MapEntry) ([]:List (Int×rulekind)):=trivial; Vv (V.bld (xs:=[(0,.const (.string ⟨#[97,112,97,114,116]⟩)),(1,.const (.int .u8 (103))),(2,.const (.bool true)),(4,.const (.bool true)),(7,.func 87)]) (cs:=[_,_,_,_,_,_,_,_]) blrule2_163 borule2_163 z (Fills.cons z z z (Fills.cons z z z (Fills.cons z z z (Fills.cons z z z (Fills.cons z z z Fills.nil)))))) ?_)
 obtain ⟨ac,x,H⟩:=bnd H
 refine To (O.updM (agg:=true) (E:=Vrulekind) (cs:=[.string (⟨#[97,112,97,114,116]⟩:ByteArray),.int .u8 (103:Int),.bool true,.int .u8 (0:Int),.bool true,.int .i64 (0:Int),.bool false,(fnV (88:Nat))]) Tryz.underlying121 (KeyOK.int Tryz.underlying39) z z z (j:=0) z w (show Vrulekind h [.string (⟨#[97,112,97,114,116]⟩:ByteArray),.int .u8 (103:Int),.bool true,.int .u8 (0:Int),.bool true,.int .i64 (0:Int),.bool false,(fnV (88:Nat))] (rulekind.mk (⟨#[97,112,97,114,116]⟩:ByteArray) (103:Int) true (0:Int) true (0:Int) false (88:Nat)) from z) _ (.inr z) fun ad a=>?_)
 rw [Option.some.inj x] at a
 refine Vv (V.bld (xs:=[(0,.const (.string ⟨#[98,101,115,105,100,101]⟩)),(1,.const (.int .u8 (103))),(2,.const (.bool true)),(7,.func 88)]) (cs:=[_,_,_,_,_,_,_,_]) blrule2_163 borule2_163 z (Fills.cons z z z (Fills.cons z z z (Fills.cons z z z (Fills.cons z z z Fills.nil))))) ?_
 obtain ⟨ae,y,H⟩:=bnd H
 refine To (O.updM (agg:=true) (E:=Vrulekind) (cs:=[.string (⟨#[98,101,115,105,100,101]⟩:ByteArray),.int .u8 (103:Int),.bool true,.int .u8 (0:Int),.bool false,.int .i64 (0:Int),.bool false,(fnV (89:Nat))]) Tryz.underlying121 (KeyOK.int Tryz.underlying39) z z z (j:=0) z a (show Vrulekind h [.string (⟨#[98,101,115,105,100,101]⟩:ByteArray),.int .u8 (103:Int),.bool true,.int .u8 (0:Int),.bool false,.int .i64 (0:Int),.bool false,(fnV (89:Nat))] (rulekind.mk (⟨#[98,101,115,105,100,101]⟩:ByteArray) (103:Int) true (0:Int) false (0:Int) false (89:Nat)) from z) _ (.inr z) fun af b=>?_)
 rw [Option.some.inj y] at b
 refine Vv (V.bld (xs:=[(0,.const (.string ⟨#[97,99,114,111,115,115]⟩)),(1,.const (.int .u8 (103))),(2,.const (.bool true)),(7,.func 89)]) (cs:=[_,_,_,_,_,_,_,_]) blrule2_163 borule2_163 z (Fills.cons z z z (Fills.cons z z z (Fills.cons z z z (Fills.cons z z z Fills.nil))))) ?_
 obtain ⟨ag,A,H⟩:=bnd H
 refine To (O.updM (agg:=true) (E:=Vrulekind) (cs:=[.string (⟨#[97,99,114,111,115,115]⟩:ByteArray),.int .u8 (103:Int),.bool true,.int .u8 (0:Int),.bool false,.int .i64 (0:Int),.bool false,(fnV (90:Nat))]) Tryz.underlying121 (KeyOK.int Tryz.underlying39) z z z (j:=0) z b (show Vrulekind h [.string (⟨#[97,99,114,111,115,115]⟩:ByteArray),.int .u8 (103:Int),.bool true,.int .u8 (0:Int),.bool false,.int .i64 (0:Int),.bool false,(fnV (90:Nat))] (rulekind.mk (⟨#[97,99,114,111,115,115]⟩:ByteArray) (103:Int) true (0:Int) false (0:Int) false (90:Nat)) from z) _ (.inr z) fun ai c=>?_)
 rw [Option.some.inj A] at c
 refine Vv (V.bld (xs:=[(0,.const (.string ⟨#[110,101,97,114]⟩)),(1,.const (.int .u8 (103))),(2,.const (.bool true)),(4,.const (.bool true)),(5,.const (.int .i64 (1))),(7,.func 90)]) (cs:=[_,_,_,_,_,_,_,_]) blrule2_163 borule2_163 z (Fills.cons z z z (Fills.cons z z z (Fills.cons z z z (Fills.cons z z z (Fills.cons z z z (Fills.cons z z z Fills.nil))))))) ?_
 obtain ⟨aj,B,H⟩:=bnd H
 refine To (O.updM (agg:=true) (E:=Vrulekind) (cs:=[.string (⟨#[110,101,97,114]⟩:ByteArray),.int .u8 (103:Int),.bool true,.int .u8 (0:Int),.bool true,.int .i64 (1:Int),.bool false,(fnV (91:Nat))]) Tryz.underlying121 (KeyOK.int Tryz.underlying39) z z z (j:=0) z c (show Vrulekind h [.string (⟨#[110,101,97,114]⟩:ByteArray),.int .u8 (103:Int),.bool true,.int .u8 (0:Int),.bool true,.int .i64 (1:Int),.bool false,(fnV (91:Nat))] (rulekind.mk (⟨#[110,101,97,114]⟩:ByteArray) (103:Int) true (0:Int) true (1:Int) false (91:Nat)) from z) _ (.inr z) fun ak d=>?_)
 rw [Option.some.inj B] at d
 refine Vv (V.bld (xs:=[(0,.const (.string ⟨#[116,111,103,101,116,104,101,114]⟩)),(1,.const (.int .u8 (103))),(2,.const (.bool true)),(7,.func 91)]) (cs:=[_,_,_,_,_,_,_,_]) blrule2_163 borule2_163 z (Fills.cons z z z (Fills.cons z z z (Fills.cons z z z (Fills.cons z z z Fills.nil))))) ?_
 obtain ⟨am,C,H⟩:=bnd H
 refine To (O.updM (agg:=true) (E:=Vrulekind) (cs:=[.string (⟨#[116,111,103,101,116,104,101,114]⟩:ByteArray),.int .u8 (103:Int),.bool true,.int .u8 (0:Int),.bool false,.int .i64 (0:Int),.bool false,(fnV (92:Nat))]) Tryz.underlying121 (KeyOK.int Tryz.underlying39) z z z (j:=0) z d (show Vrulekind h [.string (⟨#[116,111,103,101,116,104,101,114]⟩:ByteArray),.int .u8 (103:Int),.bool true,.int .u8 (0:Int),.bool false,.int .i64 (0:Int),.bool false,(fnV (92:Nat))] (rulekind.mk (⟨#[116,111,103,101,116,104,101,114]⟩:ByteArray) (103:Int) true (0:Int) false (0:Int) false (92:Nat)) from z) _ (.inr z) fun an e=>?_)
 rw [Option.some.inj C] at e
 refine Vv (V.bld (xs:=[(0,.const (.string ⟨#[97,116]⟩)),(1,.const (.int .u8 (103))),(3,.const (.int .u8 (116))),(7,.func 92)]) (cs:=[_,_,_,_,_,_,_,_]) blrule2_163 borule2_163 z (Fills.cons z z z (Fills.cons z z z (Fills.cons z z z (Fills.cons z z z Fills.nil))))) ?_
 obtain ⟨ao,D,H⟩:=bnd H
 refine To (O.updM (agg:=true) (E:=Vrulekind) (cs:=[.string (⟨#[97,116]⟩:ByteArray),.int .u8 (103:Int),.bool false,.int .u8 (116:Int),.bool false,.int .i64 (0:Int),.bool false,(fnV (93:Nat))]) Tryz.underlying121 (KeyOK.int Tryz.underlying39) z z z (j:=0) z e (show Vrulekind h [.string (⟨#[97,116]⟩:ByteArray),.int .u8 (103:Int),.bool false,.int .u8 (116:Int),.bool false,.int .i64 (0:Int),.bool false,(fnV (93:Nat))] (rulekind.mk (⟨#[97,116]⟩:ByteArray) (103:Int) false (116:Int) false (0:Int) false (93:Nat)) from z) _ (.inr z) fun ap f=>?_)
 rw [Option.some.inj D] at f
 refine Vv (V.bld (xs:=[(0,.const (.string ⟨#[115,101,97,116]⟩)),(1,.const (.int .u8 (103))),(3,.const (.int .u8 (116))),(4,.const (.bool true)),(6,.const (.bool true)),(7,.func 93)]) (cs:=[_,_,_,_,_,_,_,_]) blrule2_163 borule2_163 z (Fills.cons z z z (Fills.cons z z z (Fills.cons z z z (Fills.cons z z z (Fills.cons z z z (Fills.cons z z z Fills.nil))))))) ?_
 obtain ⟨aq,G,H⟩:=bnd H
 refine To (O.updM (agg:=true) (E:=Vrulekind) (cs:=[.string (⟨#[115,101,97,116]⟩:ByteArray),.int .u8 (103:Int),.bool false,.int .u8 (116:Int),.bool true,.int .i64 (0:Int),.bool true,(fnV (94:Nat))]) Tryz.underlying121 (KeyOK.int Tryz.underlying39) z z z (j:=0) z f (show Vrulekind h [.string (⟨#[115,101,97,116]⟩:ByteArray),.int .u8 (103:Int),.bool false,.int .u8 (116:Int),.bool true,.int .i64 (0:Int),.bool true,(fnV (94:Nat))] (rulekind.mk (⟨#[115,101,97,116]⟩:ByteArray) (103:Int) false (116:Int) true (0:Int) true (94:Nat)) from z) _ (.inr z) fun ar g=>?_)
 rw [Option.some.inj G] at g
 refine Vv (V.bld (xs:=[(0,.const (.string ⟨#[97,108,116,101,114,110,97,116,101]⟩)),(3,.const (.int .u8 (101))),(7,.func 94)]) (cs:=[_,_,_,_,_,_,_,_]) blrule2_163 borule2_163 z (Fills.cons z z z (Fills.cons z z z (Fills.cons z z z Fills.nil)))) ?_
 obtain ⟨au,I,H⟩:=bnd H
 refine To (O.updM (agg:=true) (E:=Vrulekind) (cs:=[.string (⟨#[97,108,116,101,114,110,97,116,101]⟩:ByteArray),.int .u8 (0:Int),.bool false,.int .u8 (101:Int),.bool false,.int .i64 (0:Int),.bool false,(fnV (95:Nat))]) Tryz.underlying121 (KeyOK.int Tryz.underlying39) z z z (j:=0) z g (show Vrulekind h [.string (⟨#[97,108,116,101,114,110,97,116,101]⟩:ByteArray),.int .u8 (0:Int),.bool false,.int .u8 (101:Int),.bool false,.int .i64 (0:Int),.bool false,(fnV (95:Nat))] (rulekind.mk (⟨#[97,108,116,101,114,110,97,116,101]⟩:ByteArray) (0:Int) false (101:Int) false (0:Int) false (95:Nat)) from z) _ (.inr z) fun aw i=>?_)
 rw [Option.some.inj I] at i
 refine Vv (V.bld (xs:=[(0,.const (.string ⟨#[104,111,115,116]⟩)),(3,.const (.int .u8 (101))),(7,.func 95)]) (cs:=[_,_,_,_,_,_,_,_]) blrule2_163 borule2_163 z (Fills.cons z z z (Fills.cons z z z (Fills.cons z z z Fills.nil)))) ?_
 obtain ⟨ax,J,H⟩:=bnd H
 refine To (O.updM (agg:=true) (E:=Vrulekind) (cs:=[.string (⟨#[104,111,115,116]⟩:ByteArray),.int .u8 (0:Int),.bool false,.int .u8 (101:Int),.bool false,.int .i64 (0:Int),.bool false,(fnV (96:Nat))]) Tryz.underlying121 (KeyOK.int Tryz.underlying39) z z z (j:=0) z i (show Vrulekind h [.string (⟨#[104,111,115,116]⟩:ByteArray),.int .u8 (0:Int),.bool false,.int .u8 (101:Int),.bool false,.int .i64 (0:Int),.bool false,(fnV (96:Nat))] (rulekind.mk (⟨#[104,111,115,116]⟩:ByteArray) (0:Int) false (101:Int) false (0:Int) false (96:Nat)) from z) _ (.inr z) fun ay k=>?_)
 rw [Option.some.inj J] at k
 refine Vv (V.bld (xs:=[(0,.const (.string ⟨#[114,101,97,99,104]⟩)),(1,.const (.int .u8 (101))),(7,.func 96)]) (cs:=[_,_,_,_,_,_,_,_]) blrule2_163 borule2_163 z (Fills.cons z z z (Fills.cons z z z (Fills.cons z z z Fills.nil)))) ?_
 obtain ⟨aA,K,H⟩:=bnd H
 refine To (O.updM (agg:=true) (E:=Vrulekind) (cs:=[.string (⟨#[114,101,97,99,104]⟩:ByteArray),.int .u8 (101:Int),.bool false,.int .u8 (0:Int),.bool false,.int .i64 (0:Int),.bool false,(fnV (97:Nat))]) Tryz.underlying121 (KeyOK.int Tryz.underlying39) z z z (j:=0) z k (show Vrulekind h [.string (⟨#[114,101,97,99,104]⟩:ByteArray),.int .u8 (101:Int),.bool false,.int .u8 (0:Int),.bool false,.int .i64 (0:Int),.bool false,(fnV (97:Nat))] (rulekind.mk (⟨#[114,101,97,99,104]⟩:ByteArray) (101:Int) false (0:Int) false (0:Int) false (97:Nat)) from z) _ (.inr z) fun aB m=>?_)
 rw [Option.some.inj K] at m
 refine Vv (V.bld (xs:=[(0,.const (.string ⟨#[115,112,101,97,107]⟩)),(3,.const (.int .u8 (101))),(7,.func 97)]) (cs:=[_,_,_,_,_,_,_,_]) blrule2_163 borule2_163 z (Fills.cons z z z (Fills.cons z z z (Fills.cons z z z Fills.nil)))) ?_
 obtain ⟨aC,M,H⟩:=bnd H
 refine To (O.updM (agg:=true) (E:=Vrulekind) (cs:=[.string (⟨#[115,112,101,97,107]⟩:ByteArray),.int .u8 (0:Int),.bool false,.int .u8 (101:Int),.bool false,.int .i64 (0:Int),.bool false,(fnV (98:Nat))]) Tryz.underlying121 (KeyOK.int Tryz.underlying39) z z z (j:=0) z m (show Vrulekind h [.string (⟨#[115,112,101,97,107]⟩:ByteArray),.int .u8 (0:Int),.bool false,.int .u8 (101:Int),.bool false,.int .i64 (0:Int),.bool false,(fnV (98:Nat))] (rulekind.mk (⟨#[115,112,101,97,107]⟩:ByteArray) (0:Int) false (101:Int) false (0:Int) false (98:Nat)) from z) _ (.inr z) fun aD n=>?_)
 rw [Option.some.inj M] at n
 refine Vv (V.bld (xs:=[(0,.const (.string ⟨#[112,101,97,99,101]⟩)),(3,.const (.int .u8 (101))),(7,.func 98)]) (cs:=[_,_,_,_,_,_,_,_]) blrule2_163 borule2_163 z (Fills.cons z z z (Fills.cons z z z (Fills.cons z z z Fills.nil)))) ?_
 obtain ⟨aE,N,H⟩:=bnd H
 refine To (O.updM (agg:=true) (E:=Vrulekind) (cs:=[.string (⟨#[112,101,97,99,101]⟩:ByteArray),.int .u8 (0:Int),.bool false,.int .u8 (101:Int),.bool false,.int .i64 (0:Int),.bool false,(fnV (99:Nat))]) Tryz.underlying121 (KeyOK.int Tryz.underlying39) z z z (j:=0) z n (show Vrulekind h [.string (⟨#[112,101,97,99,101]⟩:ByteArray),.int .u8 (0:Int),.bool false,.int .u8 (101:Int),.bool false,.int .i64 (0:Int),.bool false,(fnV (99:Nat))] (rulekind.mk (⟨#[112,101,97,99,101]⟩:ByteArray) (0:Int) false (101:Int) false (0:Int) false (99:Nat)) from z) _ (.inr z) fun aG o=>?_)
 rw [Option.some.inj N] at o
 refine Vv (V.bld (xs:=[(0,.const (.string ⟨#[99,111,109,112,97,110,121]⟩)),(3,.const (.int .u8 (101))),(7,.func 99)]) (cs:=[_,_,_,_,_,_,_,_]) blrule2_163 borule2_163 z (Fills.cons z z z (Fills.cons z z z (Fills.cons z z z Fills.nil)))) ?_
 obtain ⟨aI,P,H⟩:=bnd H
 refine To (O.updM (agg:=true) (E:=Vrulekind) (cs:=[.string (⟨#[99,111,109,112,97,110,121]⟩:ByteArray),.int .u8 (0:Int),.bool false,.int .u8 (101:Int),.bool false,.int .i64 (0:Int),.bool false,(fnV (100:Nat))]) Tryz.underlying121 (KeyOK.int Tryz.underlying39) z z z (j:=0) z o (show Vrulekind h [.string (⟨#[99,111,109,112,97,110,121]⟩:ByteArray),.int .u8 (0:Int),.bool false,.int .u8 (101:Int),.bool false,.int .i64 (0:Int),.bool false,(fnV (100:Nat))] (rulekind.mk (⟨#[99,111,109,112,97,110,121]⟩:ByteArray) (0:Int) false (101:Int) false (0:Int) false (100:Nat)) from z) _ (.inr z) fun aJ p=>?_)
 rw [Option.some.inj P] at p
 refine Vv (V.bld (xs:=[(0,.const (.string ⟨#[104,111,110,111,117,114]⟩)),(3,.const (.int .u8 (101))),(7,.func 100)]) (cs:=[_,_,_,_,_,_,_,_]) blrule2_163 borule2_163 z (Fills.cons z z z (Fills.cons z z z (Fills.cons z z z Fills.nil)))) ?_
 obtain ⟨aK,S,H⟩:=bnd H
 refine To (O.updM (agg:=true) (E:=Vrulekind) (cs:=[.string (⟨#[104,111,110,111,117,114]⟩:ByteArray),.int .u8 (0:Int),.bool false,.int .u8 (101:Int),.bool false,.int .i64 (0:Int),.bool false,(fnV (101:Nat))]) Tryz.underlying121 (KeyOK.int Tryz.underlying39) z z z (j:=0) z p (show Vrulekind h [.string (⟨#[104,111,110,111,117,114]⟩:ByteArray),.int .u8 (0:Int),.bool false,.int .u8 (101:Int),.bool false,.int .i64 (0:Int),.bool false,(fnV (101:Nat))] (rulekind.mk (⟨#[104,111,110,111,117,114]⟩:ByteArray) (0:Int) false (101:Int) false (0:Int) false (101:Nat)) from z) _ (.inr z) fun aM q=>?_)
 rw [Option.some.inj S] at q
 refine Vv (V.bld (xs:=[(0,.const (.string ⟨#[102,105,108,108]⟩)),(3,.const (.int .u8 (101))),(4,.const (.bool true)),(7,.func 101)]) (cs:=[_,_,_,_,_,_,_,_]) blrule2_163 borule2_163 z (Fills.cons z z z (Fills.cons z z z (Fills.cons z z z (Fills.cons z z z Fills.nil))))) ?_
 obtain ⟨aN,U,H⟩:=bnd H
 refine To (O.updM (agg:=true) (E:=Vrulekind) (cs:=[.string (⟨#[102,105,108,108]⟩:ByteArray),.int .u8 (0:Int),.bool false,.int .u8 (101:Int),.bool true,.int .i64 (0:Int),.bool false,(fnV (102:Nat))]) Tryz.underlying121 (KeyOK.int Tryz.underlying39) z z z (j:=0) z q (show Vrulekind h [.string (⟨#[102,105,108,108]⟩:ByteArray),.int .u8 (0:Int),.bool false,.int .u8 (101:Int),.bool true,.int .i64 (0:Int),.bool false,(fnV (102:Nat))] (rulekind.mk (⟨#[102,105,108,108]⟩:ByteArray) (0:Int) false (101:Int) true (0:Int) false (102:Nat)) from z) _ (.inr z) fun aO r=>?_)
 rw [Option.some.inj U] at r
 refine Vv (V.bld (xs:=[(0,.const (.string ⟨#[108,105,109,105,116]⟩)),(3,.const (.int .u8 (101))),(4,.const (.bool true)),(7,.func 102)]) (cs:=[_,_,_,_,_,_,_,_]) blrule2_163 borule2_163 z (Fills.cons z z z (Fills.cons z z z (Fills.cons z z z (Fills.cons z z z Fills.nil))))) ?_
 obtain ⟨aP,W,H⟩:=bnd H
 refine To (O.updM (agg:=true) (E:=Vrulekind) (cs:=[.string (⟨#[108,105,109,105,116]⟩:ByteArray),.int .u8 (0:Int),.bool false,.int .u8 (101:Int),.bool true,.int .i64 (0:Int),.bool false,(fnV (103:Nat))]) Tryz.underlying121 (KeyOK.int Tryz.underlying39) z z z (j:=0) z r (show Vrulekind h [.string (⟨#[108,105,109,105,116]⟩:ByteArray),.int .u8 (0:Int),.bool false,.int .u8 (101:Int),.bool true,.int .i64 (0:Int),.bool false,(fnV (103:Nat))] (rulekind.mk (⟨#[108,105,109,105,116]⟩:ByteArray) (0:Int) false (101:Int) true (0:Int) false (103:Nat)) from z) _ (.inr z) fun aS s=>?_)
 rw [Option.some.inj W] at s
 refine Vv (V.bld (xs:=[(0,.const (.string ⟨#[107,105,116,99,104,101,110]⟩)),(1,.const (.int .u8 (100))),(3,.const (.int .u8 (116))),(7,.func 103)]) (cs:=[_,_,_,_,_,_,_,_]) blrule2_163 borule2_163 z (Fills.cons z z z (Fills.cons z z z (Fills.cons z z z (Fills.cons z z z Fills.nil))))) ?_
 obtain ⟨aU,X,H⟩:=bnd H
 refine To (O.updM (agg:=true) (E:=Vrulekind) (cs:=[.string (⟨#[107,105,116,99,104,101,110]⟩:ByteArray),.int .u8 (100:Int),.bool false,.int .u8 (116:Int),.bool false,.int .i64 (0:Int),.bool false,(fnV (104:Nat))]) Tryz.underlying121 (KeyOK.int Tryz.underlying39) z z z (j:=0) z s (show Vrulekind h [.string (⟨#[107,105,116,99,104,101,110]⟩:ByteArray),.int .u8 (100:Int),.bool false,.int .u8 (116:Int),.bool false,.int .i64 (0:Int),.bool false,(fnV (104:Nat))] (rulekind.mk (⟨#[107,105,116,99,104,101,110]⟩:ByteArray) (100:Int) false (116:Int) false (0:Int) false (104:Nat)) from z) _ (.inr z) fun aV t=>?_)
 rw [Option.some.inj X] at t
 refine Vv (V.bld (xs:=[(0,.const (.string ⟨#[109,105,120]⟩)),(3,.const (.int .u8 (101))),(7,.func 104)]) (cs:=[_,_,_,_,_,_,_,_]) blrule2_163 borule2_163 z (Fills.cons z z z (Fills.cons z z z (Fills.cons z z z Fills.nil)))) ?_
 obtain ⟨aW,Y,H⟩:=bnd H
 refine To (O.updM (agg:=true) (E:=Vrulekind) (cs:=[.string (⟨#[109,105,120]⟩:ByteArray),.int .u8 (0:Int),.bool false,.int .u8 (101:Int),.bool false,.int .i64 (0:Int),.bool false,(fnV (105:Nat))]) Tryz.underlying121 (KeyOK.int Tryz.underlying39) z z z (j:=0) z t (show Vrulekind h [.string (⟨#[109,105,120]⟩:ByteArray),.int .u8 (0:Int),.bool false,.int .u8 (101:Int),.bool false,.int .i64 (0:Int),.bool false,(fnV (105:Nat))] (rulekind.mk (⟨#[109,105,120]⟩:ByteArray) (0:Int) false (101:Int) false (0:Int) false (105:Nat)) from z) _ (.inr z) fun aX u=>?_)
 rw [Option.some.inj Y] at u
 refine Mv z<|Ag z<|Nt<|T.ret<|T.mapFix Vrulekind.mono u fun aY Z aa=>?_
 obtain rfl:=Option.some.inj H
 exact T.retL Tryz.results56 (Rv z) Z ⟨z,aa⟩
theorem kind_plain_ok {h:PH} {pc0:List Value} {k1:rulekind} (pr0:Vrulekind h pc0 k1) {pc1:List Value} {r2:apiRule} (pr1:VapiRule h pc1 r2) {r_0:Bool} (H:kind_plain k1 r2 = some r_0):∀ L,FnS Tryz.prog 140 [.agg pc0.toArray,.agg pc1.toArray] h (L) (fun v h' L'=>v = .bool r_0∧L' = L):=by
 intro L
 obtain rfl:=pr0
 obtain rfl:=pr1
 refine FnS.enter Tryz.func140 z Tryz.ntmps140 z<|Sr<|To (O.boxF z z z fun A B b e=>To (O.boxF z z z fun C D a c=>Ag z<|Nt<|Sr<|Vv (V.fa fdrule2_163_1 z)<|have d:=e.mono a; Vv (V.ldf (k:=1) shrule2_5 z d z)<|Vv (V.ne z z)<|Mv z<|T.bH 8 H z (fun H=>?_) (fun H=>?_)))
 ·refine Sk<|Sk<|Sk<|Vv (V.pkT z z)<|Mv z<|Vv (V.fa fdrule2_163_2 z)<|Vv (V.ldf (k:=2) shrule2_4 z d z)<|Mv z<|T.bH 16 H z (fun H=>?_) (fun H=>?_)
  ·refine Sk<|Sk<|Sk<|Vv (V.pkT z z)<|Vv (V.pkT z z)<|Mv z<|Vv (V.fa fdrule2_163_3 z)<|Vv (V.ldf (k:=3) shrule2_5 z d z)<|Vv (V.ne z z)<|Mv z<|T.bH 26 H z (fun H=>?_) (fun H=>?_)
   ·refine Sk<|Sk<|Sk<|Vv (V.pkT z z)<|Vv (V.pkT z z)<|Mv z<|Vv (V.fa fdrule2_163_4 z)<|Vv (V.ldf (k:=4) shrule2_4 z d z)<|Mv z<|T.bH 35 H z (fun H=>?_) (fun H=>?_)
    ·refine Sk<|Sk<|Sk<|Vv (V.pkT z z)<|Vv (V.pkT z z)<|Ag z<|Nt<|T.ret ?_
     obtain rfl:=Option.some.inj H
     have f:=(b.trans a)
     exact T.retL Tryz.results140 (Rv z) f ⟨z,z⟩
    refine Vv (V.fa fdrule2_41_5 z)<|Vv (V.ldf (k:=5) shrule2_3 z c z)<|Vv (V.eq z z)<|Vv (V.pkF z z)<|Vv (V.pkT z z)<|Ag z<|Nt<|T.ret ?_
    obtain rfl:=Option.some.inj H
    have g:=(b.trans a)
    exact T.retL Tryz.results140 (Rv z) g ⟨z,z⟩
   refine Vv (V.fa fdrule2_41_4 z)<|Vv (V.ldf (k:=4) shrule2_9 z c z)<|Vv (V.seq z z)<|Vv (V.pkF z z)<|Vv (V.pkT z z)<|Mv z<|T.bH 32 H z (fun H=>?_) (fun H=>?_)
   ·refine Vv (V.fa fdrule2_163_4 z)<|Vv (V.ldf (k:=4) shrule2_4 z d z)<|Mv z<|T.bH 35 H z (fun H=>?_) (fun H=>?_)
    ·refine Sk<|Sk<|Sk<|Vv (V.pkT z z)<|Vv (V.pkT z z)<|Ag z<|Nt<|T.ret ?_
     obtain rfl:=Option.some.inj H
     have i:=(b.trans a)
     exact T.retL Tryz.results140 (Rv z) i ⟨z,z⟩
    refine Vv (V.fa fdrule2_41_5 z)<|Vv (V.ldf (k:=5) shrule2_3 z c z)<|Vv (V.eq z z)<|Vv (V.pkF z z)<|Vv (V.pkT z z)<|Ag z<|Nt<|T.ret ?_
    obtain rfl:=Option.some.inj H
    have j:=(b.trans a)
    exact T.retL Tryz.results140 (Rv z) j ⟨z,z⟩
   exact dead H
  refine Vv (V.fa fdrule2_41_3 z)<|Vv (V.ldf (k:=3) shrule2_9 z c z)<|Vv (V.seq z z)<|Vv (V.pkF z z)<|Vv (V.pkT z z)<|Mv z<|T.bH 22 H z (fun H=>?_) (fun H=>?_)
  ·refine Vv (V.fa fdrule2_163_3 z)<|Vv (V.ldf (k:=3) shrule2_5 z d z)<|Vv (V.ne z z)<|Mv z<|T.bH 26 H z (fun H=>?_) (fun H=>?_)
   ·refine Sk<|Sk<|Sk<|Vv (V.pkT z z)<|Vv (V.pkT z z)<|Mv z<|Vv (V.fa fdrule2_163_4 z)<|Vv (V.ldf (k:=4) shrule2_4 z d z)<|Mv z<|T.bH 35 H z (fun H=>?_) (fun H=>?_)
    ·refine Sk<|Sk<|Sk<|Vv (V.pkT z z)<|Vv (V.pkT z z)<|Ag z<|Nt<|T.ret ?_
     obtain rfl:=Option.some.inj H
     have m:=(b.trans a)
     exact T.retL Tryz.results140 (Rv z) m ⟨z,z⟩
    refine Vv (V.fa fdrule2_41_5 z)<|Vv (V.ldf (k:=5) shrule2_3 z c z)<|Vv (V.eq z z)<|Vv (V.pkF z z)<|Vv (V.pkT z z)<|Ag z<|Nt<|T.ret ?_
    obtain rfl:=Option.some.inj H
    have n:=(b.trans a)
    exact T.retL Tryz.results140 (Rv z) n ⟨z,z⟩
   refine Vv (V.fa fdrule2_41_4 z)<|Vv (V.ldf (k:=4) shrule2_9 z c z)<|Vv (V.seq z z)<|Vv (V.pkF z z)<|Vv (V.pkT z z)<|Mv z<|T.bH 32 H z (fun H=>?_) (fun H=>?_)
   ·refine Vv (V.fa fdrule2_163_4 z)<|Vv (V.ldf (k:=4) shrule2_4 z d z)<|Mv z<|T.bH 35 H z (fun H=>?_) (fun H=>?_)
    ·refine Sk<|Sk<|Sk<|Vv (V.pkT z z)<|Vv (V.pkT z z)<|Ag z<|Nt<|T.ret ?_
     obtain rfl:=Option.some.inj H
     have o:=(b.trans a)
     exact T.retL Tryz.results140 (Rv z) o ⟨z,z⟩
    refine Vv (V.fa fdrule2_41_5 z)<|Vv (V.ldf (k:=5) shrule2_3 z c z)<|Vv (V.eq z z)<|Vv (V.pkF z z)<|Vv (V.pkT z z)<|Ag z<|Nt<|T.ret ?_
    obtain rfl:=Option.some.inj H
    have p:=(b.trans a)
    exact T.retL Tryz.results140 (Rv z) p ⟨z,z⟩
   exact dead H
  exact dead H
 refine Vv (V.fa fdrule2_41_2 z)<|Vv (V.ldf (k:=2) shrule2_9 z c z)<|Vv (V.seq z z)<|Vv (V.pkF z z)<|Mv z<|T.bH 13 H z (fun H=>?_) (fun H=>?_)
 ·refine Vv (V.fa fdrule2_163_2 z)<|Vv (V.ldf (k:=2) shrule2_4 z d z)<|Mv z<|T.bH 16 H z (fun H=>?_) (fun H=>?_)
  ·refine Sk<|Sk<|Sk<|Vv (V.pkT z z)<|Vv (V.pkT z z)<|Mv z<|Vv (V.fa fdrule2_163_3 z)<|Vv (V.ldf (k:=3) shrule2_5 z d z)<|Vv (V.ne z z)<|Mv z<|T.bH 26 H z (fun H=>?_) (fun H=>?_)
   ·refine Sk<|Sk<|Sk<|Vv (V.pkT z z)<|Vv (V.pkT z z)<|Mv z<|Vv (V.fa fdrule2_163_4 z)<|Vv (V.ldf (k:=4) shrule2_4 z d z)<|Mv z<|T.bH 35 H z (fun H=>?_) (fun H=>?_)
    ·refine Sk<|Sk<|Sk<|Vv (V.pkT z z)<|Vv (V.pkT z z)<|Ag z<|Nt<|T.ret ?_
     obtain rfl:=Option.some.inj H
     have q:=(b.trans a)
     exact T.retL Tryz.results140 (Rv z) q ⟨z,z⟩
    refine Vv (V.fa fdrule2_41_5 z)<|Vv (V.ldf (k:=5) shrule2_3 z c z)<|Vv (V.eq z z)<|Vv (V.pkF z z)<|Vv (V.pkT z z)<|Ag z<|Nt<|T.ret ?_
    obtain rfl:=Option.some.inj H
    have r:=(b.trans a)
    exact T.retL Tryz.results140 (Rv z) r ⟨z,z⟩
   refine Vv (V.fa fdrule2_41_4 z)<|Vv (V.ldf (k:=4) shrule2_9 z c z)<|Vv (V.seq z z)<|Vv (V.pkF z z)<|Vv (V.pkT z z)<|Mv z<|T.bH 32 H z (fun H=>?_) (fun H=>?_)
   ·refine Vv (V.fa fdrule2_163_4 z)<|Vv (V.ldf (k:=4) shrule2_4 z d z)<|Mv z<|T.bH 35 H z (fun H=>?_) (fun H=>?_)
    ·refine Sk<|Sk<|Sk<|Vv (V.pkT z z)<|Vv (V.pkT z z)<|Ag z<|Nt<|T.ret ?_
     obtain rfl:=Option.some.inj H
     have s:=(b.trans a)
     exact T.retL Tryz.results140 (Rv z) s ⟨z,z⟩
    refine Vv (V.fa fdrule2_41_5 z)<|Vv (V.ldf (k:=5) shrule2_3 z c z)<|Vv (V.eq z z)<|Vv (V.pkF z z)<|Vv (V.pkT z z)<|Ag z<|Nt<|T.ret ?_
    obtain rfl:=Option.some.inj H
    have t:=(b.trans a)
    exact T.retL Tryz.results140 (Rv z) t ⟨z,z⟩
   exact dead H
  refine Vv (V.fa fdrule2_41_3 z)<|Vv (V.ldf (k:=3) shrule2_9 z c z)<|Vv (V.seq z z)<|Vv (V.pkF z z)<|Vv (V.pkT z z)<|Mv z<|T.bH 22 H z (fun H=>?_) (fun H=>?_)
  ·refine Vv (V.fa fdrule2_163_3 z)<|Vv (V.ldf (k:=3) shrule2_5 z d z)<|Vv (V.ne z z)<|Mv z<|T.bH 26 H z (fun H=>?_) (fun H=>?_)
   ·refine Sk<|Sk<|Sk<|Vv (V.pkT z z)<|Vv (V.pkT z z)<|Mv z<|Vv (V.fa fdrule2_163_4 z)<|Vv (V.ldf (k:=4) shrule2_4 z d z)<|Mv z<|T.bH 35 H z (fun H=>?_) (fun H=>?_)
    ·refine Sk<|Sk<|Sk<|Vv (V.pkT z z)<|Vv (V.pkT z z)<|Ag z<|Nt<|T.ret ?_
     obtain rfl:=Option.some.inj H
     have u:=(b.trans a)
     exact T.retL Tryz.results140 (Rv z) u ⟨z,z⟩
    refine Vv (V.fa fdrule2_41_5 z)<|Vv (V.ldf (k:=5) shrule2_3 z c z)<|Vv (V.eq z z)<|Vv (V.pkF z z)<|Vv (V.pkT z z)<|Ag z<|Nt<|T.ret ?_
    obtain rfl:=Option.some.inj H
    have w:=(b.trans a)
    exact T.retL Tryz.results140 (Rv z) w ⟨z,z⟩
   refine Vv (V.fa fdrule2_41_4 z)<|Vv (V.ldf (k:=4) shrule2_9 z c z)<|Vv (V.seq z z)<|Vv (V.pkF z z)<|Vv (V.pkT z z)<|Mv z<|T.bH 32 H z (fun H=>?_) (fun H=>?_)
   ·refine Vv (V.fa fdrule2_163_4 z)<|Vv (V.ldf (k:=4) shrule2_4 z d z)<|Mv z<|T.bH 35 H z (fun H=>?_) (fun H=>?_)
    ·refine Sk<|Sk<|Sk<|Vv (V.pkT z z)<|Vv (V.pkT z z)<|Ag z<|Nt<|T.ret ?_
     obtain rfl:=Option.some.inj H
     have x:=(b.trans a)
     exact T.retL Tryz.results140 (Rv z) x ⟨z,z⟩
    refine Vv (V.fa fdrule2_41_5 z)<|Vv (V.ldf (k:=5) shrule2_3 z c z)<|Vv (V.eq z z)<|Vv (V.pkF z z)<|Vv (V.pkT z z)<|Ag z<|Nt<|T.ret ?_
    obtain rfl:=Option.some.inj H
    have y:=(b.trans a)
    exact T.retL Tryz.results140 (Rv z) y ⟨z,z⟩
   exact dead H
  exact dead H
 exact dead H
theorem kind_check_ok {h:PH} {pc0:List Value} {k1:rulekind} (pr0:Vrulekind h pc0 k1) {pc1:List Value} {p2:apiProblem} (pr1:VapiProblem h pc1 p2) {pc2:List Value} {r13:apiRule} (pr2:VapiRule h pc2 r13) {r_0:Int} (H:kind_check k1 p2 r13 = some r_0):∀ L,FnS Tryz.prog 81 [.agg pc0.toArray,.agg pc1.toArray,.agg pc2.toArray] h (L) (fun v h' L'=>v = .int .i64 r_0∧L' = L):=by
 intro L
 obtain rfl:=pr0
 obtain ⟨q,r,s,t,u,rfl,C,M,N,P,S⟩:=pr1
 obtain rfl:=pr2
 refine FnS.enter Tryz.func81 z Tryz.ntmps81 z<|Sr<|To (O.boxF z z z fun bk bm D Z=>To (O.boxF z z z fun bn bo w E=>To (O.boxF z z z fun bp U b c=>Ag z<|Nt<|Sq<|Bl<|Sr<|Vv (V.fa fdrule2_163_0 z)<|have aa:=(w.trans b); have x:=Z.mono aa; Vv (V.ldf (k:=0) shrule2_9 z x z)<|Vv (V.seq z z)<|Ag z<|Nt<|T.cH H z (fun H=>?_) (fun H=>?_))))
 ·exact dead H
 refine Sr<|Vv (V.fa fdrule2_41_1 z)<|Vv (V.ldf (k:=1) shrule2_3 z c z)<|Vv (V.lt z z)<|Mv z<|T.bH 18 H z (fun H=>?_) (fun H=>?_)
 ·exact dead H
 refine Vv (V.fa fdrule2_41_1 z)<|Vv (V.ldf (k:=1) shrule2_3 z c z)<|Vv (V.gt z z)<|Vv (V.pkF z z)<|Ag z<|Nt<|T.cH H z (fun H=>?_) (fun H=>?_)
 ·exact dead H
 refine Sr<|Vv (V.ldS rfl x (by exact shrule2_163)) ?_
 refine Vv (V.ldS rfl c (by exact shrule2_41)) ?_
 obtain ⟨bq,ab,H⟩:=bnd H
 refine To (O.callS z (kind_plain_ok (show Vrulekind U [.string k1.fword,.int .u8 k1.fa,.bool k1.fb,.int .u8 k1.ft,.bool k1.fn,.int .i64 k1.flo,.bool k1.fseat,(fnV k1.ffind)] k1 from z) (show VapiRule U [.int .u8 r13.fKind,.int .i64 r13.fWeight,.string r13.fA,.string r13.fB,.string r13.fTable,.int .i64 r13.fN] r13 from z) ab _) z fun br ac bs a ad=>?_)
 obtain ⟨rfl,ae⟩:=ad
 refine Sl_ _ ae<|Vv (V.not z)<|Ag z<|Nt<|T.cH H z (fun H=>?_) (fun H=>?_)
 ·exact dead H
 refine Sq<|Sq ?_
 obtain ⟨af,ag,ai⟩:=bndK H
 refine T.cutK (α:=Bool) [3,4,5] z (fun e=>[(28,.bool e)]) (fun e=>L) (fun e hh=>af = e) ?_ ?_
 ·have H:=ag
  refine Rg<|Vv (V.fa fdrule2_163_1 z)<|have aj:=x.mono a; Vv (V.ldf (k:=1) shrule2_5 z aj z)<|Vv (V.eq z z)<|Mv z<|T.bH 32 H z (fun H=>?_) (fun H=>?_)
  ·have ak:=(b.trans a)
   have am:=E.mono ak
   refine Vv (V.ldS rfl am (by exact shrule2_32)) ?_
   refine Vv (V.fa fdrule2_41_2 z)<|have an:=c.mono a; Vv (V.ldf (k:=2) shrule2_9 z an z)<|have f:=(((D.trans w).trans b).trans a); have ao:=Slc.mono VapiTable.mono C f; have ap:=Slc.mono VapiGuest.mono M f; have aq:=Slc.mono VapiTie.mono N f; have ar:=Slc.mono VI.mono P f; have au:=Slc.mono VapiRule.mono S f; ?_
   obtain ⟨aw,ax,H⟩:=bnd H
   refine To (O.callS z (rule_who_ok (show VapiProblem ac [q,r,s,t,u] p2 from ⟨q,r,s,t,u,z,ao,ap,aq,ar,au⟩) ax _) z fun bt bu bw ay aA=>?_)
   obtain ⟨rfl,aB⟩:=aA
   refine Sl_ _ aB<|Vv (V.lt z z)<|Vv (V.pkT z z)<|Ag z<|Nt<|T.met (decide (aw < (0:Int))) ay (sinj H) (AllIn.app ⟨z,trivial⟩ ⟨z,z,z,trivial⟩) z
  refine Sk<|Sk<|Sk<|Sk<|Sk<|Vv (V.pkF z z)<|Ag z<|Nt<|T.met false Lr (sinj H) (AllIn.app ⟨z,trivial⟩ ⟨z,z,z,trivial⟩) z
 rintro e aC g aD
 have H:=cutE aD ai
 refine T.norm [28,3,4,5] z<|Sl_ (L) z<|T.cH H z (fun H=>?_) (fun H=>?_)
 ·exact dead H
 refine Sr<|Vv (V.fa fdrule2_163_1 z)<|have y:=(a.trans g); have G:=x.mono y; Vv (V.ldf (k:=1) shrule2_5 z G z)<|Vv (V.eq z z)<|Mv z<|T.bH 42 H z (fun H=>?_) (fun H=>?_)
 ·exact dead H
 refine Sk<|Sk<|Sk<|Vv (V.pkF z z)<|Mv z<|Sk<|Sk<|Sk<|Sk<|Sk<|Vv (V.pkF z z)<|Ag z<|Nt<|Cf z ?_
 obtain ⟨aE,aG,aI⟩:=bndK H
 refine T.cutK (α:=Bool) [3,4,5] z (fun i=>[(28,.bool i)]) (fun i=>L) (fun i hh=>aE = i) ?_ ?_
 ·have H:=aG
  refine Rg<|Vv (V.fa fdrule2_163_2 z)<|Vv (V.ldf (k:=2) shrule2_4 z G z)<|Mv z<|T.bH 56 H z (fun H=>?_) (fun H=>?_)
  ·have aJ:=((b.trans a).trans g)
   have aK:=E.mono aJ
   refine Vv (V.ldS rfl aK (by exact shrule2_32)) ?_
   refine Vv (V.fa fdrule2_41_3 z)<|have aM:=c.mono y; Vv (V.ldf (k:=3) shrule2_9 z aM z)<|have j:=((((D.trans w).trans b).trans a).trans g); have aN:=Slc.mono VapiTable.mono C j; have aO:=Slc.mono VapiGuest.mono M j; have aP:=Slc.mono VapiTie.mono N j; have aS:=Slc.mono VI.mono P j; have aU:=Slc.mono VapiRule.mono S j; ?_
   obtain ⟨aV,aW,H⟩:=bnd H
   refine To (O.callS z (rule_who_ok (show VapiProblem aC [q,r,s,t,u] p2 from ⟨q,r,s,t,u,z,aN,aO,aP,aS,aU⟩) aW _) z fun bx bA bB aX aY=>?_)
   obtain ⟨rfl,aZ⟩:=aY
   refine Sl_ _ aZ<|Vv (V.lt z z)<|Vv (V.pkT z z)<|Ag z<|Nt<|T.met (decide (aV < (0:Int))) aX (sinj H) (AllIn.app ⟨z,trivial⟩ ⟨z,z,z,trivial⟩) z
  refine Sk<|Sk<|Sk<|Sk<|Sk<|Vv (V.pkF z z)<|Ag z<|Nt<|T.met false Lr (sinj H) (AllIn.app ⟨z,trivial⟩ ⟨z,z,z,trivial⟩) z
 rintro i bC m a0
 have H:=cutE a0 aI
 refine T.norm [28,3,4,5] z<|Sl_ (L) z<|T.cH H z (fun H=>?_) (fun H=>?_)
 ·exact dead H
 refine Sr<|Vv (V.fa fdrule2_163_1 z)<|have A:=G.mono m; Vv (V.ldf (k:=1) shrule2_5 z A z)<|Vv (V.eq z z)<|Mv z<|T.bH 67 H z (fun H=>?_) (fun H=>?_)
 ·exact dead H
 refine Sk<|Sk<|Sk<|Sk<|Vv (V.pkF z z)<|Ag z<|Nt<|Cf z<|Sq ?_
 obtain ⟨a1,a2,a3⟩:=bndK H
 refine T.cutK (α:=Bool) [3,4,5] z (fun n=>[(73,.bool n)]) (fun n=>L) (fun n hh=>a1 = n) ?_ ?_
 ·have H:=a2
  refine Rg<|Vv (V.fa fdrule2_163_2 z)<|Vv (V.ldf (k:=2) shrule2_4 z A z)<|Mv z<|T.bH 76 H z (fun H=>?_) (fun H=>?_)
  ·refine Vv (V.fa fdrule2_41_2 z)<|have a4:=(y.trans m); have W:=c.mono a4; Vv (V.ldf (k:=2) shrule2_9 z W z)<|Vv (V.fa fdrule2_41_3 z)<|Vv (V.ldf (k:=3) shrule2_9 z W z)<|Vv (V.seq z z)<|Vv (V.pkT z z)<|Ag z<|Nt<|T.met (decide (r13.fA = r13.fB)) Lr (sinj H) (AllIn.app ⟨z,trivial⟩ ⟨z,z,z,trivial⟩) z
  refine Sk<|Sk<|Sk<|Sk<|Sk<|Vv (V.pkF z z)<|Ag z<|Nt<|T.met false Lr (sinj H) (AllIn.app ⟨z,trivial⟩ ⟨z,z,z,trivial⟩) z
 rintro n bD o a5
 have H:=cutE a5 a3
 refine T.norm [73,3,4,5] z<|Sl_ (L) z<|T.cH H z (fun H=>?_) (fun H=>?_)
 ·exact dead H
 refine T.skip<|Bn<|Th<|Sr<|Vv (V.fa fdrule2_32_0 z)<|have a6:=((((b.trans a).trans g).trans m).trans o); have a7:=E.mono a6; Vv (V.ldf (k:=0) shrule2_27 z a7 z)<|Vv (V.fa fdrule2_41_4 z)<|have a8:=((y.trans m).trans o); have I:=c.mono a8; Vv (V.ldf (k:=4) shrule2_9 z I z)<|have J:=((((((D.trans w).trans b).trans a).trans g).trans m).trans o); have a9:=Slc.mono VapiTable.mono C J; ?_
 obtain ⟨⟨bE,bG⟩,ah,H⟩:=bnd H
 refine To (O.callS z (hall_Find_ok a9 ah _) z fun bI bJ bK d al=>?_)
 obtain ⟨rfl,av⟩:=al
 refine Sl_ _ av<|Mv z<|Vv (V.ext z z)<|Vv (V.ext z z)<|Ag z<|Ag z<|Nt<|Sq<|Sq ?_
 obtain ⟨az,ba,bb⟩:=bndK H
 refine T.cutK (α:=Bool) [3,5] z (fun p=>[(111,.bool p)]) (fun p=>L) (fun p hh=>az = p) ?_ ?_
 ·have H:=ba
  refine Rg<|Vv (V.fa fdrule2_163_3 z)<|have bc:=(o.trans d); have X:=A.mono bc; Vv (V.ldf (k:=3) shrule2_5 z X z)<|Vv (V.eq z z)<|Mv z<|T.bH 94 H z (fun H=>?_) (fun H=>?_)
  ·exact dead H
  refine Sk<|Sk<|Vv (V.pkF z z)<|Mv z<|Vv (V.fa fdrule2_163_3 z)<|Vv (V.ldf (k:=3) shrule2_5 z X z)<|Vv (V.eq z z)<|Mv z<|T.bH 102 H z (fun H=>?_) (fun H=>?_)
  ·refine Vv (V.fa fdrule2_41_4 z)<|have bd:=I.mono d; Vv (V.ldf (k:=4) shrule2_9 z bd z)<|Vv (V.sne z z)<|Vv (V.pkT z z)<|Mv z<|T.bH 107 H z (fun H=>?_) (fun H=>?_)
   ·exact dead H
   refine Sk<|Sk<|Vv (V.pkF z z)<|Vv (V.pkF z z)<|Nt<|T.met false Lr (sinj H) (AllIn.app ⟨z,trivial⟩ ⟨z,z,trivial⟩) z
  refine Sk<|Sk<|Sk<|Vv (V.pkF z z)<|Mv z<|Sk<|Sk<|Vv (V.pkF z z)<|Vv (V.pkF z z)<|Nt<|T.met false Lr (sinj H) (AllIn.app ⟨z,trivial⟩ ⟨z,z,trivial⟩) z
 rintro p bM B be
 have H:=cutE be bb
 refine T.norm [111,3,5] z<|Sl_ (L) z<|T.cH H z (fun H=>?_) (fun H=>?_)
 ·exact dead H
 refine T.skip<|Th<|Sr<|Ag z<|Nt<|Sq<|Sr<|Vv (V.fa fdrule2_163_6 z)<|have bf:=((o.trans d).trans B); have K:=A.mono bf; Vv (V.ldf (k:=6) shrule2_4 z K z)<|Nt<|T.cH H z (fun H=>?_) (fun H=>?_)
 ·exact dead H
 refine T.skip<|Th<|Sq<|Sr<|Vv (V.fa fdrule2_163_4 z)<|Vv (V.ldf (k:=4) shrule2_4 z K z)<|Mv z<|T.bH 124 H z (fun H=>?_) (fun H=>?_)
 ·refine Vv (V.fa fdrule2_41_5 z)<|have bg:=(d.trans B); have Y:=I.mono bg; Vv (V.ldf (k:=5) shrule2_3 z Y z)<|Vv (V.fa fdrule2_163_5 z)<|Vv (V.ldf (k:=5) shrule2_3 z K z)<|Vv (V.lt z z)<|Mv z<|T.bH 130 H z (fun H=>?_) (fun H=>?_)
  ·exact dead H
  refine Vv (V.fa fdrule2_41_5 z)<|Vv (V.ldf (k:=5) shrule2_3 z Y z)<|Mv z<|Vv (V.gt z z)<|Vv (V.pkF z z)<|Vv (V.pkT z z)<|Nt<|T.cH H z (fun H=>?_) (fun H=>?_)
  ·exact dead H
  refine T.skip<|Th<|Sr<|Ag z<|Nt<|T.ret ?_
  obtain rfl:=Option.some.inj H
  have bi:=((J.trans d).trans B)
  exact T.retL Tryz.results81 (Rv z) bi ⟨z,z⟩
 refine Sk<|Sk<|Sk<|Sk<|Sk<|Sk<|Sk<|Sk<|Sk<|Sk<|Sk<|Vv (V.pkF z z)<|Nt<|Cf z<|T.skip<|Th<|Sr<|Ag z<|Nt<|T.ret ?_
 obtain rfl:=Option.some.inj H
 have bj:=((J.trans d).trans B)
 exact T.retL Tryz.results81 (Rv z) bj ⟨z,z⟩
theorem rule_basis_ok {h:PH} {pc0:List Value} {p1:apiProblem} (pr0:VapiProblem h pc0 p1) {r_0:Int} {r_1:Int} (H:rule_basis p1 = some (r_0,r_1)):∀ L,FnS Tryz.prog 80 [.agg pc0.toArray] h (L) (fun v h' L'=>v = .tuple #[.int .i64 r_0,.int .i64 r_1]∧L' = L):=by
 intro L
 obtain ⟨ai,m,n,aj,ak,rfl,A,B,C,D,am⟩:=pr0
 refine FnS.enter Tryz.func80 z Tryz.ntmps80 z<|Sr<|To (O.boxF z z z fun an ao o p=>Ag z<|Ag z<|Nt<|Sq<|Sr<|Vv (V.fa fdrule2_32_0 z)<|Vv (V.ldf (k:=0) shrule2_27 z p z)<|have q:=Slc.mono VapiTable.mono A o; ?_)
 obtain ⟨⟨ap,aq⟩,E,H⟩:=bnd H
 refine To (O.callS z (hall_CheckAll_ok q E _) z fun ar G au d I=>?_)
 obtain ⟨rfl,J⟩:=I
 refine Sl_ _ J<|Mv z<|Vv (V.ext z z)<|Vv (V.ext z z)<|Ag z<|Ag z<|Nt<|Sr<|Mv z<|Vv (V.ne z z)<|Nt<|T.cH H z (fun H=>?_) (fun H=>?_)
 ·exact dead H
 refine T.skip<|Th<|Sq<|Sr<|Vv (V.fa fdrule2_32_1 z)<|have e:=p.mono d; Vv (V.ldf (k:=1) shrule2_28 z e z)<|Vv (V.fa fdrule2_32_2 z)<|Vv (V.ldf (k:=2) shrule2_29 z e z)<|have f:=(o.trans d); have r:=Slc.mono VapiTie.mono C f; have i:=Slc.mono VapiGuest.mono B f; Vv (V.bld (xs:=[(0,.tmp 22),(1,.tmp 24)]) (cs:=[_,_]) blrule2_145 borule2_145 z (Fills.cons z (Slc.cells i) z (Fills.cons z (Slc.cells r) z Fills.nil))) ?_
 obtain ⟨⟨aw,ax⟩,K,H⟩:=bnd H
 refine To (O.callS z (guest_CheckRoll_ok (show VapiRoll G [m,n] (apiRoll.mk p1.fGuests p1.fTies) from ⟨m,n,z,i,r⟩) K _) z fun ay aA aB b M=>?_)
 obtain ⟨rfl,N⟩:=M
 refine Sl_ _ N<|Mv z<|Vv (V.ext z z)<|Vv (V.ext z z)<|Ag z<|Ag z<|Nt<|Sr<|Mv z<|Vv (V.ne z z)<|Nt<|T.cH H z (fun H=>?_) (fun H=>?_)
 ·exact dead H
 refine T.skip<|Th<|Sq<|Sr<|Vv (V.fa fdrule2_32_3 z)<|have j:=e.mono b; Vv (V.ldf (k:=3) shrule2_24 z j z)<|have s:=(f.trans b); have u:=Slc.mono VI.mono D s; Vv (V.lenS elrule2_24 z u)<|Vv (V.gt z z)<|Mv z<|T.bH 37 H z (fun H=>?_) (fun H=>?_)
 ·exact dead H
 refine Sk<|Sk<|Sk<|Sk<|Sk<|Sk<|Sk<|Vv (V.pkF z z)<|Nt<|Cf z<|T.skip<|Th<|Sq<|Sq<|T.norm [1] z<|Rg<|Vv (V.fa fdrule2_32_3 z)<|Vv (V.ldf (k:=3) shrule2_24 z j z)<|Vv (V.lenS elrule2_24 z u)<|Mv z<|Nt ?_
 obtain ⟨w,P,S⟩:=bndK H
 refine T.cutK (α:=Unit) [1] z (fun _u=>[]) (fun _u=>L) (fun _u hh=>w = ()) ?_ ?_
 ·have H:=P
  refine Bl<|T.loopK (α:=Nat) [1,48,49] z (fun a=>[]) (fun a=>L) (fun a hh=>iter (rule_basis_l0 p1) a () = some w) (fun a=>a) FUEL trivial z H ?_
  rintro a aC U W
  obtain ⟨aD,aE,rfl,H,X⟩:=iter_go W
  refine T.norm [1,48,49] z<|Sl_ (L) z<|Sr<|Vv (V.lt z z)<|Nt<|Sq<|T.cH H z (fun H=>?_) (fun H=>?_)
  ·exact dead H
  refine T.exit<|Te<|Te<|have H:=iterK_out H X; Be<|Th<|T.met () U H (AllIn.app trivial ⟨z,trivial⟩) z
 rintro _ aG c Y
 have H:=cutE Y S
 refine T.norm [1] rfl<|Sl_ (L) rfl<|Sq<|Sq<|T.drawF (t:=(.v 0 (.v 1 (.v 2 (.v 3 (.v 4 (.alt 5 (.g (.v 6 .done)) .no))))))) 8 0 0 rfl rfl rule2mixed (by kernel_rfl) ?_
 refine Tv z (V.fa fdrule2_32_1 z)<|have x:=j.mono c; Tv z (V.ldf (k:=1) shrule2_28 z x z)<|have Z:=(b.trans c); have aa:=Slc.mono VapiGuest.mono i Z; Tv z (V.lenS elrule2_28 z aa)<|Tv z (V.fa fdrule2_32_0 z)<|Tv z (V.ldf (k:=0) shrule2_27 z x z)<|have ab:=((d.trans b).trans c); have ac:=Slc.mono VapiTable.mono q ab; ?_
 obtain ⟨aI,ad,H⟩:=bnd H
 refine Tp z z (SX.two (XA.fr [] Lr z) (XA.fr [] Lr z)) (O.callS z (hall_Count_ok ac ad _) z fun aJ aK aM y ae=>?_) T.tno
 obtain ⟨rfl,af⟩:=ae
 refine Sl_ _ af<|T.tgrow y<|Tv z (V.gt z z)<|T.tnil (SX.two (XA.fr [] Lr z) (XA.fr [] Lr z))<|Th<|T.cH H z (fun H=>?_) (fun H=>?_)
 ·exact dead H
 refine T.skip<|Th<|Sr<|Ag z<|Ag z<|Nt<|T.ret ?_
 obtain ⟨rfl,rfl⟩:=inj2 H
 have ag:=((s.trans c).trans y)
 exact T.retL Tryz.results80 (RVs.cons (RV.tmp z) (Rv z)) ag ⟨z,z⟩
theorem rule_Check_ok {h:PH} {pc0:List Value} {p1:apiProblem} (pr0:VapiProblem h pc0 p1) {r_0:Int} {r_1:Int} (H:rule_Check p1 = some (r_0,r_1)):∀ L,FnS Tryz.prog 54 [.agg pc0.toArray] h (L) (fun v h' L'=>v = .tuple #[.int .i64 r_0,.int .i64 r_1]∧L' = L):=by
 intro L
 obtain ⟨f,g,i,m,n,rfl,P,S,U,W,X⟩:=pr0
 refine FnS.enter Tryz.func54 rfl Tryz.ntmps54 rfl<|Sr<|To (O.boxF rfl rfl rfl fun aP Y c w=>Ag z<|Ag z<|Nt<|Sq<|Sr<|Vv (V.ldS rfl w (by exact shrule2_32)) ?_)
 have x:=Slc.mono VapiTable.mono P c
 have y:=Slc.mono VapiGuest.mono S c
 have A:=Slc.mono VapiTie.mono U c
 have B:=Slc.mono VI.mono W c
 have C:=Slc.mono VapiRule.mono X c
 obtain ⟨⟨aS,aU⟩,Z,H⟩:=bnd H
 refine To (O.callS z (rule_basis_ok (show VapiProblem Y [f,g,i,m,n] p1 from ⟨f,g,i,m,n,z,x,y,A,B,C⟩) Z _) z fun aV aW aX D aa=>?_)
 obtain ⟨rfl,ab⟩:=aa
 refine Sl_ _ ab<|Mv z<|Vv (V.ext z z)<|Vv (V.ext z z)<|Ag z<|Ag z<|Nt<|Sr<|Mv z<|Vv (V.ne z z)<|Nt<|T.cH H z (fun H=>?_) (fun H=>?_)
 ·exact dead H
 refine T.skip<|Th<|Sr ?_
 obtain ⟨ac,ad,H⟩:=bnd H
 refine To (O.callS z (rule_kinds_ok ad _) z fun aY aZ a0 E ae=>?_)
 obtain ⟨af,ag⟩:=ae
 refine Sl_ _ af<|Ag z<|Nt<|Sq<|Sr<|Vv (V.fa fdrule2_32_4 z)<|have r:=(D.trans E); have G:=w.mono r; Vv (V.ldf (k:=4) shrule2_30 z G z)<|have I:=Slc.mono VapiRule.mono C r; Vv (V.lenS elrule2_30 z I)<|Mv z<|Nt ?_
 obtain ⟨J,ai,aj⟩:=bndK H
 refine T.cutK (α:=Unit) [] z (fun _u=>[]) (fun _u=>L) (fun _u hh=>J = ()) ?_ ?_
 ·have H:=ai
  refine Bl<|T.loopK (α:=Nat×Int) [1,6,21,22] z (fun ⟨d,e⟩=>[(23,.int .i64 e)]) (fun ⟨d,e⟩=>L) (fun ⟨d,e⟩ hh=>iter (rule_Check_l0 p1 ac) d e = some J) (fun ⟨d,e⟩=>d) (FUEL,(0:Int)) ⟨z,trivial⟩ z H ?_
  rintro ⟨d,e⟩ a1 o ak
  obtain ⟨am,a2,rfl,H,K⟩:=iter_go ak
  refine T.norm [23,1,6,21,22] z<|Sl_ (L) z<|Sr<|Vv (V.lt z z)<|Nt<|Sq<|T.cH H z (fun H=>?_) (fun H=>?_)
  ·refine T.skip<|Th<|Sq<|Bl<|Sr<|Mv z ?_
   obtain ⟨a,M,H⟩:=bnd H
   have s:=Slc.mono VapiRule.mono I o
   obtain ⟨a3,an,rfl⟩:=Slc.at s M
   refine Vv (V.ix elrule2_30 rfl rfl s (getI_bd M))<|Vv (V.ldS rfl an (by exact shrule2_41)) ?_
   refine To (O.alloc zerule2_41 z z fun a4=>Ag z<|To (O.stF (vs:=[.int .u8 a.fKind,.int .i64 a.fWeight,.string a.fA,.string a.fB,.string a.fTable,.int .i64 a.fN]) shrule2_41 z z (j:=0) z z z z<|T.freeze fun p t ao=>have N:=AtC.of ao; Nt<|Sq<|Sr<|Mv z<|Vv (V.fa fdrule2_41_0 z)<|Vv (V.ldf (k:=0) shrule2_39 z N z) ?_))
   obtain ⟨⟨b,a5⟩,ap,H⟩:=bnd H
   have u:=(o.trans t)
   have aq:=Mp.mono Vrulekind.mono ag u
   obtain ⟨_,ar,rfl⟩:=Mp.look (zc:=[.string (⟨#[]⟩:ByteArray),.int .u8 (0:Int),.bool false,.int .u8 (0:Int),.bool false,.int .i64 (0:Int),.bool false,(fnV (0:Nat))]) (agg:=true) Tryz.underlying121 (KeyOK.int Tryz.underlying39) zerule2_163 (show Vrulekind p [.string (⟨#[]⟩:ByteArray),.int .u8 (0:Int),.bool false,.int .u8 (0:Int),.bool false,.int .i64 (0:Int),.bool false,(fnV (0:Nat))] (rulekind.mk (⟨#[]⟩:ByteArray) (0:Int) false (0:Int) false (0:Int) false (0:Nat)) from rfl) aq ap
   refine Vv (V.lkF1 rfl rfl ar)<|have au:=G.mono u; Vv (V.ldS rfl au (by exact shrule2_32)) ?_
   refine Vv (V.ldS rfl N (by exact shrule2_41)) ?_
   have q:=((r.trans o).trans t)
   have aw:=Slc.mono VapiTable.mono x q
   have ax:=Slc.mono VapiGuest.mono y q
   have ay:=Slc.mono VapiTie.mono A q
   have aA:=Slc.mono VI.mono B q
   have aB:=Slc.mono VapiRule.mono s t
   obtain ⟨a6,aC,H⟩:=bnd H
   refine To (O.callS z (kind_check_ok (show Vrulekind p [.string b.fword,.int .u8 b.fa,.bool b.fb,.int .u8 b.ft,.bool b.fn,.int .i64 b.flo,.bool b.fseat,(fnV b.ffind)] b from z) (show VapiProblem p [f,g,i,m,n] p1 from ⟨f,g,i,m,n,z,aw,ax,ay,aA,aB⟩) (show VapiRule p [.int .u8 a.fKind,.int .i64 a.fWeight,.string a.fA,.string a.fB,.string a.fTable,.int .i64 a.fN] a from z) aC _) z fun a7 a8 a9 aD aE=>?_)
   obtain ⟨rfl,aG⟩:=aE
   refine Sl_ _ aG<|Ag z<|Nt<|Sr<|Mv z<|Vv (V.ne z z)<|Nt<|T.cH H z (fun H=>?_) (fun H=>?_)
   ·exact dead H
   refine T.skip<|Th<|Sr<|Mv z<|Vv (V.eq z z)<|Nt<|T.cH H z (fun H=>?_) (fun H=>?_)
   ·exact dead H
   refine T.skip<|Bn<|Th<|Rg ?_
   obtain ⟨aI,aJ,H⟩:=bnd H
   refine Vv (V.addS z z aJ)<|Mv z<|Nt<|have aK:=(u.trans aD); T.again (am,aI) aK (Nat.lt_succ_self _) (iterK_in H K) (AllIn.app ⟨z,trivial⟩ ⟨z,z,z,z,trivial⟩) z
  refine T.exit<|Te<|Te<|have H:=iterK_out H K; Be<|Th<|T.met () o H (AllIn.app trivial trivial) z
 rintro _ ah aM aN
 have H:=cutE aN aj
 refine T.norm [] z<|Sl_ (L) z<|Sr<|Ag z<|Ag z<|Nt<|T.ret ?_
 obtain ⟨rfl,rfl⟩:=inj2 H
 have aO:=(((c.trans D).trans E).trans aM)
 exact T.retL Tryz.results54 (RVs.cons (RV.tmp z) (Rv z)) aO ⟨z,z⟩
theorem rule_New_1_ok {h:PH} {k1:Int} {pp1:Addr} {pc1:List Value} {t2:apiProblem} (pa1:AtC h pp1 pc1) (pr1:VapiProblem h pc1 t2) {pp2:Addr} {pc2:List Value} {t13:Int} (pa2:AtC h pp2 pc2) (pr2:(VI .i64) h pc2 t13) {r_0:Bool} (H:rule_New_1 k1 t2 t13 = some r_0):∀ L,FnS Tryz.prog 62 [.int .i64 k1,.pointer (some pp1),.pointer (some pp2)] h (L) (fun v h' L'=>v = .bool r_0∧L' = L):=by
 intro L
 obtain ⟨f,g,i,j,m,rfl,a,n,o,p,q⟩:=pr1
 obtain rfl:=pr2
 refine FnS.enter Tryz.func62 z Tryz.ntmps62 z<|Sr<|Ag z<|Nt<|Sr<|Vv (V.fa fdrule2_32_0 z)<|Vv (V.ldf (k:=0) shrule2_27 z pa1 z)<|Vv (V.ld0 shrule2_3 z pa2 z)<|Mv z ?_
 obtain ⟨r,b,H⟩:=bnd H
 refine To (O.callS z (hall_Beside_ok a b _) z fun s t u c d=>?_)
 obtain ⟨rfl,e⟩:=d
 refine Sl_ _ e<|Ag z<|Nt<|T.ret ?_
 obtain rfl:=Option.some.inj H
 exact T.retL Tryz.results62 (Rv z) c ⟨z,z⟩
theorem rule_New_2_ok {h:PH} {k1:Int} {pp1:Addr} {pc1:List Value} {t2:apiProblem} (pa1:AtC h pp1 pc1) (pr1:VapiProblem h pc1 t2) {pp2:Addr} {pc2:List Value} {t13:Int} (pa2:AtC h pp2 pc2) (pr2:(VI .i64) h pc2 t13) {r_0:Bool} (H:rule_New_2 k1 t2 t13 = some r_0):∀ L,FnS Tryz.prog 64 [.int .i64 k1,.pointer (some pp1),.pointer (some pp2)] h (L) (fun v h' L'=>v = .bool r_0∧L' = L):=by
 intro L
 obtain ⟨f,g,i,j,m,rfl,a,n,o,p,q⟩:=pr1
 obtain rfl:=pr2
 refine FnS.enter Tryz.func64 z Tryz.ntmps64 z<|Sr<|Ag z<|Nt<|Sr<|Vv (V.fa fdrule2_32_0 z)<|Vv (V.ldf (k:=0) shrule2_27 z pa1 z)<|Vv (V.ld0 shrule2_3 z pa2 z)<|Mv z ?_
 obtain ⟨r,b,H⟩:=bnd H
 refine To (O.callS z (hall_Across_ok a b _) z fun s t u c d=>?_)
 obtain ⟨rfl,e⟩:=d
 refine Sl_ _ e<|Ag z<|Nt<|T.ret ?_
 obtain rfl:=Option.some.inj H
 exact T.retL Tryz.results64 (Rv z) c ⟨z,z⟩
theorem Judge_walk_ok {h:PH} {pv0:Value} {j1:ruleJudge} (pr0:Pt VruleJudge h pv0 j1) {from2:Int} {r_0:List (Int×Int)} (H:Judge_walk j1 from2 = some r_0):∀ L,FnS Tryz.prog 66 [pv0,.int .i64 from2] h (L) (fun v h' L'=>∃ mb0 es0,v = .map (some mb0)∧L' = blk mb0 (.map es0.toArray es0.length)::L∧MapG (Value.int .i64) false (VI .i64) h' 0 es0 r_0):=by
 intro L
 refine FnS.enter Tryz.func66 z Tryz.ntmps66 z<|Sr<|Ag z<|Nt<|Sr<|To (O.mkM z fun bc=>have be:MapG (Value.int .i64) false (VI .i64) h 0 ([]:List MapEntry) ([]:List (Int×Int)):=trivial; Mv z ?_)
 obtain ⟨bf,bg,H⟩:=bnd H
 refine To (O.updM (agg:=false) (E:=(VI .i64)) (cs:=[.int .i64 (0:Int)]) Tryz.underlying139 (KeyOK.int Tryz.underlying3) z z z (j:=0) z be (show (VI .i64) h [.int .i64 (0:Int)] (0:Int) from z) _ (.inr z) fun bi ay=>?_)
 rw [Option.some.inj bg] at ay
 refine Mv z<|Ag z<|Nt<|Sq<|Sr<|Mv z<|To (O.bs elrule2_24 zerule2_3 z (e:=z) (hk:=z) (xs:=[.tmp 16]) (hv:=CO.eq (CO.cons z CO.nil)) (hw:=Wide.of z) (hd:=z) fun bj=>have bk:RowF (VI .i64) h [[.int .i64 from2]] ([from2]:List Int):=(RowF.cons z RowF.nil); Ag z<|Nt ?_)
 obtain ⟨aA,bm,bn⟩:=bndK H
 refine T.cutK (α:=(List (Int×Int))×Nat×(List MapEntry)) [] z (fun ⟨ag,P,u⟩=>[(5,.map (some P))]) (fun ⟨ag,P,u⟩=>blk P (.map u.toArray u.length)::L) (fun ⟨ag,P,u⟩ hh=>aA = ag∧MapG (Value.int .i64) false (VI .i64) hh 0 u ag) ?_ ?_
 ·have H:=bm
  refine Bl<|Fr_ 1 z<|T.loopK (α:=Nat×(List (Int×Int))×(List Int)×Nat×(List MapEntry)×Value×(List (List Value))) [0] z (fun ⟨S,w,I,i,c,x,y⟩=>[(5,.map (some i)),(6,x)]) (fun ⟨S,w,I,i,c,x,y⟩=>blk i (.map c.toArray c.length)::rowR 3 1 x y::L) (fun ⟨S,w,I,i,c,x,y⟩ hh=>iter (Judge_walk_l0 j1) S (w,I) = some aA∧MapG (Value.int .i64) false (VI .i64) hh 0 c w∧RowF (VI .i64) hh y I) (fun ⟨S,w,I,i,c,x,y⟩=>S) (FUEL,bf,[from2],bc,bi,(.slice (some ⟨bj,0,none⟩) 1 1),[[.int .i64 from2]]) ⟨z,z,trivial⟩ z ⟨H,ay,bk⟩ ?_
  rintro ⟨S,w,I,i,c,x,y⟩ bo ao ⟨bp,aB,U⟩
  obtain ⟨bq,cp,rfl,H,aC⟩:=iter_go bp
  refine T.norm [5,6,0] z<|Sl_ (blk i (.map c.toArray c.length)::rowR 3 1 x y::L) z<|Sq<|Sr<|Mv z<|Vv (V.lenX elrule2_24 z (j:=1) z U.len)<|Vv (V.gt z z)<|Nt<|T.cH H z (fun H=>?_) (fun H=>?_)
  ·refine T.skip<|Th<|Sq<|Bl<|Sq<|Fr_ 1 z<|T.drawF (t:=(.v 0 (.v 1 (.v 2 (.v 3 (.v 4 (.v 5 (.v 6 (.v 7 (.v 8 (.v 9 (.v 10 (.v 11 (.v 12 (.v 13 (.v 14 (.v 15 (.v 16 (.v 17 (.v 20 (.alt 18 (.g (.v 19 .done)) .no))))))))))))))))))))) 22 1 1 rfl rfl rule2mixed (by kernel_rfl) ?_
   refine Tm z z<|have br:=Pt.mono VruleJudge.mono pr0 ao; have bt:=br; ?_
   obtain ⟨cq,_,rfl,aD,⟨cr,ct,cu,cw,cx,cy,cA,cB,cC,cD,cE,cG,cI,cJ,rfl,cK,cM,cN,cO,cP,cS,cU,cV,cW,aE,aG,cX,cY,cZ⟩⟩:=bt
   refine Tv z (V.nck z)<|Tv z (V.fa fdrule2_127_5 z)<|Tv z (V.ldf (k:=9) shrule2_87 z aD z)<|Tm z z ?_
   obtain ⟨c0,aI,H⟩:=bnd H
   obtain ⟨c1,bu,rfl⟩:=RowF.get U aI
   refine Tv z (Val.XA fun _ _ _=>V.ixR elrule2_24 z z (j:=0) z (RowF.bd U aI))<|Tv z (Val.XA fun _ _ _=>V.ldR shrule2_3 z (j:=0) z bu z) ?_
   obtain ⟨aJ,aK,H⟩:=bnd H
   obtain ⟨c2,bw,⟨aM,rfl,aN⟩⟩:=Slc.at aE aK
   refine Tv z (V.ix elrule2_87 z z aE (getI_bd aK))<|Tv z (V.ld0 shrule2_24 z bw z)<|Tm z z<|Tv z (V.nck z)<|Tv z (V.fa fdrule2_127_6 z)<|Tv z (V.ldf (k:=10) shrule2_87 z aD z)<|Tm z z ?_
   obtain ⟨c3,aO,H⟩:=bnd H
   obtain ⟨c4,bx,rfl⟩:=RowF.get U aO
   refine Tv z (Val.XA fun _ _ _=>V.ixR elrule2_24 z z (j:=0) z (RowF.bd U aO))<|Tv z (Val.XA fun _ _ _=>V.ldR shrule2_3 z (j:=0) z bx z) ?_
   obtain ⟨aP,aS,H⟩:=bnd H
   obtain ⟨c5,bA,⟨aU,rfl,aV⟩⟩:=Slc.at aG aS
   refine Tv z (V.ix elrule2_87 z z aG (getI_bd aS))<|Tv z (V.ld0 shrule2_24 z bA z)<|Tm z z<|Tp z z (SX.two (XA.fr [0] Lr z) (XA.fr [0] Lr z)) (O.bs elrule2_87 zerule2_24 z (e:=z) (hk:=z) (xs:=[.tmp 31,.tmp 40]) (hv:=CO.eq (CO.cons (Slc.cells aN) (CO.cons (Slc.cells aV) CO.nil))) (hw:=Wide.of z) (hd:=z) fun c6=>?_) T.tno
   have bB:RowF (VSl (VI .i64) 1) bo [[aM],[aU]] ([aJ,aP]:List (List Int)):=(RowF.cons ⟨aM,z,aN⟩ (RowF.cons ⟨aU,z,aV⟩ RowF.nil))
   refine T.rowFix fun c7 ai bC=>have bD:=RowF.mono (VSl.mono VI.mono) bB ai; have aW:=RowF.slc bC bD; T.tgrow ai<|Tv z (V.lenS elrule2_87 z aW)<|T.tnil (SX.two (XA.fr [0] Lr z) (XA.fr [0] Lr z))<|Th<|T.asThen ?_
   obtain ⟨aX,bE,bG⟩:=bndK H
   refine T.cutK (α:=(List (Int×Int))×(List Int)×Nat×(List MapEntry)×Value×(List (List Value))) [0] z (fun ⟨W,aj,J,m,X,A⟩=>[(5,.map (some J)),(6,X)]) (fun ⟨W,aj,J,m,X,A⟩=>blk J (.map m.toArray m.length)::rowR 3 1 X A::L) (fun ⟨W,aj,J,m,X,A⟩ hh=>aX = (W,aj)∧MapG (Value.int .i64) false (VI .i64) hh 0 m W∧RowF (VI .i64) hh A aj) ?_ ?_
   ·have H:=bE
    refine Bl<|have bI:=MapG.mono VI.mono ai aB; have bJ:=RowF.mono VI.mono U ai; Fr_ 1 z<|T.loopK (α:=Nat×Int×(List (Int×Int))×(List Int)×Nat×(List MapEntry)×Value×(List (List Value))) [0,41,42] z (fun ⟨Y,Z,B,C,n,d,o,p⟩=>[(43,.int .i64 Z),(5,.map (some n)),(6,o)]) (fun ⟨Y,Z,B,C,n,d,o,p⟩=>blk n (.map d.toArray d.length)::rowR 3 1 o p::L) (fun ⟨Y,Z,B,C,n,d,o,p⟩ hh=>iter (Judge_walk_l1 aJ aP) Y (Z,B,C) = some aX∧MapG (Value.int .i64) false (VI .i64) hh 0 d B∧RowF (VI .i64) hh p C) (fun ⟨Y,Z,B,C,n,d,o,p⟩=>Y) (FUEL,(0:Int),w,I,i,c,x,y) ⟨z,z,z,trivial⟩ z ⟨H,bI,bJ⟩ ?_
    rintro ⟨Y,Z,B,C,n,d,o,p⟩ c8 aq ⟨bK,aY,aZ⟩
    obtain ⟨bM,c9,rfl,H,a0⟩:=iter_go bK
    refine T.norm [43,5,6,0,41,42] z<|Sl_ (blk n (.map d.toArray d.length)::rowR 3 1 o p::L) z<|Sr<|Vv (V.lt z z)<|Nt<|Sq<|T.cH H z (fun H=>?_) (fun H=>?_)
    ·refine T.skip<|Th<|Sq<|Bl<|Sr ?_
     obtain ⟨bN,a1,H⟩:=bnd H
     have a2:=Slc.mono (VSl.mono VI.mono) aW aq
     obtain ⟨ch,bO,⟨cl,rfl,a3⟩⟩:=Slc.at a2 a1
     refine Vv (V.ix elrule2_87 z z a2 (getI_bd a1))<|Vv (V.ld0 shrule2_24 z bO z)<|Ag z<|Nt<|Sr<|Mv z<|Vv (V.lenS elrule2_24 z a3)<|Mv z<|Nt<|T.asThen ?_
     obtain ⟨a4,bP,bS⟩:=bndK H
     refine T.cutK (α:=(List (Int×Int))×(List Int)×Nat×(List MapEntry)×Value×(List (List Value))) [0,41,42,43] z (fun ⟨aa,ab,K,q,M,N⟩=>[(5,.map (some K)),(6,M)]) (fun ⟨aa,ab,K,q,M,N⟩=>blk K (.map q.toArray q.length)::rowR 3 1 M N::L) (fun ⟨aa,ab,K,q,M,N⟩ hh=>a4 = (aa,ab)∧MapG (Value.int .i64) false (VI .i64) hh 0 q aa∧RowF (VI .i64) hh N ab) ?_ ?_
     ·have H:=bP
      refine Bl<|T.loopK (α:=Nat×Int×(List (Int×Int))×(List Int)×Nat×(List MapEntry)×Value×(List (List Value))) [0,41,42,43,47,48] z (fun ⟨ac,ad,D,G,a,f,s,b⟩=>[(49,.int .i64 ad),(5,.map (some a)),(6,s)]) (fun ⟨ac,ad,D,G,a,f,s,b⟩=>blk a (.map f.toArray f.length)::rowR 3 1 s b::L) (fun ⟨ac,ad,D,G,a,f,s,b⟩ hh=>iter (Judge_walk_l2 bN) ac (ad,D,G) = some a4∧MapG (Value.int .i64) false (VI .i64) hh 0 f D∧RowF (VI .i64) hh b G) (fun ⟨ac,ad,D,G,a,f,s,b⟩=>ac) (FUEL,(0:Int),B,C,n,d,o,p) ⟨z,z,z,trivial⟩ z ⟨H,aY,aZ⟩ ?_
      rintro ⟨ac,ad,D,G,a,f,s,b⟩ ak an ⟨bU,am,ae⟩
      obtain ⟨a5,cv,rfl,H,ar⟩:=iter_go bU
      refine T.norm [49,5,6,0,41,42,43,47,48] z<|Sl_ (blk a (.map f.toArray f.length)::rowR 3 1 s b::L) z<|Sr<|Vv (V.lt z z)<|Nt<|Sq<|T.cH H z (fun H=>?_) (fun H=>?_)
      ·refine T.skip<|Th<|Sq<|Bl<|Sr ?_
       obtain ⟨af,a6,H⟩:=bnd H
       have a7:=Slc.mono VI.mono a3 an
       obtain ⟨cz,bV,rfl⟩:=Slc.at a7 a6
       refine Vv (V.ix elrule2_24 z z a7 (getI_bd a6))<|Vv (V.ld0 shrule2_3 z bV z)<|Ag z<|Nt<|Sr<|Mv z<|Mv z ?_
       obtain ⟨⟨da,db⟩,bW,H⟩:=bnd H
       obtain ⟨_,bX,rfl⟩:=MapG.lookO (r:=a) (zc:=[.int .i64 (0:Int)]) (agg:=false) Tryz.underlying139 (KeyOK.int Tryz.underlying3) zerule2_3 (show (VI .i64) ak [.int .i64 (0:Int)] (0:Int) from rfl) am bW
       refine Vv (V.lkO z z (j:=0) z bX)<|Mv z<|Vv (V.ext z z)<|Vv (V.ext z z)<|Ag z<|Ag z<|Nt<|Sr<|Mv z<|Vv (V.not z)<|Nt<|T.cH H z (fun H=>?_) (fun H=>?_)
       ·refine Sr<|Mv z<|Mv z<|Mv z<|Mv z ?_
        obtain ⟨dc,a8,H⟩:=bnd H
        obtain ⟨dd,bY,rfl⟩:=RowF.get ae a8
        refine Vv (V.ixR elrule2_24 z z (j:=1) z (RowF.bd ae a8))<|Vv (V.ldR shrule2_3 z (j:=1) z bY z) ?_
        obtain ⟨⟨de,df⟩,bZ,H⟩:=bnd H
        obtain ⟨_,b0,rfl⟩:=MapG.lookO (r:=a) (zc:=[.int .i64 (0:Int)]) (agg:=false) Tryz.underlying139 (KeyOK.int Tryz.underlying3) zerule2_3 (show (VI .i64) ak [.int .i64 (0:Int)] (0:Int) from rfl) am bZ
        refine Vv (V.lkO1 z z (j:=0) z b0) ?_
        obtain ⟨au,b1,H⟩:=bnd H
        refine Vv (V.addS z z b1) ?_
        obtain ⟨b2,b3,H⟩:=bnd H
        refine To (O.updM (agg:=false) (E:=(VI .i64)) (cs:=[.int .i64 au]) Tryz.underlying139 (KeyOK.int Tryz.underlying3) z z z (j:=0) z am (show (VI .i64) ak [.int .i64 au] au from z) _ (.inl z) fun aw a9=>?_)
        rw [Option.some.inj b3] at a9
        refine Nt<|Rg<|Mv z<|Mv z<|To (O.bs elrule2_24 zerule2_3 z (e:=z) (hk:=z) (xs:=[.tmp 70]) (hv:=CO.eq (CO.cons z CO.nil)) (hw:=Wide.of z) (hd:=z) fun b4=>have ax:RowF (VI .i64) ak [[.int .i64 af]] ([af]:List Int):=(RowF.cons z RowF.nil); ?_)
        obtain ⟨ah,al,H⟩:=bnd H
        refine To (O.apX elrule2_24 elrule2_24 zerule2_3 z z z (j:=2) z (Src.row (j:=0) z) (Wide.of z) (RowF.ones VI.plain ax) ae ax al z fun av dg di=>have b5:RowF (VI .i64) ak (b ++ [[.int .i64 af]]) ah:=RowF.ap ae ax al; Sl_ (rowR 3 1 av (b ++ [[.int .i64 af]])::rowR 3 1 (.slice (some ⟨b4,0,none⟩) 1 1) [[.int .i64 af]]::blk a (.map aw.toArray aw.length)::L) z<|Fr_ 1 z<|T.fl ?_)
        refine T.drop<|Ag z<|Ni<|Bn<|Th<|Rg ?_
        obtain ⟨b6,b7,H⟩:=bnd H
        refine Vv (V.addS z z b7)<|Mv z<|Nt<|Fr_ 1 z<|T.again (a5,b6,b2,ah,a,aw,av,(b ++ [[.int .i64 af]])) an (Nat.lt_succ_self _) ⟨(iterK_in H ar),a9,b5⟩ (AllIn.app ⟨z,z,z,trivial⟩ ⟨z,z,z,z,z,z,trivial⟩) z
       refine T.skip<|Bn<|Th<|Rg ?_
       obtain ⟨b8,b9,H⟩:=bnd H
       refine Vv (V.addS z z b9)<|Mv z<|Nt<|T.again (a5,b8,D,G,a,f,s,b) an (Nat.lt_succ_self _) ⟨(iterK_in H ar),am,ae⟩ (AllIn.app ⟨z,z,z,trivial⟩ ⟨z,z,z,z,z,z,trivial⟩) z
      refine T.exit<|Te<|Te<|have H:=iterK_out H ar; Be<|Th<|T.met (D,G,a,f,s,b) an ⟨H,am,ae⟩ (AllIn.app ⟨z,z,trivial⟩ ⟨z,z,z,z,trivial⟩) z
     rintro ⟨aa,ab,K,q,M,N⟩ dj bh ⟨bl,bv,bz⟩
     have H:=cutE bl bS
     refine T.norm [5,6,0,41,42,43] z<|Sl_ (blk K (.map q.toArray q.length)::rowR 3 1 M N::L) z<|Bn<|Th<|Rg ?_
     obtain ⟨ca,cb,H⟩:=bnd H
     refine Vv (V.addS z z cb)<|Mv z<|Nt<|have cc:=(aq.trans bh); T.again (bM,ca,aa,ab,K,q,M,N) cc (Nat.lt_succ_self _) ⟨(iterK_in H a0),bv,bz⟩ (AllIn.app ⟨z,z,z,trivial⟩ ⟨z,z,z,trivial⟩) z
    refine T.exit<|Te<|Te<|have H:=iterK_out H a0; Be<|Th<|T.met (B,C,n,d,o,p) aq ⟨H,aY,aZ⟩ (AllIn.app ⟨z,z,trivial⟩ ⟨z,trivial⟩) z
   rintro ⟨W,aj,J,m,X,A⟩ cd ce ⟨cf,cg,az⟩
   have H:=cutE cf bG
   refine T.norm [5,6,0] z<|Sl_ (blk J (.map m.toArray m.length)::rowR 3 1 X A::L) z<|Bn<|Th<|Rg<|Mv z ?_
   obtain ⟨ba,bb,H⟩:=bnd H
   refine To (O.slR elrule2_24 z z (j:=1) z (RowF.slb az bb) z fun ci=>have cj:RowF (VI .i64) cd (List.drop (1:Int).toNat A) ba:=RowF.sl az bb; Ag z<|Nt<|Fr_ 1 z<|have ck:=((ao.trans ai).trans ce); T.again (bq,W,ba,J,m,ci,(List.drop (1:Int).toNat A)) ck (Nat.lt_succ_self _) ⟨(iterK_in H aC),cg,cj⟩ (AllIn.app ⟨z,z,trivial⟩ ⟨z,trivial⟩) z)
  refine T.exit<|Te<|Te<|have H:=iterK_out H aC; Be<|Th<|Fr_ 1 z<|T.drop<|T.met (w,i,c) ao ⟨H,aB⟩ (AllIn.app ⟨z,trivial⟩ trivial) z
 rintro ⟨ag,P,u⟩ dk cm ⟨cn,co⟩
 have H:=cutE cn bn
 refine T.norm [5] z<|Sl_ (blk P (.map u.toArray u.length)::L) z<|Sr<|Mv z<|Ag z<|Nt<|T.ret ?_
 obtain rfl:=Option.some.inj H
 exact T.retL Tryz.results66 (Rv z) cm ⟨_,_,z,z,co⟩
theorem Judge_none_ok {h:PH} {pv0:Value} {j1:ruleJudge} (pr0:Pt VruleJudge h pv0 j1) {r_0:Bool} (H:Judge_none j1 = some r_0):∀ L,FnS Tryz.prog 70 [pv0] h (L) (fun v h' L'=>v = .bool r_0∧L' = L):=by
 intro L
 refine FnS.enter Tryz.func70 z Tryz.ntmps70 z<|Sr<|Ag z<|Nt<|Sr<|Mv z<|have a:=pr0; ?_
 obtain ⟨e,_,rfl,b,⟨f,g,i,j,m,n,o,p,q,r,s,t,u,w,rfl,x,y,A,B,C,c,D,E,G,I,J,K,M,N⟩⟩:=a
 refine Vv (V.nilP Tryz.underlying57 z)<|Mv z<|Mv z<|Vv (V.nck z)<|Vv (V.fa fdrule2_127_1 z)<|Vv (V.ldf (k:=5) shrule2_121 z b z)<|have d:=c; ?_
 obtain ⟨O,_,rfl,_⟩:=d
 refine Vv (V.nilM Tryz.underlying121 z)<|Vv (V.pkF z z)<|Ag z<|Nt<|T.ret ?_
 obtain rfl:=Option.some.inj H
 exact T.retL Tryz.results70 (Rv z) Lr ⟨z,z⟩
theorem rule_New_ok {h:PH} {pc0:List Value} {p1:apiProblem} (pr0:VapiProblem h pc0 p1) {r_0:ruleJudge} {r_1:Int} {r_2:Int} (H:rule_New p1 = some (r_0,r_1,r_2)):∀ L,FnS Tryz.prog 39 [.agg pc0.toArray] h (L) (fun v h' L'=>∃ w0,v = .tuple #[w0,.int .i64 r_1,.int .i64 r_2]∧L' = L∧Pt VruleJudge h' w0 r_0):=by
 intro L
 obtain ⟨a5,aA,aB,a6,a7,rfl,gK,gM,gN,gO,gP⟩:=pr0
 refine FnS.enter Tryz.func39 rfl Tryz.ntmps39 rfl<|Sr<|To (O.boxF rfl rfl rfl fun cX gS b7 dX=>Ag z<|Ag z<|Ag z<|Nt<|Sq<|Sr<|Vv (V.ldS rfl dX (by exact shrule2_32)) ?_)
 have dY:=Slc.mono VapiTable.mono gK b7
 have dZ:=Slc.mono VapiGuest.mono gM b7
 have d0:=Slc.mono VapiTie.mono gN b7
 have d1:=Slc.mono VI.mono gO b7
 have d2:=Slc.mono VapiRule.mono gP b7
 obtain ⟨⟨ox,oy⟩,gU,H⟩:=bnd H
 refine To (O.callS z (rule_Check_ok (show VapiProblem gS [a5,aA,aB,a6,a7] p1 from ⟨a5,aA,aB,a6,a7,z,dY,dZ,d0,d1,d2⟩) gU _) z fun oA gV oB bx gW=>?_)
 obtain ⟨rfl,gX⟩:=gW
 refine Sl_ _ gX<|Mv z<|Vv (V.ext z z)<|Vv (V.ext z z)<|Ag z<|Ag z<|Nt<|Sr<|Mv z<|Vv (V.ne z z)<|Nt<|T.cH H z (fun H=>?_) (fun H=>?_)
 ·exact dead H
 refine T.skip<|Th<|Sr<|have d3:=dX.mono bx; Vv (V.ldS rfl d3 (by exact shrule2_32)) ?_
 have d4:=Slc.mono VapiTable.mono dY bx
 have cv:=Slc.mono VapiGuest.mono dZ bx
 have cz:=Slc.mono VapiTie.mono d0 bx
 have d5:=Slc.mono VI.mono d1 bx
 have d6:=Slc.mono VapiRule.mono d2 bx
 obtain ⟨da,gY,H⟩:=bnd H
 refine To (O.callS z (rule_copied_ok (show VapiProblem gV [a5,aA,aB,a6,a7] p1 from ⟨a5,aA,aB,a6,a7,z,d4,cv,cz,d5,d6⟩) gY _) z fun oC oD oE d7 gZ=>?_)
 obtain ⟨n,o,p,q,r,rfl,g0,d8,d9,dh,dl,dv⟩:=gZ
 refine Sl_ _ g0 ?_
 obtain ⟨db,g1,H⟩:=bnd H
 refine To (O.callS z (rule_kinds_ok g1 _) z fun s cB oG cY g2=>?_)
 obtain ⟨g3,dc⟩:=g2
 refine Sl_ _ g3<|Vv (V.bld (xs:=[(0,.tmp 34),(1,.tmp 35)]) (cs:=[_,_,_,_,_,_,_,_,_,_,_,_,_,_]) blrule2_127 borule2_127 z (Fills.cons z z z (Fills.cons z (Mp.cells dc) z Fills.nil)))<|To (O.box z z z fun u=>Ag z<|Nt<|Sq<|Sr<|Vv (V.fa fdrule2_32_0 z)<|have cZ:=(d7.trans cY); have dd:=d3.mono cZ; Vv (V.ldf (k:=0) shrule2_27 z dd z)<|have dz:=Slc.mono VapiTable.mono d4 cZ; Vv (V.lenS elrule2_27 z dz)<|Mv z<|Nt ?_)
 obtain ⟨ea,g4,g5⟩:=bndK H
 refine T.cutK (α:=(List Int)×(List Int)×(List Bool)×(List (List Int))×(List (List Int))×Value×(List (List Value))×Value×(List (List Value))×Value×(List (List Value))×Value×(List (List Value))×Value×(List (List Value))) [1,7] z (fun ⟨a8,a9,ah,al,av,f,D,d,C,c,A,b,y,a,w⟩=>[]) (fun ⟨a8,a9,ah,al,av,f,D,d,C,c,A,b,y,a,w⟩=>blk u (.cells [n,o,p,q,r,s,f,d,c,b,a,.slice none 0 0,.slice none 0 0,.slice none 0 0].toArray 127)::rowR 3 1 f D::rowR 3 1 d C::rowR 4 1 c A::rowR 24 1 b y::rowR 24 1 a w::L) (fun ⟨a8,a9,ah,al,av,f,D,d,C,c,A,b,y,a,w⟩ hh=>ea = (a8,a9,ah,al,av)∧RowF (VI .i64) hh D a8∧RowF (VI .i64) hh C a9∧RowF VB hh A ah∧RowF (VSl (VI .i64) 1) hh y al∧RowF (VSl (VI .i64) 1) hh w av) ?_ ?_
 ·have H:=g4
  refine Bl<|T.rowNil 3 1<|have g6:RowF (VI .i64) cB [] ([]:List Int):=RowF.nil; T.rowNil 3 1<|have g7:RowF (VI .i64) cB [] ([]:List Int):=RowF.nil; T.rowNil 4 1<|have g8:RowF VB cB [] ([]:List Bool):=RowF.nil; T.rowNil 24 1<|have g9:RowF (VSl (VI .i64) 1) cB [] ([]:List (List Int)):=RowF.nil; T.rowNil 24 1<|have gh:RowF (VSl (VI .i64) 1) cB [] ([]:List (List Int)):=RowF.nil; Fr_ 1 z<|T.fl ?_
  refine Fr_ 2 z<|T.fl ?_
  refine Fr_ 3 z<|T.fl ?_
  refine Fr_ 4 z<|T.fl ?_
  refine Fr_ 5 z<|T.fl ?_
  refine T.loopK (α:=Nat×(List Int)×(List Int)×(List Bool)×(List (List Int))×(List (List Int))×Int×Value×(List (List Value))×Value×(List (List Value))×Value×(List (List Value))×Value×(List (List Value))×Value×(List (List Value))) [1,7,40] z (fun ⟨b8,az,ba,bb,bc,bd,W,aC,aP,aD,aS,aE,aU,aG,aV,aI,aW⟩=>[(41,.int .i64 W)]) (fun ⟨b8,az,ba,bb,bc,bd,W,aC,aP,aD,aS,aE,aU,aG,aV,aI,aW⟩=>blk u (.cells [n,o,p,q,r,s,aC,aD,aE,aG,aI,.slice none 0 0,.slice none 0 0,.slice none 0 0].toArray 127)::rowR 3 1 aC aP::rowR 3 1 aD aS::rowR 4 1 aE aU::rowR 24 1 aG aV::rowR 24 1 aI aW::L) (fun ⟨b8,az,ba,bb,bc,bd,W,aC,aP,aD,aS,aE,aU,aG,aV,aI,aW⟩ hh=>iter (rule_New_l0 p1) b8 (az,ba,bb,bc,bd,W) = some ea∧RowF (VI .i64) hh aP az∧RowF (VI .i64) hh aS ba∧RowF VB hh aU bb∧RowF (VSl (VI .i64) 1) hh aV bc∧RowF (VSl (VI .i64) 1) hh aW bd) (fun ⟨b8,az,ba,bb,bc,bd,W,aC,aP,aD,aS,aE,aU,aG,aV,aI,aW⟩=>b8) (FUEL,([]:List Int),([]:List Int),([]:List Bool),([]:List (List Int)),([]:List (List Int)),(0:Int),(.slice none 0 0),[],(.slice none 0 0),[],(.slice none 0 0),[],(.slice none 0 0),[],(.slice none 0 0),[]) ⟨z,trivial⟩ z ⟨H,g6,g7,g8,g9,gh⟩ ?_
  rintro ⟨b8,az,ba,bb,bc,bd,W,aC,aP,aD,aS,aE,aU,aG,aV,aI,aW⟩ oI cC ⟨gl,eb,ec,ed,ee,ef⟩
  obtain ⟨gv,oJ,rfl,H,eg⟩:=iter_go gl
  refine T.norm [41,1,7,40] z<|Sl_ (blk u (.cells [n,o,p,q,r,s,aC,aD,aE,aG,aI,.slice none 0 0,.slice none 0 0,.slice none 0 0].toArray 127)::rowR 3 1 aC aP::rowR 3 1 aD aS::rowR 4 1 aE aU::rowR 24 1 aG aV::rowR 24 1 aI aW::L) z<|Sr<|Vv (V.lt z z)<|Nt<|Sq<|T.cH H z (fun H=>?_) (fun H=>?_)
  ·refine T.skip<|Th<|Sq<|Bl<|Sr<|Mv z<|Ag z<|Nt<|Sr<|Vv (V.fa fdrule2_32_0 z)<|have ei:=dd.mono cC; Vv (V.ldf (k:=0) shrule2_27 z ei z)<|Mv z<|have ej:=Slc.mono VapiTable.mono dz cC; ?_
   obtain ⟨de,gz,H⟩:=bnd H
   refine To (O.callS z (hall_First_ok ej gz _) z fun oK ia oM cD ib=>?_)
   obtain ⟨rfl,ic⟩:=ib
   refine Sl_ _ ic<|Ag z<|Nt<|Sr<|Vv (V.fa fdrule2_32_0 z)<|have ek:=ei.mono cD; Vv (V.ldf (k:=0) shrule2_27 z ek z)<|Mv z<|Mv z ?_
   obtain ⟨oN,id,H⟩:=bnd H
   refine Vv (V.addS z z id)<|have em:=Slc.mono VapiTable.mono ej cD; ?_
   obtain ⟨ie,en,H⟩:=bnd H
   refine T.slM z elrule2_27 z em (.inr ⟨_,_,z,z⟩) (.inr ⟨_,_,z,z⟩) (sbL_eq en).2 z fun ig ii oO=>?_
   have ij:Slc VapiTable 7 ia ig ie:=by rw [(sbL_eq en).1]; exact ii
   obtain ⟨ik,im,H⟩:=bnd H
   refine To (O.callS z (hall_Count_ok ij im _) z fun oP oS oU c0 io=>?_)
   obtain ⟨rfl,ip⟩:=io
   refine Sl_ _ ip<|Ag z<|Nt<|Sr<|Mv z<|To (O.alloc zerule2_3 z z fun iq=>To (O.stF (vs:=[.int .i64 de]) shrule2_3 z z (j:=0) z z z z<|T.fl ?_))
   refine Nt<|T.asThen ?_
   obtain ⟨eo,ir,it⟩:=bndK H
   refine T.cutK (α:=(List Int)×(List Int)×(List Bool)×(List (List Int))×(List (List Int))×Value×(List (List Value))×Value×(List (List Value))×Value×(List (List Value))×Value×(List (List Value))×Value×(List (List Value))) [1,7,40,41] z (fun ⟨b9,bh,bl,bv,bz,be,bA,bf,bB,bg,bC,bi,bD,bj,bE⟩=>[]) (fun ⟨b9,bh,bl,bv,bz,be,bA,bf,bB,bg,bC,bi,bD,bj,bE⟩=>blk u (.cells [n,o,p,q,r,s,be,bf,bg,bi,bj,.slice none 0 0,.slice none 0 0,.slice none 0 0].toArray 127)::rowR 3 1 be bA::rowR 3 1 bf bB::rowR 4 1 bg bC::rowR 24 1 bi bD::rowR 24 1 bj bE::L) (fun ⟨b9,bh,bl,bv,bz,be,bA,bf,bB,bg,bC,bi,bD,bj,bE⟩ hh=>eo = (b9,bh,bl,bv,bz)∧RowF (VI .i64) hh bA b9∧RowF (VI .i64) hh bB bh∧RowF VB hh bC bl∧RowF (VSl (VI .i64) 1) hh bD bv∧RowF (VSl (VI .i64) 1) hh bE bz) ?_ ?_
   ·have H:=ir
    refine Bl<|have cE:=(cD.trans c0); have iu:=RowF.mono VI.mono eb cE; have iw:=RowF.mono VI.mono ec cE; have iy:=RowF.mono VB.mono ed cE; have iA:=RowF.mono (VSl.mono VI.mono) ee cE; have iB:=RowF.mono (VSl.mono VI.mono) ef cE; Fr_ 6 z<|T.fl ?_
    refine Fr_ 6 z<|T.fl ?_
    refine Fr_ 6 z<|T.fl ?_
    refine Fr_ 6 z<|T.fl ?_
    refine Fr_ 6 z<|T.fl ?_
    refine Fr_ 6 z<|T.fl ?_
    refine T.loopK (α:=Nat×(List Int)×(List Int)×(List Bool)×(List (List Int))×(List (List Int))×Int×Value×(List (List Value))×Value×(List (List Value))×Value×(List (List Value))×Value×(List (List Value))×Value×(List (List Value))×Nat) [1,7,8,9,10,40,41] z (fun ⟨ca,bG,bI,bJ,bK,bM,X,aJ,aa,an,ab,ai,ac,Y,ad,P,ae,af⟩=>[(11,.pointer (some ⟨af,0,none⟩))]) (fun ⟨ca,bG,bI,bJ,bK,bM,X,aJ,aa,an,ab,ai,ac,Y,ad,P,ae,af⟩=>blk u (.cells [n,o,p,q,r,s,aJ,an,ai,Y,P,.slice none 0 0,.slice none 0 0,.slice none 0 0].toArray 127)::rowR 3 1 aJ aa::rowR 3 1 an ab::rowR 4 1 ai ac::rowR 24 1 Y ad::rowR 24 1 P ae::blk af (.cells [.int .i64 X].toArray 3)::L) (fun ⟨ca,bG,bI,bJ,bK,bM,X,aJ,aa,an,ab,ai,ac,Y,ad,P,ae,af⟩ hh=>iter (rule_New_l1 p1 W de ik) ca (bG,bI,bJ,bK,bM,X) = some eo∧RowF (VI .i64) hh aa bG∧RowF (VI .i64) hh ab bI∧RowF VB hh ac bJ∧RowF (VSl (VI .i64) 1) hh ad bK∧RowF (VSl (VI .i64) 1) hh ae bM) (fun ⟨ca,bG,bI,bJ,bK,bM,X,aJ,aa,an,ab,ai,ac,Y,ad,P,ae,af⟩=>ca) (FUEL,az,ba,bb,bc,bd,de,aC,aP,aD,aS,aE,aU,aG,aV,aI,aW,iq) ⟨z,trivial⟩ z ⟨H,iu,iw,iy,iA,iB⟩ ?_
    rintro ⟨ca,bG,bI,bJ,bK,bM,X,aJ,aa,an,ab,ai,ac,Y,ad,P,ae,af⟩ ep c1 ⟨iC,df,er,es,et,eu⟩
    obtain ⟨iD,oV,rfl,H,ew⟩:=iter_go iC
    refine T.norm [11,1,7,8,9,10,40,41] z<|Sl_ (blk u (.cells [n,o,p,q,r,s,aJ,an,ai,Y,P,.slice none 0 0,.slice none 0 0,.slice none 0 0].toArray 127)::rowR 3 1 aJ aa::rowR 3 1 an ab::rowR 4 1 ai ac::rowR 24 1 Y ad::rowR 24 1 P ae::blk af (.cells [.int .i64 X].toArray 3)::L) z<|Sq<|Sr<|Vv (V.ldO0 shrule2_3 z (j:=6) z z)<|Mv z<|Mv z ?_
    obtain ⟨oW,iE,H⟩:=bnd H
    refine Vv (V.addS z z iE)<|Vv (V.lt z z)<|Nt<|T.cH H z (fun H=>?_) (fun H=>?_)
    ·refine T.skip<|Th<|Sq<|Bl<|Sr<|Mv z<|Mv z<|Vv (V.nck z)<|Vv (V.fa fdrule2_127_2 z)<|Vv (V.ldO (k:=6) shrule2_24 z (j:=0) z z)<|Mv z<|To (O.bs elrule2_24 zerule2_3 z (e:=z) (hk:=z) (xs:=[.tmp 68]) (hv:=CO.eq (CO.cons z CO.nil)) (hw:=Wide.of z) (hd:=z) fun iG=>have dg:RowF (VI .i64) ep [[.int .i64 W]] ([W]:List Int):=(RowF.cons z RowF.nil); ?_)
     obtain ⟨ex,ey,H⟩:=bnd H
     refine To (O.apX elrule2_24 elrule2_24 zerule2_3 z z z (j:=2) z (Src.row (j:=0) z) (Wide.of z) (RowF.ones VI.plain dg) df dg ey z fun ag oX oY=>have iI:RowF (VI .i64) ep (aa ++ [[.int .i64 W]]) ex:=RowF.ap df dg ey; Sl_ (rowR 3 1 ag (aa ++ [[.int .i64 W]])::rowR 3 1 (.slice (some ⟨iG,0,none⟩) 1 1) [[.int .i64 W]]::blk u (.cells [n,o,p,q,r,s,aJ,an,ai,Y,P,.slice none 0 0,.slice none 0 0,.slice none 0 0].toArray 127)::rowR 3 1 an ab::rowR 4 1 ai ac::rowR 24 1 Y ad::rowR 24 1 P ae::blk af (.cells [.int .i64 X].toArray 3)::L) z<|Fr_ 1 z<|T.fl ?_)
     refine T.drop<|Vv (V.nck rfl)<|Vv (V.fa fdrule2_127_2 rfl)<|T.rowOne 0 rfl fun iJ iK=>To (O.st (vs:=[ag]) (k:=6) shrule2_24 rfl rfl (j:=1) rfl iK (by (simp only [Sl.ones,iJ,Bool.and_true,Bool.true_and]) <;> rfl) ?_)
     refine T.fl ?_
     refine Nt<|Sq<|Fr_ 2 z<|T.fl ?_
     refine Fr_ 1 z<|T.fl ?_
     refine Fr_ 6 z<|T.fl ?_
     refine T.drawF (t:=(.v 0 (.v 1 (.v 2 (.v 3 (.x 4 (.v 5 (.v 6 (.v 7 (.alt 8 (.g (.alt 9 (.alt 10 (.g (.v 11 (.v 12 (.alt 13 .done .no)))) .no) .no)) .no)))))))))) 10 3 1 rfl rfl rule2mixed (by kernel_rfl) ?_
     refine Tm z z<|Tm z z<|Tv z (V.nck z)<|Tv z (V.fa fdrule2_127_3 z)<|T.tx z z (Val.XA fun _ _ _=>V.ldO (k:=7) shrule2_24 z (j:=1) z z) z Calm.i<|Tv z (V.fa fdrule2_32_0 z)<|have eA:=(c0.trans c1); have eB:=ek.mono eA; Tv z (V.ldf (k:=0) shrule2_27 z eB z)<|Tv z (Val.XA fun _ _ _=>V.ldO0 shrule2_3 z (j:=0) z z)<|have eC:=Slc.mono VapiTable.mono em eA; ?_
     obtain ⟨ao,iM,H⟩:=bnd H
     refine Tp z z (SX.two (XA.fr [0] Lr z) (XA.fr [2,2,2] Lr z)) (O.callS z (hall_Level_ok eC iM _) z fun oZ eD o0 bN iN=>?_) T.tno
     obtain ⟨rfl,iO⟩:=iN
     refine Sl_ _ iO<|T.tgrow bN<|Tp z z (SX.two (XA.fr [0] Lr z) (XA.fr [2,2,2] Lr z)) (O.bs elrule2_24 zerule2_3 z (e:=z) (hk:=z) (xs:=[.tmp 81]) (hv:=CO.eq (CO.cons z CO.nil)) (hw:=Wide.of z) (hd:=z) fun iP=>?_) T.tno
     have di:RowF (VI .i64) eD [[.int .i64 ao]] ([ao]:List Int):=(RowF.cons z RowF.nil)
     obtain ⟨eE,eG,H⟩:=bnd H
     have eI:=RowF.mono VI.mono er bN
     refine Tp z z (SX.two (XA.fr [1] Lr z) (XA.fr [3,3,3] Lr z)) (O.apX elrule2_24 elrule2_24 zerule2_3 z z z (j:=3) z (Src.row (j:=0) z) (Wide.of z) (RowF.ones VI.plain di) eI di eG z fun aj o1 o2=>?_) T.tno
     have iS:RowF (VI .i64) eD (ab ++ [[.int .i64 ao]]) eE:=RowF.ap eI di eG
     refine Sl_ (rowR 3 1 aj (ab ++ [[.int .i64 ao]])::rowR 3 1 (.slice (some ⟨iP,0,none⟩) 1 1) [[.int .i64 ao]]::blk af (.cells [.int .i64 X].toArray 3)::blk u (.cells [n,o,p,q,r,s,ag,an,ai,Y,P,.slice none 0 0,.slice none 0 0,.slice none 0 0].toArray 127)::rowR 3 1 ag (aa ++ [[.int .i64 W]])::rowR 4 1 ai ac::rowR 24 1 Y ad::rowR 24 1 P ae::L) z<|Fr_ 1 z<|T.fl ?_
     refine T.drop<|T.tgrow Lr<|Tv z (V.nck rfl)<|Tv z (V.fa fdrule2_127_3 rfl)<|T.rowOne 0 rfl fun iU iV=>Tp z z (SX.one (XA.fr [1] Lr rfl) rfl) (O.st (vs:=[aj]) (k:=7) shrule2_24 rfl rfl (j:=2) rfl iV (by (simp only [Sl.ones,iU,Bool.and_true,Bool.true_and]) <;> rfl) ?_) T.tno
     refine T.fl ?_
     refine T.tnil (SX.one (XA.fr [2] Lr z) z)<|Th<|Sq<|Fr_ 4 z<|T.fl ?_
     refine Fr_ 1 z<|T.fl ?_
     refine Fr_ 3 z<|T.fl ?_
     refine T.drawF (t:=(.v 0 (.v 1 (.v 2 (.v 3 (.x 4 (.v 5 (.v 6 (.v 7 (.alt 8 (.g (.alt 9 (.alt 10 (.g (.v 11 (.v 12 (.alt 13 .done .no)))) .no) .no)) .no)))))))))) 10 3 1 rfl rfl rule2mixed (by kernel_rfl) ?_
     refine Tm z z<|Tm z z<|Tv z (V.nck z)<|Tv z (V.fa fdrule2_127_4 z)<|T.tx z z (Val.XA fun _ _ _=>V.ldO (k:=8) shrule2_122 z (j:=1) z z) z Calm.i<|Tv z (V.fa fdrule2_32_0 z)<|have eJ:=eB.mono bN; Tv z (V.ldf (k:=0) shrule2_27 z eJ z)<|Tv z (Val.XA fun _ _ _=>V.ldO0 shrule2_3 z (j:=0) z z)<|have eK:=Slc.mono VapiTable.mono eC bN; ?_
     obtain ⟨aK,iW,H⟩:=bnd H
     refine Tp z z (SX.two (XA.fr [0] Lr z) (XA.fr [2,2,2] Lr z)) (O.callS z (hall_Open_ok eK iW _) z fun o3 eM o4 cG iX=>?_) T.tno
     obtain ⟨rfl,iY⟩:=iX
     refine Sl_ _ iY<|T.tgrow cG<|Tp z z (SX.two (XA.fr [0] Lr z) (XA.fr [2,2,2] Lr z)) (O.bs elrule2_122 zerule2_4 z (e:=z) (hk:=z) (xs:=[.tmp 94]) (hv:=CO.eq (CO.cons z CO.nil)) (hw:=Wide.of z) (hd:=z) fun iZ=>?_) T.tno
     have dj:RowF VB eM [[.bool aK]] ([aK]:List Bool):=(RowF.cons z RowF.nil)
     obtain ⟨eN,eO,H⟩:=bnd H
     have eP:=(bN.trans cG)
     have eS:=RowF.mono VB.mono es eP
     refine Tp z z (SX.two (XA.fr [1] Lr z) (XA.fr [3,3,3] Lr z)) (O.apX elrule2_122 elrule2_122 zerule2_4 z z z (j:=3) z (Src.row (j:=0) z) (Wide.of z) (RowF.ones VB.plain dj) eS dj eO z fun aq o5 o6=>?_) T.tno
     have i0:RowF VB eM (ac ++ [[.bool aK]]) eN:=RowF.ap eS dj eO
     refine Sl_ (rowR 4 1 aq (ac ++ [[.bool aK]])::rowR 4 1 (.slice (some ⟨iZ,0,none⟩) 1 1) [[.bool aK]]::blk af (.cells [.int .i64 X].toArray 3)::blk u (.cells [n,o,p,q,r,s,ag,aj,ai,Y,P,.slice none 0 0,.slice none 0 0,.slice none 0 0].toArray 127)::rowR 3 1 aj (ab ++ [[.int .i64 ao]])::rowR 3 1 ag (aa ++ [[.int .i64 W]])::rowR 24 1 Y ad::rowR 24 1 P ae::L) z<|Fr_ 1 z<|T.fl ?_
     refine T.drop<|T.tgrow Lr<|Tv z (V.nck rfl)<|Tv z (V.fa fdrule2_127_4 rfl)<|T.rowOne 0 rfl fun i1 i2=>Tp z z (SX.one (XA.fr [1] Lr rfl) rfl) (O.st (vs:=[aq]) (k:=8) shrule2_122 rfl rfl (j:=2) rfl i2 (by (simp only [Sl.ones,i1,Bool.and_true,Bool.true_and]) <;> rfl) ?_) T.tno
     refine T.fl ?_
     refine T.tnil (SX.one (XA.fr [2] Lr z) z)<|Th<|Sq<|T.norm [1,7,8,9,10,11,40,41] z<|Sl_ (blk u (.cells [n,o,p,q,r,s,ag,aj,aq,Y,P,.slice none 0 0,.slice none 0 0,.slice none 0 0].toArray 127)::rowR 4 1 aq (ac ++ [[.bool aK]])::blk af (.cells [.int .i64 X].toArray 3)::rowR 3 1 aj (ab ++ [[.int .i64 ao]])::rowR 3 1 ag (aa ++ [[.int .i64 W]])::rowR 24 1 Y ad::rowR 24 1 P ae::L) z<|Fr_ 2 z<|T.fl ?_
     refine T.blkFix fun i3 cI eU=>Fr_ 4 z<|T.fl ?_
     refine Fr_ 1 z<|T.fl ?_
     refine T.drawF (t:=(.v 0 (.v 1 (.v 2 (.v 3 (.x 4 (.v 5 (.v 6 (.v 7 (.alt 8 (.g (.alt 9 (.alt 10 (.g (.v 11 (.v 12 (.alt 13 .done .no)))) .no) .no)) .no)))))))))) 10 2 0 rfl rfl rule2mixed (by kernel_rfl) ?_
     refine Tm z z<|Tm z z<|Tv z (V.nck z)<|Tv z (V.fa fdrule2_127_5 z)<|T.tx z z (Val.XA fun _ _ _=>V.ldO (k:=9) shrule2_87 z (j:=0) z z) z Calm.i<|Tm z z<|Tm z z<|Tv z (V.mkf z z)<|have dk:=(cG.trans cI); have eV:=eJ.mono dk; have eW:=Slc.mono VapiTable.mono eK dk; have c2:=(((((((cZ.trans cC).trans cD).trans c0).trans c1).trans bN).trans cG).trans cI); have eX:=Slc.mono VapiGuest.mono cv c2; have eY:=Slc.mono VapiTie.mono cz c2; have eZ:=Slc.mono VI.mono d5 c2; have e0:=Slc.mono VapiRule.mono d6 c2; ?_
     obtain ⟨i4,i5,H⟩:=bnd H
     refine Tp z z (SX.two (XA.fr [] Lr z) (XA.fr [1,1] Lr z)) (O.callS z (rule_seats_ok (show CF138 i3 (.func (.func 62) #[] #[.pointer (some ⟨cX,0,none⟩),.pointer (some ⟨af,0,none⟩)]) (fun dm=>rule_New_1 dm p1 X) from ⟨⟨z,z⟩,.inr ⟨62,[],[.pointer (some ⟨cX,0,none⟩),.pointer (some ⟨af,0,none⟩)],z,fun e1 bO o7 o8 i6 i7=>rule_New_1_ok (eV.mono bO) (show VapiProblem e1 [a5,aA,aB,a6,a7] p1 from ⟨a5,aA,aB,a6,a7,z,(Slc.mono VapiTable.mono eW bO),(Slc.mono VapiGuest.mono eX bO),(Slc.mono VapiTie.mono eY bO),(Slc.mono VI.mono eZ bO),(Slc.mono VapiRule.mono e0 bO)⟩) (eU.mono bO) (show (VI .i64) e1 [.int .i64 X] X from z) i6 i7⟩⟩) i5 _) z fun bk o9 oh cb i8=>?_) T.tno
     obtain ⟨ol,i9,ih⟩:=i8
     refine Sl_ _ i9<|T.tgrow cb<|T.rowFix fun dn ar il=>have iv:=RowF.mono VI.mono ih ar; have e2:=RowF.slc il iv; Tp z z (SX.two (XA.fr [] ar z) (XA.fr [1,1] ar z)) (O.bs elrule2_87 zerule2_24 z (e:=z) (hk:=z) (xs:=[.tmp 107]) (hv:=CO.eq (CO.cons (Slc.cells e2) CO.nil)) (hw:=Wide.of z) (hd:=z) fun iz=>?_) T.tno
     have dp:RowF (VSl (VI .i64) 1) dn [[bk]] ([i4]:List (List Int)):=(RowF.cons ⟨bk,z,e2⟩ RowF.nil)
     obtain ⟨e3,e4,H⟩:=bnd H
     have e5:=(((eP.trans cI).trans cb).trans ar)
     have e6:=RowF.mono (VSl.mono VI.mono) et e5
     refine Tp z z (SX.two (XA.fr [] ar z) (XA.fr [2,2] ar z)) (O.apX elrule2_87 elrule2_87 zerule2_24 z z z (j:=2) z (Src.row (j:=0) z) (Wide.of z) (RowF.ones VSl.plain dp) e6 dp e4 z fun bP ov oz=>?_) T.tno
     have ja:RowF (VSl (VI .i64) 1) dn (ad ++ [[bk]]) e3:=RowF.ap e6 dp e4
     refine Sl_ (rowR 24 1 bP (ad ++ [[bk]])::rowR 24 1 (.slice (some ⟨iz,0,none⟩) 1 1) [[bk]]::blk u (.cells [n,o,p,q,r,s,ag,aj,aq,Y,P,.slice none 0 0,.slice none 0 0,.slice none 0 0].toArray 127)::rowR 4 1 aq (ac ++ [[.bool aK]])::rowR 3 1 aj (ab ++ [[.int .i64 ao]])::rowR 3 1 ag (aa ++ [[.int .i64 W]])::rowR 24 1 P ae::L) z<|Fr_ 1 z<|T.fl ?_
     refine T.drop<|T.tgrow ar<|Tv z (V.nck rfl)<|Tv z (V.fa fdrule2_127_5 rfl)<|T.rowOne 0 rfl fun jb jc=>Tp z z (SX.one (XA.fr [] Lr rfl) rfl) (O.st (vs:=[bP]) (k:=9) shrule2_87 rfl rfl (j:=1) rfl jc (by (simp only [Sl.ones,jb,Bool.and_true,Bool.true_and]) <;> rfl) ?_) T.tno
     refine T.fl ?_
     refine T.tnil (SX.one (XA.fr [] Lr z) z)<|Th<|Fr_ 5 z<|T.fl ?_
     refine Fr_ 1 z<|T.fl ?_
     refine T.drawF (t:=(.v 0 (.v 1 (.v 2 (.v 3 (.x 4 (.v 5 (.v 6 (.v 7 (.alt 8 (.g (.alt 9 (.alt 10 (.g (.v 11 (.v 12 (.alt 13 .done .no)))) .no) .no)) .no)))))))))) 10 2 0 rfl rfl rule2mixed (by kernel_rfl) ?_
     refine Tm z z<|Tm z z<|Tv z (V.nck z)<|Tv z (V.fa fdrule2_127_6 z)<|T.tx z z (Val.XA fun _ _ _=>V.ldO (k:=10) shrule2_87 z (j:=0) z z) z Calm.i<|Tm z z<|Tm z z<|Tv z (V.mkf z z)<|have bS:=(cb.trans ar); have jd:=eV.mono bS; have je:=Slc.mono VapiTable.mono eW bS; have jf:=Slc.mono VapiGuest.mono eX bS; have jg:=Slc.mono VapiTie.mono eY bS; have ji:=Slc.mono VI.mono eZ bS; have jj:=Slc.mono VapiRule.mono e0 bS; have e7:=eU.mono bS; ?_
     obtain ⟨jk,jm,H⟩:=bnd H
     refine Tp z z (SX.two (XA.fr [] Lr z) (XA.fr [1,1] Lr z)) (O.callS z (rule_seats_ok (show CF138 dn (.func (.func 64) #[] #[.pointer (some ⟨cX,0,none⟩),.pointer (some ⟨af,0,none⟩)]) (fun dm=>rule_New_2 dm p1 X) from ⟨⟨z,z⟩,.inr ⟨64,[],[.pointer (some ⟨cX,0,none⟩),.pointer (some ⟨af,0,none⟩)],z,fun e8 bU pa pb jn jo=>rule_New_2_ok (jd.mono bU) (show VapiProblem e8 [a5,aA,aB,a6,a7] p1 from ⟨a5,aA,aB,a6,a7,z,(Slc.mono VapiTable.mono je bU),(Slc.mono VapiGuest.mono jf bU),(Slc.mono VapiTie.mono jg bU),(Slc.mono VI.mono ji bU),(Slc.mono VapiRule.mono jj bU)⟩) (e7.mono bU) (show (VI .i64) e8 [.int .i64 X] X from z) jn jo⟩⟩) jm _) z fun bV pc pd cc jp=>?_) T.tno
     obtain ⟨pe,jq,jr⟩:=jp
     refine Sl_ _ jq<|T.tgrow cc<|T.rowFix fun e9 au js=>have jt:=RowF.mono VI.mono jr au; have eh:=RowF.slc js jt; Tp z z (SX.two (XA.fr [] au z) (XA.fr [1,1] au z)) (O.bs elrule2_87 zerule2_24 z (e:=z) (hk:=z) (xs:=[.tmp 120]) (hv:=CO.eq (CO.cons (Slc.cells eh) CO.nil)) (hw:=Wide.of z) (hd:=z) fun ju=>?_) T.tno
     have dq:RowF (VSl (VI .i64) 1) e9 [[bV]] ([jk]:List (List Int)):=(RowF.cons ⟨bV,z,eh⟩ RowF.nil)
     obtain ⟨el,ev,H⟩:=bnd H
     have ez:=((e5.trans cc).trans au)
     have fb:=RowF.mono (VSl.mono VI.mono) eu ez
     refine Tp z z (SX.two (XA.fr [] au z) (XA.fr [2,2] au z)) (O.apX elrule2_87 elrule2_87 zerule2_24 z z z (j:=2) z (Src.row (j:=0) z) (Wide.of z) (RowF.ones VSl.plain dq) fb dq ev z fun cJ pf pg=>?_) T.tno
     have jw:RowF (VSl (VI .i64) 1) e9 (ae ++ [[bV]]) el:=RowF.ap fb dq ev
     refine Sl_ (rowR 24 1 cJ (ae ++ [[bV]])::rowR 24 1 (.slice (some ⟨ju,0,none⟩) 1 1) [[bV]]::blk u (.cells [n,o,p,q,r,s,ag,aj,aq,bP,P,.slice none 0 0,.slice none 0 0,.slice none 0 0].toArray 127)::rowR 24 1 bP (ad ++ [[bk]])::rowR 4 1 aq (ac ++ [[.bool aK]])::rowR 3 1 aj (ab ++ [[.int .i64 ao]])::rowR 3 1 ag (aa ++ [[.int .i64 W]])::L) z<|Fr_ 1 z<|T.fl ?_
     refine T.drop<|T.tgrow au<|Tv z (V.nck rfl)<|Tv z (V.fa fdrule2_127_6 rfl)<|T.rowOne 0 rfl fun jx jy=>Tp z z (SX.one (XA.fr [] Lr rfl) rfl) (O.st (vs:=[cJ]) (k:=10) shrule2_87 rfl rfl (j:=1) rfl jy (by (simp only [Sl.ones,jx,Bool.and_true,Bool.true_and]) <;> rfl) ?_) T.tno
     refine T.fl ?_
     refine T.tnil (SX.one (XA.fr [] Lr z) z)<|Bn<|Th<|Sq<|Sr<|have fc:=(cc.trans au); have jA:=e7.mono fc; Vv (V.ld0 shrule2_3 z jA z)<|Nt<|Rg<|To (O.alloc zerule2_3 z z fun fd=>To (O.stF (vs:=[.int .i64 X]) shrule2_3 z z (j:=0) z z z z<|T.fl ?_))
     refine Nt<|T.norm [1,7,8,9,10,11,40,41] z<|Sl_ (blk fd (.cells [.int .i64 X].toArray 3)::blk u (.cells [n,o,p,q,r,s,ag,aj,aq,bP,cJ,.slice none 0 0,.slice none 0 0,.slice none 0 0].toArray 127)::rowR 24 1 cJ (ae ++ [[bV]])::rowR 24 1 bP (ad ++ [[bk]])::rowR 4 1 aq (ac ++ [[.bool aK]])::rowR 3 1 aj (ab ++ [[.int .i64 ao]])::rowR 3 1 ag (aa ++ [[.int .i64 W]])::L) z<|Rg<|Vv (V.ldO0 shrule2_3 z (j:=0) z z) ?_
     obtain ⟨fe,jB,H⟩:=bnd H
     refine Vv (V.addS z z jB)<|To (O.stF (vs:=[.int .i64 fe]) shrule2_3 z z (j:=0) z z z z<|T.fl ?_)
     refine Nt<|have jC:=RowF.mono VI.mono iI ez; have jD:=((((dk.trans cb).trans ar).trans cc).trans au); have jE:=RowF.mono VI.mono iS jD; have jG:=((((cI.trans cb).trans ar).trans cc).trans au); have jI:=RowF.mono VB.mono i0 jG; have jJ:=RowF.mono (VSl.mono VI.mono) ja fc; Fr_ 2 z<|T.fl ?_
     refine Fr_ 3 z<|T.fl ?_
     refine Fr_ 4 z<|T.fl ?_
     refine Fr_ 5 z<|T.fl ?_
     refine Fr_ 6 z<|T.fl ?_
     refine Fr_ 6 z<|T.fl ?_
     have jK:=(((((((c1.trans bN).trans cG).trans cI).trans cb).trans ar).trans cc).trans au)
     exact T.again (iD,ex,eE,eN,e3,el,fe,ag,(aa ++ [[.int .i64 W]]),aj,(ab ++ [[.int .i64 ao]]),aq,(ac ++ [[.bool aK]]),bP,(ad ++ [[bk]]),cJ,(ae ++ [[bV]]),fd) jK (Nat.lt_succ_self _) ⟨(iterK_in H ew),jC,jE,jI,jJ,jw⟩ (AllIn.app ⟨z,trivial⟩ ⟨z,z,z,z,z,z,z,trivial⟩) z
    refine T.exit<|Te<|Te<|have H:=iterK_out H ew; Be<|Th<|Fr_ 6 z<|T.fl ?_
    refine T.drop<|T.met (bG,bI,bJ,bK,bM,aJ,aa,an,ab,ai,ac,Y,ad,P,ae) c1 ⟨H,df,er,es,et,eu⟩ (AllIn.app trivial ⟨z,z,z,z,trivial⟩) z
   rintro ⟨b9,bh,bl,bv,bz,be,bA,bf,bB,bg,bC,bi,bD,bj,bE⟩ pi jM ⟨jN,jO,jP,jS,jU,jV⟩
   have H:=cutE jN it
   refine T.norm [1,7,40,41] z<|Sl_ (blk u (.cells [n,o,p,q,r,s,be,bf,bg,bi,bj,.slice none 0 0,.slice none 0 0,.slice none 0 0].toArray 127)::rowR 3 1 be bA::rowR 3 1 bf bB::rowR 4 1 bg bC::rowR 24 1 bi bD::rowR 24 1 bj bE::L) z<|Bn<|Th<|Rg ?_
   obtain ⟨jW,jX,H⟩:=bnd H
   refine Vv (V.addS z z jX)<|Mv z<|Nt<|have jY:=(((cC.trans cD).trans c0).trans jM); T.again (gv,b9,bh,bl,bv,bz,jW,be,bA,bf,bB,bg,bC,bi,bD,bj,bE) jY (Nat.lt_succ_self _) ⟨(iterK_in H eg),jO,jP,jS,jU,jV⟩ (AllIn.app ⟨z,trivial⟩ ⟨z,z,z,trivial⟩) z
  refine T.exit<|Te<|Te<|have H:=iterK_out H eg; Be<|Th<|T.met (az,ba,bb,bc,bd,aC,aP,aD,aS,aE,aU,aG,aV,aI,aW) cC ⟨H,eb,ec,ed,ee,ef⟩ (AllIn.app trivial ⟨z,z,trivial⟩) z
 rintro ⟨a8,a9,ah,al,av,f,D,d,C,c,A,b,y,a,w⟩ jZ cd ⟨j0,dr,ff,fg,fi,fj⟩
 have H:=cutE j0 g5
 refine T.norm [1,7] z<|Sl_ (blk u (.cells [n,o,p,q,r,s,f,d,c,b,a,.slice none 0 0,.slice none 0 0,.slice none 0 0].toArray 127)::rowR 3 1 f D::rowR 3 1 d C::rowR 4 1 c A::rowR 24 1 b y::rowR 24 1 a w::L) z<|Sq<|Sr<|Mv z<|Vv (V.nck z)<|Vv (V.fa fdrule2_127_2 z)<|Vv (V.ldO (k:=6) shrule2_24 z (j:=0) z z)<|Vv (V.lenX elrule2_24 z (j:=1) z dr.len)<|Mv z<|Nt ?_
 obtain ⟨fk,j1,j2⟩:=bndK H
 refine T.cutK (α:=(List (List (Int×Int)))×Value×(List (List Value))) [1,7] z (fun ⟨ce,m,N⟩=>[]) (fun ⟨ce,m,N⟩=>blk u (.cells [n,o,p,q,r,s,f,d,c,b,a,m,.slice none 0 0,.slice none 0 0].toArray 127)::rowR 3 1 f D::rowR 3 1 d C::rowR 4 1 c A::rowR 24 1 b y::rowR 24 1 a w::rowR 139 1 m N::L) (fun ⟨ce,m,N⟩ hh=>fk = ce∧RowF (VMp (Value.int .i64) false (VI .i64)) hh N ce) ?_ ?_
 ·have H:=j1
  refine Bl<|T.rowNil 139 1<|have j3:RowF (VMp (Value.int .i64) false (VI .i64)) jZ [] ([]:List (List (Int×Int))):=RowF.nil; Fr_ 6 z<|T.fl ?_
  refine Fr_ 6 z<|T.fl ?_
  refine Fr_ 6 z<|T.fl ?_
  refine Fr_ 6 z<|T.fl ?_
  refine Fr_ 6 z<|T.fl ?_
  refine Fr_ 6 z<|T.fl ?_
  refine T.loopK (α:=Nat×(List (List (Int×Int)))×Int×Value×(List (List Value))) [1,7,131] z (fun ⟨cf,bm,cg,S,Z⟩=>[(132,.int .i64 cg)]) (fun ⟨cf,bm,cg,S,Z⟩=>blk u (.cells [n,o,p,q,r,s,f,d,c,b,a,S,.slice none 0 0,.slice none 0 0].toArray 127)::rowR 3 1 f D::rowR 3 1 d C::rowR 4 1 c A::rowR 24 1 b y::rowR 24 1 a w::rowR 139 1 S Z::L) (fun ⟨cf,bm,cg,S,Z⟩ hh=>iter (rule_New_l2 da db a8 a9 ah al av) cf (bm,cg) = some fk∧RowF (VMp (Value.int .i64) false (VI .i64)) hh Z bm) (fun ⟨cf,bm,cg,S,Z⟩=>cf) (FUEL,([]:List (List (Int×Int))),(0:Int),(.slice none 0 0),[]) ⟨z,trivial⟩ z ⟨H,j3⟩ ?_
  rintro ⟨cf,bm,cg,S,Z⟩ pj cK ⟨j4,ds⟩
  obtain ⟨j5,pk,rfl,H,fm⟩:=iter_go j4
  refine T.norm [132,1,7,131] z<|Sl_ (blk u (.cells [n,o,p,q,r,s,f,d,c,b,a,S,.slice none 0 0,.slice none 0 0].toArray 127)::rowR 3 1 f D::rowR 3 1 d C::rowR 4 1 c A::rowR 24 1 b y::rowR 24 1 a w::rowR 139 1 S Z::L) z<|Sr<|Vv (V.lt z z)<|Nt<|Sq<|T.cH H z (fun H=>?_) (fun H=>?_)
  ·refine T.skip<|Th<|Sq<|Bl<|Sr<|Mv z<|Ag z<|Nt<|Fr_ 6 z<|T.fl ?_
   refine Fr_ 1 z<|T.fl ?_
   refine Fr_ 6 z<|T.fl ?_
   refine Fr_ 6 z<|T.fl ?_
   refine Fr_ 6 z<|T.fl ?_
   refine Fr_ 6 z<|T.fl ?_
   refine Fr_ 6 z<|T.fl ?_
   refine T.drawF (t:=(.v 0 (.v 1 (.v 2 (.v 3 (.x 4 (.v 5 (.v 6 (.alt 7 (.g (.alt 8 (.alt 9 (.g (.v 10 (.v 11 (.alt 12 .done .no)))) .no) .no)) .no))))))))) 9 7 5 rfl rfl rule2mixed (by kernel_rfl) ?_
   refine Tm z z<|Tm z z<|Tv z (V.nck z)<|Tv z (V.fa fdrule2_127_7 z)<|T.tx z z (Val.XA fun _ _ _=>V.ldO (k:=11) shrule2_123 z (j:=5) z z) z Calm.i<|Tm z z<|Tm z z<|Fr_ 6 z<|T.fl ?_
   refine Fr_ 5 z<|T.fl ?_
   refine Fr_ 5 z<|T.fl ?_
   refine Fr_ 5 z<|T.fl ?_
   refine Fr_ 5 z<|T.fl ?_
   refine Fr_ 5 z<|T.fl ?_
   refine Fr_ 6 z<|T.fl ?_
   obtain ⟨bn,j6,H⟩:=bnd H
   refine Tp z z (SX.two (XA.fr [5,5,5,5,5] Lr z) (XA.fr [6,1,6,6,6,6,6] Lr z)) (O.callS z (FnS.lendG (R:=fun v h' L'=>∃ L1_,L' = rowR 3 1 f D::L1_∧(∃ L2_,L1_ = rowR 3 1 d C::L2_∧(∃ L3_,L2_ = rowR 4 1 c A::L3_∧(∃ L4_,L3_ = rowR 24 1 b y::L4_∧(∃ L5_,L4_ = rowR 24 1 a w::L5_∧(∃ L6_,L5_ = rowR 139 1 S Z::L6_∧(∃ (U:Nat) (G:List MapEntry),v = .map (some U)∧L6_ = blk U (.map G.toArray G.length)::L∧MapG (Value.int .i64) false (VI .i64) h' 0 G bn))))))) Tryz.func66 z (fun _ _ _ _ ⟨a5_,b5_,⟨a4_,b4_,⟨a3_,b3_,⟨a2_,b2_,⟨a1_,b1_,⟨a0_,b0_,⟨e_0,e_1,v_,l_,f_0⟩⟩⟩⟩⟩⟩⟩=>⟨a5_,b5_,⟨a4_,b4_,⟨a3_,b3_,⟨a2_,b2_,⟨a1_,b1_,⟨a0_,b0_,⟨e_0,e_1,v_,l_,(MapG.free VI.free f_0)⟩⟩⟩⟩⟩⟩⟩) lendB fun pm c3 j7=>FnS.lendG (R:=fun v h' L'=>∃ L1_,L' = rowR 3 1 d C::L1_∧(∃ L2_,L1_ = rowR 4 1 c A::L2_∧(∃ L3_,L2_ = rowR 24 1 b y::L3_∧(∃ L4_,L3_ = rowR 24 1 a w::L4_∧(∃ L5_,L4_ = rowR 139 1 S Z::L5_∧(∃ (U:Nat) (G:List MapEntry),v = .map (some U)∧L5_ = blk U (.map G.toArray G.length)::L∧MapG (Value.int .i64) false (VI .i64) h' 0 G bn)))))) Tryz.func66 z (fun _ _ _ _ ⟨a4_,b4_,⟨a3_,b3_,⟨a2_,b2_,⟨a1_,b1_,⟨a0_,b0_,⟨e_0,e_1,v_,l_,f_0⟩⟩⟩⟩⟩⟩=>⟨a4_,b4_,⟨a3_,b3_,⟨a2_,b2_,⟨a1_,b1_,⟨a0_,b0_,⟨e_0,e_1,v_,l_,(MapG.free VI.free f_0)⟩⟩⟩⟩⟩⟩) lendR fun pn cM j8=>FnS.lendG (R:=fun v h' L'=>∃ L1_,L' = rowR 4 1 c A::L1_∧(∃ L2_,L1_ = rowR 24 1 b y::L2_∧(∃ L3_,L2_ = rowR 24 1 a w::L3_∧(∃ L4_,L3_ = rowR 139 1 S Z::L4_∧(∃ (U:Nat) (G:List MapEntry),v = .map (some U)∧L4_ = blk U (.map G.toArray G.length)::L∧MapG (Value.int .i64) false (VI .i64) h' 0 G bn))))) Tryz.func66 z (fun _ _ _ _ ⟨a3_,b3_,⟨a2_,b2_,⟨a1_,b1_,⟨a0_,b0_,⟨e_0,e_1,v_,l_,f_0⟩⟩⟩⟩⟩=>⟨a3_,b3_,⟨a2_,b2_,⟨a1_,b1_,⟨a0_,b0_,⟨e_0,e_1,v_,l_,(MapG.free VI.free f_0)⟩⟩⟩⟩⟩) lendR fun po ci j9=>FnS.lendG (R:=fun v h' L'=>∃ L1_,L' = rowR 24 1 b y::L1_∧(∃ L2_,L1_ = rowR 24 1 a w::L2_∧(∃ L3_,L2_ = rowR 139 1 S Z::L3_∧(∃ (U:Nat) (G:List MapEntry),v = .map (some U)∧L3_ = blk U (.map G.toArray G.length)::L∧MapG (Value.int .i64) false (VI .i64) h' 0 G bn)))) Tryz.func66 z (fun _ _ _ _ ⟨a2_,b2_,⟨a1_,b1_,⟨a0_,b0_,⟨e_0,e_1,v_,l_,f_0⟩⟩⟩⟩=>⟨a2_,b2_,⟨a1_,b1_,⟨a0_,b0_,⟨e_0,e_1,v_,l_,(MapG.free VI.free f_0)⟩⟩⟩⟩) lendR fun pp bW jh=>FnS.lendG (R:=fun v h' L'=>∃ L1_,L' = rowR 24 1 a w::L1_∧(∃ L2_,L1_ = rowR 139 1 S Z::L2_∧(∃ (U:Nat) (G:List MapEntry),v = .map (some U)∧L2_ = blk U (.map G.toArray G.length)::L∧MapG (Value.int .i64) false (VI .i64) h' 0 G bn))) Tryz.func66 z (fun _ _ _ _ ⟨a1_,b1_,⟨a0_,b0_,⟨e_0,e_1,v_,l_,f_0⟩⟩⟩=>⟨a1_,b1_,⟨a0_,b0_,⟨e_0,e_1,v_,l_,(MapG.free VI.free f_0)⟩⟩⟩) lendR fun pq bo jl=>FnS.lendG (R:=fun v h' L'=>∃ L1_,L' = rowR 139 1 S Z::L1_∧(∃ (U:Nat) (G:List MapEntry),v = .map (some U)∧L1_ = blk U (.map G.toArray G.length)::L∧MapG (Value.int .i64) false (VI .i64) h' 0 G bn)) Tryz.func66 z (fun _ _ _ _ ⟨a0_,b0_,⟨e_0,e_1,v_,l_,f_0⟩⟩=>⟨a0_,b0_,⟨e_0,e_1,v_,l_,(MapG.free VI.free f_0)⟩⟩) lendR fun pr aX jv=>FnS.lendG (R:=fun v h' L'=>∃ (U:Nat) (G:List MapEntry),v = .map (some U)∧L' = blk U (.map G.toArray G.length)::L∧MapG (Value.int .i64) false (VI .i64) h' 0 G bn) Tryz.func66 z (fun _ _ _ _ ⟨e_0,e_1,v_,l_,f_0⟩=>⟨e_0,e_1,v_,l_,(MapG.free VI.free f_0)⟩) lendR fun jz aY ka=>?_) z fun ps pt pu dt kb=>?_) T.tno
   ·have fn:=((cK.trans c3).trans cM)
    have kc:=RowF.mono VI.mono dr fn
    have kd:=RowF.slc j8 kc
    have fo:=(fn.trans ci)
    have ke:=RowF.mono VI.mono ff fo
    have kf:=RowF.slc j9 ke
    have fp:=(fo.trans bW)
    have kg:=RowF.mono VB.mono fg fp
    have ki:=RowF.slc jh kg
    have fq:=(fp.trans bo)
    have kj:=RowF.mono (VSl.mono VI.mono) fi fq
    have kk:=RowF.slc jl kj
    have km:=(fq.trans aX)
    have kn:=RowF.mono (VSl.mono VI.mono) fj km
    have ko:=RowF.slc jv kn
    have kp:=((((((c3.trans cM).trans ci).trans bW).trans bo).trans aX).trans aY)
    have kq:=RowF.mono (VMp.mono VI.mono) ds kp
    have kr:=RowF.slc ka kq
    have ks:=(((((cM.trans ci).trans bW).trans bo).trans aX).trans aY)
    have kt:=j7.mono ks
    have cN:=(((((((((cY.trans cd).trans cK).trans c3).trans cM).trans ci).trans bW).trans bo).trans aX).trans aY)
    have ku:=Slc.mono VapiTable.mono d8 cN
    have kw:=Slc.mono VapiGuest.mono d9 cN
    have kx:=Slc.mono VapiTie.mono dh cN
    have ky:=Slc.mono VI.mono dl cN
    have kA:=Slc.mono VapiRule.mono dv cN
    have kB:=((((((((cd.trans cK).trans c3).trans cM).trans ci).trans bW).trans bo).trans aX).trans aY)
    have kC:=Mp.mono Vrulekind.mono dc kB
    have kD:=((((ci.trans bW).trans bo).trans aX).trans aY)
    have kE:=Slc.mono VI.mono kd kD
    have kG:=(((bW.trans bo).trans aX).trans aY)
    have kI:=Slc.mono VI.mono kf kG
    have kJ:=((bo.trans aX).trans aY)
    have kK:=Slc.mono VB.mono ki kJ
    have kM:=(aX.trans aY)
    have kN:=Slc.mono (VSl.mono VI.mono) kk kM
    have kO:=Slc.mono (VSl.mono VI.mono) ko aY
    exact Judge_walk_ok (Pt.mk kt (show VruleJudge jz [n,o,p,q,r,s,f,d,c,b,a,S,.slice none 0 0,.slice none 0 0] (ruleJudge.mk da db a8 a9 ah al av bm ([]:List (List Bool)) ([]:List (List Int))) from ⟨n,o,p,q,r,s,f,d,c,b,a,S,(.slice none 0 0),(.slice none 0 0),z,ku,kw,kx,ky,kA,kC,kE,kI,kK,kN,kO,kr,Slc.nil,Slc.nil⟩)) j6 _
   obtain ⟨_,rfl,⟨_,rfl,⟨_,rfl,⟨_,rfl,⟨_,rfl,⟨_,rfl,⟨_,rfl,⟨bX,fs,rfl,rfl,kP⟩⟩⟩⟩⟩⟩⟩⟩:=kb
   refine Sl_ (blk u (.cells [n,o,p,q,r,s,f,d,c,b,a,S,.slice none 0 0,.slice none 0 0].toArray 127)::rowR 3 1 f D::rowR 3 1 d C::rowR 4 1 c A::rowR 24 1 b y::rowR 24 1 a w::rowR 139 1 S Z::blk bX (.map fs.toArray fs.length)::L) z<|T.tgrow dt<|Fr_ 7 z<|T.fl ?_
   refine T.mapFix VI.mono kP fun ft bY fu=>Tp z z (SX.two (XA.fr [5,5,5,5,5] bY z) (XA.fr [6,1,6,6,6,6,6] bY z)) (O.bs elrule2_123 zerule2_139 z (e:=z) (hk:=z) (xs:=[.tmp 142]) (hv:=CO.eq (CO.cons (Mp.cells fu) CO.nil)) (hw:=Wide.of z) (hd:=z) fun kS=>?_) T.tno
   have du:RowF (VMp (Value.int .i64) false (VI .i64)) ft [[(.map (some bX))]] ([bn]:List (List (Int×Int))):=(RowF.cons ⟨(.map (some bX)),z,fu⟩ RowF.nil)
   obtain ⟨fw,fx,H⟩:=bnd H
   have kU:=(dt.trans bY)
   have fy:=RowF.mono (VMp.mono VI.mono) ds kU
   refine Tp z z (SX.two (XA.fr [6,6,6,6,6] bY z) (XA.fr [7,2,7,7,7,7,7] bY z)) (O.apX elrule2_123 elrule2_123 zerule2_139 z z z (j:=7) z (Src.row (j:=0) z) (Wide.of z) (RowF.ones VMp.plain du) fy du fx z fun dw pw px=>?_) T.tno
   have kV:RowF (VMp (Value.int .i64) false (VI .i64)) ft (Z ++ [[(.map (some bX))]]) fw:=RowF.ap fy du fx
   refine Sl_ (rowR 139 1 dw (Z ++ [[(.map (some bX))]])::rowR 139 1 (.slice (some ⟨kS,0,none⟩) 1 1) [[(.map (some bX))]]::blk u (.cells [n,o,p,q,r,s,f,d,c,b,a,S,.slice none 0 0,.slice none 0 0].toArray 127)::rowR 3 1 f D::rowR 3 1 d C::rowR 4 1 c A::rowR 24 1 b y::rowR 24 1 a w::L) z<|Fr_ 1 z<|T.fl ?_
   refine T.drop<|T.tgrow bY<|Tv z (V.nck rfl)<|Tv z (V.fa fdrule2_127_7 rfl)<|T.rowOne 0 rfl fun kW kX=>Tp z z (SX.one (XA.fr [6,6,6,6,6] Lr rfl) rfl) (O.st (vs:=[dw]) (k:=11) shrule2_123 rfl rfl (j:=1) rfl kX (by (simp only [Sl.ones,kW,Bool.and_true,Bool.true_and]) <;> rfl) ?_) T.tno
   refine T.fl ?_
   refine T.tnil (SX.one (XA.fr [6,6,6,6,6] Lr z) z)<|Bn<|Th<|Rg ?_
   obtain ⟨kY,kZ,H⟩:=bnd H
   refine Vv (V.addS z z kZ)<|Mv z<|Nt<|Fr_ 1 z<|T.fl ?_
   refine Fr_ 6 z<|T.fl ?_
   refine Fr_ 6 z<|T.fl ?_
   refine Fr_ 6 z<|T.fl ?_
   refine Fr_ 6 z<|T.fl ?_
   refine Fr_ 6 z<|T.fl ?_
   refine Fr_ 6 z<|T.fl ?_
   have k0:=((cK.trans dt).trans bY)
   exact T.again (j5,fw,kY,dw,(Z ++ [[(.map (some bX))]])) k0 (Nat.lt_succ_self _) ⟨(iterK_in H fm),kV⟩ (AllIn.app ⟨z,trivial⟩ ⟨z,z,z,trivial⟩) z
  refine T.exit<|Te<|Te<|have H:=iterK_out H fm; Be<|Th<|T.met (bm,S,Z) cK ⟨H,ds⟩ (AllIn.app trivial ⟨z,z,trivial⟩) z
 rintro ⟨ce,m,N⟩ k1 cO ⟨k2,k3⟩
 have H:=cutE k2 j2
 refine T.norm [1,7] z<|Sl_ (blk u (.cells [n,o,p,q,r,s,f,d,c,b,a,m,.slice none 0 0,.slice none 0 0].toArray 127)::rowR 3 1 f D::rowR 3 1 d C::rowR 4 1 c A::rowR 24 1 b y::rowR 24 1 a w::rowR 139 1 m N::L) z<|Sr<|Vv (V.fa fdrule2_32_1 z)<|have fA:=(cd.trans cO); have dx:=dd.mono fA; Vv (V.ldf (k:=1) shrule2_28 z dx z)<|Vv (V.fa fdrule2_32_2 z)<|Vv (V.ldf (k:=2) shrule2_29 z dx z)<|have fB:=((cZ.trans cd).trans cO); have fC:=Slc.mono VapiTie.mono cz fB; have dy:=Slc.mono VapiGuest.mono cv fB; Vv (V.bld (xs:=[(0,.tmp 150),(1,.tmp 152)]) (cs:=[_,_]) blrule2_145 borule2_145 z (Fills.cons z (Slc.cells dy) z (Fills.cons z (Slc.cells fC) z Fills.nil))) ?_
 obtain ⟨⟨fD,py,pA⟩,k4,H⟩:=bnd H
 refine To (O.callS z (guest_Load_ok (show VapiRoll k1 [aA,aB] (apiRoll.mk p1.fGuests p1.fTies) from ⟨aA,aB,z,dy,fC⟩) k4 _) z fun pB fE pC bZ k5=>?_)
 obtain ⟨pD,rfl,k6,k7⟩:=k5
 refine Sl_ _ k6<|Mv z<|Vv (V.ext z z)<|Vv (V.ext z z)<|Vv (V.ext z z)<|Ag z<|Ag z<|Ag z<|Nt<|Sq<|Sr<|Vv (V.fa fdrule2_32_1 z)<|have fG:=dx.mono bZ; Vv (V.ldf (k:=1) shrule2_28 z fG z)<|have fI:=Slc.mono VapiGuest.mono dy bZ; Vv (V.lenS elrule2_28 z fI)<|Mv z<|Nt ?_
 obtain ⟨fJ,k8,k9⟩:=bndK H
 refine T.cutK (α:=(List (List Bool))×(List (List Int))×Value×(List (List Value))×Value×(List (List Value))) [7] z (fun ⟨cj,ck,aZ,cm,a0,cn⟩=>[]) (fun ⟨cj,ck,aZ,cm,a0,cn⟩=>blk u (.cells [n,o,p,q,r,s,f,d,c,b,a,m,aZ,a0].toArray 127)::rowR 3 1 f D::rowR 3 1 d C::rowR 4 1 c A::rowR 24 1 b y::rowR 24 1 a w::rowR 139 1 m N::rowR 122 1 aZ cm::rowR 146 1 a0 cn::L) (fun ⟨cj,ck,aZ,cm,a0,cn⟩ hh=>fJ = (cj,ck)∧RowF (VSl VB 1) hh cm cj∧RowF (VSl (VI .u8) 1) hh cn ck) ?_ ?_
 ·have H:=k8
  refine Bl<|T.rowNil 122 1<|have kh:RowF (VSl VB 1) fE [] ([]:List (List Bool)):=RowF.nil; T.rowNil 146 1<|have kl:RowF (VSl (VI .u8) 1) fE [] ([]:List (List Int)):=RowF.nil; Fr_ 1 z<|T.fl ?_
  refine Fr_ 8 z<|T.fl ?_
  refine Fr_ 8 z<|T.fl ?_
  refine Fr_ 8 z<|T.fl ?_
  refine Fr_ 8 z<|T.fl ?_
  refine Fr_ 8 z<|T.fl ?_
  refine Fr_ 8 z<|T.fl ?_
  refine Fr_ 8 z<|T.fl ?_
  refine T.loopK (α:=Nat×(List (List Bool))×(List (List Int))×Int×Value×(List (List Value))×Value×(List (List Value))) [1,7,13,159,160] z (fun ⟨co,b0,b1,cp,E,I,B,J⟩=>[(161,.int .i64 cp)]) (fun ⟨co,b0,b1,cp,E,I,B,J⟩=>blk u (.cells [n,o,p,q,r,s,f,d,c,b,a,m,E,B].toArray 127)::rowR 3 1 f D::rowR 3 1 d C::rowR 4 1 c A::rowR 24 1 b y::rowR 24 1 a w::rowR 139 1 m N::rowR 122 1 E I::rowR 146 1 B J::L) (fun ⟨co,b0,b1,cp,E,I,B,J⟩ hh=>iter (rule_New_l3 p1 fD) co (b0,b1,cp) = some fJ∧RowF (VSl VB 1) hh I b0∧RowF (VSl (VI .u8) 1) hh J b1) (fun ⟨co,b0,b1,cp,E,I,B,J⟩=>co) (FUEL,([]:List (List Bool)),([]:List (List Int)),(0:Int),(.slice none 0 0),[],(.slice none 0 0),[]) ⟨z,trivial⟩ z ⟨H,kh,kl⟩ ?_
  rintro ⟨co,b0,b1,cp,E,I,B,J⟩ pE dA ⟨kv,c4,c5⟩
  obtain ⟨dB,pG,rfl,H,c6⟩:=iter_go kv
  refine T.norm [161,1,7,13,159,160] z<|Sl_ (blk u (.cells [n,o,p,q,r,s,f,d,c,b,a,m,E,B].toArray 127)::rowR 3 1 f D::rowR 3 1 d C::rowR 4 1 c A::rowR 24 1 b y::rowR 24 1 a w::rowR 139 1 m N::rowR 122 1 E I::rowR 146 1 B J::L) z<|Sr<|Vv (V.lt z z)<|Nt<|Sq<|T.cH H z (fun H=>?_) (fun H=>?_)
  ·refine T.skip<|Th<|Sq<|Bl<|Sr ?_
   obtain ⟨a1,fK,H⟩:=bnd H
   have dC:=Slc.mono VapiGuest.mono fI dA
   obtain ⟨pI,kz,⟨ma,rfl,mb⟩⟩:=Slc.at dC fK
   refine Vv (V.ix elrule2_28 rfl rfl dC (getI_bd fK))<|Vv (V.ldS rfl kz (by exact shrule2_38)) ?_
   refine To (O.alloc zerule2_38 rfl rfl fun pJ=>To (O.stF (vs:=[.string a1.fName,.string a1.fRank,.string a1.fCourt,.int .i64 a1.fSince,.int .i64 a1.fSide,.string a1.fDiet,.bool a1.fHost,.bool a1.fAccess,ma]) shrule2_38 rfl rfl (j:=0) rfl rfl (by (simp only [Sl.ones,Slc.one mb,Bool.and_true,Bool.true_and]) <;> rfl) rfl ?_))
   refine T.fl ?_
   refine T.freeze fun fM cP mc=>have md:=AtC.of mc; Nt<|Sr<|Ag z<|Nt<|Sr<|Ag z<|Nt<|Sq<|Sr<|Vv (V.fa fdrule2_32_1 z)<|have cS:=(dA.trans cP); have me:=fG.mono cS; Vv (V.ldf (k:=1) shrule2_28 z me z)<|have fN:=Slc.mono VapiGuest.mono dC cP; Vv (V.lenS elrule2_28 z fN)<|Mv z<|Nt ?_
   obtain ⟨fO,mf,mg⟩:=bndK H
   refine T.cutK (α:=(List Bool)×(List Int)×Value×(List (List Value))×Value×(List (List Value))) [1,7,13,159,160,161] z (fun ⟨b2,bp,M,cq,K,cr⟩=>[(18,M),(19,K)]) (fun ⟨b2,bp,M,cq,K,cr⟩=>blk u (.cells [n,o,p,q,r,s,f,d,c,b,a,m,E,B].toArray 127)::rowR 3 1 f D::rowR 3 1 d C::rowR 4 1 c A::rowR 24 1 b y::rowR 24 1 a w::rowR 139 1 m N::rowR 122 1 E I::rowR 146 1 B J::rowR 4 1 M cq::rowR 148 1 K cr::L) (fun ⟨b2,bp,M,cq,K,cr⟩ hh=>fO = (b2,bp)∧RowF VB hh cq b2∧RowF (VI .u8) hh cr bp) ?_ ?_
   ·have H:=mf
    refine Bl<|T.rowNil 4 1<|have mi:RowF VB fM [] ([]:List Bool):=RowF.nil; T.rowNil 148 1<|have mj:RowF (VI .u8) fM [] ([]:List Int):=RowF.nil; Fr_ 1 z<|T.fl ?_
    refine Fr_ 10 z<|T.fl ?_
    refine Fr_ 10 z<|T.fl ?_
    refine Fr_ 10 z<|T.fl ?_
    refine Fr_ 10 z<|T.fl ?_
    refine Fr_ 10 z<|T.fl ?_
    refine Fr_ 10 z<|T.fl ?_
    refine Fr_ 10 z<|T.fl ?_
    refine Fr_ 10 z<|T.fl ?_
    refine Fr_ 10 z<|T.fl ?_
    refine T.loopK (α:=Nat×Int×(List Bool)×(List Int)×Value×(List (List Value))×Value×(List (List Value))) [1,7,13,17,159,160,161,166,167] z (fun ⟨ct,cu,b3,b4,bq,ak,a2,am⟩=>[(168,.int .i64 cu),(18,bq),(19,a2)]) (fun ⟨ct,cu,b3,b4,bq,ak,a2,am⟩=>blk u (.cells [n,o,p,q,r,s,f,d,c,b,a,m,E,B].toArray 127)::rowR 3 1 f D::rowR 3 1 d C::rowR 4 1 c A::rowR 24 1 b y::rowR 24 1 a w::rowR 139 1 m N::rowR 122 1 E I::rowR 146 1 B J::rowR 4 1 bq ak::rowR 148 1 a2 am::L) (fun ⟨ct,cu,b3,b4,bq,ak,a2,am⟩ hh=>iter (rule_New_l4 p1 fD a1) ct (cu,b3,b4) = some fO∧RowF VB hh ak b3∧RowF (VI .u8) hh am b4) (fun ⟨ct,cu,b3,b4,bq,ak,a2,am⟩=>ct) (FUEL,(0:Int),([]:List Bool),([]:List Int),(.slice none 0 0),[],(.slice none 0 0),[]) ⟨z,z,z,trivial⟩ z ⟨H,mi,mj⟩ ?_
    rintro ⟨ct,cu,b3,b4,bq,ak,a2,am⟩ pK c7 ⟨mm,fP,fS⟩
    obtain ⟨mn,pM,rfl,H,fU⟩:=iter_go mm
    refine T.norm [168,18,19,1,7,13,17,159,160,161,166,167] z<|Sl_ (blk u (.cells [n,o,p,q,r,s,f,d,c,b,a,m,E,B].toArray 127)::rowR 3 1 f D::rowR 3 1 d C::rowR 4 1 c A::rowR 24 1 b y::rowR 24 1 a w::rowR 139 1 m N::rowR 122 1 E I::rowR 146 1 B J::rowR 4 1 bq ak::rowR 148 1 a2 am::L) z<|Sr<|Vv (V.lt z z)<|Nt<|Sq<|T.cH H z (fun H=>?_) (fun H=>?_)
    ·refine T.skip<|Th<|Sq<|Bl<|Sr ?_
     obtain ⟨br,fV,H⟩:=bnd H
     have fW:=Slc.mono VapiGuest.mono fN c7
     obtain ⟨pN,mo,⟨mp,rfl,mq⟩⟩:=Slc.at fW fV
     refine Vv (V.ix elrule2_28 rfl rfl fW (getI_bd fV))<|Vv (V.ldS rfl mo (by exact shrule2_38)) ?_
     refine To (O.alloc zerule2_38 rfl rfl fun pO=>To (O.stF (vs:=[.string br.fName,.string br.fRank,.string br.fCourt,.int .i64 br.fSince,.int .i64 br.fSide,.string br.fDiet,.bool br.fHost,.bool br.fAccess,mp]) shrule2_38 rfl rfl (j:=0) rfl rfl (by (simp only [Sl.ones,Slc.one mq,Bool.and_true,Bool.true_and]) <;> rfl) rfl ?_))
     refine T.fl ?_
     refine T.freeze fun pP dD mr=>have fX:=AtC.of mr; Nt<|Sr<|Mv z<|Mv z<|Vv (V.fa fdrule2_38_0 z)<|have fY:=(c7.trans dD); have fZ:=md.mono fY; Vv (V.ldf (k:=0) shrule2_9 z fZ z)<|Vv (V.fa fdrule2_38_0 z)<|Vv (V.ldf (k:=0) shrule2_9 z fX z)<|have ms:=((cS.trans c7).trans dD); have f0:=Pt.mono VguestBook.mono k7 ms; ?_
     obtain ⟨bt,mt,H⟩:=bnd H
     refine To (O.callS z (Book_Common_ok f0 mt _) z fun dE f1 pS cU mu=>?_)
     obtain ⟨dG,mw,mx⟩:=mu
     refine Sl_ _ mw<|Vv (V.lenX elrule2_22 z (j:=0) z mx.len)<|Vv (V.gt z z)<|To (O.bs elrule2_122 zerule2_4 z (e:=z) (hk:=z) (xs:=[.tmp 180]) (hv:=CO.eq (CO.cons z CO.nil)) (hw:=Wide.of z) (hd:=z) fun my=>have dI:RowF VB f1 [[.bool (decide ((0:Int) < (bt.length:Int)))]] ([decide ((0:Int) < (bt.length:Int))]:List Bool):=(RowF.cons z RowF.nil); ?_)
     obtain ⟨f2,f3,H⟩:=bnd H
     have f4:=(dD.trans cU)
     have f5:=RowF.mono VB.mono fP f4
     refine To (O.apX elrule2_122 elrule2_122 zerule2_4 z z z (j:=11) z (Src.row (j:=0) z) (Wide.of z) (RowF.ones VB.plain dI) f5 dI f3 z fun c8 pU pV=>have mA:RowF VB f1 (ak ++ [[.bool (decide ((0:Int) < (bt.length:Int)))]]) f2:=RowF.ap f5 dI f3; Sl_ (rowR 4 1 c8 (ak ++ [[.bool (decide ((0:Int) < (bt.length:Int)))]])::rowR 4 1 (.slice (some ⟨my,0,none⟩) 1 1) [[.bool (decide ((0:Int) < (bt.length:Int)))]]::rowR 9 1 dE dG::blk u (.cells [n,o,p,q,r,s,f,d,c,b,a,m,E,B].toArray 127)::rowR 3 1 f D::rowR 3 1 d C::rowR 4 1 c A::rowR 24 1 b y::rowR 24 1 a w::rowR 139 1 m N::rowR 122 1 E I::rowR 146 1 B J::rowR 148 1 a2 am::L) z<|Fr_ 1 z<|T.fl ?_)
     refine T.drop<|Ag z<|Nt<|Sr<|Mv z<|Vv (V.fa fdrule2_38_0 z)<|have mB:=fZ.mono cU; Vv (V.ldf (k:=0) shrule2_9 z mB z)<|Vv (V.fa fdrule2_38_0 z)<|have mC:=fX.mono cU; Vv (V.ldf (k:=0) shrule2_9 z mC z)<|have mD:=Pt.mono VguestBook.mono f0 cU; ?_
     obtain ⟨⟨b5,pW⟩,mE,H⟩:=bnd H
     refine To (O.callS z (Book_Tied_ok mD mE _) z fun pX f6 pY dJ mG=>?_)
     obtain ⟨rfl,mI⟩:=mG
     refine Sl_ _ mI<|Mv z<|Vv (V.ext z z)<|Vv (V.ext z z)<|Ag z<|Ag z<|Nt<|Rg<|Mv z<|Mv z<|To (O.bs elrule2_146 zerule2_148 z (e:=z) (hk:=z) (xs:=[.tmp 193]) (hv:=CO.eq (CO.cons z CO.nil)) (hw:=Wide.of z) (hd:=z) fun mJ=>have dK:RowF (VI .u8) f6 [[.int .u8 b5]] ([b5]:List Int):=(RowF.cons z RowF.nil); ?_)
     obtain ⟨f7,f8,H⟩:=bnd H
     have mK:=(f4.trans dJ)
     have f9:=RowF.mono VI.mono fS mK
     refine To (O.apX elrule2_146 elrule2_146 zerule2_148 z z z (j:=12) z (Src.row (j:=0) z) (Wide.of z) (RowF.ones VI.plain dK) f9 dK f8 z fun dM pZ p0=>have mM:RowF (VI .u8) f6 (am ++ [[.int .u8 b5]]) f7:=RowF.ap f9 dK f8; Sl_ (rowR 148 1 dM (am ++ [[.int .u8 b5]])::rowR 148 1 (.slice (some ⟨mJ,0,none⟩) 1 1) [[.int .u8 b5]]::rowR 4 1 c8 (ak ++ [[.bool (decide ((0:Int) < (bt.length:Int)))]])::rowR 9 1 dE dG::blk u (.cells [n,o,p,q,r,s,f,d,c,b,a,m,E,B].toArray 127)::rowR 3 1 f D::rowR 3 1 d C::rowR 4 1 c A::rowR 24 1 b y::rowR 24 1 a w::rowR 139 1 m N::rowR 122 1 E I::rowR 146 1 B J::L) z<|Fr_ 1 z<|T.fl ?_)
     refine T.drop<|Ag z<|Ni<|Bn<|Th<|T.norm [1,7,13,17,18,19,159,160,161,166,167,168] z<|Sl_ (rowR 148 1 dM (am ++ [[.int .u8 b5]])::rowR 4 1 c8 (ak ++ [[.bool (decide ((0:Int) < (bt.length:Int)))]])::rowR 9 1 dE dG::blk u (.cells [n,o,p,q,r,s,f,d,c,b,a,m,E,B].toArray 127)::rowR 3 1 f D::rowR 3 1 d C::rowR 4 1 c A::rowR 24 1 b y::rowR 24 1 a w::rowR 139 1 m N::rowR 122 1 E I::rowR 146 1 B J::L) z<|Rg ?_
     obtain ⟨mN,mO,H⟩:=bnd H
     refine Vv (V.addS z z mO)<|Mv z<|Nt<|have mP:=RowF.mono VB.mono mA dJ; Fr_ 2 z<|T.fl ?_
     refine T.drop<|Fr_ 1 z<|T.fl ?_
     refine Fr_ 10 z<|T.fl ?_
     refine Fr_ 10 z<|T.fl ?_
     refine Fr_ 10 z<|T.fl ?_
     refine Fr_ 10 z<|T.fl ?_
     refine Fr_ 10 z<|T.fl ?_
     refine Fr_ 10 z<|T.fl ?_
     refine Fr_ 10 z<|T.fl ?_
     refine Fr_ 10 z<|T.fl ?_
     refine Fr_ 10 z<|T.fl ?_
     have mS:=((fY.trans cU).trans dJ)
     exact T.again (mn,mN,f2,f7,c8,(ak ++ [[.bool (decide ((0:Int) < (bt.length:Int)))]]),dM,(am ++ [[.int .u8 b5]])) mS (Nat.lt_succ_self _) ⟨(iterK_in H fU),mP,mM⟩ (AllIn.app ⟨z,z,z,trivial⟩ ⟨z,z,z,z,z,z,z,z,z,trivial⟩) z
    refine T.exit<|Te<|Te<|have H:=iterK_out H fU; Be<|Th<|T.met (b3,b4,bq,ak,a2,am) c7 ⟨H,fP,fS⟩ (AllIn.app ⟨z,z,trivial⟩ ⟨z,z,z,z,z,z,trivial⟩) z
   rintro ⟨b2,bp,M,cq,K,cr⟩ p2 cw ⟨mU,mV,mW⟩
   have H:=cutE mU mg
   refine T.norm [18,19,1,7,13,159,160,161] z<|Sl_ (blk u (.cells [n,o,p,q,r,s,f,d,c,b,a,m,E,B].toArray 127)::rowR 3 1 f D::rowR 3 1 d C::rowR 4 1 c A::rowR 24 1 b y::rowR 24 1 a w::rowR 139 1 m N::rowR 122 1 E I::rowR 146 1 B J::rowR 4 1 M cq::rowR 148 1 K cr::L) z<|Fr_ 9 z<|T.fl ?_
   refine T.rowFix fun p3 bu mX=>have mY:=RowF.mono VB.mono mV bu; have fh:=RowF.slc mX mY; Fr_ 9 z<|T.fl ?_
   refine T.rowFix fun aw a3 mZ=>have m0:=(bu.trans a3); have m1:=RowF.mono VI.mono mW m0; have cx:=RowF.slc mZ m1; T.drawF (t:=(.v 0 (.v 1 (.v 2 (.v 3 (.v 4 (.x 5 (.v 6 (.v 9 (.v 10 (.v 11 (.x 12 (.v 13 (.alt 7 (.alt 8 (.g (.alt 14 (.alt 15 (.g (.v 16 (.v 17 (.alt 18 (.g (.v 19 (.v 20 (.alt 21 .done .no)))) .no)))) .no) .no)) (.alt 14 (.alt 8 (.g (.alt 15 (.g (.v 16 (.v 17 (.alt 18 (.g (.v 19 (.v 20 (.alt 21 .done .no)))) .no)))) .no)) .no) .no)) (.alt 14 (.alt 7 (.alt 8 (.g (.alt 15 (.g (.v 16 (.v 17 (.alt 18 (.g (.v 19 (.v 20 (.alt 21 .done .no)))) .no)))) .no)) .no) .no) .no))))))))))))))) 18 1 0 rfl rfl rule2mixed (by kernel_rfl) ?_
   refine Tm z z<|Tm z z<|Tm z z<|Tv z (V.nck z)<|Tv z (V.fa fdrule2_127_8 z)<|T.tx z z (Val.XA fun _ _ _=>V.ldO (k:=12) shrule2_124 z (j:=0) z z) z Calm.i<|Tm z z<|Tm z z<|Tv z (V.nck z)<|Tv z (V.fa fdrule2_127_9 z)<|T.tx z z (Val.XA fun _ _ _=>V.ldO (k:=13) shrule2_125 z (j:=0) z z) z Calm.i<|Tm z z<|T.tfork ?_ ?_
   ·have fv:=Slc.mono VB.mono fh a3
    refine Tp z z (SX.two (XA.fr [] Lr z) (XA.fr [0] Lr z)) (O.bs elrule2_124 zerule2_122 z (e:=z) (hk:=z) (xs:=[.tmp 203]) (hv:=CO.eq (CO.cons (Slc.cells fv) CO.nil)) (hw:=Wide.of z) (hd:=z) fun fz=>?_) T.tno
    have cy:RowF (VSl VB 1) aw [[M]] ([b2]:List (List Bool)):=(RowF.cons ⟨M,z,fv⟩ RowF.nil)
    refine T.tfork ?_ ?_
    ·obtain ⟨ga,gb,H⟩:=bnd H
     have gc:=(((cP.trans cw).trans bu).trans a3)
     have gd:=RowF.mono (VSl.mono VB.mono) c4 gc
     refine Tp z z (SX.two (XA.fr [] Lr z) (XA.fr [1] Lr z)) (O.apX elrule2_124 elrule2_124 zerule2_122 z z z (j:=8) z (Src.row (j:=0) z) (Wide.of z) (RowF.ones VSl.plain cy) gd cy gb z fun c9 p4 p5=>?_) T.tno
     have m2:RowF (VSl VB 1) aw (I ++ [[M]]) ga:=RowF.ap gd cy gb
     refine Sl_ (rowR 122 1 c9 (I ++ [[M]])::rowR 122 1 (.slice (some ⟨fz,0,none⟩) 1 1) [[M]]::blk u (.cells [n,o,p,q,r,s,f,d,c,b,a,m,E,B].toArray 127)::rowR 3 1 f D::rowR 3 1 d C::rowR 4 1 c A::rowR 24 1 b y::rowR 24 1 a w::rowR 139 1 m N::rowR 146 1 B J::L) z<|Fr_ 1 z<|T.fl ?_
     refine T.drop<|T.tgrow Lr<|Tp z z (SX.two (XA.fr [] Lr z) (XA.fr [1] Lr z)) (O.bs elrule2_125 zerule2_146 z (e:=z) (hk:=z) (xs:=[.tmp 210]) (hv:=CO.eq (CO.cons (Slc.cells cx) CO.nil)) (hw:=Wide.of z) (hd:=z) fun m3=>?_) T.tno
     have dN:RowF (VSl (VI .u8) 1) aw [[K]] ([bp]:List (List Int)):=(RowF.cons ⟨K,z,cx⟩ RowF.nil)
     obtain ⟨ge,gf,H⟩:=bnd H
     have gg:=RowF.mono (VSl.mono VI.mono) c5 gc
     refine Tp z z (SX.two (XA.fr [] Lr z) (XA.fr [2] Lr z)) (O.apX elrule2_125 elrule2_125 zerule2_146 z z z (j:=9) z (Src.row (j:=0) z) (Wide.of z) (RowF.ones VSl.plain dN) gg dN gf z fun dO p6 p7=>?_) T.tno
     have m4:RowF (VSl (VI .u8) 1) aw (J ++ [[K]]) ge:=RowF.ap gg dN gf
     refine Sl_ (rowR 146 1 dO (J ++ [[K]])::rowR 146 1 (.slice (some ⟨m3,0,none⟩) 1 1) [[K]]::rowR 122 1 c9 (I ++ [[M]])::blk u (.cells [n,o,p,q,r,s,f,d,c,b,a,m,E,B].toArray 127)::rowR 3 1 f D::rowR 3 1 d C::rowR 4 1 c A::rowR 24 1 b y::rowR 24 1 a w::rowR 139 1 m N::L) z<|Fr_ 1 z<|T.fl ?_
     refine T.drop<|T.tgrow Lr<|Tv z (V.nck rfl)<|Tv z (V.fa fdrule2_127_8 rfl)<|T.rowOne 1 rfl fun m5 m6=>Tp z z (SX.two (XA.fr [] Lr rfl) (XA.fr [2] Lr rfl)) (O.st (vs:=[c9]) (k:=12) shrule2_124 rfl rfl (j:=2) rfl m6 (by (simp only [Sl.ones,m5,Bool.and_true,Bool.true_and]) <;> rfl) ?_) T.tno
     refine T.fl ?_
     refine T.tgrow Lr<|Tv z (V.nck rfl)<|Tv z (V.fa fdrule2_127_9 rfl)<|T.rowOne 1 rfl fun m7 m8=>Tp z z (SX.one (XA.fr [] Lr rfl) rfl) (O.st (vs:=[dO]) (k:=13) shrule2_125 rfl rfl (j:=0) rfl m8 (by (simp only [Sl.ones,m7,Bool.and_true,Bool.true_and]) <;> rfl) ?_) T.tno
     refine T.fl ?_
     refine T.tnil (SX.one (XA.fr [] Lr z) z)<|Bn<|Th<|Rg ?_
     obtain ⟨m9,mh,H⟩:=bnd H
     refine Vv (V.addS z z mh)<|Mv z<|Nt<|Fr_ 1 z<|T.fl ?_
     refine Fr_ 2 z<|T.fl ?_
     refine Fr_ 8 z<|T.fl ?_
     refine Fr_ 8 z<|T.fl ?_
     refine Fr_ 8 z<|T.fl ?_
     refine Fr_ 8 z<|T.fl ?_
     refine Fr_ 8 z<|T.fl ?_
     refine Fr_ 8 z<|T.fl ?_
     refine Fr_ 8 z<|T.fl ?_
     have ml:=(((cS.trans cw).trans bu).trans a3)
     exact T.again (dB,ga,ge,m9,c9,(I ++ [[M]]),dO,(J ++ [[K]])) ml (Nat.lt_succ_self _) ⟨(iterK_in H c6),m2,m4⟩ (AllIn.app ⟨z,trivial⟩ ⟨z,z,z,z,z,trivial⟩) z
    refine Tp z z (SX.two (XA.fr [] Lr z) (XA.fr [1] Lr z)) (O.bs elrule2_125 zerule2_146 z (e:=z) (hk:=z) (xs:=[.tmp 210]) (hv:=CO.eq (CO.cons (Slc.cells cx) CO.nil)) (hw:=Wide.of z) (hd:=z) fun gi=>?_) T.tno
    have dP:RowF (VSl (VI .u8) 1) aw [[K]] ([bp]:List (List Int)):=(RowF.cons ⟨K,z,cx⟩ RowF.nil)
    obtain ⟨gj,gk,H⟩:=bnd H
    have gm:=(((cP.trans cw).trans bu).trans a3)
    have gn:=RowF.mono (VSl.mono VB.mono) c4 gm
    refine Tp z z (SX.two (XA.fr [] Lr z) (XA.fr [2] Lr z)) (O.apX elrule2_124 elrule2_124 zerule2_122 z z z (j:=9) z (Src.row (j:=1) z) (Wide.of z) (RowF.ones VSl.plain cy) gn cy gk z fun ch p8 p9=>?_) T.tno
    have mv:RowF (VSl VB 1) aw (I ++ [[M]]) gj:=RowF.ap gn cy gk
    refine Sl_ (rowR 122 1 ch (I ++ [[M]])::rowR 146 1 (.slice (some ⟨gi,0,none⟩) 1 1) [[K]]::rowR 122 1 (.slice (some ⟨fz,0,none⟩) 1 1) [[M]]::blk u (.cells [n,o,p,q,r,s,f,d,c,b,a,m,E,B].toArray 127)::rowR 3 1 f D::rowR 3 1 d C::rowR 4 1 c A::rowR 24 1 b y::rowR 24 1 a w::rowR 139 1 m N::rowR 146 1 B J::L) z<|Fr_ 2 z<|T.fl ?_
    refine T.drop<|T.tgrow Lr ?_
    obtain ⟨go,gp,H⟩:=bnd H
    have gq:=RowF.mono (VSl.mono VI.mono) c5 gm
    refine Tp z z (SX.two (XA.fr [] Lr z) (XA.fr [2] Lr z)) (O.apX elrule2_125 elrule2_125 zerule2_146 z z z (j:=9) z (Src.row (j:=1) z) (Wide.of z) (RowF.ones VSl.plain dP) gq dP gp z fun dS ph pl=>?_) T.tno
    have mz:RowF (VSl (VI .u8) 1) aw (J ++ [[K]]) go:=RowF.ap gq dP gp
    refine Sl_ (rowR 146 1 dS (J ++ [[K]])::rowR 122 1 ch (I ++ [[M]])::rowR 146 1 (.slice (some ⟨gi,0,none⟩) 1 1) [[K]]::blk u (.cells [n,o,p,q,r,s,f,d,c,b,a,m,E,B].toArray 127)::rowR 3 1 f D::rowR 3 1 d C::rowR 4 1 c A::rowR 24 1 b y::rowR 24 1 a w::rowR 139 1 m N::L) z<|Fr_ 2 z<|T.fl ?_
    refine T.drop<|T.tgrow Lr<|Tv z (V.nck rfl)<|Tv z (V.fa fdrule2_127_8 rfl)<|T.rowOne 1 rfl fun na nb=>Tp z z (SX.two (XA.fr [] Lr rfl) (XA.fr [2] Lr rfl)) (O.st (vs:=[ch]) (k:=12) shrule2_124 rfl rfl (j:=2) rfl nb (by (simp only [Sl.ones,na,Bool.and_true,Bool.true_and]) <;> rfl) ?_) T.tno
    refine T.fl ?_
    refine T.tgrow Lr<|Tv z (V.nck rfl)<|Tv z (V.fa fdrule2_127_9 rfl)<|T.rowOne 1 rfl fun nc nd=>Tp z z (SX.one (XA.fr [] Lr rfl) rfl) (O.st (vs:=[dS]) (k:=13) shrule2_125 rfl rfl (j:=0) rfl nd (by (simp only [Sl.ones,nc,Bool.and_true,Bool.true_and]) <;> rfl) ?_) T.tno
    refine T.fl ?_
    refine T.tnil (SX.one (XA.fr [] Lr z) z)<|Bn<|Th<|Rg ?_
    obtain ⟨nf,ng,H⟩:=bnd H
    refine Vv (V.addS z z ng)<|Mv z<|Nt<|Fr_ 1 z<|T.fl ?_
    refine Fr_ 2 z<|T.fl ?_
    refine Fr_ 8 z<|T.fl ?_
    refine Fr_ 8 z<|T.fl ?_
    refine Fr_ 8 z<|T.fl ?_
    refine Fr_ 8 z<|T.fl ?_
    refine Fr_ 8 z<|T.fl ?_
    refine Fr_ 8 z<|T.fl ?_
    refine Fr_ 8 z<|T.fl ?_
    have ni:=(((cS.trans cw).trans bu).trans a3)
    exact T.again (dB,gj,go,nf,ch,(I ++ [[M]]),dS,(J ++ [[K]])) ni (Nat.lt_succ_self _) ⟨(iterK_in H c6),mv,mz⟩ (AllIn.app ⟨z,trivial⟩ ⟨z,z,z,z,z,trivial⟩) z
   refine Tp z z (SX.two (XA.fr [] Lr z) (XA.fr [0] Lr z)) (O.bs elrule2_125 zerule2_146 z (e:=z) (hk:=z) (xs:=[.tmp 210]) (hv:=CO.eq (CO.cons (Slc.cells cx) CO.nil)) (hw:=Wide.of z) (hd:=z) fun gr=>?_) T.tno
   have dU:RowF (VSl (VI .u8) 1) aw [[K]] ([bp]:List (List Int)):=(RowF.cons ⟨K,z,cx⟩ RowF.nil)
   have gs:=Slc.mono VB.mono fh a3
   refine Tp z z (SX.two (XA.fr [] Lr z) (XA.fr [1] Lr z)) (O.bs elrule2_124 zerule2_122 z (e:=z) (hk:=z) (xs:=[.tmp 203]) (hv:=CO.eq (CO.cons (Slc.cells gs) CO.nil)) (hw:=Wide.of z) (hd:=z) fun nj=>?_) T.tno
   have dV:RowF (VSl VB 1) aw [[M]] ([b2]:List (List Bool)):=(RowF.cons ⟨M,z,gs⟩ RowF.nil)
   obtain ⟨gu,gw,H⟩:=bnd H
   have gx:=(((cP.trans cw).trans bu).trans a3)
   have gy:=RowF.mono (VSl.mono VB.mono) c4 gx
   refine Tp z z (SX.two (XA.fr [] Lr z) (XA.fr [2] Lr z)) (O.apX elrule2_124 elrule2_124 zerule2_122 z z z (j:=9) z (Src.row (j:=0) z) (Wide.of z) (RowF.ones VSl.plain dV) gy dV gw z fun cl pv pz=>?_) T.tno
   have nk:RowF (VSl VB 1) aw (I ++ [[M]]) gu:=RowF.ap gy dV gw
   refine Sl_ (rowR 122 1 cl (I ++ [[M]])::rowR 122 1 (.slice (some ⟨nj,0,none⟩) 1 1) [[M]]::rowR 146 1 (.slice (some ⟨gr,0,none⟩) 1 1) [[K]]::blk u (.cells [n,o,p,q,r,s,f,d,c,b,a,m,E,B].toArray 127)::rowR 3 1 f D::rowR 3 1 d C::rowR 4 1 c A::rowR 24 1 b y::rowR 24 1 a w::rowR 139 1 m N::rowR 146 1 B J::L) z<|Fr_ 1 z<|T.fl ?_
   refine T.drop<|T.tgrow Lr ?_
   obtain ⟨gA,gB,H⟩:=bnd H
   have gC:=RowF.mono (VSl.mono VI.mono) c5 gx
   refine Tp z z (SX.two (XA.fr [] Lr z) (XA.fr [2] Lr z)) (O.apX elrule2_125 elrule2_125 zerule2_146 z z z (j:=9) z (Src.row (j:=1) z) (Wide.of z) (RowF.ones VSl.plain dU) gC dU gB z fun dW qa qb=>?_) T.tno
   have nm:RowF (VSl (VI .u8) 1) aw (J ++ [[K]]) gA:=RowF.ap gC dU gB
   refine Sl_ (rowR 146 1 dW (J ++ [[K]])::rowR 122 1 cl (I ++ [[M]])::rowR 146 1 (.slice (some ⟨gr,0,none⟩) 1 1) [[K]]::blk u (.cells [n,o,p,q,r,s,f,d,c,b,a,m,E,B].toArray 127)::rowR 3 1 f D::rowR 3 1 d C::rowR 4 1 c A::rowR 24 1 b y::rowR 24 1 a w::rowR 139 1 m N::L) z<|Fr_ 2 z<|T.fl ?_
   refine T.drop<|T.tgrow Lr<|Tv z (V.nck rfl)<|Tv z (V.fa fdrule2_127_8 rfl)<|T.rowOne 1 rfl fun nn np=>Tp z z (SX.two (XA.fr [] Lr rfl) (XA.fr [2] Lr rfl)) (O.st (vs:=[cl]) (k:=12) shrule2_124 rfl rfl (j:=2) rfl np (by (simp only [Sl.ones,nn,Bool.and_true,Bool.true_and]) <;> rfl) ?_) T.tno
   refine T.fl ?_
   refine T.tgrow Lr<|Tv z (V.nck rfl)<|Tv z (V.fa fdrule2_127_9 rfl)<|T.rowOne 1 rfl fun nq nr=>Tp z z (SX.one (XA.fr [] Lr rfl) rfl) (O.st (vs:=[dW]) (k:=13) shrule2_125 rfl rfl (j:=0) rfl nr (by (simp only [Sl.ones,nq,Bool.and_true,Bool.true_and]) <;> rfl) ?_) T.tno
   refine T.fl ?_
   refine T.tnil (SX.one (XA.fr [] Lr z) z)<|Bn<|Th<|Rg ?_
   obtain ⟨ns,nt,H⟩:=bnd H
   refine Vv (V.addS z z nt)<|Mv z<|Nt<|Fr_ 1 z<|T.fl ?_
   refine Fr_ 2 z<|T.fl ?_
   refine Fr_ 8 z<|T.fl ?_
   refine Fr_ 8 z<|T.fl ?_
   refine Fr_ 8 z<|T.fl ?_
   refine Fr_ 8 z<|T.fl ?_
   refine Fr_ 8 z<|T.fl ?_
   refine Fr_ 8 z<|T.fl ?_
   refine Fr_ 8 z<|T.fl ?_
   have nu:=(((cS.trans cw).trans bu).trans a3)
   exact T.again (dB,gu,gA,ns,cl,(I ++ [[M]]),dW,(J ++ [[K]])) nu (Nat.lt_succ_self _) ⟨(iterK_in H c6),nk,nm⟩ (AllIn.app ⟨z,trivial⟩ ⟨z,z,z,z,z,trivial⟩) z
  refine T.exit<|Te<|Te<|have H:=iterK_out H c6; Be<|Th<|T.met (b0,b1,E,I,B,J) dA ⟨H,c4,c5⟩ (AllIn.app trivial ⟨z,trivial⟩) z
 rintro ⟨cj,ck,aZ,cm,a0,cn⟩ qc cV ⟨nw,nx,ny⟩
 have H:=cutE nw k9
 refine T.norm [7] z<|Sl_ (blk u (.cells [n,o,p,q,r,s,f,d,c,b,a,m,aZ,a0].toArray 127)::rowR 3 1 f D::rowR 3 1 d C::rowR 4 1 c A::rowR 24 1 b y::rowR 24 1 a w::rowR 139 1 m N::rowR 122 1 aZ cm::rowR 146 1 a0 cn::L) z<|Sr<|Mv z<|Ag z<|Ag z<|Ag z<|Nt<|T.ret<|Fr_ 1 z<|T.fl ?_
 refine T.rowFix fun qd cA nA=>have gD:=(((cO.trans bZ).trans cV).trans cA); have nB:=RowF.mono VI.mono dr gD; have nC:=RowF.slc nA nB; Fr_ 1 z<|T.fl ?_
 refine T.rowFix fun qe b6 nD=>have gE:=(gD.trans b6); have nE:=RowF.mono VI.mono ff gE; have nG:=RowF.slc nD nE; Fr_ 1 z<|T.fl ?_
 refine T.rowFix fun qf bw nI=>have gG:=(gE.trans bw); have nJ:=RowF.mono VB.mono fg gG; have nK:=RowF.slc nI nJ; Fr_ 1 z<|T.fl ?_
 refine T.rowFix fun qg a4 nM=>have gI:=(gG.trans a4); have nN:=RowF.mono (VSl.mono VI.mono) fi gI; have nO:=RowF.slc nM nN; Fr_ 1 z<|T.fl ?_
 refine T.rowFix fun qi aM nP=>have nS:=(gI.trans aM); have nU:=RowF.mono (VSl.mono VI.mono) fj nS; have nV:=RowF.slc nP nU; Fr_ 1 z<|T.fl ?_
 refine T.rowFix fun qj aN nW=>have nX:=(((((((bZ.trans cV).trans cA).trans b6).trans bw).trans a4).trans aM).trans aN); have nY:=RowF.mono (VMp.mono VI.mono) k3 nX; have nZ:=RowF.slc nW nY; Fr_ 1 z<|T.fl ?_
 refine T.rowFix fun qk aO n0=>have gJ:=((((((cA.trans b6).trans bw).trans a4).trans aM).trans aN).trans aO); have n1:=RowF.mono (VSl.mono VB.mono) nx gJ; have n2:=RowF.slc n0 n1; Fr_ 1 z<|T.rowFix fun qm ax n3=>have n4:=(gJ.trans ax); have n5:=RowF.mono (VSl.mono VI.mono) ny n4; have n6:=RowF.slc n3 n5; T.blkFix fun n7 ay n8=>have cW:=(((((((((((((cY.trans cd).trans cO).trans bZ).trans cV).trans cA).trans b6).trans bw).trans a4).trans aM).trans aN).trans aO).trans ax).trans ay); have n9:=Slc.mono VapiTable.mono d8 cW; have nh:=Slc.mono VapiGuest.mono d9 cW; have nl:=Slc.mono VapiTie.mono dh cW; have nv:=Slc.mono VI.mono dl cW; have nz:=Slc.mono VapiRule.mono dv cW; have oa:=(((((((((((fA.trans bZ).trans cV).trans cA).trans b6).trans bw).trans a4).trans aM).trans aN).trans aO).trans ax).trans ay); have ob:=Mp.mono Vrulekind.mono dc oa; have oc:=(((((((b6.trans bw).trans a4).trans aM).trans aN).trans aO).trans ax).trans ay); have od:=Slc.mono VI.mono nC oc; have oe:=((((((bw.trans a4).trans aM).trans aN).trans aO).trans ax).trans ay); have og:=Slc.mono VI.mono nG oe; have oi:=(((((a4.trans aM).trans aN).trans aO).trans ax).trans ay); have oj:=Slc.mono VB.mono nK oi; have ok:=((((aM.trans aN).trans aO).trans ax).trans ay); have om:=Slc.mono (VSl.mono VI.mono) nO ok; have on:=(((aN.trans aO).trans ax).trans ay); have oo:=Slc.mono (VSl.mono VI.mono) nV on; have op:=((aO.trans ax).trans ay); have oq:=Slc.mono (VMp.mono VI.mono) nZ op; have os:=(ax.trans ay); have ot:=Slc.mono (VSl.mono VB.mono) n2 os; have ou:=Slc.mono (VSl.mono VI.mono) n6 ay; ?_
 obtain ⟨rfl,rfl,rfl⟩:=inj3 H
 have ow:=((((((((((((((((b7.trans bx).trans d7).trans cY).trans cd).trans cO).trans bZ).trans cV).trans cA).trans b6).trans bw).trans a4).trans aM).trans aN).trans aO).trans ax).trans ay)
 exact T.retL Tryz.results39 (RVs.cons (RV.tmp z) (RVs.cons (RV.tmp z) (Rv z))) ow ⟨_,z,z,(Pt.mk n8 (show VruleJudge n7 [n,o,p,q,r,s,f,d,c,b,a,m,aZ,a0] (ruleJudge.mk da db a8 a9 ah al av ce cj ck) from ⟨n,o,p,q,r,s,f,d,c,b,a,m,aZ,a0,z,n9,nh,nl,nv,nz,ob,od,og,oj,om,oo,oq,ot,ou⟩))⟩
theorem Judge_Problem_ok {h:PH} {pv0:Value} {j1:ruleJudge} (pr0:Pt VruleJudge h pv0 j1) {r_0:apiProblem} (H:Judge_Problem j1 = some r_0):∀ L,FnS Tryz.prog 40 [pv0] h (L) (fun v h' L'=>∃ v0_1 v0_3 v0_5 v0_7 v0_9,v = .agg #[v0_1,v0_3,v0_5,v0_7,v0_9]∧L' = L∧Slc VapiTable 7 h' v0_1 r_0.fTables∧Slc VapiGuest 9 h' v0_3 r_0.fGuests∧Slc VapiTie 3 h' v0_5 r_0.fTies∧Slc (VI .i64) 1 h' v0_7 r_0.fClass∧Slc VapiRule 6 h' v0_9 r_0.fRules):=by
 intro L
 refine FnS.enter Tryz.func40 z Tryz.ntmps40 z<|Sr<|To (O.alloc zerule2_32 z z fun U=>Nt<|Sq<|Sr<|Mv z ?_)
 obtain ⟨W,p,H⟩:=bnd H
 refine To (O.callS z (Judge_none_ok pr0 p _) z fun X q Y a r=>?_)
 obtain ⟨rfl,s⟩:=r
 refine Sl_ _ s<|Nt<|T.cH H z (fun H=>?_) (fun H=>?_)
 ·exact dead H
 refine T.skip<|Th<|Sr<|Mv z<|have t:=Pt.mono VruleJudge.mono pr0 a; have u:=t; ?_
 obtain ⟨Z,_,rfl,w,⟨b,c,d,e,f,aa,ab,ac,ad,ae,af,ag,ai,aj,rfl,x,y,A,B,C,ak,am,an,ao,ap,aq,ar,au,aw⟩⟩:=u
 refine Vv (V.nck z)<|Vv (V.fa fdrule2_127_0 z)<|Vv (V.ldSf (k:=0) shrule2_120 z w (Nat.le_of_ble_eq_true z)) ?_
 obtain ⟨ax,D,H⟩:=bnd H
 refine To (O.callS z (rule_copied_ok (show VapiProblem q [b,c,d,e,f] j1.fgiven from ⟨b,c,d,e,f,z,x,y,A,B,C⟩) D _) z fun ay aA aB E G=>?_)
 obtain ⟨I,J,K,M,N,rfl,P,g,i,m,n,o⟩:=G
 refine Sl_ _ P<|To (O.stF (vs:=[I,J,K,M,N]) shrule2_32 rfl rfl (j:=0) rfl rfl (by (simp only [Sl.ones,Slc.one g,Slc.one i,Slc.one m,Slc.one n,Slc.one o,Bool.and_true,Bool.true_and]) <;> rfl) rfl ?_)
 refine Nt<|T.ret ?_
 obtain rfl:=Option.some.inj H
 have S:=(a.trans E)
 exact T.retD (L':=L) Tryz.results40 (RVs.cons (RV.cellS z (j:=0) z shrule2_32) RVs.nil) S (fun _ iv=>iv.drop) ⟨_,_,_,_,_,z,z,g,i,m,n,o⟩
theorem Judge_look_ok {h:PH} {pv0:Value} {j1:ruleJudge} (pr0:Pt VruleJudge h pv0 j1) {pv1:Value} {part2:List Int} (pr1:Slc (VI .i64) 1 h pv1 part2) {r_0:ruleview} (H:Judge_look j1 part2 = some r_0):∀ L,FnS Tryz.prog 51 [pv0,pv1] h (L) (fun v h' L'=>L' = L∧Pt Vruleview h' v r_0):=by
 intro L
 refine FnS.enter Tryz.func51 z Tryz.ntmps51 z<|Sr<|Ag z<|Nt<|Sq<|Sr<|Mv z ?_
 obtain ⟨bV,ar,H⟩:=bnd H
 refine To (O.callS z (Judge_none_ok pr0 ar _) z fun bW au bX B aw=>?_)
 obtain ⟨rfl,ax⟩:=aw
 refine Sl_ _ ax<|Mv z<|T.bH 10 H z (fun H=>?_) (fun H=>?_)
 ·exact dead H
 refine Mv z<|have K:=Slc.mono VI.mono pr1 B; Vv (V.lenS elrule2_24 z K)<|Mv z<|have ay:=Pt.mono VruleJudge.mono pr0 B; have aA:=ay; ?_
 obtain ⟨i,_,rfl,t,⟨M,N,P,S,U,W,X,Y,Z,aa,ab,ac,ad,ae,rfl,aB,af,aC,aD,aE,aG,C,aI,aJ,aK,aM,aN,aO,aP⟩⟩:=aA
 refine Vv (V.nck z)<|Vv (V.fa fdrule2_127_0 z)<|Vv (V.fa fdrule2_120_1 z)<|Vv (V.ldf (k:=1) shrule2_28 z t z)<|Vv (V.lenS elrule2_28 z af)<|Vv (V.ne z z)<|Vv (V.pkF z z)<|Nt<|T.cH H z (fun H=>?_) (fun H=>?_)
 ·exact dead H
 refine T.skip<|Th<|Sr<|Mv z<|Mv z<|To (O.bs elrule2_24 zerule2_3 z (e:=z) (hk:=z) (xs:=[.const (.int .i64 (-1))]) (hv:=CO.eq (CO.cons z CO.nil)) (hw:=Wide.of z) (hd:=z) fun bY=>have aS:RowF (VI .i64) au [[.int .i64 (-1:Int)]] ([(-1:Int)]:List Int):=(RowF.cons z RowF.nil); Mv z<|Vv (V.nck z)<|Vv (V.fa fdrule2_127_2 z)<|Vv (V.ldf (k:=6) shrule2_24 z t z)<|Vv (V.lenS elrule2_24 z C)<|T.rowFix fun bZ D aU=>have aV:=RowF.mono VI.mono aS D; have aW:=RowF.slc aU aV; ?_)
 obtain ⟨aX,aY,H⟩:=bnd H
 refine To (O.callS z (sl_Repeat_ok aW aY _) z fun d b0 b1 ag aZ=>?_)
 obtain ⟨a0,a1,a2⟩:=aZ
 refine Sl_ _ a1<|T.rowOne 0 z fun b2 a3=>have E:=(D.trans ag); have u:=Slc.mono VI.mono K E; Vv (V.bld (xs:=[(0,.tmp 21),(1,.tmp 22),(2,.tmp 29)]) (cs:=[_,_,_]) blrule2_119 borule2_119 z (Fills.cons z z z (Fills.cons z (Slc.cells u) z (Fills.cons z a3 z Fills.nil))))<|To (O.box z z z fun n=>Ag z<|Nt<|Sq<|Sr<|Mv z<|Vv (V.lenS elrule2_24 z u)<|Mv z<|Nt ?_)
 obtain ⟨ai,a4,a5⟩:=bndK H
 refine T.cutK (α:=(List Int)×(List (List Value))) [5] z (fun ⟨o,p⟩=>[]) (fun ⟨o,p⟩=>blk n (.cells [.pointer (some i),pv1,d].toArray 119)::rowR 3 1 d p::L) (fun ⟨o,p⟩ hh=>ai = o∧RowF (VI .i64) hh p o) ?_ ?_
 ·have H:=a4
  refine Bl<|T.loopK (α:=Nat×(List Int)×Int×(List (List Value))) [0,5,32,33] z (fun ⟨q,g,b,a⟩=>[(34,.int .i64 b)]) (fun ⟨q,g,b,a⟩=>blk n (.cells [.pointer (some i),pv1,d].toArray 119)::rowR 3 1 d a::L) (fun ⟨q,g,b,a⟩ hh=>iter (Judge_look_l0 j1 part2) q (g,b) = some ai∧RowF (VI .i64) hh a g) (fun ⟨q,g,b,a⟩=>q) (FUEL,aX,(0:Int),a0) ⟨z,trivial⟩ z ⟨H,a2⟩ ?_
  rintro ⟨q,g,b,a⟩ w m ⟨a6,f⟩
  obtain ⟨x,b3,rfl,H,r⟩:=iter_go a6
  refine T.norm [34,0,5,32,33] z<|Sl_ (blk n (.cells [.pointer (some i),pv1,d].toArray 119)::rowR 3 1 d a::L) z<|Sr<|Vv (V.lt z z)<|Nt<|Sq<|T.cH H z (fun H=>?_) (fun H=>?_)
  ·refine T.skip<|Th<|Sq<|Bl<|Sr<|Mv z ?_
   obtain ⟨s,aj,H⟩:=bnd H
   have ak:=Slc.mono VI.mono u m
   obtain ⟨b4,a7,rfl⟩:=Slc.at ak aj
   refine Vv (V.ix elrule2_24 z z ak (getI_bd aj))<|Vv (V.ld0 shrule2_3 z a7 z)<|Ag z<|Ag z<|Nt<|Sq<|Sr<|Mv z<|Vv (V.lt z z)<|Mv z<|T.bH 41 H z (fun H=>?_) (fun H=>?_)
   ·exact dead H
   refine Mv z<|Mv z<|Vv (V.nck z)<|Vv (V.fa fdrule2_127_2 z)<|have am:=(E.trans m); have a8:=t.mono am; Vv (V.ldf (k:=6) shrule2_24 z a8 z)<|have a9:=Slc.mono VI.mono C am; Vv (V.lenS elrule2_24 z a9)<|Vv (V.ge z z)<|Vv (V.pkF z z)<|Mv z<|T.bH 50 H z (fun H=>?_) (fun H=>?_)
   ·exact dead H
   refine Mv z<|Vv (V.ge z z)<|Mv z<|T.bH 53 H z (fun H=>?_) (fun H=>?_)
   ·refine Mv z<|Vv (V.nck z)<|Vv (V.fa fdrule2_119_2 z)<|Vv (V.ldO (k:=2) shrule2_24 z (j:=0) z z)<|Mv z ?_
    obtain ⟨b5,an,H⟩:=bnd H
    obtain ⟨b6,ah,rfl⟩:=RowF.get f an
    refine Vv (V.ixR elrule2_24 z z (j:=1) z (RowF.bd f an))<|Vv (V.ldR shrule2_3 z (j:=1) z ah z)<|Vv (V.ge z z)<|Vv (V.pkT z z)<|Vv (V.pkF z z)<|Nt<|T.cH H z (fun H=>?_) (fun H=>?_)
    ·exact dead H
    refine T.skip<|Th<|Sq<|T.norm [0,5,6,7,32,33,34] z<|Sl_ (blk n (.cells [.pointer (some i),pv1,d].toArray 119)::rowR 3 1 d a::L) z<|Rg<|Mv z<|Vv (V.ge z z)<|Nt<|T.cH H z (fun H=>?_) (fun H=>?_)
    ·refine Rg<|Mv z<|Vv (V.nck z)<|Vv (V.fa fdrule2_119_2 z)<|Vv (V.ldO (k:=2) shrule2_24 z (j:=0) z z)<|Mv z<|Mv z ?_
     obtain ⟨b7,G,H⟩:=bnd H
     obtain ⟨b8,b9,rfl⟩:=RowF.get f G
     refine Vv (V.ixR elrule2_24 z z (j:=1) z (RowF.bd f G)) ?_
     obtain ⟨ao,al,H⟩:=bnd H
     refine To (O.stR shrule2_3 z z (j:=1) z (RowF.bdN f G) z<|have av:RowF (VI .i64) w (a.set s.toNat [.int .i64 b]) ao:=RowF.set f (show (VI .i64) w [.int .i64 b] b from z) al; Ni<|Bn<|Th<|Rg ?_)
     obtain ⟨az,ba,H⟩:=bnd H
     refine Vv (V.addS z z ba)<|Mv z<|Nt<|Fr_ 1 z<|T.again (x,ao,az,(a.set s.toNat [.int .i64 b])) m (Nat.lt_succ_self _) ⟨(iterK_in H r),av⟩ (AllIn.app ⟨z,trivial⟩ ⟨z,z,z,z,trivial⟩) z
    refine T.skip<|Bn<|Th<|Rg ?_
    obtain ⟨bb,bc,H⟩:=bnd H
    refine Vv (V.addS z z bc)<|Mv z<|Nt<|T.again (x,g,bb,a) m (Nat.lt_succ_self _) ⟨(iterK_in H r),f⟩ (AllIn.app ⟨z,trivial⟩ ⟨z,z,z,z,trivial⟩) z
   refine Sk<|Sk<|Sk<|Sk<|Sk<|Sk<|Sk<|Sk<|Vv (V.pkF z z)<|Vv (V.pkF z z)<|Nt<|Cf z<|T.skip<|Th<|Sr<|Mv z<|Vv (V.ge z z)<|Nt<|T.cH H z (fun H=>?_) (fun H=>?_)
   ·refine Rg<|Mv z<|Vv (V.nck z)<|Vv (V.fa fdrule2_119_2 z)<|Vv (V.ldO (k:=2) shrule2_24 z (j:=0) z z)<|Mv z<|Mv z ?_
    obtain ⟨bh,I,H⟩:=bnd H
    obtain ⟨bl,bv,rfl⟩:=RowF.get f I
    refine Vv (V.ixR elrule2_24 z z (j:=1) z (RowF.bd f I)) ?_
    obtain ⟨ap,be,H⟩:=bnd H
    refine To (O.stR shrule2_3 z z (j:=1) z (RowF.bdN f I) z<|have bf:RowF (VI .i64) w (a.set s.toNat [.int .i64 b]) ap:=RowF.set f (show (VI .i64) w [.int .i64 b] b from z) be; Ni<|Bn<|Th<|T.norm [0,5,32,33,34] z<|Sl_ (rowR 3 1 d (a.set s.toNat [.int .i64 b])::blk n (.cells [.pointer (some i),pv1,d].toArray 119)::L) z<|Rg ?_)
    obtain ⟨bg,bi,H⟩:=bnd H
    refine Vv (V.addS z z bi)<|Mv z<|Nt<|Fr_ 1 z<|T.again (x,ap,bg,(a.set s.toNat [.int .i64 b])) m (Nat.lt_succ_self _) ⟨(iterK_in H r),bf⟩ (AllIn.app ⟨z,trivial⟩ ⟨z,z,z,z,trivial⟩) z
   refine T.skip<|Bn<|Th<|Rg ?_
   obtain ⟨bj,bk,H⟩:=bnd H
   refine Vv (V.addS z z bk)<|Mv z<|Nt<|T.again (x,g,bj,a) m (Nat.lt_succ_self _) ⟨(iterK_in H r),f⟩ (AllIn.app ⟨z,trivial⟩ ⟨z,z,z,z,trivial⟩) z
  refine T.exit<|Te<|Te<|have H:=iterK_out H r; Be<|Th<|T.met (g,a) m ⟨H,f⟩ (AllIn.app trivial ⟨z,trivial⟩) z
 rintro ⟨o,p⟩ bz J ⟨bm,bn⟩
 have H:=cutE bm a5
 refine T.norm [5] z<|Sl_ (blk n (.cells [.pointer (some i),pv1,d].toArray 119)::rowR 3 1 d p::L) z<|Sr<|Mv z<|Ag z<|Nt<|T.ret<|Fr_ 1 z<|T.rowFix fun ca y bo=>have bp:=RowF.mono VI.mono bn y; have bq:=RowF.slc bo bp; T.blkFix fun aq A br=>have c:=(((E.trans J).trans y).trans A); have bt:=t.mono c; have bu:=Slc.mono VapiTable.mono aB c; have bw:=Slc.mono VapiGuest.mono af c; have bx:=Slc.mono VapiTie.mono aC c; have bA:=Slc.mono VI.mono aD c; have bB:=Slc.mono VapiRule.mono aE c; have bC:=Mp.mono Vrulekind.mono aG c; have bD:=Slc.mono VI.mono C c; have bE:=Slc.mono VI.mono aI c; have bG:=Slc.mono VB.mono aJ c; have bI:=Slc.mono (VSl.mono VI.mono) aK c; have bJ:=Slc.mono (VSl.mono VI.mono) aM c; have bK:=Slc.mono (VMp.mono VI.mono) aN c; have bM:=Slc.mono (VSl.mono VB.mono) aO c; have bN:=Slc.mono (VSl.mono VI.mono) aP c; have bO:=((J.trans y).trans A); have bP:=Slc.mono VI.mono u bO; have bS:=Slc.mono VI.mono bq A; ?_
 obtain rfl:=Option.some.inj H
 have bU:=(((((B.trans D).trans ag).trans J).trans y).trans A)
 exact T.retL Tryz.results51 (Rv z) bU ⟨z,(Pt.mk br (show Vruleview aq [.pointer (some i),pv1,d] (ruleview.mk j1 part2 o) from ⟨(.pointer (some i)),pv1,d,z,(Pt.mk bt (show VruleJudge aq [M,N,P,S,U,W,X,Y,Z,aa,ab,ac,ad,ae] j1 from ⟨M,N,P,S,U,W,X,Y,Z,aa,ab,ac,ad,ae,z,bu,bw,bx,bA,bB,bC,bD,bE,bG,bI,bJ,bK,bM,bN⟩)),bP,bS⟩))⟩
theorem Judge_Least_ok {h:PH} {pv0:Value} {j1:ruleJudge} (pr0:Pt VruleJudge h pv0 j1) {pv1:Value} {part2:List Int} (pr1:Slc (VI .i64) 1 h pv1 part2) {i3:Int} {r_0:Int} (H:Judge_Least j1 part2 i3 = some r_0):∀ L,FnS Tryz.prog 43 [pv0,pv1,.int .i64 i3] h (L) (fun v h' L'=>v = .int .i64 r_0∧L' = L):=by
 intro L
 refine FnS.enter Tryz.func43 z Tryz.ntmps43 z<|Sr<|Ag z<|Nt<|Sr<|Mv z<|Mv z ?_
 obtain ⟨a,B,H⟩:=bnd H
 refine To (O.callS z (Judge_look_ok pr0 pr1 B _) z fun an b ao C D=>?_)
 obtain ⟨E,G⟩:=D
 refine Sl_ _ E<|Ag z<|Nt<|Sq<|Sr<|Mv z<|have I:=G; ?_
 obtain ⟨ap,_,rfl,c,⟨aq,d,e,rfl,J,K,M⟩⟩:=I
 refine Vv (V.nilP Tryz.underlying116 z)<|Mv z<|Mv z<|Vv (V.lt z z)<|Vv (V.pkF z z)<|Mv z<|T.bH 17 H z (fun H=>?_) (fun H=>?_)
 ·exact dead H
 refine Mv z<|Mv z<|Vv (V.nck z)<|Vv (V.fa fdrule2_119_0 z)<|Vv (V.ldf (k:=0) shrule2_57 z c z)<|have N:=J; ?_
 obtain ⟨f,_,rfl,g,⟨i,j,m,n,o,p,q,r,s,t,u,w,x,y,rfl,P,S,U,W,A,X,Y,Z,aa,ab,ac,ad,ae,af⟩⟩:=N
 refine Vv (V.nck z)<|Vv (V.fa fdrule2_127_0 z)<|Vv (V.fa fdrule2_120_4 z)<|Vv (V.ldf (k:=4) shrule2_30 z g z)<|Vv (V.lenS elrule2_30 z A)<|Vv (V.ge z z)<|Vv (V.pkF z z)<|Nt<|T.cH H z (fun H=>?_) (fun H=>?_)
 ·exact dead H
 refine T.skip<|Th<|Sr<|Mv z<|Mv z ?_
 obtain ⟨ar,ag,H⟩:=bnd H
 refine To (O.callS z (view_least_ok (Pt.mk c (show Vruleview b [.pointer (some f),d,e] a from ⟨(.pointer (some f)),d,e,z,(Pt.mk g (show VruleJudge b [i,j,m,n,o,p,q,r,s,t,u,w,x,y] a.fJudge from ⟨i,j,m,n,o,p,q,r,s,t,u,w,x,y,z,P,S,U,W,A,X,Y,Z,aa,ab,ac,ad,ae,af⟩)),K,M⟩)) ag _) z fun au aw ax ai aj=>?_)
 obtain ⟨rfl,ak⟩:=aj
 refine Sl_ _ ak<|Ag z<|Nt<|T.ret ?_
 obtain rfl:=Option.some.inj H
 have am:=(C.trans ai)
 exact T.retL Tryz.results43 (Rv z) am ⟨z,z⟩
theorem Judge_sum_ok {h:PH} {pv0:Value} {j1:ruleJudge} (pr0:Pt VruleJudge h pv0 j1) {pv1:Value} {part2:List Int} (pr1:Slc (VI .i64) 1 h pv1 part2) {pv2:Value} {count3:ruleview→Int→Option Int} (pr2:CF130 h pv2 count3) {r_0:Int} (H:Judge_sum j1 part2 count3 = some r_0):∀ L,FnS Tryz.prog 53 [pv0,pv1,pv2] h (L) (fun v h' L'=>v = .int .i64 r_0∧L' = L):=by
 intro L
 refine FnS.enter Tryz.func53 z Tryz.ntmps53 z<|Sr<|Ag z<|Nt<|Sr<|Mv z<|Mv z ?_
 obtain ⟨n,ac,H⟩:=bnd H
 refine To (O.callS z (Judge_look_ok pr0 pr1 ac _) z fun bo bp bq q ad=>?_)
 obtain ⟨ae,af⟩:=ad
 refine Sl_ _ ae<|Ag z<|Nt<|Sq<|Sr<|Mv z<|have ag:=af; ?_
 obtain ⟨br,_,rfl,r,⟨bs,s,u,rfl,ai,aj,ak⟩⟩:=ag
 refine Vv (V.nilP Tryz.underlying116 z)<|Nt<|Cf z<|T.skip<|Th<|Sr<|Ag z<|Nt<|Sq<|Sr<|Mv z<|Vv (V.nck z)<|Vv (V.fa fdrule2_119_0 z)<|Vv (V.ldf (k:=0) shrule2_57 z r z)<|have am:=ai; ?_
 obtain ⟨w,_,rfl,x,⟨y,A,B,C,D,E,G,I,J,K,M,N,P,S,rfl,an,ao,ap,aq,U,ar,au,aw,ax,ay,aA,aB,aC,aD⟩⟩:=am
 refine Vv (V.nck z)<|Vv (V.fa fdrule2_127_0 z)<|Vv (V.fa fdrule2_120_4 z)<|Vv (V.ldf (k:=4) shrule2_30 z x z)<|Vv (V.lenS elrule2_30 z U)<|Mv z<|Nt ?_
 obtain ⟨W,aE,aG⟩:=bndK H
 refine T.cutK (α:=Int) [] z (fun f=>[(8,.int .i64 f)]) (fun f=>L) (fun f hh=>W = f) ?_ ?_
 ·have H:=aE
  refine Bl<|T.loopK (α:=Nat×Int×Int) [2,7,23,24] z (fun ⟨c,d,b⟩=>[(25,.int .i64 d),(8,.int .i64 b)]) (fun ⟨c,d,b⟩=>L) (fun ⟨c,d,b⟩ hh=>iter (Judge_sum_l0 count3 n) c (d,b) = some W) (fun ⟨c,d,b⟩=>c) (FUEL,(0:Int),(0:Int)) ⟨z,z,trivial⟩ z H ?_
  rintro ⟨c,d,b⟩ bt i aI
  obtain ⟨X,bu,rfl,H,o⟩:=iter_go aI
  refine T.norm [25,8,2,7,23,24] z<|Sl_ (L) z<|Sr<|Vv (V.lt z z)<|Nt<|Sq<|T.cH H z (fun H=>?_) (fun H=>?_)
  ·refine T.skip<|Th<|Sq<|Bl<|Sr<|Mv z ?_
   obtain ⟨e,Y,H⟩:=bnd H
   have p:=Slc.mono VapiRule.mono U i
   obtain ⟨bw,aJ,rfl⟩:=Slc.at p Y
   refine Vv (V.ix elrule2_30 rfl rfl p (getI_bd Y))<|Vv (V.ldS rfl aJ (by exact shrule2_41)) ?_
   refine To (O.alloc zerule2_41 z z fun bx=>Ag z<|To (O.stF (vs:=[.int .u8 e.fKind,.int .i64 e.fWeight,.string e.fA,.string e.fB,.string e.fTable,.int .i64 e.fN]) shrule2_41 z z (j:=0) z z z z<|T.freeze fun Z m aK=>have aa:=AtC.of aK; Nt<|Sr<|Vv (V.fa fdrule2_41_1 z)<|Vv (V.ldf (k:=1) shrule2_3 z aa z)<|Vv (V.gt z z)<|Nt<|T.cH H z (fun H=>?_) (fun H=>?_)))
   ·refine T.drawF (t:=(.v 0 (.v 1 (.v 2 (.v 3 (.v 4 (.v 5 (.alt 6 (.g (.v 7 (.v 8 (.alt 9 .done .no)))) .no)))))))) 11 0 0 rfl rfl rule2mixed (by kernel_rfl) ?_
    refine Tm z z<|Tv z (V.fa fdrule2_41_1 z)<|Tv z (V.ldf (k:=1) shrule2_3 z aa z)<|Tm z z<|Tm z z<|Tm z z<|have a:=(i.trans m); have aM:=r.mono a; have aN:=x.mono a; have aO:=Slc.mono VapiTable.mono an a; have aP:=Slc.mono VapiGuest.mono ao a; have aS:=Slc.mono VapiTie.mono ap a; have aU:=Slc.mono VI.mono aq a; have aV:=Slc.mono VapiRule.mono p m; have aW:=Mp.mono Vrulekind.mono ar a; have aX:=Slc.mono VI.mono au a; have aY:=Slc.mono VI.mono aw a; have aZ:=Slc.mono VB.mono ax a; have a0:=Slc.mono (VSl.mono VI.mono) ay a; have a1:=Slc.mono (VSl.mono VI.mono) aA a; have a2:=Slc.mono (VMp.mono VI.mono) aB a; have a3:=Slc.mono (VSl.mono VB.mono) aC a; have a4:=Slc.mono (VSl.mono VI.mono) aD a; have a5:=Slc.mono VI.mono aj a; have a6:=Slc.mono VI.mono ak a; ?_
    obtain ⟨bA,a7,H⟩:=bnd H
    have a8:=((q.trans i).trans m)
    have a9:=CF130.mono pr2 a8
    obtain ⟨bB,bC,bD,ah,al⟩:=CF130.call a9 (Pt.mk aM (show Vruleview Z [.pointer (some w),s,u] n from ⟨(.pointer (some w)),s,u,rfl,(Pt.mk aN (show VruleJudge Z [y,A,B,C,D,E,G,I,J,K,M,N,P,S] n.fJudge from ⟨y,A,B,C,D,E,G,I,J,K,M,N,P,S,rfl,aO,aP,aS,aU,aV,aW,aX,aY,aZ,a0,a1,a2,a3,a4⟩)),a5,a6⟩)) a7
    refine Tp z z (SX.two (XA.fr [] Lr z) (XA.fr [] Lr z)) (O.callfW z ah z (al _) z fun bE bG bI ab av=>?_) T.tno
    obtain ⟨rfl,az⟩:=av
    refine Sl_ _ az<|T.tgrow ab ?_
    obtain ⟨bJ,ba,H⟩:=bnd H
    refine Tv z (V.mulS z z ba) ?_
    obtain ⟨bb,bc,H⟩:=bnd H
    refine Tv z (V.addS z z bc)<|Ts z z (SX.two (XA.fr [] Lr z) (XA.fr [] Lr z)) (V.asg z) z ?_ T.tno
    refine T.tnil (SX.two (XA.fr [] Lr z) (XA.fr [] Lr z))<|Bn<|Th<|Rg ?_
    obtain ⟨bd,be,H⟩:=bnd H
    refine Vv (V.addS z z be)<|Mv z<|Nt<|have bf:=(a.trans ab); T.again (X,bd,bb) bf (Nat.lt_succ_self _) (iterK_in H o) (AllIn.app ⟨z,z,trivial⟩ ⟨z,z,z,z,trivial⟩) z
   refine T.skip<|Bn<|Th<|Rg ?_
   obtain ⟨bg,bi,H⟩:=bnd H
   refine Vv (V.addS z z bi)<|Mv z<|Nt<|have bj:=(i.trans m); T.again (X,bg,b) bj (Nat.lt_succ_self _) (iterK_in H o) (AllIn.app ⟨z,z,trivial⟩ ⟨z,z,z,z,trivial⟩) z
  refine T.exit<|Te<|Te<|have H:=iterK_out H o; Be<|Th<|T.met b i H (AllIn.app ⟨z,trivial⟩ trivial) z
 rintro f bK bk bm
 have H:=cutE bm aG
 refine T.norm [8] z<|Sl_ (L) z<|Sr<|Mv z<|Ag z<|Nt<|T.ret ?_
 obtain rfl:=Option.some.inj H
 have bn:=(q.trans bk)
 exact T.retL Tryz.results53 (Rv z) bn ⟨z,z⟩
theorem Judge_Floor_ok {h:PH} {pv0:Value} {j1:ruleJudge} (pr0:Pt VruleJudge h pv0 j1) {pv1:Value} {part2:List Int} (pr1:Slc (VI .i64) 1 h pv1 part2) {r_0:Int} (H:Judge_Floor j1 part2 = some r_0):∀ L,FnS Tryz.prog 35 [pv0,pv1] h (L) (fun v h' L'=>v = .int .i64 r_0∧L' = L):=by
 intro L
 refine FnS.enter Tryz.func35 z Tryz.ntmps35 z<|Sr<|Ag z<|Nt<|Sr<|Mv z<|Mv z ?_
 obtain ⟨i,a,H⟩:=bnd H
 refine To (O.callS z (Judge_sum_ok pr0 pr1 (show CF130 h (.func (.func 52) #[] #[]) view_least from ⟨⟨z,z⟩,.inr ⟨52,[],[],z,fun j k m n b o p c d=>view_least_ok b c d⟩⟩) a _) z fun q r s e f=>?_)
 obtain ⟨rfl,g⟩:=f
 refine Sl_ _ g<|Ag z<|Nt<|T.ret ?_
 obtain rfl:=Option.some.inj H
 exact T.retL Tryz.results35 (Rv z) e ⟨z,z⟩
theorem Judge_Dead_ok {h:PH} {pv0:Value} {j1:ruleJudge} (pr0:Pt VruleJudge h pv0 j1) {pv1:Value} {part2:List Int} (pr1:Slc (VI .i64) 1 h pv1 part2) {r_0:Int} {r_1:Bool} (H:Judge_Dead j1 part2 = some (r_0,r_1)):∀ L,FnS Tryz.prog 33 [pv0,pv1] h (L) (fun v h' L'=>v = .tuple #[.int .i64 r_0,.bool r_1]∧L' = L):=by
 intro L
 refine FnS.enter Tryz.func33 z Tryz.ntmps33 z<|Sr<|Ag z<|Ag z<|Nt<|Sr<|Mv z<|Mv z ?_
 obtain ⟨i,Y,H⟩:=bnd H
 refine To (O.callS z (Judge_look_ok pr0 pr1 Y _) z fun bc bd be n Z=>?_)
 obtain ⟨aa,ab⟩:=Z
 refine Sl_ _ aa<|Ag z<|Nt<|Sq<|Sr<|Mv z<|have ac:=ab; ?_
 obtain ⟨bf,_,rfl,o,⟨bg,p,q,rfl,ad,ae,af⟩⟩:=ac
 refine Vv (V.nilP Tryz.underlying116 z)<|Nt<|Cf z<|T.skip<|Th<|Sq<|Sr<|Mv z<|Vv (V.nck z)<|Vv (V.fa fdrule2_119_0 z)<|Vv (V.ldf (k:=0) shrule2_57 z o z)<|have ag:=ad; ?_
 obtain ⟨r,_,rfl,s,⟨t,u,w,x,y,A,B,C,D,E,G,I,J,K,rfl,ai,aj,ak,am,M,an,ao,ap,aq,ar,au,aw,ax,ay⟩⟩:=ag
 refine Vv (V.nck z)<|Vv (V.fa fdrule2_127_0 z)<|Vv (V.fa fdrule2_120_4 z)<|Vv (V.ldf (k:=4) shrule2_30 z s z)<|Vv (V.lenS elrule2_30 z M)<|Mv z<|Nt ?_
 obtain ⟨N,aA,P⟩:=bndK H
 refine T.cutK (α:=Unit) [] z (fun _u=>[]) (fun _u=>L) (fun _u hh=>N = (Sum.inl ())) ?_ ?_
 ·have H:=aA
  refine Bl<|T.loopK (α:=Nat×Int) [6,21,22] z (fun ⟨b,c⟩=>[(23,.int .i64 c)]) (fun ⟨b,c⟩=>L) (fun ⟨b,c⟩ hh=>iter (Judge_Dead_l0 i) b c = some N) (fun ⟨b,c⟩=>b) (FUEL,(0:Int)) ⟨z,trivial⟩ z H ?_
  rintro ⟨b,c⟩ bi e aB
  obtain ⟨S,bj,rfl,H,f⟩:=iter_go aB
  refine T.norm [23,6,21,22] z<|Sl_ (L) z<|Sr<|Vv (V.lt z z)<|Nt<|Sq<|T.cH H z (fun H=>?_) (fun H=>?_)
  ·refine T.skip<|Th<|Sq<|Bl<|Sr<|Mv z ?_
   obtain ⟨d,U,H⟩:=bnd H
   have m:=Slc.mono VapiRule.mono M e
   obtain ⟨bk,aC,rfl⟩:=Slc.at m U
   refine Vv (V.ix elrule2_30 rfl rfl m (getI_bd U))<|Vv (V.ldS rfl aC (by exact shrule2_41)) ?_
   refine To (O.alloc zerule2_41 z z fun bm=>Ag z<|To (O.stF (vs:=[.int .u8 d.fKind,.int .i64 d.fWeight,.string d.fA,.string d.fB,.string d.fTable,.int .i64 d.fN]) shrule2_41 z z (j:=0) z z z z<|T.freeze fun W g aD=>have aE:=AtC.of aD; Nt<|Sr<|Vv (V.fa fdrule2_41_1 z)<|Vv (V.ldf (k:=1) shrule2_3 z aE z)<|Vv (V.eq z z)<|Mv z<|T.bH 31 H z (fun H=>?_) (fun H=>?_)))
   ·refine Mv z<|Mv z<|have a:=(e.trans g); have aG:=o.mono a; have aI:=s.mono a; have aJ:=Slc.mono VapiTable.mono ai a; have aK:=Slc.mono VapiGuest.mono aj a; have aM:=Slc.mono VapiTie.mono ak a; have aN:=Slc.mono VI.mono am a; have aO:=Slc.mono VapiRule.mono m g; have aP:=Mp.mono Vrulekind.mono an a; have aS:=Slc.mono VI.mono ao a; have aU:=Slc.mono VI.mono ap a; have aV:=Slc.mono VB.mono aq a; have aW:=Slc.mono (VSl.mono VI.mono) ar a; have aX:=Slc.mono (VSl.mono VI.mono) au a; have aY:=Slc.mono (VMp.mono VI.mono) aw a; have aZ:=Slc.mono (VSl.mono VB.mono) ax a; have a0:=Slc.mono (VSl.mono VI.mono) ay a; have a1:=Slc.mono VI.mono ae a; have a2:=Slc.mono VI.mono af a; ?_
    obtain ⟨bn,a3,H⟩:=bnd H
    refine To (O.callS z (view_least_ok (Pt.mk aG (show Vruleview W [.pointer (some r),p,q] i from ⟨(.pointer (some r)),p,q,z,(Pt.mk aI (show VruleJudge W [t,u,w,x,y,A,B,C,D,E,G,I,J,K] i.fJudge from ⟨t,u,w,x,y,A,B,C,D,E,G,I,J,K,z,aJ,aK,aM,aN,aO,aP,aS,aU,aV,aW,aX,aY,aZ,a0⟩)),a1,a2⟩)) a3 _) z fun bo bp bq X a4=>?_)
    obtain ⟨rfl,a5⟩:=a4
    refine Sl_ _ a5<|Vv (V.gt z z)<|Vv (V.pkT z z)<|Nt<|T.cH H z (fun H=>?_) (fun H=>?_)
    ·refine Sr<|Mv z<|Ag z<|Ag z<|Nt<|T.ret<|Br<|Tr<|Tr<|have H:=iterK_out H f; Br<|Tr<|have H:=cutE H P; ?_
     obtain ⟨rfl,rfl⟩:=inj2 H
     have a6:=(((n.trans e).trans g).trans X)
     exact T.retL Tryz.results33 (RVs.cons (RV.tmp z) (Rv z)) a6 ⟨z,z⟩
    refine T.skip<|Bn<|Th<|Rg ?_
    obtain ⟨a7,a8,H⟩:=bnd H
    refine Vv (V.addS z z a8)<|Mv z<|Nt<|have a9:=(a.trans X); T.again (S,a7) a9 (Nat.lt_succ_self _) (iterK_in H f) (AllIn.app ⟨z,trivial⟩ ⟨z,z,z,trivial⟩) z
   refine Sk<|Sk<|Sk<|Sk<|Vv (V.pkF z z)<|Nt<|Cf z<|T.skip<|Bn<|Th<|Rg ?_
   obtain ⟨ah,al,H⟩:=bnd H
   refine Vv (V.addS z z al)<|Mv z<|Nt<|have av:=(e.trans g); T.again (S,ah) av (Nat.lt_succ_self _) (iterK_in H f) (AllIn.app ⟨z,trivial⟩ ⟨z,z,z,trivial⟩) z
  refine T.exit<|Te<|Te<|have H:=iterK_out H f; Be<|Th<|T.met () e H (AllIn.app trivial trivial) z
 rintro _ br az ba
 have H:=cutE ba P
 refine T.norm [] z<|Sl_ (L) z<|Sr<|Ag z<|Ag z<|Nt<|T.ret ?_
 obtain ⟨rfl,rfl⟩:=inj2 H
 have bb:=(n.trans az)
 exact T.retL Tryz.results33 (RVs.cons (RV.tmp z) (Rv z)) bb ⟨z,z⟩
theorem Judge_Cost_ok {h:PH} {pv0:Value} {j1:ruleJudge} (pr0:Pt VruleJudge h pv0 j1) {pv1:Value} {part2:List Int} (pr1:Slc (VI .i64) 1 h pv1 part2) {r_0:Int} (H:Judge_Cost j1 part2 = some r_0):∀ L,FnS Tryz.prog 45 [pv0,pv1] h (L) (fun v h' L'=>v = .int .i64 r_0∧L' = L):=by
 intro L
 refine FnS.enter Tryz.func45 z Tryz.ntmps45 z<|Sr<|Ag z<|Nt<|Sr<|Mv z<|Mv z ?_
 obtain ⟨i,a,H⟩:=bnd H
 refine To (O.callS z (Judge_sum_ok pr0 pr1 (show CF130 h (.func (.func 74) #[] #[]) view_faults from ⟨⟨z,z⟩,.inr ⟨74,[],[],z,fun j k m n b o p c d=>view_faults_ok b c d⟩⟩) a _) z fun q r s e f=>?_)
 obtain ⟨rfl,g⟩:=f
 refine Sl_ _ g<|Ag z<|Nt<|T.ret ?_
 obtain rfl:=Option.some.inj H
 exact T.retL Tryz.results45 (Rv z) e ⟨z,z⟩
theorem hall_Honour_1_ok {h:PH} {a1:Int} {b2:Int} {pp2:Addr} {pc2:List Value} {t3:List Int} (pa2:AtC h pp2 pc2) (pr2:(VSl (VI .i64) 1) h pc2 t3) {pp3:Addr} {pc3:List Value} {t6:Int} (pa3:AtC h pp3 pc3) (pr3:(VI .i64) h pc3 t6) {r_0:Int} (H:hall_Honour_1 a1 b2 t3 t6 = some r_0):∀ L,FnS Tryz.prog 227 [.int .i64 a1,.int .i64 b2,.pointer (some pp2),.pointer (some pp3)] h (L) (fun v h' L'=>v = .int .i64 r_0∧L' = L):=by
 intro L
 exact dead H
theorem hall_Honour_ok {h:PH} {pv0:Value} {l1:List apiTable} (pr0:Slc VapiTable 7 h pv0 l1) {t2:Int} {r_0:List Int} (H:hall_Honour l1 t2 = some r_0):∀ L,FnS Tryz.prog 187 [pv0,.int .i64 t2] h (L) (fun v h' L'=>L' = L∧Slc (VI .i64) 1 h' v r_0):=by
 intro L
 exact dead H
theorem rule_Pinned_ok {h:PH} {pc0:List Value} {p1:apiProblem} (pr0:VapiProblem h pc0 p1) {t12:Int} {r_0:List Int} (H:rule_Pinned p1 t12 = some r_0):∀ L,FnS Tryz.prog 124 [.agg pc0.toArray,.int .i64 t12] h (L) (fun v h' L'=>∃ cs0,L' = rowR 3 1 v cs0::L∧RowF (VI .i64) h' cs0 r_0):=by
 intro L
 obtain ⟨g,i,m,n,o,rfl,C,D,E,G,I⟩:=pr0
 refine FnS.enter Tryz.func124 rfl Tryz.ntmps124 rfl<|Sr<|To (O.boxF rfl rfl rfl fun aD J a p=>Ag z<|Nt<|Sq<|Sr<|Vv (V.ldS rfl p (by exact shrule2_32)) ?_)
 have q:=Slc.mono VapiTable.mono C a
 have K:=Slc.mono VapiGuest.mono D a
 have M:=Slc.mono VapiTie.mono E a
 have N:=Slc.mono VI.mono G a
 have r:=Slc.mono VapiRule.mono I a
 obtain ⟨⟨aE,aG⟩,P,H⟩:=bnd H
 refine To (O.callS z (rule_Check_ok (show VapiProblem J [g,i,m,n,o] p1 from ⟨g,i,m,n,o,z,q,K,M,N,r⟩) P _) z fun aI aJ aK e S=>?_)
 obtain ⟨rfl,U⟩:=S
 refine Sl_ _ U<|Mv z<|Vv (V.ext z z)<|Vv (V.ext z z)<|Ag z<|Ag z<|Nt<|Sr<|Mv z<|Vv (V.ne z z)<|Mv z<|T.bH 17 H z (fun H=>?_) (fun H=>?_)
 ·exact dead H
 refine Mv z<|Vv (V.lt z z)<|Vv (V.pkF z z)<|Mv z<|T.bH 21 H z (fun H=>?_) (fun H=>?_)
 ·exact dead H
 refine Mv z<|Vv (V.fa fdrule2_32_0 z)<|have s:=p.mono e; Vv (V.ldf (k:=0) shrule2_27 z s z)<|have W:=Slc.mono VapiTable.mono q e; Vv (V.lenS elrule2_27 z W)<|Vv (V.ge z z)<|Vv (V.pkF z z)<|Nt<|T.cH H z (fun H=>?_) (fun H=>?_)
 ·exact dead H
 refine T.skip<|Th<|Sr<|Ag z<|Nt<|Sq<|Sr<|Vv (V.fa fdrule2_32_4 z)<|Vv (V.ldf (k:=4) shrule2_30 z s z)<|have u:=Slc.mono VapiRule.mono r e; Vv (V.lenS elrule2_30 z u)<|Mv z<|Nt ?_
 obtain ⟨w,X,Y⟩:=bndK H
 refine T.cutK (α:=Unit) [7] z (fun _u=>[]) (fun _u=>L) (fun _u hh=>w = ()) ?_ ?_
 ·have H:=X
  refine Bl<|T.loopK (α:=Nat×Int) [1,2,7,29,30] z (fun ⟨b,c⟩=>[(31,.int .i64 c)]) (fun ⟨b,c⟩=>L) (fun ⟨b,c⟩ hh=>iter (rule_Pinned_l0 p1) b c = some w) (fun ⟨b,c⟩=>b) (FUEL,(0:Int)) ⟨z,trivial⟩ z H ?_
  rintro ⟨b,c⟩ aM f Z
  obtain ⟨aa,aN,rfl,H,x⟩:=iter_go Z
  refine T.norm [31,1,2,7,29,30] z<|Sl_ (L) z<|Sr<|Vv (V.lt z z)<|Nt<|Sq<|T.cH H z (fun H=>?_) (fun H=>?_)
  ·refine T.skip<|Th<|Sq<|Bl<|Sr ?_
   obtain ⟨d,y,H⟩:=bnd H
   have A:=Slc.mono VapiRule.mono u f
   obtain ⟨aO,ab,rfl⟩:=Slc.at A y
   refine Vv (V.ix elrule2_30 rfl rfl A (getI_bd y))<|Vv (V.ldS rfl ab (by exact shrule2_41)) ?_
   refine To (O.alloc zerule2_41 rfl rfl fun aP=>To (O.stF (vs:=[.int .u8 d.fKind,.int .i64 d.fWeight,.string d.fA,.string d.fB,.string d.fTable,.int .i64 d.fN]) shrule2_41 rfl rfl (j:=0) rfl rfl rfl rfl<|T.freeze fun aS ac ad=>have B:=AtC.of ad; Nt<|Bl<|Sq<|T.drawF (t:=(.v 0 (.v 1 (.v 2 (.v 3 (.v 4 (.v 5 (.v 6 (.v 7 (.v 8 (.v 9 (.v 10 (.v 11 (.v 12 (.v 13 (.alt 14 .done .no)))))))))))))))) 16 0 0 rfl rfl rule2mixed (by kernel_rfl) ?_))
   refine Tv z (V.fa fdrule2_41_0 z)<|Tv z (V.ldf (k:=0) shrule2_39 z B z)<|Tv z (V.eq z z)<|Tm z z<|T.bH 39 H z (fun H=>?_) (fun H=>?_)
   ·exact dead H
   refine Tk z<|Tk z<|Tk z<|Tk z<|Tk z<|Tk z<|Tk z<|Tk z<|Tk z<|Tv z (V.pkF z z)<|Ts z z (SX.two (XA.fr [] Lr z) (XA.fr [] Lr z)) (V.asg z) z ?_ T.tno
   refine T.tnil (SX.two (XA.fr [] Lr rfl) (XA.fr [] Lr rfl))<|Th<|Cf z<|Sq<|T.drawF (t:=(.v 0 (.v 1 (.v 2 (.v 3 (.v 4 (.v 5 (.v 6 (.v 7 (.v 8 (.v 9 (.v 10 (.v 11 (.v 12 (.v 13 (.v 14 (.v 15 (.v 16 (.v 17 (.v 18 (.alt 19 .done .no))))))))))))))))))))) 21 0 0 rfl rfl rule2mixed (by kernel_rfl) ?_
   refine Tv z (V.fa fdrule2_41_0 z)<|Tv z (V.ldf (k:=0) shrule2_39 z B z)<|Tv z (V.eq z z)<|Tm z z<|T.bH 64 H z (fun H=>?_) (fun H=>?_)
   ·exact dead H
   refine Tk z<|Tk z<|Tk z<|Tk z<|Tk z<|Tk z<|Tk z<|Tk z<|Tk z<|Tk z<|Tk z<|Tk z<|Tk z<|Tk z<|Tv z (V.pkF z z)<|Ts z z (SX.two (XA.fr [] Lr z) (XA.fr [] Lr z)) (V.asg z) z ?_ T.tno
   refine T.tnil (SX.two (XA.fr [] Lr z) (XA.fr [] Lr z))<|Th<|Cf z<|T.skip<|Bn<|Bn<|Th<|Rg ?_
   obtain ⟨ae,af,H⟩:=bnd H
   refine Vv (V.addS z z af)<|Mv z<|Nt<|have ag:=(f.trans ac); T.again (aa,ae) ag (Nat.lt_succ_self _) (iterK_in H x) (AllIn.app ⟨z,trivial⟩ ⟨z,z,z,z,z,trivial⟩) z
  refine T.exit<|Te<|Te<|have H:=iterK_out H x; Be<|Th<|T.met () f H (AllIn.app trivial ⟨z,trivial⟩) z
 rintro _ ai aj ak
 have H:=cutE ak Y
 refine T.norm [7] z<|Sl_ (L) z<|Sr<|Mv z<|T.rowNil 3 1<|have am:RowF (VI .i64) ai [] ([]:List Int):=RowF.nil; ?_
 obtain ⟨aU,an,H⟩:=bnd H
 refine To (O.callS z (sl_SortInt_ok am an _) z fun aV ao aW ap aq=>?_)
 obtain ⟨aX,rfl,ar,aY⟩:=aq
 refine Sl_ _ ar<|Nt<|Sr<|Mv z<|T.rowNil 3 1<|have au:RowF (VI .i64) ao [] ([]:List Int):=RowF.nil; ?_
 obtain ⟨aZ,aw,H⟩:=bnd H
 refine To (O.callS z (sl_CompactInt_ok au aw _) z fun a0 a1 a2 ax ay=>?_)
 obtain ⟨a3,aA,aB⟩:=ay
 refine Sl_ _ aA<|Ag z<|Nt<|T.ret<|Fr_ 1 z<|T.drop ?_
 obtain rfl:=Option.some.inj H
 have aC:=((((a.trans e).trans aj).trans ap).trans ax)
 exact T.retL Tryz.results124 (Rv z) aC ⟨_,z,aB⟩
end Go.Proofs.X
open Go Go.Proofs Go.Sl Go.Dm
namespace Go.Proofs.X
theorem hall2mixed : Tryz.prog.follows .mixedOrders = true := by kernel_rfl
theorem elhall2_24 : elSh Tryz.prog 24 = some (3, 1, 8) := by kernel_rfl
theorem elhall2_255 : elSh Tryz.prog 255 = some (128, 1, 8) := by kernel_rfl
theorem elhall2_87 : elSh Tryz.prog 87 = some (24, 1, 24) := by kernel_rfl
theorem fdhall2_198_5 : fldOf Tryz.prog 198 5 = some 5 := by kernel_rfl
theorem fdhall2_26_1 : fldOf Tryz.prog 26 1 = some 1 := by kernel_rfl
theorem fdhall2_26_2 : fldOf Tryz.prog 26 2 = some 2 := by kernel_rfl
theorem fdhall2_26_3 : fldOf Tryz.prog 26 3 = some 3 := by kernel_rfl
theorem fdhall2_26_4 : fldOf Tryz.prog 26 4 = some 4 := by kernel_rfl
theorem shhall2_128 : tySh Tryz.prog 128 = some (false, 1) := by kernel_rfl
theorem shhall2_196 : tySh Tryz.prog 196 = some (false, 1) := by kernel_rfl
theorem shhall2_198 : tySh Tryz.prog 198 = some (true, 6) := by kernel_rfl
theorem shhall2_23 : tySh Tryz.prog 23 = some (false, 1) := by kernel_rfl
theorem shhall2_24 : tySh Tryz.prog 24 = some (false, 1) := by kernel_rfl
theorem shhall2_26 : tySh Tryz.prog 26 = some (true, 7) := by kernel_rfl
theorem shhall2_3 : tySh Tryz.prog 3 = some (false, 1) := by kernel_rfl
theorem shhall2_87 : tySh Tryz.prog 87 = some (false, 1) := by kernel_rfl
theorem zehall2_198 : zer Tryz.prog 198 = some (.agg #[.string ⟨#[]⟩, .nilFunc, .nilFunc, .nilFunc, .nilFunc, .nilFunc]) := by kernel_rfl
theorem zehall2_24 : zer Tryz.prog 24 = some (.slice none 0 0) := by kernel_rfl
theorem zehall2_3 : zer Tryz.prog 3 = some (.int .i64 (0)) := by kernel_rfl
theorem zehall2_87 : zer Tryz.prog 87 = some (.slice none 0 0) := by kernel_rfl
theorem hall_Stay_1_ok {h:PH} {k1:Int} {pp1:Addr} {pc1:List Value} {t2:apiTable} (pa1:AtC h pp1 pc1) (pr1:VapiTable h pc1 t2) {r_0:Bool} (H:hall_Stay_1 k1 t2 = some r_0):∀ L,FnS Tryz.prog 191 [.int .i64 k1,.pointer (some pp1)] h (L) (fun v h' L'=>v = .bool r_0∧L' = L):=by
 intro L
 exact dead H
theorem hall_Stay_2_ok {h:PH} {k1:Int} {pp1:Addr} {pc1:List Value} {t2:List Int} (pa1:AtC h pp1 pc1) (pr1:(VSl (VI .i64) 1) h pc1 t2) {r_0:Bool} (H:hall_Stay_2 k1 t2 = some r_0):∀ L,FnS Tryz.prog 194 [.int .i64 k1,.pointer (some pp1)] h (L) (fun v h' L'=>v = .bool r_0∧L' = L):=by
 intro L
 exact dead H
theorem hall_keeps_ok {h:PH} {pc0:List Value} {t1:apiTable} (pr0:VapiTable h pc0 t1) {pv1:Value} {p4:List Int} (pr1:Slc (VI .i64) 1 h pv1 p4) {r_0:Bool} (H:hall_keeps t1 p4 = some r_0):∀ L,FnS Tryz.prog 193 [.agg pc0.toArray,pv1] h (L) (fun v h' L'=>v = .bool r_0∧L' = L):=by
 intro L
 obtain ⟨a,rfl,aa⟩:=pr0
 refine FnS.enter Tryz.func193 z Tryz.ntmps193 z<|Sr<|To (O.boxF z z z fun al av r ab=>Ag z<|Nt<|Sq<|Sr<|Mv z<|have y:=Slc.mono VI.mono pr1 r; Vv (V.lenS elhall2_24 z y)<|Mv z<|Nt ?_)
 obtain ⟨A,ac,ad⟩:=bndK H
 refine T.cutK (α:=Unit) [] z (fun _u=>[]) (fun _u=>L) (fun _u hh=>A = ()) ?_ ?_
 ·have H:=ac
  refine Bl<|T.loopK (α:=Nat×Int) [1,2,8] z (fun ⟨c,b⟩=>[(9,.int .i64 b)]) (fun ⟨c,b⟩=>L) (fun ⟨c,b⟩ hh=>iter (hall_keeps_l0 t1 p4) c b = some A) (fun ⟨c,b⟩=>c) (FUEL,(0:Int)) ⟨z,trivial⟩ z H ?_
  rintro ⟨c,b⟩ az f ae
  obtain ⟨af,ba,rfl,H,B⟩:=iter_go ae
  refine T.norm [9,1,2,8] z<|Sl_ (L) z<|Sr<|Vv (V.lt z z)<|Nt<|Sq<|T.cH H z (fun H=>?_) (fun H=>?_)
  ·refine T.skip<|Th<|Sq<|Bl<|Sr<|Mv z<|Ag z<|Nt<|Sq<|Sq<|T.drawF (t:=(.v 0 (.v 1 (.v 2 (.v 4 (.v 5 (.v 6 (.v 7 (.v 8 (.v 9 (.alt 3 (.g (.alt 10 (.g (.v 11 .done)) .no)) .no))))))))))) 13 0 0 rfl rfl hall2mixed (by kernel_rfl) ?_
   refine Tv z (V.fa fdhall2_26_4 z)<|have s:=ab.mono f; Tv z (V.ldf (k:=4) shhall2_24 z s z)<|Tm z z<|Tv z (V.fa fdhall2_26_4 z)<|Tv z (V.ldf (k:=4) shhall2_24 z s z)<|Tm z z<|Tm z z ?_
   obtain ⟨bb,C,H⟩:=bnd H
   have u:=Slc.mono VI.mono y f
   obtain ⟨bc,ag,rfl⟩:=Slc.at u C
   refine Tv z (V.ix elhall2_24 z z u (getI_bd C))<|Tv z (V.ld0 shhall2_3 z ag z)<|have ai:=(r.trans f); have D:=Slc.mono VI.mono aa ai; ?_
   obtain ⟨bd,aj,H⟩:=bnd H
   refine Tp z z (SX.two (XA.fr [] Lr z) (XA.fr [] Lr z)) (O.callS z (sl_ContainsInt_ok D aj _) z fun be bf bg j ak=>?_) T.tno
   obtain ⟨rfl,am⟩:=ak
   refine Sl_ _ am<|T.tgrow j<|have E:=Slc.mono VI.mono D j; ?_
   obtain ⟨bi,an,H⟩:=bnd H
   refine Tp z z (SX.two (XA.fr [] Lr z) (XA.fr [] Lr z)) (O.callS z (sl_ContainsInt_ok E an _) z fun bj bk bm m ao=>?_) T.tno
   obtain ⟨rfl,ap⟩:=ao
   refine Sl_ _ ap<|T.tgrow m<|Tv z (V.bne Tryz.underlying4 z z)<|T.tnil (SX.two (XA.fr [] Lr z) (XA.fr [] Lr z))<|Th<|T.cH H z (fun H=>?_) (fun H=>?_)
   ·exact dead H
   refine T.skip<|Th<|Sr<|Mv z<|Mv z<|Nt<|T.asThen ?_
   obtain ⟨G,aq,ar⟩:=bndK H
   refine T.cutK (α:=Unit) [1,2,8,9] z (fun _u=>[]) (fun _u=>L) (fun _u hh=>G = ()) ?_ ?_
   ·have H:=aq
    refine Bl<|T.loopK (α:=Nat×Int) [1,2,5,8,9,24] z (fun ⟨d,e⟩=>[(25,.int .i64 e)]) (fun ⟨d,e⟩=>L) (fun ⟨d,e⟩ hh=>iter (hall_keeps_l1 t1 p4 b) d e = some G) (fun ⟨d,e⟩=>d) (FUEL,(0:Int)) ⟨z,trivial⟩ z H ?_
    rintro ⟨d,e⟩ au n aw
    obtain ⟨ax,bn,rfl,H,I⟩:=iter_go aw
    refine T.norm [25,1,2,5,8,9,24] z<|Sl_ (L) z<|Sr<|Vv (V.lt z z)<|Nt<|Sq<|T.cH H z (fun H=>?_) (fun H=>?_)
    ·refine T.skip<|Th<|Sq<|Bl<|Sr<|Mv z<|Ag z<|Nt<|Sq<|T.drawF (t:=(.v 0 (.v 1 (.v 2 (.v 4 (.v 5 (.v 6 (.v 7 (.v 8 (.v 9 (.v 10 (.v 11 (.v 12 (.alt 3 (.g (.alt 13 (.g (.v 14 (.v 15 (.v 16 (.v 17 (.v 18 (.v 20 (.v 21 (.v 22 (.v 23 (.v 24 (.v 25 (.v 26 (.v 27 (.v 28 (.alt 19 (.g (.alt 29 (.g (.v 30 (.v 31 .done))) .no)) .no)))))))))))))))) .no)) .no)))))))))))))) 33 0 0 rfl rfl hall2mixed (by kernel_rfl) ?_
     have J:=((j.trans m).trans n)
     have w:=s.mono J
     refine Tv z (V.ldS rfl w (by exact shhall2_26)) ?_
     refine Tm z z<|Tm z z<|Tv z (V.ldS rfl w (by exact shhall2_26)) ?_
     refine Tm z z<|Tm z z ?_
     obtain ⟨bo,K,H⟩:=bnd H
     have i:=Slc.mono VI.mono u J
     obtain ⟨bp,ay,rfl⟩:=Slc.at i K
     refine Tv z (V.ix elhall2_24 z z i (getI_bd K))<|Tv z (V.ld0 shhall2_3 z ay z)<|Tm z z<|Tm z z ?_
     obtain ⟨bq,M,H⟩:=bnd H
     obtain ⟨br,aA,rfl⟩:=Slc.at i M
     refine Tv z (V.ix elhall2_24 z z i (getI_bd M))<|Tv z (V.ld0 shhall2_3 z aA z)<|have aB:=(m.trans n); have N:=Slc.mono VI.mono E aB; ?_
     obtain ⟨bs,aC,H⟩:=bnd H
     refine Tp z z (SX.two (XA.fr [] Lr z) (XA.fr [] Lr z)) (O.callS z (hall_beside_ok (show VapiTable au [.string t1.fName,.int .u8 t1.fShape,.int .i64 t1.fA,.int .i64 t1.fB,a,.int .i64 t1.fX,.int .i64 t1.fY] t1 from ⟨a,z,N⟩) aC _) z fun bt aD bu o aE=>?_) T.tno
     obtain ⟨rfl,aG⟩:=aE
     refine Sl_ _ aG<|T.tgrow o<|have P:=Slc.mono VI.mono N o; ?_
     obtain ⟨bw,aI,H⟩:=bnd H
     refine Tp z z (SX.two (XA.fr [] Lr z) (XA.fr [] Lr z)) (O.callS z (hall_beside_ok (show VapiTable aD [.string t1.fName,.int .u8 t1.fShape,.int .i64 t1.fA,.int .i64 t1.fB,a,.int .i64 t1.fX,.int .i64 t1.fY] t1 from ⟨a,z,P⟩) aI _) z fun bx aJ bA p aK=>?_) T.tno
     obtain ⟨rfl,aM⟩:=aK
     refine Sl_ _ aM<|T.tgrow p<|Tv z (V.bne Tryz.underlying4 z z)<|Tm z z<|T.bH 43 H z (fun H=>?_) (fun H=>?_)
     ·exact dead H
     have S:=(o.trans p)
     have U:=w.mono S
     refine Tv z (V.ldS rfl U (by exact shhall2_26)) ?_
     refine Tm z z<|Tm z z<|Tv z (V.ldS rfl U (by exact shhall2_26)) ?_
     refine Tm z z<|Tm z z ?_
     obtain ⟨bB,W,H⟩:=bnd H
     have q:=Slc.mono VI.mono i S
     obtain ⟨bC,aN,rfl⟩:=Slc.at q W
     refine Tv z (V.ix elhall2_24 z z q (getI_bd W))<|Tv z (V.ld0 shhall2_3 z aN z)<|Tm z z<|Tm z z ?_
     obtain ⟨bD,X,H⟩:=bnd H
     obtain ⟨bE,aO,rfl⟩:=Slc.at q X
     refine Tv z (V.ix elhall2_24 z z q (getI_bd X))<|Tv z (V.ld0 shhall2_3 z aO z)<|have Y:=Slc.mono VI.mono P p; ?_
     obtain ⟨bG,aP,H⟩:=bnd H
     refine Tp z z (SX.two (XA.fr [] Lr z) (XA.fr [] Lr z)) (O.callS z (hall_across_ok (show VapiTable aJ [.string t1.fName,.int .u8 t1.fShape,.int .i64 t1.fA,.int .i64 t1.fB,a,.int .i64 t1.fX,.int .i64 t1.fY] t1 from ⟨a,z,Y⟩) aP _) z fun bI aS bJ x aU=>?_) T.tno
     obtain ⟨rfl,aV⟩:=aU
     refine Sl_ _ aV<|T.tgrow x<|have aW:=Slc.mono VI.mono Y x; ?_
     obtain ⟨bK,aX,H⟩:=bnd H
     refine Tp z z (SX.two (XA.fr [] Lr z) (XA.fr [] Lr z)) (O.callS z (hall_across_ok (show VapiTable aS [.string t1.fName,.int .u8 t1.fShape,.int .i64 t1.fA,.int .i64 t1.fB,a,.int .i64 t1.fX,.int .i64 t1.fY] t1 from ⟨a,z,aW⟩) aX _) z fun bM bN bO Z aY=>?_) T.tno
     obtain ⟨rfl,aZ⟩:=aY
     refine Sl_ _ aZ<|T.tgrow Z<|Tv z (V.bne Tryz.underlying4 z z)<|Tv z (V.pkF z z)<|T.tnil (SX.two (XA.fr [] Lr z) (XA.fr [] Lr z))<|Th<|T.cH H z (fun H=>?_) (fun H=>?_)
     ·exact dead H
     refine T.skip<|Bn<|Th<|T.norm [1,2,5,8,9,24,25] z<|Rg ?_
     obtain ⟨a0,a1,H⟩:=bnd H
     refine Vv (V.addS z z a1)<|Mv z<|Nt<|have a2:=((((n.trans o).trans p).trans x).trans Z); T.again (ax,a0) a2 (Nat.lt_succ_self _) (iterK_in H I) (AllIn.app ⟨z,trivial⟩ ⟨z,z,z,z,z,z,trivial⟩) z
    refine T.exit<|Te<|Te<|have H:=iterK_out H I; Be<|Th<|T.met () n H (AllIn.app trivial ⟨z,z,z,z,trivial⟩) z
   rintro _ bP a3 a4
   have H:=cutE a4 ar
   refine T.norm [1,2,8,9] z<|Sl_ (L) z<|Bn<|Th<|Rg ?_
   obtain ⟨a5,a6,H⟩:=bnd H
   refine Vv (V.addS z z a6)<|Mv z<|Nt<|have a7:=(((f.trans j).trans m).trans a3); T.again (af,a5) a7 (Nat.lt_succ_self _) (iterK_in H B) (AllIn.app ⟨z,trivial⟩ ⟨z,z,z,trivial⟩) z
  refine T.exit<|Te<|Te<|have H:=iterK_out H B; Be<|Th<|T.met () f H (AllIn.app trivial trivial) z
 rintro _ bS a8 a9
 have H:=cutE a9 ad
 refine T.norm [] z<|Sl_ (L) z<|Sr<|Ag z<|Nt<|T.ret ?_
 obtain rfl:=Option.some.inj H
 have ah:=(r.trans a8)
 exact T.retL Tryz.results193 (Rv z) ah ⟨z,z⟩
theorem hall_candidates_1_ok {h:PH} {σ:Type} {R:σ→PH→List HProp→Prop} {pv0:Value} {yield1:σ→(List Int)→Option (σ×Bool)} (pr0:CY65 R h pv0 yield1) {s0:σ} {La:List HProp} (hRa:R s0 h La) {pp1:Addr} {pc1:List Value} {t2:apiTable} (pa1:AtC h pp1 pc1) (pr1:VapiTable h pc1 t2) {q_s:σ} (H:hall_candidates_1 yield1 s0 t2 = some q_s):∀ As L,FnS Tryz.prog 230 [pv0,.pointer (some pp1)] h ((As ++ (La ++ L))) (fun v h' L'=>∃ La',v = .tuple #[]∧L' = (As ++ (La' ++ L))∧R q_s h' La'):=by
 intro As L
 obtain ⟨D,rfl,aj⟩:=pr1
 refine FnS.enter Tryz.func230 z Tryz.ntmps230 z<|Sr<|Vv (V.fa fdhall2_26_1 z)<|Vv (V.ldf (k:=1) shhall2_23 z pa1 z) ?_
 obtain ⟨⟨ak,bO⟩,am,H⟩:=bnd H
 refine To (O.callS z (hall_layoutOf_ok am _) z fun bP bS bU an ao=>?_)
 obtain ⟨ap,aq,ar,au,aw,rfl,ax,ay,aA,aB,aC,E⟩:=ao
 refine Sl_ _ ax<|Mv z<|Vv (V.ext rfl rfl)<|Vv (V.ext rfl rfl)<|To (O.alloc zehall2_198 rfl rfl fun bV=>To (O.stF (vs:=[.string ak.fword,ap,aq,ar,au,aw]) shhall2_198 rfl rfl (j:=0) rfl rfl (by (simp only [Sl.ones,ay.1.1,aA.1.1,aB.1.1,aC.1.1,E.1.1,Bool.and_true,Bool.true_and]) <;> rfl) rfl ?_))
 refine T.freeze fun aD G aE=>have aG:=AtC.of aE; Ag z<|Nt<|Sr<|have s:=(an.trans G); have I:=pa1.mono s; Vv (V.ldS rfl I (by exact shhall2_26)) ?_
 have aI:=Slc.mono VI.mono aj s
 obtain ⟨J,aJ,H⟩:=bnd H
 refine To (O.callS z (hall_size_ok (show VapiTable aD [.string t2.fName,.int .u8 t2.fShape,.int .i64 t2.fA,.int .i64 t2.fB,D,.int .i64 t2.fX,.int .i64 t2.fY] t2 from ⟨D,z,aI⟩) aJ _) z fun bW bX bY p aK=>?_)
 obtain ⟨rfl,aM⟩:=aK
 refine Sl_ _ aM<|Ag z<|Nt<|Sr<|Vv (V.fa fdhall2_198_5 z)<|have aN:=aG.mono p; Vv (V.ldf (k:=5) shhall2_196 z aN z)<|Vv (V.fa fdhall2_26_2 z)<|have K:=I.mono p; Vv (V.ldf (k:=2) shhall2_3 z K z)<|Vv (V.fa fdhall2_26_3 z)<|Vv (V.ldf (k:=3) shhall2_3 z K z) ?_
 obtain ⟨aO,aP,H⟩:=bnd H
 have aS:=(G.trans p)
 have aU:=CF196.mono E aS
 obtain ⟨bZ,b0,b1,aV,aW⟩:=CF196.call aU aP
 refine To (O.callfW z aV z (aW _) z fun b2 b3 b4 M aX=>?_)
 obtain ⟨aY,N⟩:=aX
 refine Sl_ _ aY<|Vv (V.lenS elhall2_255 z N)<|Mv z<|Nt<|T.asThen ?_
 obtain ⟨P,aZ,a0⟩:=bndK H
 refine T.cutK (α:=σ×(List HProp)) [] z (fun ⟨q,d⟩=>[]) (fun ⟨q,d⟩=>(As ++ (d ++ L))) (fun ⟨q,d⟩ hh=>P = q∧R q hh d) ?_ ?_
 ·have H:=aZ
  refine Bl<|have S:=((s.trans p).trans M); have a1:=pr0.2.1 _ _ _ _ S hRa; T.loopK (α:=Nat×σ×Int×(List HProp)) [0,5,24,25] z (fun ⟨g,e,i,a⟩=>[(26,.int .i64 i)]) (fun ⟨g,e,i,a⟩=>(As ++ (a ++ L))) (fun ⟨g,e,i,a⟩ hh=>iter (hall_candidates_1_l0 yield1 J aO) g (e,i) = some P∧R e hh a) (fun ⟨g,e,i,a⟩=>g) (FUEL,s0,(0:Int),La) ⟨z,trivial⟩ z ⟨H,a1⟩ ?_
  rintro ⟨g,e,i,a⟩ a2 t ⟨a3,U⟩
  obtain ⟨a4,b5,rfl,H,W⟩:=iter_go a3
  refine T.norm [26,0,5,24,25] z<|Sl_ ((As ++ (a ++ L))) z<|Sr<|Vv (V.lt z z)<|Nt<|Sq<|T.cH H z (fun H=>?_) (fun H=>?_)
  ·refine T.skip<|Th<|Sq<|Bl<|Sr ?_
   obtain ⟨a5,X,H⟩:=bnd H
   have Y:=Slc.mono VF128.mono N t
   obtain ⟨b6,a6,⟨b7,rfl,a7⟩⟩:=Slc.at Y X
   refine Vv (V.ix elhall2_255 z z Y (getI_bd X))<|Vv (V.ld0 shhall2_128 z a6 z)<|Ag z<|Nt<|Sr<|Mv z ?_
   obtain ⟨y,Z,H⟩:=bnd H
   refine To (O.mkX elhall2_24 zehall2_3 z z z z Z z fun m b8 b9=>have aa:RowF (VI .i64) a2 _ y:=RowF.rep z Z; Ag z<|Nt<|Sq<|Sr<|Mv z<|Vv (V.lenX elhall2_24 z (j:=0) z aa.len)<|Mv z<|Nt ?_)
   obtain ⟨ab,a8,a9⟩:=bndK H
   refine T.cutK (α:=(List Int)×(List (List Value))) [0,5,24,25,26] z (fun ⟨r,n⟩=>[(8,m)]) (fun ⟨r,n⟩=>rowR 3 1 m n::(As ++ (a ++ L))) (fun ⟨r,n⟩ hh=>ab = r∧RowF (VI .i64) hh n r) ?_ ?_
   ·have H:=a8
    refine Bl<|T.loopK (α:=Nat×Int×(List Int)×(List (List Value))) [0,5,7,24,25,26,33] z (fun ⟨o,c,f,b⟩=>[(34,.int .i64 c),(8,m)]) (fun ⟨o,c,f,b⟩=>rowR 3 1 m b::(As ++ (a ++ L))) (fun ⟨o,c,f,b⟩ hh=>iter (hall_candidates_1_l1 a5 y) o (c,f) = some ab∧RowF (VI .i64) hh b f) (fun ⟨o,c,f,b⟩=>o) (FUEL,(0:Int),y,(List.replicate J.toNat [.int .i64 (0:Int)])) ⟨z,z,trivial⟩ z ⟨H,aa⟩ ?_
    rintro ⟨o,c,f,b⟩ bh A ⟨ah,ac⟩
    obtain ⟨al,bl,rfl,H,ad⟩:=iter_go ah
    refine T.norm [34,8,0,5,7,24,25,26,33] z<|Sl_ (rowR 3 1 m b::(As ++ (a ++ L))) z<|Sr<|Vv (V.lt z z)<|Nt<|Sq<|T.cH H z (fun H=>?_) (fun H=>?_)
    ·refine T.skip<|Th<|Sq<|Bl<|Sr<|Mv z<|Ag z<|Nt<|Rg<|Mv z<|Mv z<|Mv z<|Mv z ?_
     obtain ⟨u,av,H⟩:=bnd H
     have az:=CF128.mono a7 A
     obtain ⟨bv,bz,ca,ba,bb⟩:=CF128.call az av
     refine To (O.callfW z ba z (bb _) z fun cb ae cc af bc=>?_)
     obtain ⟨rfl,be⟩:=bc
     refine Sl_ _ be ?_
     obtain ⟨cd,B,H⟩:=bnd H
     have w:=RowF.mono VI.mono ac af
     obtain ⟨ce,cf,rfl⟩:=RowF.get w B
     refine Vv (V.ixR elhall2_24 z z (j:=0) z (RowF.bd w B)) ?_
     obtain ⟨ag,bf,H⟩:=bnd H
     refine To (O.stR shhall2_3 z z (j:=0) z (RowF.bdN w B) z<|have bg:RowF (VI .i64) ae (b.set c.toNat [.int .i64 u]) ag:=RowF.set w (show (VI .i64) ae [.int .i64 u] u from z) bf; Ni<|Bn<|Th<|Rg ?_)
     obtain ⟨bi,bj,H⟩:=bnd H
     refine Vv (V.addS z z bj)<|Mv z<|Nt<|have bk:=(A.trans af); T.again (al,bi,ag,(b.set c.toNat [.int .i64 u])) bk (Nat.lt_succ_self _) ⟨(iterK_in H ad),bg⟩ (AllIn.app ⟨z,z,trivial⟩ ⟨z,z,z,z,z,z,z,trivial⟩) z
    refine T.exit<|Te<|Te<|have H:=iterK_out H ad; Be<|Th<|T.met (f,b) A ⟨H,ac⟩ (AllIn.app ⟨z,trivial⟩ ⟨z,z,z,z,z,trivial⟩) z
   rintro ⟨r,n⟩ cg C ⟨bm,bn⟩
   have H:=cutE bm a9
   refine T.norm [8,0,5,24,25,26] z<|Sl_ (rowR 3 1 m n::(As ++ (a ++ L))) z<|Sr<|Mv z<|Mv z<|T.rowFix fun ci x bo=>have bp:=RowF.mono VI.mono bn x; have bq:=RowF.slc bo bp; ?_
   obtain ⟨⟨br,cj⟩,bs,H⟩:=bnd H
   have bt:=(((S.trans t).trans C).trans x)
   have bu:=CY65.mono pr0 bt
   have bw:=(C.trans x)
   have bx:=pr0.2.1 _ _ _ _ bw U
   refine To (O.callY z z (CY65.call bu bq bx bs As _) z fun ck cm cn bA bB=>?_)
   obtain ⟨ai,rfl,bC,bD⟩:=bB
   refine Sl_ ((As ++ (ai ++ L))) bC<|Vv (V.not z)<|Nt<|T.cH H z (fun H=>?_) (fun H=>?_)
   ·exact dead H
   refine T.skip<|Bn<|Th<|Rg ?_
   obtain ⟨bE,bG,H⟩:=bnd H
   refine Vv (V.addS z z bG)<|Mv z<|Nt<|have bI:=(((t.trans C).trans x).trans bA); T.again (a4,br,bE,ai) bI (Nat.lt_succ_self _) ⟨(iterK_in H W),bD⟩ (AllIn.app ⟨z,trivial⟩ ⟨z,z,z,z,trivial⟩) z
  refine T.exit<|Te<|Te<|have H:=iterK_out H W; Be<|Th<|T.met (e,a) t ⟨H,U⟩ (AllIn.app trivial trivial) z
 rintro ⟨q,d⟩ co bJ ⟨bK,bM⟩
 have H:=cutE bK a0
 refine T.norm [] z<|Sl_ ((As ++ (d ++ L))) z ?_
 obtain rfl:=Option.some.inj H
 have bN:=(((s.trans p).trans M).trans bJ)
 exact T.end0 Tryz.results230 bN ⟨d,z,z,bM⟩
theorem hall_candidates_ok {h:PH} {pc0:List Value} {t1:apiTable} (pr0:VapiTable h pc0 t1) {r_0:apiTable} (H:hall_candidates t1 = some r_0):∀ L,FnS Tryz.prog 192 [.agg pc0.toArray] h (L) (fun v h' L'=>∃ p0_1 v0_3,v = .func (.func 230) #[] #[.pointer (some p0_1)]∧L' = L∧AtC h' p0_1 [.string r_0.fName,.int .u8 r_0.fShape,.int .i64 r_0.fA,.int .i64 r_0.fB,v0_3,.int .i64 r_0.fX,.int .i64 r_0.fY]∧Slc (VI .i64) 1 h' v0_3 r_0.fOpen):=by
 intro L
 obtain ⟨e,rfl,b⟩:=pr0
 refine FnS.enter Tryz.func192 z Tryz.ntmps192 z<|Sr<|To (O.boxF z z z fun f g a c=>Ag z<|Nt<|Sr<|Vv (V.mkf z z)<|Ag z<|Nt<|T.ret<|have d:=Slc.mono VI.mono b a; ?_)
 obtain rfl:=Option.some.inj H
 exact T.retL Tryz.results192 (Rv z) a ⟨_,_,z,z,c,d⟩
theorem hall_Stay_ok {h:PH} {pc0:List Value} {t1:apiTable} (pr0:VapiTable h pc0 t1) {pv1:Value} {seats4:List Int} (pr1:Slc (VI .i64) 1 h pv1 seats4) {r_0:List (List Int)} (H:hall_Stay t1 seats4 = some r_0):∀ L,FnS Tryz.prog 125 [.agg pc0.toArray,pv1] h (L) (fun v h' L'=>∃ cs0,L' = rowR 24 1 v cs0::L∧RowF (VSl (VI .i64) 1) h' cs0 r_0):=by
 intro L
 obtain ⟨d,rfl,ax⟩:=pr0
 refine FnS.enterM Tryz.func125 rfl Tryz.ntmps125 rfl<|Sr<|To (O.boxF rfl rfl rfl fun B b1 C ay=>have D:=Slc.mono VI.mono pr1 C; To (O.boxF rfl (Slc.cells D) rfl fun b2 aA q aB=>Ag z<|Nt<|Sq<|Sr<|have E:=ay.mono q; Vv (V.ldS rfl E (by exact shhall2_26)) ?_))
 have G:=(C.trans q)
 have I:=Slc.mono VI.mono ax G
 obtain ⟨b3,aC,H⟩:=bnd H
 refine To (O.callS z (hall_Check_ok (show VapiTable aA [.string t1.fName,.int .u8 t1.fShape,.int .i64 t1.fA,.int .i64 t1.fB,d,.int .i64 t1.fX,.int .i64 t1.fY] t1 from ⟨d,z,I⟩) aC _) z fun b4 aD b5 i aE=>?_)
 obtain ⟨rfl,aG⟩:=aE
 refine Sl_ _ aG<|Vv (V.ne z z)<|Mv z<|T.bH 10 H z (fun H=>?_) (fun H=>?_)
 ·exact dead H
 have J:=aB.mono i
 refine Vv (V.ld0 shhall2_24 z J z)<|Vv (V.mkf z z)<|have aI:=(q.trans i); have K:=Slc.mono VI.mono D aI; have M:=E.mono i; have N:=Slc.mono VI.mono I i; ?_
 obtain ⟨b6,aJ,H⟩:=bnd H
 refine To (O.callS z (sl_ContainsFuncInt_ok K (show CF138 aD (.func (.func 191) #[] #[.pointer (some ⟨B,0,none⟩)]) (fun r=>hall_Stay_1 r t1) from ⟨⟨z,z⟩,.inr ⟨191,[],[.pointer (some ⟨B,0,none⟩)],z,fun aK P b7 b8 aM aN=>hall_Stay_1_ok (M.mono P) (show VapiTable aK [.string t1.fName,.int .u8 t1.fShape,.int .i64 t1.fA,.int .i64 t1.fB,d,.int .i64 t1.fX,.int .i64 t1.fY] t1 from ⟨d,z,(Slc.mono VI.mono N P)⟩) aM aN⟩⟩) aJ _) z fun b9 aO bh m aP=>?_)
 obtain ⟨rfl,aS⟩:=aP
 refine Sl_ _ aS<|Vv (V.pkF z z)<|Nt<|T.cH H z (fun H=>?_) (fun H=>?_)
 ·exact dead H
 refine T.skip<|Th<|Sr<|To (O.alloc zehall2_87 rfl rfl fun g=>Nt<|Sq<|Sr<|have U:=M.mono m; Vv (V.ldS rfl U (by exact shhall2_26)) ?_)
 have W:=Slc.mono VI.mono N m
 obtain ⟨f,aU,H⟩:=bnd H
 refine To (O.callS z (hall_candidates_ok (show VapiTable aO [.string t1.fName,.int .u8 t1.fShape,.int .i64 t1.fA,.int .i64 t1.fB,d,.int .i64 t1.fX,.int .i64 t1.fY] t1 from ⟨d,z,W⟩) aU _) z fun bl s bv t aV=>?_)
 obtain ⟨bz,X,rfl,aW,aX,aY⟩:=aV
 refine Sl_ _ aW<|Nt<|Bl ?_
 obtain ⟨ca,aZ,a0⟩:=bndK H
 refine T.rowNil 24 1<|have a1:RowF (VSl (VI .i64) 1) s [] ([]:List (List Int)):=RowF.nil; Fr_ 1 z<|T.rangeY (S:=(List (List Int))) (O:=Unit) (La0:=[blk g (.cells [(.slice none 0 0)].toArray 87),rowR 24 1 (.slice none 0 0) []]) (Lr:=L) (fun n hh a2=>∃ b:Value,∃ a:List (List Value),a2 = ([blk g (.cells [b].toArray 87),rowR 24 1 b a]:List HProp)∧RowF (VSl (VI .i64) 1) hh a n) (fun _ _ _ _=>False) z z ⟨(.slice none 0 0),[],z,a1⟩ (fun R_ y_=>CY65 R_ s y_ (hall_Stay_l0 t1 seats4)) (fun Y=>⟨⟨z,z⟩,RYs.mono (fun n _ _ _ l_ ⟨b,a,e_,f0_⟩=>⟨b,a,e_,RowF.mono (VSl.mono VI.mono) f0_ l_⟩) (fun _ _ _ _ _ _ q_=>q_),?_⟩) (fun _ La_ a3 a4 a5=>FnS.perm (List.Perm.refl _) (hall_candidates_1_ok a3 a4 aX (show VapiTable s [.string f.fName,.int .u8 f.fShape,.int .i64 f.fA,.int .i64 f.fB,X,.int .i64 f.fX,.int .i64 f.fY] f from ⟨X,z,aY⟩) aZ [] a5) fun _ _ _ ⟨La_,_,e_,q_⟩=>⟨_,List.Perm.refl _,La_,e_,q_⟩) ?_ ?_
 ·intro cb Z c u w a6 cc cd ce a7 H As_ L_
  rcases a6 with n | _
  rotate_left
  ·exact dead H
  obtain ⟨aa,_,rfl,ab,a8,cf,b,a,rfl,x⟩:=a7
  refine Yld.front fun L=>Yld.round1 (j:=0) rfl ab rfl<|Sl_ (blk Y (.loop aa)::blk g (.cells [b].toArray 87)::rowR 24 1 b a::L) rfl<|Rg<|To (O.alloc zehall2_24 rfl rfl fun ac=>To (O.stF (vs:=[c]) shhall2_24 rfl rfl (j:=0) rfl (Slc.cells w) (by (simp only [Sl.ones,Slc.one w,Bool.and_true,Bool.true_and]) <;> rfl) rfl ?_))
  refine T.fl ?_
  refine T.freeze fun a9 o ah=>have ad:=AtC.of ah; Nt<|T.begin (j:=0) z a8<|T.fl ?_
  refine Bl<|Sr<|have ae:=((t.trans Z).trans o); have al:=U.mono ae; Vv (V.ldS rfl al (by exact shhall2_26)) ?_
  refine Vv (V.ld0 shhall2_24 z ad z)<|have av:=Slc.mono VI.mono W ae; have af:=Slc.mono VI.mono w o; ?_
  obtain ⟨cg,az,H⟩:=bnd H
  refine To (O.callS z (hall_keeps_ok (show VapiTable a9 [.string t1.fName,.int .u8 t1.fShape,.int .i64 t1.fA,.int .i64 t1.fB,d,.int .i64 t1.fX,.int .i64 t1.fY] t1 from ⟨d,z,av⟩) af az _) z fun ci ba cj p bb=>?_)
  obtain ⟨rfl,bc⟩:=bb
  refine Sl_ _ bc<|Mv z<|T.bH 21 H z (fun H=>?_) (fun H=>?_)
  ·have ag:=((((m.trans t).trans Z).trans o).trans p)
   have bd:=J.mono ag
   refine Vv (V.ld0 shhall2_24 z bd z)<|Vv (V.mkf z z)<|have be:=Slc.mono VI.mono K ag; have ai:=ad.mono p; have aj:=Slc.mono VI.mono af p; ?_
   obtain ⟨ck,bf,H⟩:=bnd H
   refine To (O.callS z (sl_ContainsFuncInt_ok be (show CF138 ba (.func (.func 194) #[] #[.pointer (some ⟨ac,0,none⟩)]) (fun r=>hall_Stay_2 r u) from ⟨⟨z,z⟩,.inr ⟨194,[],[.pointer (some ⟨ac,0,none⟩)],z,fun bg ak cm cn bi bj=>hall_Stay_2_ok (ai.mono ak) (show (VSl (VI .i64) 1) bg [c] u from ⟨c,z,(Slc.mono VI.mono aj ak)⟩) bi bj⟩⟩) bf _) z fun co am cp y bk=>?_)
   obtain ⟨rfl,bm⟩:=bk
   refine Sl_ _ bm<|Vv (V.not z)<|Vv (V.pkT z z)<|Nt<|T.cH H z (fun H=>?_) (fun H=>?_)
   ·refine Rg<|Vv (V.ldO0 shhall2_87 z (j:=1) z z)<|have bn:=ai.mono y; Vv (V.ld0 shhall2_24 z bn z)<|have an:=Slc.mono VI.mono aj y; To (O.bs elhall2_87 zehall2_24 z (e:=z) (hk:=z) (xs:=[.tmp 28]) (hv:=CO.eq (CO.cons (Slc.cells an) CO.nil)) (hw:=Wide.of z) (hd:=z) fun bo=>have A:RowF (VSl (VI .i64) 1) am [[c]] ([u]:List (List Int)):=(RowF.cons ⟨c,z,an⟩ RowF.nil); ?_)
    obtain ⟨bp,ao,H⟩:=bnd H
    have aq:=((o.trans p).trans y)
    have ar:=RowF.mono (VSl.mono VI.mono) x aq
    refine To (O.apX elhall2_87 elhall2_87 zehall2_24 z z z (j:=3) z (Src.row (j:=0) z) (Wide.of z) (RowF.ones VSl.plain A) ar A ao z fun k cq cr=>have bq:RowF (VSl (VI .i64) 1) am (a ++ [[c]]) bp:=RowF.ap ar A ao; Sl_ (rowR 24 1 k (a ++ [[c]])::rowR 24 1 (.slice (some ⟨bo,0,none⟩) 1 1) [[c]]::blk Y (.loop { aa with state:=.busy })::blk g (.cells [b].toArray 87)::L) z<|Fr_ 1 z<|T.fl ?_)
    refine T.drop<|T.rowOne 0 rfl fun br bt=>To (O.stF (vs:=[k]) shhall2_87 rfl rfl (j:=2) rfl bt (by (simp only [Sl.ones,br,Bool.and_true,Bool.true_and]) <;> rfl) rfl ?_)
    refine T.fl ?_
    refine Ni<|Bn<|Fr_ 1 z<|T.fl ?_
    refine Fr_ 1 z<|T.fl ?_
    refine Fr_ 2 z<|T.fl ?_
    obtain ⟨rfl,rfl⟩:=inj2 H
    exact T.endN (j:=0) z aq ⟨_::[blk g (.cells [k].toArray 87),rowR 24 1 k (a ++ [[c]])],z,z,⟨_,_,z,ab.turn .ready none,z,z,⟨k,(a ++ [[c]]),z,bq⟩⟩⟩
   exact dead H
  exact dead H
 ·rintro bu bw _ n bx bA ⟨b,a,rfl,x⟩
  have H:=cutE bA a0
  refine Sl_ (blk bu (.deferred (some []))::blk g (.cells [b].toArray 87)::rowR 24 1 b a::L) z<|Bn<|Th<|Sr<|Vv (V.ldO0 shhall2_87 z (j:=1) z z)<|Fr_ 2 z<|T.fl ?_
  obtain ⟨cs,bB,H⟩:=bnd H
  refine To (O.callS z (sl_SortFuncInts_ok x (show CF240 bw (.func (.func 196) #[] #[]) sl_CompareInt from ⟨⟨z,z⟩,.inr ⟨196,[],[],z,fun ct cu cw cx bC cy cA bD cB bE bG=>sl_CompareInt_ok bC bD bE bG⟩⟩) bB _) z fun cC bI cD bJ bK=>?_)
  obtain ⟨cE,rfl,bM,bN⟩:=bK
  refine Sl_ _ bM<|Nt<|Sr<|Vv (V.ldO0 shhall2_87 z (j:=2) z z) ?_
  obtain ⟨cG,bO,H⟩:=bnd H
  refine To (O.callS z (sl_CompactFuncInts_ok bN (show CF93 bI (.func (.func 198) #[] #[]) sl_EqualInt from ⟨⟨z,z⟩,.inr ⟨198,[],[],z,fun cI cJ cK cM bP cN cO bS cP bU bV=>sl_EqualInt_ok bP bS bU bV⟩⟩) bO _) z fun au cS cU bW bX=>?_)
  obtain ⟨aw,bY,bZ⟩:=bX
  refine Sl_ _ bY<|Ag z<|Nt<|T.ret<|Fr_ 2 z<|T.fl ?_
  refine T.drop<|Fr_ 1 z<|T.lvRet<|T.lvMark (j:=0) z<|Sl_ (rowR 24 1 au aw::L) z ?_
  obtain rfl:=Option.some.inj H
  have b0:=((((((G.trans i).trans m).trans t).trans bx).trans bJ).trans bW)
  exact T.lvDone (L':=rowR 24 1 au aw::L) Tryz.results125 (Rv z) b0 (fun _ iv=>iv) ⟨_,z,bZ⟩
 rintro _ _ _ _ _ _ _ ⟨⟩
end Go.Proofs.X
open Go Go.Proofs Go.Sl Go.Dm
namespace Go.Proofs.X
theorem planmixed : Tryz.prog.follows .mixedOrders = true := by kernel_rfl
theorem elplan_122 : elSh Tryz.prog 122 = some (4, 1, 1) := by kernel_rfl
theorem elplan_24 : elSh Tryz.prog 24 = some (3, 1, 8) := by kernel_rfl
theorem elplan_27 : elSh Tryz.prog 27 = some (26, 7, 80) := by kernel_rfl
theorem elplan_28 : elSh Tryz.prog 28 = some (38, 9, 112) := by kernel_rfl
theorem fdplan_32_0 : fldOf Tryz.prog 32 0 = some 0 := by kernel_rfl
theorem fdplan_32_1 : fldOf Tryz.prog 32 1 = some 1 := by kernel_rfl
theorem shplan_26 : tySh Tryz.prog 26 = some (true, 7) := by kernel_rfl
theorem shplan_27 : tySh Tryz.prog 27 = some (false, 1) := by kernel_rfl
theorem shplan_28 : tySh Tryz.prog 28 = some (false, 1) := by kernel_rfl
theorem shplan_3 : tySh Tryz.prog 3 = some (false, 1) := by kernel_rfl
theorem shplan_32 : tySh Tryz.prog 32 = some (true, 5) := by kernel_rfl
theorem shplan_4 : tySh Tryz.prog 4 = some (false, 1) := by kernel_rfl
theorem zeplan_4 : zer Tryz.prog 4 = some (.bool false) := by kernel_rfl
theorem plan_group_ok {h:PH} {pc0:List Value} {p1:apiProblem} (pr0:VapiProblem h pc0 p1) {t12:Int} {r_0:List (List Int)} (H:plan_group p1 t12 = some r_0):∀ L,FnS Tryz.prog 73 [.agg pc0.toArray,.int .i64 t12] h (L) (fun v h' L'=>∃ cs0,L' = rowR 24 1 v cs0::L∧RowF (VSl (VI .i64) 1) h' cs0 r_0):=by
 intro L
 obtain ⟨d,e,f,g,i,rfl,w,x,y,A,B⟩:=pr0
 refine FnS.enter Tryz.func73 rfl Tryz.ntmps73 rfl<|Sr<|To (O.boxF rfl rfl rfl fun am C b m=>Ag z<|Nt<|Sr<|Ag z<|Nt<|Sq<|Sr<|Vv (V.ldS rfl m (by exact shplan_32)) ?_)
 refine Mv z<|have n:=Slc.mono VapiTable.mono w b; have D:=Slc.mono VapiGuest.mono x b; have E:=Slc.mono VapiTie.mono y b; have G:=Slc.mono VI.mono A b; have I:=Slc.mono VapiRule.mono B b; ?_
 obtain ⟨J,K,H⟩:=bnd H
 refine To (O.callS z (rule_Pinned_ok (show VapiProblem C [d,e,f,g,i] p1 from ⟨d,e,f,g,i,z,n,D,E,G,I⟩) K _) z fun an ao ap o M=>?_)
 obtain ⟨aq,N,P⟩:=M
 refine Sl_ _ N<|Vv (V.lenX elplan_24 z (j:=0) z P.len)<|Mv z<|Nt ?_
 obtain ⟨p,S,U⟩:=bndK H
 refine T.cutK (α:=Unit) [1,2,5] z (fun _u=>[]) (fun _u=>L) (fun _u hh=>p = ()) ?_ ?_
 ·have H:=S
  refine Bl<|T.drop<|T.loopK (α:=Nat) [1,2,5,11,12] z (fun c=>[]) (fun c=>L) (fun c hh=>iter (plan_group_l0 J) c () = some p) (fun c=>c) FUEL trivial z H ?_
  rintro c ar W X
  obtain ⟨au,aw,rfl,H,Y⟩:=iter_go X
  refine T.norm [1,2,5,11,12] z<|Sl_ (L) z<|Sr<|Vv (V.lt z z)<|Nt<|Sq<|T.cH H z (fun H=>?_) (fun H=>?_)
  ·exact dead H
  refine T.exit<|Te<|Te<|have H:=iterK_out H Y; Be<|Th<|T.met () W H (AllIn.app trivial ⟨z,z,z,trivial⟩) z
 rintro _ Z q aa
 have H:=cutE aa U
 refine T.norm [1,2,5] z<|Sl_ (L) z<|Sr<|Vv (V.fa fdplan_32_0 z)<|have r:=(o.trans q); have ab:=m.mono r; Vv (V.ldf (k:=0) shplan_27 z ab z)<|Mv z ?_
 obtain ⟨a,s,H⟩:=bnd H
 have t:=Slc.mono VapiTable.mono n r
 obtain ⟨ax,ac,⟨u,rfl,ad⟩⟩:=Slc.at t s
 refine Vv (V.ix elplan_27 rfl rfl t (getI_bd s))<|Vv (V.ldS rfl ac (by exact shplan_26)) ?_
 refine Mv z ?_
 obtain ⟨ay,ae,H⟩:=bnd H
 refine To (O.callS z (hall_Stay_ok (show VapiTable Z [.string a.fName,.int .u8 a.fShape,.int .i64 a.fA,.int .i64 a.fB,u,.int .i64 a.fX,.int .i64 a.fY] a from ⟨u,z,ad⟩) Slc.nil ae _) z fun aA aB aC af ag=>?_)
 obtain ⟨aD,ai,aj⟩:=ag
 refine Sl_ _ ai<|Ag z<|Nt<|T.ret ?_
 obtain rfl:=Option.some.inj H
 have ak:=(((b.trans o).trans q).trans af)
 exact T.retL Tryz.results73 (Rv z) ak ⟨_,z,aj⟩
theorem plan_Group_ok {h:PH} {pc0:List Value} {p1:apiProblem} (pr0:VapiProblem h pc0 p1) {t12:Int} {r_0:List (List Int)} (H:plan_Group p1 t12 = some r_0):∀ L,FnS Tryz.prog 42 [.agg pc0.toArray,.int .i64 t12] h (L) (fun v h' L'=>∃ cs0,L' = rowR 24 1 v cs0::L∧RowF (VSl (VI .i64) 1) h' cs0 r_0):=by
 intro L
 obtain ⟨c,d,e,f,g,rfl,s,t,u,w,x⟩:=pr0
 refine FnS.enter Tryz.func42 rfl Tryz.ntmps42 rfl<|Sr<|To (O.boxF rfl rfl rfl fun W y b i=>Ag z<|Nt<|Sq<|Sr<|Vv (V.ldS rfl i (by exact shplan_32)) ?_)
 have j:=Slc.mono VapiTable.mono s b
 have m:=Slc.mono VapiGuest.mono t b
 have n:=Slc.mono VapiTie.mono u b
 have o:=Slc.mono VI.mono w b
 have p:=Slc.mono VapiRule.mono x b
 obtain ⟨⟨X,Y⟩,A,H⟩:=bnd H
 refine To (O.callS z (rule_Check_ok (show VapiProblem y [c,d,e,f,g] p1 from ⟨c,d,e,f,g,z,j,m,n,o,p⟩) A _) z fun Z B aa a C=>?_)
 obtain ⟨rfl,D⟩:=C
 refine Sl_ _ D<|Mv z<|Vv (V.ext z z)<|Vv (V.ext z z)<|Ag z<|Ag z<|Nt<|Sr<|Mv z<|Vv (V.ne z z)<|Mv z<|T.bH 14 H z (fun H=>?_) (fun H=>?_)
 ·exact dead H
 refine Mv z<|Vv (V.lt z z)<|Vv (V.pkF z z)<|Mv z<|T.bH 18 H z (fun H=>?_) (fun H=>?_)
 ·exact dead H
 refine Mv z<|Vv (V.fa fdplan_32_0 z)<|have q:=i.mono a; Vv (V.ldf (k:=0) shplan_27 z q z)<|have r:=Slc.mono VapiTable.mono j a; Vv (V.lenS elplan_27 z r)<|Vv (V.ge z z)<|Vv (V.pkF z z)<|Nt<|T.cH H z (fun H=>?_) (fun H=>?_)
 ·exact dead H
 refine T.skip<|Th<|Sr<|Vv (V.ldS rfl q (by exact shplan_32)) ?_
 refine Mv z<|have E:=Slc.mono VapiGuest.mono m a; have G:=Slc.mono VapiTie.mono n a; have I:=Slc.mono VI.mono o a; have J:=Slc.mono VapiRule.mono p a; ?_
 obtain ⟨ab,K,H⟩:=bnd H
 refine To (O.callS z (plan_group_ok (show VapiProblem B [c,d,e,f,g] p1 from ⟨c,d,e,f,g,z,r,E,G,I,J⟩) K _) z fun ac ad ae M N=>?_)
 obtain ⟨af,P,S⟩:=N
 refine Sl_ _ P<|Ag z<|Nt<|T.ret ?_
 obtain rfl:=Option.some.inj H
 have U:=((b.trans a).trans M)
 exact T.retL Tryz.results42 (Rv z) U ⟨_,z,S⟩
theorem plan_check_ok {h:PH} {pc0:List Value} {p1:apiProblem} (pr0:VapiProblem h pc0 p1) {pv1:Value} {part12:List Int} (pr1:Slc (VI .i64) 1 h pv1 part12) {whole13:Bool} {r_0:Int} {r_1:Int} (H:plan_check p1 part12 whole13 = some (r_0,r_1)):∀ L,FnS Tryz.prog 137 [.agg pc0.toArray,pv1,.bool whole13] h (L) (fun v h' L'=>v = .tuple #[.int .i64 r_0,.int .i64 r_1]∧L' = L):=by
 intro L
 obtain ⟨aO,aP,aS,aU,aV,rfl,P,S,aW,aX,aY⟩:=pr0
 refine FnS.enter Tryz.func137 z Tryz.ntmps137 z<|Sr<|To (O.boxF z z z fun aZ a0 o x=>Ag z<|Ag z<|Nt<|Sq<|Sr<|Mv z<|have y:=Slc.mono VI.mono pr1 o; Vv (V.lenS elplan_24 z y)<|Vv (V.fa fdplan_32_1 z)<|Vv (V.ldf (k:=1) shplan_28 z x z)<|have U:=Slc.mono VapiGuest.mono S o; Vv (V.lenS elplan_28 z U)<|Vv (V.ne z z)<|Nt<|T.cH H z (fun H=>?_) (fun H=>?_))
 ·exact dead H
 refine T.skip<|Th<|Sr<|Vv (V.fa fdplan_32_0 z)<|Vv (V.ldf (k:=0) shplan_27 z x z)<|have W:=Slc.mono VapiTable.mono P o; ?_
 obtain ⟨A,X,H⟩:=bnd H
 refine To (O.callS z (hall_Count_ok W X _) z fun a1 Y a2 B Z=>?_)
 obtain ⟨rfl,aa⟩:=Z
 refine Sl_ _ aa<|Ag z<|Nt<|Sr<|Mv z ?_
 obtain ⟨C,D,H⟩:=bnd H
 refine To (O.mkX elplan_122 zeplan_4 z z z z D z fun i a3 a4=>have ab:RowF VB Y _ C:=RowF.rep z D; Ag z<|Nt<|Sq<|Sr<|Mv z<|have E:=Slc.mono VI.mono y B; Vv (V.lenS elplan_24 z E)<|Mv z<|Nt ?_)
 obtain ⟨G,ac,ad⟩:=bndK H
 refine T.cutK (α:=Unit) [] z (fun _u=>[]) (fun _u=>L) (fun _u hh=>G = ()) ?_ ?_
 ·have H:=ac
  refine Bl<|T.loopK (α:=Nat×Int×(List Bool)×(List (List Value))) [2,8,23,24] z (fun ⟨e,f,b,a⟩=>[(25,.int .i64 f),(9,i)]) (fun ⟨e,f,b,a⟩=>rowR 4 1 i a::L) (fun ⟨e,f,b,a⟩ hh=>iter (plan_check_l0 part12 whole13 A) e (f,b) = some G∧RowF VB hh a b) (fun ⟨e,f,b,a⟩=>e) (FUEL,(0:Int),C,(List.replicate A.toNat [.bool false])) ⟨z,z,trivial⟩ z ⟨H,ab⟩ ?_
  rintro ⟨e,f,b,a⟩ a5 g ⟨ae,t⟩
  obtain ⟨p,a6,rfl,H,m⟩:=iter_go ae
  refine T.norm [25,9,2,8,23,24] z<|Sl_ (rowR 4 1 i a::L) z<|Sr<|Vv (V.lt z z)<|Nt<|Sq<|T.cH H z (fun H=>?_) (fun H=>?_)
  ·refine T.skip<|Th<|Sq<|Bl<|Sr<|Mv z ?_
   obtain ⟨q,I,H⟩:=bnd H
   have J:=Slc.mono VI.mono E g
   obtain ⟨a7,af,rfl⟩:=Slc.at J I
   refine Vv (V.ix elplan_24 z z J (getI_bd I))<|Vv (V.ld0 shplan_3 z af z)<|Ag z<|Ag z<|Nt<|Sq<|Bl<|Sq ?_
   obtain ⟨ag,ai,aj⟩:=bndK H
   refine T.cutK (α:=Bool) [2,8,9,11,23,24,25] z (fun n=>[(30,.bool n)]) (fun n=>rowR 4 1 i a::L) (fun n hh=>ag = n) ?_ ?_
   ·have H:=ai
    refine Rg<|Mv z<|Vv (V.eq z z)<|Mv z<|T.bH 33 H z (fun H=>?_) (fun H=>?_)
    ·refine Mv z<|Vv (V.pkT z z)<|Ag z<|Nt<|T.met whole13 Lr (sinj H) (AllIn.app ⟨z,trivial⟩ ⟨z,z,z,z,z,z,z,trivial⟩) z
    refine Sk<|Vv (V.pkF z z)<|Ag z<|Nt<|T.met false Lr (sinj H) (AllIn.app ⟨z,trivial⟩ ⟨z,z,z,z,z,z,z,trivial⟩) z
   rintro n r c ak
   have H:=cutE ak aj
   refine T.norm [30,2,8,9,11,23,24,25] z<|Sl_ (rowR 4 1 i a::L) z<|T.cH H z (fun H=>?_) (fun H=>?_)
   ·exact dead H
   refine Sr<|Mv z<|Vv (V.lt z z)<|Mv z<|T.bH 40 H z (fun H=>?_) (fun H=>?_)
   ·exact dead H
   refine Mv z<|Mv z<|Vv (V.ge z z)<|Vv (V.pkF z z)<|Ag z<|Nt<|T.cH H z (fun H=>?_) (fun H=>?_)
   ·exact dead H
   refine Sr<|Mv z<|Vv (V.ge z z)<|Mv z<|T.bH 49 H z (fun H=>?_) (fun H=>?_)
   ·refine Mv z<|Mv z ?_
    obtain ⟨a8,K,H⟩:=bnd H
    have d:=RowF.mono VB.mono t c
    obtain ⟨a9,am,rfl⟩:=RowF.get d K
    refine Vv (V.ixR elplan_122 z z (j:=0) z (RowF.bd d K))<|Vv (V.ldR shplan_4 z (j:=0) z am z)<|Vv (V.pkT z z)<|Ag z<|Nt<|T.cH H z (fun H=>?_) (fun H=>?_)
    ·exact dead H
    refine T.skip<|Bn<|Th<|Sr<|Mv z<|Vv (V.ge z z)<|Nt<|T.cH H z (fun H=>?_) (fun H=>?_)
    ·refine Rg<|Mv z<|Mv z ?_
     obtain ⟨ah,u,H⟩:=bnd H
     obtain ⟨al,av,rfl⟩:=RowF.get d u
     refine Vv (V.ixR elplan_122 z z (j:=0) z (RowF.bd d u)) ?_
     obtain ⟨M,an,H⟩:=bnd H
     refine To (O.stR shplan_4 z z (j:=0) z (RowF.bdN d u) z<|have ao:RowF VB r (a.set q.toNat [.bool true]) M:=RowF.set d (show VB r [.bool true] true from z) an; Ni<|Bn<|Th<|Rg ?_)
     obtain ⟨ap,aq,H⟩:=bnd H
     refine Vv (V.addS z z aq)<|Mv z<|Nt<|have ar:=(g.trans c); T.again (p,ap,M,(a.set q.toNat [.bool true])) ar (Nat.lt_succ_self _) ⟨(iterK_in H m),ao⟩ (AllIn.app ⟨z,z,trivial⟩ ⟨z,z,z,z,trivial⟩) z
    refine T.skip<|Bn<|Th<|Rg ?_
    obtain ⟨au,aw,H⟩:=bnd H
    refine Vv (V.addS z z aw)<|Mv z<|Nt<|have ax:=(g.trans c); T.again (p,au,b,a) ax (Nat.lt_succ_self _) ⟨(iterK_in H m),d⟩ (AllIn.app ⟨z,z,trivial⟩ ⟨z,z,z,z,trivial⟩) z
   refine Sk<|Sk<|Sk<|Sk<|Vv (V.pkF z z)<|Ag z<|Nt<|Cf z<|T.skip<|Bn<|Th<|Sr<|Mv z<|Vv (V.ge z z)<|Nt<|T.cH H z (fun H=>?_) (fun H=>?_)
   ·refine Rg<|Mv z<|Mv z ?_
    obtain ⟨az,w,H⟩:=bnd H
    have s:=RowF.mono VB.mono t c
    obtain ⟨ba,bb,rfl⟩:=RowF.get s w
    refine Vv (V.ixR elplan_122 z z (j:=0) z (RowF.bd s w)) ?_
    obtain ⟨N,ay,H⟩:=bnd H
    refine To (O.stR shplan_4 z z (j:=0) z (RowF.bdN s w) z<|have aA:RowF VB r (a.set q.toNat [.bool true]) N:=RowF.set s (show VB r [.bool true] true from z) ay; Ni<|Bn<|Th<|Rg ?_)
    obtain ⟨aB,aC,H⟩:=bnd H
    refine Vv (V.addS z z aC)<|Mv z<|Nt<|have aD:=(g.trans c); T.again (p,aB,N,(a.set q.toNat [.bool true])) aD (Nat.lt_succ_self _) ⟨(iterK_in H m),aA⟩ (AllIn.app ⟨z,z,trivial⟩ ⟨z,z,z,z,trivial⟩) z
   refine T.skip<|Bn<|Th<|Rg ?_
   obtain ⟨aE,aG,H⟩:=bnd H
   refine Vv (V.addS z z aG)<|Mv z<|Nt<|have aI:=RowF.mono VB.mono t c; have aJ:=(g.trans c); T.again (p,aE,b,a) aJ (Nat.lt_succ_self _) ⟨(iterK_in H m),aI⟩ (AllIn.app ⟨z,z,trivial⟩ ⟨z,z,z,z,trivial⟩) z
  refine T.exit<|Te<|Te<|have H:=iterK_out H m; Be<|Th<|T.drop<|T.met () g H (AllIn.app trivial trivial) z
 rintro _ bc aK aM
 have H:=cutE aM ad
 refine T.norm [] z<|Sl_ (L) z<|Sr<|Ag z<|Ag z<|Nt<|T.ret ?_
 obtain ⟨rfl,rfl⟩:=inj2 H
 have aN:=((o.trans B).trans aK)
 exact T.retL Tryz.results137 (RVs.cons (RV.tmp z) (Rv z)) aN ⟨z,z⟩
theorem plan_checked_ok {h:PH} {pc0:List Value} {p1:apiProblem} (pr0:VapiProblem h pc0 p1) {pv1:Value} {part12:List Int} (pr1:Slc (VI .i64) 1 h pv1 part12) {whole13:Bool} {r_0:Int} {r_1:Int} (H:plan_checked p1 part12 whole13 = some (r_0,r_1)):∀ L,FnS Tryz.prog 77 [.agg pc0.toArray,pv1,.bool whole13] h (L) (fun v h' L'=>v = .tuple #[.int .i64 r_0,.int .i64 r_1]∧L' = L):=by
 intro L
 obtain ⟨c,d,e,f,g,rfl,q,r,s,t,u⟩:=pr0
 refine FnS.enter Tryz.func77 rfl Tryz.ntmps77 rfl<|Sr<|To (O.boxF rfl rfl rfl fun W w b i=>Ag z<|Ag z<|Nt<|Sq<|Sr<|Vv (V.ldS rfl i (by exact shplan_32)) ?_)
 have j:=Slc.mono VapiTable.mono q b
 have k:=Slc.mono VapiGuest.mono r b
 have m:=Slc.mono VapiTie.mono s b
 have n:=Slc.mono VI.mono t b
 have o:=Slc.mono VapiRule.mono u b
 obtain ⟨⟨X,Y⟩,x,H⟩:=bnd H
 refine To (O.callS z (rule_Check_ok (show VapiProblem w [c,d,e,f,g] p1 from ⟨c,d,e,f,g,z,j,k,m,n,o⟩) x _) z fun Z y aa a A=>?_)
 obtain ⟨rfl,B⟩:=A
 refine Sl_ _ B<|Mv z<|Vv (V.ext z z)<|Vv (V.ext z z)<|Ag z<|Ag z<|Nt<|Sr<|Mv z<|Vv (V.ne z z)<|Nt<|T.cH H z (fun H=>?_) (fun H=>?_)
 ·exact dead H
 refine T.skip<|Th<|Sr<|have C:=i.mono a; Vv (V.ldS rfl C (by exact shplan_32)) ?_
 refine Mv z<|Mv z<|have D:=Slc.mono VapiTable.mono j a; have E:=Slc.mono VapiGuest.mono k a; have G:=Slc.mono VapiTie.mono m a; have I:=Slc.mono VI.mono n a; have J:=Slc.mono VapiRule.mono o a; have p:=(b.trans a); have K:=Slc.mono VI.mono pr1 p; ?_
 obtain ⟨⟨ab,ac⟩,M,H⟩:=bnd H
 refine To (O.callS z (plan_check_ok (show VapiProblem y [c,d,e,f,g] p1 from ⟨c,d,e,f,g,z,D,E,G,I,J⟩) K M _) z fun ad ae af N P=>?_)
 obtain ⟨rfl,S⟩:=P
 refine Sl_ _ S<|Vv (V.ext z z)<|Vv (V.ext z z)<|Ag z<|Ag z<|Nt<|T.ret ?_
 obtain ⟨rfl,rfl⟩:=inj2 H
 have U:=(p.trans N)
 exact T.retL Tryz.results77 (RVs.cons (RV.tmp z) (Rv z)) U ⟨z,z⟩
theorem plan_CheckPart_ok {h:PH} {pc0:List Value} {p1:apiProblem} (pr0:VapiProblem h pc0 p1) {pv1:Value} {part12:List Int} (pr1:Slc (VI .i64) 1 h pv1 part12) {r_0:Int} {r_1:Int} (H:plan_CheckPart p1 part12 = some (r_0,r_1)):∀ L,FnS Tryz.prog 48 [.agg pc0.toArray,pv1] h (L) (fun v h' L'=>v = .tuple #[.int .i64 r_0,.int .i64 r_1]∧L' = L):=by
 intro L
 obtain ⟨b,c,d,e,f,rfl,g,i,j,k,m⟩:=pr0
 refine FnS.enter Tryz.func48 rfl Tryz.ntmps48 rfl<|Sr<|To (O.boxF rfl rfl rfl fun C n a o=>Ag z<|Ag z<|Nt<|Sr<|Vv (V.ldS rfl o (by exact shplan_32)) ?_)
 refine Mv z<|have p:=Slc.mono VapiTable.mono g a; have q:=Slc.mono VapiGuest.mono i a; have r:=Slc.mono VapiTie.mono j a; have s:=Slc.mono VI.mono k a; have t:=Slc.mono VapiRule.mono m a; have u:=Slc.mono VI.mono pr1 a; ?_
 obtain ⟨⟨D,E⟩,w,H⟩:=bnd H
 refine To (O.callS z (plan_checked_ok (show VapiProblem n [b,c,d,e,f] p1 from ⟨b,c,d,e,f,z,p,q,r,s,t⟩) u w _) z fun G I J x y=>?_)
 obtain ⟨rfl,A⟩:=y
 refine Sl_ _ A<|Vv (V.ext z z)<|Vv (V.ext z z)<|Ag z<|Ag z<|Nt<|T.ret ?_
 obtain ⟨rfl,rfl⟩:=inj2 H
 have B:=(a.trans x)
 exact T.retL Tryz.results48 (RVs.cons (RV.tmp z) (Rv z)) B ⟨z,z⟩
end Go.Proofs.X
open Go Go.Proofs Go.Sl Go.Dm
namespace Go.Proofs.X
theorem searchmixed : Tryz.prog.follows .mixedOrders = true := by kernel_rfl
theorem blsearch_60 : bldSh Tryz.prog 60 = some ([.pointer none, .slice none 0 0, .slice none 0 0, .slice none 0 0, .slice none 0 0, .slice none 0 0, .slice none 0 0, .slice none 0 0, .slice none 0 0], [(0, 1), (1, 5), (6, 1), (7, 1), (8, 1)]) := by kernel_rfl
theorem bosearch_60 : fieldsOK Tryz.prog 60 = true := by kernel_rfl
theorem elsearch_24 : elSh Tryz.prog 24 = some (3, 1, 8) := by kernel_rfl
theorem elsearch_27 : elSh Tryz.prog 27 = some (26, 7, 80) := by kernel_rfl
theorem elsearch_28 : elSh Tryz.prog 28 = some (38, 9, 112) := by kernel_rfl
theorem elsearch_58 : elSh Tryz.prog 58 = some (87, 1, 24) := by kernel_rfl
theorem elsearch_87 : elSh Tryz.prog 87 = some (24, 1, 24) := by kernel_rfl
theorem fdsearch_32_0 : fldOf Tryz.prog 32 0 = some 0 := by kernel_rfl
theorem fdsearch_32_1 : fldOf Tryz.prog 32 1 = some 1 := by kernel_rfl
theorem fdsearch_60_1 : fldOf Tryz.prog 60 1 = some 1 := by kernel_rfl
theorem fdsearch_60_2 : fldOf Tryz.prog 60 2 = some 6 := by kernel_rfl
theorem fdsearch_60_3 : fldOf Tryz.prog 60 3 = some 7 := by kernel_rfl
theorem fdsearch_60_4 : fldOf Tryz.prog 60 4 = some 8 := by kernel_rfl
theorem shsearch_24 : tySh Tryz.prog 24 = some (false, 1) := by kernel_rfl
theorem shsearch_26 : tySh Tryz.prog 26 = some (true, 7) := by kernel_rfl
theorem shsearch_27 : tySh Tryz.prog 27 = some (false, 1) := by kernel_rfl
theorem shsearch_28 : tySh Tryz.prog 28 = some (false, 1) := by kernel_rfl
theorem shsearch_3 : tySh Tryz.prog 3 = some (false, 1) := by kernel_rfl
theorem shsearch_32 : tySh Tryz.prog 32 = some (true, 5) := by kernel_rfl
theorem shsearch_58 : tySh Tryz.prog 58 = some (false, 1) := by kernel_rfl
theorem shsearch_87 : tySh Tryz.prog 87 = some (false, 1) := by kernel_rfl
theorem zesearch_3 : zer Tryz.prog 3 = some (.int .i64 (0)) := by kernel_rfl
theorem zesearch_87 : zer Tryz.prog 87 = some (.slice none 0 0) := by kernel_rfl
theorem search_open_ok {h:PH} {pc0:List Value} {p1:apiProblem} (pr0:VapiProblem h pc0 p1) {r_0:searchhunt} {r_1:Int} {r_2:Int} (H:search_open p1 = some (r_0,r_1,r_2)):∀ L,FnS Tryz.prog 19 [.agg pc0.toArray] h (L) (fun v h' L'=>∃ w0,v = .tuple #[w0,.int .i64 r_1,.int .i64 r_2]∧L' = L∧Pt Vsearchhunt h' w0 r_0):=by
 intro L
 obtain ⟨aj,ak,am,an,ao,rfl,bC,bD,bE,bG,bI⟩:=pr0
 refine FnS.enter Tryz.func19 rfl Tryz.ntmps19 rfl<|Sr<|To (O.boxF rfl rfl rfl fun dW bJ N aY=>Ag z<|Ag z<|Ag z<|Nt<|Sr<|Vv (V.ldS rfl aY (by exact shsearch_32)) ?_)
 have aZ:=Slc.mono VapiTable.mono bC N
 have a0:=Slc.mono VapiGuest.mono bD N
 have a1:=Slc.mono VapiTie.mono bE N
 have a2:=Slc.mono VI.mono bG N
 have a3:=Slc.mono VapiRule.mono bI N
 obtain ⟨⟨bK,dX,dY⟩,bM,H⟩:=bnd H
 refine To (O.callS z (rule_New_ok (show VapiProblem bJ [aj,ak,am,an,ao] p1 from ⟨aj,ak,am,an,ao,z,aZ,a0,a1,a2,a3⟩) bM _) z fun dZ d0 d1 a4 bN=>?_)
 obtain ⟨p,rfl,bO,a5⟩:=bN
 refine Sl_ _ bO<|Mv z<|Vv (V.ext z z)<|Vv (V.ext z z)<|Vv (V.ext z z)<|Ag z<|Ag z<|Ag z<|Nt<|Sq<|Sr<|Mv z<|Vv (V.ne z z)<|Nt<|T.cH H z (fun H=>?_) (fun H=>?_)
 ·exact dead H
 refine T.skip<|Th<|Sr<|Mv z<|Mv z ?_
 obtain ⟨bP,bS,H⟩:=bnd H
 refine To (O.callS z (Judge_Problem_ok a5 bS _) z fun d2 aD d3 aE bU=>?_)
 obtain ⟨q,r,s,u,w,rfl,bV,bW,bX,bY,bZ,b0⟩:=bU
 refine Sl_ _ bV<|have a6:=Pt.mono VruleJudge.mono a5 aE; Vv (V.bld (xs:=[(0,.tmp 20),(1,.tmp 22)]) (cs:=[_,_,_,_,_,_,_,_,_]) blsearch_60 bosearch_60 z (Fills.cons z (Pt.cells a6) z (Fills.cons z z z Fills.nil)))<|To (O.box z z z fun y=>Ag z<|Nt<|Sq<|Sr<|Vv (V.fa fdsearch_32_0 z)<|have aG:=(a4.trans aE); have aI:=aY.mono aG; Vv (V.ldf (k:=0) shsearch_27 z aI z)<|have aJ:=Slc.mono VapiTable.mono aZ aG; Vv (V.lenS elsearch_27 z aJ)<|Mv z<|Nt ?_)
 obtain ⟨a7,b1,b2⟩:=bndK H
 refine T.cutK (α:=(List Int)×(List Int)×(List (List (List Int)))×Value×(List (List Value))×Value×(List (List Value))×Value×(List (List Value))) [8] z (fun ⟨P,S,U,D,W,E,X,G,Y⟩=>[]) (fun ⟨P,S,U,D,W,E,X,G,Y⟩=>blk y (.cells [p,q,r,s,u,w,D,E,G].toArray 60)::rowR 3 1 D W::rowR 3 1 E X::rowR 87 1 G Y::L) (fun ⟨P,S,U,D,W,E,X,G,Y⟩ hh=>a7 = (P,S,U)∧RowF (VI .i64) hh W P∧RowF (VI .i64) hh X S∧RowF (VSl (VSl (VI .i64) 1) 1) hh Y U) ?_ ?_
 ·have H:=b1
  refine Bl<|T.rowNil 3 1<|have b3:RowF (VI .i64) aD [] ([]:List Int):=RowF.nil; T.rowNil 3 1<|have b4:RowF (VI .i64) aD [] ([]:List Int):=RowF.nil; T.rowNil 87 1<|have b5:RowF (VSl (VSl (VI .i64) 1) 1) aD [] ([]:List (List (List Int))):=RowF.nil; Fr_ 1 z<|T.fl ?_
  refine Fr_ 2 z<|T.fl ?_
  refine Fr_ 3 z<|T.fl ?_
  refine T.loopK (α:=Nat×(List Int)×(List Int)×(List (List (List Int)))×Int×Value×(List (List Value))×Value×(List (List Value))×Value×(List (List Value))) [1,8,27] z (fun ⟨Z,b,K,M,A,n,f,B,c,a,d⟩=>[(28,.int .i64 A)]) (fun ⟨Z,b,K,M,A,n,f,B,c,a,d⟩=>blk y (.cells [p,q,r,s,u,w,n,B,a].toArray 60)::rowR 3 1 n f::rowR 3 1 B c::rowR 87 1 a d::L) (fun ⟨Z,b,K,M,A,n,f,B,c,a,d⟩ hh=>iter (search_open_l0 p1) Z (b,K,M,A) = some a7∧RowF (VI .i64) hh f b∧RowF (VI .i64) hh c K∧RowF (VSl (VSl (VI .i64) 1) 1) hh d M) (fun ⟨Z,b,K,M,A,n,f,B,c,a,d⟩=>Z) (FUEL,([]:List Int),([]:List Int),([]:List (List (List Int))),(0:Int),(.slice none 0 0),[],(.slice none 0 0),[],(.slice none 0 0),[]) ⟨z,trivial⟩ z ⟨H,b3,b4,b5⟩ ?_
  rintro ⟨Z,b,K,M,A,n,f,B,c,a,d⟩ ad ae ⟨b6,aq,aK,a8⟩
  obtain ⟨b7,d4,rfl,H,a9⟩:=iter_go b6
  refine T.norm [28,1,8,27] z<|Sl_ (blk y (.cells [p,q,r,s,u,w,n,B,a].toArray 60)::rowR 3 1 n f::rowR 3 1 B c::rowR 87 1 a d::L) z<|Sr<|Vv (V.lt z z)<|Nt<|Sq<|T.cH H z (fun H=>?_) (fun H=>?_)
  ·refine T.skip<|Th<|Sq<|Bl<|Sr<|Mv z<|Ag z<|Nt<|Sq<|Fr_ 2 z<|T.fl ?_
   refine Fr_ 1 z<|T.fl ?_
   refine Fr_ 2 z<|T.fl ?_
   refine T.drawF (t:=(.v 0 (.v 1 (.v 2 (.v 3 (.x 4 (.v 5 (.v 6 (.v 7 (.alt 8 (.v 9 (.alt 10 (.alt 11 (.g (.v 12 (.v 13 (.alt 14 .done .no)))) .no) .no)) .no)))))))))) 11 3 1 rfl rfl searchmixed (by kernel_rfl) ?_
   refine Tm z z<|Tm z z<|Tv z (V.nck z)<|Tv z (V.fa fdsearch_60_3 z)<|T.tx z z (Val.XA fun _ _ _=>V.ldO (k:=7) shsearch_24 z (j:=1) z z) z Calm.i<|Tm z z<|Tv z (V.nck z)<|Tv z (V.fa fdsearch_60_2 z)<|Ts z z (SX.two (XA.fr [0] Lr z) (XA.fr [2,2,2] Lr z)) (V.ldO (k:=6) shsearch_24 z (j:=1) z z) z ?_ T.tno
   refine Tv z (Val.XA fun _ _ _=>V.lenX elsearch_24 z (j:=0) z aq.len)<|Tp z z (SX.two (XA.fr [0] Lr z) (XA.fr [2,2,2] Lr z)) (O.bs elsearch_24 zesearch_3 z (e:=z) (hk:=z) (xs:=[.tmp 40]) (hv:=CO.eq (CO.cons z CO.nil)) (hw:=Wide.of z) (hd:=z) fun b8=>?_) T.tno
   have aM:RowF (VI .i64) ad [[.int .i64 (b.length:Int)]] ([(b.length:Int)]:List Int):=(RowF.cons z RowF.nil)
   obtain ⟨ah,al,H⟩:=bnd H
   refine Tp z z (SX.two (XA.fr [1] Lr z) (XA.fr [3,3,3] Lr z)) (O.apX elsearch_24 elsearch_24 zesearch_3 z z z (j:=3) z (Src.row (j:=0) z) (Wide.of z) (RowF.ones VI.plain aM) aK aM al z fun o d5 d6=>?_) T.tno
   have b9:RowF (VI .i64) ad (c ++ [[.int .i64 (b.length:Int)]]) ah:=RowF.ap aK aM al
   refine Sl_ (rowR 3 1 o (c ++ [[.int .i64 (b.length:Int)]])::rowR 3 1 (.slice (some ⟨b8,0,none⟩) 1 1) [[.int .i64 (b.length:Int)]]::rowR 3 1 n f::blk y (.cells [p,q,r,s,u,w,n,B,a].toArray 60)::rowR 87 1 a d::L) z<|Fr_ 1 z<|T.fl ?_
   refine T.drop<|T.tgrow Lr<|Tv z (V.nck rfl)<|Tv z (V.fa fdsearch_60_3 rfl)<|T.rowOne 0 rfl fun bh bl=>Tp z z (SX.one (XA.fr [1] Lr rfl) rfl) (O.st (vs:=[o]) (k:=7) shsearch_24 rfl rfl (j:=2) rfl bl (by (simp only [Sl.ones,bh,Bool.and_true,Bool.true_and]) <;> rfl) ?_) T.tno
   refine T.fl ?_
   refine T.tnil (SX.one (XA.fr [2] Lr z) z)<|Th<|Sq ?_
   obtain ⟨bv,bz,ca⟩:=bndK H
   refine T.cutK (α:=(List Int)×Value×(List (List Value))) [1,8,9,27,28] z (fun ⟨aa,C,J⟩=>[]) (fun ⟨aa,C,J⟩=>blk y (.cells [p,q,r,s,u,w,C,o,a].toArray 60)::rowR 3 1 o (c ++ [[.int .i64 (b.length:Int)]])::rowR 87 1 a d::rowR 3 1 C J::L) (fun ⟨aa,C,J⟩ hh=>bv = aa∧RowF (VI .i64) hh J aa) ?_ ?_
   ·have H:=bz
    refine Fr_ 2 z<|T.fl ?_
    refine Fr_ 1 z<|T.fl ?_
    refine T.drawF (t:=(.v 0 (.v 1 (.v 2 (.v 3 (.x 4 (.v 5 (.v 7 (.v 8 (.v 9 (.v 10 (.v 11 (.alt 6 (.alt 12 (.g (.alt 13 (.g (.alt 14 (.g (.v 15 (.v 16 (.alt 17 .done .no)))) .no)) .no)) .no) (.alt 12 (.g (.alt 6 (.alt 13 (.g (.alt 14 (.g (.v 15 (.v 16 (.alt 17 .done .no)))) .no)) .no) .no)) .no)))))))))))))) 14 2 0 rfl rfl searchmixed (by kernel_rfl) ?_
    refine Tm z z<|Tm z z<|Tv z (V.nck z)<|Tv z (V.fa fdsearch_60_2 z)<|T.tx z z (Val.XA fun _ _ _=>V.ldO (k:=6) shsearch_24 z (j:=0) z z) z Calm.i<|Tm z z<|Tv z (V.fa fdsearch_32_0 z)<|have cb:=aI.mono ae; Tv z (V.ldf (k:=0) shsearch_27 z cb z)<|Tm z z ?_
    obtain ⟨m,av,H⟩:=bnd H
    have az:=Slc.mono VapiTable.mono aJ ae
    obtain ⟨d7,cc,⟨ar,rfl,ba⟩⟩:=Slc.at az av
    refine Tv z (V.ix elsearch_27 rfl rfl az (getI_bd av))<|Tv z (V.ldS rfl cc (by exact shsearch_26)) ?_
    refine T.tfork ?_ ?_
    ·refine Tp z z (SX.two (XA.fr [] Lr z) (XA.fr [1,1] Lr z)) (O.bs elsearch_24 zesearch_3 z (e:=z) (hk:=z) (xs:=[.tmp 50]) (hv:=CO.eq (CO.cons z CO.nil)) (hw:=Wide.of z) (hd:=z) fun d8=>?_) T.tno
     have cd:RowF (VI .i64) ad [[.int .i64 A]] ([A]:List Int):=(RowF.cons z RowF.nil)
     obtain ⟨d9,ce,H⟩:=bnd H
     refine Tp z z (SX.two (XA.fr [] Lr z) (XA.fr [2,2] Lr z)) (O.callS z (hall_Seats_ok (show VapiTable ad [.string m.fName,.int .u8 m.fShape,.int .i64 m.fA,.int .i64 m.fB,ar,.int .i64 m.fX,.int .i64 m.fY] m from ⟨ar,z,ba⟩) ce _) z fun dh dl dv bb cf=>?_) T.tno
     obtain ⟨rfl,cg⟩:=cf
     refine Sl_ _ cg<|T.tgrow bb<|T.rowFix fun dz au ci=>have bc:=(bb.trans au); have cj:=RowF.mono VI.mono cd bc; have ck:=RowF.slc ci cj; ?_
     obtain ⟨ea,cm,H⟩:=bnd H
     refine Tp z z (SX.two (XA.fr [] au z) (XA.fr [1,1] au z)) (O.callS z (sl_Repeat_ok ck cm _) z fun cn co eb bd cp=>?_) T.tno
     obtain ⟨aw,cq,aN⟩:=cp
     refine Sl_ _ cq<|have cr:=(au.trans bd); T.tgrow cr<|T.wide 0 z fun ct=>?_
     obtain ⟨be,bf,H⟩:=bnd H
     have bg:=(bc.trans bd)
     have bi:=RowF.mono VI.mono aq bg
     refine Tp z z (SX.two (XA.fr [] Lr z) (XA.fr [2,2] Lr z)) (O.apX elsearch_24 elsearch_24 zesearch_3 z z z (j:=2) z (Src.row (j:=0) z) ct (RowF.ones VI.plain aN) bi aN bf z fun aO ec ed=>?_) T.tno
     have cu:RowF (VI .i64) co (f ++ aw) be:=RowF.ap bi aN bf
     refine Sl_ (rowR 3 1 aO (f ++ aw)::rowR 3 1 cn aw::blk y (.cells [p,q,r,s,u,w,n,o,a].toArray 60)::rowR 3 1 o (c ++ [[.int .i64 (b.length:Int)]])::rowR 87 1 a d::L) rfl<|T.tgrow Lr<|Tv z (V.nck rfl)<|Tv z (V.fa fdsearch_60_2 rfl)<|T.rowOne 0 rfl fun cw cx=>Tp z z (SX.one (XA.fr [] Lr rfl) rfl) (O.st (vs:=[aO]) (k:=6) shsearch_24 rfl rfl (j:=2) rfl cx (by (simp only [Sl.ones,cw,Bool.and_true,Bool.true_and]) <;> rfl) ?_) T.tno
     refine T.fl ?_
     refine T.tnil (SX.one (XA.fr [] Lr z) z)<|Th<|Fr_ 2 z<|T.fl ?_
     refine T.drop<|Fr_ 1 z<|T.fl ?_
     refine Fr_ 3 z<|T.fl ?_
     refine Fr_ 3 z<|T.fl ?_
     refine Fr_ 3 z<|T.fl ?_
     exact T.met (be,aO,(f ++ aw)) bg ⟨(sinj H),cu⟩ (AllIn.app trivial ⟨z,z,z,z,z,trivial⟩) z
    obtain ⟨ee,cy,H⟩:=bnd H
    refine Tp z z (SX.two (XA.fr [] Lr z) (XA.fr [1,1] Lr z)) (O.callS z (hall_Seats_ok (show VapiTable ad [.string m.fName,.int .u8 m.fShape,.int .i64 m.fA,.int .i64 m.fB,ar,.int .i64 m.fX,.int .i64 m.fY] m from ⟨ar,z,ba⟩) cy _) z fun ef cA eg bj cB=>?_) T.tno
    obtain ⟨rfl,cC⟩:=cB
    refine Sl_ _ cC<|T.tgrow bj<|Tp z z (SX.two (XA.fr [] Lr z) (XA.fr [1,1] Lr z)) (O.bs elsearch_24 zesearch_3 z (e:=z) (hk:=z) (xs:=[.tmp 50]) (hv:=CO.eq (CO.cons z CO.nil)) (hw:=Wide.of z) (hd:=z) fun ei=>?_) T.tno
    have cD:RowF (VI .i64) cA [[.int .i64 A]] ([A]:List Int):=(RowF.cons z RowF.nil)
    refine T.rowFix fun ej af cE=>have cG:=RowF.mono VI.mono cD af; have cI:=RowF.slc cE cG; ?_
    obtain ⟨ek,cJ,H⟩:=bnd H
    refine Tp z z (SX.two (XA.fr [] af z) (XA.fr [1,1] af z)) (O.callS z (sl_Repeat_ok cI cJ _) z fun cK cM em bk cN=>?_) T.tno
    obtain ⟨ax,cO,aP⟩:=cN
    refine Sl_ _ cO<|have cP:=(af.trans bk); T.tgrow cP<|T.wide 0 z fun cS=>?_
    obtain ⟨bm,bn,H⟩:=bnd H
    have bo:=((bj.trans af).trans bk)
    have bp:=RowF.mono VI.mono aq bo
    refine Tp z z (SX.two (XA.fr [] Lr z) (XA.fr [2,2] Lr z)) (O.apX elsearch_24 elsearch_24 zesearch_3 z z z (j:=2) z (Src.row (j:=0) z) cS (RowF.ones VI.plain aP) bp aP bn z fun aS en eo=>?_) T.tno
    have cU:RowF (VI .i64) cM (f ++ ax) bm:=RowF.ap bp aP bn
    refine Sl_ (rowR 3 1 aS (f ++ ax)::rowR 3 1 cK ax::blk y (.cells [p,q,r,s,u,w,n,o,a].toArray 60)::rowR 3 1 o (c ++ [[.int .i64 (b.length:Int)]])::rowR 87 1 a d::L) rfl<|T.tgrow Lr<|Tv z (V.nck rfl)<|Tv z (V.fa fdsearch_60_2 rfl)<|T.rowOne 0 rfl fun cV cW=>Tp z z (SX.one (XA.fr [] Lr rfl) rfl) (O.st (vs:=[aS]) (k:=6) shsearch_24 rfl rfl (j:=2) rfl cW (by (simp only [Sl.ones,cV,Bool.and_true,Bool.true_and]) <;> rfl) ?_) T.tno
    refine T.fl ?_
    refine T.tnil (SX.one (XA.fr [] Lr z) z)<|Th<|Fr_ 2 z<|T.fl ?_
    refine T.drop<|Fr_ 1 z<|T.fl ?_
    refine Fr_ 3 z<|T.fl ?_
    refine Fr_ 3 z<|T.fl ?_
    refine Fr_ 3 z<|T.fl ?_
    exact T.met (bm,aS,(f ++ ax)) bo ⟨(sinj H),cU⟩ (AllIn.app trivial ⟨z,z,z,z,z,trivial⟩) z
   rintro ⟨aa,C,J⟩ cX aU ⟨cY,cZ⟩
   have H:=cutE cY ca
   refine T.norm [1,8,9,27,28] z<|Sl_ (blk y (.cells [p,q,r,s,u,w,C,o,a].toArray 60)::rowR 3 1 o (c ++ [[.int .i64 (b.length:Int)]])::rowR 87 1 a d::rowR 3 1 C J::L) z<|Fr_ 2 z<|T.fl ?_
   refine Fr_ 1 z<|T.fl ?_
   refine T.drawF (t:=(.v 0 (.v 1 (.v 2 (.v 3 (.x 4 (.v 5 (.v 6 (.alt 7 (.g (.alt 8 (.alt 9 (.g (.v 10 (.v 11 (.alt 12 .done .no)))) .no) .no)) .no))))))))) 9 2 0 rfl rfl searchmixed (by kernel_rfl) ?_
   refine Tm z z<|Tm z z<|Tv z (V.nck rfl)<|Tv z (V.fa fdsearch_60_4 rfl)<|T.tx rfl rfl (Val.XA fun _ _ _=>V.ldO (k:=8) shsearch_58 rfl (j:=0) rfl rfl) rfl Calm.i<|have aV:=(ae.trans aU); have c0:=aI.mono aV; Tv z (V.ldS rfl c0 (by exact shsearch_32)) ?_
   refine Tm z z<|have c1:=Slc.mono VapiTable.mono aJ aV; have ay:=((aG.trans ae).trans aU); have c2:=Slc.mono VapiGuest.mono a0 ay; have c3:=Slc.mono VapiTie.mono a1 ay; have c4:=Slc.mono VI.mono a2 ay; have c5:=Slc.mono VapiRule.mono a3 ay; ?_
   obtain ⟨c6,c7,H⟩:=bnd H
   refine Tp z z (SX.two (XA.fr [] Lr z) (XA.fr [1,1] Lr z)) (O.callS z (plan_Group_ok (show VapiProblem cX [aj,ak,am,an,ao] p1 from ⟨aj,ak,am,an,ao,z,c1,c2,c3,c4,c5⟩) c7 _) z fun ab ep er aA c8=>?_) T.tno
   obtain ⟨es,c9,ch⟩:=c8
   refine Sl_ _ c9<|T.tgrow aA<|T.rowFix fun bq I cl=>have cv:=RowF.mono (VSl.mono VI.mono) ch I; have br:=RowF.slc cl cv; Tp z z (SX.two (XA.fr [] I z) (XA.fr [1,1] I z)) (O.bs elsearch_58 zesearch_87 z (e:=z) (hk:=z) (xs:=[.tmp 69]) (hv:=CO.eq (CO.cons (Slc.cells br) CO.nil)) (hw:=Wide.of z) (hd:=z) fun cz=>?_) T.tno
   have aW:RowF (VSl (VSl (VI .i64) 1) 1) bq [[ab]] ([c6]:List (List (List Int))):=(RowF.cons ⟨ab,z,br⟩ RowF.nil)
   obtain ⟨bt,bu,H⟩:=bnd H
   have bw:=((aU.trans aA).trans I)
   have bx:=RowF.mono (VSl.mono (VSl.mono VI.mono)) a8 bw
   refine Tp z z (SX.two (XA.fr [] I z) (XA.fr [2,2] I z)) (O.apX elsearch_58 elsearch_58 zesearch_87 z z z (j:=2) z (Src.row (j:=0) z) (Wide.of z) (RowF.ones VSl.plain aW) bx aW bu z fun aX et eu=>?_) T.tno
   have da:RowF (VSl (VSl (VI .i64) 1) 1) bq (d ++ [[ab]]) bt:=RowF.ap bx aW bu
   refine Sl_ (rowR 87 1 aX (d ++ [[ab]])::rowR 87 1 (.slice (some ⟨cz,0,none⟩) 1 1) [[ab]]::blk y (.cells [p,q,r,s,u,w,C,o,a].toArray 60)::rowR 3 1 o (c ++ [[.int .i64 (b.length:Int)]])::rowR 3 1 C J::L) z<|Fr_ 1 z<|T.fl ?_
   refine T.drop<|T.tgrow I<|Tv z (V.nck rfl)<|Tv z (V.fa fdsearch_60_4 rfl)<|T.rowOne 0 rfl fun db dc=>Tp z z (SX.one (XA.fr [] Lr rfl) rfl) (O.st (vs:=[aX]) (k:=8) shsearch_58 rfl rfl (j:=1) rfl dc (by (simp only [Sl.ones,db,Bool.and_true,Bool.true_and]) <;> rfl) ?_) T.tno
   refine T.fl ?_
   refine T.tnil (SX.one (XA.fr [] Lr z) z)<|Bn<|Th<|Rg ?_
   obtain ⟨dd,de,H⟩:=bnd H
   refine Vv (V.addS z z de)<|Mv z<|Nt<|have df:=(aA.trans I); have dg:=RowF.mono VI.mono cZ df; have di:=RowF.mono VI.mono b9 bw; Fr_ 1 z<|T.fl ?_
   refine Fr_ 2 z<|T.fl ?_
   refine Fr_ 3 z<|T.fl ?_
   refine Fr_ 3 z<|T.fl ?_
   have dj:=((aV.trans aA).trans I)
   exact T.again (b7,aa,ah,bt,dd,C,J,o,(c ++ [[.int .i64 (b.length:Int)]]),aX,(d ++ [[ab]])) dj (Nat.lt_succ_self _) ⟨(iterK_in H a9),dg,di,da⟩ (AllIn.app ⟨z,trivial⟩ ⟨z,z,z,trivial⟩) z
  refine T.exit<|Te<|Te<|have H:=iterK_out H a9; Be<|Th<|T.met (b,K,M,n,f,B,c,a,d) ae ⟨H,aq,aK,a8⟩ (AllIn.app trivial ⟨z,trivial⟩) z
 rintro ⟨P,S,U,D,W,E,X,G,Y⟩ ew bA ⟨dk,dm,dn,dp⟩
 have H:=cutE dk b2
 refine T.norm [8] z<|Sl_ (blk y (.cells [p,q,r,s,u,w,D,E,G].toArray 60)::rowR 3 1 D W::rowR 3 1 E X::rowR 87 1 G Y::L) z<|Sr<|Mv z<|Ag z<|Ag z<|Ag z<|Nt<|T.ret<|Fr_ 1 z<|T.fl ?_
 refine T.rowFix fun ex aB dq=>have dr:=RowF.mono VI.mono dm aB; have ds:=RowF.slc dq dr; Fr_ 1 z<|T.fl ?_
 refine T.rowFix fun ey aC dt=>have bB:=(aB.trans aC); have du:=RowF.mono VI.mono dn bB; have dw:=RowF.slc dt du; Fr_ 1 z<|T.rowFix fun eA ag dx=>have dy:=(bB.trans ag); have dA:=RowF.mono (VSl.mono (VSl.mono VI.mono)) dp dy; have dB:=RowF.slc dx dA; T.blkFix fun dC ai dD=>have ac:=((((bA.trans aB).trans aC).trans ag).trans ai); have dE:=Pt.mono VruleJudge.mono a6 ac; have dG:=Slc.mono VapiTable.mono bW ac; have dI:=Slc.mono VapiGuest.mono bX ac; have dJ:=Slc.mono VapiTie.mono bY ac; have dK:=Slc.mono VI.mono bZ ac; have dM:=Slc.mono VapiRule.mono b0 ac; have dN:=((aC.trans ag).trans ai); have dO:=Slc.mono VI.mono ds dN; have dP:=(ag.trans ai); have dS:=Slc.mono VI.mono dw dP; have dU:=Slc.mono (VSl.mono (VSl.mono VI.mono)) dB ai; ?_
 obtain ⟨rfl,rfl,rfl⟩:=inj3 H
 have dV:=(((((((N.trans a4).trans aE).trans bA).trans aB).trans aC).trans ag).trans ai)
 exact T.retL Tryz.results19 (RVs.cons (RV.tmp z) (RVs.cons (RV.tmp z) (Rv z))) dV ⟨_,z,z,(Pt.mk dD (show Vsearchhunt dC [p,q,r,s,u,w,D,E,G] (searchhunt.mk bK bP P S U) from ⟨p,q,r,s,u,w,D,E,G,z,dE,dG,dI,dJ,dK,dM,dO,dS,dU⟩))⟩
theorem search_work_ok {h:PH} {free1:Int} {guests2:Int} {r_0:Int} (H:search_work free1 guests2 = some r_0):∀ L,FnS Tryz.prog 13 [.int .i64 free1,.int .i64 guests2] h (L) (fun v h' L'=>v = .int .i64 r_0∧L' = L):=by
 intro L
 refine FnS.enter Tryz.func13 z Tryz.ntmps13 z<|Sr<|Ag z<|Nt<|Sr<|Ag z<|Nt<|Sq<|Sr<|Mv z<|Mv z<|Nt ?_
 obtain ⟨g,j,i⟩:=bndK H
 refine T.cutK (α:=Int) [] z (fun d=>[(5,.int .i64 d)]) (fun d=>L) (fun d hh=>g = (Sum.inl d)) ?_ ?_
 ·have H:=j
  refine Bl<|T.loopK (α:=Nat×Int×Int) [0,7] z (fun ⟨b,a,c⟩=>[(5,.int .i64 a),(8,.int .i64 c)]) (fun ⟨b,a,c⟩=>L) (fun ⟨b,a,c⟩ hh=>iter (search_work_l0 free1 guests2) b (a,c) = some g) (fun ⟨b,a,c⟩=>b) (FUEL,(1:Int),(0:Int)) ⟨z,z,trivial⟩ z H ?_
  rintro ⟨b,a,c⟩ u e k
  obtain ⟨m,w,rfl,H,f⟩:=iter_go k
  refine T.norm [5,8,0,7] z<|Sl_ (L) z<|Sr<|Vv (V.lt z z)<|Nt<|Sq<|T.cH H z (fun H=>?_) (fun H=>?_)
  ·refine T.skip<|Th<|Sq<|Bl<|Sr<|Mv z<|Ag z<|Nt<|Sr<|Mv z<|Mv z<|Mv z ?_
   obtain ⟨x,n,H⟩:=bnd H
   refine Vv (V.subS z z n) ?_
   obtain ⟨o,p,H⟩:=bnd H
   refine Vv (V.mulS z z p)<|Ag z<|Nt<|Sr<|Mv z<|Vv (V.gt z z)<|Nt<|T.cH H z (fun H=>?_) (fun H=>?_)
   ·refine Sr<|Mv z<|Ag z<|Nt<|T.ret<|Br<|Tr<|Tr<|have H:=iterK_out H f; Br<|Tr<|have H:=cutE H i; ?_
    obtain rfl:=Option.some.inj H
    exact T.retL Tryz.results13 (Rv z) e ⟨z,z⟩
   refine T.skip<|Bn<|Th<|Rg ?_
   obtain ⟨q,r,H⟩:=bnd H
   refine Vv (V.addS z z r)<|Mv z<|Nt<|T.again (m,o,q) e (Nat.lt_succ_self _) (iterK_in H f) (AllIn.app ⟨z,z,trivial⟩ ⟨z,z,trivial⟩) z
  refine T.exit<|Te<|Te<|have H:=iterK_out H f; Be<|Th<|T.met a e H (AllIn.app ⟨z,trivial⟩ trivial) z
 rintro d y s t
 have H:=cutE t i
 refine T.norm [5] z<|Sl_ (L) z<|Sr<|Mv z<|Ag z<|Nt<|T.ret ?_
 obtain rfl:=Option.some.inj H
 exact T.retL Tryz.results13 (Rv z) s ⟨z,z⟩
theorem search_begin_ok {h:PH} {pc0:List Value} {p1:apiProblem} (pr0:VapiProblem h pc0 p1) {r_0:Option searchhunt} {r_1:Int} (H:search_begin p1 = some (r_0,r_1)):∀ L,FnS Tryz.prog 12 [.agg pc0.toArray] h (L) (fun v h' L'=>∃ w0,v = .tuple #[w0,.int .i64 r_1]∧L' = L∧OPt Vsearchhunt h' w0 r_0):=by
 intro L
 obtain ⟨d,e,f,i,j,rfl,C,D,E,G,I⟩:=pr0
 refine FnS.enter Tryz.func12 rfl Tryz.ntmps12 rfl<|Sr<|To (O.boxF rfl rfl rfl fun aI J b m=>Ag z<|Ag z<|Nt<|Sr<|Vv (V.ldS rfl m (by exact shsearch_32)) ?_)
 have K:=Slc.mono VapiTable.mono C b
 have n:=Slc.mono VapiGuest.mono D b
 have M:=Slc.mono VapiTie.mono E b
 have N:=Slc.mono VI.mono G b
 have P:=Slc.mono VapiRule.mono I b
 obtain ⟨⟨S,aJ,aK⟩,U,H⟩:=bnd H
 refine To (O.callS z (search_open_ok (show VapiProblem J [d,e,f,i,j] p1 from ⟨d,e,f,i,j,z,K,n,M,N,P⟩) U _) z fun aM aN aO c W=>?_)
 obtain ⟨aP,rfl,X,Y⟩:=W
 refine Sl_ _ X<|Mv z<|Vv (V.ext z z)<|Vv (V.ext z z)<|Vv (V.ext z z)<|Ag z<|Ag z<|Ag z<|Nt<|Sq<|Sr<|Mv z<|Vv (V.ne z z)<|Nt<|T.cH H z (fun H=>?_) (fun H=>?_)
 ·exact dead H
 refine T.skip<|Th<|Sq<|Sq<|T.drawF (t:=(.v 0 (.v 1 (.v 2 (.v 3 (.v 4 (.v 5 (.v 6 (.v 7 (.alt 8 (.g (.v 9 .done)) .no)))))))))) 11 0 0 rfl rfl searchmixed (by kernel_rfl) ?_
 refine Tm z z<|have Z:=Y; ?_
 obtain ⟨aS,_,rfl,o,⟨p,q,r,s,u,w,x,y,A,rfl,aa,ab,ac,ad,ae,af,B,ag,ai⟩⟩:=Z
 refine Tv z (V.nck z)<|Tv z (V.fa fdsearch_60_2 z)<|Tv z (V.ldf (k:=6) shsearch_24 z o z)<|Tv z (V.lenS elsearch_24 z B)<|Tv z (V.fa fdsearch_32_1 z)<|have aj:=m.mono c; Tv z (V.ldf (k:=1) shsearch_28 z aj z)<|have ak:=Slc.mono VapiGuest.mono n c; Tv z (V.lenS elsearch_28 z ak) ?_
 obtain ⟨aU,am,H⟩:=bnd H
 refine Tp z z (SX.two (XA.fr [] Lr z) (XA.fr [] Lr z)) (O.callS z (search_work_ok am _) z fun aV an aW a ao=>?_) T.tno
 obtain ⟨rfl,ap⟩:=ao
 refine Sl_ _ ap<|T.tgrow a<|Tv z (V.gt z z)<|T.tnil (SX.two (XA.fr [] Lr z) (XA.fr [] Lr z))<|Th<|T.cH H z (fun H=>?_) (fun H=>?_)
 ·refine Sr<|Ag z<|Ag z<|Nt<|T.ret<|Tr ?_
  obtain ⟨rfl,rfl⟩:=inj2 H
  have aq:=((b.trans c).trans a)
  exact T.retL Tryz.results12 (RVs.cons (RV.tmp z) (Rv z)) aq ⟨_,z,z,OPt.nil⟩
 refine T.skip<|Th<|Sr<|Mv z<|Ag z<|Ag z<|Nt<|T.ret<|have ar:=o.mono a; have au:=Pt.mono VruleJudge.mono aa a; have aw:=Slc.mono VapiTable.mono ab a; have ax:=Slc.mono VapiGuest.mono ac a; have ay:=Slc.mono VapiTie.mono ad a; have aA:=Slc.mono VI.mono ae a; have aB:=Slc.mono VapiRule.mono af a; have aC:=Slc.mono VI.mono B a; have aD:=Slc.mono VI.mono ag a; have aE:=Slc.mono (VSl.mono (VSl.mono VI.mono)) ai a; ?_
 obtain ⟨rfl,rfl⟩:=inj2 H
 have aG:=((b.trans c).trans a)
 exact T.retL Tryz.results12 (RVs.cons (RV.tmp z) (Rv z)) aG ⟨_,z,z,(OPt.some (Pt.mk ar (show Vsearchhunt an [p,q,r,s,u,w,x,y,A] S from ⟨p,q,r,s,u,w,x,y,A,z,au,aw,ax,ay,aA,aB,aC,aD,aE⟩)))⟩
theorem hunt_nobody_ok {h:PH} {pv0:Value} {h1:searchhunt} (pr0:Pt Vsearchhunt h pv0 h1) {r_0:List Int} (H:hunt_nobody h1 = some r_0):∀ L,FnS Tryz.prog 15 [pv0] h (L) (fun v h' L'=>∃ cs0,L' = rowR 3 1 v cs0::L∧RowF (VI .i64) h' cs0 r_0):=by
 intro L
 refine FnS.enter Tryz.func15 z Tryz.ntmps15 z<|Sr<|Ag z<|Nt<|Sr<|To (O.bs elsearch_24 zesearch_3 z (e:=z) (hk:=z) (xs:=[.const (.int .i64 (-1))]) (hv:=CO.eq (CO.cons z CO.nil)) (hw:=Wide.of z) (hd:=z) fun s=>have b:RowF (VI .i64) h [[.int .i64 (-1:Int)]] ([(-1:Int)]:List Int):=(RowF.cons z RowF.nil); Mv z<|have c:=pr0; ?_)
 obtain ⟨t,_,rfl,d,⟨u,w,x,y,A,B,C,D,E,rfl,G,I,f,J,K,M,N,P,S⟩⟩:=c
 refine Vv (V.nck z)<|Vv (V.fa fdsearch_60_1 z)<|Vv (V.fa fdsearch_32_1 z)<|Vv (V.ldf (k:=2) shsearch_28 z d z)<|Vv (V.lenS elsearch_28 z f)<|T.rowFix fun U a g=>have i:=RowF.mono VI.mono b a; have j:=RowF.slc g i; ?_
 obtain ⟨W,m,H⟩:=bnd H
 refine To (O.callS z (sl_Repeat_ok j m _) z fun X Y Z n o=>?_)
 obtain ⟨aa,p,q⟩:=o
 refine Sl_ _ p<|Ag z<|Nt<|T.ret ?_
 obtain rfl:=Option.some.inj H
 have r:=(a.trans n)
 exact T.retL Tryz.results15 (Rv z) r ⟨_,z,q⟩
theorem hunt_turns_ok {h:PH} {pv0:Value} {h1:searchhunt} (pr0:Pt Vsearchhunt h pv0 h1) {pv1:Value} {part2:List Int} (pr1:Slc (VI .i64) 1 h pv1 part2) {g3:Int} {k4:Int} {r_0:Bool} (H:hunt_turns h1 part2 g3 k4 = some r_0):∀ L,FnS Tryz.prog 44 [pv0,pv1,.int .i64 g3,.int .i64 k4] h (L) (fun v h' L'=>v = .bool r_0∧L' = L):=by
 intro L
 refine FnS.enter Tryz.func44 rfl Tryz.ntmps44 rfl<|Sr<|Ag z<|Nt<|Sq<|T.drawF (t:=(.v 0 (.v 1 (.v 2 (.v 3 (.v 4 (.v 5 (.v 6 (.v 7 (.v 8 (.v 9 (.alt 10 .done .no)))))))))))) 12 0 0 rfl rfl searchmixed (by kernel_rfl) ?_
 refine Tm z z<|have G:=pr0; ?_
 obtain ⟨ak,_,rfl,c,⟨am,an,ao,ap,aq,ar,au,aw,ax,rfl,ay,aA,aB,aC,aD,aE,j,m,d⟩⟩:=G
 refine Tv z (V.nck z)<|Tv z (V.fa fdsearch_60_2 z)<|Tv z (V.ldf (k:=6) shsearch_24 z c z)<|Tm z z<|Tm z z ?_
 obtain ⟨aG,n,H⟩:=bnd H
 obtain ⟨aI,I,rfl⟩:=Slc.at pr1 n
 refine Tv z (V.ix elsearch_24 z z pr1 (getI_bd n))<|Tv z (V.ld0 shsearch_3 z I z) ?_
 obtain ⟨aJ,o,H⟩:=bnd H
 obtain ⟨aK,J,rfl⟩:=Slc.at j o
 refine Tv z (V.ix elsearch_24 z z j (getI_bd o))<|Tv z (V.ld0 shsearch_3 z J z)<|Ts z z (SX.two (XA.fr [] Lr z) (XA.fr [] Lr z)) (V.asg z) z ?_ T.tno
 refine T.tnil (SX.two (XA.fr [] Lr z) (XA.fr [] Lr z))<|Th<|Sq<|Sr<|Mv z<|Vv (V.lt z z)<|Mv z<|T.bH 26 H z (fun H=>?_) (fun H=>?_)
 ·exact dead H
 refine Mv z<|Mv z<|Vv (V.nck z)<|Vv (V.fa fdsearch_60_4 z)<|Vv (V.ldf (k:=8) shsearch_58 z c z)<|Mv z ?_
 obtain ⟨aM,p,H⟩:=bnd H
 obtain ⟨aN,K,⟨aO,rfl,M⟩⟩:=Slc.at d p
 refine Vv (V.ix elsearch_58 z z d (getI_bd p))<|Vv (V.ld0 shsearch_87 z K z)<|Vv (V.lenS elsearch_87 z M)<|Vv (V.ge z z)<|Vv (V.pkF z z)<|Nt<|T.cH H z (fun H=>?_) (fun H=>?_)
 ·exact dead H
 refine T.skip<|Th<|Sq<|T.drawF (t:=(.v 0 (.v 1 (.v 2 (.v 3 (.v 4 (.v 5 (.v 6 (.v 7 (.v 8 (.v 9 (.v 10 (.v 11 (.v 12 (.v 13 (.v 14 (.v 15 (.v 16 (.alt 17 (.alt 18 .done .no) .no))))))))))))))))))) 20 0 0 rfl rfl searchmixed (by kernel_rfl) ?_
 refine Tm z z<|Tv z (V.nck z)<|Tv z (V.fa fdsearch_60_4 z)<|Tv z (V.ldf (k:=8) shsearch_58 z c z)<|Tm z z ?_
 obtain ⟨aP,q,H⟩:=bnd H
 obtain ⟨aS,N,⟨aU,rfl,r⟩⟩:=Slc.at d q
 refine Tv z (V.ix elsearch_58 z z d (getI_bd q))<|Tv z (V.ld0 shsearch_87 z N z)<|Tm z z ?_
 obtain ⟨aV,s,H⟩:=bnd H
 obtain ⟨aW,O,⟨aX,rfl,P⟩⟩:=Slc.at r s
 refine Tv z (V.ix elsearch_87 z z r (getI_bd s))<|Tv z (V.ld0 shsearch_24 z O z)<|Tm z z<|Tv z (V.nck z)<|Tv z (V.fa fdsearch_60_3 z)<|Tv z (V.ldf (k:=7) shsearch_24 z c z)<|Tm z z ?_
 obtain ⟨aY,u,H⟩:=bnd H
 obtain ⟨aZ,S,rfl⟩:=Slc.at m u
 refine Tv z (V.ix elsearch_24 z z m (getI_bd u))<|Tv z (V.ld0 shsearch_3 z S z)<|Ts z z (SX.two (XA.fr [] Lr z) (XA.fr [] Lr z)) (V.asg z) z ?_ T.tno
 refine Ts z z (SX.two (XA.fr [] Lr z) (XA.fr [] Lr z)) (V.asg z) z ?_ T.tno
 refine T.tnil (SX.two (XA.fr [] Lr z) (XA.fr [] Lr z))<|Th<|Sq<|Sq<|T.norm [0,1,2,9,10,11] z<|Rg<|Mv z<|Vv (V.lenS elsearch_24 z pr1)<|Mv z<|Nt ?_
 obtain ⟨w,U,W⟩:=bndK H
 refine T.cutK (α:=Unit) [1,2,10,11] z (fun _u=>[]) (fun _u=>L) (fun _u hh=>w = ()) ?_ ?_
 ·have H:=U
  refine Bl<|T.loopK (α:=Nat×Int) [0,1,2,9,10,11,55,56] z (fun ⟨a,b⟩=>[(57,.int .i64 b)]) (fun ⟨a,b⟩=>L) (fun ⟨a,b⟩ hh=>iter (hunt_turns_l0 part2 g3) a b = some w) (fun ⟨a,b⟩=>a) (FUEL,(0:Int)) ⟨z,trivial⟩ z H ?_
  rintro ⟨a,b⟩ a0 e X
  obtain ⟨x,a1,rfl,H,g⟩:=iter_go X
  refine T.norm [57,0,1,2,9,10,11,55,56] z<|Sl_ (L) z<|Sr<|Vv (V.lt z z)<|Nt<|Sq<|T.cH H z (fun H=>?_) (fun H=>?_)
  ·refine T.skip<|Th<|Sq<|Bl<|Sr<|Mv z ?_
   obtain ⟨a2,y,H⟩:=bnd H
   have A:=Slc.mono VI.mono pr1 e
   obtain ⟨a3,Y,rfl⟩:=Slc.at A y
   refine Vv (V.ix elsearch_24 z z A (getI_bd y))<|Vv (V.ld0 shsearch_3 z Y z)<|Ag z<|Ag z<|Nt<|Sr<|Mv z<|Mv z<|Vv (V.ne z z)<|Mv z<|T.bH 65 H z (fun H=>?_) (fun H=>?_)
   ·refine Mv z<|Vv (V.ge z z)<|Vv (V.pkT z z)<|Mv z<|T.bH 69 H z (fun H=>?_) (fun H=>?_)
    ·exact dead H
    refine Sk<|Sk<|Sk<|Sk<|Sk<|Sk<|Sk<|Sk<|Sk<|Vv (V.pkF z z)<|Mv z<|Sk<|Sk<|Sk<|Sk<|Sk<|Sk<|Sk<|Sk<|Sk<|Sk<|Vv (V.pkF z z)<|Nt<|Cf z<|T.skip<|Bn<|Th<|Rg ?_
    obtain ⟨Z,aa,H⟩:=bnd H
    refine Vv (V.addS z z aa)<|Mv z<|Nt<|T.again (x,Z) e (Nat.lt_succ_self _) (iterK_in H g) (AllIn.app ⟨z,trivial⟩ ⟨z,z,z,z,z,z,z,z,trivial⟩) z
   refine Sk<|Sk<|Vv (V.pkF z z)<|Mv z<|Sk<|Sk<|Sk<|Sk<|Sk<|Sk<|Sk<|Sk<|Sk<|Vv (V.pkF z z)<|Mv z<|Sk<|Sk<|Sk<|Sk<|Sk<|Sk<|Sk<|Sk<|Sk<|Sk<|Vv (V.pkF z z)<|Nt<|Cf z<|T.skip<|Bn<|Th<|Rg ?_
   obtain ⟨ab,ac,H⟩:=bnd H
   refine Vv (V.addS z z ac)<|Mv z<|Nt<|T.again (x,ab) e (Nat.lt_succ_self _) (iterK_in H g) (AllIn.app ⟨z,trivial⟩ ⟨z,z,z,z,z,z,z,z,trivial⟩) z
  refine T.exit<|Te<|Te<|have H:=iterK_out H g; Be<|Th<|T.met () e H (AllIn.app trivial ⟨z,z,z,z,trivial⟩) z
 rintro _ a4 i ad
 have H:=cutE ad W
 refine T.norm [1,2,10,11] rfl<|Sl_ (L) rfl<|Sq<|T.drawF (t:=(.v 0 (.v 1 (.v 2 (.v 3 (.v 4 (.v 5 (.v 6 (.v 7 (.v 8 (.v 9 (.v 10 (.v 11 (.v 12 (.v 13 (.v 14 (.v 15 (.alt 16 .done .no)))))))))))))))))) 18 0 0 rfl rfl searchmixed (by kernel_rfl) ?_
 refine Tm z z<|Tm z z<|Tm z z ?_
 obtain ⟨a5,B,H⟩:=bnd H
 have f:=Slc.mono VI.mono pr1 i
 obtain ⟨a6,ae,rfl⟩:=Slc.at f B
 refine Tv z (V.ix elsearch_24 z z f (getI_bd B))<|Tv z (V.ld0 shsearch_3 z ae z)<|Tm z z ?_
 obtain ⟨a7,af,H⟩:=bnd H
 refine Tv z (V.subS z z af) ?_
 obtain ⟨a8,C,H⟩:=bnd H
 have D:=Slc.mono VI.mono P i
 obtain ⟨a9,ag,rfl⟩:=Slc.at D C
 refine Tv z (V.ix elsearch_24 z z D (getI_bd C))<|Tv z (V.ld0 shsearch_3 z ag z)<|Tm z z<|Tm z z ?_
 obtain ⟨ah,E,H⟩:=bnd H
 obtain ⟨al,ai,rfl⟩:=Slc.at f E
 refine Tv z (V.ix elsearch_24 z z f (getI_bd E))<|Tv z (V.ld0 shsearch_3 z ai z)<|Tm z z ?_
 obtain ⟨av,aj,H⟩:=bnd H
 refine Tv z (V.subS z z aj)<|Tv z (V.lt z z)<|Ts z z (SX.two (XA.fr [] Lr z) (XA.fr [] Lr z)) (V.asg z) z ?_ T.tno
 refine T.tnil (SX.two (XA.fr [] Lr z) (XA.fr [] Lr z))<|Th<|T.ret ?_
 obtain rfl:=Option.some.inj H
 exact T.retL Tryz.results44 (Rv z) i ⟨z,z⟩
theorem hunt_canonical_ok {h:PH} {pv0:Value} {h1:searchhunt} (pr0:Pt Vsearchhunt h pv0 h1) {pv1:Value} {plan2:List Int} (pr1:Slc (VI .i64) 1 h pv1 plan2) {r_0:Bool} (H:hunt_canonical h1 plan2 = some r_0):∀ L,FnS Tryz.prog 16 [pv0,pv1] h (L) (fun v h' L'=>v = .bool r_0∧L' = L):=by
 intro L
 refine FnS.enter Tryz.func16 z Tryz.ntmps16 z<|Sr<|Ag z<|Nt<|Sq<|Sr<|Mv z<|have Z:=pr0; ?_
 obtain ⟨aX,_,rfl,s,⟨aY,aZ,a0,a1,a2,a3,a4,a5,a6,rfl,a7,a8,a9,ah,al,av,aa,ab,u⟩⟩:=Z
 refine Vv (V.nck z)<|Vv (V.fa fdsearch_60_4 z)<|Vv (V.ldf (k:=8) shsearch_58 z s z)<|Vv (V.lenS elsearch_58 z u)<|Mv z<|Nt ?_
 obtain ⟨w,ac,x⟩:=bndK H
 refine T.cutK (α:=Unit) [] z (fun _u=>[]) (fun _u=>L) (fun _u hh=>w = (Sum.inl ())) ?_ ?_
 ·have H:=ac
  refine Bl<|T.loopK (α:=Nat×Int) [0,1,15,16] z (fun ⟨b,a⟩=>[(17,.int .i64 a)]) (fun ⟨b,a⟩=>L) (fun ⟨b,a⟩ hh=>iter (hunt_canonical_l0 h1 plan2) b a = some w) (fun ⟨b,a⟩=>b) (FUEL,(0:Int)) ⟨z,trivial⟩ z H ?_
  rintro ⟨b,a⟩ az i ad
  obtain ⟨ae,ba,rfl,H,p⟩:=iter_go ad
  refine T.norm [17,0,1,15,16] z<|Sl_ (L) z<|Sr<|Vv (V.lt z z)<|Nt<|Sq<|T.cH H z (fun H=>?_) (fun H=>?_)
  ·refine T.skip<|Th<|Sq<|Bl<|Sr<|Mv z ?_
   obtain ⟨af,y,H⟩:=bnd H
   have A:=Slc.mono (VSl.mono (VSl.mono VI.mono)) u i
   obtain ⟨bb,ag,⟨bc,rfl,B⟩⟩:=Slc.at A y
   refine Vv (V.ix elsearch_58 z z A (getI_bd y))<|Vv (V.ld0 shsearch_87 z ag z)<|Ag z<|Ag z<|Nt<|Sr<|Mv z<|Vv (V.lenS elsearch_87 z B)<|Mv z<|Nt<|T.asThen ?_
   obtain ⟨C,ai,D⟩:=bndK H
   refine T.cutK (α:=Unit) [0,1,15,16,17] z (fun _u=>[]) (fun _u=>L) (fun _u hh=>C = (Sum.inl ())) ?_ ?_
   ·have H:=ai
    refine Bl<|T.loopK (α:=Nat×Int) [0,1,5,15,16,17,22,23] z (fun ⟨c,d⟩=>[(24,.int .i64 d)]) (fun ⟨c,d⟩=>L) (fun ⟨c,d⟩ hh=>iter (hunt_canonical_l1 h1 plan2 a af) c d = some C) (fun ⟨c,d⟩=>c) (FUEL,(0:Int)) ⟨z,trivial⟩ z H ?_
    rintro ⟨c,d⟩ bd j aj
    obtain ⟨ak,be,rfl,H,q⟩:=iter_go aj
    refine T.norm [24,0,1,5,15,16,17,22,23] z<|Sl_ (L) z<|Sr<|Vv (V.lt z z)<|Nt<|Sq<|T.cH H z (fun H=>?_) (fun H=>?_)
    ·refine T.skip<|Th<|Sq<|Bl<|Sr ?_
     obtain ⟨am,E,H⟩:=bnd H
     have G:=Slc.mono (VSl.mono VI.mono) B j
     obtain ⟨bf,an,⟨bg,rfl,ao⟩⟩:=Slc.at G E
     refine Vv (V.ix elsearch_87 z z G (getI_bd E))<|Vv (V.ld0 shsearch_24 z an z)<|Ag z<|Nt<|Sr<|Mv z<|have I:=(i.trans j); have J:=Slc.mono VI.mono pr1 I; Vv (V.lenS elsearch_24 z J)<|Mv z<|Nt<|T.asThen ?_
     obtain ⟨K,ap,M⟩:=bndK H
     refine T.cutK (α:=Unit) [0,1,5,15,16,17,22,23,24] z (fun _u=>[]) (fun _u=>L) (fun _u hh=>K = (Sum.inl ())) ?_ ?_
     ·have H:=ap
      refine Bl<|T.loopK (α:=Nat×Int) [0,1,5,8,15,16,17,22,23,24,28,29] z (fun ⟨e,f⟩=>[(30,.int .i64 f)]) (fun ⟨e,f⟩=>L) (fun ⟨e,f⟩ hh=>iter (hunt_canonical_l2 h1 plan2 a am) e f = some K) (fun ⟨e,f⟩=>e) (FUEL,(0:Int)) ⟨z,trivial⟩ z H ?_
      rintro ⟨e,f⟩ bi g aq
      obtain ⟨ar,bj,rfl,H,m⟩:=iter_go aq
      refine T.norm [30,0,1,5,8,15,16,17,22,23,24,28,29] z<|Sl_ (L) z<|Sr<|Vv (V.lt z z)<|Nt<|Sq<|T.cH H z (fun H=>?_) (fun H=>?_)
      ·refine T.skip<|Th<|Sq<|Bl<|Sr ?_
       obtain ⟨bk,N,H⟩:=bnd H
       have O:=Slc.mono VI.mono J g
       obtain ⟨bm,au,rfl⟩:=Slc.at O N
       refine Vv (V.ix elsearch_24 z z O (getI_bd N))<|Vv (V.ld0 shsearch_3 z au z)<|Ag z<|Nt<|Sq<|Sr<|Mv z<|Vv (V.nck z)<|Vv (V.fa fdsearch_60_2 z)<|have n:=(I.trans g); have r:=s.mono n; Vv (V.ldf (k:=6) shsearch_24 z r z)<|Mv z ?_
       obtain ⟨bn,P,H⟩:=bnd H
       have S:=Slc.mono VI.mono aa n
       obtain ⟨bo,aw,rfl⟩:=Slc.at S P
       refine Vv (V.ix elsearch_24 z z S (getI_bd P))<|Vv (V.ld0 shsearch_3 z aw z)<|Mv z<|Vv (V.ne z z)<|Nt<|T.cH H z (fun H=>?_) (fun H=>?_)
       ·exact dead H
       refine T.skip<|Th<|Sq<|T.drawF (t:=(.v 0 (.v 1 (.v 2 (.v 3 (.v 4 (.v 5 (.v 6 (.v 7 (.v 8 (.v 9 (.v 10 (.v 11 (.v 12 (.v 13 (.v 14 (.v 15 (.v 16 (.v 17 (.v 18 (.v 19 (.alt 20 .done .no)))))))))))))))))))))) 22 0 0 rfl rfl searchmixed (by kernel_rfl) ?_
       refine Tm z z<|Tv z (V.nck z)<|Tv z (V.fa fdsearch_60_3 z)<|Tv z (V.ldf (k:=7) shsearch_24 z r z)<|Tm z z ?_
       obtain ⟨bp,U,H⟩:=bnd H
       have o:=Slc.mono VI.mono ab n
       obtain ⟨bq,ax,rfl⟩:=Slc.at o U
       refine Tv z (V.ix elsearch_24 z z o (getI_bd U))<|Tv z (V.ld0 shsearch_3 z ax z)<|Tm z z<|Tm z z<|Tm z z<|Tv z (V.nck z)<|Tv z (V.fa fdsearch_60_3 z)<|Tv z (V.ldf (k:=7) shsearch_24 z r z)<|Tm z z ?_
       obtain ⟨br,W,H⟩:=bnd H
       obtain ⟨bs,ay,rfl⟩:=Slc.at o W
       refine Tv z (V.ix elsearch_24 z z o (getI_bd W))<|Tv z (V.ld0 shsearch_3 z ay z) ?_
       obtain ⟨bt,aA,H⟩:=bnd H
       refine Tv z (V.subS z z aA) ?_
       obtain ⟨bu,X,H⟩:=bnd H
       have Y:=Slc.mono VI.mono ao g
       obtain ⟨bw,aB,rfl⟩:=Slc.at Y X
       refine Tv z (V.ix elsearch_24 z z Y (getI_bd X))<|Tv z (V.ld0 shsearch_3 z aB z) ?_
       obtain ⟨bx,aC,H⟩:=bnd H
       refine Tv z (V.addS z z aC)<|Ts z z (SX.two (XA.fr [] Lr z) (XA.fr [] Lr z)) (V.asg z) z ?_ T.tno
       refine T.tnil (SX.two (XA.fr [] Lr z) (XA.fr [] Lr z))<|Th<|Sq<|Sq<|T.norm [0,1,5,8,10,11,15,16,17,22,23,24,28,29,30] z<|Rg<|Mv z<|Mv z<|Vv (V.lt z z)<|Nt<|T.cH H z (fun H=>?_) (fun H=>?_)
       ·refine Sr<|Ag z<|Nt<|T.ret<|Tr<|Br<|Tr<|Tr<|have H:=iterK_out H m; Br<|Tr<|have H:=cutE H M; Br<|Tr<|Tr<|have H:=iterK_out H q; Br<|Tr<|have H:=cutE H D; Br<|Tr<|Tr<|have H:=iterK_out H p; Br<|Tr<|have H:=cutE H x; ?_
        obtain rfl:=Option.some.inj H
        exact T.retL Tryz.results16 (Rv z) n ⟨z,z⟩
       refine T.skip<|Th<|Sr<|Mv z<|Mv z<|Vv (V.gt z z)<|Nt<|T.cH H z (fun H=>?_) (fun H=>?_)
       ·refine T.exit<|T.blX z<|Te<|Te<|have H:=iterK_out H m; Be<|Th<|T.met () g H (AllIn.app trivial ⟨z,z,z,z,z,z,z,z,z,trivial⟩) z
       refine T.skip<|Bn<|Th<|Rg ?_
       obtain ⟨aD,aE,H⟩:=bnd H
       refine Vv (V.addS z z aE)<|Mv z<|Nt<|T.again (ar,aD) g (Nat.lt_succ_self _) (iterK_in H m) (AllIn.app ⟨z,trivial⟩ ⟨z,z,z,z,z,z,z,z,z,z,z,z,trivial⟩) z
      refine T.exit<|Te<|Te<|have H:=iterK_out H m; Be<|Th<|T.met () g H (AllIn.app trivial ⟨z,z,z,z,z,z,z,z,z,trivial⟩) z
     rintro _ bA aG aI
     have H:=cutE aI M
     refine T.norm [0,1,5,15,16,17,22,23,24] z<|Sl_ (L) z<|Bn<|Th<|Rg ?_
     obtain ⟨aJ,aK,H⟩:=bnd H
     refine Vv (V.addS z z aK)<|Mv z<|Nt<|have aM:=(j.trans aG); T.again (ak,aJ) aM (Nat.lt_succ_self _) (iterK_in H q) (AllIn.app ⟨z,trivial⟩ ⟨z,z,z,z,z,z,z,z,trivial⟩) z
    refine T.exit<|Te<|Te<|have H:=iterK_out H q; Be<|Th<|T.met () j H (AllIn.app trivial ⟨z,z,z,z,z,trivial⟩) z
   rintro _ bB aN aO
   have H:=cutE aO D
   refine T.norm [0,1,15,16,17] z<|Sl_ (L) z<|Bn<|Th<|Rg ?_
   obtain ⟨aP,aS,H⟩:=bnd H
   refine Vv (V.addS z z aS)<|Mv z<|Nt<|have aU:=(i.trans aN); T.again (ae,aP) aU (Nat.lt_succ_self _) (iterK_in H p) (AllIn.app ⟨z,trivial⟩ ⟨z,z,z,z,trivial⟩) z
  refine T.exit<|Te<|Te<|have H:=iterK_out H p; Be<|Th<|T.met () i H (AllIn.app trivial trivial) z
 rintro _ bC aV aW
 have H:=cutE aW x
 refine T.norm [] z<|Sl_ (L) z<|Sr<|Ag z<|Nt<|T.ret ?_
 obtain rfl:=Option.some.inj H
 exact T.retL Tryz.results16 (Rv z) aV ⟨z,z⟩
theorem search_Tree_ok {h:PH} {pc0:List Value} {p1:apiProblem} (pr0:VapiProblem h pc0 p1) {r_0:Int} {r_1:Int} (H:search_Tree p1 = some (r_0,r_1)):∀ L,FnS Tryz.prog 4 [.agg pc0.toArray] h (L) (fun v h' L'=>v = .tuple #[.int .i64 r_0,.int .i64 r_1]∧L' = L):=by
 intro L
 obtain ⟨m,n,o,p,q,rfl,N,P,S,U,W⟩:=pr0
 refine FnS.enter Tryz.func4 rfl Tryz.ntmps4 rfl<|Sr<|To (O.boxF rfl rfl rfl fun av X b r=>Ag z<|Ag z<|Nt<|Sr<|Vv (V.ldS rfl r (by exact shsearch_32)) ?_)
 have Y:=Slc.mono VapiTable.mono N b
 have s:=Slc.mono VapiGuest.mono P b
 have Z:=Slc.mono VapiTie.mono S b
 have aa:=Slc.mono VI.mono U b
 have ab:=Slc.mono VapiRule.mono W b
 obtain ⟨⟨ac,az⟩,ad,H⟩:=bnd H
 refine To (O.callS z (search_begin_ok (show VapiProblem X [m,n,o,p,q] p1 from ⟨m,n,o,p,q,z,Y,s,Z,aa,ab⟩) ad _) z fun ba bb bc j ae=>?_)
 obtain ⟨af,rfl,ag,ai⟩:=ae
 refine Sl_ _ ag<|Mv z<|Vv (V.ext z z)<|Vv (V.ext z z)<|Ag z<|Ag z<|Nt<|Sq<|Sr<|Mv z<|Vv (V.ne z z)<|Nt<|T.cH H z (fun H=>?_) (fun H=>?_)
 ·refine Sr<|Mv z<|Ag z<|Ag z<|Nt<|T.ret<|Tr ?_
  obtain ⟨rfl,rfl⟩:=inj2 H
  have aj:=(b.trans j)
  exact T.retL Tryz.results4 (RVs.cons (RV.tmp z) (Rv z)) aj ⟨z,z⟩
 refine T.skip<|Th<|Sr<|Ag z<|Nt<|Sq<|Sr<|Vv (V.fa fdsearch_32_1 z)<|have ak:=r.mono j; Vv (V.ldf (k:=1) shsearch_28 z ak z)<|have am:=Slc.mono VapiGuest.mono s j; Vv (V.lenS elsearch_28 z am) ?_
 obtain ⟨an,ao,H⟩:=bnd H
 refine Vv (V.addS z z ao)<|Mv z<|Nt ?_
 obtain ⟨t,ap,aq⟩:=bndK H
 refine T.cutK (α:=Int) [] z (fun i=>[(6,.int .i64 i)]) (fun i=>L) (fun i hh=>t = i) ?_ ?_
 ·have H:=ap
  refine Bl<|T.loopK (α:=Nat×Int×(Option searchhunt)×Int×Value) [19] z (fun ⟨d,e,f,c,g⟩=>[(20,.int .i64 e),(4,g),(6,.int .i64 c)]) (fun ⟨d,e,f,c,g⟩=>L) (fun ⟨d,e,f,c,g⟩ hh=>iter (search_Tree_l0 an) d (e,f,c) = some t∧OPt Vsearchhunt hh g f) (fun ⟨d,e,f,c,g⟩=>d) (FUEL,(0:Int),ac,(0:Int),af) ⟨z,z,z,trivial⟩ z ⟨H,ai⟩ ?_
  rintro ⟨d,e,f,c,g⟩ bd u ⟨ar,au⟩
  obtain ⟨aw,be,rfl,H,w⟩:=iter_go ar
  refine T.norm [20,4,6,19] z<|Sl_ (L) z<|Sr<|Vv (V.lt z z)<|Nt<|Sq<|T.cH H z (fun H=>?_) (fun H=>?_)
  ·refine T.skip<|Th<|Sq<|Bl<|Sr<|Mv z<|Ag z<|Nt<|Rg<|Mv z<|Mv z ?_
   obtain ⟨x,ax,H⟩:=bnd H
   have ay:=OPt.get au ax
   have aA:=ay
   obtain ⟨aB,_,rfl,y,⟨A,B,C,D,E,G,I,J,K,rfl,aC,aD,aE,aG,aI,aJ,M,aK,aM⟩⟩:=aA
   refine Vv (V.nck z)<|Vv (V.fa fdsearch_60_2 z)<|Vv (V.ldf (k:=6) shsearch_24 z y z)<|Vv (V.lenS elsearch_24 z M)<|Mv z ?_
   obtain ⟨bf,aN,H⟩:=bnd H
   refine To (O.callS z (search_work_ok aN _) z fun bg aO bi a aP=>?_)
   obtain ⟨rfl,aS⟩:=aP
   refine Sl_ _ aS ?_
   obtain ⟨aU,aV,H⟩:=bnd H
   refine Vv (V.addS z z aV)<|Ag z<|Ni<|Bn<|Th<|Rg ?_
   obtain ⟨aW,aX,H⟩:=bnd H
   refine Vv (V.addS z z aX)<|Mv z<|Nt<|have aY:=y.mono a; have aZ:=Pt.mono VruleJudge.mono aC a; have a0:=Slc.mono VapiTable.mono aD a; have a1:=Slc.mono VapiGuest.mono aE a; have a2:=Slc.mono VapiTie.mono aG a; have a3:=Slc.mono VI.mono aI a; have a4:=Slc.mono VapiRule.mono aJ a; have a5:=Slc.mono VI.mono M a; have a6:=Slc.mono VI.mono aK a; have a7:=Slc.mono (VSl.mono (VSl.mono VI.mono)) aM a; have a8:=(u.trans a); T.again (aw,aW,(some x),aU,(.pointer (some aB))) a8 (Nat.lt_succ_self _) ⟨(iterK_in H w),(OPt.some (Pt.mk aY (show Vsearchhunt aO [A,B,C,D,E,G,I,J,K] x from ⟨A,B,C,D,E,G,I,J,K,z,aZ,a0,a1,a2,a3,a4,a5,a6,a7⟩)))⟩ (AllIn.app ⟨z,z,z,trivial⟩ ⟨z,trivial⟩) z
  refine T.exit<|Te<|Te<|have H:=iterK_out H w; Be<|Th<|T.met c u H (AllIn.app ⟨z,trivial⟩ trivial) z
 rintro i bj a9 ah
 have H:=cutE ah aq
 refine T.norm [6] z<|Sl_ (L) z<|Sr<|Mv z<|Ag z<|Ag z<|Nt<|T.ret ?_
 obtain ⟨rfl,rfl⟩:=inj2 H
 have al:=((b.trans j).trans a9)
 exact T.retL Tryz.results4 (RVs.cons (RV.tmp z) (Rv z)) al ⟨z,z⟩
end Go.Proofs.X
open Go Go.Proofs Go.Sl Go.Dm
namespace Go.Proofs.X
theorem search2mixed : Tryz.prog.follows .mixedOrders = true := by kernel_rfl
theorem blsearch2_73 : bldSh Tryz.prog 73 = some ([.int .i64 (0), .int .i64 (0)], [(0, 1), (1, 1)]) := by kernel_rfl
theorem bosearch2_73 : fieldsOK Tryz.prog 73 = true := by kernel_rfl
theorem elsearch2_24 : elSh Tryz.prog 24 = some (3, 1, 8) := by kernel_rfl
theorem elsearch2_30 : elSh Tryz.prog 30 = some (41, 6, 72) := by kernel_rfl
theorem elsearch2_46 : elSh Tryz.prog 46 = some (52, 2, 16) := by kernel_rfl
theorem fdsearch2_32_4 : fldOf Tryz.prog 32 4 = some 4 := by kernel_rfl
theorem fdsearch2_41_1 : fldOf Tryz.prog 41 1 = some 1 := by kernel_rfl
theorem fdsearch2_52_0 : fldOf Tryz.prog 52 0 = some 0 := by kernel_rfl
theorem fdsearch2_52_1 : fldOf Tryz.prog 52 1 = some 1 := by kernel_rfl
theorem fdsearch2_60_0 : fldOf Tryz.prog 60 0 = some 0 := by kernel_rfl
theorem fdsearch2_60_1 : fldOf Tryz.prog 60 1 = some 1 := by kernel_rfl
theorem fdsearch2_60_2 : fldOf Tryz.prog 60 2 = some 6 := by kernel_rfl
theorem fdsearch2_76_0 : fldOf Tryz.prog 76 0 = some 0 := by kernel_rfl
theorem fdsearch2_76_1 : fldOf Tryz.prog 76 1 = some 1 := by kernel_rfl
theorem fdsearch2_76_2 : fldOf Tryz.prog 76 2 = some 2 := by kernel_rfl
theorem fdsearch2_76_3 : fldOf Tryz.prog 76 3 = some 3 := by kernel_rfl
theorem fdsearch2_76_4 : fldOf Tryz.prog 76 4 = some 4 := by kernel_rfl
theorem shsearch2_24 : tySh Tryz.prog 24 = some (false, 1) := by kernel_rfl
theorem shsearch2_3 : tySh Tryz.prog 3 = some (false, 1) := by kernel_rfl
theorem shsearch2_30 : tySh Tryz.prog 30 = some (false, 1) := by kernel_rfl
theorem shsearch2_46 : tySh Tryz.prog 46 = some (false, 1) := by kernel_rfl
theorem shsearch2_50 : tySh Tryz.prog 50 = some (false, 1) := by kernel_rfl
theorem shsearch2_52 : tySh Tryz.prog 52 = some (true, 2) := by kernel_rfl
theorem shsearch2_54 : tySh Tryz.prog 54 = some (false, 1) := by kernel_rfl
theorem shsearch2_57 : tySh Tryz.prog 57 = some (false, 1) := by kernel_rfl
theorem shsearch2_73 : tySh Tryz.prog 73 = some (true, 2) := by kernel_rfl
theorem zesearch2_3 : zer Tryz.prog 3 = some (.int .i64 (0)) := by kernel_rfl
theorem zesearch2_52 : zer Tryz.prog 52 = some (.agg #[.int .u8 (0), .int .i64 (0)]) := by kernel_rfl
theorem hunt_walk_1_ok {h:PH} {pp0:Addr} {pv0:Value} {pcs0:List (List Value)} {t1:List Int} (pa0:AtC h pp0 [pv0]) (pr0:RowF (VI .i64) h pcs0 t1) {pp1:Addr} {pc1:List Value} {t3:Int} (pa1:AtC h pp1 pc1) (pr1:(VI .i64) h pc1 t3) {q_1000:List Int} (H:hunt_walk_1 t1 t3 = some q_1000):∀ L,FnZ Tryz.prog 49 [.pointer (some pp0),.pointer (some pp1)] h (rowR 3 1 pv0 pcs0::L) (fun v h' L'=>∃ ls0,v = .tuple #[]∧L' = rowR 3 1 pv0 ls0::L∧RowF (VI .i64) h' ls0 q_1000):=by
 intro L
 obtain rfl:=pr1
 refine FnZ.enter Tryz.func49 z Tryz.ntmps49 z<|Rg<|Vv (V.ld0 shsearch2_24 z pa0 z)<|Vv (V.ld0 shsearch2_3 z pa1 z) ?_
 obtain ⟨e,a,H⟩:=bnd H
 obtain ⟨f,g,rfl⟩:=RowF.get pr0 a
 refine Vv (V.ixR elsearch2_24 z z (j:=0) z (RowF.bd pr0 a)) ?_
 obtain ⟨b,c,H⟩:=bnd H
 refine To (O.stR shsearch2_3 z z (j:=0) z (RowF.bdN pr0 a) z<|have d:RowF (VI .i64) h (pcs0.set t3.toNat [.int .i64 (-1:Int)]) b:=RowF.set pr0 (show (VI .i64) h [.int .i64 (-1:Int)] (-1:Int) from z) c; Ni ?_)
 obtain rfl:=Option.some.inj H
 exact T.end0 Tryz.results49 Lr ⟨_,z,z,d⟩
theorem hunt_walk_ok (n:Nat):∀ {h:PH} {σ:Type} {R:σ→PH→List HProp→Prop} {pv0:Value} {h1:searchhunt} (pr0:Pt Vsearchhunt h pv0 h1) {pv1:Value} {pcs1:List (List Value)} {part2:List Int} (pr1:RowF (VI .i64) h pcs1 part2) {pv2:Value} {yield4:σ→(List Int)→Option (σ×Bool)} (pr2:CY65l R h pv2 yield4) {s0:σ} {La:List HProp} (hRa:R s0 h La) {r_0:Bool} {q_1:List Int} {q_s:σ} (H:hunt_walk n h1 part2 yield4 s0 = some (r_0,q_1,q_s)) (As L:List HProp),FnS Tryz.prog 31 [pv0,pv1,pv2] h (rowR 3 1 pv1 pcs1::(As ++ (La ++ L))) (fun v h' L'=>∃ ls0 La',v = .bool r_0∧L' = rowR 3 1 pv1 ls0::(As ++ (La' ++ L))∧RowF (VI .i64) h' ls0 q_1∧R q_s h' La'):=by
  induction n with
  | zero => intros; rename_i H _ _; cases H
  | succ n self =>
    intro h σ R pv0 h1 pr0 pv1 pcs1 part2 pr1 pv2 yield4 pr2 s0 La hRa r_0 q_1 q_s H As L
    refine FnS.enterM Tryz.func31 rfl Tryz.ntmps31 rfl<|Sr<|T.rowOne 0 rfl fun c7 a3=>To (O.boxF rfl a3 rfl fun c8 c9 p aq=>Ag z<|Nt<|T.scope<|Sq<|Sq<|T.drawF (t:=(.v 0 (.v 1 (.v 2 (.v 3 (.v 4 (.alt 5 (.g (.v 6 (.v 7 (.v 8 (.alt 9 (.alt 10 .done .no) .no))))) .no))))))) 12 1 1 rfl rfl search2mixed (by kernel_rfl) ?_)
    refine Tm z z<|have a4:=Pt.mono Vsearchhunt.mono pr0 p; have a5:=a4; ?_
    obtain ⟨ch,_,rfl,ar,⟨au,aw,ax,ay,aA,aB,aC,aD,aE,rfl,aG,a6,a7,a8,a9,ah,al,av,az⟩⟩:=a5
    refine Tv z (V.nck z)<|Tv z (V.fa fdsearch2_60_0 z)<|Tv z (V.ldf (k:=0) shsearch2_57 z ar z)<|Tv z (V.ld0 shsearch2_24 z aq z) ?_
    obtain ⟨⟨ba,bb⟩,bc,H⟩:=bnd H
    refine Tp z z (SX.two (XA.fr [0] Lr z) (XA.fr [0] Lr z)) (O.callS z (FnS.lend (val:=.tuple #[.int .i64 ba,.bool bb]) Tryz.func33 z lendR fun cl aI be=>?_) z fun cv cz da i bf=>?_) T.tno
    ·have bg:=(p.trans aI)
     have bi:=RowF.mono VI.mono pr1 bg
     have bj:=RowF.slc be bi
     have bk:=Pt.mono VruleJudge.mono aG aI
     exact Judge_Dead_ok bk bj bc _
    obtain ⟨rfl,bm⟩:=bf
    refine Sl_ _ bm<|T.tgrow i<|Tm z z<|Tv z (V.ext z z)<|Tv z (V.ext z z)<|Ts z z (SX.two (XA.fr [0] Lr z) (XA.fr [0] Lr z)) (V.asg z) z ?_ T.tno
    refine Ts z z (SX.two (XA.fr [0] Lr z) (XA.fr [0] Lr z)) (V.asg z) z ?_ T.tno
    refine T.tnil (SX.two (XA.fr [0] Lr z) (XA.fr [0] Lr z))<|Th<|Sr<|Mv z<|Nt<|T.cH H z (fun H=>?_) (fun H=>?_)
    ·refine Sr<|Ag z<|Nt<|T.ret<|Tr<|T.sgR<|T.lvRet<|have X:=(p.trans i); have bn:=RowF.mono VI.mono pr1 X; have bo:=pr2.2.1 _ _ _ _ X hRa; ?_
     obtain ⟨rfl,rfl,rfl⟩:=inj3 H
     exact T.lvDone (L':=rowR 3 1 pv1 pcs1::(As ++ (La ++ L))) Tryz.results31 (Rv z) X (fun _ iv=>iv) ⟨_,La,z,z,bn,bo⟩
    refine T.skip<|Th<|Sr<|have N:=aq.mono i; Vv (V.ld0 shsearch2_24 z N z) ?_
    obtain ⟨c,bp,H⟩:=bnd H
    refine To (O.callS z (FnS.lend (val:=.int .i64 c) Tryz.func36 z lendR fun db bq br=>?_) z fun dc dd de q bs=>?_)
    ·have bt:=((p.trans i).trans bq)
     have bu:=RowF.mono VI.mono pr1 bt
     have bw:=RowF.slc br bu
     exact sl_IndexInt_ok bw bp _
    obtain ⟨rfl,bx⟩:=bs
    refine Sl_ _ bx<|To (O.alloc zesearch2_3 z z fun df=>To (O.stF (vs:=[.int .i64 c]) shsearch2_3 z z (j:=0) z z z z<|T.freeze fun dg r bA=>have Y:=AtC.of bA; Nt<|Sq<|Sr<|Vv (V.ld0 shsearch2_3 z Y z)<|Vv (V.lt z z)<|Nt<|T.cH H z (fun H=>?_) (fun H=>?_)))
    ·refine Sr<|Mv z<|have bB:=(q.trans r); have bC:=N.mono bB; Vv (V.ld0 shsearch2_24 z bC z)<|have P:=(((p.trans i).trans q).trans r); have bD:=RowF.mono VI.mono pr1 P; ?_
     obtain ⟨⟨di,dj⟩,bE,H⟩:=bnd H
     have bG:=CY65l.mono pr2 P
     have bI:=pr2.2.1 _ _ _ _ P hRa
     refine To (O.callY z z (CY65l.call bG bD bI bE As _) z fun dk dm dn bJ bK=>?_)
     obtain ⟨Z,aJ,rfl,bM,bN,bO⟩:=bK
     refine Sl_ (rowR 3 1 pv1 aJ::(As ++ (Z ++ L))) bM<|Ag z<|Nt<|T.ret<|Tr<|T.sgR<|T.lvRet ?_
     obtain ⟨rfl,rfl,rfl⟩:=inj3 H
     have bP:=(P.trans bJ)
     exact T.lvDone (L':=rowR 3 1 pv1 aJ::(As ++ (Z ++ L))) Tryz.results31 (Rv z) bP (fun _ iv=>iv) ⟨_,Z,z,z,bO,bN⟩
    refine T.skip<|Th<|Sr<|Vv (V.mkf z z)<|To (T.dfr z<|Nt<|Sq<|T.label<|Th<|Sq<|Sr<|Mv z<|Vv (V.nck z)<|Vv (V.fa fdsearch2_60_2 z)<|have aa:=((i.trans q).trans r); have aK:=ar.mono aa; Vv (V.ldf (k:=6) shsearch2_24 z aK z)<|have aM:=Slc.mono VI.mono al aa; Vv (V.lenS elsearch2_24 z aM)<|Mv z<|Nt ?_)
    obtain ⟨aN,bS,aO⟩:=bndK H
    refine T.cutK (α:=σ×(List Int)×(List HProp)×(List (List Value))) [] z (fun ⟨I,J,m,x⟩=>[(1,pv1)]) (fun ⟨I,J,m,x⟩=>rowR 3 1 pv1 x::(As ++ (m ++ L))) (fun ⟨I,J,m,x⟩ hh=>aN = (Sum.inl (I,J))∧R I hh m∧RowF (VI .i64) hh x J) ?_ ?_
    ·have H:=bS
     refine Bl<|have ab:=(((p.trans i).trans q).trans r); have bU:=pr2.2.1 _ _ _ _ ab hRa; have bV:=RowF.mono VI.mono pr1 ab; T.loopK (α:=Nat×σ×(List Int)×Int×(List HProp)×(List (List Value))) [0,2,4,9,35] z (fun ⟨y,e,f,d,b,a⟩=>[(1,pv1),(36,.int .i64 d)]) (fun ⟨y,e,f,d,b,a⟩=>rowR 3 1 pv1 a::(As ++ (b ++ L))) (fun ⟨y,e,f,d,b,a⟩ hh=>iter (hunt_walk_l0 (hunt_walk n) h1 yield4 c) y (e,f,d) = some aN∧R e hh b∧RowF (VI .i64) hh a f) (fun ⟨y,e,f,d,b,a⟩=>y) (FUEL,s0,part2,(0:Int),La,pcs1) ⟨z,z,trivial⟩ z ⟨H,bU,bV⟩ ?_
     rintro ⟨y,e,f,d,b,a⟩ dp A ⟨bW,ac,S⟩
     obtain ⟨bX,dq,rfl,H,ad⟩:=iter_go bW
     refine T.norm [1,36,0,2,4,9,35] z<|Sl_ (rowR 3 1 pv1 a::(As ++ (b ++ L))) z<|Sr<|Vv (V.lt z z)<|Nt<|Sq<|T.cH H z (fun H=>?_) (fun H=>?_)
     ·refine T.skip<|Th<|Sq ?_
      obtain ⟨bY,bZ,aP⟩:=bndK H
      refine T.cutK (α:=σ×(List Int)×(List HProp)×(List (List Value))) [0,2,4,9,35,36] z (fun ⟨B,C,s,u⟩=>[(1,pv1)]) (fun ⟨B,C,s,u⟩=>rowR 3 1 pv1 u::(As ++ (s ++ L))) (fun ⟨B,C,s,u⟩ hh=>bY = (Sum.inl (B,C))∧R B hh s∧RowF (VI .i64) hh u C) ?_ ?_
      ·have H:=bZ
       refine Bl<|Sr<|Mv z<|Ag z<|Nt<|Sq<|Sr<|have b0:=((q.trans r).trans A); have aS:=N.mono b0; Vv (V.ld0 shsearch2_24 z aS z)<|Vv (V.lenX elsearch2_24 z (j:=0) z S.len)<|Mv z<|Nt ?_
       obtain ⟨aU,b1,aV⟩:=bndK H
       refine T.cutK (α:=Unit) [0,1,2,4,9,10,35,36] z (fun _u=>[]) (fun _u=>rowR 3 1 pv1 a::(As ++ (b ++ L))) (fun _u hh=>aU = (Sum.inl ())) ?_ ?_
       ·have H:=b1
        refine Bl<|T.loopK (α:=Nat×Int) [0,1,2,4,9,10,35,36,39,40] z (fun ⟨D,E⟩=>[(41,.int .i64 E)]) (fun ⟨D,E⟩=>rowR 3 1 pv1 a::(As ++ (b ++ L))) (fun ⟨D,E⟩ hh=>iter (hunt_walk_l1 e f d) D E = some aU) (fun ⟨D,E⟩=>D) (FUEL,(0:Int)) ⟨z,trivial⟩ z H ?_
        rintro ⟨D,E⟩ dr K b2
        obtain ⟨b3,ds,rfl,H,ae⟩:=iter_go b2
        refine T.norm [41,0,1,2,4,9,10,35,36,39,40] z<|Sl_ (rowR 3 1 pv1 a::(As ++ (b ++ L))) z<|Sr<|Vv (V.lt z z)<|Nt<|Sq<|T.cH H z (fun H=>?_) (fun H=>?_)
        ·refine T.skip<|Th<|Sq<|Bl<|Sr ?_
         obtain ⟨dt,aW,H⟩:=bnd H
         have af:=RowF.mono VI.mono S K
         obtain ⟨du,b4,rfl⟩:=RowF.get af aW
         refine Vv (V.ixR elsearch2_24 z z (j:=0) z (RowF.bd af aW))<|Vv (V.ldR shsearch2_3 z (j:=0) z b4 z)<|Ag z<|Nt<|Sr<|Mv z<|Mv z<|Vv (V.eq z z)<|Nt<|T.cH H z (fun H=>?_) (fun H=>?_)
         ·refine T.exit<|T.blX z<|Te<|Te<|have H:=iterK_out H ae; T.blX z<|Te<|have H:=cutE H aV; Be<|Th<|have b5:=pr2.2.1 _ _ _ _ K ac; T.met (e,f,b,a) K ⟨(sinj H),b5,af⟩ (AllIn.app ⟨z,trivial⟩ ⟨z,z,z,z,z,z,trivial⟩) z
         refine T.skip<|Bn<|Th<|Rg ?_
         obtain ⟨b6,b7,H⟩:=bnd H
         refine Vv (V.addS z z b7)<|Mv z<|Nt<|T.again (b3,b6) K (Nat.lt_succ_self _) (iterK_in H ae) (AllIn.app ⟨z,trivial⟩ ⟨z,z,z,z,z,z,z,z,z,z,trivial⟩) z
        refine T.exit<|Te<|Te<|have H:=iterK_out H ae; Be<|Th<|T.met () K H (AllIn.app trivial ⟨z,z,z,z,z,z,z,z,trivial⟩) z
       rintro _ ag w b8
       have H:=cutE b8 aV
       refine T.norm [0,1,2,4,9,10,35,36] z<|Sl_ (rowR 3 1 pv1 a::(As ++ (b ++ L))) z<|Sr<|have U:=aS.mono w; Vv (V.ld0 shsearch2_24 z U z)<|have ai:=(A.trans w); have aj:=Y.mono ai; Vv (V.ld0 shsearch2_3 z aj z)<|Mv z ?_
       obtain ⟨dw,ak,H⟩:=bnd H
       have W:=RowF.mono VI.mono S w
       obtain ⟨dx,dy,rfl⟩:=RowF.get W ak
       refine Vv (V.ixR elsearch2_24 z z (j:=0) z (RowF.bd W ak)) ?_
       obtain ⟨b9,bh,H⟩:=bnd H
       refine To (O.stR shsearch2_3 z z (j:=0) z (RowF.bdN W ak) z<|have bl:RowF (VI .i64) ag (a.set c.toNat [.int .i64 d]) b9:=RowF.set W (show (VI .i64) ag [.int .i64 d] d from z) bh; Nt<|Sq<|Sr<|Mv z<|Vv (V.ld0 shsearch2_24 z U z)<|Mv z<|have aX:=((ab.trans A).trans w); have bv:=CY65l.mono pr2 aX; have bz:=pr2.2.1 _ _ _ _ w ac; have ca:=aK.mono ai; have o:=((aa.trans A).trans w); have cb:=Pt.mono VruleJudge.mono aG o; have cc:=Slc.mono VapiTable.mono a6 o; have cd:=Slc.mono VapiGuest.mono a7 o; have ce:=Slc.mono VapiTie.mono a8 o; have cf:=Slc.mono VI.mono a9 o; have cg:=Slc.mono VapiRule.mono ah o; have ci:=Slc.mono VI.mono aM ai; have cj:=Slc.mono VI.mono av o; have ck:=Slc.mono (VSl.mono (VSl.mono VI.mono)) az o; ?_)
       obtain ⟨⟨dA,dB,cm⟩,cn,H⟩:=bnd H
       refine To (O.callS z (self (Pt.mk ca (show Vsearchhunt ag [au,aw,ax,ay,aA,aB,aC,aD,aE] h1 from ⟨au,aw,ax,ay,aA,aB,aC,aD,aE,z,cb,cc,cd,ce,cf,cg,ci,cj,ck⟩)) bl bv bz cn As _) z fun dC am dD G co=>?_)
       obtain ⟨aY,an,rfl,cp,M,aZ⟩:=co
       refine Sl_ _ cp<|Vv (V.not z)<|Nt<|T.cH H z (fun H=>?_) (fun H=>?_)
       ·refine Sr<|Ag z<|Nt<|T.ret<|Tr<|Br<|Tr<|have H:=someT H aP; Tr<|have H:=iterK_out H ad; Br<|Tr<|have H:=cutE H aO; T.sgR<|T.lvRet<|have cq:=U.mono G; have cr:=aj.mono G; ?_
        obtain ⟨dE,cs,H⟩:=bnd H
        refine T.lvZ (hunt_walk_1_ok cq M cr (show (VI .i64) am [.int .i64 c] c from z) cs _) fun dG dI dJ a0 ct=>?_
        obtain ⟨cu,rfl,cw,cx⟩:=ct
        refine Sl_ _ cw<|have cy:=pr2.2.1 _ _ _ _ a0 aZ; ?_
        obtain ⟨rfl,rfl,rfl⟩:=inj3 H
        have cA:=((aX.trans G).trans a0)
        exact T.lvDone (L':=rowR 3 1 pv1 cu::(As ++ (an ++ L))) Tryz.results31 (Rv z) cA (fun _ iv=>iv) ⟨_,an,z,z,cx,cy⟩
       refine T.skip<|Th<|Rg<|have cB:=U.mono G; Vv (V.ld0 shsearch2_24 z cB z)<|have cC:=aj.mono G; Vv (V.ld0 shsearch2_3 z cC z) ?_
       obtain ⟨dK,ao,H⟩:=bnd H
       obtain ⟨dM,dN,rfl⟩:=RowF.get M ao
       refine Vv (V.ixR elsearch2_24 z z (j:=0) z (RowF.bd M ao)) ?_
       obtain ⟨a1,cD,H⟩:=bnd H
       refine To (O.stR shsearch2_3 z z (j:=0) z (RowF.bdN M ao) z<|have cE:RowF (VI .i64) am (aY.set c.toNat [.int .i64 (-1:Int)]) a1:=RowF.set M (show (VI .i64) am [.int .i64 (-1:Int)] (-1:Int) from z) cD; Ni<|Bn<|Th<|have cG:=(w.trans G); T.met (cm,a1,an,(aY.set c.toNat [.int .i64 (-1:Int)])) cG ⟨(sinj H),aZ,cE⟩ (AllIn.app ⟨z,trivial⟩ ⟨z,z,z,z,z,z,trivial⟩) z)
      rintro ⟨B,C,s,u⟩ dO cI ⟨cJ,cK,cM⟩
      have H:=cutE cJ aP
      refine T.norm [1,0,2,4,9,35,36] z<|Sl_ (rowR 3 1 pv1 u::(As ++ (s ++ L))) z<|Rg ?_
      obtain ⟨cN,cO,H⟩:=bnd H
      refine Vv (V.addS z z cO)<|Mv z<|Nt<|have cP:=(A.trans cI); T.again (bX,B,C,cN,s,u) cP (Nat.lt_succ_self _) ⟨(iterK_in H ad),cK,cM⟩ (AllIn.app ⟨z,z,trivial⟩ ⟨z,z,z,z,z,trivial⟩) z
     refine T.exit<|Te<|Te<|have H:=iterK_out H ad; Be<|Th<|T.met (e,f,b,a) A ⟨H,ac,S⟩ (AllIn.app ⟨z,trivial⟩ trivial) z
    rintro ⟨I,J,m,x⟩ cS ap ⟨cU,cV,cW⟩
    have H:=cutE cU aO
    refine T.norm [1] z<|Sl_ (rowR 3 1 pv1 x::(As ++ (m ++ L))) z<|Sr<|Ag z<|Nt<|T.ret<|T.sgR<|T.lvRet<|have cX:=((q.trans r).trans ap); have cY:=N.mono cX; have cZ:=Y.mono ap; ?_
    obtain ⟨dP,c0,H⟩:=bnd H
    refine T.lvZ (hunt_walk_1_ok cY cW cZ (show (VI .i64) cS [.int .i64 c] c from z) c0 _) fun dS dU dV a2 c1=>?_
    obtain ⟨c2,rfl,c3,c4⟩:=c1
    refine Sl_ _ c3<|have c5:=pr2.2.1 _ _ _ _ a2 cV; ?_
    obtain ⟨rfl,rfl,rfl⟩:=inj3 H
    have c6:=(((((p.trans i).trans q).trans r).trans ap).trans a2)
    exact T.lvDone (L':=rowR 3 1 pv1 c2::(As ++ (m ++ L))) Tryz.results31 (Rv z) c6 (fun _ iv=>iv) ⟨_,m,z,z,c4,c5⟩
theorem hunt_plans_1_ok {h:PH} {σ:Type} {R:σ→PH→List HProp→Prop} {pv0:Value} {yield1:σ→(List Int)→Option (σ×Bool)} (pr0:CY65l R h pv0 yield1) {s0:σ} {La:List HProp} (hRa:R s0 h La) {pp1:Addr} {pc1:List Value} {t2:searchhunt} (pa1:AtC h pp1 pc1) (pr1:(VPt Vsearchhunt) h pc1 t2) {pp2:Addr} {pc2:List Value} {t5:List Int} (pa2:AtC h pp2 pc2) (pr2:(VSl (VI .i64) 1) h pc2 t5) {q_s:σ} (H:hunt_plans_1 yield1 s0 t2 t5 = some q_s):∀ As L,FnS Tryz.prog 30 [pv0,.pointer (some pp1),.pointer (some pp2)] h ((As ++ (La ++ L))) (fun v h' L'=>∃ La',v = .tuple #[]∧L' = (As ++ (La' ++ L))∧R q_s h' La'):=by
 intro As L
 obtain ⟨u,rfl,c⟩:=pr1
 obtain ⟨w,rfl,d⟩:=pr2
 refine FnS.enter Tryz.func30 rfl Tryz.ntmps30 rfl<|T.drawF (t:=(.v 0 (.v 1 (.v 3 (.alt 2 (.alt 4 .done .no) .no))))) 6 0 0 rfl rfl search2mixed (by kernel_rfl) ?_
 refine Tv z (V.ld0 shsearch2_54 z pa1 z)<|Tv z (V.ld0 shsearch2_24 z pa2 z)<|Tm z z ?_
 obtain ⟨x,e,H⟩:=bnd H
 refine Tp z z (SX.two (XA.fr [] Lr z) (XA.fr [] Lr z)) (O.callS z (sl_CloneInt_ok d e _) z fun y A B a f=>?_) T.tno
 obtain ⟨C,g,i⟩:=f
 refine Sl_ _ g<|have j:=CY65l.mono pr0 a; have k:=pr0.2.1 _ _ _ _ a hRa; have m:=Pt.mono Vsearchhunt.mono c a; ?_
 obtain ⟨⟨D,E,G⟩,n,H⟩:=bnd H
 refine Tp z z (SX.two (XA.fr [] a z) (XA.fr [] a z)) (O.callS z (hunt_walk_ok _ m i j k n As _) z fun I J K b o=>?_) T.tno
 obtain ⟨M,p,rfl,q,N,r⟩:=o
 refine Sl_ _ q<|T.tnil (SX.two (XA.fr [] (a.trans b) z) (XA.fr [] (a.trans b) z))<|T.drop ?_
 obtain rfl:=Option.some.inj H
 have s:=(a.trans b)
 exact T.end0 Tryz.results30 s ⟨p,z,z,r⟩
theorem hunt_plans_ok {h:PH} {pv0:Value} {h1:searchhunt} (pr0:Pt Vsearchhunt h pv0 h1) {pv1:Value} {part2:List Int} (pr1:Slc (VI .i64) 1 h pv1 part2) {r_0:searchhunt×(List Int)} (H:hunt_plans h1 part2 = some r_0):∀ L,FnS Tryz.prog 14 [pv0,pv1] h (L) (fun v h' L'=>∃ p0_1 v0_3 p0_5 v0_7,v = .func (.func 30) #[] #[.pointer (some p0_1),.pointer (some p0_5)]∧L' = L∧AtC h' p0_1 [v0_3]∧Pt Vsearchhunt h' v0_3 r_0.1∧AtC h' p0_5 [v0_7]∧Slc (VI .i64) 1 h' v0_7 r_0.2):=by
 intro L
 refine FnS.enter Tryz.func14 z Tryz.ntmps14 z<|Sr<|To (O.boxF z (Pt.cells pr0) z fun k m b e=>have c:=Slc.mono VI.mono pr1 b; To (O.boxF z (Slc.cells c) z fun n o a f=>Ag z<|Nt<|Sr<|Vv (V.mkf z z)<|Ag z<|Nt<|T.ret<|have g:=e.mono a; have d:=(b.trans a); have i:=Pt.mono Vsearchhunt.mono pr0 d; have j:=Slc.mono VI.mono c a; ?_))
 obtain rfl:=Option.some.inj H
 exact T.retL Tryz.results14 (Rv z) d ⟨_,_,_,_,z,z,g,i,f,j⟩
theorem reader_fail_ok {h:PH} {pb0:Nat} {r1:searchreader} {v0_1:Value} {v0_3:Value} {v0_5:Value} {css0_6:List (List Value)} (hP0_2:Pt Vsearchhunt h v0_1 r1.fhunt) (hS0_4:Slc VapiStep 2 h v0_3 r1.fsteps) (hR0_7:RowF (VI .i64) h css0_6 r1.fpart) {e2:Int} {o_:(Int×(List Int))⊕searchwrong} (H:reader_fail r1 e2 = some o_):∀ L,FnE Tryz.prog 22 [.pointer (some ⟨pb0,0,none⟩),.int .i64 e2] h (blk pb0 (.cells [v0_1,.int .i64 r1.fbound,v0_3,.int .i64 r1.fat,v0_5].toArray 76)::rowR 3 1 v0_5 css0_6::L) (PE (fun q_0 v h' L'=>∃ vl0_1 cssl0_2,v = .tuple #[]∧L' = blk pb0 (.cells [v0_1,.int .i64 r1.fbound,v0_3,.int .i64 q_0.1,vl0_1].toArray 76)::rowR 3 1 vl0_1 cssl0_2::L∧RowF (VI .i64) h' cssl0_2 q_0.2) (fun x_=>.iface 73 (.agg #[.int .i64 x_.fat,.int .i64 x_.fe])) L o_):=by
 intro L
 refine FnE.enter Tryz.func22 z Tryz.ntmps22 z<|Rg<|Mv z<|Vv (V.nck z)<|Vv (V.fa fdsearch2_76_3 z)<|Vv (V.ldO (k:=3) shsearch2_3 z (j:=0) z z)<|Mv z<|Vv (V.bld (xs:=[(0,.tmp 7),(1,.tmp 8)]) (cs:=[_,_]) blsearch2_73 bosearch2_73 z (Fills.cons z z z (Fills.cons z z z Fills.nil)))<|Vv (V.mki shsearch2_73 z)<|To (O.panic z<|T.drop<|T.drop ?_)
 obtain rfl:=Option.some.inj H
 exact T.panE (P:=Tryz.prog) (fn:=Tryz.f22) Lr (PE.pan z)
theorem reader_node_ok (n:Nat):∀ {h:PH} {pb0:Nat} {r1:searchreader} {v0_1:Value} {v0_3:Value} {v0_5:Value} {css0_6:List (List Value)} (hP0_2:Pt Vsearchhunt h v0_1 r1.fhunt) (hS0_4:Slc VapiStep 2 h v0_3 r1.fsteps) (hR0_7:RowF (VI .i64) h css0_6 r1.fpart) {last2:Int} {o_:(Int×(List Int))⊕searchwrong} (H:reader_node n r1 last2 = some o_) (L:List HProp),FnE Tryz.prog 21 [.pointer (some ⟨pb0,0,none⟩),.int .i64 last2] h (blk pb0 (.cells [v0_1,.int .i64 r1.fbound,v0_3,.int .i64 r1.fat,v0_5].toArray 76)::rowR 3 1 v0_5 css0_6::L) (PE (fun q_0 v h' L'=>∃ vl0_1 cssl0_2,v = .tuple #[]∧L' = blk pb0 (.cells [v0_1,.int .i64 r1.fbound,v0_3,.int .i64 q_0.1,vl0_1].toArray 76)::rowR 3 1 vl0_1 cssl0_2::L∧RowF (VI .i64) h' cssl0_2 q_0.2) (fun x_=>.iface 73 (.agg #[.int .i64 x_.fat,.int .i64 x_.fe])) L o_):=by
  induction n with
  | zero => intros; rename_i H _; cases H
  | succ n self =>
    intro h pb0 r1 v0_1 v0_3 v0_5 css0_6 hP0_2 hS0_4 hR0_7 last2 o_ H L
    refine FnE.enter Tryz.func21 rfl Tryz.ntmps21 rfl<|Sq<|Sq<|T.drawF (t:=(.v 0 (.v 1 (.v 2 (.v 3 (.v 4 (.v 5 (.v 6 (.v 7 (.v 8 (.v 9 .done))))))))))) 11 1 1 rfl rfl search2mixed (by kernel_rfl) ?_
    refine Tm z z<|Tv z (V.nck z)<|Tv z (V.fa fdsearch2_76_3 z)<|Tv z (Val.XA fun _ _ _=>V.ldO (k:=3) shsearch2_3 z (j:=0) z z)<|Tm z z<|Tv z (V.nck z)<|Tv z (V.fa fdsearch2_76_2 z)<|Tv z (Val.XA fun _ _ _=>V.ldO (k:=2) shsearch2_46 z (j:=0) z z)<|Tv z (V.lenS elsearch2_46 z hS0_4)<|Tv z (V.eq z z)<|T.tnil (SX.two (XA.fr [0] Lr z) (XA.fr [0] Lr z))<|Th<|T.cH H z (fun H=>?_) (fun H=>?_)
    ·refine Rg<|Mv z ?_
     obtain ⟨a6,a7,H⟩:=bnd H
     rcases a6 with c3 | c4
     rotate_left
     ·refine To (O.callP z (reader_fail_ok (r1:=(searchreader.mk r1.fhunt r1.fbound r1.fsteps r1.fat r1.fpart)) hP0_2 hS0_4 hR0_7 a7 _) (fun _ _ _ q=>q) fun c5 a8=>?_)
      obtain rfl:=Option.some.inj H
      exact T.panE (P:=Tryz.prog) (fn:=Tryz.f21) a8 (PE.pan z)
     exact dead H
    refine T.skip<|Th<|Sq<|T.drawF (t:=(.v 0 (.v 1 (.v 2 (.v 3 (.v 4 (.v 5 (.v 6 (.v 7 (.v 8 (.v 9 (.alt 10 (.alt 11 .done .no) .no)))))))))))) 13 1 1 rfl rfl search2mixed (by kernel_rfl) ?_
    refine Tm z z<|Tv z (V.nck z)<|Tv z (V.fa fdsearch2_76_2 z)<|Tv z (Val.XA fun _ _ _=>V.ldO (k:=2) shsearch2_46 z (j:=0) z z)<|Tm z z<|Tv z (V.nck z)<|Tv z (V.fa fdsearch2_76_3 z)<|Tv z (Val.XA fun _ _ _=>V.ldO (k:=3) shsearch2_3 z (j:=0) z z) ?_
    obtain ⟨p,an,H⟩:=bnd H
    obtain ⟨c6,a9,rfl⟩:=Slc.at hS0_4 an
    refine Tv z (V.ix elsearch2_46 rfl rfl hS0_4 (getI_bd an))<|Tv z (V.ldS rfl a9 (by exact shsearch2_52)) ?_
    refine Tp z z (SX.two (XA.fr [0] Lr z) (XA.fr [0] Lr z)) (O.alloc zesearch2_52 z z fun c7=>?_) T.tno
    refine Tp z z (SX.two (XA.fr [1] Lr z) (XA.fr [1] Lr z)) (O.stF (vs:=[.int .u8 p.fKind,.int .i64 p.fN]) shsearch2_52 z z (j:=0) z z z z ?_) T.tno
    refine T.fl ?_
    refine T.freeze fun c8 a ah=>have d:=AtC.of ah; T.tnil (SX.two (XA.fr [0] a z) (XA.fr [0] a z))<|Th<|Sq<|Sr<|Vv (V.fa fdsearch2_52_0 z)<|Vv (V.ldf (k:=0) shsearch2_50 z d z)<|Nt<|Bl<|Sr<|Vv (V.eq z z)<|Ag z<|Nt<|T.cH H z (fun H=>?_) (fun H=>?_)
    ·refine Sq<|Sq<|T.drawF (t:=(.v 0 (.v 1 (.v 2 (.v 3 (.v 4 (.v 5 (.v 6 (.v 7 (.v 8 (.v 9 (.v 10 (.v 11 (.v 12 (.v 13 (.v 14 (.v 15 (.v 16 (.v 17 (.v 18 (.v 19 (.v 20 (.v 21 (.v 22 (.v 23 .done))))))))))))))))))))))))) 25 2 2 rfl rfl search2mixed (by kernel_rfl) ?_
     refine Tv z (V.fa fdsearch2_52_1 z)<|Tv z (V.ldf (k:=1) shsearch2_3 z d z)<|Tv z (V.lt z z)<|Tm z z<|T.bH 37 H z (fun H=>?_) (fun H=>?_)
     ·exact dead H
     refine Tv z (V.fa fdsearch2_52_1 z)<|Tv z (V.ldf (k:=1) shsearch2_3 z d z)<|Tm z z<|Tv z (V.nck z)<|Tv z (V.fa fdsearch2_76_4 z)<|Tv z (Val.XA fun _ _ _=>V.ldO (k:=4) shsearch2_24 z (j:=0) z z)<|have C:=RowF.mono VI.mono hR0_7 a; Tv z (Val.XA fun _ _ _=>V.lenX elsearch2_24 z (j:=1) z C.len)<|Tv z (V.ge z z)<|Tv z (V.pkF z z)<|Tm z z<|T.bH 47 H z (fun H=>?_) (fun H=>?_)
     ·exact dead H
     refine Tm z z<|Tv z (V.nck z)<|Tv z (V.fa fdsearch2_76_4 z)<|Tv z (Val.XA fun _ _ _=>V.ldO (k:=4) shsearch2_24 z (j:=0) z z)<|Tv z (V.fa fdsearch2_52_1 z)<|Tv z (V.ldf (k:=1) shsearch2_3 z d z) ?_
     obtain ⟨c9,ao,H⟩:=bnd H
     obtain ⟨ch,al,rfl⟩:=RowF.get C ao
     refine Tv z (Val.XA fun _ _ _=>V.ixR elsearch2_24 z z (j:=1) z (RowF.bd C ao))<|Tv z (Val.XA fun _ _ _=>V.ldR shsearch2_3 z (j:=1) z al z)<|Tv z (V.ge z z)<|Tv z (V.pkF z z)<|T.tnil (SX.two (XA.fr [1,1] Lr z) (XA.fr [1,1] Lr z))<|Th<|T.cH H z (fun H=>?_) (fun H=>?_)
     ·exact dead H
     refine T.skip<|Th<|Sq<|T.norm [0,4] z<|Sl_ (blk pb0 (.cells [v0_1,.int .i64 r1.fbound,v0_3,.int .i64 r1.fat,v0_5].toArray 76)::rowR 3 1 v0_5 css0_6::L) z<|Rg<|Mv z<|Vv (V.nck z)<|Vv (V.fa fdsearch2_76_3 z)<|Vv (V.ldO (k:=3) shsearch2_3 z (j:=0) z z) ?_
     obtain ⟨ap,av,H⟩:=bnd H
     refine Vv (V.addS z z av)<|Vv (V.nck z)<|Vv (V.fa fdsearch2_76_3 z)<|To (O.st (vs:=[.int .i64 ap]) (k:=3) shsearch2_3 z z (j:=0) z z z<|Nt<|Sq<|Sr<|Mv z<|Vv (V.nck z)<|Vv (V.fa fdsearch2_76_0 z)<|Vv (V.ldO (k:=0) shsearch2_54 z (j:=0) z z)<|have az:=Pt.mono Vsearchhunt.mono hP0_2 a; have ba:=az; ?_)
     obtain ⟨y,_,rfl,aq,⟨D,E,G,I,J,K,M,N,S,rfl,bb,bc,be,bf,bg,bi,ar,bj,bk⟩⟩:=ba
     refine Vv (V.nck z)<|Vv (V.fa fdsearch2_60_2 z)<|Vv (V.ldf (k:=6) shsearch2_24 z aq z)<|Vv (V.lenS elsearch2_24 z ar)<|Mv z<|Nt ?_
     obtain ⟨au,bm,aw⟩:=bndK H
     refine T.cutK (α:=Int×(List Int)×Value×(List (List Value))) [0] z (fun ⟨s,A,r,u⟩=>[]) (fun ⟨s,A,r,u⟩=>blk pb0 (.cells [.pointer (some y),.int .i64 r1.fbound,v0_3,.int .i64 s,r].toArray 76)::rowR 3 1 r u::L) (fun ⟨s,A,r,u⟩ hh=>au = (Sum.inl (s,A))∧RowF (VI .i64) hh u A) ?_ ?_
     ·have H:=bm
      refine Bl<|T.loopK (α:=Nat×Int×(List Int)×Int×Value×(List (List Value))) [0,4,74] z (fun ⟨w,c,o,m,e,f⟩=>[(75,.int .i64 m)]) (fun ⟨w,c,o,m,e,f⟩=>blk pb0 (.cells [.pointer (some y),.int .i64 r1.fbound,v0_3,.int .i64 c,e].toArray 76)::rowR 3 1 e f::L) (fun ⟨w,c,o,m,e,f⟩ hh=>iter (reader_node_l0 (reader_node n) r1 p) w (c,o,m) = some au∧RowF (VI .i64) hh f o) (fun ⟨w,c,o,m,e,f⟩=>w) (FUEL,ap,r1.fpart,(0:Int),v0_5,css0_6) ⟨z,trivial⟩ z ⟨H,C⟩ ?_
      rintro ⟨w,c,o,m,e,f⟩ cl U ⟨bn,W⟩
      obtain ⟨ax,cv,rfl,H,X⟩:=iter_go bn
      refine T.norm [75,0,4,74] z<|Sl_ (blk pb0 (.cells [.pointer (some y),.int .i64 r1.fbound,v0_3,.int .i64 c,e].toArray 76)::rowR 3 1 e f::L) z<|Sr<|Vv (V.lt z z)<|Nt<|Sq<|T.cH H z (fun H=>?_) (fun H=>?_)
      ·refine T.skip<|Th<|Sq<|Bl<|Sr<|Mv z<|Ag z<|Nt<|Sr<|Mv z<|Vv (V.nck z)<|Vv (V.fa fdsearch2_76_4 z)<|Vv (V.ldO (k:=4) shsearch2_24 z (j:=0) z z)<|Mv z<|Fr_ 1 z ?_
       obtain ⟨bo,bp,H⟩:=bnd H
       refine To (O.callS z (FnS.lend (val:=.bool bo) Tryz.func37 z lendR fun cz bq br=>?_) z fun da Y db B bs=>?_)
       ·have bt:=RowF.mono VI.mono W bq
        have bu:=RowF.slc br bt
        exact sl_ContainsInt_ok bu bp _
       obtain ⟨rfl,bw⟩:=bs
       refine Sl_ _ bw<|Vv (V.not z)<|Nt<|T.cH H z (fun H=>?_) (fun H=>?_)
       ·refine Sq<|Fr_ 1 z<|T.drawF (t:=(.v 0 (.v 1 (.v 2 (.v 3 (.v 4 (.v 5 (.v 6 (.x 7 (.alt 8 .done .no)))))))))) 8 2 1 rfl rfl search2mixed (by kernel_rfl) ?_
        refine Tm z z<|Tv z (V.nck z)<|Tv z (V.fa fdsearch2_76_4 z)<|Tv z (Val.XA fun _ _ _=>V.ldO (k:=4) shsearch2_24 z (j:=0) z z)<|Tv z (V.fa fdsearch2_52_1 z)<|have b:=(U.trans B); have ac:=d.mono b; Tv z (V.ldf (k:=1) shsearch2_3 z ac z)<|Tm z z ?_
        obtain ⟨dc,ad,H⟩:=bnd H
        have Z:=RowF.mono VI.mono W B
        obtain ⟨dd,de,rfl⟩:=RowF.get Z ad
        refine T.tx z z (Val.XA fun _ _ _=>V.ixR elsearch2_24 z z (j:=1) z (RowF.bd Z ad)) z Calm.i ?_
        obtain ⟨ae,bx,H⟩:=bnd H
        refine Tp z z (SX.two (XA.fr [0] Lr z) (XA.fr [1,1] Lr z)) (O.stR shsearch2_3 z z (j:=1) z (RowF.bdN Z ad) z ?_) T.tno
        have ay:RowF (VI .i64) Y (f.set p.fN.toNat [.int .i64 m]) ae:=RowF.set Z (show (VI .i64) Y [.int .i64 m] m from z) bx
        refine T.tnil (SX.one (XA.fr [1] Lr z) z)<|Th<|Sr<|Mv z<|Vv (V.fa fdsearch2_52_1 z)<|Vv (V.ldf (k:=1) shsearch2_3 z ac z)<|have aA:=aq.mono b; have aB:=Pt.mono VruleJudge.mono bb b; have aC:=Slc.mono VapiTable.mono bc b; have aD:=Slc.mono VapiGuest.mono be b; have aE:=Slc.mono VapiTie.mono bf b; have aG:=Slc.mono VI.mono bg b; have aI:=Slc.mono VapiRule.mono bi b; have aJ:=Slc.mono VI.mono ar b; have aK:=Slc.mono VI.mono bj b; have aM:=Slc.mono (VSl.mono (VSl.mono VI.mono)) bk b; have aN:=((a.trans U).trans B); have aO:=Slc.mono VapiStep.mono hS0_4 aN; Fr_ 1 z ?_
        obtain ⟨bA,aP,H⟩:=bnd H
        rcases bA with aS | df
        rotate_left
        ·refine To (O.callP z (self (r1:=(searchreader.mk r1.fhunt r1.fbound r1.fsteps c ae)) (Pt.mk aA (show Vsearchhunt Y [D,E,G,I,J,K,M,N,S] r1.fhunt from ⟨D,E,G,I,J,K,M,N,S,z,aB,aC,aD,aE,aG,aI,aJ,aK,aM⟩)) aO ay aP _) (fun _ _ _ q=>q) fun dg bB=>have H:=iterK_out H X; have H:=cutE H aw; ?_)
         obtain rfl:=Option.some.inj H
         have bC:=(aN.trans bB)
         exact T.panE (P:=Tryz.prog) (fn:=Tryz.f21) bC (PE.pan z)
        refine To (O.callS z (FnE.toS (self (r1:=(searchreader.mk r1.fhunt r1.fbound r1.fsteps c ae)) (Pt.mk aA (show Vsearchhunt Y [D,E,G,I,J,K,M,N,S] r1.fhunt from ⟨D,E,G,I,J,K,M,N,S,z,aB,aC,aD,aE,aG,aI,aJ,aK,aM⟩)) aO ay aP _) fun _ _ _ q=>q) z fun di aU dj aV bD=>?_)
        obtain ⟨af,ag,rfl,bE,aa⟩:=bD
        refine Sl_ _ bE<|Nt<|T.drawF (t:=(.v 0 (.v 1 (.v 2 (.v 3 (.v 4 (.v 5 (.x 6 (.alt 7 .done .no))))))))) 7 2 1 rfl rfl search2mixed (by kernel_rfl) ?_
        refine Tm z z<|Tv z (V.nck z)<|Tv z (V.fa fdsearch2_76_4 z)<|Tv z (Val.XA fun _ _ _=>V.ldO (k:=4) shsearch2_24 z (j:=0) z z)<|Tv z (V.fa fdsearch2_52_1 z)<|have bG:=ac.mono aV; Tv z (V.ldf (k:=1) shsearch2_3 z bG z) ?_
        obtain ⟨dk,ai,H⟩:=bnd H
        obtain ⟨dm,dn,rfl⟩:=RowF.get aa ai
        refine T.tx z z (Val.XA fun _ _ _=>V.ixR elsearch2_24 z z (j:=1) z (RowF.bd aa ai)) z Calm.i ?_
        obtain ⟨aW,bI,H⟩:=bnd H
        refine Tp z z (SX.two (XA.fr [0] Lr z) (XA.fr [1,1] Lr z)) (O.stR shsearch2_3 z z (j:=1) z (RowF.bdN aa ai) z ?_) T.tno
        have bJ:RowF (VI .i64) aU (ag.set p.fN.toNat [.int .i64 (-1:Int)]) aW:=RowF.set aa (show (VI .i64) aU [.int .i64 (-1:Int)] (-1:Int) from z) bI
        refine T.tnil (SX.one (XA.fr [1] Lr z) z)<|Bn<|Th<|T.norm [0,4,74,75] z<|Sl_ (rowR 3 1 af (ag.set p.fN.toNat [.int .i64 (-1:Int)])::blk pb0 (.cells [.pointer (some y),.int .i64 r1.fbound,v0_3,.int .i64 aS.1,af].toArray 76)::L) z<|Rg ?_
        obtain ⟨bK,bM,H⟩:=bnd H
        refine Vv (V.addS z z bM)<|Mv z<|Nt<|Fr_ 1 z<|have bN:=(b.trans aV); T.again (ax,aS.1,aW,bK,af,(ag.set p.fN.toNat [.int .i64 (-1:Int)])) bN (Nat.lt_succ_self _) ⟨(iterK_in H X),bJ⟩ (AllIn.app ⟨z,trivial⟩ ⟨z,z,z,trivial⟩) z
       refine T.skip<|Bn<|Th<|Rg ?_
       obtain ⟨bO,bP,H⟩:=bnd H
       refine Vv (V.addS z z bP)<|Mv z<|Nt<|have bS:=RowF.mono VI.mono W B; Fr_ 1 z<|have bU:=(U.trans B); T.again (ax,c,o,bO,e,f) bU (Nat.lt_succ_self _) ⟨(iterK_in H X),bS⟩ (AllIn.app ⟨z,trivial⟩ ⟨z,z,z,trivial⟩) z
      refine T.exit<|Te<|Te<|have H:=iterK_out H X; Be<|Th<|T.met (c,o,e,f) U ⟨H,W⟩ (AllIn.app trivial ⟨z,trivial⟩) z
     rintro ⟨s,A,r,u⟩ dp bV ⟨bW,bX⟩
     have H:=cutE bW aw
     refine T.norm [0] z<|Sl_ (blk pb0 (.cells [.pointer (some y),.int .i64 r1.fbound,v0_3,.int .i64 s,r].toArray 76)::rowR 3 1 r u::L) z<|T.ret<|Br<|Tr ?_
     obtain rfl:=Option.some.inj H
     have bY:=(a.trans bV)
     exact T.retE0 Tryz.results21 bY (PE.ret ⟨_,_,z,z,bX⟩)
    refine Sr<|Vv (V.eq z z)<|Ag z<|Nt<|T.cH H z (fun H=>?_) (fun H=>?_)
    ·refine Sq<|T.drawF (t:=(.v 0 (.v 1 (.v 2 (.v 3 (.v 4 (.v 5 (.v 6 (.v 7 (.v 8 (.v 9 (.v 10 (.v 11 (.v 12 (.v 13 (.v 14 (.v 15 (.v 16 (.v 17 (.v 18 (.v 19 (.v 20 (.v 21 (.v 22 (.v 23 (.v 24 (.v 25 (.v 26 (.v 27 (.v 28 (.v 29 (.v 30 (.v 31 (.v 32 (.v 33 (.v 34 (.v 35 (.v 36 (.v 37 (.v 38 (.v 39 (.v 40 (.v 41 (.v 42 (.v 43 (.v 44 (.v 45 (.v 46 (.alt 47 (.g (.v 48 (.v 49 .done))) .no))))))))))))))))))))))))))))))))))))))))))))))))) 51 2 2 rfl rfl search2mixed (by kernel_rfl) ?_
     refine Tv z (V.fa fdsearch2_52_1 z)<|Tv z (V.ldf (k:=1) shsearch2_3 z d z)<|Tv z (V.lt z z)<|Tm z z<|T.bH 110 H z (fun H=>?_) (fun H=>?_)
     ·exact dead H
     refine Tv z (V.fa fdsearch2_52_1 z)<|Tv z (V.ldf (k:=1) shsearch2_3 z d z)<|Tm z z<|Tv z (V.nck z)<|Tv z (V.fa fdsearch2_76_0 z)<|Tv z (Val.XA fun _ _ _=>V.ldO (k:=0) shsearch2_54 z (j:=0) z z)<|have bZ:=Pt.mono Vsearchhunt.mono hP0_2 a; have b0:=bZ; ?_
     obtain ⟨b1,_,rfl,aj,⟨dq,dr,ds,dt,du,dw,dx,dy,dA,rfl,b2,dB,dC,dD,dE,ak,dG,dI,dJ⟩⟩:=b0
     refine Tv z (V.nck z)<|Tv z (V.fa fdsearch2_60_1 z)<|Tv z (V.fa fdsearch2_32_4 z)<|Tv z (V.ldf (k:=5) shsearch2_30 z aj z)<|Tv z (V.lenS elsearch2_30 z ak)<|Tv z (V.ge z z)<|Tv z (V.pkF z z)<|Tm z z<|T.bH 124 H z (fun H=>?_) (fun H=>?_)
     ·exact dead H
     refine Tm z z<|Tv z (V.nck z)<|Tv z (V.fa fdsearch2_76_0 z)<|Tv z (Val.XA fun _ _ _=>V.ldO (k:=0) shsearch2_54 z (j:=0) z z)<|Tv z (V.nck z)<|Tv z (V.fa fdsearch2_60_1 z)<|Tv z (V.fa fdsearch2_32_4 z)<|Tv z (V.ldf (k:=5) shsearch2_30 z aj z)<|Tv z (V.fa fdsearch2_52_1 z)<|Tv z (V.ldf (k:=1) shsearch2_3 z d z) ?_
     obtain ⟨dK,aX,H⟩:=bnd H
     obtain ⟨dM,b3,rfl⟩:=Slc.at ak aX
     refine Tv z (V.ix elsearch2_30 z z ak (getI_bd aX))<|Tv z (V.fa fdsearch2_41_1 z)<|Tv z (V.ldf (k:=1) shsearch2_3 z b3 z)<|Tv z (V.gt z z)<|Tv z (V.pkF z z)<|Tm z z<|T.bH 140 H z (fun H=>?_) (fun H=>?_)
     ·exact dead H
     refine Tm z z<|Tv z (V.nck z)<|Tv z (V.fa fdsearch2_76_0 z)<|Tv z (Val.XA fun _ _ _=>V.ldO (k:=0) shsearch2_54 z (j:=0) z z)<|Tv z (V.nck z)<|Tv z (V.fa fdsearch2_60_0 z)<|Tv z (V.ldf (k:=0) shsearch2_57 z aj z)<|Tm z z<|Tv z (V.nck z)<|Tv z (V.fa fdsearch2_76_4 z)<|Tv z (Val.XA fun _ _ _=>V.ldO (k:=4) shsearch2_24 z (j:=0) z z)<|Tv z (V.fa fdsearch2_52_1 z)<|Tv z (V.ldf (k:=1) shsearch2_3 z d z)<|Fr_ 1 z ?_
     obtain ⟨b4,b5,H⟩:=bnd H
     refine Tp z z (SX.two (XA.fr [0,1] Lr z) (XA.fr [0,1] Lr z)) (O.callS z (FnS.lend (val:=.int .i64 b4) Tryz.func43 z lendR fun dN aY b6=>?_) z fun dO dP dS aZ b7=>?_) T.tno
     ·have b8:=(a.trans aY)
      have b9:=RowF.mono VI.mono hR0_7 b8
      have bh:=RowF.slc b6 b9
      have bl:=Pt.mono VruleJudge.mono b2 aY
      exact Judge_Least_ok bl bh b5 _
     obtain ⟨rfl,bv⟩:=b7
     refine Sl_ _ bv<|T.tgrow aZ<|Tv z (V.eq z z)<|Tv z (V.pkF z z)<|T.tnil (SX.two (XA.fr [0,1] Lr z) (XA.fr [0,1] Lr z))<|Th<|T.cH H z (fun H=>?_) (fun H=>?_)
     ·exact dead H
     refine T.skip<|Bn<|Th<|T.norm [0] z<|Sl_ (rowR 3 1 v0_5 css0_6::blk pb0 (.cells [.pointer (some b1),.int .i64 r1.fbound,v0_3,.int .i64 r1.fat,v0_5].toArray 76)::L) z<|Rg<|Mv z<|Vv (V.nck z)<|Vv (V.fa fdsearch2_76_3 z)<|Vv (V.ldO (k:=3) shsearch2_3 z (j:=1) z z) ?_
     obtain ⟨bz,ca,H⟩:=bnd H
     refine Vv (V.addS z z ca)<|Vv (V.nck z)<|Vv (V.fa fdsearch2_76_3 z)<|To (O.st (vs:=[.int .i64 bz]) (k:=3) shsearch2_3 z z (j:=1) z z z<|Ni<|have a0:=(a.trans aZ); have cb:=RowF.mono VI.mono hR0_7 a0; ?_)
     obtain rfl:=Option.some.inj H
     exact T.endE0 Tryz.results21 a0 (PE.ret ⟨_,_,z,z,cb⟩)
    refine Sr<|Vv (V.eq z z)<|Ag z<|Nt<|T.cH H z (fun H=>?_) (fun H=>?_)
    ·refine Sq<|T.drawF (t:=(.v 0 (.v 1 (.v 2 (.v 3 (.v 4 (.v 5 (.v 6 (.v 7 (.v 8 (.v 9 (.v 10 (.v 11 (.v 12 (.v 13 (.v 14 (.v 15 (.v 16 (.v 18 (.v 19 (.v 20 (.v 21 (.alt 17 (.g (.v 22 (.v 23 .done))) .no))))))))))))))))))))))) 25 2 2 rfl rfl search2mixed (by kernel_rfl) ?_
     refine Tm z z<|Tv z (V.nck z)<|Tv z (V.fa fdsearch2_76_1 z)<|Tv z (Val.XA fun _ _ _=>V.ldO (k:=1) shsearch2_3 z (j:=0) z z)<|Tv z (V.lt z z)<|Tm z z<|T.bH 166 H z (fun H=>?_) (fun H=>?_)
     ·exact dead H
     refine Tm z z<|Tv z (V.nck z)<|Tv z (V.fa fdsearch2_76_0 z)<|Tv z (Val.XA fun _ _ _=>V.ldO (k:=0) shsearch2_54 z (j:=0) z z)<|have cc:=Pt.mono Vsearchhunt.mono hP0_2 a; have cd:=cc; ?_
     obtain ⟨ce,_,rfl,cf,⟨dU,dV,dW,dX,dY,dZ,d0,d1,d2,rfl,cg,d3,d4,d5,d6,d7,d8,d9,dh⟩⟩:=cd
     refine Tv z (V.nck z)<|Tv z (V.fa fdsearch2_60_0 z)<|Tv z (V.ldf (k:=0) shsearch2_57 z cf z)<|Tm z z<|Tv z (V.nck z)<|Tv z (V.fa fdsearch2_76_4 z)<|Tv z (Val.XA fun _ _ _=>V.ldO (k:=4) shsearch2_24 z (j:=0) z z)<|Tm z z<|Tv z (V.nck z)<|Tv z (V.fa fdsearch2_76_1 z)<|Tv z (Val.XA fun _ _ _=>V.ldO (k:=1) shsearch2_3 z (j:=0) z z)<|Fr_ 1 z ?_
     obtain ⟨ci,cj,H⟩:=bnd H
     refine Tp z z (SX.two (XA.fr [0,1] Lr z) (XA.fr [0,1] Lr z)) (O.callS z (FnS.lend (val:=.int .i64 ci) Tryz.func35 z lendR fun dl a1 ck=>?_) z fun dv dz ea a2 cm=>?_) T.tno
     ·have cn:=(a.trans a1)
      have co:=RowF.mono VI.mono hR0_7 cn
      have cp:=RowF.slc ck co
      have cq:=Pt.mono VruleJudge.mono cg a1
      exact Judge_Floor_ok cq cp cj _
     obtain ⟨rfl,cr⟩:=cm
     refine Sl_ _ cr<|T.tgrow a2<|Tv z (V.lt z z)<|Tv z (V.pkF z z)<|T.tnil (SX.two (XA.fr [0,1] Lr z) (XA.fr [0,1] Lr z))<|Th<|T.cH H z (fun H=>?_) (fun H=>?_)
     ·exact dead H
     refine T.skip<|Bn<|Th<|T.norm [0] z<|Sl_ (rowR 3 1 v0_5 css0_6::blk pb0 (.cells [.pointer (some ce),.int .i64 r1.fbound,v0_3,.int .i64 r1.fat,v0_5].toArray 76)::L) z<|Rg<|Mv z<|Vv (V.nck z)<|Vv (V.fa fdsearch2_76_3 z)<|Vv (V.ldO (k:=3) shsearch2_3 z (j:=1) z z) ?_
     obtain ⟨cs,ct,H⟩:=bnd H
     refine Vv (V.addS z z ct)<|Vv (V.nck z)<|Vv (V.fa fdsearch2_76_3 z)<|To (O.st (vs:=[.int .i64 cs]) (k:=3) shsearch2_3 z z (j:=1) z z z<|Ni<|have a3:=(a.trans a2); have cu:=RowF.mono VI.mono hR0_7 a3; ?_)
     obtain rfl:=Option.some.inj H
     exact T.endE0 Tryz.results21 a3 (PE.ret ⟨_,_,z,z,cu⟩)
    refine Sr<|Vv (V.eq z z)<|Ag z<|Nt<|T.cH H z (fun H=>?_) (fun H=>?_)
    ·refine Sq<|T.norm [0,1,4] rfl<|Sl_ (blk pb0 (.cells [v0_1,.int .i64 r1.fbound,v0_3,.int .i64 r1.fat,v0_5].toArray 76)::rowR 3 1 v0_5 css0_6::L) rfl<|T.drawF (t:=(.v 0 (.v 1 (.v 2 (.v 3 (.v 4 (.v 5 (.v 6 (.v 7 (.v 8 (.v 9 (.v 10 (.v 11 (.v 12 (.v 13 (.alt 14 (.g (.v 15 (.v 16 .done))) .no)))))))))))))))) 18 2 2 rfl rfl search2mixed (by kernel_rfl) ?_
     refine Tm z z<|Tv z (V.lt z z)<|Tm z z<|T.bH 191 H z (fun H=>?_) (fun H=>?_)
     ·exact dead H
     refine Tm z z<|Tv z (V.nck z)<|Tv z (V.fa fdsearch2_76_0 z)<|Tv z (Val.XA fun _ _ _=>V.ldO (k:=0) shsearch2_54 z (j:=0) z z)<|Tm z z<|Tv z (V.nck z)<|Tv z (V.fa fdsearch2_76_4 z)<|Tv z (Val.XA fun _ _ _=>V.ldO (k:=4) shsearch2_24 z (j:=0) z z)<|Tm z z<|Tv z (V.fa fdsearch2_52_1 z)<|Tv z (V.ldf (k:=1) shsearch2_3 z d z)<|Fr_ 1 z ?_
     obtain ⟨cw,cx,H⟩:=bnd H
     refine Tp z z (SX.two (XA.fr [0,1] Lr z) (XA.fr [0,1] Lr z)) (O.callS z (FnS.lend (val:=.bool cw) Tryz.func44 z lendR fun eb cy cA=>?_) z fun ec ed ee am cB=>?_) T.tno
     ·have a4:=(a.trans cy)
      have cC:=RowF.mono VI.mono hR0_7 a4
      have cD:=RowF.slc cA cC
      have cE:=Pt.mono Vsearchhunt.mono hP0_2 a4
      exact hunt_turns_ok cE cD cx _
     obtain ⟨rfl,cG⟩:=cB
     refine Sl_ _ cG<|T.tgrow am<|Tv z (V.not z)<|Tv z (V.pkF z z)<|T.tnil (SX.two (XA.fr [0,1] Lr z) (XA.fr [0,1] Lr z))<|Th<|T.cH H z (fun H=>?_) (fun H=>?_)
     ·refine Rg<|Mv z<|have ab:=(a.trans am); have cI:=Pt.mono Vsearchhunt.mono hP0_2 ab; have cJ:=Slc.mono VapiStep.mono hS0_4 ab; have cK:=RowF.mono VI.mono hR0_7 ab; Fr_ 1 z ?_
      obtain ⟨cM,cN,H⟩:=bnd H
      rcases cM with ef | eg
      rotate_left
      ·refine To (O.callP z (reader_fail_ok (r1:=(searchreader.mk r1.fhunt r1.fbound r1.fsteps r1.fat r1.fpart)) cI cJ cK cN _) (fun _ _ _ q=>q) fun ei cO=>?_)
       obtain rfl:=Option.some.inj H
       have cP:=(ab.trans cO)
       exact T.panE (P:=Tryz.prog) (fn:=Tryz.f21) cP (PE.pan z)
      exact dead H
     refine T.skip<|Bn<|Th<|Rg<|Mv z<|Vv (V.nck z)<|Vv (V.fa fdsearch2_76_3 z)<|Vv (V.ldO (k:=3) shsearch2_3 z (j:=1) z z) ?_
     obtain ⟨cS,cU,H⟩:=bnd H
     refine Vv (V.addS z z cU)<|Vv (V.nck z)<|Vv (V.fa fdsearch2_76_3 z)<|To (O.st (vs:=[.int .i64 cS]) (k:=3) shsearch2_3 z z (j:=1) z z z<|Ni<|have a5:=(a.trans am); have cV:=RowF.mono VI.mono hR0_7 a5; ?_)
     obtain rfl:=Option.some.inj H
     exact T.endE0 Tryz.results21 a5 (PE.ret ⟨_,_,z,z,cV⟩)
    refine T.norm [0] z<|Sl_ (blk pb0 (.cells [v0_1,.int .i64 r1.fbound,v0_3,.int .i64 r1.fat,v0_5].toArray 76)::rowR 3 1 v0_5 css0_6::L) z<|Rg<|Mv z<|have cW:=Pt.mono Vsearchhunt.mono hP0_2 a; have cX:=Slc.mono VapiStep.mono hS0_4 a; have cY:=RowF.mono VI.mono hR0_7 a; ?_
    obtain ⟨cZ,c0,H⟩:=bnd H
    rcases cZ with ej | ek
    rotate_left
    ·refine To (O.callP z (reader_fail_ok (r1:=(searchreader.mk r1.fhunt r1.fbound r1.fsteps r1.fat r1.fpart)) cW cX cY c0 _) (fun _ _ _ q=>q) fun em c1=>?_)
     obtain rfl:=Option.some.inj H
     have c2:=(a.trans c1)
     exact T.panE (P:=Tryz.prog) (fn:=Tryz.f21) c2 (PE.pan z)
    exact dead H
end Go.Proofs.X
