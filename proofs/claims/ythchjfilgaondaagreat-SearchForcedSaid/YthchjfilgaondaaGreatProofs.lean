/- SearchForced: the law of the package trestlelaw06 holds at every input: called with any lists of numbers and any plan, in any memory, on every schedule, the function returns true and leaves all memory that was there before as it was. No condition. The walks show that each function of the program that the call reaches computes what a plain Lean function says; in plain Lean, the problem that the numbers make is valid, the search passes over no right plan, a guest's seats are those of the right plans, in their order, and a seat is forced just if it is the only one. -/
import Derived.Test.YthchjfilgaondaaGreatRows
import Derived.Test.YthchjfilgaondaaGreatWc
import Derived.Test.YthchjfilgaondaaGreatEc
import Derived.WalkKit
import Derived.ProofKit
import Derived.OpenShut
namespace Go.Proofs.YthchjfilgaondaaGreat.searchForced
open Go.ChangeShapes Go.WideShapes Go.ChangeAt Go.RowKit
set_option linter.unusedVariables false
set_option linter.unusedSimpArgs false
set_option maxHeartbeats 4000000
open Go.Sl Go.Dm Go.Pl
theorem list4 {α : Type} {l : List α} (h : l.length = 4) : ∃ a b c d, l = [a, b, c, d] := by match l, h with | [a, b, c, d], _ => exact ⟨a, b, c, d, rfl⟩
theorem c3 : Tryz.prog.cellsOf 3 = 1 := by kernel_rfl
theorem c5 : Tryz.prog.cellsOf 5 = 1 := by kernel_rfl
theorem c143 : Tryz.prog.cellsOf 143 = 1 := by kernel_rfl
theorem c146 : Tryz.prog.cellsOf 146 = 1 := by kernel_rfl
theorem c22 : Tryz.prog.cellsOf 22 = 1 := by kernel_rfl
theorem c23 : Tryz.prog.cellsOf 23 = 1 := by kernel_rfl
theorem c24 : Tryz.prog.cellsOf 24 = 1 := by kernel_rfl
theorem cM : Tryz.prog.cellsOf 26 = 4 := by kernel_rfl
theorem w8 {n : Int} (h : (Lit.int .u8 n).wf = true) : 0 ≤ n ∧ n ≤ 255 := by simpa [Lit.wf, IntKind.min, IntKind.max, IntKind.signed, IntKind.bits] using h
theorem w16 {n : Int} (h : (Lit.int .u16 n).wf = true) : 0 ≤ n ∧ n ≤ 65535 := by simpa [Lit.wf, IntKind.min, IntKind.max, IntKind.signed, IntKind.bits] using h
theorem w32 {n : Int} (h : (Lit.int .u32 n).wf = true) : 0 ≤ n ∧ n ≤ 4294967295 := by simpa [Lit.wf, IntKind.min, IntKind.max, IntKind.signed, IntKind.bits] using h
section
variable {H : Type} {enc : TypeId × Value → H} {w : World} {spare : Nat → Bool} {held : Bool}
theorem got {α : Type} {f : Option α} {xs : List α} {i : Nat} (h : f = xs[i]?) (hi : i<xs.length) : ∃ y, f = some y := ⟨xs[i], by rw [h, List.getElem?_eq_getElem hi]⟩
theorem rdM : Rd enc Tryz.prog w spare held 26 Z0 B7a := by
  intro n cs x h
  obtain ⟨xs, m, _, rfl, hl, hlen, hf⟩ := DataW.trod_struct Tryz.underlying26 h
  rw [cM] at hl
  obtain ⟨a0, a1, a2, a3, rfl⟩ := list4 hl
  have hx : xs.length = 4 := hlen
  obtain ⟨y0, g0⟩ := got (hf 0 _ rfl) (by omega)
  obtain ⟨y1, g1⟩ := got (hf 1 _ rfl) (by omega)
  obtain ⟨y2, g2⟩ := got (hf 2 _ rfl) (by omega)
  obtain ⟨y3, g3⟩ := got (hf 3 _ rfl) (by omega)
  simp [c22, c23, c24] at g0 g1 g2 g3
  obtain ⟨v0, s0, e0, q0, l0, w0⟩ := rdL (by decide) Tryz.underlying22 c5 (rdI Tryz.underlying5) g0
  obtain ⟨v1, s1, e1, q1, l1, w1⟩ := rdL (by decide) Tryz.underlying23 c143 (rdI Tryz.underlying143) g1
  obtain ⟨v2, s2, e2, q2, l2, w2⟩ := rdL (by decide) Tryz.underlying22 c5 (rdI Tryz.underlying5) g2
  obtain ⟨v3, s3, e3, q3, l3, w3⟩ := rdL (by decide) Tryz.underlying24 c146 (rdI Tryz.underlying146) g3
  cases e0; cases e1; cases e2; cases e3
  exact ⟨R6.mk s0 s1 s2 s3, ⟨_, _, _, _, rfl, q0, q1, q2, q3⟩, ⟨λe he => w8 (w0 e he), λe he => w16 (w1 e he), λe he => w8 (w2 e he), λe he => w32 (w3 e he), l0, l1, l2, l3⟩⟩
theorem arg_m {v : Value} {d : DataW H} {ps : List MemPlace} (h : DataW.Trod enc Tryz.prog w 0 spare held 26 v d ps) : ∃ pc m, v = .agg (List.toArray pc) ∧ Z0 (hp w) pc m ∧ B7a m := by
  obtain ⟨n, h⟩ := h
  obtain ⟨p, e, o⟩ := rdM _ _ _ h
  obtain ⟨v1, v3, v5, v7, hc, _⟩ := id e
  exact ⟨_, p, D2z (hc ▸ rfl) (by simp), hc ▸ e, o⟩
theorem arg_l {v : Value} {d : DataW H} {ps : List MemPlace} (h : DataW.Trod enc Tryz.prog w 0 spare held 30 v d ps) (hv : ∀ cs, v≠.agg cs) : ∃ l, G9 (VI .i64) 1 (hp w) v l ∧ l.length ≤ maxLen := by
  obtain ⟨n, h⟩ := h
  obtain ⟨u, xs, e, q, hl, _⟩ := rdL (by decide) Tryz.underlying30 c3 (rdI Tryz.underlying3) h
  obtain rfl := D2x e hv
  exact ⟨xs, q, hl⟩
theorem trodAll_n {P : Program} {base : Nat} {t1 t2 : TypeId} {args : Array Value} {ds : List (DataW H)} {ps : List MemPlace} (h : DataW.TrodAll enc P w base spare held [t1, t2] args.toList ds ps) :
    ∃ v1 v2 d1 d2 p1 p2, args = #[v1, v2] ∧ ds = [d1, d2] ∧ ps = p1++(p2++([])) ∧ DataW.Trod enc P w base spare held t1 v1 d1 p1 ∧ DataW.Trod enc P w base spare held t2 v2 d2 p2 := by
  obtain ⟨v1, a1, d1, b1, p1, q1, ha, rfl, rfl, h1, h⟩ := trodAll_cons h
  obtain ⟨v2, a2, d2, b2, p2, q2, rfl, rfl, rfl, h2, h⟩ := trodAll_cons h
  obtain ⟨rfl, rfl, rfl⟩ := trodAll_nil h
  exact ⟨v1, v2, d1, d2, p1, p2, by cases args; simp_all, rfl, rfl, h1, h2⟩
end
theorem own : ownKnob Tryz.prog.godebug = none := by kernel_rfl
theorem laid : laidOutB Tryz.prog = true := by kernel_rfl
theorem awake : A6g = some true := by kernel_rfl
theorem walk {w : World} {pc : List Value} {m : R6} (hp1 : Z0 (hp w) pc m) (ok : B7a m) {v2 : Value} {l2 : List Int} (k2 : G9 (VI .i64) 1 (hp w) v2 l2) (m2 : l2.length ≤ maxLen) : Calls Tryz.prog 5 #[.agg pc.toArray, v2] w λe w' => e = .returned (.bool true) ∧ w.keptBut w' (λ_ => False) ∧ Below w.heap.size w w' :=
  I7.below (I7.D5f (X.B3h hp1 k2 (C4A awake ok m2) []) λ_ _ _ e => e.1)
set_option maxRecDepth 100000 in
theorem lifted (os : Os) (started : os.Started) (H : Type) (enc : TypeId × Value → H) :
    ReturnsInHanded {} Tryz.checked os 5 .any (Rows.searchForcedSpec.pre6 enc Tryz.prog Tryz.f5 Rows.searchForcedRow.domain false) (Rows.searchForcedSpec.post enc Tryz.prog Tryz.f5 false true false false) := by
  refine returnsInHanded_of_change (C := Tryz.checked) own started (by kernel_rfl) Tryz.func5
    (ChangeSpec.witness6 (enc := enc) (C := Tryz.checked) false ⟨#[], #[.agg #[.slice none 0 0, .slice none 0 0, .slice none 0 0, .slice none 0 0], .slice none 0 0], []⟩ 8 (by kernel_rfl) (by kernel_rfl) (by kernel_rfl) (by kernel_rfl)) ?_
  intro W base args ds gs before hval0 hW hcnd _
  have hval : ∀ (j : Nat) t v, Tryz.f5.params[j]? = some t → args[j]? = some v → Value.okWide Tryz.prog W .any base t v := hval0
  have hW' := hW
  obtain ⟨p, q, hA0, hV, rfl, _, _⟩ := hW
  have hA : DataW.TrodAll enc Tryz.prog W 0 (λ_ => true) true Tryz.f5.params.toList args.toList ds p := hA0
  have hA0' := hA0
  rw [Tryz.params5] at hA hval
  obtain ⟨u1, u2, d1, d2, p1, p2, rfl, rfl, rfl, h1, h2⟩ := trodAll_n hA
  obtain ⟨rfl, rfl⟩ := trodVars_none hV
  clear hA0 hval0
  obtain ⟨pc, pp, rfl, e1, ok⟩ := arg_m h1
  obtain ⟨a2, b2, c2, rfl⟩ := okWide_slice Tryz.underlying30 (hval 1 30 u2 rfl rfl)
  obtain ⟨l2, e2, m2⟩ := arg_l h2 (λ_ h => by cases h)
  refine (walk e1 ok e2 m2).mono λe W' ⟨he, hg, hb⟩ => ?_
  subst he
  simp only [List.append_nil] at hW' hA0'
  exact ⟨_, rfl, C8e hW' rfl (λ_ _ _ => (trodAll_cons_mk (shut_bool Tryz.underlying4 _) trodAll_mk0))
    (λsp hs => B5R laid hb (by kernel_rfl) hA0' (λx hx => hW'.lt x hx) hs) rfl hg hb (ok_one (by kernel_rfl) rfl (okWide_bool_mk Tryz.underlying4 _))⟩
theorem over : Rows.searchForcedRow.holds Tryz.pinned (OpenSpec.ofChange Rows.searchForcedSpec) :=
  OpenClaim.holds_of_wide 5 Tryz.f5 rfl rfl rfl rfl rfl rfl rfl ⟨rfl, rfl, rfl, rfl, rfl⟩ rfl rfl rfl rfl rfl (by kernel_rfl) Tryz.func5 (by kernel_rfl)
    (of_decide_eq_true (by kernel_rfl)) (by unfold Func.isWrapper; first | (rw [if_pos (by decide +kernel)]; kernel_rfl) | (rw [if_neg (by decide +kernel)]; exact ⟨rfl, rfl⟩))
    (λos started H enc _ => lifted os started H enc)
theorem proved : Rows.SearchForcedSaid :=
  over
#print axioms proved
end Go.Proofs.YthchjfilgaondaaGreat.searchForced
