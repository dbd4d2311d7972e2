/- RepairRefuses: the law of the package trestlelaw10 holds at every input: called with any problem, any list of numbers and any number, in any memory in which the listed variables of Go's library hold what the program's text lays into them, on every schedule, the function returns true and leaves all memory that was there before as it was. The card ties the listed variables to the program's text. The walks show that each function of the program that the call reaches computes what a plain Lean function says; in plain Lean, the program's check of a problem is that of the reference, and every call refuses what is not valid. -/
import Derived.Test.YtphnomnanplclaaGreatDoorRows
import Derived.Test.YtphnomnanplclaaGreatDoorWd
import Derived.Test.YtphnomnanplclaaGreatDoorE
import Derived.Test.YtphnomnanplclaaGreatDoorCards
import Derived.Test.YtphnomnanplclaaGreatDoorTie
import Derived.Test.YtphnomnanplclaaGreatDoorF
import Derived.Test.YtphnomnanplclaaGreatDoorL12
import Derived.WalkKit
import Derived.ProofKit
import Derived.OpenShut
import Derived.LaidMore
import Derived.Lay
import Derived.SevenTiedAt
import Derived.Stop.Joined
namespace Go.Proofs.YtphnomnanplclaaGreatDoor.repairRefuses
open Go.ChangeShapes Go.WideShapes Go.ChangeAt Go.RowKit
set_option linter.unusedVariables false
set_option linter.unusedSimpArgs false
set_option maxHeartbeats 4000000
open Go.Sl Go.Dm Go.Pl
theorem list1 {α : Type} {l : List α} (h : l.length = 1) : ∃ a, l = [a] := by match l, h with | [a], _ => exact ⟨a, rfl⟩
theorem list3 {α : Type} {l : List α} (h : l.length = 3) : ∃ a b c, l = [a, b, c] := by match l, h with | [a, b, c], _ => exact ⟨a, b, c, rfl⟩
theorem list5 {α : Type} {l : List α} (h : l.length = 5) : ∃ a b c d e, l = [a, b, c, d, e] := by match l, h with | [a, b, c, d, e], _ => exact ⟨a, b, c, d, e, rfl⟩
theorem list6 {α : Type} {l : List α} (h : l.length = 6) : ∃ a b c d e f, l = [a, b, c, d, e, f] := by match l, h with | [a, b, c, d, e, f], _ => exact ⟨a, b, c, d, e, f, rfl⟩
theorem list7 {α : Type} {l : List α} (h : l.length = 7) : ∃ a b c d e f g, l = [a, b, c, d, e, f, g] := by match l, h with | [a, b, c, d, e, f, g], _ => exact ⟨a, b, c, d, e, f, g, rfl⟩
theorem list9 {α : Type} {l : List α} (h : l.length = 9) : ∃ a b c d e f g i j, l = [a, b, c, d, e, f, g, i, j] := by match l, h with | [a, b, c, d, e, f, g, i, j], _ => exact ⟨a, b, c, d, e, f, g, i, j, rfl⟩
theorem c3 : Tryz.prog.cellsOf 3 = 1 := by kernel_rfl
theorem c4 : Tryz.prog.cellsOf 4 = 1 := by kernel_rfl
theorem c9 : Tryz.prog.cellsOf 9 = 1 := by kernel_rfl
theorem c22 : Tryz.prog.cellsOf 22 = 1 := by kernel_rfl
theorem c23 : Tryz.prog.cellsOf 23 = 1 := by kernel_rfl
theorem c24 : Tryz.prog.cellsOf 24 = 1 := by kernel_rfl
theorem c25 : Tryz.prog.cellsOf 25 = 1 := by kernel_rfl
theorem c26 : Tryz.prog.cellsOf 26 = 1 := by kernel_rfl
theorem c28 : Tryz.prog.cellsOf 28 = 5 := by kernel_rfl
theorem c37 : Tryz.prog.cellsOf 37 = 1 := by kernel_rfl
theorem c39 : Tryz.prog.cellsOf 39 = 9 := by kernel_rfl
theorem c40 : Tryz.prog.cellsOf 40 = 1 := by kernel_rfl
theorem c42 : Tryz.prog.cellsOf 42 = 6 := by kernel_rfl
theorem c93 : Tryz.prog.cellsOf 93 = 1 := by kernel_rfl
theorem c95 : Tryz.prog.cellsOf 95 = 7 := by kernel_rfl
theorem c172 : Tryz.prog.cellsOf 172 = 1 := by kernel_rfl
theorem c174 : Tryz.prog.cellsOf 174 = 3 := by kernel_rfl
section
variable {H : Type} {enc : TypeId × Value → H} {w : World} {spare : Nat → Bool} {held : Bool}
theorem got {α : Type} {f : Option α} {xs : List α} {i : Nat} (h : f = xs[i]?) (hi : i < xs.length) : ∃ y, f = some y := ⟨xs[i], by rw [h, List.getElem?_eq_getElem hi]⟩
theorem rd95 : Rd enc Tryz.prog w spare held 95 E8 OkT := by
  intro n cs x h
  obtain ⟨xs, m, _, rfl, hl, hlen, hf⟩ := DataW.trod_struct Tryz.underlying95 h
  rw [c95] at hl
  obtain ⟨a0, a1, a2, a3, a4, a5, a6, rfl⟩ := list7 hl
  have hx : xs.length = 7 := hlen
  obtain ⟨y0, g0⟩ := got (hf 0 _ rfl) (by omega)
  obtain ⟨y1, g1⟩ := got (hf 1 _ rfl) (by omega)
  obtain ⟨y2, g2⟩ := got (hf 2 _ rfl) (by omega)
  obtain ⟨y3, g3⟩ := got (hf 3 _ rfl) (by omega)
  obtain ⟨y4, g4⟩ := got (hf 4 _ rfl) (by omega)
  obtain ⟨y5, g5⟩ := got (hf 5 _ rfl) (by omega)
  obtain ⟨y6, g6⟩ := got (hf 6 _ rfl) (by omega)
  simp [c3, c9, c25, c93] at g0 g1 g2 g3 g4 g5 g6
  obtain ⟨s0, e0, w0⟩ := rdS Tryz.underlying9 _ _ _ g0
  obtain ⟨s1, e1, w1⟩ := rdI Tryz.underlying93 _ _ _ g1
  obtain ⟨s2, e2, w2⟩ := rdI Tryz.underlying3 _ _ _ g2
  obtain ⟨s3, e3, w3⟩ := rdI Tryz.underlying3 _ _ _ g3
  obtain ⟨v, s4, e4, q4, l4, w4⟩ := rdL (by decide) Tryz.underlying25 c3 (rdI Tryz.underlying3) g4
  obtain ⟨s5, e5, w5⟩ := rdI Tryz.underlying3 _ _ _ g5
  obtain ⟨s6, e6, w6⟩ := rdI Tryz.underlying3 _ _ _ g6
  cases e0; cases e1; cases e2; cases e3; cases e4; cases e5; cases e6
  exact ⟨D5.mk s0 s1 s2 s3 s4 s5 s6, ⟨_, rfl, q4⟩, w0, l4⟩
theorem rd39 : Rd enc Tryz.prog w spare held 39 G7 OkG := by
  intro n cs x h
  obtain ⟨xs, m, _, rfl, hl, hlen, hf⟩ := DataW.trod_struct Tryz.underlying39 h
  rw [c39] at hl
  obtain ⟨a0, a1, a2, a3, a4, a5, a6, a7, a8, rfl⟩ := list9 hl
  have hx : xs.length = 9 := hlen
  obtain ⟨y0, g0⟩ := got (hf 0 _ rfl) (by omega)
  obtain ⟨y1, g1⟩ := got (hf 1 _ rfl) (by omega)
  obtain ⟨y2, g2⟩ := got (hf 2 _ rfl) (by omega)
  obtain ⟨y3, g3⟩ := got (hf 3 _ rfl) (by omega)
  obtain ⟨y4, g4⟩ := got (hf 4 _ rfl) (by omega)
  obtain ⟨y5, g5⟩ := got (hf 5 _ rfl) (by omega)
  obtain ⟨y6, g6⟩ := got (hf 6 _ rfl) (by omega)
  obtain ⟨y7, g7⟩ := got (hf 7 _ rfl) (by omega)
  obtain ⟨y8, g8⟩ := got (hf 8 _ rfl) (by omega)
  simp [c3, c4, c9, c37] at g0 g1 g2 g3 g4 g5 g6 g7 g8
  obtain ⟨s0, e0, w0⟩ := rdS Tryz.underlying9 _ _ _ g0
  obtain ⟨s1, e1, w1⟩ := rdS Tryz.underlying9 _ _ _ g1
  obtain ⟨s2, e2, w2⟩ := rdS Tryz.underlying9 _ _ _ g2
  obtain ⟨s3, e3, w3⟩ := rdI Tryz.underlying3 _ _ _ g3
  obtain ⟨s4, e4, w4⟩ := rdI Tryz.underlying3 _ _ _ g4
  obtain ⟨s5, e5, w5⟩ := rdS Tryz.underlying9 _ _ _ g5
  obtain ⟨s6, e6, w6⟩ := rdB Tryz.underlying4 _ _ _ g6
  obtain ⟨s7, e7, w7⟩ := rdB Tryz.underlying4 _ _ _ g7
  obtain ⟨v, s8, e8, q8, l8, w8⟩ := rdL (by decide) Tryz.underlying37 c9 (rdS Tryz.underlying9) g8
  cases e0; cases e1; cases e2; cases e3; cases e4; cases e5; cases e6; cases e7; cases e8
  exact ⟨E5.mk s0 s1 s2 s3 s4 s5 s6 s7 s8, ⟨_, rfl, q8⟩, w0, w1, w2, w5, l8, w8⟩
theorem rd174 : Rd enc Tryz.prog w spare held 174 I1 (fun _ => True) := by
  intro n cs x h
  obtain ⟨xs, m, _, rfl, hl, hlen, hf⟩ := DataW.trod_struct Tryz.underlying174 h
  rw [c174] at hl
  obtain ⟨a0, a1, a2, rfl⟩ := list3 hl
  have hx : xs.length = 3 := hlen
  obtain ⟨y0, g0⟩ := got (hf 0 _ rfl) (by omega)
  obtain ⟨y1, g1⟩ := got (hf 1 _ rfl) (by omega)
  obtain ⟨y2, g2⟩ := got (hf 2 _ rfl) (by omega)
  simp [c9, c172] at g0 g1 g2
  obtain ⟨s0, e0, w0⟩ := rdS Tryz.underlying9 _ _ _ g0
  obtain ⟨s1, e1, w1⟩ := rdS Tryz.underlying9 _ _ _ g1
  obtain ⟨s2, e2, w2⟩ := rdI Tryz.underlying172 _ _ _ g2
  cases e0; cases e1; cases e2
  exact ⟨G6.mk s0 s1 s2, rfl, trivial⟩
theorem rd42 : Rd enc Tryz.prog w spare held 42 H9 OkU := by
  intro n cs x h
  obtain ⟨xs, m, _, rfl, hl, hlen, hf⟩ := DataW.trod_struct Tryz.underlying42 h
  rw [c42] at hl
  obtain ⟨a0, a1, a2, a3, a4, a5, rfl⟩ := list6 hl
  have hx : xs.length = 6 := hlen
  obtain ⟨y0, g0⟩ := got (hf 0 _ rfl) (by omega)
  obtain ⟨y1, g1⟩ := got (hf 1 _ rfl) (by omega)
  obtain ⟨y2, g2⟩ := got (hf 2 _ rfl) (by omega)
  obtain ⟨y3, g3⟩ := got (hf 3 _ rfl) (by omega)
  obtain ⟨y4, g4⟩ := got (hf 4 _ rfl) (by omega)
  obtain ⟨y5, g5⟩ := got (hf 5 _ rfl) (by omega)
  simp [c3, c9, c40] at g0 g1 g2 g3 g4 g5
  obtain ⟨s0, e0, w0⟩ := rdI Tryz.underlying40 _ _ _ g0
  obtain ⟨s1, e1, w1⟩ := rdI Tryz.underlying3 _ _ _ g1
  obtain ⟨s2, e2, w2⟩ := rdS Tryz.underlying9 _ _ _ g2
  obtain ⟨s3, e3, w3⟩ := rdS Tryz.underlying9 _ _ _ g3
  obtain ⟨s4, e4, w4⟩ := rdS Tryz.underlying9 _ _ _ g4
  obtain ⟨s5, e5, w5⟩ := rdI Tryz.underlying3 _ _ _ g5
  cases e0; cases e1; cases e2; cases e3; cases e4; cases e5
  exact ⟨G5.mk s0 s1 s2 s3 s4 s5, rfl, by simpa [Lit.wf, IntKind.min, IntKind.max, IntKind.signed, IntKind.bits] using w0, w2⟩
theorem rd28 : Rd enc Tryz.prog w spare held 28 C9 OkP := by
  intro n cs x h
  obtain ⟨xs, m, _, rfl, hl, hlen, hf⟩ := DataW.trod_struct Tryz.underlying28 h
  rw [c28] at hl
  obtain ⟨a0, a1, a2, a3, a4, rfl⟩ := list5 hl
  have hx : xs.length = 5 := hlen
  obtain ⟨y0, g0⟩ := got (hf 0 _ rfl) (by omega)
  obtain ⟨y1, g1⟩ := got (hf 1 _ rfl) (by omega)
  obtain ⟨y2, g2⟩ := got (hf 2 _ rfl) (by omega)
  obtain ⟨y3, g3⟩ := got (hf 3 _ rfl) (by omega)
  obtain ⟨y4, g4⟩ := got (hf 4 _ rfl) (by omega)
  simp [c22, c23, c24, c25, c26] at g0 g1 g2 g3 g4
  obtain ⟨v0, s0, e0, q0, l0, w0⟩ := rdL (by decide) Tryz.underlying22 c95 rd95 g0
  obtain ⟨v1, s1, e1, q1, l1, w1⟩ := rdL (by decide) Tryz.underlying23 c39 rd39 g1
  obtain ⟨v2, s2, e2, q2, l2, w2⟩ := rdL (by decide) Tryz.underlying24 c174 rd174 g2
  obtain ⟨v3, s3, e3, q3, l3, w3⟩ := rdL (by decide) Tryz.underlying25 c3 (rdI Tryz.underlying3) g3
  obtain ⟨v4, s4, e4, q4, l4, w4⟩ := rdL (by decide) Tryz.underlying26 c42 rd42 g4
  cases e0; cases e1; cases e2; cases e3; cases e4
  exact ⟨A8.mk s0 s1 s2 s3 s4, ⟨_, _, _, _, _, rfl, q0, q1, q2, q3, q4⟩, ⟨l0, w0⟩, ⟨l1, w1, l2⟩, l3, l4, w4⟩
theorem arg_p {v : Value} {d : DataW H} {ps : List MemPlace} (h : DataW.Trod enc Tryz.prog w 0 spare held 28 v d ps) : ∃ pc p, v = .agg (List.toArray pc) ∧ C9 (hp w) pc p ∧ OkP p := by
  obtain ⟨n, h⟩ := h
  obtain ⟨p, e, o⟩ := rd28 _ _ _ h
  obtain ⟨v1, v3, v5, v7, v9, hc, _⟩ := id e
  exact ⟨_, p, C7f (hc ▸ rfl) (by simp), hc ▸ e, o⟩
theorem arg_l {v : Value} {d : DataW H} {ps : List MemPlace} (h : DataW.Trod enc Tryz.prog w 0 spare held 25 v d ps) (hv : ∀ cs, v ≠ .agg cs) : ∃ l, G9 (VI .i64) 1 (hp w) v l := by
  obtain ⟨n, h⟩ := h
  obtain ⟨u, xs, e, q, _⟩ := rdL (by decide) Tryz.underlying25 c3 (rdI Tryz.underlying3) h
  obtain rfl := C7B e hv
  exact ⟨xs, q⟩
end
theorem own : ownKnob Tryz.prog.godebug = none := by kernel_rfl
theorem walk {w : World} {pc : List Value} {p : A8} (hp1 : C9 (hp w) pc p) (ok : OkP p) {v : Value} {l : List Int} (hl : G9 (VI .i64) 1 (hp w) v l) (n : Int) : Calls Tryz.prog 3 #[.agg pc.toArray, v, .int .i64 n] w fun e w' => e = .returned (.bool true) ∧ w.keptBut w' (fun _ => False) ∧ Below w.heap.size w w' :=
  H5.below (H5.C8y (X.A9E hp1 hl (C2A ok l n) []) fun _ _ _ e => e.1)
set_option maxRecDepth 100000 in
theorem lifted (os : Os) (started : os.Started) (H : Type) (enc : TypeId × Value → H) :
    ReturnsInHanded {} Tryz.checked os 3 .any (fun w args => (Rows.repairRefusesSpec.pre enc Tryz.prog Tryz.f3 Rows.repairRefusesRow.domain false w args ∧ laidMetH Tryz.prog Rows.repairRefusesRow.laid w) ∧ sizedMet enc Tryz.prog Tryz.f3 (OpenSpec.ofChange Rows.repairRefusesSpec) false w args)
      (Rows.repairRefusesSpec.post enc Tryz.prog Tryz.f3 false true false false) := by
  refine returnsInHanded_of_change_and (C := Tryz.checked) (X := fun w _ => laidMetH Tryz.prog Rows.repairRefusesRow.laid w) (fun _ _ _ hh h => h.of_heap hh) own started (by kernel_rfl) Tryz.func3
    (ChangeSpec.witness_shaped (enc := enc) (C := Tryz.checked) (os := os) (X := fun w _ => laidMetH Tryz.prog Rows.repairRefusesRow.laid w) false (World.laidAll Tryz.prog os Rows.repairRefusesRow.laid) #[.agg #[.slice none 0 0, .slice none 0 0, .slice none 0 0, .slice none 0 0, .slice none 0 0], .slice none 0 0, .int .i64 0] 8 (World.laidAll_os _ _ _)
      (World.shaped_of_ZipB (by kernel_rfl) (by kernel_rfl)) (by kernel_rfl) (by kernel_rfl) (by kernel_rfl)
      (by rw [MakeChecks.laidMetH_plain _ _ _ (by kernel_rfl)]; exact laidMet_laidAll _ (by kernel_rfl) (by kernel_rfl))) ?_
  intro W base args ds gs before hval0 hW hc _ hL _
  have hval : ∀ (j : Nat) t v, Tryz.f3.params[j]? = some t → args[j]? = some v → Value.okWide Tryz.prog W .any base t v := hval0
  have hW' := hW
  obtain ⟨p, q, hA0, hV, rfl, _, _⟩ := hW
  have hA : DataW.TrodAll enc Tryz.prog W 0 (fun _ => true) true Tryz.f3.params.toList args.toList ds p := hA0
  have hA0' := hA0
  rw [Tryz.params3] at hA hval
  obtain ⟨u1, u2, u3, d1, d2, d3, p1, p2, p3, rfl, rfl, rfl, h1, h2, h3⟩ := trodAll_three hA
  obtain ⟨rfl, rfl⟩ := trodVars_none hV
  clear hA0 hval0
  simp only [List.append_nil] at hW'
  obtain ⟨pc, pp, rfl, e1, ok⟩ := arg_p h1
  obtain ⟨a2, b2, c2, rfl⟩ := okWide_slice Tryz.underlying25 (hval 1 25 u2 rfl rfl)
  obtain ⟨l, e2⟩ := arg_l h2 (fun _ h => by cases h)
  obtain ⟨n, rfl, _⟩ := open_int Tryz.underlying3 (hval 2 3 u3 rfl rfl) h3
  refine (walk e1 ok e2 n).mono fun e W' ⟨he, hg, hb⟩ => ?_
  subst he
  exact ⟨_, rfl, C5m hW' rfl (fun _ _ _ => (trodAll_cons_mk (shut_bool Tryz.underlying4 _) trodAll_mk0))
    (fun sp hs => B3z j2 hb (by kernel_rfl) hA0' (fun x hx => hW'.lt x hx) hs) rfl hg hb (ok_one (by kernel_rfl) rfl (okWide_bool_mk Tryz.underlying4 _))⟩
theorem over : Rows.repairRefusesRow.holds Tryz.pinned (OpenSpec.ofChange Rows.repairRefusesSpec) :=
  OpenClaim.holds_of_wide 3 Tryz.f3 rfl rfl rfl rfl rfl rfl rfl ⟨rfl, rfl, rfl, rfl, rfl⟩ rfl rfl rfl rfl rfl fnamed Tryz.func3 jf
    (of_decide_eq_true (by kernel_rfl)) wrapped
    (fun os started H enc _ => lifted os started H enc)
theorem proved : Rows.RepairRefusesCardSaid :=
  Claim7.holds_tied_plain_at .later [] [.data, .data, .data, .data, .sentinel, .sentinel, .pinned] true (true, "7447b89809c90ea20fe95cc8cc368a61313bfa4c071b3cb70408e69608e7dda8") true over (fun _ h => by cases h) k1 (fun _ h => by cases h) repairRefuses_row_tie rfl ⟨rfl, rfl⟩ k2 rfl
    (fun f fn hf hfn => by
      obtain rfl : f = 3 := Option.some.inj (fnamed.symm.trans hf) |>.symm
      obtain rfl : fn = Tryz.f3 := (Option.some.inj (Tryz.func3.symm.trans hfn)).symm
      exact ⟨k3, fun j t ht => by
        rw [Tryz.params3] at ht
        have hm : t ∈ [28, 25, 3] := by simpa using Array.mem_of_getElem? ht
        exact (show Tryz.prog.wantsStandIn t = false by simpa using List.all_eq_true.1 k6 t hm)⟩)
    (C2R k7 rfl)
#print axioms proved
end Go.Proofs.YtphnomnanplclaaGreatDoor.repairRefuses
