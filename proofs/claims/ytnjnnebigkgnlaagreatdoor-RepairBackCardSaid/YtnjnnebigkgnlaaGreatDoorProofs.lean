/- RepairBack: the law of the package trestlelaw10 holds at every input: called with any lists of numbers, any list of seats, any side, host or not, any class, in any memory in which the listed variables of Go's library hold what the program's text lays into them, on every schedule, the function returns true and leaves all memory that was there before as it was. The card ties the listed variables to the program's text. The walks show that each function of the program that the call reaches computes what a plain Lean function says; in plain Lean, the problem that the numbers make is valid, who comes late is taken in or finds no room, and after the cancellation problem and partial plan are what they were. -/
import Derived.Test.YtnjnnebigkgnlaaGreatDoorRows
import Derived.Test.YtnjnnebigkgnlaaGreatDoorWd
import Derived.Test.YtnjnnebigkgnlaaGreatDoorE
import Derived.Test.YtnjnnebigkgnlaaGreatDoorCards
import Derived.Test.YtnjnnebigkgnlaaGreatDoorTie
import Derived.Test.YtnjnnebigkgnlaaGreatDoorF
import Derived.Test.YtnjnnebigkgnlaaGreatDoorL12
import Derived.WalkKit
import Derived.ProofKit
import Derived.OpenShut
import Derived.LaidMore
import Derived.Lay
import Derived.SevenTiedAt
import Derived.Stop.Joined
namespace Go.Proofs.YtnjnnebigkgnlaaGreatDoor.repairBack
open Go.ChangeShapes Go.WideShapes Go.ChangeAt Go.RowKit
set_option linter.unusedVariables false
set_option linter.unusedSimpArgs false
set_option maxHeartbeats 4000000
open Go.Sl Go.Dm Go.Pl
theorem list4 {α : Type} {l : List α} (h : l.length = 4) : ∃ a b c d, l = [a, b, c, d] := by match l, h with | [a, b, c, d], _ => exact ⟨a, b, c, d, rfl⟩
theorem c3 : Tryz.prog.cellsOf 3 = 1 := by kernel_rfl
theorem c5 : Tryz.prog.cellsOf 5 = 1 := by kernel_rfl
theorem c60 : Tryz.prog.cellsOf 60 = 1 := by kernel_rfl
theorem c63 : Tryz.prog.cellsOf 63 = 1 := by kernel_rfl
theorem c22 : Tryz.prog.cellsOf 22 = 1 := by kernel_rfl
theorem c23 : Tryz.prog.cellsOf 23 = 1 := by kernel_rfl
theorem c24 : Tryz.prog.cellsOf 24 = 1 := by kernel_rfl
theorem c26 : Tryz.prog.cellsOf 26 = 4 := by kernel_rfl
theorem w8 {n : Int} (h : (Lit.int .u8 n).wf = true) : 0 ≤ n ∧ n ≤ 255 := by simpa [Lit.wf, IntKind.min, IntKind.max, IntKind.signed, IntKind.bits] using h
theorem w16 {n : Int} (h : (Lit.int .u16 n).wf = true) : 0 ≤ n ∧ n ≤ 65535 := by simpa [Lit.wf, IntKind.min, IntKind.max, IntKind.signed, IntKind.bits] using h
theorem w32 {n : Int} (h : (Lit.int .u32 n).wf = true) : 0 ≤ n ∧ n ≤ 4294967295 := by simpa [Lit.wf, IntKind.min, IntKind.max, IntKind.signed, IntKind.bits] using h
section
variable {H : Type} {enc : TypeId × Value → H} {w : World} {spare : Nat → Bool} {held : Bool}
theorem got {α : Type} {f : Option α} {xs : List α} {i : Nat} (h : f = xs[i]?) (hi : i < xs.length) : ∃ y, f = some y := ⟨xs[i], by rw [h, List.getElem?_eq_getElem hi]⟩
theorem rd26 : Rd enc Tryz.prog w spare held 26 A1h C2I := by
  intro n cs x h
  obtain ⟨xs, m, _, rfl, hl, hlen, hf⟩ := DataW.trod_struct Tryz.underlying26 h
  rw [c26] at hl
  obtain ⟨a0, a1, a2, a3, rfl⟩ := list4 hl
  have hx : xs.length = 4 := hlen
  obtain ⟨y0, g0⟩ := got (hf 0 _ rfl) (by omega)
  obtain ⟨y1, g1⟩ := got (hf 1 _ rfl) (by omega)
  obtain ⟨y2, g2⟩ := got (hf 2 _ rfl) (by omega)
  obtain ⟨y3, g3⟩ := got (hf 3 _ rfl) (by omega)
  simp [c22, c23, c24] at g0 g1 g2 g3
  obtain ⟨v0, s0, e0, q0, l0, w0⟩ := rdL (by decide) Tryz.underlying22 c5 (rdI Tryz.underlying5) g0
  obtain ⟨v1, s1, e1, q1, l1, w1⟩ := rdL (by decide) Tryz.underlying23 c60 (rdI Tryz.underlying60) g1
  obtain ⟨v2, s2, e2, q2, l2, w2⟩ := rdL (by decide) Tryz.underlying22 c5 (rdI Tryz.underlying5) g2
  obtain ⟨v3, s3, e3, q3, l3, w3⟩ := rdL (by decide) Tryz.underlying24 c63 (rdI Tryz.underlying63) g3
  cases e0; cases e1; cases e2; cases e3
  exact ⟨A0g.mk s0 s1 s2 s3, ⟨_, _, _, _, rfl, q0, q1, q2, q3⟩, ⟨fun e he => w8 (w0 e he), fun e he => w16 (w1 e he), fun e he => w8 (w2 e he), fun e he => w32 (w3 e he), l0, l1, l2, l3⟩⟩
theorem arg_m {v : Value} {d : DataW H} {ps : List MemPlace} (h : DataW.Trod enc Tryz.prog w 0 spare held 26 v d ps) : ∃ pc m, v = .agg (List.toArray pc) ∧ A1h (hp w) pc m ∧ C2I m := by
  obtain ⟨n, h⟩ := h
  obtain ⟨p, e, o⟩ := rd26 _ _ _ h
  obtain ⟨v1, v3, v5, v7, hc, _⟩ := id e
  exact ⟨_, p, D0Y (hc ▸ rfl) (by simp), hc ▸ e, o⟩
theorem arg_l {v : Value} {d : DataW H} {ps : List MemPlace} (h : DataW.Trod enc Tryz.prog w 0 spare held 27 v d ps) (hv : ∀ cs, v ≠ .agg cs) : ∃ l, G6 (VI .i64) 1 (hp w) v l ∧ l.length ≤ maxLen := by
  obtain ⟨n, h⟩ := h
  obtain ⟨u, xs, e, q, hl, _⟩ := rdL (by decide) Tryz.underlying27 c3 (rdI Tryz.underlying3) h
  obtain rfl := D0X e hv
  exact ⟨xs, q, hl⟩
theorem trodAll_five {P : Program} {base : Nat} {t1 t2 t3 t4 t5 : TypeId} {args : Array Value} {ds : List (DataW H)} {ps : List MemPlace} (h : DataW.TrodAll enc P w base spare held [t1, t2, t3, t4, t5] args.toList ds ps) :
    ∃ v1 v2 v3 v4 v5 d1 d2 d3 d4 d5 p1 p2 p3 p4 p5, args = #[v1, v2, v3, v4, v5] ∧ ds = [d1, d2, d3, d4, d5] ∧ ps = p1 ++ (p2 ++ (p3 ++ (p4 ++ (p5 ++ [])))) ∧ DataW.Trod enc P w base spare held t1 v1 d1 p1 ∧ DataW.Trod enc P w base spare held t2 v2 d2 p2 ∧ DataW.Trod enc P w base spare held t3 v3 d3 p3 ∧ DataW.Trod enc P w base spare held t4 v4 d4 p4 ∧ DataW.Trod enc P w base spare held t5 v5 d5 p5 := by
  obtain ⟨v1, a1, d1, b1, p1, q1, ha, rfl, rfl, h1, h⟩ := trodAll_cons h
  obtain ⟨v2, a2, d2, b2, p2, q2, rfl, rfl, rfl, h2, h⟩ := trodAll_cons h
  obtain ⟨v3, a3, d3, b3, p3, q3, rfl, rfl, rfl, h3, h⟩ := trodAll_cons h
  obtain ⟨v4, a4, d4, b4, p4, q4, rfl, rfl, rfl, h4, h⟩ := trodAll_cons h
  obtain ⟨v5, a5, d5, b5, p5, q5, rfl, rfl, rfl, h5, h⟩ := trodAll_cons h
  obtain ⟨rfl, rfl, rfl⟩ := trodAll_nil h
  exact ⟨v1, v2, v3, v4, v5, d1, d2, d3, d4, d5, p1, p2, p3, p4, p5, by cases args; simp_all, rfl, rfl, h1, h2, h3, h4, h5⟩
end
theorem own : ownKnob Tryz.prog.godebug = none := by kernel_rfl
theorem awake : A7s = some true := by kernel_rfl
theorem walk {w : World} {pc : List Value} {m : A0g} (hp1 : A1h (hp w) pc m) (ok : C2I m) {v : Value} {l : List Int} (hl : G6 (VI .i64) 1 (hp w) v l) (hll : l.length ≤ maxLen) {s c : Int} {b : Bool} (hs : 0 ≤ s ∧ s ≤ 255) (hc : 0 ≤ c ∧ c ≤ 255) : Calls Tryz.prog 3 #[.agg pc.toArray, v, .int .u8 s, .bool b, .int .u8 c] w fun e w' => e = .returned (.bool true) ∧ w.keptBut w' (fun _ => False) ∧ Below w.heap.size w w' :=
  G8.below (G8.D2W (X.B4E hp1 hl (C7A awake ok hll hs.1 hs.2 hc.1 hc.2 b) []) fun _ _ _ e => e.1)
set_option maxRecDepth 100000 in
theorem lifted (os : Os) (started : os.Started) (H : Type) (enc : TypeId × Value → H) :
    ReturnsInHanded {} Tryz.checked os 3 .any (fun w args => (Rows.repairBackSpec.pre enc Tryz.prog Tryz.f3 Rows.repairBackRow.domain false w args ∧ laidMetH Tryz.prog Rows.repairBackRow.laid w) ∧ sizedMet enc Tryz.prog Tryz.f3 (OpenSpec.ofChange Rows.repairBackSpec) false w args)
      (Rows.repairBackSpec.post enc Tryz.prog Tryz.f3 false true false false) := by
  refine returnsInHanded_of_change_and (C := Tryz.checked) (X := fun w _ => laidMetH Tryz.prog Rows.repairBackRow.laid w) (fun _ _ _ hh h => h.of_heap hh) own started (by kernel_rfl) Tryz.func3
    (ChangeSpec.witness_shaped (enc := enc) (C := Tryz.checked) (os := os) (X := fun w _ => laidMetH Tryz.prog Rows.repairBackRow.laid w) false (World.laidAll Tryz.prog os Rows.repairBackRow.laid) #[.agg #[.slice none 0 0, .slice none 0 0, .slice none 0 0, .slice none 0 0], .slice none 0 0, .int .u8 0, .bool false, .int .u8 0] 8 (World.laidAll_os _ _ _)
      (World.shaped_of_ZipB (by kernel_rfl) (by kernel_rfl)) (by kernel_rfl) (by kernel_rfl) (by kernel_rfl)
      (by rw [MakeChecks.laidMetH_plain _ _ _ (by kernel_rfl)]; exact laidMet_laidAll _ (by kernel_rfl) (by kernel_rfl))) ?_
  intro W base args ds gs before hval0 hW hc _ hL _
  have hval : ∀ (j : Nat) t v, Tryz.f3.params[j]? = some t → args[j]? = some v → Value.okWide Tryz.prog W .any base t v := hval0
  have hW' := hW
  obtain ⟨p, q, hA0, hV, rfl, _, _⟩ := hW
  have hA : DataW.TrodAll enc Tryz.prog W 0 (fun _ => true) true Tryz.f3.params.toList args.toList ds p := hA0
  have hA0' := hA0
  rw [Tryz.params3] at hA hval
  obtain ⟨u1, u2, u3, u4, u5, d1, d2, d3, d4, d5, p1, p2, p3, p4, p5, rfl, rfl, rfl, h1, h2, h3, h4, h5⟩ := trodAll_five hA
  obtain ⟨rfl, rfl⟩ := trodVars_none hV
  clear hA0 hval0
  obtain ⟨pc, pp, rfl, e1, ok⟩ := arg_m h1
  obtain ⟨a2, b2, c2, rfl⟩ := okWide_slice Tryz.underlying27 (hval 1 27 u2 rfl rfl)
  obtain ⟨l, e2, hll⟩ := arg_l h2 (fun _ h => by cases h)
  obtain ⟨n, rfl, _, _, wn⟩ := open_int Tryz.underlying5 (hval 2 5 u3 rfl rfl) h3
  obtain ⟨b, rfl⟩ := okWide_bool Tryz.underlying4 (hval 3 4 u4 rfl rfl)
  obtain ⟨k, rfl, _, _, wk⟩ := open_int Tryz.underlying5 (hval 4 5 u5 rfl rfl) h5
  refine (walk e1 ok e2 hll (w8 wn) (w8 wk)).mono fun e W' ⟨he, hg, hb⟩ => ?_
  subst he
  simp only [List.append_nil] at hW' hA0'
  exact ⟨_, rfl, C6Y hW' rfl (fun _ _ _ => (trodAll_cons_mk (shut_bool Tryz.underlying4 _) trodAll_mk0))
    (fun sp hs => B5r j2 hb (by kernel_rfl) hA0' (fun x hx => hW'.lt x hx) hs) rfl hg hb (ok_one (by kernel_rfl) rfl (okWide_bool_mk Tryz.underlying4 _))⟩
theorem over : Rows.repairBackRow.holds Tryz.pinned (OpenSpec.ofChange Rows.repairBackSpec) :=
  OpenClaim.holds_of_wide 3 Tryz.f3 rfl rfl rfl rfl rfl rfl rfl ⟨rfl, rfl, rfl, rfl, rfl⟩ rfl rfl rfl rfl rfl fnamed Tryz.func3 jf
    (of_decide_eq_true (by kernel_rfl)) wrapped
    (fun os started H enc _ => lifted os started H enc)
theorem proved : Rows.RepairBackCardSaid :=
  Claim7.holds_tied_plain_at .later [] [.data, .data, .data, .data, .sentinel, .sentinel, .pinned] true (true, "8a8d237aa3a5c0435b413159374263fb69faa857d0203ce0f179bb76bf038afa") true over (fun _ h => by cases h) k1 (fun _ h => by cases h) repairBack_row_tie rfl ⟨rfl, rfl⟩ k2 rfl
    (fun f fn hf hfn => by
      obtain rfl : f = 3 := Option.some.inj (fnamed.symm.trans hf) |>.symm
      obtain rfl : fn = Tryz.f3 := (Option.some.inj (Tryz.func3.symm.trans hfn)).symm
      exact ⟨k3, fun j t ht => by
        rw [Tryz.params3] at ht
        have hm : t ∈ [26, 27, 5, 4, 5] := by simpa using Array.mem_of_getElem? ht
        exact (show Tryz.prog.wantsStandIn t = false by simpa using List.all_eq_true.1 k6 t hm)⟩)
    (C5l k7 rfl)
#print axioms proved
end Go.Proofs.YtnjnnebigkgnlaaGreatDoor.repairBack
