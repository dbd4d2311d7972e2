import Derived.Test.YtdbhilnjelhcpaaGreatDa
import Derived.KernelRfl
/- The closed function, evaluated by the kernel. -/
set_option maxRecDepth 1000000
set_option maxHeartbeats 40000000
set_option linter.unusedVariables false
set_option linter.unusedSimpArgs false
set_option linter.unnecessarySimpa false
open Go Go.Sl Go.Dm
namespace Go.Dm
theorem iterS {σ ρ : Type} {f : σ → Option (σ ⊕ ρ)} {s s' : σ} (h : f s = some (.inl s')) (n : Nat) : iter f (n + 1) s = iter f n s' := by simp [iter, h]
theorem iterE {σ ρ : Type} {f : σ → Option (σ ⊕ ρ)} {s : σ} {r : ρ} (h : f s = some (.inr r)) (n : Nat) : iter f (n + 1) s = some r := by simp [iter, h]
theorem seats1 : law06_SearchSmall_l0 1 = some (Sum.inl 2) := by kernel_rfl
theorem seats2 : law06_SearchSmall_l0 2 = some (Sum.inl 3) := by kernel_rfl
theorem seats3 : law06_SearchSmall_l0 3 = some (Sum.inl 4) := by kernel_rfl
theorem seats4 : law06_SearchSmall_l0 4 = some (Sum.inl 5) := by kernel_rfl
theorem seats5 : law06_SearchSmall_l0 5 = some (Sum.inl 6) := by kernel_rfl
theorem seats6 : law06_SearchSmall_l0 6 = some (Sum.inl 7) := by kernel_rfl
theorem seats7 : law06_SearchSmall_l0 7 = some (Sum.inl 8) := by kernel_rfl
theorem seats8 : law06_SearchSmall_l0 8 = some (Sum.inl 9) := by kernel_rfl
theorem seats9 : law06_SearchSmall_l0 9 = some (Sum.inl 10) := by kernel_rfl
theorem seats10 : law06_SearchSmall_l0 10 = some (Sum.inl 11) := by kernel_rfl
theorem seats11 : law06_SearchSmall_l0 11 = some (Sum.inl 12) := by kernel_rfl
theorem seats12 : law06_SearchSmall_l0 12 = some (Sum.inl 13) := by kernel_rfl
theorem seats13 : law06_SearchSmall_l0 13 = some (Sum.inl 14) := by kernel_rfl
theorem seats14 : law06_SearchSmall_l0 14 = some (Sum.inl 15) := by kernel_rfl
theorem seats15 : law06_SearchSmall_l0 15 = some (Sum.inl 16) := by kernel_rfl
theorem seats16 : law06_SearchSmall_l0 16 = some (Sum.inl 17) := by kernel_rfl
theorem seats17 : law06_SearchSmall_l0 17 = some (Sum.inl 18) := by kernel_rfl
theorem seats18 : law06_SearchSmall_l0 18 = some (Sum.inl 19) := by kernel_rfl
theorem seats19 : law06_SearchSmall_l0 19 = some (Sum.inl 20) := by kernel_rfl
theorem seats20 : law06_SearchSmall_l0 20 = some (Sum.inl 21) := by kernel_rfl
theorem seats21 : law06_SearchSmall_l0 21 = some (Sum.inl 22) := by kernel_rfl
theorem seats22 : law06_SearchSmall_l0 22 = some (Sum.inl 23) := by kernel_rfl
theorem seats23 : law06_SearchSmall_l0 23 = some (Sum.inl 24) := by kernel_rfl
theorem seats24 : law06_SearchSmall_l0 24 = some (Sum.inl 25) := by kernel_rfl
theorem seats25 : law06_SearchSmall_l0 25 = some (Sum.inr ()) := by kernel_rfl
theorem small_loop : iter law06_SearchSmall_l0 FUEL 1 = some () :=
  (iterS seats1 4294967295).trans <| (iterS seats2 4294967294).trans <| (iterS seats3 4294967293).trans <| (iterS seats4 4294967292).trans <| (iterS seats5 4294967291).trans <| (iterS seats6 4294967290).trans <| (iterS seats7 4294967289).trans <| (iterS seats8 4294967288).trans <| (iterS seats9 4294967287).trans <| (iterS seats10 4294967286).trans <| (iterS seats11 4294967285).trans <| (iterS seats12 4294967284).trans <| (iterS seats13 4294967283).trans <| (iterS seats14 4294967282).trans <| (iterS seats15 4294967281).trans <| (iterS seats16 4294967280).trans <| (iterS seats17 4294967279).trans <| (iterS seats18 4294967278).trans <| (iterS seats19 4294967277).trans <| (iterS seats20 4294967276).trans <| (iterS seats21 4294967275).trans <| (iterS seats22 4294967274).trans <| (iterS seats23 4294967273).trans <| (iterS seats24 4294967272).trans <| iterE seats25 4294967271
theorem small_5 : law06_SearchSmall_p5 = law06_SearchSmall_p4 := by kernel_rfl
theorem small_4 : law06_SearchSmall_p4 = law06_SearchSmall_p3 := by kernel_rfl
theorem small_3 : law06_SearchSmall_p3 = law06_SearchSmall_p2 := by kernel_rfl
theorem awake_true : law06_awake = some true := by kernel_rfl
theorem small_2 : law06_SearchSmall_p2 = some true := by kernel_rfl
theorem small_7 : law06_SearchSmall = law06_SearchSmall_p5 := by
  unfold law06_SearchSmall
  rw [small_loop]
  simp only [Option.bind_some]
theorem small_true : law06_SearchSmall = some true := small_7.trans (small_5.trans (small_4.trans (small_3.trans small_2)))
end Go.Dm
