import Derived.Test.YtdbhilnjelhcpaaGreatL9
import Derived.ChangeSame
/- A small logic for calls: what is owned, what no longer changes; rules for each operation. -/
set_option maxRecDepth 1000000
set_option maxHeartbeats 40000000
set_option linter.unusedVariables false
set_option linter.unusedSimpArgs false
set_option linter.unnecessarySimpa false
namespace Go.Sl
open Go Go.ChangeShapes
theorem keptBut_of {w w' : World} (l : Le (hp w) (hp w')) : w.keptBut w' (fun _ => False) := by
  refine ⟨l.os, l.output, fun i hi => ?_⟩
  have h1 : w.heap[i]? = some w.heap[i] := Array.getElem?_eq_getElem hi
  have h2 : w'.heap[i]? = some w.heap[i] := l.get i _ h1
  rw [h1, h2]
  cases w.heap[i] with
  | cells c t fr => exact ⟨rfl, rfl, rfl, fun _ _ => rfl⟩
  | map es c => exact .inr ⟨rfl, rfl⟩
  | _ => rfl
theorem FnS.imp' {P : Program} {f : FuncId} {args : List Value} {h : PH} {L : List HProp} {R R' : Value → PH → List HProp → Prop} (s : FnS P f args h L R) (q : ∀ v g M, R v g M → R' v g M) : FnS P f args h L R' :=
  ⟨s.1, fun w i => (s.2 w i).mono fun e w' ⟨v, g, M, he, l, j, r⟩ => ⟨v, g, M, he, l, j, q _ _ _ r⟩⟩
theorem FnS.kept {P : Program} {f : FuncId} {args : List Value} {v0 : Value} {w : World} (s : FnS P f args (hp w) [] fun v _ _ => v = v0) : Calls P f args.toArray w fun e w' => e = .returned v0 ∧ w.keptBut w' (fun _ => False) := by
  refine (s.2 w (Inv.all w)).mono ?_
  rintro e w' ⟨v, h', L', rfl, l, i, rfl⟩
  exact ⟨rfl, keptBut_of (l.trans i.le)⟩
theorem post_closed {H : Type} {enc : TypeId × Value → H} {P : Program} {f : Func} {s : ChangeSpec} {apart fresh handsOn again : Bool} {W W' : World} {args : Array Value} {v : Value} {ds gs : List (DataW H)}
    (hW : DataW.Whole enc P f.params.toList s.vars apart W args.toList ds gs [])
    (hres : ∀ (b : Nat) (sp : Nat → Bool) (hd : Bool), DataW.TrodAll enc P W' b sp hd f.resultTypes.toList (v.resultList f.resultTypes.size) (s.fn H (ds ++ gs)).results [])
    (hargs : ∀ sp : Nat → Bool, DataW.TrodAll enc P W' 0 sp true f.params.toList args.toList (s.fn H (ds ++ gs)).args [])
    (hvars : ∀ sp : Nat → Bool, DataW.TrodVars enc P W' sp s.vars (s.fn H (ds ++ gs)).vars [])
    (hk : W.keptBut W' (fun _ => False))
    (hok : ∀ (j : Nat) (t : TypeId) (r : Value), f.resultTypes[j]? = some t → (v.resultList f.resultTypes.size)[j]? = some r → Value.okWide P W' .any 0 t r) :
    s.post enc P f apart fresh handsOn again W args v W' := by
  refine ⟨ds, gs, [], [], [], [], hW, hres _ _ _, hargs _, hvars _, World.keptBut_mono (fun p hp => hp.elim) hk, fun _ => ?_⟩
  obtain ⟨_, _, _, _, _, hz, hn⟩ := hW
  refine ⟨hok, _, _, ([] ++ []) ++ [], ⟨[] ++ [], [], trodAll_append (hargs _) (hres _ _ _), hvars _, rfl, ?_, ?_⟩, ?_⟩
  · intro b off hp; simp at hp
  · intro ha; have := hn ha; simpa using this
  · intro p hp _; simp at hp
end Go.Sl
