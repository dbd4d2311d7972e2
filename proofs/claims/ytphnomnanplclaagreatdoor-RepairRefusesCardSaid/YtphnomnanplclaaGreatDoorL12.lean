import Derived.Test.YtphnomnanplclaaGreatDoorL11
import Derived.ProofKit
import Derived.Carry
import Derived.OpenShut
import GoSem.ClaimGoes
/- A small logic for calls: what is owned, what no longer changes; rules for each operation. -/
set_option maxRecDepth 1000000
set_option maxHeartbeats 40000000
set_option linter.unusedVariables false
set_option linter.unusedSimpArgs false
set_option linter.unnecessarySimpa false
namespace Go.Sl
open Go Go.RowKit Go.ChangeShapes Go.WideShapes
theorem C5I {w w' : World} (l : Le (hp w) (hp w')) : Below w.heap.size w w':=by
  have key : ∀ k,k < w.heap.size→w'.heap[k]? = w.heap[k]?:=fun k hk=>by
    have h:=Array.getElem?_eq_getElem hk
    rw [h]
    exact l.get k _ h
  refine ⟨l.os,l.tape,l.output,?_,key⟩
  by_cases h0 : w.heap.size = 0
  · omega
  · have:=key (w.heap.size - 1) (by omega)
    rw [Array.getElem?_eq_getElem (show w.heap.size - 1 < w.heap.size by omega)] at this
    have:=(Array.getElem?_eq_some_iff.1 this).1
    omega
theorem H5.below {P : Program} {f : FuncId} {args : List Value} {v0 : Value} {w : World} (s : H5 P f args (hp w) [] fun v _ _=>v = v0) : Calls P f args.toArray w fun e w'=>e = .returned v0∧w.keptBut w' (fun _=>False)∧Below w.heap.size w w':=by
  refine (s.2 w (Inv.all w)).mono ?_
  rintro e w' ⟨v,h',L',rfl,l,i,rfl⟩
  exact ⟨rfl,C3S (l.trans i.le),C5I (l.trans i.le)⟩
theorem C2b {W W' : World} (hb : Below W.heap.size W W') (a : Addr) (h : a.block < W.heap.size) : W'.frozen? a = W.frozen? a:=by
  unfold World.frozen?
  rw [hb.block _ h]
theorem C5m {H : Type} {enc : TypeId×Value→H} {P : Program} {f : Func} {s : ChangeSpec} {apart fresh handsOn again : Bool} {W W' : World} {args : Array Value} {v : Value} {ds gs : List (DataW H)} {before : List MemPlace}
    (hW : DataW.Whole enc P f.params.toList s.vars apart W args.toList ds gs before) (hvn : s.vars = [])
    (hres : ∀ (b : Nat) (sp : Nat→Bool) (hd : Bool),DataW.TrodAll enc P W' b sp hd f.resultTypes.toList (v.resultList f.resultTypes.size) (s.fn H (ds ++ gs)).results [])
    (hargs : ∀ sp : Nat→Bool,(∀ p ∈ before,sp p.block = true)→DataW.TrodAll enc P W' 0 sp true f.params.toList args.toList (s.fn H (ds ++ gs)).args before)
    (hv0 : (s.fn H (ds ++ gs)).vars = [])
    (hk : W.keptBut W' (fun _=>False)) (hb : Below W.heap.size W W')
    (hok : ∀ (j : Nat) (t : TypeId) (r : Value),f.resultTypes[j]? = some t→(v.resultList f.resultTypes.size)[j]? = some r→Value.okWide P W' .any 0 t r) :
    s.post enc P f apart fresh handsOn again W args v W':=by
  have hold : ∀ p ∈ before,(fun b=>decide (b < W.heap.size)) p.block = true:=fun p hp=>by simpa using hW.lt p hp
  have hvars : ∀ sp : Nat→Bool,DataW.TrodVars enc P W' sp s.vars (s.fn H (ds ++ gs)).vars []:=fun sp=>by rw [hvn,hv0]; rfl
  have hW0:=hW
  refine ⟨ds,gs,before,[],before,[],hW,hres _ _ _,hargs _ hold,hvars _,World.keptBut_mono (fun p hp=>hp.elim) hk,fun _=>?_⟩
  obtain ⟨_,_,_,_,_,hz,hn⟩:=hW
  refine ⟨hok,_,_,([] ++ before) ++ [],⟨[] ++ before,[],trodAll_append (hargs _ (fun _ _=>rfl)) (hres _ _ _),hvars _,rfl,?_,?_⟩,?_⟩
  · intro b off hp
    have hp' : MemPlace.cell b off ∈ before:=by simpa using hp
    rw [C2b hb ⟨b,off,none⟩ (by simpa [MemPlace.block] using hW0.lt _ hp')]
    exact hz b off hp'
  · intro ha
    have:=hn ha
    simpa using this
  · intro p hp _
    simpa using hp
theorem trod_below {H : Type} {enc : TypeId×Value→H} {P : Program} {t : TypeId} (hl : laidOutB P = true) (hr : P.readableRec t = true) (hrow : t < P.types.size) {W W' : World} {v : Value} {d : DataW H} {ps : List MemPlace} {sp : Nat→Bool}
    (h : DataW.Trod enc P W 0 (fun _=>true) true t v d ps) (hb : Below W.heap.size W W') (hlt : ∀ x ∈ ps,x.block < W.heap.size) (hs : ∀ x ∈ ps,sp x.block = true) :
    DataW.Trod enc P W' 0 sp true t v d ps:=
  WideElems.Trod_stays hl hr hrow h (fun x hx=>hb.same (hlt x hx)) hs
theorem B3z {H : Type} {enc : TypeId×Value→H} {P : Program} (hl : laidOutB P = true) {W W' : World} (hb : Below W.heap.size W W') {sp : Nat→Bool} :
    ∀ {ts : List TypeId} {vs : List Value} {ds : List (DataW H)} {ps : List MemPlace},(ts.all fun t=>P.readableRec t && decide (t < P.types.size)) = true→DataW.TrodAll enc P W 0 (fun _=>true) true ts vs ds ps→
    (∀ x ∈ ps,x.block < W.heap.size)→(∀ x ∈ ps,sp x.block = true)→DataW.TrodAll enc P W' 0 sp true ts vs ds ps
  | [],vs,ds,ps,_,h,_,_=>by
    obtain ⟨rfl,rfl,rfl⟩:=trodAll_nil h
    rfl
  | t::ts,vs,ds,ps,ht,h,hlt,hs=>by
    obtain ⟨v,vs',d,ds',p,q,rfl,rfl,rfl,hd,hr⟩:=trodAll_cons h
    simp only [List.all_cons,Bool.and_eq_true,decide_eq_true_eq] at ht
    exact trodAll_cons_mk (trod_below hl ht.1.1 ht.1.2 hd hb (fun x hx=>hlt x (List.mem_append_left _ hx)) (fun x hx=>hs x (List.mem_append_left _ hx)))
      (B3z hl hb ht.2 hr (fun x hx=>hlt x (List.mem_append_right _ hx)) (fun x hx=>hs x (List.mem_append_right _ hx)))
theorem C7f {v : Value} {cs : List Value} (h : v.cells.toList = cs) (hl : cs.length ≠ 1) : v = .agg cs.toArray:=by
  subst h
  cases v <;> first | rfl | exact absurd rfl hl
theorem C7B {v a : Value} (h : v.cells.toList = [a]) (ha : ∀ cs,v ≠ .agg cs) : v = a:=by
  cases v <;> first | exact (List.cons.inj h).1 | exact absurd rfl (ha _)
theorem C5f {P : Program} (h : P.funcs.toList.any Func.goes = false) (f : FuncId) : P.goes f = false:=by
  have h' : ∀ fn ∈ P.funcs.toList,Func.goes fn = false:=fun fn hf=>by
    cases hg : Func.goes fn with
    | false=>rfl
    | true=>rw [List.any_eq_true.2 ⟨fn,hf,hg⟩] at h; cases h
  have h1 : ∀ g : FuncId,(P.funcs[g]?).any Func.goes = false:=fun g=>by
    cases hg : P.funcs[g]? with
    | none=>rfl
    | some fn=>exact h' fn (Array.mem_toList_iff.2 (Array.mem_of_getElem? hg))
  unfold Program.goes
  rw [←Array.any_toList,h]
  simp [h1]
theorem C2R {P : Program} {c : OpenClaim} (h : P.funcs.toList.any Func.goes = false) (hs : c.start = .entering) : false = c.goesBy P:=by
  unfold OpenClaim.goesBy Program.goesAt Program.goesFrom
  rw [hs]
  cases P.funcNamed c.func with
  | none=>rfl
  | some f=>simp [C5f h]
end Go.Sl
