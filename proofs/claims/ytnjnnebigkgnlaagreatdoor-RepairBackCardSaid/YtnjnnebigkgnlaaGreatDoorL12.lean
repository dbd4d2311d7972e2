import Derived.Test.YtnjnnebigkgnlaaGreatDoorL11
import Derived.ProofKit
import Derived.Carry
import Derived.OpenShut
import GoSem.ClaimGoes
import Derived.Test.YtnjnnebigkgnlaaGreatDoorL10
/- A small logic for calls: what is owned, what no longer changes; rules for each operation. -/
set_option maxRecDepth 1000000
set_option maxHeartbeats 40000000
set_option linter.unusedVariables false
set_option linter.unusedSimpArgs false
set_option linter.unnecessarySimpa false
namespace Go.Sl
open Go Go.RowKit Go.ChangeShapes Go.WideShapes
theorem C8K {w w' : World} (l : Le (hp w) (hp w')) : Below w.heap.size w w':=by
 have key : ∀ k,k < w.heap.size→w'.heap[k]? = w.heap[k]?:=fun k hk=>by
  have h:=Array.getElem?_eq_getElem hk
  rw [h]
  exact l.get k _ h
 refine ⟨l.os,l.tape,l.output,?_,key⟩
 by_cases h0 : w.heap.size = 0
 ·omega
 ·have:=key (w.heap.size - 1) (by omega)
  rw [Array.getElem?_eq_getElem (show w.heap.size - 1 < w.heap.size by omega)] at this
  have:=(Array.getElem?_eq_some_iff.1 this).1
  omega
theorem G8.below {P : Program} {f : FuncId} {args : List Value} {v0 : Value} {w : World} (s : G8 P f args (hp w) [] fun v _ _=>v = v0) : Calls P f args.toArray w fun e w'=>e = .returned v0∧w.keptBut w' (fun _=>False)∧Below w.heap.size w w':=by
 refine (s.2 w (Inv.all w)).mono ?_
 rintro e w' ⟨v,h',L',rfl,l,i,rfl⟩
 exact ⟨rfl,C6b (l.trans i.le),C8K (l.trans i.le)⟩
theorem C3g {W W' : World} (hb : Below W.heap.size W W') (a : Addr) (h : a.block < W.heap.size) : W'.frozen? a = W.frozen? a:=by
 unfold World.frozen?
 rw [hb.block _ h]
theorem C6Y {H : Type} {enc : TypeId×Value→H} {P : Program} {f : Func} {s : ChangeSpec} {apart fresh handsOn again : Bool} {W W' : World} {args : Array Value} {v : Value} {ds gs : List (DataW H)} {before : List MemPlace}
  (hW : DataW.Whole enc P f.params.toList s.vars apart W args.toList ds gs before) (hvn : s.vars = [])
  (hres : ∀ (b : Nat) (sp : Nat→Bool) (hd : Bool),DataW.TrodAll enc P W' b sp hd f.resultTypes.toList (v.resultList f.resultTypes.size) (s.fn H (ds ++ gs)).results [])
  (hargs : ∀ sp : Nat→Bool,(∀ p ∈ before,sp p.block = true)→DataW.TrodAll enc P W' 0 sp true f.params.toList args.toList (s.fn H (ds ++ gs)).args before)
  (hv0 : (s.fn H (ds ++ gs)).vars = [])
  (hk : W.keptBut W' (fun _=>False)) (hb : Below W.heap.size W W')
  (hok : ∀ (j : Nat) (t : TypeId) (r : Value),f.resultTypes[j]? = some t→(v.resultList f.resultTypes.size)[j]? = some r→Value.okWide P W' .any 0 t r) :
  s.post enc P f apart fresh handsOn again W args v W':=by
 have hold : ∀ p ∈ before,(fun b=>decide (b < W.heap.size)) p.block = true:=fun p hp=>by simpa using hW.lt p hp
 have hvars : ∀ sp : Nat→Bool,DataW.TrodVars enc P W' sp s.vars (s.fn H (ds ++ gs)).vars []:=fun sp=>by rw [hvn,hv0]; rfl
 have hW0:=hW
 refine ⟨ds,gs,before,[],before,[],hW,hres _ _ _,hargs _ hold,hvars _,World.keptBut_mono (fun p hp=>hp.elim) hk,fun _=>?_⟩
 obtain ⟨_,_,_,_,_,hz,hn⟩:=hW
 refine ⟨hok,_,_,([] ++ before) ++ [],⟨[] ++ before,[],trodAll_append (hargs _ (fun _ _=>rfl)) (hres _ _ _),hvars _,rfl,?_,?_⟩,?_⟩
 ·intro b off hp
  have hp' : MemPlace.cell b off ∈ before:=by simpa using hp
  rw [C3g hb ⟨b,off,none⟩ (by simpa [MemPlace.block] using hW0.lt _ hp')]
  exact hz b off hp'
 ·intro ha
  have:=hn ha
  simpa using this
 ·intro p hp _
  simpa using hp
theorem trod_below {H : Type} {enc : TypeId×Value→H} {P : Program} {t : TypeId} (hl : laidOutB P = true) (hr : P.readableRec t = true) (hrow : t < P.types.size) {W W' : World} {v : Value} {d : DataW H} {ps : List MemPlace} {sp : Nat→Bool}
  (h : DataW.Trod enc P W 0 (fun _=>true) true t v d ps) (hb : Below W.heap.size W W') (hlt : ∀ x ∈ ps,x.block < W.heap.size) (hs : ∀ x ∈ ps,sp x.block = true) :
  DataW.Trod enc P W' 0 sp true t v d ps:=
 WideElems.Trod_stays hl hr hrow h (fun x hx=>hb.same (hlt x hx)) hs
theorem B5r {H : Type} {enc : TypeId×Value→H} {P : Program} (hl : laidOutB P = true) {W W' : World} (hb : Below W.heap.size W W') {sp : Nat→Bool} :
  ∀ {ts : List TypeId} {vs : List Value} {ds : List (DataW H)} {ps : List MemPlace},(ts.all fun t=>P.readableRec t && decide (t < P.types.size)) = true→DataW.TrodAll enc P W 0 (fun _=>true) true ts vs ds ps→
  (∀ x ∈ ps,x.block < W.heap.size)→(∀ x ∈ ps,sp x.block = true)→DataW.TrodAll enc P W' 0 sp true ts vs ds ps
 | [],vs,ds,ps,_,h,_,_=>by
  obtain ⟨rfl,rfl,rfl⟩:=trodAll_nil h
  rfl
 | t::ts,vs,ds,ps,ht,h,hlt,hs=>by
  obtain ⟨v,vs',d,ds',p,q,rfl,rfl,rfl,hd,hr⟩:=trodAll_cons h
  simp only [List.all_cons,Bool.and_eq_true,decide_eq_true_eq] at ht
  exact trodAll_cons_mk (trod_below hl ht.1.1 ht.1.2 hd hb (fun x hx=>hlt x (List.mem_append_left _ hx)) (fun x hx=>hs x (List.mem_append_left _ hx)))
   (B5r hl hb ht.2 hr (fun x hx=>hlt x (List.mem_append_right _ hx)) (fun x hx=>hs x (List.mem_append_right _ hx)))
theorem D0Y {v : Value} {cs : List Value} (h : v.cells.toList = cs) (hl : cs.length ≠ 1) : v = .agg cs.toArray:=by
 subst h
 cases v <;> first | rfl | exact absurd rfl hl
theorem D0X {v a : Value} (h : v.cells.toList = [a]) (ha : ∀ cs,v ≠ .agg cs) : v = a:=by
 cases v <;> first | exact (List.cons.inj h).1 | exact absurd rfl (ha _)
theorem C7l {P : Program} (h : P.funcs.toList.any Func.goes = false) (f : FuncId) : P.goes f = false:=by
 have h' : ∀ fn ∈ P.funcs.toList,Func.goes fn = false:=fun fn hf=>by
  cases hg : Func.goes fn with
  | false=>rfl
  | true=>rw [List.any_eq_true.2 ⟨fn,hf,hg⟩] at h; cases h
 have h1 : ∀ g : FuncId,(P.funcs[g]?).any Func.goes = false:=fun g=>by
  cases hg : P.funcs[g]? with
  | none=>rfl
  | some fn=>exact h' fn (Array.mem_toList_iff.2 (Array.mem_of_getElem? hg))
 unfold Program.goes
 rw [←Array.any_toList,h]
 simp [h1]
theorem C5l {P : Program} {c : OpenClaim} (h : P.funcs.toList.any Func.goes = false) (hs : c.start = .entering) : false = c.goesBy P:=by
 unfold OpenClaim.goesBy Program.goesAt Program.goesFrom
 rw [hs]
 cases P.funcNamed c.func with
 | none=>rfl
 | some f=>simp [C7l h]
end Go.Sl
namespace Go.Sl
open Go
abbrev qi (n : Int) : Value:=.int .i64 n
abbrev qp (b : Nat) : Value:=.pointer (some ⟨b,0,none⟩)
abbrev qs : Value:=.slice none 0 0
abbrev qe : ByteArray:=⟨#[]⟩
def PT.vs : List Nat→PT→PT
 | [],t=>t
 | i::l,t=>.v i (PT.vs l t)
theorem bE {α β : Type} {x : Option α} {f : α→Option β} {b : β} {p : Prop} (H : Option.bind x f = some b) (k : ∀ a,x = some a→f a = some b→p) : p:=by
 obtain ⟨a,e,h⟩:=bnd H
 exact k a e h
section
variable {ro : Option Nat} {P : Program} {n : Nat} {D : List Deferred} {ρ : Env} {h : PH} {L : List E9} {Q : Exit→Act→World→Prop}
variable {K : Act→World→Prop} {ty : TypeId} {pos : String} {af : Array Edge} {g : Option (Nat×Bool)}
theorem O.b1 {α : Type} {E : Vr α} {y : α} {dd : Nat} {t et by_ : Nat} {x : Operand} {v zv : Value} (ht : A0X P t = some (et,1,by_)) (hz : zer P et = some zv) (hzs : Nat.beq zv.cells.size 1 = true) (e : ev ρ x = some v) (hE : E h [v] y) (hv : v.cells = [v].toArray) (hd : Nat.blt dd n = true)
  (kk : ∀ b,A7 E h [[v]] [y]→T n D ((dd,.slice (some ⟨b,0,none⟩) 1 1)::ρ) h (D5 et 1 (.slice (some ⟨b,0,none⟩) 1 1) [[v]]::L) K) :
  T n D ρ h L (fun a w=>Oper.wr ⟨some dd,.buildSlice t 1 (((List.range' 0 [x].length).zip [x]).toArray),ty,pos,af,g⟩ ro P a w K Q):=
 O.bs (k:=1) (xs:=[x]) (css:=[[v]]) ht hz (by rw [hzs]; rfl) (e:=by simp [evs,e]) (hk:=rfl) (hv:=CO.eq (CO.cons hv CO.nil)) (hw:=O4.of rfl) (hd:=hd) fun b=>kk b (A7.cons hE A7.nil)
theorem T.ag {α : Type} {h₀ h' : PH} {st : α→Env} {Ls : α→List E9} {pre : α→PH→Prop} {μ : α→Nat} {x : α} (y : α) (hpre : pre y h') (hl : Le h₀ h':=by exact Li) (hlt : μ y < μ x:=by exact Nat.lt_succ_self _)
  (hρ : A7O ρ (st y):=by repeat' first | exact trivial | refine ⟨rfl,?_⟩ | refine A7O.app ?_ ?_) (hL : L = Ls y:=by rfl) : T n D ρ h' L (C6o n D h₀ st Ls pre μ x):=T.again y hl hlt hpre hρ hL
theorem T.mt {α : Type} {h₀ h' : PH} {st : α→Env} {Ls : α→List E9} {pre : α→PH→Prop} (y : α) (hpre : pre y h') (hl : Le h₀ h':=by exact Li)
  (hρ : A7O ρ (st y):=by repeat' first | exact trivial | refine ⟨rfl,?_⟩ | refine A7O.app ?_ ?_) (hL : L = Ls y:=by rfl) : T n D ρ h' L (Met n D h₀ st Ls pre):=T.met y hl hpre hρ hL
end
section
variable {P : Program} {fn : Func} {n : Nat} {ρ : Env} {h₀ h : PH} {L : List E9} {R : Value→PH→List E9→Prop}
theorem T.rl {rs : List ResultVar} {vs : List Value} (hr : fn.results = rs.toArray) (hv : RVs P (XI h L) ρ rs vs) (hR : R (B7s vs) h L) (hl : Le h₀ h:=by exact Li) :
  T n [] ρ h L (bodyPost P fn (fun e w'=>∃ v h' L',e = .returned v∧Le h₀ h'∧Inv w' h' L'∧R v h' L') .ret):=T.D3d hr hv hl hR
end
end Go.Sl
namespace Go.Sl
open Go
theorem E1 {β : Type} {x : Option β} {r : β} {P : Prop} (H : x = some r) (k : x = some r→P:=by
 intro H; cases H
 first | exact T.rl z (Rv z) ⟨z,z⟩ | exact T.rl z (RVs.cons (RV.tmp z) (Rv z)) ⟨z,z⟩ | exact T.rl z (RVs.cons (RV.tmp z) (RVs.cons (RV.tmp z) (Rv z))) ⟨z,z⟩) : P:=k H
section
variable {ro : Option Nat} {P : Program} {n : Nat} {D : List Deferred} {ρ : Env} {h : PH} {L : List E9} {Q : Exit→Act→World→Prop}
variable {K : Act→World→Prop}
theorem Ks (k : T n D ρ h L K) : T n D ρ h L (Code.skip.wr ro P (Exit.then K Q)):=T.skip (T.thN k)
end
end Go.Sl
