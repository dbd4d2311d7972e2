import Derived.Test.YthchjfilgaondaaGreatL10
import Derived.ChangeArms
/- Rules. -/
set_option maxRecDepth 1000000
set_option maxHeartbeats 40000000
set_option linter.unusedVariables false
set_option linter.unusedSimpArgs false
set_option linter.unusedSectionVars false
set_option linter.unnecessarySimpa false
namespace Go.Sl
open Go
section
variable {H:Type} {enc:TypeId×Value→H} {P:Program} {w:World} {spare:Nat→Bool} {held:Bool} {t e:TypeId}
def Rd (enc:TypeId×Value→H) (P:Program) (w:World) (spare:Nat→Bool) (held:Bool) {α:Type} (t:TypeId) (E:Vr α) (W:α→Prop):Prop:=
 ∀ n cs x,DataW.trod enc P w 0 spare held n t cs=some x→∃ y,E (hp w) cs y∧W y
theorem rdI {k:IntKind} (ht:P.underlying t=some (.int k)):Rd enc P w spare held t (VI k) (λn=>(Lit.int k n).wf=true):=λn cs x h=>
 let ⟨m,e,_,f⟩:=DataW.trod_int ht h
 ⟨m,e,f⟩
theorem C6l {α:Type} {f:Nat→Option α}:∀ {n:Nat} {ys:List α},(List.range n).mapM f=some ys→ys.length=n∧∀ i,i<n→f i=ys[i]?:=by
 intro n ys h
 exact ⟨by simpa using mapM_some_length h,λi hi=>mapM_some_get h i i (by simp [hi])⟩
theorem C5C (a:Addr) (i:Nat):(a.add i).block=a.block:=by unfold Addr.add; split <;> rfl
theorem D0l (a:Addr) (i:Nat):(a.add i).off=a.off+i:=by
 unfold Addr.add
 split
 ·rename_i h; subst h; rfl
 ·rfl
theorem C7p (a:Addr):a.add 0=a:=by unfold Addr.add; simp
theorem C7z {a:Addr} {v:Value} (hv:w.cell? a=some v):∃ bs t fr,w.heap[a.block]?=some (.cells bs t fr)∧a.spot=none∧bs[a.off]?=some v:=by
 unfold World.cell? at hv
 split at hv
 ·rename_i c tt fr hc
  cases hq:a.spot with
  | none=>simp [hq] at hv; exact ⟨c,tt,fr,hc,rfl,hv⟩
  | some _=>simp [hq] at hv
 ·cases hv
theorem C2O {a:Addr} {n:Nat} {cs:List Value} (hn:0<n) (h:w.cells? 0 a n=some cs):cs.length=n∧Y2 (hp w) a cs:=by
 unfold World.cells? at h
 rw [if_pos (Nat.zero_le _)] at h
 obtain ⟨hl,hg⟩:=C6l h
 refine ⟨hl,?_⟩
 have cell:∀ i,i<n→∃ v,w.cell? (a.add i)=some v∧cs[i]?=some v:=λi hi=>by
  have:=hg i hi
  rw [List.getElem?_eq_getElem (by omega)] at this ⊢
  exact ⟨_,this,rfl⟩
 obtain ⟨v0,h0,_⟩:=cell 0 hn
 rw [C7p] at h0
 obtain ⟨bs,tt,fr,hb,hs,_⟩:=C7z h0
 refine ⟨hs,bs,tt,fr,hb,λi v hv=>?_⟩
 have hi:i<n:=by rw [←hl]; exact (List.getElem?_eq_some_iff.1 hv).1
 obtain ⟨v',h1,h2⟩:=cell i hi
 obtain ⟨bs',tt',fr',hb',_,hx⟩:=C7z h1
 rw [C5C,hb] at hb'
 rw [D0l] at hx
 cases hb'
 rw [h2] at hv
 cases hv
 exact hx
theorem D4o {α:Type} {A:Nat→α→Prop} {len:Nat} (each:∀ i,i<len→∃ y,A i y):∃ ys:List α,ys.length=len∧∀ i,i<len→∃ y,ys[i]?=some y∧A i y:=by
 induction len with
 | zero=>exact ⟨[],rfl,λi hi=>by omega⟩
 | succ k ih=>
  obtain ⟨ys,hl,hy⟩:=ih (λi hi=>each i (by omega))
  obtain ⟨y,a1⟩:=each k (by omega)
  refine ⟨ys++[y],by simp [hl],λi hi=>?_⟩
  by_cases hk:i=k
  ·subst hk
   exact ⟨y,by simp [←hl],a1⟩
  ·obtain ⟨y',b1,b2⟩:=hy i (by omega)
   exact ⟨y',by rw [List.getElem?_append_left (by omega)]; exact b1,b2⟩
theorem rdL {α:Type} {E:Vr α} {W:α→Prop} {sz:Nat} (hz:0<sz) (ht:P.underlying t=some (.slice e)) (hc:P.cellsOf e=sz) (he:Rd enc P w spare held e E W) {n:Nat} {cs:List Value} {x:DataW H×List MemPlace}
  (h:DataW.trod enc P w 0 spare held n t cs=some x):∃ v xs,cs=[v]∧G9 E sz (hp w) v xs∧xs.length≤maxLen∧∀ y∈xs,W y:=by
 rcases DataW.trod_slice ht h with ⟨rfl,_⟩ | ⟨a,len,cap,elems,rest,m,rfl,rfl,_,_,hlc,hcm,hel,hg,_,_⟩
 ·exact ⟨_,[],rfl,G9.nil,Nat.zero_le _,λy hy=>by cases hy⟩
 ·rw [hc] at hg
  have each:∀ i,i<len→∃ y,∃ ds,w.cells? 0 (a.add (i*sz)) sz=some ds∧E (hp w) ds y∧W y:=λi hi=>by
   have:=hg i hi
   rw [List.getElem?_eq_getElem (by omega)] at this
   obtain ⟨ds,hd,ht⟩:=Option.bind_eq_some_iff.1 this
   obtain ⟨y,hy⟩:=he m ds _ ht
   exact ⟨y,ds,hd,hy⟩
  have pick:=D4o each
  obtain ⟨ys,hl,hy⟩:=pick
  subst hl
  refine ⟨_,ys,rfl,⟨⟨some a,cap,rfl,hlc,λhne=>?_⟩,λi y hi=>?_⟩,Nat.le_trans hlc hcm,λy hy'=>?_⟩
  ·obtain ⟨y,_,ds,hd,_⟩:=hy 0 (by cases ys with | nil=>exact absurd rfl hne | cons _ _=>simp)
   obtain ⟨_,hat⟩:=C2O hz hd
   rw [Nat.zero_mul,C7p] at hat
   refine ⟨a.block,a.off,?_⟩
   rw [←hat.1]
  ·obtain ⟨y',h1,ds,hd,h2,_⟩:=hy i (List.getElem?_eq_some_iff.1 hi).1
   rw [hi] at h1
   cases h1
   obtain ⟨hl,hat⟩:=C2O hz hd
   refine ⟨ds,hl,?_,h2⟩
   have:A0K (.slice (some a) ys.length cap) i sz=a.add (i*sz):=by
    show (⟨a.block,a.off+i*sz,none⟩:Addr)=_
    rw [←hat.1,←C5C a (i*sz),←D0l a (i*sz)]
   rw [this]
   exact hat
  ·obtain ⟨i,hi⟩:=List.getElem?_of_mem hy'
   obtain ⟨y',h1,ds,_,_,h2⟩:=hy i (List.getElem?_eq_some_iff.1 hi).1
   rw [hi] at h1
   cases h1
   exact h2
end
end Go.Sl
