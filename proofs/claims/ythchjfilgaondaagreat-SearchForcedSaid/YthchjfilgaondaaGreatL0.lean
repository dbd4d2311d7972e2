import Derived.Deep.LoopGhost
import Derived.Sort.LoopGhostIn
import Derived.Orders
import Derived.OrdersIn
import Derived.TacticsIn
import Derived.CallsIn
import Derived.ControlIn
import Derived.Tactics
/- Rules. -/
set_option maxRecDepth 1000000
set_option maxHeartbeats 40000000
set_option linter.unusedVariables false
set_option linter.unusedSimpArgs false
set_option linter.unusedSectionVars false
set_option linter.unnecessarySimpa false
namespace Go
def Fen (r:Option Nat):Fence:={ Fence.wide with round:=r }
def Code.wr (c:Code) (r:Option Nat) (P:Program) (Q:Exit→Act→World→Prop) (a:Act) (w:World):Prop:=c.wpIn (Fen r) 0 P Q a w
def Oper.wr (o:Oper) (r:Option Nat) (P:Program) (a:Act) (w:World) (K:Act→World→Prop) (Q:Exit→Act→World→Prop):Prop:=o.wpIn (Fen r) 0 P a w K Q
def lwr (r:Option Nat) (P:Program) (ops:Array Oper) (Q:Exit→Act→World→Prop) (l:List Oper) (a:Act) (w:World):Prop:=wpListIn (Fen r) 0 P ops Q l a w
def opr (r:Option Nat) (P:Program) (ops:Array Oper) (Q:Exit→Act→World→Prop) (i:Nat) (K:Act→World→Prop) (a:Act) (w:World):Prop:=wpOpIn (Fen r) 0 P ops Q i K a w
theorem Fen.room (r:Option Nat) (n:Nat):(Fen r).room n:=λ_ h=>by simp [Fen,Fence.wide] at h
theorem Fen.depth (r:Option Nat):(Fen r).depth.isSome=true→1≤0:=λh=>by simp [Fen,Fence.wide] at h
section
variable {r:Option Nat} {P:Program} {Q:Exit→Act→World→Prop} {K:Act→World→Prop} {a:Act} {w w':World} {o:Oper}
theorem B8X {n:Nat} {f:FuncId} {args:Array Value} {R:Ending→World→Prop} (h:Calls P f args w R):CallsIn (Fen r) n P f args w R:=
 have h':=(callsIn_wide (n:=n)).2 h
 ⟨trivial,λcs _=>h'.2 cs (room_wide _)⟩
theorem C2W {n:Nat} {f:FuncId} {args:Array Value} {R:Ending→World→Prop} (h:CallsIn (Fen r) n P f args w R):Calls P f args w R:=
 (callsIn_wide (n:=n)).1 ⟨trivial,λcs _=>h.2 cs (Fen.room r _)⟩
theorem B9R {c:Code}:c.wr none P Q a w↔c.wp P Q a w:=wpIn_wide
theorem C8n {v:Value} (e:(execOp a.eval o).run P w=.ok (.value v) w'):∀ c,o.op≠.defer c:=by
 intro c h
 unfold execOp at e
 rw [h] at e
 simp only [Sem.run_bind] at e
 cases hr:(resolve a.eval c o.type).run P w <;> simp [hr,Result.andThen] at e
theorem C1x (e:(execOp a.eval o).run P w=.ok .skip w'):∀ c,o.op≠.defer c:=by
 intro c h
 unfold execOp at e
 rw [h] at e
 simp only [Sem.run_bind] at e
 cases hr:(resolve a.eval c o.type).run P w <;> simp [hr,Result.andThen] at e
theorem B9C {f:FuncId} {args:Array Value} (e:(execOp a.eval o).run P w=.ok (.enter f args) w'):∀ c,o.op≠.defer c:=by
 intro c h
 unfold execOp at e
 rw [h] at e
 simp only [Sem.run_bind] at e
 cases hr:(resolve a.eval c o.type).run P w <;> simp [hr,Result.andThen] at e
theorem A0j {v:Value} (e:(execOp a.eval o).run P w=.ok (.value v) w') (k:K (a.put o.dst v) w'):o.wr r P a w K Q:=by
 refine ⟨λ_ _=>trivial,?_⟩
 rw [Oper.semAt_eq _ _ _ (C8n e),e]; exact k
theorem B3z (e:(execOp a.eval o).run P w=.ok .skip w') (k:K (a.put o.dst undef) w'):o.wr r P a w K Q:=by
 refine ⟨λ_ _=>trivial,?_⟩
 rw [Oper.semAt_eq _ _ _ (C1x e),e]; exact k
theorem B8O {f:FuncId} {args:Array Value} (e:(execOp a.eval o).run P w=.ok (.enter f args) w') (k:Calls P f args w' fun
   | .returned v,w''=>K (a.put o.dst v) w''
   | .panicked chain,w''=>Q (.panic chain) a w''
   | .outgrown,_=>LetsOut Q):o.wr r P a w K Q:=by
 refine ⟨λ_ _=>trivial,?_⟩
 rw [Oper.semAt_eq _ _ _ (B9C e),e]; exact ⟨Fen.depth r,B8X k⟩
theorem D3b {ops:Array Oper} {rest:List Oper} (hw:Region.wanted o (yielded ops a.tmps)=true) (k:o.wr r P a w (lwr r P ops Q rest) Q):lwr r P ops Q (o::rest) a w:=by
 unfold lwr wpListIn; rw [if_pos hw]; exact k
theorem C9S {ops:Array Oper} {rest:List Oper} (hw:Region.wanted o (yielded ops a.tmps)=false) (k:lwr r P ops Q rest (a.put o.dst undef) w):lwr r P ops Q (o::rest) a w:=by
 unfold lwr wpListIn; rw [if_neg (by rw [hw]; simp)]; exact ⟨λ_ _=>trivial,k⟩
theorem C9I {ops:Array Oper} {i:Nat} (hi:ops[i]?=some o) (hw:Region.wanted o (yielded ops a.tmps)=true) (k:o.wr r P a w K Q):opr r P ops Q i K a w:=by
 unfold opr wpOpIn; simp only [hi]; rw [if_pos hw]; exact k
theorem C6a {ops:Array Oper} {i:Nat} (hi:ops[i]?=some o) (hw:Region.wanted o (yielded ops a.tmps)=false) (k:K (a.put o.dst undef) w):opr r P ops Q i K a w:=by
 unfold opr wpOpIn; simp only [hi]; rw [if_neg (by rw [hw]; simp)]; exact ⟨λ_ _=>trivial,k⟩
theorem B7w {ops:Array Oper} {i:Nat} {K':Act→World→Prop} (h:∀ a w,K a w→K' a w) (hh:opr r P ops Q i K a w):opr r P ops Q i K' a w:=wpOpIn_mono h hh
end
end Go
namespace Go.Sl
open Go
structure PH where
 m:Nat→Option Obj
 os:Os
 tape:Nat→Question→Nat
 output:Array (Nat×ByteArray)
class Le (h:semiOutParam PH) (g:PH):Prop where
 get:∀ b o,h.m b=some o→g.m b=some o
 os:g.os=h.os
 tape:g.tape=h.tape
 output:g.output=h.output
theorem Le.refl (h:PH):Le h h:=⟨λ_ _ x=>x,rfl,rfl,rfl⟩
theorem Le.trans {a b c:PH} (h:Le a b) (k:Le b c):Le a c:=
 ⟨λx o e=>k.get x o (h.get x o e),k.os.trans h.os,k.tape.trans h.tape,k.output.trans h.output⟩
def hp (w:World):PH:=⟨λb=>w.heap[b]?,w.os,w.tape,w.output⟩
abbrev B9E:=Nat→Option Obj
abbrev E5:=B9E→Prop
def FLe (m m':B9E):Prop:=∀ b o,m b=some o→m' b=some o
def Dj (m m':B9E):Prop:=∀ b,m b=none∨m' b=none
def sep:List E5→B9E→Prop
 | [],_=>True
 | A::L,m=>∃ m1 m2,Dj m1 m2∧FLe m1 m∧FLe m2 m∧A m1∧sep L m2
def blk (b:Nat) (o:Obj):E5:=λm=>m b=some o
theorem FLe.trans {a b c:B9E} (h:FLe a b) (k:FLe b c):FLe a c:=λx o e=>k x o (h x o e)
theorem Dj.le {a b b':B9E} (h:Dj a b) (k:FLe b' b):Dj a b':=λx=>by
 rcases h x with h | h
 ·exact .inl h
 ·right
  cases hb:b' x with
  | none=>rfl
  | some o=>rw [k x o hb] at h; cases h
theorem sep.mono {L:List E5} {m m':B9E} (h:sep L m) (k:FLe m m'):sep L m':=by
 cases L with
 | nil=>trivial
 | cons A L=>obtain ⟨m1,m2,d,l1,l2,a,s⟩:=h; exact ⟨m1,m2,d,l1.trans k,l2.trans k,a,s⟩
theorem sep.at {L:List E5} {m:B9E} (h:sep L m):∀ {i:Nat} {A:E5},L[i]?=some A→∃ m1,FLe m1 m∧A m1:=by
 induction L generalizing m with
 | nil=>intro i A e; simp at e
 | cons B L ih=>
  intro i A e
  obtain ⟨m1,m2,d,l1,l2,a,s⟩:=h
  cases i with
  | zero=>simp at e; subst e; exact ⟨m1,l1,a⟩
  | succ i=>simp at e; obtain ⟨m',l',a'⟩:=ih s e; exact ⟨m',l'.trans l2,a'⟩
theorem sep.front {L:List E5} {m:B9E} (h:sep L m):∀ {i:Nat} {A:E5},L[i]?=some A→sep (A::L.eraseIdx i) m:=by
 induction L generalizing m with
 | nil=>intro i A e; simp at e
 | cons B L ih=>
  intro i A e
  obtain ⟨m1,m2,d,l1,l2,a,s⟩:=h
  cases i with
  | zero=>simp at e; subst e; exact ⟨m1,m2,d,l1,l2,a,s⟩
  | succ i=>
   simp at e
   obtain ⟨n1,n2,d',k1,k2,a',s'⟩:=ih s e
   refine ⟨n1,λb=>(m1 b).or (n2 b),?_,k1.trans l2,?_,a',m1,n2,d.le k2,?_,?_,a,s'⟩
   ·intro b
    rcases d' b with x | x
    ·exact .inl x
    ·cases hn:n1 b with
     | none=>exact .inl rfl
     | some o=>
      right
      have:m2 b=some o:=k1 b o hn
      rcases d b with y | y
      ·simp [x,y]
      ·rw [this] at y; cases y
   ·intro b o e
    cases hm:m1 b with
    | some o'=>simp [hm] at e; subst e; exact l1 b _ hm
    | none=>simp [hm] at e; exact l2 b o (k2 b o e)
   ·intro b o e; simp [e]
   ·intro b o e
    rcases d b with y | y
    ·simp [y,e]
    ·have:=k2 b o e; rw [this] at y; cases y
def Inv (w:World) (h:PH) (L:List E5):Prop:=
 ∃ m,Le h (hp w)∧FLe m (hp w).m∧Dj h.m m∧sep L m
theorem Inv.le {w:World} {h:PH} {L:List E5} (i:Inv w h L):Le h (hp w):=by obtain ⟨m,a,_⟩:=i; exact a
theorem Inv.own {w:World} {h:PH} {L:List E5} (i:Inv w h L) {k b:Nat} {o:Obj} (e:L[k]?=some (blk b o)):w.heap[b]?=some o:=by
 obtain ⟨m,_,l,_,s⟩:=i
 obtain ⟨m1,l1,a⟩:=s.at e
 exact l b o (l1 b o a)
theorem Inv.front {w:World} {h:PH} {L:List E5} (i:Inv w h L) {k:Nat} {A:E5} (e:L[k]?=some A):Inv w h (A::L.eraseIdx k):=by
 obtain ⟨m,a,l,d,s⟩:=i
 exact ⟨m,a,l,d,s.front e⟩
theorem Inv.drop {w:World} {h:PH} {A:E5} {L:List E5} (i:Inv w h (A::L)):Inv w h L:=by
 obtain ⟨m,a,l,d,m1,m2,_,_,l2,_,s⟩:=i
 exact ⟨m,a,l,d,s.mono l2⟩
theorem Inv.weak {w:World} {h:PH} {A B:E5} {L:List E5} (i:Inv w h (A::L)) (f:∀ m,A m→B m):Inv w h (B::L):=by
 obtain ⟨m,a,l,d,m1,m2,x,y,l2,p,s⟩:=i
 exact ⟨m,a,l,d,m1,m2,x,y,l2,f _ p,s⟩
theorem Inv.emp {w:World} {h:PH} {A:E5} {L:List E5} (i:Inv w h L) (f:A λ_=>none):Inv w h (A::L):=by
 obtain ⟨m,a,l,d,s⟩:=i
 exact ⟨m,a,l,d,λ_=>none,m,λ_=>.inl rfl,(λ_ _ e=>by cases e),λ_ _ e=>e,f,s⟩
theorem Inv.alloc {w:World} {h:PH} {L:List E5} (i:Inv w h L) (o:Obj):Inv (w.alloc o) h (blk w.heap.size o::L):=by
 obtain ⟨m,a,l,d,s⟩:=i
 have old:∀ (b:Nat) (x:Obj),w.heap[b]?=some x→(w.heap.push o)[b]?=some x:=by
  intro b x e
  rw [Array.getElem?_push]
  split
  ·rename_i hb; subst hb; simp at e
  ·exact e
 have new:w.heap[w.heap.size]?=none:=by simp
 have mnew:m w.heap.size=none:=by
  cases hm:m w.heap.size with
  | none=>rfl
  | some x=>have:=l _ _ hm; simp [hp] at this
 have hnew:h.m w.heap.size=none:=by
  cases hm:h.m w.heap.size with
  | none=>rfl
  | some x=>have:=a.get _ _ hm; simp [hp] at this
 refine ⟨λb=>if b=w.heap.size then some o else m b,⟨λb x e=>old b x (a.get b x e),a.os,a.tape,a.output⟩,?_,?_,λb=>if b=w.heap.size then some o else none,m,?_,?_,?_,?_,s⟩
 ·intro b x e
  show (w.heap.push o)[b]?=some x
  by_cases hb:b=w.heap.size
  ·simp [hb] at e ⊢; exact e
  ·simp [hb] at e; exact old b x (l b x e)
 ·intro b
  by_cases hb:b=w.heap.size
  ·subst hb; exact .inl hnew
  ·simp [hb]; exact d b
 ·intro b
  by_cases hb:b=w.heap.size
  ·subst hb; exact .inr mnew
  ·simp [hb]
 ·intro b x e
  by_cases hb:b=w.heap.size
  ·simp [hb] at e ⊢; exact e
  ·simp [hb] at e
 ·intro b x e
  by_cases hb:b=w.heap.size
  ·subst hb; rw [mnew] at e; cases e
  ·simp [hb,e]
 ·simp [blk]
theorem Inv.freeze {w:World} {h:PH} {b:Nat} {o:Obj} {L:List E5} (i:Inv w h (blk b o::L)) :
  ∃ h',Le h h'∧h'.m b=some o∧Inv w h' L:=by
 obtain ⟨m,a,l,d,m1,m2,d',l1,l2,e,s⟩:=i
 have e':m1 b=some o:=e
 refine ⟨{ h with m:=λx=>if x=b then some o else h.m x },⟨?_,rfl,rfl,rfl⟩,by simp,m2,⟨?_,a.os,a.tape,a.output⟩,l2.trans l,?_,s⟩
 ·intro x y hx
  show (if x=b then some o else h.m x)=some y
  split
  ·rename_i hb
   subst hb
   rcases d x with z | z
   ·rw [z] at hx; cases hx
   ·rw [l1 x o e'] at z; cases z
  ·exact hx
 ·intro x y hx
  have hx':(if x=b then some o else h.m x)=some y:=hx
  split at hx'
  ·rename_i hb; subst hb; cases hx'; exact l x o (l1 x o e')
  ·exact a.get x y hx'
 ·intro x
  by_cases hb:x=b
  ·subst hb
   right
   rcases d' x with z | z
   ·rw [e'] at z; cases z
   ·exact z
  ·simp [hb]
   rcases d x with z | z
   ·exact .inl z
   ·right
    cases hm:m2 x with
    | none=>rfl
    | some y=>rw [l2 x y hm] at z; cases z
theorem Inv.set {w w':World} {h:PH} {b:Nat} {o o':Obj} {L:List E5} (i:Inv w h (blk b o::L))
  (hb:w'.heap[b]?=some o') (ho:∀ x,x≠b→w'.heap[x]?=w.heap[x]?) (h1:w'.os=w.os) (h2:w'.tape=w.tape) (h3:w'.output=w.output) :
  Inv w' h (blk b o'::L):=by
 obtain ⟨m,a,l,d,m1,m2,d',l1,l2,e,s⟩:=i
 have e':m1 b=some o:=e
 have hne:∀ x y,h.m x=some y→x≠b:=by
  intro x y hx hxb
  subst hxb
  rcases d x with z | z
  ·rw [z] at hx; cases hx
  ·rw [l1 x o e'] at z; cases z
 have mne:∀ x y,m2 x=some y→x≠b:=by
  intro x y hx hxb
  subst hxb
  rcases d' x with z | z
  ·rw [e'] at z; cases z
  ·rw [z] at hx; cases hx
 refine ⟨λx=>if x=b then some o' else m2 x,⟨?_,h1.trans a.os,h2.trans a.tape,h3.trans a.output⟩,?_,?_,λx=>if x=b then some o' else none,m2,?_,?_,?_,?_,s⟩
 ·intro x y hx
  show w'.heap[x]?=some y
  rw [ho x (hne x y hx)]; exact a.get x y hx
 ·intro x y hx
  show w'.heap[x]?=some y
  by_cases hxb:x=b
  ·subst hxb; simp at hx; rw [hb,hx]
  ·simp [hxb] at hx; rw [ho x hxb]; exact l x y (l2 x y hx)
 ·intro x
  by_cases hxb:x=b
  ·left
   cases hx:h.m x with
   | none=>rfl
   | some y=>exact absurd hxb (hne x y hx)
  ·simp [hxb]
   rcases d x with z | z
   ·exact .inl z
   ·right
    cases hm:m2 x with
    | none=>rfl
    | some y=>rw [l2 x y hm] at z; cases z
 ·intro x
  by_cases hxb:x=b
  ·right
   cases hx:m2 x with
   | none=>rfl
   | some y=>exact absurd hxb (mne x y hx)
  ·simp [hxb]
 ·intro x y hx
  by_cases hxb:x=b
  ·simp [hxb] at hx ⊢; exact hx
  ·simp [hxb] at hx
 ·intro x y hx
  simp [mne x y hx,hx]
 ·simp [blk]
theorem Inv.drew {w:World} {h:PH} {L:List E5} (i:Inv w h L):Inv w.drew h L:=i
theorem Inv.all (w:World):Inv w (hp w) []:=⟨λ_=>none,Le.refl _,(λ_ _ e=>by cases e),λ_=>.inr rfl,trivial⟩
end Go.Sl
