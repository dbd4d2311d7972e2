import Derived.Test.YtnjnnebigkgnlaaGreatDoorL8
import Derived.RecoverIn
import Derived.Scope
/- A small logic for calls: what is owned, what no longer changes; rules for each operation. -/
set_option maxRecDepth 1000000
set_option maxHeartbeats 40000000
set_option linter.unusedVariables false
set_option linter.unusedSimpArgs false
set_option linter.unnecessarySimpa false
namespace Go.Sl
open Go
section
variable {ro : Option Nat} {P : Program} {n : Nat} {D : List Deferred} {ρ : Env} {h : PH} {L : List E9} {Q : Exit→Act→World→Prop} {K : Act→World→Prop}
variable {d : Option Nat} {ty : TypeId} {pos : String} {af : Array Edge} {g : Option (Nat×Bool)}
theorem T.scope {c : Code} (k : T n D ρ h L (c.wr none P (Exit.noGoto Q))) : T n D ρ h L ((Code.scope c).wr none P Q):=fun a w f i=>B9q.2 (wp_scope_straight (B9q.1 (k a w f i)))
theorem T.label {l : Nat} (k : T n D ρ h L (Q .normal)) : T n D ρ h L ((Code.label l).wr ro P Q):=fun a w f i=>wpIn_label (k a w f i)
theorem T.sgN (k : T n D ρ h L (Q .normal)) : T n D ρ h L (Exit.noGoto Q .normal):=k
theorem T.sgR (k : T n D ρ h L (Q .ret)) : T n D ρ h L (Exit.noGoto Q .ret):=k
theorem Calm.noGoto (h : Calm Q) : Calm (Exit.noGoto Q):=fun c a d v w q=>h c a d v w q
theorem T.dfr {x : Operand} {f : FuncId} {cs : List Value} (e : ev ρ x = some (.func (.func f) #[] cs.toArray)) (k : T n ({ target:=.fn (.func f) cs.toArray,args:=#[] }::D) ρ h L K) :
  T n D ρ h L (fun a w=>Oper.wr ⟨none,.defer ⟨.value x,#[],#[]⟩,ty,pos,af,g⟩ none P a w K Q):=fun a w fr i=>by
 have hrun : (execOp a.eval ⟨none,.defer ⟨.value x,#[],#[]⟩,ty,pos,af,g⟩).run P w = .ok (.defer { target:=.fn (.func f) cs.toArray,args:=#[] }) w:=by
  simp [execOp,resolve,fr.has.ev e,Deferred.ofValue]
 refine ⟨fun _ _=>trivial,?_⟩
 rw [show (Fen none).round = none from rfl,Oper.semAt_none,hrun]
 exact k _ w ⟨fr.size,by rw [←fr.defers]; rfl,fr.has⟩ i
theorem C4b {args : List Value} {m : Nat} : ∀ t u,lk (A7K 0 args) t = some u→(args.toArray ++ Array.replicate (m - args.toArray.size) undef)[t]? = some u:=by
 intro t u e
 obtain ⟨j,rfl,hj⟩:=B7O _ _ _ _ e
 have hlt : j < args.length:=by
  rcases Nat.lt_or_ge j args.length with x | x
  ·exact x
  ·simp [List.getElem?_eq_none x] at hj
 simp [Array.getElem?_append,hlt]
 simpa [hlt] using hj
def FnE (P : Program) (f : FuncId) (args : List Value) (h : PH) (L : List E9) (R : Ending→PH→List E9→Prop) : Prop:=
 ((P.funcs[f]?).map fun fn=>fn.name == "runtime.NumGoroutine" || fn.body.isNone) = some false∧
 ∀ w,Inv w h L→Calls P f args.toArray w fun e w'=>∃ h' L',Le h h'∧Inv w' h' L'∧R e h' L'
theorem FnE.enter {f : FuncId} {fn : Func} {c : Code} {args : List Value} {R : Ending→PH→List E9→Prop} {n : Nat}
  (hf : P.funcs[f]? = some fn) (hb : fn.body = some c) (hn : fn.ntmps = n) (hc : (fn.name == "runtime.NumGoroutine") = false)
  (k : T (args.length + (n - args.length)) [] (A7K 0 args) h L (c.wr none P (bodyPost P fn fun e w'=>∃ h' L',Le h h'∧Inv w' h' L'∧R e h' L'))) : FnE P f args h L R:=by
 refine ⟨by simp [hf,hb,hc],fun w i=>calls_of_wp hf hb (B9q.1 (k _ w ⟨by simp [hn],rfl,?_⟩ i))⟩
 exact C4b
theorem FnE.toS {f : FuncId} {args : List Value} {R : Ending→PH→List E9→Prop} {R' : Value→PH→List E9→Prop} (s : FnE P f args h L R) (k : ∀ e h' L',R e h' L'→∃ v,e = .returned v∧R' v h' L') : G8 P f args h L R':=by
 refine ⟨s.1,fun w i=>(s.2 w i).mono ?_⟩
 rintro e w' ⟨h',L',l,i',r⟩
 obtain ⟨v,rfl,r'⟩:=k e h' L' r
 exact ⟨v,h',L',rfl,l,i',r'⟩
variable {fn : Func} {h₀ : PH} {R : Ending→PH→List E9→Prop}
theorem T.D1x (h0 : fn.results = #[]) (hl : Le h₀ h) (hR : R (.returned (.tuple #[])) h L) :
  T n [] ρ h L (bodyPost P fn (fun e w'=>∃ h' L',Le h₀ h'∧Inv w' h' L'∧R e h' L') .ret):=
 fun _ _ f i=>⟨f.defers,.tuple #[],results_none h0 _ _ _,h,L,hl,i,hR⟩
theorem T.D0t (h0 : fn.results = #[]) (hl : Le h₀ h) (hR : R (.returned (.tuple #[])) h L) :
  T n [] ρ h L (bodyPost P fn (fun e w'=>∃ h' L',Le h₀ h'∧Inv w' h' L'∧R e h' L') .normal):=
 fun _ _ f i=>⟨f.defers,.tuple #[],results_none h0 _ _ _,h,L,hl,i,hR⟩
end
end Go.Sl
namespace Go.Sl
open Go
section
variable {ro : Option Nat} {P : Program} {n : Nat} {D : List Deferred} {ρ : Env} {h : PH} {L : List E9} {Q : Exit→Act→World→Prop} {K : Act→World→Prop}
variable {d : Option Nat} {ty : TypeId} {pos : String} {af : Array Edge} {g : Option (Nat×Bool)}
def PE {α β : Type} (N : α→Value→PH→List E9→Prop) (x : β→Value) (L : List E9) : α⊕β→Ending→PH→List E9→Prop
 | .inl a,e,h',L'=>∃ v,e = .returned v∧N a v h' L'
 | .inr b,e,_,L'=>e = .panicked [{ v:=x b,recovered:=false }]∧L' = L
theorem PE.ret {α β : Type} {N : α→Value→PH→List E9→Prop} {x : β→Value} {a : α} {v : Value} {h' : PH} {L' : List E9} (q : N a v h' L') : PE N x L (.inl a) (.returned v) h' L':=⟨v,rfl,q⟩
def quiet (Q : Exit→Act→World→Prop) : Exit→Act→World→Prop
 | .panic _,_,_=>False
 | e,a,w=>Q e a w
theorem Calm.quiet : Calm (quiet Q):=fun _ _ _ _ _ q=>q.elim
def LVP (P : Program) (fn : Func) (h₀ : PH) (R : Value→PH→List E9→Prop) (chain : List PanicEntry) (a : Act) (w : World) : Prop:=
 LeavesInM (Fen none) 0 P fn a.tmps (fun e w'=>∃ v h' L',e = .returned v∧Le h₀ h'∧Inv w' h' L'∧R v h' L') a.defers (.panicking chain) w
def D0p (P : Program) (fn : Func) (h₀ : PH) (R : Value→PH→List E9→Prop) : Exit→Act→World→Prop
 | .normal,a,w | .ret,a,w=>LV P fn h₀ R a w
 | .panic chain,a,w=>LVP P fn h₀ R chain a w
 | _,_,_=>False
theorem G8.D0C {f : FuncId} {fn : Func} {c : Code} {args : List Value} {R : Value→PH→List E9→Prop} {n : Nat}
  (hf : P.funcs[f]? = some fn) (hb : fn.body = some c) (hn : fn.ntmps = n) (hc : (fn.name == "runtime.NumGoroutine") = false)
  (k : T (args.length + (n - args.length)) [] (A7K 0 args) h L (c.wr none P (D0p P fn h R))) : G8 P f args h L R:=by
 refine ⟨by simp [hf,hb,hc],fun w i=>C2A (r:=none) (n:=0) (callsIn_of_wp_marks hf hb trivial (wpIn_mono (k _ w ⟨by simp [hn],rfl,?_⟩ i) ?_))⟩
 case refine_2=>
  intro e a w' q
  cases e <;> first | exact q | exact q.elim
 exact C4b
theorem T.D1Y {fn : Func} {h₀ : PH} {R : Value→PH→List E9→Prop} (k : T n D ρ h L (LV P fn h₀ R)) : T n D ρ h L (D0p P fn h₀ R .ret):=k
def FnQ (P : Program) (f : FuncId) (args : List Value) (h : PH) (L : List E9) (R : PH→List E9→Prop) : Prop:=
 ((P.funcs[f]?).map fun fn=>fn.name == "runtime.NumGoroutine" || fn.body.isNone) = some false∧
 ∀ w,Inv w h L→CallsDIn (Fen none) 0 P f args.toArray .returning w fun e u' w'=>u' = .returning∧∃ h' L',e = .returned (.tuple #[])∧Le h h'∧Inv w' h' L'∧R h' L'
theorem T.lvQ {fn : Func} {h₀ : PH} {R : Value→PH→List E9→Prop} {R' : PH→List E9→Prop} {f : FuncId} {cs : List Value} (s : FnQ P f cs h L R')
  (k : ∀ h' L',Le h h'→R' h' L'→T n D ρ h' L' (LV P fn h₀ R)) : T n ({ target:=.fn (.func f) cs.toArray,args:=#[] }::D) ρ h L (LV P fn h₀ R):=fun a w fr i=>by
 have hi : (invoke (.fn (.func f) cs.toArray) #[]).run P w = .ok (.enter f cs.toArray) w:=by
  have:=A8d (P:=P) (f:=f) (args:=cs.toArray) s.1 w
  simpa [invoke] using this
 unfold LV
 rw [fr.defers]
 refine ⟨by simp,.inr ⟨Fen.depth none,.func f,cs.toArray,f,cs.toArray,rfl,hi,fun _ _=>trivial,(s.2 w i).mono ?_⟩⟩
 rintro e u' w' ⟨rfl,h',L',rfl,hl,hi',hR⟩
 have kk:=k h' L' hl hR { a with defers:=D } w' ⟨fr.size,rfl,fr.has⟩ hi'
 exact kk
def B7o (P : Program) (fn : Func) (h₀ : PH) (R : PH→List E9→Prop) : Exit→Act→World→Prop
 | .normal,a,w | .ret,a,w=>a.defers = []∧∃ h' L',Le h₀ h'∧Inv w h' L'∧R h' L'
 | _,_,_=>False
theorem Calm.rec {fn : Func} {h₀ : PH} {R : PH→List E9→Prop} : Calm (B7o P fn h₀ R):=fun _ _ _ _ _ q=>q.elim
theorem T.D2Y {fn : Func} {h₀ : PH} {R : PH→List E9→Prop} (hl : Le h₀ h) (hR : R h L) : T n [] ρ h L (B7o P fn h₀ R .normal):=fun _ _ f i=>⟨f.defers,h,L,hl,i,hR⟩
theorem D1o {f : FuncId} {fn : Func} {id d1 d2 : Nat} {ts : Array TypeId} {ty1 ty2 : TypeId} {p1 p2 : String} {a1 a2 : Array Edge} {rest : Code} {args : List Value} {R : PH→List E9→Prop} {n : Nat} {u u' : FrameMode} {v : Value}
  (hf : P.funcs[f]? = some fn)
  (hb : fn.body = some (Code.seq (Code.region id #[⟨some d1,.call ⟨.builtin .recover,#[],ts⟩,ty1,p1,a1,none⟩,⟨some d2,.assign (.tmp d1),ty2,p2,a2,none⟩] false) rest))
  (hn : fn.ntmps = n) (h0 : fn.results = #[]) (hd1 : Nat.blt d1 (args.length + (n - args.length)) = true) (hd2 : Nat.blt d2 (args.length + (n - args.length)) = true)
  (hrec : ∀ (c₀ : Frame) (cs : List Frame),c₀.mode = u→(match recoverD (c₀::cs) with | some (x,cs')=>(x,cs') | none=>(Value.nilIface,c₀::cs)) = (v,{ c₀ with mode:=u' }::cs))
  (k : T (args.length + (n - args.length)) [] ((d2,v)::(d1,v)::A7K 0 args) h L (rest.wr none P (B7o P fn h R))) (w : World) (i : Inv w h L) :
  CallsDIn (Fen none) 0 P f args.toArray u w fun e u'' w'=>u'' = u'∧∃ h' L',e = .returned (.tuple #[])∧Le h h'∧Inv w' h' L'∧R h' L':=by
 refine callsDIn_of_wpSIn hf hb trivial fun c₀ cs hu=>?_
 refine wpSIn_seq (wpSIn_region ?_)
 have hr:=hrec c₀ cs hu
 have e1 : (execOp (Act.eval { tmps:=args.toArray ++ Array.replicate (fn.ntmps - args.toArray.size) undef,defers:=[] }) ⟨some d1,.call ⟨.builtin .recover,#[],ts⟩,ty1,p1,a1,none⟩).run P w = .ok .recover w:=by
  simp [execOp,resolve,invoke]
  rfl
 have hw1 : ∀ o : Oper,o.guard = none→∀ x,Region.wanted o x = true:=by
  intro o ho x; simp [Region.wanted,ho]
 have hmain : ∀ cs',cs' = ({ c₀ with mode:=u' }::cs : List Frame)→rest.wpSIn (Fen none) 0 P (bodyPostS P fn c₀ cs fun e u'' w'=>u'' = u'∧∃ h' L',e = .returned (.tuple #[])∧Le h h'∧Inv w' h' L'∧R h' L')
   (((({ tmps:=args.toArray ++ Array.replicate (fn.ntmps - args.toArray.size) undef,defers:=[] } : Act).put (some d1) v)).put (some d2) v) cs' w:=by
  rintro cs' rfl
  refine wpSIn_of_wpIn rfl (wpIn_mono (k _ w ⟨?_,rfl,?_⟩ i) ?_)
  ·simp [Act.put,hn]
  ·have f0 : Fr (args.length + (n - args.length)) [] (A7K 0 args) { tmps:=args.toArray ++ Array.replicate (fn.ntmps - args.toArray.size) undef,defers:=[] }:=⟨by simp [hn],rfl,C4b⟩
   exact ((f0.put hd1).put hd2).has
  ·intro e a w' q
   cases e with
   | normal=>obtain ⟨hd,h',L',hl,hi,hR⟩:=q; exact ⟨hd,u',rfl,.tuple #[],results_none h0 _ _ _,rfl,h',L',rfl,hl,hi,hR⟩
   | ret=>obtain ⟨hd,h',L',hl,hi,hR⟩:=q; exact ⟨hd,u',rfl,.tuple #[],results_none h0 _ _ _,rfl,h',L',rfl,hl,hi,hR⟩
   | _=>exact q.elim
 have e2 : ∀ a : Act,(execOp a.eval ⟨some d2,.assign (.tmp d1),ty2,p2,a2,none⟩).run P w = .ok (.value (a.eval (.tmp d1))) w:=by
  intro a; simp [execOp]
 have hget : ∀ a : Act,d1 < a.tmps.size→(a.put (some d1) v).eval (.tmp d1) = v:=by
  intro a hlt; simp [Act.put,Act.eval,hlt]
 have hsz : d1 < ({ tmps:=args.toArray ++ Array.replicate (fn.ntmps - args.toArray.size) undef,defers:=[] } : Act).tmps.size:=by
  have h1 : d1 < args.length + (n - args.length):=by rw [Nat.blt_eq] at hd1; exact hd1
  simp [hn]; omega
 rw [show List.range (#[(⟨some d1,.call ⟨.builtin .recover,#[],ts⟩,ty1,p1,a1,none⟩ : Oper),⟨some d2,.assign (.tmp d1),ty2,p2,a2,none⟩] : Array Oper).size = [0,1] from rfl]
 have g0 : (#[(⟨some d1,.call ⟨.builtin .recover,#[],ts⟩,ty1,p1,a1,none⟩ : Oper),⟨some d2,.assign (.tmp d1),ty2,p2,a2,none⟩] : Array Oper)[0]? = some ⟨some d1,.call ⟨.builtin .recover,#[],ts⟩,ty1,p1,a1,none⟩:=rfl
 have g1 : (#[(⟨some d1,.call ⟨.builtin .recover,#[],ts⟩,ty1,p1,a1,none⟩ : Oper),⟨some d2,.assign (.tmp d1),ty2,p2,a2,none⟩] : Array Oper)[1]? = some ⟨some d2,.assign (.tmp d1),ty2,p2,a2,none⟩:=rfl
 generalize (#[(⟨some d1,.call ⟨.builtin .recover,#[],ts⟩,ty1,p1,a1,none⟩ : Oper),⟨some d2,.assign (.tmp d1),ty2,p2,a2,none⟩] : Array Oper) = ops at g0 g1 ⊢
 simp only [wpOpsSIn,g0,g1]
 refine ⟨fun _ _=>trivial,?_⟩
 rw [if_pos (hw1 _ rfl _),e1]
 rcases hx : recoverD (c₀::cs) with _ | ⟨x,cs'⟩
 ·rw [hx] at hr
  obtain ⟨rfl,hc⟩:=Prod.mk.inj hr
  show _∧_
  refine ⟨fun _ _=>trivial,?_⟩
  rw [if_pos (hw1 _ rfl _),e2,hget _ hsz]
  exact hmain _ hc
 ·rw [hx] at hr
  obtain ⟨rfl,hc⟩:=Prod.mk.inj hr
  show _∧_
  refine ⟨fun _ _=>trivial,?_⟩
  rw [if_pos (hw1 _ rfl _),e2,hget _ hsz]
  exact hmain _ hc
theorem FnQ.enter {f : FuncId} {fn : Func} {id d1 d2 : Nat} {ts : Array TypeId} {ty1 ty2 : TypeId} {p1 p2 : String} {a1 a2 : Array Edge} {rest : Code} {args : List Value} {R : PH→List E9→Prop} {n : Nat}
  (hf : P.funcs[f]? = some fn)
  (hb : fn.body = some (Code.seq (Code.region id #[⟨some d1,.call ⟨.builtin .recover,#[],ts⟩,ty1,p1,a1,none⟩,⟨some d2,.assign (.tmp d1),ty2,p2,a2,none⟩] false) rest))
  (hn : fn.ntmps = n) (h0 : fn.results = #[]) (hc : (fn.name == "runtime.NumGoroutine") = false) (hd1 : Nat.blt d1 (args.length + (n - args.length)) = true) (hd2 : Nat.blt d2 (args.length + (n - args.length)) = true)
  (k : T (args.length + (n - args.length)) [] ((d2,.nilIface)::(d1,.nilIface)::A7K 0 args) h L (rest.wr none P (B7o P fn h R))) : FnQ P f args h L R:=
 ⟨by simp [hf,hb,hc],fun w i=>D1o (u':=.returning) hf hb hn h0 hd1 hd2 (by rintro ⟨⟩ cs hu; simp_all [recoverD]) k w i⟩
theorem V.neN {X : World→Prop} {x : Operand} {t u : TypeId} {ms : _} (ht : P.underlying t = some (.interface ms)) (e : ev ρ x = some .nilIface) :
  Val P X ρ ⟨d,.binOp .neq t x (.const .nilIface) u,ty,pos,af,g⟩ (.bool false):=fun a w _ hs=>by
 have h2 : a.eval (.const .nilIface) = .nilIface:=rfl
 have hq : (Op.equal t .nilIface .nilIface).run P w = .ok true w:=by
  obtain ⟨m,hm⟩ : ∃ m,Op.maxDepth = m + 1:=⟨_,rfl⟩
  unfold Op.equal; rw [hm]
  simp [Op.equalIn,run_underlying ht]
 simp only [execOp,hs.ev e,h2,eqGuard,binOp]
 simp [hq]
end
end Go.Sl
namespace Go.Sl
open Go
section rel
variable {κ α : Type} {ek : κ→Value} {agg : Bool} {E : Vr α} {h g : PH}
end rel
section ops
variable {ro : Option Nat} {P : Program} {n : Nat} {D : List Deferred} {ρ : Env} {h : PH} {L : List E9} {Q : Exit→Act→World→Prop} {K : Act→World→Prop}
variable {d : Option Nat} {ty : TypeId} {pos : String} {af : Array Edge} {g : Option (Nat×Bool)}
end ops
end Go.Sl
namespace Go.Sl
open Go
class CalmC (Q : Exit→Act→World→Prop) : Prop where
 calm : Calm Q
theorem Calm.i {Q : Exit→Act→World→Prop} [c : CalmC Q] : Calm Q:=c.calm
instance {K : Act→World→Prop} {Q : Exit→Act→World→Prop} [c : CalmC Q] : CalmC (Exit.then K Q):=⟨Calm.then c.calm⟩
instance {id : Nat} {Q : Exit→Act→World→Prop} [c : CalmC Q] : CalmC (Exit.inBlock id Q):=⟨Calm.inBlock c.calm⟩
instance {Q : Exit→Act→World→Prop} [c : CalmC Q] : CalmC (Exit.noGoto Q):=⟨Calm.noGoto c.calm⟩
instance {Q : Exit→Act→World→Prop} : CalmC (Sl.quiet Q):=⟨Calm.quiet⟩
instance {P : Program} {fn : Func} {R : Ending→World→Prop} : CalmC (bodyPost P fn R):=⟨Calm.body⟩
instance {P : Program} {fn : Func} {h : PH} {R : Value→PH→List E9→Prop} : CalmC (C2T P fn h R):=⟨Calm.C2T⟩
instance {P : Program} {fn : Func} {h : PH} {R : PH→List E9→Prop} : CalmC (B7o P fn h R):=⟨Calm.rec⟩
instance {P : Program} {l : Nat} {h : PH} {R : Value→PH→List E9→Prop} : CalmC (RX P l h R):=⟨Calm.rx⟩
instance : CalmC (fun _ _ _=>False):=⟨Calm.no⟩
class Er (L : List E9) (j : Nat) (L' : outParam (List E9)) : Prop where
 eq : L.eraseIdx j = L'
instance {A : E9} {L : List E9} : Er (A::L) 0 L:=⟨rfl⟩
instance {A : E9} {L L' : List E9} {j : Nat} [e : Er L j L'] : Er (A::L) (j + 1) (A::L'):=⟨by rw [←e.eq]; rfl⟩
class Nf (L : List E9) (L' : outParam (List E9)) : Prop where
 eq : L = L'
instance (priority:=low) {L : List E9} : Nf L L:=⟨rfl⟩
instance {A : E9} {L L' : List E9} [e : Nf L L'] : Nf (A::L) (A::L'):=⟨by rw [e.eq]⟩
instance {L M L' : List E9} {j : Nat} [a : Nf L M] [e : Er M j L'] : Nf (L.eraseIdx j) L':=⟨by rw [a.eq]; exact e.eq⟩
section
variable {ro : Option Nat} {P : Program} {n : Nat} {D : List Deferred} {ρ : Env} {h : PH} {L L' : List E9} {Q : Exit→Act→World→Prop} {K : Act→World→Prop}
theorem T.fl [e : Nf L L'] (k : T n D ρ h L' K) : T n D ρ h L K:=by rw [e.eq]; exact k
theorem T.cH {c : Operand} {x y : Code} {b : Bool} {α : Type} {u v : Option α} {r : α} (H : (bif b then u else v) = some r) (hc : ev ρ c = some (.bool b)) (ht : u = some r→T n D ρ h L (x.wr ro P Q)) (hf : v = some r→T n D ρ h L (y.wr ro P Q)) :
  T n D ρ h L ((Code.cond c x y).wr ro P Q):=T.cond hc (fun e=>ht (by rw [e] at H; exact H)) (fun e=>hf (by rw [e] at H; exact H))
theorem T.bH {Y : Act→World→Prop} {b : Bool} (t : Nat) {α : Type} {u v : Option α} {r : α} (H : (bif b then u else v) = some r) (hb : lk ρ t = some (.bool b)) (ht : u = some r→T n D ((t,.bool true)::ρ) h L Y) (hf : v = some r→T n D ((t,.bool false)::ρ) h L Y) : T n D ρ h L Y:=
 T.D1A t hb (fun e=>ht (by rw [e] at H; exact H)) (fun e=>hf (by rw [e] at H; exact H))
end
theorem z {α : Sort _} {a : α} : a = a:=rfl
theorem Lr {h : PH} : Le h h:=Le.refl h
section
variable {ro : Option Nat} {P : Program} {n : Nat} {D : List Deferred} {ρ : Env} {h : PH} {L : List E9} {Q : Exit→Act→World→Prop} {X0 X1 : World→Prop} {ph : Bool} {p i : Nat} {r : PT}
variable {ops : Array Oper} {rest : List Oper} {d : Nat} {op : Op} {ty : TypeId} {pos : String} {af : Array Edge} {g : Option (Nat×Bool)} {v : Value} {x : Operand}
theorem Mv (e : ev ρ x = some v) (k : T n D ((d,v)::ρ) h L (lwr ro P ops Q rest)) (hg : gd ops ρ g = true:=by rfl) (hd : Nat.blt d n = true:=by rfl) : T n D ρ h L (lwr ro P ops Q (⟨some d,.move x,ty,pos,af,g⟩::rest)):=T.v hg (V.mv e) hd k
theorem Ag (e : ev ρ x = some v) (k : T n D ((d,v)::ρ) h L (lwr ro P ops Q rest)) (hg : gd ops ρ g = true:=by rfl) (hd : Nat.blt d n = true:=by rfl) : T n D ρ h L (lwr ro P ops Q (⟨some d,.assign x,ty,pos,af,g⟩::rest)):=T.v hg (V.asg e) hd k
theorem Vv (hv : Val P (XI h L) ρ ⟨some d,op,ty,pos,af,g⟩ v) (k : T n D ((d,v)::ρ) h L (lwr ro P ops Q rest)) (hg : gd ops ρ g = true:=by rfl) (hd : Nat.blt d n = true:=by rfl) : T n D ρ h L (lwr ro P ops Q (⟨some d,op,ty,pos,af,g⟩::rest)):=T.v hg hv hd k
theorem Sk (k : T n D ((d,undef)::ρ) h L (lwr ro P ops Q rest)) (hg : gn ops ρ g = true:=by rfl) (hd : Nat.blt d n = true:=by rfl) : T n D ρ h L (lwr ro P ops Q (⟨some d,op,ty,pos,af,g⟩::rest)):=T.D0K hg hd k
theorem Tk [c : CalmC Q] (ho : ops[i]? = some ⟨some d,op,ty,pos,af,g⟩) (k : T n D ((d,undef)::ρ) h L (wpT ro P ops p X0 X1 Q r ph)) (hg : gn ops ρ g = true:=by rfl) (hd : Nat.blt d n = true:=by rfl) : T n D ρ h L (wpT ro P ops p X0 X1 Q (.v i r) ph):=T.D2h ho hg hd c.calm k
theorem Tm [c : CalmC Q] (ho : ops[i]? = some ⟨some d,.move x,ty,pos,af,g⟩) (e : ev ρ x = some v) (k : T n D ((d,v)::ρ) h L (wpT ro P ops p X0 X1 Q r ph)) (hg : gd ops ρ g = true:=by rfl) (hd : Nat.blt d n = true:=by rfl) : T n D ρ h L (wpT ro P ops p X0 X1 Q (.v i r) ph):=T.tv ho hg (V.mv e) hd c.calm k
theorem Tv [c : CalmC Q] (ho : ops[i]? = some ⟨some d,op,ty,pos,af,g⟩) (hv : Val P X1 ρ ⟨some d,op,ty,pos,af,g⟩ v) (k : T n D ((d,v)::ρ) h L (wpT ro P ops p X0 X1 Q r ph)) (hg : gd ops ρ g = true:=by rfl) (hd : Nat.blt d n = true:=by rfl) : T n D ρ h L (wpT ro P ops p X0 X1 Q (.v i r) ph):=T.tv ho hg hv hd c.calm k
theorem To {o : Oper} (k : T n D ρ h L (fun a w=>o.wr ro P a w (lwr ro P ops Q rest) Q)) (hg : gd ops ρ o.guard = true:=by rfl) : T n D ρ h L (lwr ro P ops Q (o::rest)):=T.op hg k
theorem Sr {y : Code} {id : Nat} {l : List Oper} (k : T n D ρ h L (lwr ro P l.toArray (Exit.then (y.wr ro P Q) Q) l)) : T n D ρ h L ((Code.seq (Code.region id l.toArray false) y).wr ro P Q):=T.seq (T.region k)
theorem Nt {K : Act→World→Prop} (k : T n D ρ h L K) : T n D ρ h L (lwr ro P ops (Exit.then K Q) []):=T.nil (T.thN k)
theorem Rv {X : World→Prop} {t : Nat} (e : lk ρ t = some v) : RVs P X ρ [.tmp t] [v]:=RVs.cons (RV.tmp e) RVs.nil
end
abbrev Sq:=@T.seq
abbrev Rg:=@T.region
abbrev Th:=@T.thN
abbrev Tp:=@T.top
abbrev Ts:=@T.tvs
abbrev Te:=@T.thE
abbrev Tr:=@T.thR
abbrev Be:=@T.blE
abbrev Bn:=@T.blN
abbrev Br:=@T.blR
abbrev Bl:=@T.block
abbrev J9:=@T.D1D
abbrev G5:=@T.front
abbrev Ni:=@T.nil
abbrev Ct:=@T.D1U
abbrev Cf:=@T.D0i
end Go.Sl
