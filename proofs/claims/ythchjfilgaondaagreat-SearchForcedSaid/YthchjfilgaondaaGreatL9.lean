import Derived.Test.YthchjfilgaondaaGreatL8
import Derived.RecoverIn
import Derived.Scope
/- Rules. -/
set_option maxRecDepth 1000000
set_option maxHeartbeats 40000000
set_option linter.unusedVariables false
set_option linter.unusedSimpArgs false
set_option linter.unusedSectionVars false
set_option linter.unnecessarySimpa false
namespace Go.Sl
open Go
section
variable {ro:Option Nat} {P:Program} {n:Nat} {D:List Deferred} {ρ:Env} {h:PH} {L:List E5} {Q:Exit→Act→World→Prop} {K:Act→World→Prop}
variable {d:Option Nat} {ty:TypeId} {pos:String} {af:Array Edge} {g:Option (Nat×Bool)}
theorem T.scope {c:Code} (k:T n D ρ h L (c.wr none P (Exit.noGoto Q))):T n D ρ h L ((Code.scope c).wr none P Q):=λa w f i=>B9R.2 (wp_scope_straight (B9R.1 (k a w f i)))
theorem T.label {l:Nat} (k:T n D ρ h L (Q .normal)):T n D ρ h L ((Code.label l).wr ro P Q):=λa w f i=>wpIn_label (k a w f i)
theorem T.sgR (k:T n D ρ h L (Q .ret)):T n D ρ h L (Exit.noGoto Q .ret):=k
theorem Calm.noGoto (h:Calm Q):Calm (Exit.noGoto Q):=λc a d v w q=>h c a d v w q
theorem T.dfr {x:Operand} {f:FuncId} {cs:List Value} (e:ev ρ x=some (.func (.func f) #[] cs.toArray)) (k:T n ({ target:=.fn (.func f) cs.toArray,args:=#[] }::D) ρ h L K) :
  T n D ρ h L (λa w=>Oper.wr ⟨none,.defer ⟨.value x,#[],#[]⟩,ty,pos,af,g⟩ none P a w K Q):=λa w fr i=>by
 have hrun:(execOp a.eval ⟨none,.defer ⟨.value x,#[],#[]⟩,ty,pos,af,g⟩).run P w=.ok (.defer { target:=.fn (.func f) cs.toArray,args:=#[] }) w:=by
  simp [execOp,resolve,fr.has.ev e,Deferred.ofValue]
 refine ⟨λ_ _=>trivial,?_⟩
 rw [show (Fen none).round=none from rfl,Oper.semAt_none,hrun]
 exact k _ w ⟨fr.size,by rw [←fr.defers]; rfl,fr.has⟩ i
def FnZ (P:Program) (f:FuncId) (args:List Value) (h:PH) (L:List E5) (R:Value→PH→List E5→Prop):Prop:=
 ((P.funcs[f]?).map fun fn=>fn.name == "runtime.NumGoroutine" || fn.body.isNone) = some false∧
 ∀ u w,Inv w h L→CallsDIn (Fen none) 0 P f args.toArray u w λe u' w'=>u'=u∧∃ v h' L',e=.returned v∧Le h h'∧Inv w' h' L'∧R v h' L'
theorem B9P {args:List Value} {m:Nat}:∀ t u,lk (A6C 0 args) t=some u→(args.toArray++Array.replicate (m - args.toArray.size) undef)[t]?=some u:=by
 intro t u e
 obtain ⟨j,rfl,hj⟩:=B8a _ _ _ _ e
 have hlt:j<args.length:=by
  rcases Nat.lt_or_ge j args.length with x | x
  ·exact x
  ·simp [List.getElem?_eq_none x] at hj
 simp [Array.getElem?_append,hlt]
 simpa [hlt] using hj
theorem FnZ.enter {f:FuncId} {fn:Func} {c:Code} {args:List Value} {R:Value→PH→List E5→Prop} {n:Nat}
  (hf : P.funcs[f]? = some fn) (hb : fn.body = some c) (hn : fn.ntmps = n) (hc : (fn.name == "runtime.NumGoroutine") = false)
  (k:T (args.length+(n - args.length)) [] (A6C 0 args) h L (c.wr none P (bodyPost P fn λe w'=>∃ v h' L',e=.returned v∧Le h h'∧Inv w' h' L'∧R v h' L'))):FnZ P f args h L R:=by
 refine ⟨by simp [hf,hb,hc],λu w i=>callsDIn_of_wp hf hb trivial (k _ w ⟨by simp [hn],rfl,?_⟩ i)⟩
 exact B9P
theorem T.lvZ {fn:Func} {h₀:PH} {R R':Value→PH→List E5→Prop} {f:FuncId} {cs:List Value} (s:FnZ P f cs h L R')
  (k:∀ v h' L',Le h h'→R' v h' L'→T n D ρ h' L' (LV P fn h₀ R)):T n ({ target:=.fn (.func f) cs.toArray,args:=#[] }::D) ρ h L (LV P fn h₀ R):=λa w fr i=>by
 have hi:(invoke (.fn (.func f) cs.toArray) #[]).run P w=.ok (.enter f cs.toArray) w:=by
  have:=A3l (P:=P) (f:=f) (args:=cs.toArray) s.1 w
  simpa [invoke] using this
 unfold LV
 rw [fr.defers]
 refine ⟨by simp,.inr ⟨Fen.depth none,.func f,cs.toArray,f,cs.toArray,rfl,hi,λ_ _=>trivial,(s.2 .returning w i).mono ?_⟩⟩
 rintro e u' w' ⟨rfl,v,h',L',rfl,hl,hi',hR⟩
 have kk:=k v h' L' hl hR { a with defers:=D } w' ⟨fr.size,rfl,fr.has⟩ hi'
 exact kk
def FnE (P:Program) (f:FuncId) (args:List Value) (h:PH) (L:List E5) (R:Ending→PH→List E5→Prop):Prop:=
 ((P.funcs[f]?).map fun fn=>fn.name == "runtime.NumGoroutine" || fn.body.isNone) = some false∧
 ∀ w,Inv w h L→Calls P f args.toArray w λe w'=>∃ h' L',Le h h'∧Inv w' h' L'∧R e h' L'
theorem FnE.enter {f:FuncId} {fn:Func} {c:Code} {args:List Value} {R:Ending→PH→List E5→Prop} {n:Nat}
  (hf : P.funcs[f]? = some fn) (hb : fn.body = some c) (hn : fn.ntmps = n) (hc : (fn.name == "runtime.NumGoroutine") = false)
  (k:T (args.length+(n - args.length)) [] (A6C 0 args) h L (c.wr none P (bodyPost P fn λe w'=>∃ h' L',Le h h'∧Inv w' h' L'∧R e h' L'))):FnE P f args h L R:=by
 refine ⟨by simp [hf,hb,hc],λw i=>calls_of_wp hf hb (B9R.1 (k _ w ⟨by simp [hn],rfl,?_⟩ i))⟩
 exact B9P
theorem FnE.toS {f:FuncId} {args:List Value} {R:Ending→PH→List E5→Prop} {R':Value→PH→List E5→Prop} (s:FnE P f args h L R) (k:∀ e h' L',R e h' L'→∃ v,e=.returned v∧R' v h' L'):I7 P f args h L R':=by
 refine ⟨s.1,λw i=>(s.2 w i).mono ?_⟩
 rintro e w' ⟨h',L',l,i',r⟩
 obtain ⟨v,rfl,r'⟩:=k e h' L' r
 exact ⟨v,h',L',rfl,l,i',r'⟩
variable {fn:Func} {h₀:PH} {R:Ending→PH→List E5→Prop}
theorem T.D3w (h0:fn.results=#[]) (hl:Le h₀ h) (hR:R (.returned (.tuple #[])) h L) :
  T n [] ρ h L (bodyPost P fn (λe w'=>∃ h' L',Le h₀ h'∧Inv w' h' L'∧R e h' L') .ret):=
 λ_ _ f i=>⟨f.defers,.tuple #[],results_none h0 _ _ _,h,L,hl,i,hR⟩
theorem T.D1W (h0:fn.results=#[]) (hl:Le h₀ h) (hR:R (.returned (.tuple #[])) h L) :
  T n [] ρ h L (bodyPost P fn (λe w'=>∃ h' L',Le h₀ h'∧Inv w' h' L'∧R e h' L') .normal):=
 λ_ _ f i=>⟨f.defers,.tuple #[],results_none h0 _ _ _,h,L,hl,i,hR⟩
theorem T.D1O {v:Value} (hl:Le h₀ h) (hR:R (.panicked [{ v,recovered:=false }]) h L) :
  T n [] ρ h L (bodyPost P fn (λe w'=>∃ h' L',Le h₀ h'∧Inv w' h' L'∧R e h' L') (.panic [{ v,recovered:=false }])):=
 λ_ _ f i=>⟨f.defers,h,L,hl,i,hR⟩
theorem O.C7B {dd:Option Nat} {f:FuncId} {xs:List Operand} {ts:Array TypeId} {vs:List Value} {R:Ending→PH→List E5→Prop} {v:Value} {M:List E5} (e:evs ρ xs=some vs) (s:FnE P f vs h L R)
  (hp:∀ e h' L',R e h' L'→e=.panicked [{ v,recovered:=false }]∧L'=M)
  (k:∀ h',Le h h'→T n D ρ h' M (Q (.panic [{ v,recovered:=false }]))) :
  T n D ρ h L (λa w=>Oper.wr ⟨dd,.call ⟨.value (.func f),xs.toArray,ts⟩,ty,pos,af,g⟩ ro P a w K Q):=λa w fr i=>by
 have hrun:(execOp a.eval ⟨dd,.call ⟨.value (.func f),xs.toArray,ts⟩,ty,pos,af,g⟩).run P w=.ok (.enter f vs.toArray) w:=by
  have:=fr.has.evs e
  have h2:(execOp a.eval ⟨dd,.call ⟨.value (.func f),xs.toArray,ts⟩,ty,pos,af,g⟩).run P w=(callFunc f vs.toArray).run P w:=by
   simp [execOp,resolve,Act.eval,Deferred.ofValue,invoke]
   rw [show (List.map (λx=>a.eval x) xs)=vs from this]
  rw [h2,A3l s.1 w]
 refine B8O hrun ((s.2 w i).mono ?_)
 rintro e' w' ⟨h',L',l,i',r⟩
 obtain ⟨rfl,rfl⟩:=hp e' h' L' r
 exact k h' l a w' fr i'
theorem O.panic {dd:Option Nat} {x:Operand} {tt:TypeId} {u:Value} (e:ev ρ x=some (.iface tt u)) (k:T n D ρ h L (Q (.panic [{ v:=.iface tt u,recovered:=false }]))) :
  T n D ρ h L (λa w=>Oper.wr ⟨dd,.panic x,ty,pos,af,g⟩ ro P a w K Q):=λa w fr i=>by
 have hrun:(execOp a.eval ⟨dd,.panic x,ty,pos,af,g⟩).run P w=.halt (.panic (.iface tt u)) w:=by
  simp [execOp,fr.has.ev e,Instr.panic,goPanic]
 refine ⟨λ_ _=>trivial,?_⟩
 rw [Oper.semAt_eq _ _ _ (by intro c hc; cases hc),hrun]
 exact k a w fr i
theorem V.mki {X:World→Prop} {x:Operand} {t m:Nat} {v:Value} (ht:U1 P t=some (true,m)) (e:ev ρ x=some v):Val P X ρ ⟨d,.makeInterface t x,ty,pos,af,g⟩ (.iface t v):=λa w _ hs=>by
 unfold U1 at ht
 cases hu:P.underlying t with
 | none=>simp [hu] at ht
 | some q=>
  cases hi:P.info? t with
  | none=>simp [hu,hi] at ht
  | some i=>cases q <;> simp [hu,hi] at ht <;> simp [execOp,hs.ev e,Instr.makeInterface,run_underlying hu]
end
end Go.Sl
namespace Go.Sl
open Go
section
variable {ro:Option Nat} {P:Program} {n:Nat} {D:List Deferred} {ρ:Env} {h:PH} {L:List E5} {Q:Exit→Act→World→Prop} {K:Act→World→Prop}
variable {d:Option Nat} {ty:TypeId} {pos:String} {af:Array Edge} {g:Option (Nat×Bool)}
def PE {α β:Type} (N:α→Value→PH→List E5→Prop) (x:β→Value) (L:List E5):α⊕β→Ending→PH→List E5→Prop
 | .inl a,e,h',L'=>∃ v,e=.returned v∧N a v h' L'
 | .inr b,e,_,L'=>e=.panicked [{ v:=x b,recovered:=false }]∧L'=L
theorem PE.ret {α β:Type} {N:α→Value→PH→List E5→Prop} {x:β→Value} {a:α} {v:Value} {h':PH} {L':List E5} (q:N a v h' L'):PE N x L (.inl a) (.returned v) h' L':=⟨v,rfl,q⟩
theorem PE.pan {α β:Type} {N:α→Value→PH→List E5→Prop} {x:β→Value} {b:β} {h':PH} {L':List E5} (q:L'=L):PE N x L (.inr b) (.panicked [{ v:=x b,recovered:=false }]) h' L':=⟨rfl,q⟩
def quiet (Q:Exit→Act→World→Prop):Exit→Act→World→Prop
 | .panic _,_,_=>False
 | e,a,w=>Q e a w
theorem Calm.quiet:Calm (quiet Q):=λ_ _ _ _ _ q=>q.elim
def LVP (P:Program) (fn:Func) (h₀:PH) (R:Value→PH→List E5→Prop) (chain:List PanicEntry) (a:Act) (w:World):Prop:=
 LeavesInM (Fen none) 0 P fn a.tmps (λe w'=>∃ v h' L',e=.returned v∧Le h₀ h'∧Inv w' h' L'∧R v h' L') a.defers (.panicking chain) w
def D0D (P:Program) (fn:Func) (h₀:PH) (R:Value→PH→List E5→Prop):Exit→Act→World→Prop
 | .normal,a,w | .ret,a,w=>LV P fn h₀ R a w
 | .panic chain,a,w=>LVP P fn h₀ R chain a w
 | _,_,_=>False
theorem I7.D3e {f:FuncId} {fn:Func} {c:Code} {args:List Value} {R:Value→PH→List E5→Prop} {n:Nat}
  (hf : P.funcs[f]? = some fn) (hb : fn.body = some c) (hn : fn.ntmps = n) (hc : (fn.name == "runtime.NumGoroutine") = false)
  (k:T (args.length+(n - args.length)) [] (A6C 0 args) h L (c.wr none P (D0D P fn h R))):I7 P f args h L R:=by
 refine ⟨by simp [hf,hb,hc],λw i=>C2W (r:=none) (n:=0) (callsIn_of_wp_marks hf hb trivial (wpIn_mono (k _ w ⟨by simp [hn],rfl,?_⟩ i) ?_))⟩
 case refine_2=>
  intro e a w' q
  cases e <;> first | exact q | exact q.elim
 exact B9P
theorem T.D3B {fn:Func} {h₀:PH} {R:Value→PH→List E5→Prop} (k:T n D ρ h L (LV P fn h₀ R)):T n D ρ h L (D0D P fn h₀ R .ret):=k
def FnR (P:Program) (f:FuncId) (args:List Value) (h:PH) (L:List E5) (v:Value) (R:PH→List E5→Prop):Prop:=
 ((P.funcs[f]?).map fun fn=>fn.name == "runtime.NumGoroutine" || fn.body.isNone) = some false∧
 ∀ w,Inv w h L→CallsDIn (Fen none) 0 P f args.toArray (.panicking [{ v,recovered:=false }]) w λe u' w'=>settle u'=.returning∧∃ h' L',e=.returned (.tuple #[])∧Le h h'∧Inv w' h' L'∧R h' L'
def FnQ (P:Program) (f:FuncId) (args:List Value) (h:PH) (L:List E5) (R:PH→List E5→Prop):Prop:=
 ((P.funcs[f]?).map fun fn=>fn.name == "runtime.NumGoroutine" || fn.body.isNone) = some false∧
 ∀ w,Inv w h L→CallsDIn (Fen none) 0 P f args.toArray .returning w λe u' w'=>u'=.returning∧∃ h' L',e=.returned (.tuple #[])∧Le h h'∧Inv w' h' L'∧R h' L'
theorem T.lvR {fn:Func} {h₀:PH} {R:Value→PH→List E5→Prop} {R':PH→List E5→Prop} {f:FuncId} {cs:List Value} {v:Value} (s:FnR P f cs h L v R')
  (k:∀ h' L',Le h h'→R' h' L'→T n D ρ h' L' (LV P fn h₀ R)):T n ({ target:=.fn (.func f) cs.toArray,args:=#[] }::D) ρ h L (D0D P fn h₀ R (.panic [{ v,recovered:=false }])):=λa w fr i=>by
 have hi:(invoke (.fn (.func f) cs.toArray) #[]).run P w=.ok (.enter f cs.toArray) w:=by
  have:=A3l (P:=P) (f:=f) (args:=cs.toArray) s.1 w
  simpa [invoke] using this
 show LVP P fn h₀ R _ a w
 unfold LVP
 rw [fr.defers]
 refine ⟨by simp,.inr ⟨Fen.depth none,.func f,cs.toArray,f,cs.toArray,rfl,hi,λ_ _=>trivial,(s.2 w i).mono ?_⟩⟩
 rintro e u' w' ⟨hu,h',L',rfl,hl,hi',hR⟩
 have kk:=k h' L' hl hR { a with defers:=D } w' ⟨fr.size,rfl,fr.has⟩ hi'
 show LeavesInM _ _ _ _ _ _ _ (settle u') _
 rw [hu]; exact kk
theorem T.lvQ {fn:Func} {h₀:PH} {R:Value→PH→List E5→Prop} {R':PH→List E5→Prop} {f:FuncId} {cs:List Value} (s:FnQ P f cs h L R')
  (k:∀ h' L',Le h h'→R' h' L'→T n D ρ h' L' (LV P fn h₀ R)):T n ({ target:=.fn (.func f) cs.toArray,args:=#[] }::D) ρ h L (LV P fn h₀ R):=λa w fr i=>by
 have hi:(invoke (.fn (.func f) cs.toArray) #[]).run P w=.ok (.enter f cs.toArray) w:=by
  have:=A3l (P:=P) (f:=f) (args:=cs.toArray) s.1 w
  simpa [invoke] using this
 unfold LV
 rw [fr.defers]
 refine ⟨by simp,.inr ⟨Fen.depth none,.func f,cs.toArray,f,cs.toArray,rfl,hi,λ_ _=>trivial,(s.2 w i).mono ?_⟩⟩
 rintro e u' w' ⟨rfl,h',L',rfl,hl,hi',hR⟩
 have kk:=k h' L' hl hR { a with defers:=D } w' ⟨fr.size,rfl,fr.has⟩ hi'
 exact kk
def B4C (P:Program) (fn:Func) (h₀:PH) (R:PH→List E5→Prop):Exit→Act→World→Prop
 | .normal,a,w | .ret,a,w=>a.defers=[]∧∃ h' L',Le h₀ h'∧Inv w h' L'∧R h' L'
 | _,_,_=>False
theorem Calm.rec {fn:Func} {h₀:PH} {R:PH→List E5→Prop}:Calm (B4C P fn h₀ R):=λ_ _ _ _ _ q=>q.elim
theorem T.D3R {fn:Func} {h₀:PH} {R:PH→List E5→Prop} (hl:Le h₀ h) (hR:R h L):T n [] ρ h L (B4C P fn h₀ R .normal):=λ_ _ f i=>⟨f.defers,h,L,hl,i,hR⟩
theorem C9O {f:FuncId} {fn:Func} {id d1 d2:Nat} {ts:Array TypeId} {ty1 ty2:TypeId} {p1 p2:String} {a1 a2:Array Edge} {rest:Code} {args:List Value} {R:PH→List E5→Prop} {n:Nat} {u u':FrameMode} {v:Value}
  (hf:P.funcs[f]?=some fn)
  (hb:fn.body=some (Code.seq (Code.region id #[⟨some d1,.call ⟨.builtin .recover,#[],ts⟩,ty1,p1,a1,none⟩,⟨some d2,.assign (.tmp d1),ty2,p2,a2,none⟩] false) rest))
  (hn:fn.ntmps=n) (h0:fn.results=#[]) (hd1:Nat.blt d1 (args.length+(n - args.length))=true) (hd2:Nat.blt d2 (args.length+(n - args.length))=true)
  (hrec:∀ (c₀:Frame) (cs:List Frame),c₀.mode=u→(match recoverD (c₀::cs) with | some (x,cs')=>(x,cs') | none=>(Value.nilIface,c₀::cs))=(v,{ c₀ with mode:=u' }::cs))
  (k:T (args.length+(n - args.length)) [] ((d2,v)::(d1,v)::A6C 0 args) h L (rest.wr none P (B4C P fn h R))) (w:World) (i:Inv w h L) :
  CallsDIn (Fen none) 0 P f args.toArray u w λe u'' w'=>u''=u'∧∃ h' L',e=.returned (.tuple #[])∧Le h h'∧Inv w' h' L'∧R h' L':=by
 refine callsDIn_of_wpSIn hf hb trivial λc₀ cs hu=>?_
 refine wpSIn_seq (wpSIn_region ?_)
 have hr:=hrec c₀ cs hu
 have e1:(execOp (Act.eval { tmps:=args.toArray++Array.replicate (fn.ntmps - args.toArray.size) undef,defers:=[] }) ⟨some d1,.call ⟨.builtin .recover,#[],ts⟩,ty1,p1,a1,none⟩).run P w=.ok .recover w:=by
  simp [execOp,resolve,invoke]
  rfl
 have hw1:∀ o:Oper,o.guard=none→∀ x,Region.wanted o x=true:=by
  intro o ho x; simp [Region.wanted,ho]
 have hmain:∀ cs',cs'=({ c₀ with mode:=u' }::cs:List Frame)→rest.wpSIn (Fen none) 0 P (bodyPostS P fn c₀ cs λe u'' w'=>u''=u'∧∃ h' L',e=.returned (.tuple #[])∧Le h h'∧Inv w' h' L'∧R h' L')
   (((({ tmps:=args.toArray++Array.replicate (fn.ntmps - args.toArray.size) undef,defers:=[] }:Act).put (some d1) v)).put (some d2) v) cs' w:=by
  rintro cs' rfl
  refine wpSIn_of_wpIn rfl (wpIn_mono (k _ w ⟨?_,rfl,?_⟩ i) ?_)
  ·simp [Act.put,hn]
  ·have f0:Fr (args.length+(n - args.length)) [] (A6C 0 args) { tmps:=args.toArray++Array.replicate (fn.ntmps - args.toArray.size) undef,defers:=[] }:=⟨by simp [hn],rfl,B9P⟩
   exact ((f0.put hd1).put hd2).has
  ·intro e a w' q
   cases e with
   | normal=>obtain ⟨hd,h',L',hl,hi,hR⟩:=q; exact ⟨hd,u',rfl,.tuple #[],results_none h0 _ _ _,rfl,h',L',rfl,hl,hi,hR⟩
   | ret=>obtain ⟨hd,h',L',hl,hi,hR⟩:=q; exact ⟨hd,u',rfl,.tuple #[],results_none h0 _ _ _,rfl,h',L',rfl,hl,hi,hR⟩
   | _=>exact q.elim
 have e2:∀ a:Act,(execOp a.eval ⟨some d2,.assign (.tmp d1),ty2,p2,a2,none⟩).run P w=.ok (.value (a.eval (.tmp d1))) w:=by
  intro a; simp [execOp]
 have hget:∀ a:Act,d1<a.tmps.size→(a.put (some d1) v).eval (.tmp d1)=v:=by
  intro a hlt; simp [Act.put,Act.eval,hlt]
 have hsz:d1<({ tmps:=args.toArray++Array.replicate (fn.ntmps - args.toArray.size) undef,defers:=[] }:Act).tmps.size:=by
  have h1:d1<args.length+(n - args.length):=by rw [Nat.blt_eq] at hd1; exact hd1
  simp [hn]; omega
 rw [show List.range (#[(⟨some d1,.call ⟨.builtin .recover,#[],ts⟩,ty1,p1,a1,none⟩:Oper),⟨some d2,.assign (.tmp d1),ty2,p2,a2,none⟩]:Array Oper).size=[0,1] from rfl]
 have g0:(#[(⟨some d1,.call ⟨.builtin .recover,#[],ts⟩,ty1,p1,a1,none⟩:Oper),⟨some d2,.assign (.tmp d1),ty2,p2,a2,none⟩]:Array Oper)[0]?=some ⟨some d1,.call ⟨.builtin .recover,#[],ts⟩,ty1,p1,a1,none⟩:=rfl
 have g1:(#[(⟨some d1,.call ⟨.builtin .recover,#[],ts⟩,ty1,p1,a1,none⟩:Oper),⟨some d2,.assign (.tmp d1),ty2,p2,a2,none⟩]:Array Oper)[1]?=some ⟨some d2,.assign (.tmp d1),ty2,p2,a2,none⟩:=rfl
 generalize (#[(⟨some d1,.call ⟨.builtin .recover,#[],ts⟩,ty1,p1,a1,none⟩:Oper),⟨some d2,.assign (.tmp d1),ty2,p2,a2,none⟩]:Array Oper)=ops at g0 g1 ⊢
 simp only [wpOpsSIn,g0,g1]
 refine ⟨λ_ _=>trivial,?_⟩
 rw [if_pos (hw1 _ rfl _),e1]
 rcases hx:recoverD (c₀::cs) with _ | ⟨x,cs'⟩
 ·rw [hx] at hr
  obtain ⟨rfl,hc⟩:=Prod.mk.inj hr
  show _∧_
  refine ⟨λ_ _=>trivial,?_⟩
  rw [if_pos (hw1 _ rfl _),e2,hget _ hsz]
  exact hmain _ hc
 ·rw [hx] at hr
  obtain ⟨rfl,hc⟩:=Prod.mk.inj hr
  show _∧_
  refine ⟨λ_ _=>trivial,?_⟩
  rw [if_pos (hw1 _ rfl _),e2,hget _ hsz]
  exact hmain _ hc
theorem FnR.enter {f:FuncId} {fn:Func} {id d1 d2:Nat} {ts:Array TypeId} {ty1 ty2:TypeId} {p1 p2:String} {a1 a2:Array Edge} {rest:Code} {args:List Value} {R:PH→List E5→Prop} {n:Nat} {v:Value}
  (hf:P.funcs[f]?=some fn)
  (hb:fn.body=some (Code.seq (Code.region id #[⟨some d1,.call ⟨.builtin .recover,#[],ts⟩,ty1,p1,a1,none⟩,⟨some d2,.assign (.tmp d1),ty2,p2,a2,none⟩] false) rest))
  (hn : fn.ntmps = n) (h0 : fn.results = #[]) (hc : (fn.name == "runtime.NumGoroutine") = false) (hd1 : Nat.blt d1 (args.length + (n - args.length)) = true) (hd2 : Nat.blt d2 (args.length + (n - args.length)) = true)
  (k:T (args.length+(n - args.length)) [] ((d2,v)::(d1,v)::A6C 0 args) h L (rest.wr none P (B4C P fn h R))):FnR P f args h L v R:=
 ⟨by simp [hf,hb,hc],λw i=>(C9O (u':=.panicking [{ v,recovered:=true }]) hf hb hn h0 hd1 hd2 (by intro c₀ cs hu; simp [recoverD,hu]) k w i).mono λ_ _ _ q=>⟨by rw [q.1]; rfl,q.2⟩⟩
theorem FnQ.enter {f:FuncId} {fn:Func} {id d1 d2:Nat} {ts:Array TypeId} {ty1 ty2:TypeId} {p1 p2:String} {a1 a2:Array Edge} {rest:Code} {args:List Value} {R:PH→List E5→Prop} {n:Nat}
  (hf:P.funcs[f]?=some fn)
  (hb:fn.body=some (Code.seq (Code.region id #[⟨some d1,.call ⟨.builtin .recover,#[],ts⟩,ty1,p1,a1,none⟩,⟨some d2,.assign (.tmp d1),ty2,p2,a2,none⟩] false) rest))
  (hn : fn.ntmps = n) (h0 : fn.results = #[]) (hc : (fn.name == "runtime.NumGoroutine") = false) (hd1 : Nat.blt d1 (args.length + (n - args.length)) = true) (hd2 : Nat.blt d2 (args.length + (n - args.length)) = true)
  (k:T (args.length+(n - args.length)) [] ((d2,.nilIface)::(d1,.nilIface)::A6C 0 args) h L (rest.wr none P (B4C P fn h R))):FnQ P f args h L R:=
 ⟨by simp [hf,hb,hc],λw i=>C9O (u':=.returning) hf hb hn h0 hd1 hd2 (by rintro ⟨⟩ cs hu; simp_all [recoverD]) k w i⟩
theorem V.neI {X:World→Prop} {x:Operand} {t u tt:TypeId} {ms:_} {v:Value} (ht:P.underlying t=some (.interface ms)) (e:ev ρ x=some (.iface tt v)) :
  Val P X ρ ⟨d,.binOp .neq t x (.const .nilIface) u,ty,pos,af,g⟩ (.bool true):=λa w _ hs=>by
 have h2:a.eval (.const .nilIface)=.nilIface:=rfl
 have hq:(Op.equal t (.iface tt v) .nilIface).run P w=.ok false w:=by
  obtain ⟨m,hm⟩:∃ m,Op.maxDepth=m+1:=⟨_,rfl⟩
  unfold Op.equal; rw [hm]
  simp [Op.equalIn,run_underlying ht]
 simp only [execOp,hs.ev e,h2,eqGuard,binOp]
 simp [hq]
theorem V.neN {X:World→Prop} {x:Operand} {t u:TypeId} {ms:_} (ht:P.underlying t=some (.interface ms)) (e:ev ρ x=some .nilIface) :
  Val P X ρ ⟨d,.binOp .neq t x (.const .nilIface) u,ty,pos,af,g⟩ (.bool false):=λa w _ hs=>by
 have h2:a.eval (.const .nilIface)=.nilIface:=rfl
 have hq:(Op.equal t .nilIface .nilIface).run P w=.ok true w:=by
  obtain ⟨m,hm⟩:∃ m,Op.maxDepth=m+1:=⟨_,rfl⟩
  unfold Op.equal; rw [hm]
  simp [Op.equalIn,run_underlying ht]
 simp only [execOp,hs.ev e,h2,eqGuard,binOp]
 simp [hq]
theorem V.ta {X:World→Prop} {x:Operand} {t tt:TypeId} {fs:_} {v:Value} (ht:P.underlying tt=some (.struct fs)) (e:ev ρ x=some (.iface tt v)) :
  Val P X ρ ⟨d,.typeAssert x t tt false,ty,pos,af,g⟩ v:=λa w _ hs=>by
 simp [execOp,hs.ev e,Instr.typeAssert,run_underlying ht]
end
end Go.Sl
namespace Go.Sl
open Go
def C0r {α:Type} (x:α):List α→List (List α)
 | []=>[[x]]
 | y::l=>(x::y::l)::(C0r x l).map (y::·)
def C5s {α:Type}:List α→List (List α)
 | []=>[[]]
 | x::l=>(C5s l).flatMap (C0r x)
theorem B9W {α:Type} (x:α) (l2:List α):∀ l1:List α,l1++x::l2∈C0r x (l1++l2)
 | []=>by cases l2 <;> simp [C0r]
 | y::l1=>by simp only [List.cons_append,C0r]; exact List.mem_cons_of_mem _ (List.mem_map_of_mem (B9W x l2 l1))
theorem C2R {α:Type}:∀ {m l:List α},l.Perm m→l∈C5s m
 | [],l,p=>by rw [List.perm_nil.1 p]; simp [C5s]
 | x::m,l,p=>by
  obtain ⟨l1,l2,rfl⟩:=List.append_of_mem (p.symm.subset (List.mem_cons_self))
  have q:(l1++l2).Perm m:=by
   have:=(List.perm_middle.symm.trans p:(x::(l1++l2)).Perm (x::m))
   exact List.Perm.cons_inv this
  exact List.mem_flatMap.2 ⟨_,C2R q,B9W x l2 l1⟩
def C6G {α β:Type} [DecidableEq β] (m:List α) (F:List α→Option β):Option β:=match F m with
 | none=>none
 | some r=>bif (C5s m).all (λl=>decide (F l=some r)) then some r else none
theorem C6u {α β:Type} [DecidableEq β] {m:List α} {F:List α→Option β} {r:β} (H:C6G m F=some r):∀ l,l.Perm m→F l=some r:=by
 intro l p
 unfold C6G at H
 cases hF:F m with
 | none=>simp [hF] at H
 | some r'=>
  simp only [hF] at H
  cases ha:(C5s m).all (λl=>decide (F l=some r')) with
  | false=>rw [ha] at H; cases H
  | true=>
   rw [ha] at H; cases H
   exact of_decide_eq_true (List.all_eq_true.1 ha l (C2R p))
def Z9 {S α:Type} (st:S→α→Option S):S→List α→Option S
 | s,[]=>some s
 | s,x::l=>Option.bind (st s x) λs'=>Z9 st s' l
theorem D0U {S α β:Type} {st:S→α→Option S} {s:S} {K:S→Option β} {r:β} {x:α} {todo todo':List α} (H:∀ l,l.Perm todo→(Option.bind (Z9 st s l) K)=some r) (p:todo.Perm (x::todo')) :
  ∃ s',st s x=some s'∧∀ l,l.Perm todo'→(Option.bind (Z9 st s' l) K)=some r:=by
 have h0:=H (x::todo') p.symm
 cases hs:st s x with
 | none=>simp [Z9,hs] at h0
 | some s'=>
  refine ⟨s',rfl,λl q=>?_⟩
  have:=H (x::l) ((List.Perm.cons x q).trans p.symm)
  simpa [Z9,hs] using this
theorem D1C {S α β:Type} {st:S→α→Option S} {s:S} {K:S→Option β} {r:β} (H:Option.bind (Z9 st s []) K=some r):K s=some r:=H
theorem G9.D3T {α:Type} {E:Vr α} {sz:Nat} {h:PH} {v:Value} {xs:List α} (s:G9 E sz h v xs) {lo hi:Int} (hb:0≤lo∧lo≤hi∧hi≤(xs.length:Int)):G9 E sz h (B2u v lo.toNat hi.toNat sz) (Sl.sub xs lo.toNat hi.toNat):=by
 obtain ⟨a,c,rfl,_⟩:=s.shape
 exact s.sub (by omega) (by omega)
section rel
variable {κ α:Type} {ek:κ→Value} {agg:Bool} {E:Vr α} {h g:PH}
def Ent (ek:κ→Value) (agg:Bool) (E:Vr α) (h:PH) (e:MapEntry) (x:κ×α):Prop:=e.key=ek x.1∧∃ cs,e.val=pk agg cs∧E h cs x.2
inductive F2 {A B:Type} (R:A→B→Prop):List A→List B→Prop
 | nil:F2 R [] []
 | cons {a b l m}:R a b→F2 R l m→F2 R (a::l) (b::m)
theorem F2.imp {A B:Type} {R R':A→B→Prop} (i:∀ a b,R a b→R' a b) {l:List A} {m:List B} (f:F2 R l m):F2 R' l m:=by
 induction f with
 | nil=>exact .nil
 | cons r _ ih=>exact .cons (i _ _ r) ih
theorem F2.split {A B:Type} {R:A→B→Prop} {a:A} {l2:List A}:∀ {l1:List A} {m:List B},F2 R (l1++a::l2) m→∃ m1 b m2,m=m1++b::m2∧R a b∧F2 R (l1++l2) (m1++m2)
 | [],_,.cons r f=>⟨[],_,_,rfl,r,f⟩
 | y::l1,_,.cons r f=>by
  obtain ⟨m1,b,m2,rfl,q,f'⟩:=F2.split f
  exact ⟨_::m1,b,m2,rfl,q,.cons r f'⟩
def Lf (ek:κ→Value) (agg:Bool) (E:Vr α) (h:PH) (es:List MapEntry) (seen:Array Nat) (todo:List (κ×α)):Prop:=
 ∃ les:List MapEntry,les.Perm (es.filter λe=>!seen.contains e.born)∧F2 (Ent ek agg E h) les todo
theorem Lf.mono (m:A1i E) {es:List MapEntry} {seen:Array Nat} {todo:List (κ×α)} (f:Lf ek agg E h es seen todo) (l:Le h g):Lf ek agg E g es seen todo:=by
 obtain ⟨les,p,q⟩:=f
 exact ⟨les,p,q.imp λa b ⟨k,cs,v,e⟩=>⟨k,cs,v,m _ _ _ _ l e⟩⟩
theorem V7.f2:∀ {n:Nat} {es:List MapEntry} {m:List (κ×α)},V7 ek agg E h n es m→F2 (Ent ek agg E h) es m
 | _,[],[],_=>.nil
 | _,_::_,(_,_)::_,⟨⟨cs,e,q⟩,r⟩=>.cons ⟨by rw [e],cs,by rw [e],q⟩ (V7.f2 r)
theorem V7.born:∀ {n:Nat} {es:List MapEntry} {m:List (κ×α)},V7 ek agg E h n es m→(∀ e∈es,n≤e.born∧e.born<n+es.length)∧(es.map (·.born)).Nodup
 | _,[],[],_=>⟨by simp,by simp⟩
 | n,e::es,(_,_)::_,⟨⟨cs,he,q⟩,r⟩=>by
  obtain ⟨a,b⟩:=V7.born r
  constructor
  ·intro e' he'
   rcases List.mem_cons.1 he' with rfl | h'
   ·rw [he]; simp
   ·have:=a e' h'; simp only [List.length_cons]; omega
  ·simp only [List.map_cons,List.nodup_cons]
   refine ⟨?_,b⟩
   rw [he]
   intro hm
   obtain ⟨e',h',h2⟩:=List.mem_map.1 hm
   have:=(a e' h').1
   simp only at h2
   omega
theorem Lf.start {es:List MapEntry} {m:List (κ×α)} (f:V7 ek agg E h 0 es m):Lf ek agg E h es #[] m:=⟨es,by
  have:(es.filter λe=>!(#[]:Array Nat).contains e.born)=es:=List.filter_eq_self.2 (by simp)
  rw [this],f.f2⟩
theorem Lf.nil {es:List MapEntry} {seen:Array Nat} {todo:List (κ×α)} (f:Lf ek agg E h es seen todo) (e:(es.filter λe=>!seen.contains e.born)=[]):todo=[]:=by
 obtain ⟨les,p,q⟩:=f
 rw [e] at p
 rw [List.perm_nil.1 p] at q
 cases q; rfl
theorem Lf.next {es:List MapEntry} {seen:Array Nat} {todo:List (κ×α)} {e:MapEntry} (f:Lf ek agg E h es seen todo) (he:e∈es.filter λe=>!seen.contains e.born) (nd:(es.map (·.born)).Nodup) :
  ∃ x todo',todo.Perm (x::todo')∧Ent ek agg E h e x∧Lf ek agg E h es (seen.push e.born) todo':=by
 obtain ⟨les,p,q⟩:=f
 obtain ⟨l1,l2,rfl⟩:=List.append_of_mem (p.symm.subset he)
 obtain ⟨m1,x,m2,rfl,r,q'⟩:=q.split
 refine ⟨x,m1++m2,List.perm_middle,r,l1++l2,?_,q'⟩
 have hp:(e::(l1++l2)).Perm (es.filter λe=>!seen.contains e.born):=List.perm_middle.symm.trans p
 have hf:(es.filter λe'=>!(seen.push e.born).contains e'.born)=(es.filter λe=>!seen.contains e.born).filter λe'=>!(e'.born == e.born):=by
  rw [List.filter_filter]
  apply List.filter_congr
  intro a _
  simp only [Array.contains_push,Bool.not_or]
  rw [Bool.and_comm,Bool.beq_comm] <;> rfl
 rw [hf]
 have h1:=hp.filter λe'=>!(e'.born == e.born)
 have h2:(e::(l1++l2)).filter (λe'=>!(e'.born == e.born))=l1++l2:=by
  simp only [List.filter_cons,beq_self_eq_true,Bool.not_true,Bool.false_eq_true,if_false]
  rw [List.filter_eq_self]
  intro a ha
  have nd':((e::(l1++l2)).map (·.born)).Nodup:=by
   have:=(List.Perm.map (·.born) hp).nodup_iff
   rw [this]
   exact nd.sublist (List.filter_sublist.map _)
  simp only [List.map_cons,List.nodup_cons] at nd'
  have:a.born≠e.born:=λq=>nd'.1 (q ▸ List.mem_map_of_mem ha)
  simp [this]
 rw [h2] at h1
 exact h1
theorem Lf.step {es:List MapEntry} {seen:Array Nat} {todo:List (κ×α)} {e:MapEntry} (f:Lf ek agg E h es seen todo) (he:e∈es.filter λe=>!seen.contains e.born) (nd:(es.map (·.born)).Nodup) :
  ∃ k x cs todo' b,e=⟨ek k,pk agg cs,b⟩∧E h cs x∧todo.Perm ((k,x)::todo')∧Lf ek agg E h es (seen.push b) todo':=by
 obtain ⟨⟨k,x⟩,todo',p,⟨hk,cs,hv,hE⟩,l⟩:=f.next he nd
 rcases e with ⟨a,v,b⟩
 simp only at hk hv l
 subst hk; subst hv
 exact ⟨k,x,cs,todo',b,rfl,hE,p,l⟩
theorem V7.hold {es:List MapEntry} {m:List (κ×α)} (f:V7 ek agg E h 0 es m):∀ x∈es,x.born<es.length:=λx hx=>by have:=(f.born.1 x hx).2; simpa using this
theorem Perm.lt {α:Type} {x:α} {l m:List α} (p:l.Perm (x::m)):m.length<l.length:=by have:=p.length_eq; simp at this; omega
end rel
section ops
variable {ro:Option Nat} {P:Program} {n:Nat} {D:List Deferred} {ρ:Env} {h:PH} {L:List E5} {Q:Exit→Act→World→Prop} {K:Act→World→Prop}
variable {d:Option Nat} {ty:TypeId} {pos:String} {af:Array Edge} {g:Option (Nat×Bool)}
theorem O.range {dd:Nat} {x:Operand} {t kt et bm j c:Nat} {es:Array MapEntry} (ht:P.underlying t=some (.map kt et)) (e:ev ρ x=some (.map (some bm))) (hj:L[j]?=some (blk bm (.map es c))) (hd:Nat.blt dd n=true)
  (k:∀ b,T n D ((dd,.pointer (some ⟨b,0,none⟩))::ρ) h (blk b (.mapIter (some bm) c #[] c)::L) K) :
  T n D ρ h L (λa w=>Oper.wr ⟨some dd,.range t x,ty,pos,af,g⟩ ro P a w K Q):=λa w f i=>by
 have hb:=i.own hj
 have hrun:(execOp a.eval ⟨some dd,.range t x,ty,pos,af,g⟩).run P w=.ok (.value (.pointer (some ⟨w.heap.size,0,none⟩))) (w.alloc (.mapIter (some bm) c #[] c)):=by
  simp [execOp,f.has.ev e,Instr.range,run_underlying ht,MapKept.run_getObj_map hb]
 exact A0j hrun (k _ _ _ (f.put hd) (i.alloc _))
theorem D0R {es:List MapEntry} {seen:Array Nat} {since c0:Nat} (hold:∀ x∈es,x.born<since) (hsc:since≤c0) :
  (!seen.isEmpty && !es.toArray.isEmpty && es.toArray.all (λx=>decide (x.born ≥ c0)))=false:=by
 cases es with
 | nil=>simp
 | cons e es=>
  have h2:¬ (c0≤e.born):=by have:=hold e (by simp); omega
  simp [h2]
theorem O.next {dd it bm j jm since c0 c:Nat} {x:Operand} {seen:Array Nat} {es:List MapEntry} (e:ev ρ x=some (.pointer (some ⟨it,0,none⟩)))
  (hj:L[j]?=some (blk it (.mapIter (some bm) since seen c0))) (hm:L[jm]?=some (blk bm (.map es.toArray c))) (hold:∀ x∈es,x.born<since) (hsc:since≤c0) (hd:Nat.blt dd n=true)
  (k0:(es.filter λe=>!seen.contains e.born)=[]→T n D ((dd,.tuple #[.bool false])::ρ) h L K)
  (k1:∀ e∈es.filter λe=>!seen.contains e.born,T n D ((dd,.tuple #[.bool true,e.key,e.val])::ρ) h (blk it (.mapIter (some bm) since (seen.push e.born) c)::L.eraseIdx j) K) :
  T n D ρ h L (λa w=>Oper.wr ⟨some dd,.next x false,ty,pos,af,g⟩ ro P a w K Q):=λa w f i=>by
 have hb:=i.own hj
 have hb2:=i.own hm
 have hn:=D0R (seen:=seen) hold hsc
 have i1:=i.front hj
 have g1:(getObj it).run P w=.ok (.mapIter (some bm) since seen c0) w:=by simp [getObj,Sem.run,hb]
 have g2:(getObj bm).run P w=.ok (.map es.toArray c) w:=by simp [getObj,Sem.run,hb2]
 have hfl:(es.toArray.filter λe=>!seen.contains e.born)=(es.filter λe=>!seen.contains e.born).toArray:=by simp
 generalize hL:(es.filter λe=>!seen.contains e.born)=left at k0 k1 hfl
 have hmem:∀ y∈left,y.born<since:=λy hy=>hold y (by rw [←hL] at hy; exact (List.mem_filter.1 hy).1)
 have e1:left.toArray.filter (λx=>decide (x.born<since))=left.toArray:=Array.filter_eq_self.2 (λx hx=>by simpa using hmem x (by simpa using hx))
 have e2:left.toArray.filter (λx=>decide (x.born ≥ since))=#[]:=by
  rw [Array.filter_eq_empty_iff]; intro x hx; have:=hmem x (by simpa using hx); simp; omega
 have base:(Instr.next (.pointer (some ⟨it,0,none⟩)) false ty).run P w=(do
   match ((if left.toArray.isEmpty then #[none] else #[])++(left.toArray++#[]).map some)[←choose (.mapNext ((if left.toArray.isEmpty then (#[none]:Array (Option MapEntry)) else #[])++(left.toArray++#[]).map some).size)]? with
   | some (some e)=>do
    setObj it (.mapIter (some bm) since (seen.push e.born) c)
    pure (.tuple #[.bool true,e.key,e.val])
   | some none=>pure (.tuple #[.bool false])
   | none=>stuck "Next: no such candidate" : Sem Value).run P w:=by
  simp only [Instr.next,Sem.run_bind,g1,g2,Result.andThen_ok,hn,Bool.false_eq_true,if_false,hfl,e1,e2]
  rfl
 rcases hl:left with _ | ⟨e0,left'⟩
 ·subst hl
  have hrun:(Instr.next (.pointer (some ⟨it,0,none⟩)) false ty).run P w=.ok (.tuple #[.bool false]) w:=by
   rw [base]
   simp [choose,Sem.run,Question.forced]
  have hx:(execOp a.eval ⟨some dd,.next x false,ty,pos,af,g⟩).run P w=.ok (.value (.tuple #[.bool false])) w:=by
   simp [execOp,f.has.ev e,hrun]
  exact A0j hx (k0 rfl _ _ (f.put hd) i)
 ·have hne:left.toArray.isEmpty=false:=by rw [hl]; rfl
  have hp:∀ (h:Array Obj) (x y:Obj),(h.push x).setIfInBounds h.size y=h.push y:=by
   intro h x y; apply Array.toList_inj.1; simp
  have hch:∃ (q:Nat) (w1:World),q<left.length∧(w1=w∨w1=w.drew)∧(choose (Question.mapNext left.length)).run P w=.ok q w1:=by
   by_cases hf:left.length≤1
   ·exact ⟨0,w,by rw [hl]; simp,.inl rfl,by simp [choose,Sem.run,Question.forced,hf]⟩
   ·exact ⟨_,w.drew,Nat.mod_lt _ (by omega),.inr rfl,by
     simp only [choose,Sem.run,Question.forced,decide_eq_true_eq,hf,if_false,Question.cut]
     rfl⟩
  obtain ⟨q,w1,hq,hw1,hrun⟩:=hch
  have iw:Inv w1 h (blk it (.mapIter (some bm) since seen c0)::L.eraseIdx j):=by
   rcases hw1 with rfl | rfl
   ·exact i1
   ·exact i1.drew
  have hb1:w1.heap[it]?=some (.mapIter (some bm) since seen c0):=iw.own (k:=0) rfl
  have hset:(setObj it (.mapIter (some bm) since (seen.push left[q].born) c)).run P w1=.ok () (w1.putObj it (.mapIter (some bm) since (seen.push left[q].born) c)):=by
   simp [setObj,Sem.run,hb1,World.putObj]
  have hr:(Instr.next (.pointer (some ⟨it,0,none⟩)) false ty).run P w=.ok (.tuple #[.bool true,left[q].key,left[q].val]) (w1.putObj it (.mapIter (some bm) since (seen.push left[q].born) c)):=by
   rw [base]
   simp only [hne,Bool.false_eq_true,if_false,Array.empty_append,Array.append_empty,Array.size_map,List.size_toArray,Sem.run_bind,hrun,Result.andThen_ok]
   simp only [Array.getElem?_map,List.getElem?_toArray,List.getElem?_eq_getElem hq,Option.map_some,Sem.run_bind,hset,Result.andThen_ok]
   rfl
  have hx:(execOp a.eval ⟨some dd,.next x false,ty,pos,af,g⟩).run P w=.ok (.value (.tuple #[.bool true,left[q].key,left[q].val])) (w1.putObj it (.mapIter (some bm) since (seen.push left[q].born) c)):=by
   simp [execOp,f.has.ev e,hr]
  exact A0j hx (k1 _ (List.getElem_mem hq) _ _ (f.put hd) (iw.putObj _))
theorem V.entry {it bm j jm since c:Nat} {x:Operand} {seen:Array Nat} {es:List MapEntry} {u:MapEntry} (e:ev ρ x=some (.pointer (some ⟨it,0,none⟩)))
  (hj:L[j]?=some (blk it (.mapIter (some bm) since (seen.push u.born) c))) (hm:L[jm]?=some (blk bm (.map es.toArray c))) (hu:u∈es) (nd:(es.map (·.born)).Nodup) :
  Val P (XI h L) ρ ⟨d,.entry x,ty,pos,af,g⟩ (.tuple #[u.key,u.val]):=λa w iv hs=>by
 have i:Inv w h L:=iv
 have hb:=i.own hj
 have hb2:=i.own hm
 have g1:(getObj it).run P w=.ok (.mapIter (some bm) since (seen.push u.born) c) w:=by simp [getObj,Sem.run,hb]
 have g2:(getObj bm).run P w=.ok (.map es.toArray c) w:=by simp [getObj,Sem.run,hb2]
 have hf:es.find? (·.born == u.born)=some u:=by
  clear hb2 hm g2
  induction es with
  | nil=>cases hu
  | cons y l ih=>
   have hn':y.born∉l.map (·.born)∧(l.map (·.born)).Nodup:=List.nodup_cons.1 nd
   rcases List.mem_cons.1 hu with rfl | h'
   ·simp
   ·have hx:(y.born == u.born)=false:=by
     cases hc:y.born == u.born with
     | false=>rfl
     | true=>exact absurd (by rw [beq_iff_eq.1 hc]; exact List.mem_map.2 ⟨u,h',rfl⟩) hn'.1
    rw [List.find?_cons,hx]; exact ih h' hn'.2
 have hr:(Instr.entry (.pointer (some ⟨it,0,none⟩))).run P w=.ok (.tuple #[u.key,u.val]) w:=by
  simp [Instr.entry,g1,g2,hf]
 simp [execOp,hs.ev e,hr]
end ops
end Go.Sl
namespace Go.Sl
open Go
class CalmC (Q:Exit→Act→World→Prop):Prop where
 calm:Calm Q
theorem Calm.i {Q:Exit→Act→World→Prop} [c:CalmC Q]:Calm Q:=c.calm
instance {K:Act→World→Prop} {Q:Exit→Act→World→Prop} [c:CalmC Q]:CalmC (Exit.then K Q):=⟨Calm.then c.calm⟩
instance {id:Nat} {Q:Exit→Act→World→Prop} [c:CalmC Q]:CalmC (Exit.inBlock id Q):=⟨Calm.inBlock c.calm⟩
instance {Q:Exit→Act→World→Prop} [c:CalmC Q]:CalmC (Exit.noGoto Q):=⟨Calm.noGoto c.calm⟩
instance {Q:Exit→Act→World→Prop}:CalmC (Sl.quiet Q):=⟨Calm.quiet⟩
instance {P:Program} {fn:Func} {R:Ending→World→Prop}:CalmC (bodyPost P fn R):=⟨Calm.body⟩
instance {P:Program} {fn:Func} {h:PH} {R:Value→PH→List E5→Prop}:CalmC (C3p P fn h R):=⟨Calm.C3p⟩
instance {P:Program} {fn:Func} {h:PH} {R:PH→List E5→Prop}:CalmC (B4C P fn h R):=⟨Calm.rec⟩
instance {P:Program} {l:Nat} {h:PH} {R:Value→PH→List E5→Prop}:CalmC (RX P l h R):=⟨Calm.rx⟩
instance:CalmC (λ_ _ _=>False):=⟨Calm.no⟩
class Er (L:List E5) (j:Nat) (L':outParam (List E5)):Prop where
 eq:L.eraseIdx j=L'
instance {A:E5} {L:List E5}:Er (A::L) 0 L:=⟨rfl⟩
instance {A:E5} {L L':List E5} {j:Nat} [e:Er L j L']:Er (A::L) (j+1) (A::L'):=⟨by rw [←e.eq]; rfl⟩
class Nf (L:List E5) (L':outParam (List E5)):Prop where
 eq:L=L'
instance (priority:=low) {L:List E5}:Nf L L:=⟨rfl⟩
instance {A:E5} {L L':List E5} [e:Nf L L']:Nf (A::L) (A::L'):=⟨by rw [e.eq]⟩
instance {L M L':List E5} {j:Nat} [a:Nf L M] [e:Er M j L']:Nf (L.eraseIdx j) L':=⟨by rw [a.eq]; exact e.eq⟩
section
variable {ro:Option Nat} {P:Program} {n:Nat} {D:List Deferred} {ρ:Env} {h:PH} {L L':List E5} {Q:Exit→Act→World→Prop} {K:Act→World→Prop}
theorem T.fl [e:Nf L L'] (k:T n D ρ h L' K):T n D ρ h L K:=by rw [e.eq]; exact k
theorem T.cH {c:Operand} {x y:Code} {b:Bool} {α:Type} {u v:Option α} {r:α} (H:(bif b then u else v)=some r) (hc:ev ρ c=some (.bool b)) (ht:u=some r→T n D ρ h L (x.wr ro P Q)) (hf:v=some r→T n D ρ h L (y.wr ro P Q)) :
  T n D ρ h L ((Code.cond c x y).wr ro P Q):=T.cond hc (λe=>ht (by rw [e] at H; exact H)) (λe=>hf (by rw [e] at H; exact H))
theorem T.bH {Y:Act→World→Prop} {b:Bool} (t:Nat) {α:Type} {u v:Option α} {r:α} (H:(bif b then u else v)=some r) (hb:lk ρ t=some (.bool b)) (ht:u=some r→T n D ((t,.bool true)::ρ) h L Y) (hf:v=some r→T n D ((t,.bool false)::ρ) h L Y):T n D ρ h L Y:=
 T.D3y t hb (λe=>ht (by rw [e] at H; exact H)) (λe=>hf (by rw [e] at H; exact H))
end
theorem z {α:Sort _} {a:α}:a=a:=rfl
theorem Lr {h:PH}:Le h h:=Le.refl h
section
variable {ro:Option Nat} {P:Program} {n:Nat} {D:List Deferred} {ρ:Env} {h:PH} {L:List E5} {Q:Exit→Act→World→Prop} {X0 X1:World→Prop} {ph:Bool} {p i:Nat} {r:PT}
variable {ops:Array Oper} {rest:List Oper} {d:Nat} {op:Op} {ty:TypeId} {pos:String} {af:Array Edge} {g:Option (Nat×Bool)} {v:Value} {x:Operand}
theorem Mv (e:ev ρ x=some v) (k:T n D ((d,v)::ρ) h L (lwr ro P ops Q rest)) (hg:gd ops ρ g=true:=by rfl) (hd:Nat.blt d n=true:=by rfl):T n D ρ h L (lwr ro P ops Q (⟨some d,.move x,ty,pos,af,g⟩::rest)):=T.v hg (V.mv e) hd k
theorem Ag (e:ev ρ x=some v) (k:T n D ((d,v)::ρ) h L (lwr ro P ops Q rest)) (hg:gd ops ρ g=true:=by rfl) (hd:Nat.blt d n=true:=by rfl):T n D ρ h L (lwr ro P ops Q (⟨some d,.assign x,ty,pos,af,g⟩::rest)):=T.v hg (V.asg e) hd k
theorem Vv (hv:Val P (XI h L) ρ ⟨some d,op,ty,pos,af,g⟩ v) (k:T n D ((d,v)::ρ) h L (lwr ro P ops Q rest)) (hg:gd ops ρ g=true:=by rfl) (hd:Nat.blt d n=true:=by rfl):T n D ρ h L (lwr ro P ops Q (⟨some d,op,ty,pos,af,g⟩::rest)):=T.v hg hv hd k
theorem Sk (k:T n D ((d,undef)::ρ) h L (lwr ro P ops Q rest)) (hg:gn ops ρ g=true:=by rfl) (hd:Nat.blt d n=true:=by rfl):T n D ρ h L (lwr ro P ops Q (⟨some d,op,ty,pos,af,g⟩::rest)):=T.D2t hg hd k
theorem Tk [c:CalmC Q] (ho:ops[i]?=some ⟨some d,op,ty,pos,af,g⟩) (k:T n D ((d,undef)::ρ) h L (wpT ro P ops p X0 X1 Q r ph)) (hg:gn ops ρ g=true:=by rfl) (hd:Nat.blt d n=true:=by rfl):T n D ρ h L (wpT ro P ops p X0 X1 Q (.v i r) ph):=T.D3x ho hg hd c.calm k
theorem Tm [c:CalmC Q] (ho:ops[i]?=some ⟨some d,.move x,ty,pos,af,g⟩) (e:ev ρ x=some v) (k:T n D ((d,v)::ρ) h L (wpT ro P ops p X0 X1 Q r ph)) (hg:gd ops ρ g=true:=by rfl) (hd:Nat.blt d n=true:=by rfl):T n D ρ h L (wpT ro P ops p X0 X1 Q (.v i r) ph):=T.tv ho hg (V.mv e) hd c.calm k
theorem Tv [c:CalmC Q] (ho:ops[i]?=some ⟨some d,op,ty,pos,af,g⟩) (hv:Val P X1 ρ ⟨some d,op,ty,pos,af,g⟩ v) (k:T n D ((d,v)::ρ) h L (wpT ro P ops p X0 X1 Q r ph)) (hg:gd ops ρ g=true:=by rfl) (hd:Nat.blt d n=true:=by rfl):T n D ρ h L (wpT ro P ops p X0 X1 Q (.v i r) ph):=T.tv ho hg hv hd c.calm k
theorem To {o:Oper} (k:T n D ρ h L (λa w=>o.wr ro P a w (lwr ro P ops Q rest) Q)) (hg:gd ops ρ o.guard=true:=by rfl):T n D ρ h L (lwr ro P ops Q (o::rest)):=T.op hg k
theorem Sr {y:Code} {id:Nat} {l:List Oper} (k:T n D ρ h L (lwr ro P l.toArray (Exit.then (y.wr ro P Q) Q) l)):T n D ρ h L ((Code.seq (Code.region id l.toArray false) y).wr ro P Q):=T.seq (T.region k)
theorem Nt {K:Act→World→Prop} (k:T n D ρ h L K):T n D ρ h L (lwr ro P ops (Exit.then K Q) []):=T.nil (T.thN k)
theorem Rv {X:World→Prop} {t:Nat} (e:lk ρ t=some v):RVs P X ρ [.tmp t] [v]:=RVs.cons (RV.tmp e) RVs.nil
end
abbrev Sq:=@T.seq
abbrev Rg:=@T.region
abbrev Th:=@T.thN
abbrev Tp:=@T.top
abbrev Ts:=@T.tvs
abbrev Te:=@T.thE
abbrev Tr:=@T.thR
abbrev Be:=@T.blE
abbrev Bn:=@T.blN
abbrev Br:=@T.blR
abbrev Bl:=@T.block
abbrev O8:=@T.D1U
abbrev Fr_:=@T.front
abbrev Ni:=@T.nil
abbrev Ct:=@T.D1Y
abbrev Cf:=@T.D2a
end Go.Sl
