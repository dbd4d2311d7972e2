import Derived.Test.YthchjfilgaondaaGreatL2
import Derived.RangeFuncRecord
import Derived.RangeFuncIn
import Derived.RangeFuncLeaves
/- Rules. -/
set_option maxRecDepth 1000000
set_option maxHeartbeats 40000000
set_option linter.unusedVariables false
set_option linter.unusedSimpArgs false
set_option linter.unusedSectionVars false
set_option linter.unnecessarySimpa false
namespace Go.Sl
open Go
def Yld (P:Program) (y:Value) (vs:List Value) (h:PH) (L:List E5) (R:Value→PH→List E5→Prop):Prop:=
 ∀ (ro:Option Nat) (d:Option Nat) (x:Operand) (xs:List Operand) (ts:Array TypeId) (ty:TypeId) (pos:String) (af:Array Edge) (g:Option (Nat×Bool)) (a:Act) (w:World) (K:Act→World→Prop) (Q:Exit→Act→World→Prop),
  a.eval x=y→xs.map a.eval=vs→Inv w h L→(∀ v h' L' w',Le h h'→Inv w' h' L'→R v h' L'→K (a.put d v) w')→
  Oper.wr ⟨d,.call ⟨.value x,xs.toArray,ts⟩,ty,pos,af,g⟩ ro P a w K Q
theorem Inv.putObj {w:World} {h:PH} {b:Nat} {o:Obj} {L:List E5} (i:Inv w h (blk b o::L)) (o':Obj):Inv (w.putObj b o') h (blk b o'::L):=by
 have hb:=i.own (k:=0) rfl
 have hlt:b<w.heap.size:=by
  rcases Nat.lt_or_ge b w.heap.size with x | x
  ·exact x
  ·simp [Array.getElem?_eq_none x] at hb
 exact i.set (World.putObj_heap_same hlt) (λx hx=>World.putObj_heap_other hx) rfl rfl rfl
section
variable {ro:Option Nat} {P:Program} {n:Nat} {D:List Deferred} {ρ:Env} {h:PH} {L:List E5} {Q:Exit→Act→World→Prop} {K:Act→World→Prop}
variable {d:Option Nat} {ty:TypeId} {pos:String} {af:Array Edge} {g:Option (Nat×Bool)}
theorem O.A4f {dd:Nat} {x:Operand} {xs:List Operand} {ts:Array TypeId} {y:Value} {vs:List Value} {R:Value→PH→List E5→Prop} (e0:ev ρ x=some y) (e:evs ρ xs=some vs) (s:Yld P y vs h L R) (hd:Nat.blt dd n=true)
  (k:∀ v h' L',Le h h'→R v h' L'→T n D ((dd,v)::ρ) h' L' K) :
  T n D ρ h L (λa w=>Oper.wr ⟨some dd,.call ⟨.value x,xs.toArray,ts⟩,ty,pos,af,g⟩ ro P a w K Q):=λa w f i=>
 s ro (some dd) x xs ts ty pos af g a w K Q (f.has.ev e0) (f.has.evs e) i λv h' L' w' hl hi hR=>k v h' L' hl hR _ w' (f.put hd) hi
def RX (P:Program) (l:Nat) (h₀:PH) (R:Value→PH→List E5→Prop):Exit→Act→World→Prop:=
 roundPost P l λe w'=>∃ v h' L',e=.returned v∧Le h₀ h'∧Inv w' h' L'∧R v h' L'
def BG (P:Program) (l:Nat) (body:Code) (Q:Exit→Act→World→Prop) (a:Act) (w:World):Prop:=
 ∃ w₂,(Instr.beginRound l).run P w=.ok () w₂∧body.wr (some l) P Q a w₂
theorem T.begin {l j:Nat} {r:Loop} {body:Code} (hj:L[j]?=some (blk l (.loop r))) (hr:r.state=.ready)
  (k:T n D ρ h (blk l (.loop { r with state:=.busy })::L.eraseIdx j) (body.wr (some l) P Q)):T n D ρ h L (BG P l body Q):=λa w f i=>by
 have i1:=i.front hj
 exact ⟨_,run_beginRound (i1.own (k:=0) rfl) hr,k _ _ f (i1.putObj _)⟩
theorem T.B7T {l j:Nat} {r:Loop} {h₀:PH} {R:Value→PH→List E5→Prop} (hj:L[j]?=some (blk l (.loop r))) (hl:Le h₀ h) (hR:R (.bool true) h (blk l (.loop { r with state:=.ready,pending:=none })::L.eraseIdx j)) :
  T n D ρ h L (RX P l h₀ R .normal):=λa w f i=>by
 have i1:=i.front hj
 exact ⟨_,_,run_endRound none (i1.own (k:=0) rfl),_,_,_,rfl,hl,i1.putObj _,hR⟩
theorem T.D3G {l j:Nat} {r:Loop} {h₀:PH} {R:Value→PH→List E5→Prop} (hj:L[j]?=some (blk l (.loop r))) (hl:Le h₀ h) (hR:R (.bool false) h (blk l (.loop { r with state:=.done,pending:=some .ret })::L.eraseIdx j)) :
  T n D ρ h L (RX P l h₀ R .ret):=λa w f i=>by
 have i1:=i.front hj
 exact ⟨_,_,run_endRound (some .ret) (i1.own (k:=0) rfl),_,_,_,rfl,hl,i1.putObj _,hR⟩
theorem T.D4I {l j id:Nat} {r:Loop} {h₀:PH} {R:Value→PH→List E5→Prop} (hj:L[j]?=some (blk l (.loop r))) (hl:Le h₀ h) (hR:R (.bool false) h (blk l (.loop { r with state:=.done,pending:=some (.exit id) })::L.eraseIdx j)) :
  T n D ρ h L (RX P l h₀ R (.exit id)):=λa w f i=>by
 have i1:=i.front hj
 exact ⟨_,_,run_endRound (some (.exit id)) (i1.own (k:=0) rfl),_,_,_,rfl,hl,i1.putObj _,hR⟩
structure C3i (r:Loop) (n:Nat) (ρ:Env) (ps:Array Tmp) (assign body:Code):Prop where
 params:r.params=ps
 assign:r.assign=assign
 body:r.body=body
 size:r.tmps.size=n
 has:Has ρ { tmps:=r.tmps,defers:=[] }
theorem C3i.turn {r:Loop} {ρ:Env} {ps:Array Tmp} {assign body:Code} (i:C3i r n ρ ps assign body) (s:LoopState) (p:Option Code):C3i { r with state:=s,pending:=p } n ρ ps assign body:=
 ⟨i.params,i.assign,i.body,i.size,i.has⟩
theorem Yld.B3q {l p j:Nat} {r:Loop} {v:Value} {assign body:Code} {R:Value→PH→List E5→Prop} (hj:L[j]?=some (blk l (.loop r))) (hr:C3i r n ρ #[p] assign body) (hp:Nat.blt p n=true)
  (k:T n [] ((p,v)::ρ) h L (assign.wr (some l) P (Exit.then (BG P l body (RX P l h R)) (λ_ _ _=>False)))):Yld P (.func (.yield l) #[] #[]) [v] h L R:=by
 intro ro d x xs ts ty pos af g a w K Q e0 e1 i kk
 have hb:=i.own hj
 have hsz:(#[v]:Array Value).size=r.params.size:=by rw [hr.params]; rfl
 have hy:=run_yield (P:=P) (args:=#[v]) hb hsz
 have hrun:(execOp a.eval ⟨d,.call ⟨.value x,xs.toArray,ts⟩,ty,pos,af,g⟩).run P w=.ok (.round l r.fn ((r.params.zip #[v]).foldl (λtmps (t,a)=>tmps.setIfInBounds t a) r.tmps) r.assign r.body) w:=by
  simp [execOp,resolve,e0,Deferred.ofValue,invoke]
  rw [show List.map (λx=>a.eval x) xs=[v] from e1]
  simpa using hy
 refine ⟨λ_ _=>trivial,?_⟩
 rw [Oper.semAt_eq _ _ _ (by intro c hc; cases hc),hrun]
 refine ⟨Fen.depth ro,RoundIn.mono (R:=λe w'=>∃ v h' L',e=.returned v∧Le h h'∧Inv w' h' L'∧R v h' L') ?_ ?_⟩
 ·refine roundIn_of_wpIn (F:=Fen ro) (n:=0) trivial ?_
  rw [hr.params,hr.assign,hr.body]
  have hz:((#[p]:Array Tmp).zip #[v]).foldl (λtmps (t,a)=>tmps.setIfInBounds t a) r.tmps=r.tmps.setIfInBounds p v:=by simp
  rw [hz]
  have hf:Fr n [] ((p,v)::ρ) { tmps:=r.tmps.setIfInBounds p v,defers:=[] }:=by
   have f0:Fr n [] ρ { tmps:=r.tmps,defers:=[] }:=⟨hr.size,rfl,hr.has⟩
   exact f0.put hp
  exact k _ w hf i
 ·rintro e w' ⟨u,h',L',rfl,hl,hi,hR⟩
  exact kk u h' L' w' hl hi hR
theorem Yld.fn {f:FuncId} {us cs vs:List Value} {R:Value→PH→List E5→Prop} (s:I7 P f (us++vs++cs) h L R):Yld P (.func (.func f) us.toArray cs.toArray) vs h L R:=by
 intro ro d x xs ts ty pos af g a w K Q e0 e1 i kk
 have hrun:(execOp a.eval ⟨d,.call ⟨.value x,xs.toArray,ts⟩,ty,pos,af,g⟩).run P w=.ok (.enter f (us++vs++cs).toArray) w:=by
  have:(execOp a.eval ⟨d,.call ⟨.value x,xs.toArray,ts⟩,ty,pos,af,g⟩).run P w=(callFunc f (us++vs++cs).toArray).run P w:=by
   simp [execOp,resolve,e0,Deferred.ofValue,invoke]
   rw [show List.map (λx=>a.eval x) xs=vs from e1]
  rw [this,A3l s.1 w]
 refine B8O hrun ((s.2 w i).mono ?_)
 rintro e' w' ⟨v,h',L',rfl,hl,hi,hR⟩
 exact kk v h' L' w' hl hi hR
end
end Go.Sl
namespace Go.Sl
open Go
section
variable {ro:Option Nat} {P:Program} {n:Nat} {D:List Deferred} {ρ:Env} {h:PH} {L:List E5} {Q:Exit→Act→World→Prop} {K:Act→World→Prop}
def mark (b:Nat):Deferred:={ target:=.collected b,args:=#[] }
theorem Fr.mark {a:Act} {b:Nat} (f:Fr n D ρ a):Fr n (mark b::D) ρ { a with defers:=[mark b]++a.defers }:=⟨f.size,by simp [f.defers],f.has⟩
theorem T.rangeFunc {x:Operand} {ps:Array Tmp} {assign body:Code} {gf:FuncId} {lb:List Value} (N:PH→List E5→Prop) (S:Code→PH→List E5→Prop)
  (e:ev ρ x=some (.func (.func gf) #[] lb.toArray))
  (k:∀ l b r,C3i r n ρ ps assign body→r.state=.ready→r.pending=none→
   I7 P gf ([.func (.yield l) #[] #[]]++lb) h (blk l (.loop r)::blk b (.deferred (some []))::L) λ_ h' L'=>
    ∃ r' L1,L'=blk l (.loop r')::blk b (.deferred (some []))::L1∧r'.state≠.busy∧((r'.pending=none∧N h' L1)∨∃ c,r'.pending=some c∧S c h' L1))
  (kn:∀ b h' L1,Le h h'→N h' L1→T n (mark b::D) ρ h' (blk b (.deferred (some []))::L1) (Q .normal))
  (ks:∀ b c h' L1,Le h h'→S c h' L1→T n (mark b::D) ρ h' (blk b (.deferred (some []))::L1) (c.wr none P Q)) :
  T n D ρ h L ((Code.rangeFunc x ps assign body).wr none P Q):=by
 intro a w f i
 refine wpIn_rangeFunc ?_
 intro fn _
 have i1:=(i.alloc (.deferred (some []))).alloc (.loop { state:=.ready,pending:=none,fn,tmps:=a.tmps,params:=ps,assign,body,defers:=w.heap.size })
 have hsz:(w.alloc (.deferred (some []))).heap.size=w.heap.size+1:=by simp
 rw [hsz] at i1
 have hg:=f.has.ev e
 have s:=k (w.heap.size+1) w.heap.size { state:=.ready,pending:=none,fn,tmps:=a.tmps,params:=ps,assign,body,defers:=w.heap.size } ⟨rfl,rfl,rfl,f.size,f.has⟩ rfl rfl
 have henter:=run_enterLoop_outer (P:=P) (w:=w) fn a.tmps ps assign body
 generalize hW:((w.alloc (.deferred (some []))).alloc (.loop { state:=.ready,pending:=none,fn,tmps:=a.tmps,params:=ps,assign,body,defers:=w.heap.size }))=W1 at i1 henter
 have c1:(resolve a.eval (rangeCall x (w.heap.size+1)) 0).run P W1=.ok { target:=.fn (.func gf) lb.toArray,args:=#[.func (.yield (w.heap.size+1)) #[] #[]] } W1:=by
  simp only [resolve,hg]
  simp [Act.eval]
  rfl
 have c2:(invoke (.fn (.func gf) lb.toArray) #[.func (.yield (w.heap.size+1)) #[] #[]]).run P W1=.ok (.enter gf (#[.func (.yield (w.heap.size+1)) #[] #[]]++lb.toArray)) W1:=by
  have:=A3l (P:=P) (f:=gf) (args:=#[.func (.yield (w.heap.size+1)) #[] #[]]++lb.toArray) s.1 W1
  simpa [invoke] using this
 refine ⟨w.heap.size+1,[mark w.heap.size],W1,{ target:=.fn (.func gf) lb.toArray,args:=#[.func (.yield (w.heap.size+1)) #[] #[]] },W1,gf,#[.func (.yield (w.heap.size+1)) #[] #[]]++lb.toArray,W1,henter,c1,λ_ _=>trivial,c2,Fen.depth none,B8X ?_⟩
 ·have s2:=s.2 _ i1
  rw [show ([Value.func (.yield (w.heap.size+1)) #[] #[]]++lb).toArray=#[.func (.yield (w.heap.size+1)) #[] #[]]++lb.toArray by simp] at s2
  refine s2.mono ?_
  rintro e' w' ⟨v,h',L',rfl,hl,hi,r',L1,rfl,hbusy,hcase⟩
  have hrec:=hi.own (k:=0) rfl
  have hend:=run_endLoop (P:=P) hrec hbusy
  have i2:=(hi.putObj (.loop { r' with state:=.exhausted })).drop
  generalize hW2:w'.putObj (w.heap.size+1) (.loop { r' with state:=.exhausted })=W2 at hend i2
  refine ⟨_,_,hend,?_⟩
  rcases hcase with ⟨hp,hN⟩ | ⟨c,hp,hS⟩
  ·rw [hp]; exact kn _ _ _ hl hN _ _ f.mark i2
  ·rw [hp]; exact ks _ c _ _ hl hS _ _ f.mark i2
def LV (P:Program) (fn:Func) (h₀:PH) (R:Value→PH→List E5→Prop) (a:Act) (w:World):Prop:=
 LeavesInM (Fen none) 0 P fn a.tmps (λe w'=>∃ v h' L',e=.returned v∧Le h₀ h'∧Inv w' h' L'∧R v h' L') a.defers .returning w
variable {fn:Func} {h₀:PH} {R:Value→PH→List E5→Prop}
theorem T.A7t {b j:Nat} (hj:L[j]?=some (blk b (.deferred (some [])))) (k:T n D ρ h (L.eraseIdx j) (LV P fn h₀ R)):T n (mark b::D) ρ h L (LV P fn h₀ R):=λa w f i=>by
 have i1:=i.front hj
 have ht:=run_takeDeferred (P:=P) (i1.own (k:=0) rfl)
 have i2:=(i1.putObj (.deferred none)).drop
 have kk:=k { a with defers:=D } _ ⟨f.size,rfl,f.has⟩ i2
 unfold LV at *
 rw [f.defers]
 exact ⟨by simp,.inl ⟨b,_,rfl,ht,kk⟩⟩
theorem T.A0N {rs:List ResultVar} {vs:List Value} {L':List E5} (hr:fn.results=rs.toArray) (hv:RVs P (XI h L) ρ rs vs) (hl:Le h₀ h) (hd:∀ w,Inv w h L→Inv w h L') (hR:R (B6X vs) h L') :
  T n [] ρ h L (LV P fn h₀ R):=λa w f i=>by
 unfold LV
 rw [f.defers]
 exact ⟨B6X vs,B3I hr (X:=XI h L) i f.has hv,_,h,L',rfl,hl,hd w i,hR⟩
def C3p (P:Program) (fn:Func) (h₀:PH) (R:Value→PH→List E5→Prop):Exit→Act→World→Prop
 | .normal,a,w | .ret,a,w=>LV P fn h₀ R a w
 | _,_,_=>False
theorem Calm.C3p {fn:Func} {h₀:PH} {R:Value→PH→List E5→Prop}:Calm (Sl.C3p P fn h₀ R):=λc a d v w q=>q.elim
theorem I7.B2M {f:FuncId} {fn:Func} {c:Code} {args:List Value} {h:PH} {L:List E5} {R:Value→PH→List E5→Prop} {n:Nat}
  (hf : P.funcs[f]? = some fn) (hb : fn.body = some c) (hn : fn.ntmps = n) (hc : (fn.name == "runtime.NumGoroutine") = false)
  (k:T (args.length+(n - args.length)) [] (A6C 0 args) h L (c.wr none P (C3p P fn h R))):I7 P f args h L R:=by
 refine ⟨by simp [hf,hb,hc],λw i=>C2W (r:=none) (n:=0) (callsIn_of_wp_marks hf hb trivial (wpIn_mono (k _ w ⟨by simp [hn],rfl,?_⟩ i) ?_))⟩
 case refine_2=>
  intro e a w' q
  cases e <;> first | exact q | exact q.elim
 intro t u e
 obtain ⟨j,rfl,hj⟩:=B8a _ _ _ _ e
 have hlt:j<args.length:=by
  rcases Nat.lt_or_ge j args.length with x | x
  ·exact x
  ·simp [List.getElem?_eq_none x] at hj
 simp [Array.getElem?_append,hlt]
 simpa [hlt] using hj
theorem T.A2Z (k:T n D ρ h L (LV P fn h₀ R)):T n D ρ h L (C3p P fn h₀ R .ret):=k
end
end Go.Sl
namespace Go.Sl
open Go
section
variable {α:Type} {enc:α→List Value}
variable {ro:Option Nat} {P:Program} {n:Nat} {D:List Deferred} {ρ:Env} {h:PH} {L:List E5} {Q:Exit→Act→World→Prop} {K:Act→World→Prop}
variable {d:Option Nat} {ty:TypeId} {pos:String} {af:Array Edge} {g:Option (Nat×Bool)}
end
end Go.Sl
namespace Go.Sl
open Go
theorem bnd {α β:Type} {a:Option α} {f:α→Option β} {r:β} (h:a.bind f=some r):∃ x,a=some x∧f x=some r:=by
 cases a with
 | none=>cases h
 | some x=>exact ⟨x,rfl,h⟩
def Hd {α β:Type} (F:α→Option β) (o:α) (r:β):Prop:=F o=some r
theorem J4 {α β:Type} {a:Option α} {f:α→Option β} {r:β} (h:a.bind f=some r):∃ x,a=some x∧Hd f x r:=bnd h
theorem D4g {α β:Type} {F:α→Option β} {x o:α} {r:β} (e:some x=some o) (h:Hd F o r):F x=some r:=by cases e; exact h
theorem H7 {α β:Type} {F:α→Option β} {x o:α} {r:β} (e:o=x) (h:Hd F o r):F x=some r:=by cases e; exact h
theorem K9 {α:Type} {x o:α} (e:some x=some o):o=x:=by cases e; rfl
def iter {σ ρ:Type} (f:σ→Option (σ⊕ρ)):Nat→σ→Option ρ
 | 0,_=>none
 | n+1,s=>(f s).bind λq=>match q with
  | .inl s'=>iter f n s'
  | .inr o=>some o
def D0b {σ ρ:Type} (f:σ→Option (σ⊕ρ)) (m:Nat) (o:ρ):σ⊕ρ→Prop
 | .inl s=>iter f m s=some o
 | .inr x=>o=x
theorem G5 {σ ρ:Type} {f:σ→Option (σ⊕ρ)} {n:Nat} {s:σ} {o:ρ} (h:iter f n s=some o):∃ m q,n=m+1∧f s=some q∧D0b f m o q:=by
 cases n with
 | zero=>cases h
 | succ m=>
  obtain ⟨q,hq,h⟩:=bnd h
  refine ⟨m,q,rfl,hq,?_⟩
  cases q with
  | inl s'=>exact h
  | inr x=>cases h; rfl
theorem D8 {σ ρ:Type} {f:σ→Option (σ⊕ρ)} {m:Nat} {s:σ} {o:ρ} {q:σ⊕ρ} (e:some (Sum.inl s)=some q) (h:D0b f m o q):iter f m s=some o:=by cases e; exact h
theorem D5 {σ ρ:Type} {f:σ→Option (σ⊕ρ)} {m:Nat} {o x:ρ} {q:σ⊕ρ} (e:some (Sum.inr x)=some q) (h:D0b f m o q):o=x:=by cases e; exact h
abbrev FUEL:Nat:=18446744073709551616
def J5 (x:Int):Option Int:=match x with
 | .ofNat n=>bif Nat.ble n 9223372036854775807 then some x else none
 | .negSucc n=>bif Nat.ble n 9223372036854775807 then some x else none
theorem C6k {x z:Int} (h:J5 x=some z):z=x∧-9223372036854775808≤x∧x≤9223372036854775807:=by
 unfold J5 at h
 cases x with
 | ofNat n=>
  cases hb:Nat.ble n 9223372036854775807 with
  | true=>simp [hb] at h; have:=Nat.le_of_ble_eq_true hb; exact ⟨h.symm,by simp <;> omega,by simp <;> omega⟩
  | false=>simp [hb] at h
 | negSucc n=>
  cases hb:Nat.ble n 9223372036854775807 with
  | true=>simp [hb] at h; have:=Nat.le_of_ble_eq_true hb; exact ⟨h.symm,by omega,by omega⟩
  | false=>simp [hb] at h
def A0Q (k:IntKind) (x:Int):Option Int:=bif decide (k.wrap x=x) then some x else none
theorem C3D {k:IntKind} {x z:Int} (h:A0Q k x=some z):z=x∧k.wrap x=x:=by
 unfold A0Q at h
 cases hb:decide (k.wrap x=x) with
 | true=>simp [hb] at h; exact ⟨h.symm,of_decide_eq_true hb⟩
 | false=>simp [hb] at h
def G7 {α:Type} (xs:List α) (i:Int):Option α:=match i with
 | .ofNat n=>xs[n]?
 | .negSucc _=>none
theorem C7d {α:Type} {xs:List α} {i:Int} {x:α} (h:G7 xs i=some x):xs[i.toNat]?=some x:=by
 cases i with
 | ofNat n=>exact h
 | negSucc n=>cases h
theorem E8 {α:Type} {xs:List α} {i:Int} {x:α} (h:G7 xs i=some x):0≤i∧i<xs.length:=by
 cases i with
 | ofNat n=>
  have h:xs[n]?=some x:=h
  have:n<xs.length:=by
   rcases Nat.lt_or_ge n xs.length with q | q
   ·exact q
   ·simp [List.getElem?_eq_none q] at h
  exact ⟨by simp,by simp; exact this⟩
 | negSucc n=>cases h
def A5K (b c:Int):Option Int:=match b,c with
 | .ofNat m,.ofNat (n+1)=>bif Nat.ble m 9223372036854775807 then some (.ofNat (m / (n+1))) else none
 | _,_=>none
theorem D1F {b c z:Int} (h:A5K b c=some z):z=b / c∧0≤b∧b≤9223372036854775807∧0<c:=by
 unfold A5K at h
 split at h
 ·rename_i m n
  cases hb:Nat.ble m 9223372036854775807 with
  | true=>simp [hb] at h; have:=Nat.le_of_ble_eq_true hb; subst h; exact ⟨by simp,by simp,by simp <;> omega,by simp <;> omega⟩
  | false=>simp [hb] at h
 ·cases h
def U9 (b c:Int):Option Int:=match b,c with
 | .ofNat m,.ofNat (n+1)=>some (.ofNat (m % (n+1)))
 | .negSucc m,.ofNat (n+1)=>some (-(.ofNat ((m+1) % (n+1))))
 | _,_=>none
theorem D1m {b c z:Int} (h:U9 b c=some z):z=b.tmod c∧c≠0:=by
 unfold U9 at h
 split at h
 ·cases h; exact ⟨rfl,λe=>by cases e⟩
 ·cases h; exact ⟨rfl,λe=>by cases e⟩
 ·cases h
def apL {α:Type} (xs ys:List α):Option (List α):=bif Nat.ble (xs.length+ys.length) 1073741824 then some (xs++ys) else none
theorem C8S {α:Type} {xs ys zs:List α} (h:apL xs ys=some zs):zs=xs++ys∧xs.length+ys.length≤1073741824:=by
 unfold apL at h
 cases hb:Nat.ble (xs.length+ys.length) 1073741824 with
 | true=>simp [hb] at h; exact ⟨h.symm,Nat.le_of_ble_eq_true hb⟩
 | false=>simp [hb] at h
def mkL {α:Type} (n:Int) (z:α):Option (List α):=match n with
 | .ofNat m=>bif Nat.ble m 1073741824 then some (List.replicate m z) else none
 | .negSucc _=>none
theorem C8V {α:Type} {n:Int} {z:α} {zs:List α} (h:mkL n z=some zs):zs=List.replicate n.toNat z∧0≤n∧n≤1073741824:=by
 unfold mkL at h
 cases n with
 | ofNat m=>
  cases hb:Nat.ble m 1073741824 with
  | true=>simp [hb] at h; have:=Nat.le_of_ble_eq_true hb; exact ⟨by simp [h],by simp,by simp <;> omega⟩
  | false=>simp [hb] at h
 | negSucc m=>cases h
def sbL {α:Type} (xs:List α) (lo hi:Int):Option (List α):=match lo,hi with
 | .ofNat l,.ofNat u=>bif Nat.ble l u && Nat.ble u xs.length then some (sub xs l u) else none
 | _,_=>none
theorem A3O {α:Type} {xs zs:List α} {lo hi:Int} (h:sbL xs lo hi=some zs):zs=sub xs lo.toNat hi.toNat∧0≤lo∧lo≤hi∧hi≤xs.length:=by
 unfold sbL at h
 split at h
 ·rename_i l u
  cases hb:(Nat.ble l u && Nat.ble u xs.length) with
  | true=>
   simp only [hb,cond_true,Option.some.injEq] at h
   simp only [Bool.and_eq_true] at hb
   have h1:=Nat.le_of_ble_eq_true hb.1
   have h2:=Nat.le_of_ble_eq_true hb.2
   exact ⟨h.symm,by simp,by simp <;> omega,by simp <;> omega⟩
  | false=>simp [hb] at h
 ·cases h
def B9s (s:ByteArray) (i:Int):Option Int:=match i with
 | .ofNat n=>(s.data.toList[n]?).map λc=>Int.ofNat c.toNat
 | .negSucc _=>none
theorem D1D {s:ByteArray} {i z:Int} (h:B9s s i=some z):0≤i∧∃ c:UInt8,s[i.toNat]?=some c∧z=(c.toNat:Int):=by
 cases i with
 | ofNat n=>
  simp only [B9s,Option.map_eq_some_iff] at h
  obtain ⟨c,hc,rfl⟩:=h
  refine ⟨by simp,c,?_,rfl⟩
  have hl:n<s.data.toList.length:=by
   rcases Nat.lt_or_ge n s.data.toList.length with q | q
   ·exact q
   ·simp [List.getElem?_eq_none q] at hc
  have hn:n<s.size:=by simpa using hl
  show s[n]?=some c
  rw [getElem?_pos s n hn]
  rw [List.getElem?_eq_getElem hl] at hc
  cases hc
  rfl
 | negSucc n=>cases h
structure A8 {α:Type} (E:Vr α) (h:PH) (css:List (List Value)) (xs:List α):Prop where
 len:css.length=xs.length
 at_:∀ (i:Nat) (x:α),xs[i]?=some x→∃ c,css[i]?=some c∧E h c x
section
variable {α:Type} {E:Vr α} {h h':PH} {css ds:List (List Value)} {xs ys zs:List α}
theorem A8.mono (m:A1i E) (f:A8 E h css xs) (l:Le h h'):A8 E h' css xs:=
 ⟨f.len,λi x e=>let ⟨c,hc,he⟩:=f.at_ i x e; ⟨c,hc,m _ _ _ _ l he⟩⟩
theorem A8.nil:A8 E h [] []:=⟨rfl,λi x e=>by simp at e⟩
theorem A8.cons {c:List Value} {x:α} (e:E h c x) (f:A8 E h css xs):A8 E h (c::css) (x::xs):=
 ⟨by simp [f.len],λi y hy=>by
  cases i with
  | zero=>simp at hy; subst hy; exact ⟨c,by simp,e⟩
  | succ i=>simp at hy; obtain ⟨d,hd,he⟩:=f.at_ i y hy; exact ⟨d,by simpa using hd,he⟩⟩
theorem A8.append (f:A8 E h css xs) (g:A8 E h ds ys):A8 E h (css++ds) (xs++ys):=
 ⟨by simp [f.len,g.len],λi x e=>by
  rcases Nat.lt_or_ge i xs.length with q | q
  ·rw [List.getElem?_append_left q] at e
   obtain ⟨c,hc,he⟩:=f.at_ i x e
   exact ⟨c,by rw [List.getElem?_append_left (by rw [f.len]; exact q)]; exact hc,he⟩
  ·rw [List.getElem?_append_right q] at e
   obtain ⟨c,hc,he⟩:=g.at_ _ x e
   exact ⟨c,by rw [List.getElem?_append_right (by rw [f.len]; exact q),f.len]; exact hc,he⟩⟩
theorem A8.ap (f:A8 E h css xs) (g:A8 E h ds ys) (e:apL xs ys=some zs):A8 E h (css++ds) zs:=by
 rw [(C8S e).1]; exact f.append g
theorem A8.get (f:A8 E h css xs) {i:Int} {x:α} (e:G7 xs i=some x):∃ c,css[i.toNat]?=some c∧E h c x:=f.at_ _ _ (C7d e)
theorem A8.bd (f:A8 E h css xs) {i:Int} {x:α} (e:G7 xs i=some x):0≤i∧i<css.length:=by rw [f.len]; exact E8 e
theorem A8.bdN (f:A8 E h css xs) {i:Int} {x:α} (e:G7 xs i=some x):i.toNat<css.length:=by have:=f.bd e; omega
theorem A8.set (f:A8 E h css xs) {i:Int} {c:List Value} {x:α} (e:E h c x) (hz:some (xs.set i.toNat x)=some zs):A8 E h (css.set i.toNat c) zs:=by
 cases hz
 refine ⟨by simp [f.len],λj y hy=>?_⟩
 rw [List.getElem?_set] at hy
 by_cases q:i.toNat=j
 ·rw [if_pos q] at hy
  split at hy
  ·rename_i hl
   cases hy
   exact ⟨c,by rw [List.getElem?_set,if_pos q,if_pos (by rw [f.len]; exact hl)],e⟩
  ·cases hy
 ·rw [if_neg q] at hy
  obtain ⟨d,hd,he⟩:=f.at_ j y hy
  exact ⟨d,by rw [List.getElem?_set,if_neg q]; exact hd,he⟩
theorem A8.rep {c:List Value} {z:α} {n:Int} (e:E h c z) (hz:mkL n z=some zs):A8 E h (List.replicate n.toNat c) zs:=by
 rw [(C8V hz).1]
 refine ⟨by simp,λj y hy=>?_⟩
 rw [List.getElem?_replicate] at hy
 split at hy
 ·rename_i hl
  cases hy
  exact ⟨c,by rw [List.getElem?_replicate,if_pos hl],e⟩
 ·cases hy
theorem A8.slc {sz:Nat} {v:Value} (F:Fix h sz v css) (f:A8 E h css xs):G9 E sz h v xs:=
 F.slc f.len λi x c hx hc=>by
  obtain ⟨d,hd,he⟩:=f.at_ i x hx
  rw [hc] at hd; cases hd; exact he
def Plain (E:Vr α):Prop:=∀ h c x,E h c x→ones c=true
theorem C9y {a b:List Value} (ha:ones a=true) (hb:ones b=true):ones (a++b)=true:=by
 induction a with
 | nil=>exact hb
 | cons x a ih=>simp only [ones,Bool.and_eq_true] at ha; simp only [List.cons_append,ones,ha.1,ih ha.2,Bool.and_self]
theorem A8.ones (m:Plain E) (f:A8 E h css xs):ones css.flatten=true:=by
 have:∀ c∈css,Sl.ones c=true:=by
  intro c hc
  obtain ⟨i,hi,rfl⟩:=List.mem_iff_getElem.1 hc
  have hx:xs[i]?=some (xs[i]'(by rw [←f.len]; exact hi)):=List.getElem?_eq_getElem _
  obtain ⟨d,hd,he⟩:=f.at_ i _ hx
  rw [List.getElem?_eq_getElem hi] at hd; cases hd
  exact m _ _ _ he
 clear f
 induction css with
 | nil=>rfl
 | cons c css ih=>exact C9y (this c List.mem_cons_self) (ih λd hd=>this d (List.mem_cons_of_mem _ hd))
theorem VI.plain {k:IntKind}:Plain (VI k):=λ_ _ _ e=>by rw [e]; rfl
theorem VB.plain:Plain VB:=λ_ _ _ e=>by rw [e]; rfl
theorem VS.plain:Plain VS:=λ_ _ _ e=>by rw [e]; rfl
theorem VSl.plain {sz:Nat}:Plain (VSl E sz):=λ_ _ _ ⟨v,e,s⟩=>by rw [e]; simp [Sl.ones,s.one]
theorem G9.row {sz:Nat} {v:Value} (s:G9 E sz h v xs):∃ css,Fix h sz v css∧A8 E h css xs:=by
 have key:∀ n,n≤xs.length→∃ css:List (List Value),css.length=n∧(∀ i,i<n→∀ x,xs[i]?=some x→∃ c,css[i]?=some c∧c.length=sz∧Y2 h (A0K v i sz) c∧E h c x):=by
  intro n
  induction n with
  | zero=>intro _; exact ⟨[],rfl,λi hi=>absurd hi (by omega)⟩
  | succ n ih=>
   intro hn
   obtain ⟨css,hl,hc⟩:=ih (by omega)
   obtain ⟨c,h1,h2,h3⟩:=s.elem n xs[n] (List.getElem?_eq_getElem (by omega))
   refine ⟨css++[c],by simp [hl],λi hi x hx=>?_⟩
   rcases Nat.lt_or_ge i n with q | q
   ·obtain ⟨d,hd,r⟩:=hc i q x hx
    exact ⟨d,by rw [List.getElem?_append_left (by omega)]; exact hd,r⟩
   ·obtain rfl:i=n:=by omega
    rw [List.getElem?_eq_getElem (by omega)] at hx; cases hx
    exact ⟨c,by rw [List.getElem?_append_right (by omega)]; simp [hl],h1,h2,h3⟩
 obtain ⟨css,hl,hc⟩:=key xs.length (Nat.le_refl _)
 have hget:∀ i c,css[i]?=some c→∃ x,xs[i]?=some x∧c.length=sz∧Y2 h (A0K v i sz) c∧E h c x:=by
  intro i c e
  have hi:i<css.length:=by
   rcases Nat.lt_or_ge i css.length with q | q
   ·exact q
   ·simp [List.getElem?_eq_none q] at e
  have hi':i<xs.length:=by omega
  obtain ⟨d,hd,r⟩:=hc i hi' xs[i] (List.getElem?_eq_getElem hi')
  rw [e] at hd; cases hd
  exact ⟨_,List.getElem?_eq_getElem hi',r⟩
 refine ⟨css,⟨?_,?_,?_⟩,⟨hl,?_⟩⟩
 ·intro c hm
  obtain ⟨i,hi,rfl⟩:=List.mem_iff_getElem.1 hm
  obtain ⟨x,_,h1,_⟩:=hget i _ (List.getElem?_eq_getElem hi)
  exact h1
 ·obtain ⟨a,c,e,h1,h2⟩:=s.shape
  exact ⟨a,c,by rw [hl]; exact e,by omega,λhne=>h2 (by intro q; subst q; simp at hl; exact hne hl)⟩
 ·intro i c e
  obtain ⟨x,_,_,h2,_⟩:=hget i c e
  exact h2
 ·intro i x e
  have hi:i<xs.length:=by
   rcases Nat.lt_or_ge i xs.length with q | q
   ·exact q
   ·simp [List.getElem?_eq_none q] at e
  obtain ⟨d,hd,_,_,r⟩:=hc i hi x e
  exact ⟨d,hd,r⟩
theorem G9.at {sz:Nat} {v:Value} (s:G9 E sz h v xs) {i:Int} {x:α} (e:G7 xs i=some x):∃ cs,Y2 h (A0K v i.toNat sz) cs∧E h cs x:=by
 obtain ⟨cs,_,a,b⟩:=s.elem _ _ (C7d e); exact ⟨cs,a,b⟩
end
section ops
variable {ro:Option Nat} {P:Program} {n:Nat} {D:List Deferred} {ρ:Env} {h:PH} {L:List E5} {Q:Exit→Act→World→Prop}
variable {ops:Array Oper} {rest:List Oper} {X:World→Prop} {K:Act→World→Prop} {d:Option Nat} {ty:TypeId} {pos:String} {af:Array Edge} {g:Option (Nat×Bool)}
theorem V.C6P {x y:Operand} {b c z:Int} {t u:TypeId} (e:ev ρ x=some (.int .i64 b)) (e':ev ρ y=some (.int .i64 c)) (hz:J5 (b+c)=some z):Val P X ρ ⟨d,.binOp .add t x y u,ty,pos,af,g⟩ (.int .i64 z):=by
 obtain ⟨rfl,hb⟩:=C6k hz; exact V.add e e' hb
theorem V.X9 {x y:Operand} {b c z:Int} {t u:TypeId} (e:ev ρ x=some (.int .i64 b)) (e':ev ρ y=some (.int .i64 c)) (hz:J5 (b - c)=some z):Val P X ρ ⟨d,.binOp .sub t x y u,ty,pos,af,g⟩ (.int .i64 z):=by
 obtain ⟨rfl,hb⟩:=C6k hz; exact V.sub e e' hb
theorem V.A9y {x y:Operand} {b c z:Int} {t u:TypeId} (e:ev ρ x=some (.int .i64 b)) (e':ev ρ y=some (.int .i64 c)) (hz:J5 (b*c)=some z):Val P X ρ ⟨d,.binOp .mul t x y u,ty,pos,af,g⟩ (.int .i64 z):=by
 obtain ⟨rfl,hb⟩:=C6k hz; exact V.mul e e' hb
theorem V.D0o {x y:Operand} {k:IntKind} {b c z:Int} {t u:TypeId} (e:ev ρ x=some (.int k b)) (e':ev ρ y=some (.int k c)) (hz:A0Q k (b+c)=some z):Val P X ρ ⟨d,.binOp .add t x y u,ty,pos,af,g⟩ (.int k z):=
 λa w _ hs=>by
  obtain ⟨rfl,hb⟩:=C3D hz
  simp [execOp,hs.ev e,hs.ev e',eqGuard,binOp,Op.intArith,hb]
theorem V.B4j {x y:Operand} {b c z:Int} {t u:TypeId} (e:ev ρ x=some (.int .i64 b)) (e':ev ρ y=some (.int .i64 c)) (hz:A5K b c=some z):Val P X ρ ⟨d,.binOp .quo t x y u,ty,pos,af,g⟩ (.int .i64 z):=by
 obtain ⟨rfl,hb⟩:=D1F hz; exact V.quo e e' hb
theorem V.A0Z {x y:Operand} {k:IntKind} {b c z:Int} {t u:TypeId} (e:ev ρ x=some (.int k b)) (e':ev ρ y=some (.int k c)) (hz:U9 b c=some z):Val P X ρ ⟨d,.binOp .rem t x y u,ty,pos,af,g⟩ (.int k z):=by
 obtain ⟨rfl,hb⟩:=D1m hz; exact V.D5g e e' hb
theorem V.A5u {x:Operand} {s t:TypeId} {k k':IntKind} {b z:Int} (hs':P.underlying s=some (.int k)) (ht:P.underlying t=some (.int k')) (e:ev ρ x=some (.int k b)) (hz:A0Q k' b=some z):Val P X ρ ⟨d,.convert s t x,ty,pos,af,g⟩ (.int k' z):=by
 obtain ⟨rfl,hb⟩:=C3D hz; exact V.conv hs' ht e hb
theorem V.C5P {x ix:Operand} {t:Nat} {s:ByteArray} {k:IntKind} {i z:Int} (ht:P.underlying t=some .string) (e:ev ρ x=some (.string s)) (e':ev ρ ix=some (.int k i)) (hz:B9s s i=some z):Val P X ρ ⟨d,.index t x ix,ty,pos,af,g⟩ (.int .u8 z):=by
 obtain ⟨h0,c,hc,rfl⟩:=D1D hz; exact V.D2P ht e e' h0 hc
theorem V.A2p {α:Type} {x:Operand} {t et sz by_:Nat} {v:Value} {T0:TypeId} {z j:Nat} {css:List (List Value)} {xs:List α} (ht:A0T P t=some (et,sz,by_)) (e:ev ρ x=some v) (hj:L[j]?=some (F3 T0 z v css)) (hf:css.length=xs.length) :
  Val P (XI h L) ρ ⟨d,.call ⟨.builtin .len,#[x],#[t]⟩,ty,pos,af,g⟩ (.int .i64 xs.length):=by
 rw [←hf]; exact V.D5c ht e hj
theorem V.C7Z {x:Operand} {t i j sz T0:Nat} {v:Value} {css:List (List Value)} {c:List Value} (e:ev ρ x=some (.pointer (some (A0K v i sz)))) (hj:L[j]?=some (F3 T0 sz v css))
  (hc:css[i]?=some c) (ht:U1 P t=some (true,c.length)):Val P (XI h L) ρ ⟨d,.load t x,ty,pos,af,g⟩ (.agg c.toArray):=λa w iv hs=>by
 have:∀ k u,c[k]?=some u→w.cell? ((A0K v i sz).add k)=some u:=λk u hu=>C5X (show Inv w h L from iv) hj hc hu
 simp [execOp,hs.ev e,Instr.loadAt,Instr.sureAddr,A6e ht this]
theorem V.D3W {x:Operand} {t m i j k sz T0:Nat} {v u:Value} {css:List (List Value)} {c:List Value} (ht:U1 P t=some (false,m)) (e:ev ρ x=some (.pointer (some ((A0K v i sz).add k)))) (hj:L[j]?=some (F3 T0 sz v css))
  (hc:css[i]?=some c) (hu:c[k]?=some u):Val P (XI h L) ρ ⟨d,.load t x,ty,pos,af,g⟩ u:=λa w iv hs=>by
 have:w.cell? ((A0K v i sz).add k)=some u:=C5X (show Inv w h L from iv) hj hc hu
 simp [execOp,hs.ev e,Instr.loadAt,Instr.sureAddr,A9t ht this]
theorem O.D2N {x y:Operand} {t i j k m sz T0:Nat} {bb:Bool} {v u:Value} {vs c:List Value} {css:List (List Value)} (ht:U1 P t=some (bb,m)) (e:ev ρ x=some (.pointer (some ((A0K v i sz).add k)))) (e':ev ρ y=some u) (hj:L[j]?=some (F3 T0 sz v css))
  (hv:u.cells=vs.toArray) (h1:ones vs=true) (hk:(Nat.beq vs.length m && Nat.ble (k+vs.length) sz)=true) (hc:css[i]?=some c)
  (kk:T n D ρ h (F3 T0 sz v (css.set i (over c vs k))::L.eraseIdx j) K) :
  T n D ρ h L (λa w=>Oper.wr ⟨none,.store t x y,ty,pos,af,g⟩ ro P a w K Q):=λq w f iv=>by
 simp only [Bool.and_eq_true] at hk
 obtain ⟨w',r1,r2⟩:=F3.wr (P:=P) (iv.front hj) hc ht hv (Nat.eq_of_beq_eq_true hk.1) (Nat.le_of_ble_eq_true hk.2) (B4t h1)
 have:(execOp q.eval ⟨none,.store t x y,ty,pos,af,g⟩).run P w=.ok .skip w':=by
  simp [execOp,f.has.ev e,f.has.ev e',Instr.storeAt,Instr.sureAddr,r1]
 exact B3z this (kk _ w' f r2)
theorem O.stX {x y:Operand} {t i j m sz T0:Nat} {bb:Bool} {v u:Value} {vs c:List Value} {css:List (List Value)} (ht:U1 P t=some (bb,m)) (e:ev ρ x=some (.pointer (some (A0K v i sz)))) (e':ev ρ y=some u) (hj:L[j]?=some (F3 T0 sz v css))
  (hv:u.cells=vs.toArray) (h1:ones vs=true) (hk:(Nat.beq vs.length m && Nat.beq vs.length sz)=true) (hc:css[i]?=some c)
  (kk:T n D ρ h (F3 T0 sz v (css.set i vs)::L.eraseIdx j) K) :
  T n D ρ h L (λa w=>Oper.wr ⟨none,.store t x y,ty,pos,af,g⟩ ro P a w K Q):=λq w f iv=>by
 simp only [Bool.and_eq_true] at hk
 have h2:=Nat.eq_of_beq_eq_true hk.2
 have hw:=(iv.row hj).1
 have hcl:c.length=sz:=hw c (List.mem_of_getElem? hc)
 obtain ⟨w',r1,r2⟩:=F3.wr (P:=P) (k:=0) (iv.front hj) hc ht hv (Nat.eq_of_beq_eq_true hk.1) (by omega) (B4t h1)
 rw [C4L (by omega)] at r2
 have:(execOp q.eval ⟨none,.store t x y,ty,pos,af,g⟩).run P w=.ok .skip w':=by
  simp only [execOp,f.has.ev e,f.has.ev e',Instr.storeAt,Instr.sureAddr]
  have r1':(Go.storeVar t (A0K v i sz) u).run P w=.ok () w':=r1
  simp [r1']
 exact B3z this (kk _ w' f r2)
theorem O.apX {α:Type} {E:Vr α} {dd:Nat} {x y:Operand} {t xt et sz by_ j:Nat} {v u zv:Value} {css ds:List (List Value)} {xs ys zs:List α} (ht:A0T P t=some (et,sz,by_)) (hxt:A0T P xt=some (et,sz,by_)) (hz:zer P et=some zv) (hzs:(Nat.beq zv.cells.size sz && Nat.ble by_ 4096)=true)
  (e:ev ρ x=some v) (e':ev ρ y=some u) (hj:L[j]?=some (F3 et sz v css)) (hs:Src P (XI h L) sz u ds) (hw:A1J sz ds) (h1:ones ds.flatten=true) (hf:A8 E h css xs) (hg:A8 E h ds ys) (ha:apL xs ys=some zs) (hd:Nat.blt dd n=true)
  (kk:∀ v',v'.oneCell'=true→v'.cells=[v'].toArray→T n D ((dd,v')::ρ) h (F3 et sz v' (css++ds)::L.eraseIdx j) K) :
  T n D ρ h L (λa w=>Oper.wr ⟨some dd,.call ⟨.builtin .append,#[x,y],#[t,xt]⟩,ty,pos,af,g⟩ ro P a w K Q):=
 O.app ht hxt hz hzs e e' hj hs hw h1 (by rw [hf.len,hg.len]; exact (C8S ha).2) hd λv' a w f i=>by
  obtain ⟨p,c,hv,_⟩:=B1W (j:=0) i rfl
  exact kk v' (by rw [hv]; rfl) (by rw [hv]; rfl) a w f i
theorem T.wide {Y:Act→World→Prop} {T0:TypeId} {sz:Nat} {v:Value} {css:List (List Value)} (j:Nat) (e:L[j]?=some (F3 T0 sz v css)) (k:A1J sz css→T n D ρ h L Y):T n D ρ h L Y:=
 λa w f i=>k (i.row e).1 a w f i
theorem T.Q7 {Y:Act→World→Prop} {T0:TypeId} {sz:Nat} {v:Value} {css:List (List Value)} (j:Nat) (e:L[j]?=some (F3 T0 sz v css)) (k:v.oneCell'=true→v.cells=[v].toArray→T n D ρ h L Y):T n D ρ h L Y:=
 λa w f i=>by
  obtain ⟨p,c,hv,_⟩:=B1W i e
  exact k (by rw [hv]; rfl) (by rw [hv]; rfl) a w f i
theorem O.mkX {α:Type} {dd:Nat} {x y:Operand} {t et sz by_:Nat} {q:Int} {zv:Value} {zs:List Value} {z:α} {us:List α} (ht:A0T P t=some (et,sz,by_)) (hz:zer P et=some zv) (hzs:zv.cells=zs.toArray) (hzl:(Nat.beq zs.length sz && Nat.blt 0 sz && Nat.ble by_ 4096)=true)
  (e:ev ρ x=some (.int .i64 q)) (e':ev ρ y=some (.int .i64 q)) (hu:mkL q z=some us) (hd:Nat.blt dd n=true)
  (kk:∀ v,v.oneCell'=true→v.cells=[v].toArray→T n D ((dd,v)::ρ) h (F3 et sz v (List.replicate q.toNat zs)::L) K) :
  T n D ρ h L (λa w=>Oper.wr ⟨some dd,.makeSlice t x y,ty,pos,af,g⟩ ro P a w K Q):=
 O.D3N ht hz hzs hzl e e' (C8V hu).2 hd λb=>kk _ rfl rfl
end ops
end Go.Sl
namespace Go.Sl
theorem C8k (Q:Exit→Act→World→Prop):Exit.then (Q .normal) Q=Q:=by
 funext e; cases e <;> rfl
theorem T.A0G {n:Nat} {D:List Deferred} {ρ:Env} {h:PH} {L:List E5} {ro:Option Nat} {P:Program} {c:Code} {Q:Exit→Act→World→Prop} (k:T n D ρ h L (c.wr ro P (Exit.then (Q .normal) Q))):T n D ρ h L (c.wr ro P Q):=by
 rw [C8k] at k; exact k
end Go.Sl
namespace Go.Sl
open Go
inductive PT where
 | done
 | v (i:Nat) (r:PT)
 | x (i:Nat) (r:PT)
 | alt (i:Nat) (r s:PT)
 | no
 | g (r:PT)
def PT.spine:PT→List Nat
 | .alt i _ s=>i::s.spine
 | _=>[]
section
variable {ro:Option Nat} {P:Program} {ops:Array Oper} {Q:Exit→Act→World→Prop} {X0 X1:World→Prop} {p:Nat}
def wpT (ro:Option Nat) (P:Program) (ops:Array Oper) (p:Nat) (X0 X1:World→Prop) (Q:Exit→Act→World→Prop) (t:PT) (ph:Bool) (a:Act) (w:World):Prop:=match t,ph,a,w with
 | .done,ph,a,w=>SX X0 X1 ph w∧Q .normal a w
 | .v i r,ph,a,w=>match ops[i]? with
  | some o=>∃ v,Oper.at o P ops X1 v a∧(∀ c a w,Q (.panic c) (a.put o.dst v) w→Q (.panic c) a w)∧wpT ro P ops p X0 X1 Q r ph (a.put o.dst v) w
  | none=>False
 | .x i r,ph,a,w=>match ops[i]? with
  | some o=>∃ v,Oper.at o P ops X0 v a∧(∀ c a w,Q (.panic c) (a.put o.dst v) w→Q (.panic c) a w)∧wpT ro P ops p X0 X1 Q r ph (a.put o.dst v) w
  | none=>False
 | .alt i r s,ph,a,w=>SX X0 X1 ph w∧opr ro P ops Q i (wpT ro P ops p X0 X1 Q r (ph || Nat.beq i p)) a w∧wpT ro P ops p X0 X1 Q s ph a w
 | .no,_,_,_=>True
 | .g r,ph,a,w=>∃ X0' X1':World→Prop,(∀ ph w,SX X0' X1' ph w→SX X0 X1 ph w)∧wpT ro P ops p X0' X1' Q r ph a w
def A4Q (ops:Array Oper) (p:Nat):PT→Bool→Nat→Array Bool→Bool
 | .done,top,_,l=>top && (Region.ready .any ops l).isEmpty
 | .v i r,top,n+1,l=>top && (Region.ready .any ops l).contains i && Region.free .any ops l i && !(Nat.beq p i) && A4Q ops p r true n (l.setIfInBounds i true)
 | .x i r,top,n+1,l=>top && (Region.ready .any ops l).contains i && Region.free .any ops l i && !(Nat.beq p i) && waits .any ops p i && A4Q ops p r true n (l.setIfInBounds i true)
 | .alt i r s,top,n+1,l=>(!top || Region.ready .any ops l == (PT.alt i r s).spine) && A4Q ops p r true n (l.setIfInBounds i true) && A4Q ops p s false (n+1) l
 | .no,top,_,_=>!top
 | .g r,top,n,l=>top && A4Q ops p r true n l
 | _,_,0,_=>false
theorem C7r {n:Nat} {l:Array Bool}:A4Q ops p .no true n l=false:=by cases n <;> rfl
theorem wpT.sx:∀ {X0 X1:World→Prop} (t:PT) (n:Nat) (l:Array Bool) (ph:Bool) (a:Act) (w:World),A4Q ops p t true n l=true→wpT ro P ops p X0 X1 Q t ph a w→SX X0 X1 ph w
 | _,_,.done,_,_,_,_,_,_,h=>h.1
 | _,_,.v i r,0,_,_,_,_,hB,_=>by simp [A4Q] at hB
 | _,_,.v i r,n+1,l,ph,a,w,hB,h=>by
  simp only [A4Q,Bool.and_eq_true] at hB
  unfold wpT at h
  split at h
  ·obtain ⟨v,_,_,h'⟩:=h; exact wpT.sx r n _ _ _ _ hB.2 h'
  ·exact h.elim
 | _,_,.x i r,0,_,_,_,_,hB,_=>by simp [A4Q] at hB
 | _,_,.x i r,n+1,l,ph,a,w,hB,h=>by
  simp only [A4Q,Bool.and_eq_true] at hB
  unfold wpT at h
  split at h
  ·obtain ⟨v,_,_,h'⟩:=h; exact wpT.sx r n _ _ _ _ hB.2 h'
  ·exact h.elim
 | _,_,.alt _ _ _,_,_,_,_,_,_,h=>h.1
 | _,_,.no,n,l,_,_,_,hB,_=>by rw [C7r] at hB; cases hB
 | _,_,.g r,n,l,ph,a,w,hB,h=>by
  obtain ⟨X0',X1',hx,h'⟩:=h
  have hB':A4Q ops p r true n l=true:=by cases n <;> simpa [A4Q] using hB
  exact hx _ _ (wpT.sx r n l ph a w hB' h')
theorem C8h {j:Nat} {listed:Array Bool} (hj:j∈Region.ready .any ops listed):past p (listed.setIfInBounds j true)=(past p listed || Nat.beq j p):=by
 by_cases hjp:p=j
 ·subst hjp
  have:=C4I hj
  simp [past,this]
 ·rw [B3P hjp]
  have:Nat.beq j p=false:=by
   cases hb:Nat.beq j p with
   | false=>rfl
   | true=>exact absurd (Nat.eq_of_beq_eq_true hb).symm hjp
  simp [this]
theorem B8T {X0' X1':World→Prop} (hx:∀ ph w,SX X0' X1' ph w→SX X0 X1 ph w):∀ (n:Nat) (l:Array Bool) (a:Act) (w:World),A7A ro P .any ops p X0' X1' Q n l a w→A7A ro P .any ops p X0 X1 Q n l a w
 | 0,_,_,_,h=>⟨hx _ _ h.1,h.2⟩
 | n+1,_,_,_,h=>⟨hx _ _ h.1,h.2.1,λi hi=>B7w (λa w=>B8T hx n _ a w) (h.2.2 i hi)⟩
theorem C8c (hs:Region.noSelect ops=true) (hdf:B2N ops=true):∀ (t:PT) (X0 X1:World→Prop) (n:Nat) (listed:Array Bool) (a:Act) (w:World),listed.size=ops.size→Cl .any ops p listed→
  wpT ro P ops p X0 X1 Q t (past p listed) a w→
  (A4Q ops p t true n listed=true→A7A ro P .any ops p X0 X1 Q n listed a w)∧
  (∀ m,n=m+1→A4Q ops p t false n listed=true→∀ j,j∈t.spine→j∈Region.ready .any ops listed→opr ro P ops Q j (A7A ro P .any ops p X0 X1 Q m (listed.setIfInBounds j true)) a w):=by
 intro t
 induction t with
 | done=>
  intro X0 X1 n listed a w hz hc h
  refine ⟨λhB=>?_,λm _ _ j hj=>by cases hj⟩
  have hr:Region.ready .any ops listed=[]:=by cases n <;> simpa [A4Q] using hB
  cases n with
  | zero=>exact ⟨h.1,hr,h.2⟩
  | succ n=>exact ⟨h.1,λ_=>h.2,λi hi=>by rw [hr] at hi; cases hi⟩
 | v i r ih=>
  intro X0 X1 n listed a w hz hc h
  refine ⟨λhB=>?_,λm _ _ j hj=>by cases hj⟩
  cases n with
  | zero=>simp [A4Q] at hB
  | succ n=>
   have hB0:=hB
   simp only [A4Q,Bool.and_eq_true] at hB
   obtain ⟨⟨⟨⟨_,hr⟩,hf⟩,hip⟩,hB'⟩:=hB
   have hip':p≠i:=by intro e; subst e; simp at hip
   have hr':i∈Region.ready .any ops listed:=by simpa using hr
   have hsx:=wpT.sx (ro:=ro) (P:=P) (Q:=Q) (X0:=X0) (X1:=X1) _ _ _ _ _ _ hB0 h
   unfold wpT at h
   split at h
   ·rename_i o ho
    obtain ⟨v,hy,hQ,h'⟩:=h
    have hp:=B3P (listed:=listed) hip'
    exact B6Z ho (Region.noSelect_spec hs) hdf hQ hip' (λlisted w _ _ hx=>hx.1) n listed a w hc (Region.free_spec ho hf) hr' hy hsx
     ((ih _ _ n _ _ _ (by simpa using hz) (hc.set hr') (by rw [hp]; exact h')).1 hB')
   ·exact h.elim
 | x i r ih=>
  intro X0 X1 n listed a w hz hc h
  refine ⟨λhB=>?_,λm _ _ j hj=>by cases hj⟩
  cases n with
  | zero=>simp [A4Q] at hB
  | succ n=>
   have hB0:=hB
   simp only [A4Q,Bool.and_eq_true] at hB
   obtain ⟨⟨⟨⟨⟨_,hr⟩,hf⟩,hip⟩,hwt⟩,hB'⟩:=hB
   have hip':p≠i:=by intro e; subst e; simp at hip
   have hr':i∈Region.ready .any ops listed:=by simpa using hr
   have hsx:=wpT.sx (ro:=ro) (P:=P) (Q:=Q) (X0:=X0) (X1:=X1) _ _ _ _ _ _ hB0 h
   unfold wpT at h
   split at h
   ·rename_i o ho
    obtain ⟨v,hy,hQ,h'⟩:=h
    have hp:=B3P (listed:=listed) hip'
    exact C1O ho (Region.noSelect_spec hs) hdf hQ hip' hwt n listed a w hz hc (Region.free_spec ho hf) hr' hy hsx
     ((ih _ _ n _ _ _ (by simpa using hz) (hc.set hr') (by rw [hp]; exact h')).1 hB')
   ·exact h.elim
 | alt i r s ihr ihs=>
  intro X0 X1 n listed a w hz hc h
  obtain ⟨hsx,h1,h2⟩:=h
  have both:∀ m top,n=m+1→A4Q ops p (.alt i r s) top n listed=true→∀ j,j∈(PT.alt i r s).spine→j∈Region.ready .any ops listed→opr ro P ops Q j (A7A ro P .any ops p X0 X1 Q m (listed.setIfInBounds j true)) a w:=by
   intro m top hn hB j hj hjr
   subst hn
   simp only [A4Q,Bool.and_eq_true] at hB
   obtain ⟨⟨_,hBr⟩,hBs⟩:=hB
   simp only [PT.spine,List.mem_cons] at hj
   by_cases hji:j=i
   ·subst hji
    exact B7w (λa w h'=>(ihr _ _ m _ a w (by simpa using hz) (hc.set hjr) (by rw [C8h hjr]; exact h')).1 hBr) h1
   ·rcases hj with e | hj
    ·exact absurd e hji
    ·exact (ihs _ _ (m+1) listed a w hz hc h2).2 m rfl hBs j hj hjr
  refine ⟨λhB=>?_,λm hn hB=>both m false hn hB⟩
  cases n with
  | zero=>simp [A4Q] at hB
  | succ n=>
   have hB0:=hB
   simp only [A4Q,Bool.and_eq_true,Bool.not_true,Bool.false_or,beq_iff_eq] at hB
   have hr:=hB.1.1
   refine ⟨hsx,λh0=>(by rw [hr] at h0; simp [PT.spine] at h0),λj hj=>both n true rfl hB0 j (by rw [←hr]; exact hj) hj⟩
 | no=>
  intro X0 X1 n listed a w _ _ _
  exact ⟨λhB=>(by rw [C7r] at hB; cases hB),λm _ _ j hj=>(by cases hj)⟩
 | g r ih=>
  intro X0 X1 n listed a w hz hc h
  obtain ⟨X0',X1',hx,h'⟩:=h
  refine ⟨λhB=>?_,λm _ _ j hj=>by cases hj⟩
  have hB':A4Q ops p r true n listed=true:=by cases n <;> simpa [A4Q] using hB
  exact B8T hx n listed a w ((ih X0' X1' n listed a w hz hc h').1 hB')
def B3X (ops:Array Oper) (p:Nat) (t:PT):Bool:=(Region.noSelect ops && B2N ops) && A4Q ops p t true ops.size (Array.replicate ops.size false)
theorem B9J {id:Nat} {t:PT} {a:Act} {w:World} (hm:P.follows .mixedOrders=true) (hl:B3X ops p t=true)
  (h:wpT ro P ops p X0 X1 Q t false a w.drew):(Code.region id ops true).wr ro P Q a w:=by
 simp only [B3X,Bool.and_eq_true] at hl
 obtain ⟨⟨h1,h1d⟩,h2⟩:=hl
 refine wpIn_region_any hm ?_
 have hp:past p (Array.replicate ops.size false)=false:=by
  unfold past; simp [Array.getD_eq_getD_getElem?,Array.getElem?_replicate]; split <;> rfl
 exact C1z _ _ _ _ ((C8c h1 h1d t X0 X1 ops.size _ a w.drew (by simp) (λh=>by rw [hp] at h; cases h) (by rw [hp]; exact h)).1 h2)
end
section T
variable {ro:Option Nat} {P:Program} {n:Nat} {D:List Deferred} {ρ:Env} {h g:PH} {L:List E5} {Q:Exit→Act→World→Prop} {K:Act→World→Prop} {X X0 X1:World→Prop}
variable {ops:Array Oper} {r s:PT} {i p:Nat} {ph:Bool}
theorem T.D3Q {id:Nat} {t:PT} (p k0 k1:Nat) {As0 R0 As1 R1:List E5} (_h0:C6D k0 L=some (As0,R0)) (_h1:C6D k1 L=some (As1,R1)) (hm:P.follows .mixedOrders=true) (hl:B3X ops p t=true)
  (k:T n D ρ h L (wpT ro P ops p (XA h As0) (XA h As1) Q t false)):T n D ρ h L ((Code.region id ops true).wr ro P Q):=
 λa w f iv=>B9J hm hl (k a w.drew f iv.drew)
theorem T.M9 (hx:∀ w,Inv w h L→SX X0 X1 ph w) (k:T n D ρ h L (Q .normal)):T n D ρ h L (wpT ro P ops p X0 X1 Q .done ph):=
 λa w f iv=>⟨hx w iv,k a w f iv⟩
theorem T.O4:T n D ρ h L (wpT ro P ops p X0 X1 Q .no ph):=λ_ _ _ _=>trivial
theorem T.tv {d:Nat} {op:Op} {ty:TypeId} {pos:String} {af:Array Edge} {gu:Option (Nat×Bool)} {v:Value} (ho:ops[i]?=some ⟨some d,op,ty,pos,af,gu⟩) (hg:gd ops ρ gu=true) (hv:Val P X1 ρ ⟨some d,op,ty,pos,af,gu⟩ v) (hd:Nat.blt d n=true) (hc:Calm Q)
  (k:T n D ((d,v)::ρ) h L (wpT ro P ops p X0 X1 Q r ph)):T n D ρ h L (wpT ro P ops p X0 X1 Q (.v i r) ph):=λa w f iv=>by
 have hw:=B7r (o:=⟨some d,op,ty,pos,af,gu⟩) f.has hg
 unfold wpT; rw [ho]
 exact ⟨v,.inl ⟨hw,λw' hx=>hv a w' hx f.has⟩,λc a w=>hc c a _ v w,k _ w (f.put hd) iv⟩
theorem T.tx {d:Nat} {op:Op} {ty:TypeId} {pos:String} {af:Array Edge} {gu:Option (Nat×Bool)} {v:Value} (ho:ops[i]?=some ⟨some d,op,ty,pos,af,gu⟩) (hg:gd ops ρ gu=true) (hv:Val P X0 ρ ⟨some d,op,ty,pos,af,gu⟩ v) (hd:Nat.blt d n=true) (hc:Calm Q)
  (k:T n D ((d,v)::ρ) h L (wpT ro P ops p X0 X1 Q r ph)):T n D ρ h L (wpT ro P ops p X0 X1 Q (.x i r) ph):=λa w f iv=>by
 have hw:=B7r (o:=⟨some d,op,ty,pos,af,gu⟩) f.has hg
 unfold wpT; rw [ho]
 exact ⟨v,.inl ⟨hw,λw' hx=>hv a w' hx f.has⟩,λc a w=>hc c a _ v w,k _ w (f.put hd) iv⟩
theorem T.D3x {d:Nat} {op:Op} {ty:TypeId} {pos:String} {af:Array Edge} {gu:Option (Nat×Bool)} (ho:ops[i]?=some ⟨some d,op,ty,pos,af,gu⟩) (hg:gn ops ρ gu=true) (hd:Nat.blt d n=true) (hc:Calm Q)
  (k:T n D ((d,undef)::ρ) h L (wpT ro P ops p X0 X1 Q r ph)):T n D ρ h L (wpT ro P ops p X0 X1 Q (.v i r) ph):=λa w f iv=>by
 have hw:=C1D (o:=⟨some d,op,ty,pos,af,gu⟩) f.has hg
 unfold wpT; rw [ho]
 exact ⟨undef,.inr ⟨hw,rfl⟩,λc a w=>hc c a _ undef w,k _ w (f.put hd) iv⟩
theorem T.top {o:Oper} (ho:ops[i]?=some o) (hg:gd ops ρ o.guard=true) (hx:∀ w,Inv w h L→SX X0 X1 ph w) (k:T n D ρ h L (λa w=>o.wr ro P a w (wpT ro P ops p X0 X1 Q r (ph || Nat.beq i p)) Q)) (k2:T n D ρ h L (wpT ro P ops p X0 X1 Q s ph)) :
  T n D ρ h L (wpT ro P ops p X0 X1 Q (.alt i r s) ph):=λa w f iv=>⟨hx w iv,C9I ho (B7r f.has hg) (k a w f iv),k2 a w f iv⟩
theorem XA.le {h0:PH} {As:List E5} {w:World} (l:Le h0 h) (x:XA h As w):XA h0 As w:=let ⟨h',L',a,b⟩:=x; ⟨h',L',l.trans a,b⟩
theorem T.N8 {h0:PH} {As0 As1:List E5} (l:Le h0 h) (k:T n D ρ h L (wpT ro P ops p (XA h As0) (XA h As1) Q r ph)):T n D ρ h L (wpT ro P ops p (XA h0 As0) (XA h0 As1) Q (.g r) ph):=
 λa w f iv=>⟨_,_,λ_ _ x=>⟨XA.le l x.1,λe=>XA.le l (x.2 e)⟩,k a w f iv⟩
theorem T.C3n (k1:T n D ρ h L (wpT ro P ops p X0 X1 Q (.alt i r .no) ph)) (k2:T n D ρ h L (wpT ro P ops p X0 X1 Q s ph)):T n D ρ h L (wpT ro P ops p X0 X1 Q (.alt i r s) ph):=
 λa w f iv=>⟨(k1 a w f iv).1,(k1 a w f iv).2.1,k2 a w f iv⟩
theorem T.D3Y [HX X1 h] {α:Type} {E:Vr α} {dd:Nat} {x:Operand} {lo hi:Option Operand} {t et sz by_:Nat} {v:Value} {xs:List α} {l u:Int} {ty:TypeId} {pos:String} {af:Array Edge} {gu:Option (Nat×Bool)} (ho:ops[i]?=some ⟨some dd,.slice t x lo hi none,ty,pos,af,gu⟩) (hg:gd ops ρ gu=true) (ht:A0T P t=some (et,sz,by_)) (e:ev ρ x=some v) (hS:G9 E sz h v xs) (hlo:lo=none∧l=0∨∃ o k,lo=some o∧ev ρ o=some (.int k l)) (hhi:hi=none∧u=xs.length∨∃ o k,hi=some o∧ev ρ o=some (.int k u)) (hb:0≤l∧l≤u∧u≤xs.length) (hd:Nat.blt dd n=true) (hc:Calm Q)
  (kk:∀ v',G9 E sz h v' (sub xs l.toNat u.toNat)→(sub xs l.toNat u.toNat).length=u.toNat - l.toNat→T n D ((dd,v')::ρ) h L (wpT ro P ops p X0 X1 Q r ph)):T n D ρ h L (wpT ro P ops p X0 X1 Q (.v i r) ph):=by
 obtain ⟨v',hv,hs⟩:=Go.Sl.slS (P:=P) (X:=X1) (h:=h) (d:=some dd) (ty:=ty) (pos:=pos) (af:=af) (g:=gu) ht e hS hlo hhi hb
 exact T.tv ho hg hv hd hc (kk v' hs (by simp [sub]; omega))
theorem T.tvs {d:Nat} {op:Op} {ty:TypeId} {pos:String} {af:Array Edge} {gu:Option (Nat×Bool)} {v:Value} (ho:ops[i]?=some ⟨some d,op,ty,pos,af,gu⟩) (hg:gd ops ρ gu=true) (hx:∀ w,Inv w h L→SX X0 X1 ph w) (hv:Val P (XI h L) ρ ⟨some d,op,ty,pos,af,gu⟩ v) (hd:Nat.blt d n=true)
  (k:T n D ((d,v)::ρ) h L (wpT ro P ops p X0 X1 Q r (ph || Nat.beq i p))) (k2:T n D ρ h L (wpT ro P ops p X0 X1 Q s ph)):T n D ρ h L (wpT ro P ops p X0 X1 Q (.alt i r s) ph):=
 T.top ho hg hx (λa w f iv=>A0j (hv a w iv f.has) (k _ w (f.put hd) iv)) k2
theorem T.A3Y {d:Option Nat} {op:Op} {ty:TypeId} {pos:String} {af:Array Edge} {gu:Option (Nat×Bool)} (ho:ops[i]?=some ⟨d,op,ty,pos,af,gu⟩) (hg:gn ops ρ gu=true) (hx:∀ w,Inv w h L→SX X0 X1 ph w)
  (hd:(match d with | some d=>Nat.blt d n | none=>true)=true)
  (k:T n D (match d with | some d=>(d,undef)::ρ | none=>ρ) h L (wpT ro P ops p X0 X1 Q r (ph || Nat.beq i p))) (k2:T n D ρ h L (wpT ro P ops p X0 X1 Q s ph)):T n D ρ h L (wpT ro P ops p X0 X1 Q (.alt i r s) ph):=λa w f iv=>by
 refine ⟨hx w iv,?_,k2 a w f iv⟩
 refine C6a ho (C1D (o:=⟨d,op,ty,pos,af,gu⟩) f.has hg) ?_
 cases d with
 | some d=>exact k _ w (f.put hd) iv
 | none=>exact k _ w f iv
end T
end Go.Sl
