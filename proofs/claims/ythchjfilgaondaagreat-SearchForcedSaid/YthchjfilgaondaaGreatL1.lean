import Derived.Test.YthchjfilgaondaaGreatL0
import Derived.Laws.Sem
import Derived.Laws.World
import Derived.Orders
/- Rules. -/
set_option maxRecDepth 1000000
set_option maxHeartbeats 40000000
set_option linter.unusedVariables false
set_option linter.unusedSimpArgs false
set_option linter.unusedSectionVars false
set_option linter.unnecessarySimpa false
namespace Go.Sl
open Go
abbrev Env:=List (Nat×Value)
def lk:Env→Nat→Option Value
 | [],_=>none
 | (k,v)::r,t=>bif Nat.beq k t then some v else lk r t
def ev (ρ:Env):Operand→Option Value
 | .tmp t=>lk ρ t
 | .const v=>some v
 | .global g=>some (.pointer (some ⟨g,0,none⟩))
 | .func f=>some (.func (.func f) #[] #[])
def evs (ρ:Env):List Operand→Option (List Value)
 | []=>some []
 | x::xs=>match ev ρ x,evs ρ xs with
  | some v,some vs=>some (v::vs)
  | _,_=>none
def Has (ρ:Env) (a:Act):Prop:=∀ t u,lk ρ t=some u→a.tmps[t]?=some u
theorem Has.ev {ρ:Env} {a:Act} (h:Has ρ a) {x:Operand} {v:Value} (e:ev ρ x=some v):a.eval x=v:=by
 cases x with
 | tmp t=>have:=h t v e; simp [Act.eval,Array.getD_eq_getD_getElem?,this]
 | const c=>simp [Sl.ev] at e; exact e
 | global g=>simp [Sl.ev] at e; exact e
 | func f=>simp [Sl.ev] at e; exact e
theorem Has.evs {ρ:Env} {a:Act} (h:Has ρ a):∀ {xs:List Operand} {vs:List Value},evs ρ xs=some vs→xs.map a.eval=vs:=by
 intro xs
 induction xs with
 | nil=>intro vs e; simp [Sl.evs] at e; simp [e]
 | cons x xs ih=>
  intro vs e
  simp only [Sl.evs] at e
  split at e
  ·rename_i v vs' h1 h2
   simp at e; subst e
   simp [h.ev h1,ih h2]
  ·cases e
theorem Has.put {ρ:Env} {a:Act} {d:Nat} {v:Value} (h:Has ρ a) (hd:d<a.tmps.size):Has ((d,v)::ρ) (a.put (some d) v):=by
 intro t u e
 simp only [lk] at e
 by_cases hdt:d=t
 ·subst hdt
  simp at e; subst e
  simp [Act.put,hd]
 ·have:Nat.beq d t=false:=by
   cases hb:Nat.beq d t with
   | false=>rfl
   | true=>exact absurd (Nat.eq_of_beq_eq_true hb) hdt
  simp [this] at e
  simp [Act.put,hdt,h t u e]
structure Fr (n:Nat) (D:List Deferred) (ρ:Env) (a:Act):Prop where
 size:a.tmps.size=n
 defers:a.defers=D
 has:Has ρ a
theorem Fr.put {n:Nat} {D:List Deferred} {ρ:Env} {a:Act} {d:Nat} {v:Value} (h:Fr n D ρ a) (hd:Nat.blt d n=true):Fr n D ((d,v)::ρ) (a.put (some d) v):=
 ⟨by simp [Act.put,h.size],by simp [Act.put,h.defers],h.has.put (by rw [h.size]; exact Nat.le_of_ble_eq_true hd)⟩
def Sub (σ ρ:Env):Prop:=∀ t u,lk σ t=some u→lk ρ t=some u
def A5b (ρ:Env):Env→Prop
 | []=>True
 | (k,v)::r=>lk ρ k=some v∧A5b ρ r
theorem Sub.of {ρ:Env}:∀ {σ:Env},A5b ρ σ→Sub σ ρ:=by
 intro σ
 induction σ with
 | nil=>intro _ t u e; simp [lk] at e
 | cons p r ih=>
  obtain ⟨k,v⟩:=p
  intro h t u e
  simp only [lk] at e
  cases hb:Nat.beq k t with
  | true=>
   simp [hb] at e; subst e
   rw [←Nat.eq_of_beq_eq_true hb]; exact h.1
  | false=>simp [hb] at e; exact ih h.2 t u e
theorem Fr.sub {n:Nat} {D:List Deferred} {ρ σ:Env} {a:Act} (h:Fr n D ρ a) (s:Sub σ ρ):Fr n D σ a:=
 ⟨h.size,h.defers,λt u e=>h.has t u (s t u e)⟩
def T (n:Nat) (D:List Deferred) (ρ:Env) (h:PH) (L:List E5) (X:Act→World→Prop):Prop:=
 ∀ a w,Fr n D ρ a→Inv w h L→X a w
section code
variable {ro:Option Nat} {P:Program} {n:Nat} {D:List Deferred} {ρ:Env} {h:PH} {L:List E5} {Q:Exit→Act→World→Prop} {K:Act→World→Prop}
theorem T.seq {x y:Code} (k:T n D ρ h L (x.wr ro P (Exit.then (y.wr ro P Q) Q))):T n D ρ h L ((Code.seq x y).wr ro P Q):=λa w f i=>wpIn_seq (k a w f i)
theorem T.skip (k:T n D ρ h L (Q .normal)):T n D ρ h L (Code.skip.wr ro P Q):=λa w f i=>wpIn_skip (k a w f i)
theorem T.ret (k:T n D ρ h L (Q .ret)):T n D ρ h L (Code.ret.wr ro P Q):=λa w f i=>wpIn_ret (k a w f i)
theorem T.exit {id:Nat} (k:T n D ρ h L (Q (.exit id))):T n D ρ h L ((Code.exit id).wr ro P Q):=λa w f i=>wpIn_exit (k a w f i)
theorem T.block {id:Nat} {c:Code} (k:T n D ρ h L (c.wr ro P (Exit.inBlock id Q))):T n D ρ h L ((Code.block id c).wr ro P Q):=λa w f i=>wpIn_block (k a w f i)
theorem T.region {id:Nat} {l:List Oper} (k:T n D ρ h L (lwr ro P l.toArray Q l)):T n D ρ h L ((Code.region id l.toArray false).wr ro P Q):=
 λa w f i=>wpIn_region_lit (k a w f i)
theorem T.nil {ops:Array Oper} (k:T n D ρ h L (Q .normal)):T n D ρ h L (lwr ro P ops Q []):=λa w f i=>k a w f i
theorem T.cond {c:Operand} {x y:Code} {b:Bool} (hc:ev ρ c=some (.bool b)) (ht:b=true→T n D ρ h L (x.wr ro P Q)) (hf:b=false→T n D ρ h L (y.wr ro P Q)) :
  T n D ρ h L ((Code.cond c x y).wr ro P Q):=
 λa w f i=>wpIn_cond_split (f.has.ev hc) (λe=>ht e a w f i) (λe=>hf e a w f i)
theorem T.D1Y {c:Operand} {x y:Code} (hc:ev ρ c=some (.bool true)) (ht:T n D ρ h L (x.wr ro P Q)):T n D ρ h L ((Code.cond c x y).wr ro P Q):=
 T.cond hc (λ_=>ht) (λe=>by cases e)
theorem T.D2a {c:Operand} {x y:Code} (hc:ev ρ c=some (.bool false)) (hf:T n D ρ h L (y.wr ro P Q)):T n D ρ h L ((Code.cond c x y).wr ro P Q):=
 T.cond hc (λe=>by cases e) (λ_=>hf)
theorem T.thN (k:T n D ρ h L K):T n D ρ h L (Exit.then K Q .normal):=k
theorem T.thR (k:T n D ρ h L (Q .ret)):T n D ρ h L (Exit.then K Q .ret):=k
theorem T.thE {id:Nat} (k:T n D ρ h L (Q (.exit id))):T n D ρ h L (Exit.then K Q (.exit id)):=k
theorem T.blN {id:Nat} (k:T n D ρ h L (Q .normal)):T n D ρ h L (Exit.inBlock id Q .normal):=k
theorem T.blR {id:Nat} (k:T n D ρ h L (Q .ret)):T n D ρ h L (Exit.inBlock id Q .ret):=k
theorem T.blE {id:Nat} (k:T n D ρ h L (Q .normal)):T n D ρ h L (Exit.inBlock id Q (.exit id)):=by
 intro a w f i; simp only [Exit.inBlock,if_true]; exact k a w f i
theorem T.blX {id id':Nat} (hne:Nat.beq id' id=false) (k:T n D ρ h L (Q (.exit id'))):T n D ρ h L (Exit.inBlock id Q (.exit id')):=by
 intro a w f i
 have:¬ id'=id:=by intro e; subst e; simp at hne
 simp only [Exit.inBlock,if_neg this]; exact k a w f i
theorem T.weak {σ:Env} {X:Act→World→Prop} (s:A5b ρ σ) (k:T n D σ h L X):T n D ρ h L X:=λa w f i=>k a w (f.sub (Sub.of s)) i
theorem T.front {A:E5} {X:Act→World→Prop} (j:Nat) (e:L[j]?=some A) (k:T n D ρ h (A::L.eraseIdx j) X):T n D ρ h L X:=λa w f i=>k a w f (i.front e)
theorem T.drop {A:E5} {X:Act→World→Prop} (k:T n D ρ h L X):T n D ρ h (A::L) X:=λa w f i=>k a w f i.drop
theorem T.freeze {b:Nat} {o:Obj} {X:Act→World→Prop} (k:∀ h',Le h h'→h'.m b=some o→T n D ρ h' L X):T n D ρ h (blk b o::L) X:=
 λa w f i=>let ⟨h',l,e,i'⟩:=i.freeze; k h' l e a w f i'
def C4H {α:Type} (n:Nat) (D:List Deferred) (h₀:PH) (st:α→Env) (Ls:α→List E5) (pre:α→PH→Prop) (μ:α→Nat) (x:α) (a:Act) (w:World):Prop:=
 ∃ y h',μ y<μ x∧Le h₀ h'∧pre y h'∧Fr n D (st y) a∧Inv w h' (Ls y)
theorem T.loop {α:Type} {c:Code} (st:α→Env) (Ls:α→List E5) (pre:α→PH→Prop) (μ:α→Nat) (x₀:α)
  (hρ:A5b ρ (st x₀)) (hL:L=Ls x₀) (hp:pre x₀ h)
  (round:∀ x h',Le h h'→pre x h'→T n D (st x) h' (Ls x) (c.wr ro P (Exit.then (C4H n D h st Ls pre μ x) Q))):T n D ρ h L ((Code.loop c).wr ro P Q):=by
 intro a w f i
 subst hL
 refine wpIn_loop_ghost (λk a w=>∃ y h',μ y=k∧Le h h'∧pre y h'∧Fr n D (st y) a∧Inv w h' (Ls y)) (μ x₀) ⟨x₀,h,rfl,Le.refl h,hp,f.sub (Sub.of hρ),i⟩ ?_
 rintro k a w ⟨y,h',rfl,hl,hpre,hf,hi⟩
 refine wpIn_mono (round y h' hl hpre a w hf hi) ?_
 intro e a' w' q
 cases e with
 | normal=>
  obtain ⟨z,h'',hlt,hle,hz,hfz,hiz⟩:=q
  exact ⟨μ z,hlt,z,h'',rfl,hle,hz,hfz,hiz⟩
 | exit id=>exact q
 | goto l=>exact q
 | ret=>exact q
 | panic ch=>exact q
 | outgrown=>exact q
theorem T.again {α:Type} {h₀ h':PH} {st:α→Env} {Ls:α→List E5} {pre:α→PH→Prop} {μ:α→Nat} {x:α} (y:α)
  (hl:Le h₀ h') (hlt:μ y<μ x) (hpre:pre y h') (hρ:A5b ρ (st y)) (hL:L=Ls y):T n D ρ h' L (C4H n D h₀ st Ls pre μ x):=
 λ_ _ f i=>⟨y,h',hlt,hl,hpre,f.sub (Sub.of hρ),hL ▸ i⟩
end code
def gd (ops:Array Oper) (ρ:Env):Option (Nat×Bool)→Bool
 | none=>true
 | some (j,want)=>match ops[j]? with
  | some ⟨some d,_,_,_,_,_⟩=>match lk ρ d with
   | some (.bool b)=>b == want
   | _=>false
  | _=>false
theorem B7r {ops:Array Oper} {ρ:Env} {a:Act} {o:Oper} (h:Has ρ a) (e:gd ops ρ o.guard=true):Region.wanted o (yielded ops a.tmps)=true:=by
 unfold Region.wanted
 revert e
 cases o.guard with
 | none=>intro _; rfl
 | some p=>
  obtain ⟨j,want⟩:=p
  intro e
  simp only [gd] at e
  split at e
  ·rename_i d _ _ _ _ _ hj
   split at e
   ·rename_i b hb
    have hb':=h _ _ hb
    simp only [yielded,hj,Option.bind_some,hb']
    simpa using e
   ·cases e
  ·cases e
def gn (ops:Array Oper) (ρ:Env):Option (Nat×Bool)→Bool
 | none=>false
 | some (j,want)=>match ops[j]? with
  | some ⟨some d,_,_,_,_,_⟩=>match lk ρ d with
   | some (.bool b)=>b != want
   | some (.tuple _)=>true
   | _=>false
  | _=>false
theorem C1D {ops:Array Oper} {ρ:Env} {a:Act} {o:Oper} (h:Has ρ a) (e:gn ops ρ o.guard=true):Region.wanted o (yielded ops a.tmps)=false:=by
 unfold Region.wanted
 revert e
 cases o.guard with
 | none=>intro e; cases e
 | some p=>
  obtain ⟨j,want⟩:=p
  intro e
  simp only [gn] at e
  split at e
  ·rename_i d _ _ _ _ _ hj
   split at e
   ·rename_i b hb
    have hb':=h _ _ hb
    simp only [yielded,hj,Option.bind_some,hb']
    cases b <;> cases want <;> simp_all
   ·rename_i u hb
    have hb':=h _ _ hb
    simp [yielded,hj,hb']
   ·cases e
  ·cases e
def Val (P:Program) (X:World→Prop) (ρ:Env) (o:Oper) (v:Value):Prop:=
 ∀ a w,X w→Has ρ a→(execOp a.eval o).run P w=.ok (.value v) w
def XI (h:PH) (L:List E5):World→Prop:=λw=>Inv w h L
def XL (h:PH):World→Prop:=λw=>Le h (hp w)
class HX (X:World→Prop) (h:outParam PH):Prop where
 le:∀ w,X w→Le h (hp w)
instance (h:PH) (L:List E5):HX (XI h L) h:=⟨λ_ i=>Inv.le i⟩
instance (h:PH):HX (XL h) h:=⟨λ_ l=>l⟩
section ops
variable {ro:Option Nat} {P:Program} {n:Nat} {D:List Deferred} {ρ:Env} {h:PH} {L:List E5} {Q:Exit→Act→World→Prop} {K:Act→World→Prop}
variable {ops:Array Oper} {rest:List Oper}
theorem T.op {o:Oper} (hg:gd ops ρ o.guard=true) (k:T n D ρ h L (λa w=>o.wr ro P a w (lwr ro P ops Q rest) Q)):T n D ρ h L (lwr ro P ops Q (o::rest)):=by
 intro a w f i
 exact D3b (B7r f.has hg) (k a w f i)
theorem T.D2t {d:Nat} {op:Op} {ty:TypeId} {pos:String} {af:Array Edge} {g:Option (Nat×Bool)} (hg:gn ops ρ g=true) (hd:Nat.blt d n=true)
  (k:T n D ((d,undef)::ρ) h L (lwr ro P ops Q rest)):T n D ρ h L (lwr ro P ops Q (⟨some d,op,ty,pos,af,g⟩::rest)):=by
 intro a w f i
 exact C9S (C1D (o:=⟨some d,op,ty,pos,af,g⟩) f.has hg) (k _ w (f.put hd) i)
theorem T.v {d:Nat} {op:Op} {ty:TypeId} {pos:String} {af:Array Edge} {g:Option (Nat×Bool)} {v:Value} (hg:gd ops ρ g=true)
  (hv:Val P (XI h L) ρ ⟨some d,op,ty,pos,af,g⟩ v) (hd:Nat.blt d n=true)
  (k:T n D ((d,v)::ρ) h L (lwr ro P ops Q rest)):T n D ρ h L (lwr ro P ops Q (⟨some d,op,ty,pos,af,g⟩::rest)):=
 T.op hg λa w f i=>by
  have:=hv a w i f.has
  exact A0j this (k _ w (f.put hd) i)
variable {X:World→Prop} {d:Option Nat} {ty:TypeId} {pos:String} {af:Array Edge} {g:Option (Nat×Bool)}
theorem V.mv {x:Operand} {v:Value} (e:ev ρ x=some v):Val P X ρ ⟨d,.move x,ty,pos,af,g⟩ v:=λa w _ hs=>by simp [execOp,hs.ev e]
theorem V.asg {x:Operand} {v:Value} (e:ev ρ x=some v):Val P X ρ ⟨d,.assign x,ty,pos,af,g⟩ v:=λa w _ hs=>by simp [execOp,hs.ev e]
theorem V.pkT {c x y:Operand} {v:Value} (hc:ev ρ c=some (.bool true)) (e:ev ρ x=some v):Val P X ρ ⟨d,.pick c x y,ty,pos,af,g⟩ v:=
 λa w _ hs=>by simp [execOp,hs.ev hc,hs.ev e,asBool]
theorem V.pkF {c x y:Operand} {v:Value} (hc:ev ρ c=some (.bool false)) (e:ev ρ y=some v):Val P X ρ ⟨d,.pick c x y,ty,pos,af,g⟩ v:=
 λa w _ hs=>by simp [execOp,hs.ev hc,hs.ev e,asBool]
theorem V.ext {x:Operand} {i:Nat} {vs:List Value} {v:Value} (e:ev ρ x=some (.tuple vs.toArray)) (hi:vs[i]?=some v):Val P X ρ ⟨d,.extract x i,ty,pos,af,g⟩ v:=
 λa w _ hs=>by
  have:vs.toArray[i]?=some v:=by simpa using hi
  simp [execOp,hs.ev e,Instr.extract,this]
theorem V.nck {x:Operand} {p:Addr} (e:ev ρ x=some (.pointer (some p))):Val P X ρ ⟨d,.nilCheck x,ty,pos,af,g⟩ (.pointer (some p)):=
 λa w _ hs=>by simp [execOp,hs.ev e]
theorem V.not {x:Operand} {b:Bool} {t:TypeId} (e:ev ρ x=some (.bool b)):Val P X ρ ⟨d,.unOp .not t x,ty,pos,af,g⟩ (.bool !b):=
 λa w _ hs=>by simp [execOp,hs.ev e,Op.unary]
theorem wrap_i64 {x:Int} (h:-9223372036854775808≤x∧x≤9223372036854775807):IntKind.i64.wrap x=x:=by
 obtain ⟨h1,h2⟩:=h
 have e:(2:Int) ^ 64=18446744073709551616:=by decide
 have e2:(2:Int) ^ (64 - 1)=9223372036854775808:=by decide
 simp only [IntKind.wrap,IntKind.bits,IntKind.signed,Bool.true_and,e,e2]
 by_cases hh:x % 18446744073709551616 ≥ 9223372036854775808
 ·rw [if_pos (by simpa using hh)]; omega
 ·rw [if_neg (by simpa using hh)]; omega
theorem V.add {x y:Operand} {b c:Int} {t u:TypeId} (e:ev ρ x=some (.int .i64 b)) (e':ev ρ y=some (.int .i64 c)) (hb:-9223372036854775808≤b+c∧b+c≤9223372036854775807) :
  Val P X ρ ⟨d,.binOp .add t x y u,ty,pos,af,g⟩ (.int .i64 (b+c)):=
 λa w _ hs=>by simp [execOp,hs.ev e,hs.ev e',eqGuard,binOp,Op.intArith,wrap_i64 hb]
theorem V.sub {x y:Operand} {b c:Int} {t u:TypeId} (e:ev ρ x=some (.int .i64 b)) (e':ev ρ y=some (.int .i64 c)) (hb:-9223372036854775808≤b - c∧b - c≤9223372036854775807) :
  Val P X ρ ⟨d,.binOp .sub t x y u,ty,pos,af,g⟩ (.int .i64 (b - c)):=
 λa w _ hs=>by simp [execOp,hs.ev e,hs.ev e',eqGuard,binOp,Op.intArith,wrap_i64 hb]
theorem V.mul {x y:Operand} {b c:Int} {t u:TypeId} (e:ev ρ x=some (.int .i64 b)) (e':ev ρ y=some (.int .i64 c)) (hb:-9223372036854775808≤b*c∧b*c≤9223372036854775807) :
  Val P X ρ ⟨d,.binOp .mul t x y u,ty,pos,af,g⟩ (.int .i64 (b*c)):=
 λa w _ hs=>by simp [execOp,hs.ev e,hs.ev e',eqGuard,binOp,Op.intArith,wrap_i64 hb]
theorem V.quo {x y:Operand} {b c:Int} {t u:TypeId} (e:ev ρ x=some (.int .i64 b)) (e':ev ρ y=some (.int .i64 c)) (h0:0≤b∧b≤9223372036854775807∧0<c) :
  Val P X ρ ⟨d,.binOp .quo t x y u,ty,pos,af,g⟩ (.int .i64 (b / c)):=
 λa w _ hs=>by
  obtain ⟨h1,h2,h3⟩:=h0
  have hc:c≠0:=by omega
  have h4:0≤b / c:=Int.ediv_nonneg h1 (by omega)
  have h5:b / c≤b:=Int.ediv_le_self c h1
  have:IntKind.i64.wrap (b.tdiv c)=b / c:=by rw [Int.tdiv_eq_ediv_of_nonneg h1]; exact wrap_i64 (by omega)
  simp [execOp,hs.ev e,hs.ev e',eqGuard,binOp,Op.intDiv,hc,this]
theorem V.D5g {x y:Operand} {k:IntKind} {b c:Int} {t u:TypeId} (e:ev ρ x=some (.int k b)) (e':ev ρ y=some (.int k c)) (h0:c≠0) :
  Val P X ρ ⟨d,.binOp .rem t x y u,ty,pos,af,g⟩ (.int k (b.tmod c)):=
 λa w _ hs=>by simp [execOp,hs.ev e,hs.ev e',eqGuard,binOp,Op.intDiv,h0]
theorem V.eq {x y:Operand} {k:IntKind} {b c:Int} {t u:TypeId} (e:ev ρ x=some (.int k b)) (e':ev ρ y=some (.int k c)) :
  Val P X ρ ⟨d,.binOp .eql t x y u,ty,pos,af,g⟩ (.bool (decide (b=c))):=
 λa w _ hs=>by
  have:(b == c)=decide (b=c):=by rw [Bool.eq_iff_iff]; simp
  simp [execOp,hs.ev e,hs.ev e',eqGuard,binOp,Op.intCmp,this]
theorem V.ne {x y:Operand} {k:IntKind} {b c:Int} {t u:TypeId} (e:ev ρ x=some (.int k b)) (e':ev ρ y=some (.int k c)) :
  Val P X ρ ⟨d,.binOp .neq t x y u,ty,pos,af,g⟩ (.bool (!decide (b=c))):=
 λa w _ hs=>by
  have:(b != c)=!decide (b=c):=by rw [Bool.eq_iff_iff]; simp
  simp [execOp,hs.ev e,hs.ev e',eqGuard,binOp,Op.intCmp,this]
theorem V.lt {x y:Operand} {k:IntKind} {b c:Int} {t u:TypeId} (e:ev ρ x=some (.int k b)) (e':ev ρ y=some (.int k c)) :
  Val P X ρ ⟨d,.binOp .lss t x y u,ty,pos,af,g⟩ (.bool (decide (b<c))):=
 λa w _ hs=>by simp [execOp,hs.ev e,hs.ev e',eqGuard,binOp,Op.intCmp]
theorem V.le {x y:Operand} {k:IntKind} {b c:Int} {t u:TypeId} (e:ev ρ x=some (.int k b)) (e':ev ρ y=some (.int k c)) :
  Val P X ρ ⟨d,.binOp .leq t x y u,ty,pos,af,g⟩ (.bool (decide (b≤c))):=
 λa w _ hs=>by simp [execOp,hs.ev e,hs.ev e',eqGuard,binOp,Op.intCmp]
theorem V.gt {x y:Operand} {k:IntKind} {b c:Int} {t u:TypeId} (e:ev ρ x=some (.int k b)) (e':ev ρ y=some (.int k c)) :
  Val P X ρ ⟨d,.binOp .gtr t x y u,ty,pos,af,g⟩ (.bool (decide (c<b))):=
 λa w _ hs=>by simp [execOp,hs.ev e,hs.ev e',eqGuard,binOp,Op.intCmp]
theorem V.ge {x y:Operand} {k:IntKind} {b c:Int} {t u:TypeId} (e:ev ρ x=some (.int k b)) (e':ev ρ y=some (.int k c)) :
  Val P X ρ ⟨d,.binOp .geq t x y u,ty,pos,af,g⟩ (.bool (decide (c≤b))):=
 λa w _ hs=>by simp [execOp,hs.ev e,hs.ev e',eqGuard,binOp,Op.intCmp]
end ops
def I7 (P:Program) (f:FuncId) (args:List Value) (h:PH) (L:List E5) (R:Value→PH→List E5→Prop):Prop:=
 ((P.funcs[f]?).map fun fn=>fn.name == "runtime.NumGoroutine" || fn.body.isNone) = some false∧
 ∀ w,Inv w h L→Calls P f args.toArray w λe w'=>∃ v h' L',e=.returned v∧Le h h'∧Inv w' h' L'∧R v h' L'
def A6C:Nat→List Value→Env
 | _,[]=>[]
 | k,v::vs=>(k,v)::A6C (k+1) vs
theorem B8a (vs:List Value):∀ k t u,lk (A6C k vs) t=some u→∃ i,t=k+i∧vs[i]?=some u:=by
 induction vs with
 | nil=>intro k t u e; simp [A6C,lk] at e
 | cons v vs ih=>
  intro k t u e
  simp only [A6C,lk] at e
  cases hb:Nat.beq k t with
  | true=>simp [hb] at e; exact ⟨0,(Nat.eq_of_beq_eq_true hb).symm,by simp [e]⟩
  | false=>
   simp [hb] at e
   obtain ⟨i,hi,hv⟩:=ih _ _ _ e
   exact ⟨i+1,by omega,by simpa using hv⟩
theorem I7.enter {P:Program} {f:FuncId} {fn:Func} {c:Code} {args:List Value} {h:PH} {L:List E5} {R:Value→PH→List E5→Prop} {n:Nat}
  (hf : P.funcs[f]? = some fn) (hb : fn.body = some c) (hn : fn.ntmps = n) (hc : (fn.name == "runtime.NumGoroutine") = false)
  (k:T (args.length+(n - args.length)) [] (A6C 0 args) h L (c.wr none P (bodyPost P fn λe w'=>∃ v h' L',e=.returned v∧Le h h'∧Inv w' h' L'∧R v h' L'))):I7 P f args h L R:=by
 refine ⟨by simp [hf,hb,hc],λw i=>calls_of_wp hf hb (B9R.1 (k _ w ⟨by simp [hn],rfl,?_⟩ i))⟩
 intro t u e
 obtain ⟨j,rfl,hj⟩:=B8a _ _ _ _ e
 have hlt:j<args.length:=by
  rcases Nat.lt_or_ge j args.length with x | x
  ·exact x
  ·simp [List.getElem?_eq_none x] at hj
 simp [Array.getElem?_append,hlt]
 simpa [hlt] using hj
section rets
variable {ro:Option Nat} {P:Program} {n:Nat} {ρ:Env} {h h₀:PH} {L:List E5} {fn:Func} {R:Value→PH→List E5→Prop} {v:Value}
theorem B2z {ρ:Env} {a:Act} {t:Nat} {v:Value} (hs:Has ρ a) (e:lk ρ t=some v):a.tmps.getD t undef=v:=by
 simp [Array.getD_eq_getD_getElem?,hs t v e]
theorem T.C4Q (h0:fn.results=#[]) (hl:Le h₀ h) (hR:R (.tuple #[]) h L) :
  T n [] ρ h L (bodyPost P fn (λe w'=>∃ v h' L',e=.returned v∧Le h₀ h'∧Inv w' h' L'∧R v h' L') .ret):=
 λ_ _ f i=>⟨f.defers,.tuple #[],results_none h0 _ _ _,_,h,L,rfl,hl,i,hR⟩
theorem T.A0R (h0:fn.results=#[]) (hl:Le h₀ h) (hR:R (.tuple #[]) h L) :
  T n [] ρ h L (bodyPost P fn (λe w'=>∃ v h' L',e=.returned v∧Le h₀ h'∧Inv w' h' L'∧R v h' L') .normal):=
 λ_ _ f i=>⟨f.defers,.tuple #[],results_none h0 _ _ _,_,h,L,rfl,hl,i,hR⟩
end rets
end Go.Sl
namespace Go.Sl
open Go
def U1 (P:Program) (t:TypeId):Option (Bool×Nat):=
 match P.underlying t,P.info? t with
 | some (.struct _),some i=>some (true,i.size)
 | some (.array _ _),some i=>some (true,i.size)
 | some _,some i=>some (false,i.size)
 | _,_=>none
def A0T (P:Program) (t:TypeId):Option (TypeId×Nat×Nat):=
 match P.underlying t with
 | some (.slice e)=>(P.info? e).map λi=>(e,i.size,i.bytes)
 | _=>none
def O5 (P:Program) (s f:Nat):Option Nat:=
 match P.underlying s with
 | some (.struct fs)=>match fs[f]? with
  | some x=>match P.info? x.type with
   | some i=>if i.size=0 then none else some x.offset
   | none=>none
  | none=>none
 | _=>none
def zer (P:Program) (t:TypeId):Option Value:=(P.info? t).bind (·.zero)
theorem run_underlying {P:Program} {t:TypeId} {d:TypeDesc} (e:P.underlying t=some d) (w:World):(underlying t).run P w=.ok d w:=by
 simp [underlying,e]
theorem run_typeInfo {P:Program} {t:TypeId} {i:TypeInfo} (e:P.info? t=some i) (w:World):(typeInfo t).run P w=.ok i w:=by
 simp [typeInfo,e]
theorem run_sizeOf {P:Program} {t:TypeId} {i:TypeInfo} (e:P.info? t=some i) (w:World):(sizeOf t).run P w=.ok i.size w:=by
 simp [sizeOf,run_typeInfo e]
theorem A9A {P:Program} {t:TypeId} {v:Value} (e:zer P t=some v) (w:World):(zeroValue t).run P w=.ok v w:=by
 unfold zer at e
 cases hi:P.info? t with
 | none=>simp [hi] at e
 | some i=>simp [hi] at e; simp [zeroValue,run_typeInfo hi,e]
theorem B4h {P:Program} {t:TypeId} {n:Nat} (e:U1 P t=some (false,n)) (w:World):(isAgg t).run P w=.ok false w:=by
 unfold U1 at e
 cases hu:P.underlying t with
 | none=>simp [hu] at e
 | some d=>
  cases hi:P.info? t with
  | none=>cases d <;> simp [hu,hi] at e
  | some i=>cases d <;> simp [hu,hi] at e <;> simp [isAgg,run_underlying hu]
theorem C9f {P:Program} {t:TypeId} {n:Nat} (e:U1 P t=some (true,n)) (w:World):(isAgg t).run P w=.ok true w:=by
 unfold U1 at e
 cases hu:P.underlying t with
 | none=>simp [hu] at e
 | some d=>
  cases hi:P.info? t with
  | none=>cases d <;> simp [hu,hi] at e
  | some i=>cases d <;> simp [hu,hi] at e <;> simp [isAgg,run_underlying hu]
theorem B4v {P:Program} {t:TypeId} {b:Bool} {n:Nat} (e:U1 P t=some (b,n)) (w:World):(sizeOf t).run P w=.ok n w:=by
 unfold U1 at e
 cases hi:P.info? t with
 | none=>
  cases hu:P.underlying t with
  | none=>simp [hu] at e
  | some d=>cases d <;> simp [hu,hi] at e
 | some i=>
  rw [run_sizeOf hi]
  cases hu:P.underlying t with
  | none=>simp [hu] at e
  | some d=>cases d <;> simp [hu,hi] at e <;> simp [e]
theorem A6O {P:Program} {t e:TypeId} {sz by_:Nat} (h:A0T P t=some (e,sz,by_)) :
  (∀ w,(underlying t).run P w=.ok (.slice e) w)∧(∀ w,(sizeOf e).run P w=.ok sz w)∧(∀ w,∃ i,(typeInfo e).run P w=.ok i w∧i.bytes=by_):=by
 unfold A0T at h
 cases hu:P.underlying t with
 | none=>simp [hu] at h
 | some d=>
  cases d <;> simp [hu] at h
  obtain ⟨i,hi,rfl,rfl,rfl⟩:=h
  exact ⟨λw=>run_underlying hu w,λw=>run_sizeOf hi w,λw=>⟨i,run_typeInfo hi w,rfl⟩⟩
def Y2 (h:PH) (p:Addr) (cs:List Value):Prop:=
 p.spot=none∧∃ bs t fr,h.m p.block=some (.cells bs t fr)∧∀ i v,cs[i]?=some v→bs[p.off+i]?=some v
theorem Y2.mono {h g:PH} {p:Addr} {cs:List Value} (a:Y2 h p cs) (l:Le h g):Y2 g p cs:=by
 obtain ⟨s,bs,t,fr,e,f⟩:=a
 exact ⟨s,bs,t,fr,l.get _ _ e,f⟩
theorem Y2.of {h:PH} {b:Nat} {cs:List Value} {t:TypeId} {fr:Nat×Nat} (e:h.m b=some (.cells cs.toArray t fr)):Y2 h ⟨b,0,none⟩ cs:=
 ⟨rfl,_,t,fr,e,λi v hv=>by simpa using hv⟩
theorem A0W (p:Addr) (k:Nat) (hs:p.spot=none):p.add k=⟨p.block,p.off+k,none⟩:=by
 unfold Addr.add
 split
 ·rename_i h0; subst h0; cases p; simp_all
 ·rfl
theorem Y2.cell {h:PH} {p:Addr} {cs:List Value} (a:Y2 h p cs) {w:World} (l:Le h (hp w)) {k:Nat} {v:Value} (e:cs[k]?=some v):w.cell? (p.add k)=some v:=by
 obtain ⟨s,bs,t,fr,hb,f⟩:=a
 have:=l.get _ _ hb
 simp only [hp] at this
 simp [A0W p k s,World.cell?,this,f k v e]
theorem Y2.cell0 {h:PH} {p:Addr} {cs:List Value} (a:Y2 h p cs) {w:World} (l:Le h (hp w)) {v:Value} (e:cs[0]?=some v):w.cell? p=some v:=by
 have:=a.cell l (k:=0) e
 simpa [Addr.add] using this
theorem Y2.sub {h:PH} {p:Addr} {cs:List Value} (a:Y2 h p cs) (k m:Nat):Y2 h (p.add k) ((cs.drop k).take m):=by
 obtain ⟨s,bs,t,fr,hb,f⟩:=a
 rw [A0W p k s]
 refine ⟨rfl,bs,t,fr,hb,λi v e=>?_⟩
 have e':cs[k+i]?=some v:=by
  rw [List.getElem?_take] at e
  split at e
  ·simpa [List.getElem?_drop] using e
  ·cases e
 have:=f (k+i) v e'
 show bs[p.off+k+i]?=some v
 rw [Nat.add_assoc]; exact this
theorem A6A {P:Program} {w:World} {p:Addr} (cs:List Value):∀ (k:Nat) (acc:Array Value),
  (∀ i v,cs[i]?=some v→w.cell? (p.add (k+i))=some v)→(loadCellsFrom p k cs.length acc).run P w=.ok (acc++cs.toArray) w:=by
 induction cs with
 | nil=>intro k acc _; simp [loadCellsFrom]
 | cons c cs ih=>
  intro k acc hc
  have h0:=hc 0 c rfl
  simp only [List.length_cons,loadCellsFrom]
  simp only [Nat.add_zero] at h0
  have hi:∀ i v,cs[i]?=some v→w.cell? (p.add (k+1+i))=some v:=by
   intro i v e
   have:=hc (i+1) v (by simpa using e)
   rwa [show k+(i+1)=k+1+i by omega] at this
  simp only [Sem.run_bind,run_load,h0,Result.andThen_ok,ih (k+1) (acc.push c) hi]
  congr 1
  apply Array.toList_inj.1
  simp
theorem A6e {P:Program} {t:TypeId} {w:World} {p:Addr} {cs:List Value} (ht:U1 P t=some (true,cs.length)) (hc:∀ i v,cs[i]?=some v→w.cell? (p.add i)=some v) :
  (loadVar t p).run P w=.ok (.agg cs.toArray) w:=by
 have:=A6A (P:=P) (w:=w) (p:=p) cs 0 #[] (by simpa using hc)
 simp [loadVar,C9f ht,B4v ht,loadCells,this]
theorem A9t {P:Program} {t:TypeId} {n:Nat} {w:World} {p:Addr} {v:Value} (ht:U1 P t=some (false,n)) (hc:w.cell? p=some v) :
  (loadVar t p).run P w=.ok v w:=by
 simp [loadVar,B4h ht,hc]
abbrev Vr (α:Type):=PH→List Value→α→Prop
def A0K (v:Value) (i sz:Nat):Addr:=match v with
 | .slice (some p) _ _=>⟨p.block,p.off+i*sz,none⟩
 | _=>default
structure G9 {α:Type} (E:Vr α) (sz:Nat) (h:PH) (v:Value) (xs:List α):Prop where
 shape:∃ a c,v=.slice a xs.length c∧xs.length≤c∧(xs≠[]→∃ b o,a=some ⟨b,o,none⟩)
 elem:∀ (i:Nat) (x:α),xs[i]?=some x→∃ cs,cs.length=sz∧Y2 h (A0K v i sz) cs∧E h cs x
def A1i {α:Type} (E:Vr α):Prop:=∀ h g cs x,Le h g→E h cs x→E g cs x
theorem G9.mono {α:Type} {E:Vr α} {sz:Nat} {h g:PH} {v:Value} {xs:List α} (m:A1i E) (s:G9 E sz h v xs) (l:Le h g):G9 E sz g v xs:=
 ⟨s.shape,λi x e=>let ⟨cs,a,b,c⟩:=s.elem i x e; ⟨cs,a,b.mono l,m _ _ _ _ l c⟩⟩
theorem G9.nil {α:Type} {E:Vr α} {sz:Nat} {h:PH}:G9 E sz h (.slice none 0 0) []:=
 ⟨⟨none,0,rfl,Nat.le_refl _,λe=>absurd rfl e⟩,λi x e=>by simp at e⟩
def VI (k:IntKind):Vr Int:=λ_ cs x=>cs=[.int k x]
def VB:Vr Bool:=λ_ cs x=>cs=[.bool x]
def VS:Vr ByteArray:=λ_ cs x=>cs=[.string x]
theorem VI.mono {k:IntKind}:A1i (VI k):=λ_ _ _ _ _ e=>e
theorem VB.mono:A1i VB:=λ_ _ _ _ _ e=>e
theorem VS.mono:A1i VS:=λ_ _ _ _ _ e=>e
def VSl {α:Type} (E:Vr α) (sz:Nat):Vr (List α):=λh cs xs=>∃ v,cs=[v]∧G9 E sz h v xs
theorem VSl.mono {α:Type} {E:Vr α} {sz:Nat} (m:A1i E):A1i (VSl E sz):=λ_ _ _ _ l ⟨v,e,s⟩=>⟨v,e,s.mono m l⟩
section ops
variable {ro:Option Nat} {P:Program} {n:Nat} {D:List Deferred} {ρ:Env} {h:PH} {L:List E5} {Q:Exit→Act→World→Prop}
variable {ops:Array Oper} {rest:List Oper} {X:World→Prop} {K:Act→World→Prop} {d:Option Nat} {ty:TypeId} {pos:String} {af:Array Edge} {g:Option (Nat×Bool)}
theorem V.fa {x:Operand} {s f off:Nat} {p:Addr} (hf:O5 P s f=some off) (e:ev ρ x=some (.pointer (some p))) :
  Val P X ρ ⟨d,.fieldAddr s x f,ty,pos,af,g⟩ (.pointer (some (p.add off))):=λa w _ hs=>by
 unfold O5 at hf
 split at hf
 ·rename_i fs hu
  split at hf
  ·rename_i fd hfd
   split at hf
   ·rename_i i hi
    split at hf
    ·cases hf
    ·rename_i hz
     cases hf
     simp [execOp,hs.ev e,Instr.fieldAt,run_underlying hu,hfd,Instr.sureAddr,fieldPlace,run_sizeOf hi,hz]
   ·cases hf
  ·cases hf
 ·cases hf
theorem V.ldf [HX X h] {x:Operand} {t k m:Nat} {p:Addr} {cs:List Value} {v:Value} (ht:U1 P t=some (false,m)) (e:ev ρ x=some (.pointer (some (p.add k)))) (hA:Y2 h p cs) (hk:cs[k]?=some v) :
  Val P X ρ ⟨d,.load t x,ty,pos,af,g⟩ v:=λa w i hs=>by
 simp [execOp,hs.ev e,Instr.loadAt,Instr.sureAddr,A9t ht (hA.cell (HX.le _ i) hk)]
theorem V.Q9 [HX X h] {x:Operand} {t m:Nat} {p:Addr} {cs:List Value} {v:Value} (ht:U1 P t=some (false,m)) (e:ev ρ x=some (.pointer (some p))) (hA:Y2 h p cs) (hk:cs[0]?=some v) :
  Val P X ρ ⟨d,.load t x,ty,pos,af,g⟩ v:=λa w i hs=>by
 simp [execOp,hs.ev e,Instr.loadAt,Instr.sureAddr,A9t ht (hA.cell0 (HX.le _ i) hk)]
theorem V.ldS [HX X h] {x:Operand} {t:Nat} {p:Addr} {cs:List Value} (e:ev ρ x=some (.pointer (some p))) (hA:Y2 h p cs) (ht:U1 P t=some (true,cs.length)) :
  Val P X ρ ⟨d,.load t x,ty,pos,af,g⟩ (.agg cs.toArray):=λa w i hs=>by
 simp [execOp,hs.ev e,Instr.loadAt,Instr.sureAddr,A6e ht (λk v hk=>hA.cell (HX.le _ i) hk)]
theorem V.C8Y [HX X h] {x:Operand} {t k m:Nat} {p:Addr} {cs:List Value} (ht:U1 P t=some (true,m)) (e:ev ρ x=some (.pointer (some (p.add k)))) (hA:Y2 h p cs) (hm:k+m≤cs.length) :
  Val P X ρ ⟨d,.load t x,ty,pos,af,g⟩ (.agg ((cs.drop k).take m).toArray):=λa w i hs=>by
 have hl:((cs.drop k).take m).length=m:=by simp; omega
 simp [execOp,hs.ev e,Instr.loadAt,Instr.sureAddr,A6e (by rw [hl]; exact ht) (λj v hk=>(hA.sub k m).cell (HX.le _ i) hk)]
theorem V.ixv {x ix:Operand} {t et sz by_ len cap:Nat} {b o:Nat} {k:IntKind} {i:Int} (ht:A0T P t=some (et,sz,by_)) (e:ev ρ x=some (.slice (some ⟨b,o,none⟩) len cap)) (e':ev ρ ix=some (.int k i))
  (hi:0≤i∧i<len):Val P X ρ ⟨d,.indexAddr t x ix,ty,pos,af,g⟩ (.pointer (some (A0K (.slice (some ⟨b,o,none⟩) len cap) i.toNat sz))):=λa w _ hs=>by
 obtain ⟨h1,h2,_⟩:=A6O ht
 have:({ block:=b,off:=o }:Addr).add (i.toNat*sz)=A0K (.slice (some ⟨b,o,none⟩) len cap) i.toNat sz:=by rw [A0W _ _ rfl]; rfl
 simp [execOp,hs.ev e,hs.ev e',Instr.indexAt,asIntOf,h1,h2,hi.1,hi.2,this]
theorem V.ix {α:Type} {E:Vr α} {x ix:Operand} {t et sz by_:Nat} {v:Value} {k:IntKind} {i:Int} {xs:List α} (ht:A0T P t=some (et,sz,by_)) (e:ev ρ x=some v) (e':ev ρ ix=some (.int k i))
  (hS:G9 E sz h v xs) (hi:0≤i∧i<xs.length):Val P X ρ ⟨d,.indexAddr t x ix,ty,pos,af,g⟩ (.pointer (some (A0K v i.toNat sz))):=by
 obtain ⟨a,c,rfl,_,hb⟩:=hS.shape
 obtain ⟨b,o,rfl⟩:=hb (by intro h0; subst h0; simp at hi; omega)
 exact V.ixv ht e e' hi
theorem V.len {x:Operand} {t et sz by_ len cap:Nat} {a:Option Addr} (ht:A0T P t=some (et,sz,by_)) (e:ev ρ x=some (.slice a len cap)) :
  Val P X ρ ⟨d,.call ⟨.builtin .len,#[x],#[t]⟩,ty,pos,af,g⟩ (.int .i64 len):=λa w _ hs=>by
 obtain ⟨h1,h2,_⟩:=A6O ht
 simp [execOp,resolve,invoke,builtin,Builtin.len_,hs.ev e,h1,goInt]
theorem V.P7 {α:Type} {E:Vr α} {x:Operand} {t et sz by_:Nat} {v:Value} {xs:List α} (ht:A0T P t=some (et,sz,by_)) (e:ev ρ x=some v) (hS:G9 E sz h v xs) :
  Val P X ρ ⟨d,.call ⟨.builtin .len,#[x],#[t]⟩,ty,pos,af,g⟩ (.int .i64 xs.length):=by
 obtain ⟨a,c,rfl,_,hb⟩:=hS.shape
 exact V.len ht e
theorem V.B2w {x:Operand} {t:Nat} {s:ByteArray} (ht:P.underlying t=some .string) (e:ev ρ x=some (.string s)) :
  Val P X ρ ⟨d,.call ⟨.builtin .len,#[x],#[t]⟩,ty,pos,af,g⟩ (.int .i64 s.size):=λa w _ hs=>by
 simp [execOp,resolve,invoke,builtin,Builtin.len_,hs.ev e,run_underlying ht,goInt]
theorem V.D2P {x ix:Operand} {t:Nat} {s:ByteArray} {k:IntKind} {i:Int} {c:UInt8} (ht:P.underlying t=some .string) (e:ev ρ x=some (.string s)) (e':ev ρ ix=some (.int k i))
  (h0:0≤i) (hi:s[i.toNat]?=some c):Val P X ρ ⟨d,.index t x ix,ty,pos,af,g⟩ (.int .u8 c.toNat):=λa w _ hs=>by
 simp [execOp,Instr.index,hs.ev e,hs.ev e',run_underlying ht,asIntOf,h0,hi]
theorem V.mkf {f:FuncId} {fs cs:List Operand} {us vs:List Value} (e:evs ρ fs=some us) (e':evs ρ cs=some vs) :
  Val P X ρ ⟨d,.makeFunc (.func f) fs.toArray cs.toArray,ty,pos,af,g⟩ (.func (.func f) us.toArray vs.toArray):=λa w _ hs=>by
 simp [execOp,Instr.makeFunc,hs.evs e,hs.evs e']
theorem O.box {dd:Nat} {x:Operand} {el:TypeId} {v:Value} {cs:List Value} (e:ev ρ x=some v) (hv:v.cells=cs.toArray) (hd:Nat.blt dd n=true)
  (k:∀ b,T n D ((dd,.pointer (some ⟨b,0,none⟩))::ρ) h (blk b (.cells cs.toArray el)::L) K) :
  T n D ρ h L (λa w=>Oper.wr ⟨some dd,.box el x,ty,pos,af,g⟩ ro P a w K Q):=
 λa w f i=>by
  have:(execOp a.eval ⟨some dd,.box el x,ty,pos,af,g⟩).run P w=.ok (.value (.pointer (some ⟨w.heap.size,0,none⟩))) (w.alloc (.cells cs.toArray el)):=by
   simp [execOp,Instr.box,f.has.ev e,newVar,newRow,hv]
  exact A0j this (k _ _ _ (f.put hd) (i.alloc _))
theorem O.T9 {dd:Nat} {x:Operand} {el:TypeId} {v:Value} {cs:List Value} (e:ev ρ x=some v) (hv:v.cells=cs.toArray) (hd:Nat.blt dd n=true)
  (k:∀ b h',Le h h'→Y2 h' ⟨b,0,none⟩ cs→T n D ((dd,.pointer (some ⟨b,0,none⟩))::ρ) h' L K) :
  T n D ρ h L (λa w=>Oper.wr ⟨some dd,.box el x,ty,pos,af,g⟩ ro P a w K Q):=
 O.box e hv hd λb=>T.freeze λh' l e=>k b h' l (Y2.of e)
theorem O.alloc {dd:Nat} {el:TypeId} {v:Value} {cs:List Value} (hz:zer P el=some v) (hv:v.cells=cs.toArray) (hd:Nat.blt dd n=true)
  (k:∀ b,T n D ((dd,.pointer (some ⟨b,0,none⟩))::ρ) h (blk b (.cells cs.toArray el)::L) K) :
  T n D ρ h L (λa w=>Oper.wr ⟨some dd,.alloc el,ty,pos,af,g⟩ ro P a w K Q):=
 λa w f i=>by
  have:(execOp a.eval ⟨some dd,.alloc el,ty,pos,af,g⟩).run P w=.ok (.value (.pointer (some ⟨w.heap.size,0,none⟩))) (w.alloc (.cells cs.toArray el)):=by
   simp [execOp,Instr.alloc,A9A hz,newVar,newRow,hv]
  exact A0j this (k _ _ _ (f.put hd) (i.alloc _))
theorem A3l {P : Program} {f : FuncId} {args : Array Value} (hc : ((P.funcs[f]?).map fun fn=>fn.name == "runtime.NumGoroutine" || fn.body.isNone) = some false) (w : World) :
  (callFunc f args).run P w=.ok (.enter f args) w:=by
 cases hf:P.funcs[f]? with
 | none=>simp [hf] at hc
 | some fn=>
  simp [hf] at hc
  obtain ⟨c1,c2⟩:=hc
  have c3:fn.body≠none:=by intro h0; simp [h0] at c2
  simp [callFunc,hf,c1,c3]
theorem O.D0f {dd:Nat} {c:Call} {f:FuncId} {vs:List Value} {R:Value→PH→List E5→Prop}
  (hr:∀ a w,Has ρ a→(execOp a.eval ⟨some dd,.call c,ty,pos,af,g⟩).run P w=(callFunc f vs.toArray).run P w) (s:I7 P f vs h L R) (hd:Nat.blt dd n=true)
  (k:∀ v h' L',Le h h'→R v h' L'→T n D ((dd,v)::ρ) h' L' K) :
  T n D ρ h L (λa w=>Oper.wr ⟨some dd,.call c,ty,pos,af,g⟩ ro P a w K Q):=
 λa w fr i=>by
  have:(execOp a.eval ⟨some dd,.call c,ty,pos,af,g⟩).run P w=.ok (.enter f vs.toArray) w:=by
   rw [hr a w fr.has,A3l s.1 w]
  refine B8O this ((s.2 w i).mono ?_)
  rintro e' w' ⟨v,h',L',rfl,hl,hi,hR⟩
  exact k v h' L' hl hR _ w' (fr.put hd) hi
theorem O.G6 {dd:Nat} {f:FuncId} {xs:List Operand} {ts:Array TypeId} {vs:List Value} {R:Value→PH→List E5→Prop} (e:evs ρ xs=some vs) (s:I7 P f vs h L R) (hd:Nat.blt dd n=true)
  (k:∀ v h' L',Le h h'→R v h' L'→T n D ((dd,v)::ρ) h' L' K) :
  T n D ρ h L (λa w=>Oper.wr ⟨some dd,.call ⟨.value (.func f),xs.toArray,ts⟩,ty,pos,af,g⟩ ro P a w K Q):=
 O.D0f (λa w hs=>by
  have:=hs.evs e
  simp [execOp,resolve,Act.eval,Deferred.ofValue,invoke]
  rw [show (List.map (λx=>a.eval x) xs)=vs from this]) s hd k
theorem O.D2r {dd:Nat} {x:Operand} {f:FuncId} {us cs:List Value} {xs:List Operand} {ts:Array TypeId} {vs:List Value} {R:Value→PH→List E5→Prop} (e0:ev ρ x=some (.func (.func f) us.toArray cs.toArray)) (e:evs ρ xs=some vs)
  (s:I7 P f (us++vs++cs) h L R) (hd:Nat.blt dd n=true)
  (k:∀ v h' L',Le h h'→R v h' L'→T n D ((dd,v)::ρ) h' L' K) :
  T n D ρ h L (λa w=>Oper.wr ⟨some dd,.call ⟨.value x,xs.toArray,ts⟩,ty,pos,af,g⟩ ro P a w K Q):=
 O.D0f (λa w hs=>by
  have h1:=hs.evs e
  have h0:=hs.ev e0
  simp [execOp,resolve,h0,Deferred.ofValue,invoke]
  rw [show (List.map (λx=>a.eval x) xs)=vs from h1]) s hd k
end ops
end Go.Sl
namespace Go.Sl
open Go
def Oper.at (o:Oper) (P:Program) (ops:Array Oper) (X:World→Prop) (v:Value) (a:Act):Prop:=
 (Region.wanted o (yielded ops a.tmps)=true∧∀ w,X w→(execOp a.eval o).run P w=.ok (.value v) w)∨
 (Region.wanted o (yielded ops a.tmps)=false∧v=undef)
def B2N (ops:Array Oper):Bool:=ops.all λo=>match o.op with
 | .defer _=>false
 | _=>true
theorem C3W {ops:Array Oper} (h:B2N ops=true) {j:Nat} {o:Oper} (hj:ops[j]?=some o):∀ c,o.op≠.defer c:=by
 intro c hc
 unfold B2N at h
 rw [Array.all_eq_true] at h
 have hlt:j<ops.size:=by
  rcases Nat.lt_or_ge j ops.size with x | x
  ·exact x
  ·simp [Array.getElem?_eq_none x] at hj
 have:=h j hlt
 rw [Array.getElem?_eq_getElem hlt] at hj
 cases hj
 rw [hc] at this
 cases this
section
variable {ro:Option Nat} {P:Program} {ops:Array Oper} {Q:Exit→Act→World→Prop} {md:Region.Mode} {X:World→Prop}
theorem C7j {i:Nat} {o:Oper} {v:Value} {a:Act} (hi:ops[i]?=some o) (hy:Oper.at o P ops X v a)
  {K:Act→World→Prop} {w:World} (hx:X w) (h:K (a.put o.dst v) w):opr ro P ops Q i K a w:=by
 rcases hy with ⟨hw,hv⟩ | ⟨hw,rfl⟩
 ·exact C9I hi hw (A0j (hv w hx) h)
 ·exact C6a hi hw h
theorem C7x {o:Oper} {v:Value} {a a':Act} (hy:Oper.at o P ops X v a) (he:execOp a'.eval o=execOp a.eval o)
  (hw:Region.wanted o (yielded ops a'.tmps)=Region.wanted o (yielded ops a.tmps)):Oper.at o P ops X v a':=by
 unfold Oper.at at *
 rw [he,hw]
 exact hy
theorem D3d {j:Nat} {oi oj:Oper} {v:Value} (hj:ops[j]?=some oj) (hap:oi.apart ops oj=true)
  (hsi:∀ cs b,oi.op≠.select cs b) (hsj:∀ cs b,oj.op≠.select cs b) (hdj:∀ c,oj.op≠.defer c)
  (hQ:∀ c a w,Q (.panic c) (a.put oi.dst v) w→Q (.panic c) a w) {K:Act→World→Prop} {a:Act} {w:World}
  (hy:Oper.at oi P ops X v a) (h:opr ro P ops Q j K (a.put oi.dst v) w) :
  opr ro P ops Q j (λa' w'=>Oper.at oi P ops X v a'∧K (a'.put oi.dst v) w') a w:=by
 obtain ⟨h1,h2,h3⟩:=Oper.apart_spec hap
 have keep:∀ (a:Act),Oper.at oi P ops X v a→∀ u,Oper.at oi P ops X v (a.put oj.dst u):=λa hy u=>
  C7x hy (execOp_put oi hsi a oj.dst u h3) (wanted_put oi a oj.dst u h3)
 unfold opr wpOpIn at *
 simp only [hj] at *
 rw [wanted_put oj a oi.dst v h1] at h
 split
 ·rename_i hw
  simp only [hw,if_true] at h
  refine ⟨λ_ _=>trivial,?_⟩
  have h:=h.2
  rw [Oper.semAt_eq _ _ _ hdj,execOp_put oj hsj a oi.dst v h1] at h
  rw [Oper.semAt_eq _ _ _ hdj]
  generalize (execOp a.eval oj).run P w=r at *
  cases r with
  | ok n w'=>
   cases n <;> simp only [Oper.uponIn] at h ⊢
   case value u=>exact ⟨keep a hy u,by rw [←Act.put_comm a v u h2]; exact h⟩
   case skip=>exact ⟨keep a hy _,by rw [←Act.put_comm a v undef h2]; exact h⟩
   case defer d=>
    refine ⟨?_,?_⟩
    ·exact keep _ (C7x (a':={ a with defers:=d::a.defers }) hy rfl rfl) _
    ·rw [←Act.put_comm _ v undef h2,←Act.put_defers]
     exact h
   case enter f args=>
    refine ⟨h.1,CallsIn.mono h.2 λe w'' he=>?_⟩
    cases e with
    | returned u=>exact ⟨keep a hy u,by rw [←Act.put_comm a v u h2]; exact he⟩
    | panicked c=>exact hQ _ _ _ he
    | outgrown=>exact he
   case row row args=>exact ⟨h.1,RowsIn.mono h.2 λu w'' he=>⟨keep a hy u,by rw [←Act.put_comm a v u h2]; exact he⟩⟩
   case round l f tmps assign body=>
    refine ⟨h.1,RoundIn.mono h.2 λe w'' he=>?_⟩
    cases e with
    | returned u=>exact ⟨keep a hy u,by rw [←Act.put_comm a v u h2]; exact he⟩
    | panicked c=>exact hQ _ _ _ he
    | outgrown=>exact he
  | halt x w'=>
   cases x <;> simp only [Oper.uponIn] at h ⊢
   case panic u=>exact hQ _ _ _ h
 ·rename_i hw
  simp only [hw] at h
  exact ⟨λ_ _=>trivial,keep a hy _,by rw [←Act.put_comm a v undef h2]; exact h.2⟩
end
section T
variable {ro:Option Nat} {P:Program} {n:Nat} {D:List Deferred} {ρ:Env} {h g:PH} {L:List E5} {Q:Exit→Act→World→Prop} {K:Act→World→Prop} {X:World→Prop}
variable {ops:Array Oper} {r:List (Bool×Nat)} {i:Nat}
def Calm (Q:Exit→Act→World→Prop):Prop:=∀ c a d v w,Q (.panic c) (Act.put a d v) w→Q (.panic c) a w
theorem Calm.then {K:Act→World→Prop} (h:Calm Q):Calm (Exit.then K Q):=λc a d v w q=>h c a d v w q
theorem Calm.inBlock {id:Nat} (h:Calm Q):Calm (Exit.inBlock id Q):=λc a d v w q=>h c a d v w q
theorem Calm.body {fn:Func} {R:Ending→World→Prop}:Calm (bodyPost P fn R):=λc a d v w q=>by
 obtain ⟨q1,q2⟩:=q
 exact ⟨by cases d <;> simpa [Act.put] using q1,q2⟩
theorem T.D3y {Y:Act→World→Prop} {b:Bool} (t:Nat) (hb:lk ρ t=some (.bool b)) (ht:b=true→T n D ((t,.bool true)::ρ) h L Y) (hf:b=false→T n D ((t,.bool false)::ρ) h L Y):T n D ρ h L Y:=by
 intro a w f i
 have key:∀ c,b=c→Fr n D ((t,.bool c)::ρ) a:=λc e=>by
  subst e
  refine ⟨f.size,f.defers,λs u hu=>?_⟩
  simp only [lk] at hu
  cases hst:Nat.beq t s with
  | true=>simp [hst] at hu; rw [←Nat.eq_of_beq_eq_true hst]; rw [←hu]; exact f.has t _ hb
  | false=>simp [hst] at hu; exact f.has s u hu
 cases hc:b with
 | true=>exact ht hc a w (key true hc) i
 | false=>exact hf hc a w (key false hc) i
def Met {α:Type} (n:Nat) (D:List Deferred) (h₀:PH) (st:α→Env) (Ls:α→List E5) (pre:α→PH→Prop) (a:Act) (w:World):Prop:=
 ∃ y h',Le h₀ h'∧pre y h'∧Fr n D (st y) a∧Inv w h' (Ls y)
theorem T.cut {α:Type} {c:Code} (st:α→Env) (Ls:α→List E5) (pre:α→PH→Prop)
  (k1:T n D ρ h L (c.wr ro P (Exit.then (Met n D h st Ls pre) Q))) (k2:∀ y h',Le h h'→pre y h'→T n D (st y) h' (Ls y) K) :
  T n D ρ h L (c.wr ro P (Exit.then K Q)):=
 λa w f i=>wpIn_mono (k1 a w f i) λe a' w' q=>by
  cases e with
  | normal=>obtain ⟨y,h',hl,hp,hf,hi⟩:=q; exact k2 y h' hl hp a' w' hf hi
  | exit id=>exact q
  | goto l=>exact q
  | ret=>exact q
  | panic ch=>exact q
  | outgrown=>exact q
theorem T.met {α:Type} {h₀ h':PH} {st:α→Env} {Ls:α→List E5} {pre:α→PH→Prop} (y:α)
  (hl:Le h₀ h') (hpre:pre y h') (hρ:A5b ρ (st y)) (hL:L=Ls y):T n D ρ h' L (Met n D h₀ st Ls pre):=
 λ_ _ f i=>⟨y,h',hl,hpre,f.sub (Sub.of hρ),hL ▸ i⟩
end T
end Go.Sl
