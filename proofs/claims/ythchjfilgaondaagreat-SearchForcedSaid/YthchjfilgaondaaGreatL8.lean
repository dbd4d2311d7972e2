import Derived.Test.YthchjfilgaondaaGreatL7
import Derived.MapKept
import Derived.Lib.Bytealg
/- Rules. -/
set_option maxRecDepth 1000000
set_option maxHeartbeats 40000000
set_option linter.unusedVariables false
set_option linter.unusedSimpArgs false
set_option linter.unusedSectionVars false
set_option linter.unnecessarySimpa false
namespace Go.Sl
open Go Go.MapKept
def A4c {κ α:Type} [DecidableEq κ]:List (κ×α)→κ→Option α
 | [],_=>none
 | (k',x)::m,k=>bif decide (k=k') then some x else A4c m k
def A2z {κ α:Type} [DecidableEq κ]:List (κ×α)→κ→α→List (κ×α)
 | [],k,x=>[(k,x)]
 | (k',y)::m,k,x=>bif decide (k=k') then (k,x)::m else (k',y)::A2z m k x
def lkM {κ α:Type} [DecidableEq κ] (m:List (κ×α)) (k:κ) (z:α):Option (α×Bool):=match A4c m k with
 | none=>some (z,false)
 | some x=>some (x,true)
def pk:Bool→List Value→Value
 | true,cs=>.agg cs.toArray
 | false,cs=>cs.headD .nilIface
structure A0t {κ:Type} (P:Program) (kt:TypeId) (td:TypeDesc) (ek:κ→Value):Prop where
 und:P.underlying kt=some td
 key:∀ a,IsKey td (ek a)
 inj:∀ a b,ek a=ek b→a=b
theorem A0t.int {P:Program} {kt:TypeId} {k:IntKind} (h:P.underlying kt=some (.int k)):A0t P kt (.int k) (Value.int k):=⟨h,λ_=>rfl,λ_ _ e=>by cases e; rfl⟩
theorem A0t.str {P:Program} {kt:TypeId} (h:P.underlying kt=some .string):A0t P kt .string Value.string:=⟨h,λ_=>trivial,λ_ _ e=>by cases e; rfl⟩
theorem A0t.now {κ:Type} [DecidableEq κ] {P:Program} {kt:TypeId} {td:TypeDesc} {ek:κ→Value} (q:A0t P kt td ek) (a b:κ):Instr.sameNow td (ek a) (ek b)=some (decide (a=b)):=by
 obtain ⟨r,hr,hi⟩:=sameNow_of_keys (q.key a) (q.key b)
 rw [hr]; congr 1
 cases r with
 | true=>simp [q.inj _ _ (hi.1 rfl)]
 | false=>
  have:a≠b:=λe=>by have:=hi.2 (by rw [e]); cases this
  simp [this]
section
variable {κ α:Type} [DecidableEq κ] {ek:κ→Value} {agg:Bool} {E:Vr α} {h g:PH}
def V7 (ek:κ→Value) (agg:Bool) (E:Vr α) (h:PH):Nat→List MapEntry→List (κ×α)→Prop
 | _,[],[]=>True
 | n,e::es,(k,x)::m=>(∃ cs,e=⟨ek k,pk agg cs,n⟩∧E h cs x)∧V7 ek agg E h (n+1) es m
 | _,_,_=>False
omit [DecidableEq κ] in
theorem V7.mono (mo:A1i E) (l:Le h g):∀ {n es} {m:List (κ×α)},V7 ek agg E h n es m→V7 ek agg E g n es m
 | _,[],[],_=>trivial
 | _,_::_,(_,_)::_,⟨⟨cs,e,q⟩,r⟩=>⟨⟨cs,e,mo _ _ _ _ l q⟩,V7.mono mo l r⟩
theorem V7.find {td:TypeDesc} (ht:∀ a b:κ,Instr.sameNow td (ek a) (ek b)=some (decide (a=b))) (k:κ):∀ {n es} {m:List (κ×α)} (i0:Nat),V7 ek agg E h n es m→
  (A4c m k=none∧Instr.findNow td (ek k) es i0=some none∧∀ y ds,E h ds y→V7 ek agg E h n (es++[⟨ek k,pk agg ds,n+es.length⟩]) (A2z m k y))∨
  (∃ x i cs b,A4c m k=some x∧Instr.findNow td (ek k) es i0=some (some (i0+i,pk agg cs))∧E h cs x∧es[i]?=some ⟨ek k,pk agg cs,b⟩∧
   ∀ y ds,E h ds y→V7 ek agg E h n (es.modify i λe=>{ e with key:=ek k,val:=pk agg ds }) (A2z m k y))
 | n,[],[],i0,_=>.inl ⟨rfl,rfl,λy ds hy=>⟨⟨ds,by simp,hy⟩,trivial⟩⟩
 | n,e::es,(k',x)::m,i0,⟨⟨cs,he,q⟩,r⟩=>by
  subst he
  have hk:=ht k k'
  by_cases hkk:k=k'
  ·subst hkk
   right
   refine ⟨x,0,cs,n,by simp [A4c],?_,q,rfl,λy ds hy=>?_⟩
   ·simp [Instr.findNow,hk]
   ·simp only [A2z,decide_true,cond_true]
    exact ⟨⟨ds,rfl,hy⟩,r⟩
  ·have hd:decide (k=k')=false:=by simp [hkk]
   rw [hd] at hk
   rcases V7.find ht k (i0+1) r with ⟨a,b,c⟩ | ⟨x',i,cs',b',a,b,c,d,f⟩
   ·left
    refine ⟨by simp [A4c,hd,a],by simp [Instr.findNow,hk,b],λy ds hy=>?_⟩
    simp only [A2z,hd,cond_false,List.cons_append]
    refine ⟨⟨cs,rfl,q⟩,?_⟩
    have:=c y ds hy
    have hl:n+(⟨ek k',pk agg cs,n⟩::es:List MapEntry).length=n+1+es.length:=by simp; omega
    rw [hl]; exact this
   ·right
    refine ⟨x',i+1,cs',b',by simp [A4c,hd,a],?_,c,by simpa using d,λy ds hy=>?_⟩
    ·simp only [Instr.findNow,hk,b]; congr 3; omega
    ·simp only [A2z,hd,cond_false]
     exact ⟨⟨cs,rfl,q⟩,f y ds hy⟩
omit [DecidableEq κ] in
def Mp (ek:κ→Value) (agg:Bool) (E:Vr α) (h:PH) (v:Value) (m:List (κ×α)):Prop:=∃ r es,v=.map (some r)∧h.m r=some (.map es.toArray es.length)∧V7 ek agg E h 0 es m
omit [DecidableEq κ] in
theorem Mp.mono {v:Value} {m:List (κ×α)} (mo:A1i E) (s:Mp ek agg E h v m) (l:Le h g):Mp ek agg E g v m:=let ⟨r,es,a,b,c⟩:=s; ⟨r,es,a,l.get _ _ b,c.mono mo l⟩
omit [DecidableEq κ] in
theorem Mp.one {v:Value} {m:List (κ×α)} (s:Mp ek agg E h v m):v.oneCell'=true:=by obtain ⟨r,es,rfl,_⟩:=s; rfl
omit [DecidableEq κ] in
theorem Mp.cells {v:Value} {m:List (κ×α)} (s:Mp ek agg E h v m):v.cells=[v].toArray:=by obtain ⟨r,es,rfl,_⟩:=s; rfl
def VMp (ek:κ→Value) (agg:Bool) (E:Vr α):Vr (List (κ×α)):=λh cs m=>∃ v,cs=[v]∧Mp ek agg E h v m
omit [DecidableEq κ] in
theorem VMp.mono (mo:A1i E):A1i (VMp (κ:=κ) ek agg E):=λ_ _ _ _ l ⟨v,e,s⟩=>⟨v,e,s.mono mo l⟩
omit [DecidableEq κ] in
theorem VMp.plain:Plain (VMp (κ:=κ) ek agg E):=λ_ _ _ ⟨v,e,s⟩=>by rw [e]; simp only [Sl.ones,s.one]; rfl
theorem V7.look {P:Program} {t kt el:TypeId} {td:TypeDesc} {es:List MapEntry} {m:List (κ×α)} {k:κ} {z x:α} {b:Bool} {zc:List Value} (ht:P.underlying t=some (.map kt el)) (q:A0t P kt td ek)
  (hz:zer P el=some (pk agg zc)) (ez:E h zc z) (s:V7 ek agg E h 0 es m) (hx:lkM m k z=some (x,b)) :
  ∃ cs,E h cs x∧∀ r c (w:World),w.heap[r]?=some (.map es.toArray c)→(Instr.lookup t (.map (some r)) (ek k) true).run P w=.ok (.tuple #[pk agg cs,.bool b]) w∧
   (Instr.lookup t (.map (some r)) (ek k) false).run P w=.ok (pk agg cs) w:=by
 have hf:=V7.find q.now k 0 s
 rcases hf with ⟨h1,h2,_⟩ | ⟨x',i,cs,b',h1,h2,h3,_⟩
 ·simp [lkM,h1] at hx
  obtain ⟨rfl,rfl⟩:=hx
  refine ⟨zc,ez,λr c w hb=>?_⟩
  have e1:=MapKept.run_getObj_map (P:=P) hb
  have e2:=run_checkKey (P:=P) (w:=w) q.und (q.key k) es.isEmpty 9999
  have e3:=run_findKey (P:=P) (w:=w) q.und h2
  have e4:=A9A (P:=P) hz w
  constructor <;> simp [Instr.lookup,run_underlying ht,e1,e2,e3,e4]
 ·simp [lkM,h1] at hx
  obtain ⟨rfl,rfl⟩:=hx
  refine ⟨cs,h3,λr c w hb=>?_⟩
  have e1:=MapKept.run_getObj_map (P:=P) hb
  have e2:=run_checkKey (P:=P) (w:=w) q.und (q.key k) es.isEmpty 9999
  have e3:=run_findKey (P:=P) (w:=w) q.und h2
  constructor <;> simp [Instr.lookup,run_underlying ht,e1,e2,e3]
def LkH (P:Program) (t:TypeId) (v key u u':Value) (h:PH):Prop:=∀ w,Le h (hp w)→(Instr.lookup t v key true).run P w=.ok u w∧(Instr.lookup t v key false).run P w=.ok u' w
def LkW (P:Program) (t:TypeId) (r:Nat) (es:Array MapEntry) (c:Nat) (key u u':Value):Prop:=∀ w:World,w.heap[r]?=some (.map es c)→(Instr.lookup t (.map (some r)) key true).run P w=.ok u w∧(Instr.lookup t (.map (some r)) key false).run P w=.ok u' w
theorem Mp.look {P:Program} {t kt el:TypeId} {td:TypeDesc} {v:Value} {m:List (κ×α)} {k:κ} {z x:α} {b:Bool} {zc:List Value} (ht:P.underlying t=some (.map kt el)) (q:A0t P kt td ek)
  (hz:zer P el=some (pk agg zc)) (ez:E h zc z) (s:Mp ek agg E h v m) (hx:lkM m k z=some (x,b)):∃ cs,LkH P t v (ek k) (.tuple #[pk agg cs,.bool b]) (pk agg cs) h∧E h cs x:=by
 obtain ⟨r,es,rfl,hb,s⟩:=s
 obtain ⟨cs,hc,k⟩:=s.look ht q hz ez hx
 exact ⟨cs,λw l=>k r _ w (l.get _ _ hb),hc⟩
theorem V7.lookO {P:Program} {t kt el:TypeId} {td:TypeDesc} {r:Nat} {es:List MapEntry} {m:List (κ×α)} {k:κ} {z x:α} {b:Bool} {zc:List Value} (ht:P.underlying t=some (.map kt el)) (q:A0t P kt td ek)
  (hz:zer P el=some (pk agg zc)) (ez:E h zc z) (s:V7 ek agg E h 0 es m) (hx:lkM m k z=some (x,b)):∃ cs,LkW P t r es.toArray es.length (ek k) (.tuple #[pk agg cs,.bool b]) (pk agg cs)∧E h cs x:=by
 obtain ⟨cs,hc,k⟩:=s.look ht q hz ez hx
 exact ⟨cs,λw l=>k r _ w l,hc⟩
end
section
variable {P:Program} {ρ:Env} {X:World→Prop} {d:Option Nat} {ty:TypeId} {pos:String} {af:Array Edge} {g:Option (Nat×Bool)} {h:PH} {L:List E5}
theorem V.lkF [HX X h] {x y:Operand} {t:TypeId} {v key u u':Value} (e:ev ρ x=some v) (e':ev ρ y=some key) (q:LkH P t v key u u' h):Val P X ρ ⟨d,.lookup t x y true,ty,pos,af,g⟩ u:=λa w i hs=>by
 simp [execOp,hs.ev e,hs.ev e',(q w (HX.le _ i)).1]
theorem V.D3V [HX X h] {x y:Operand} {t:TypeId} {v key u u':Value} (e:ev ρ x=some v) (e':ev ρ y=some key) (q:LkH P t v key u u' h):Val P X ρ ⟨d,.lookup t x y false,ty,pos,af,g⟩ u':=λa w i hs=>by
 simp [execOp,hs.ev e,hs.ev e',(q w (HX.le _ i)).2]
theorem V.lkO {x y:Operand} {t:TypeId} {key u u':Value} {r j c:Nat} {es:Array MapEntry} (e:ev ρ x=some (.map (some r))) (e':ev ρ y=some key) (hj:L[j]?=some (blk r (.map es c))) (q:LkW P t r es c key u u') :
  Val P (XI h L) ρ ⟨d,.lookup t x y true,ty,pos,af,g⟩ u:=λa w i hs=>by
 simp [execOp,hs.ev e,hs.ev e',(q w (Inv.own (show Inv w h L from i) hj)).1]
theorem V.D4m {x y:Operand} {t:TypeId} {key u u':Value} {r j c:Nat} {es:Array MapEntry} (e:ev ρ x=some (.map (some r))) (e':ev ρ y=some key) (hj:L[j]?=some (blk r (.map es c))) (q:LkW P t r es c key u u') :
  Val P (XI h L) ρ ⟨d,.lookup t x y false,ty,pos,af,g⟩ u':=λa w i hs=>by
 simp [execOp,hs.ev e,hs.ev e',(q w (Inv.own (show Inv w h L from i) hj)).2]
end
section
variable {ro:Option Nat} {P:Program} {n:Nat} {D:List Deferred} {ρ:Env} {h:PH} {L:List E5} {Q:Exit→Act→World→Prop} {K:Act→World→Prop}
variable {ty:TypeId} {pos:String} {af:Array Edge} {g:Option (Nat×Bool)}
theorem O.mkM {dd:Nat} {t:TypeId} (hd:Nat.blt dd n=true)
  (kk:∀ b,T n D ((dd,.map (some b))::ρ) h (blk b (.map [].toArray 0)::L) K) :
  T n D ρ h L (λa w=>Oper.wr ⟨some dd,.makeMap t none,ty,pos,af,g⟩ ro P a w K Q):=λa w f i=>by
 have:(execOp a.eval ⟨some dd,.makeMap t none,ty,pos,af,g⟩).run P w=.ok (.value (.map (some w.heap.size))) (w.alloc (.map #[] 0)):=by
  simp [execOp,Instr.makeMap]
 exact A0j this (kk _ _ _ (f.put hd) (i.alloc _))
theorem O.B0n {κ α:Type} [DecidableEq κ] {ek:κ→Value} {agg:Bool} {E:Vr α} {kt el:TypeId} {td:TypeDesc} {m:List (κ×α)} {k:κ} {y:α} {cs:List Value} {x yk yv:Operand} {t:TypeId} {r j:Nat} {es:List MapEntry} (ht:P.underlying t=some (.map kt el)) (q:A0t P kt td ek)
  (e:ev ρ x=some (.map (some r))) (e':ev ρ yk=some (ek k)) (e2:ev ρ yv=some (pk agg cs)) (hj:L[j]?=some (blk r (.map es.toArray es.length))) (s:V7 ek agg E h 0 es m) (hy:E h cs y) (op:Op)
  (hop:op=.mapUpdate t x yk yv∨op=.insert t x yk yv)
  (kk:∀ es',V7 ek agg E h 0 es' (A2z m k y)→T n D ρ h (blk r (.map es'.toArray es'.length)::L.eraseIdx j) K) :
  T n D ρ h L (λa w=>Oper.wr ⟨none,op,ty,pos,af,g⟩ ro P a w K Q):=λa w f i=>by
 have hb:=i.own hj
 have e1:=MapKept.run_getObj_map (P:=P) hb
 have e3:=run_checkKey (P:=P) (w:=w) q.und (q.key k) false 9999
 have main:∃ es',V7 ek agg E h 0 es' (A2z m k y)∧(Instr.mapUpdate t (.map (some r)) (ek k) (pk agg cs)).run P w=.ok () { w with heap:=w.heap.setIfInBounds r (.map es'.toArray es'.length) }:=by
  rcases V7.find q.now k 0 s with ⟨h1,h2,h3⟩ | ⟨x',i',cs',b',h1,h2,h3,h4,h5⟩
  ·have e4:=run_findKey (P:=P) (w:=w) q.und h2
   have e5:=MapKept.run_setObj_map (P:=P) (.map (es++[(⟨ek k,pk agg cs,0+es.length⟩:MapEntry)]).toArray (es++[(⟨ek k,pk agg cs,0+es.length⟩:MapEntry)]).length) hb
   refine ⟨_,h3 y cs hy,?_⟩
   simp [Instr.mapUpdate,run_underlying ht,e1,e3,e4]
   simpa using e5
  ·have e4:=run_findKey (P:=P) (w:=w) q.und h2
   have e5:=MapKept.run_setObj_map (P:=P) (.map (es.modify i' λe=>{ e with key:=ek k,val:=pk agg cs }).toArray (es.modify i' λe=>{ e with key:=ek k,val:=pk agg cs }).length) hb
   have e6:(Instr.keyThatStays (ek k) (ek k)).run P w=.ok (ek k) w:=run_keyThatStays (q.key k)
   refine ⟨_,h5 y cs hy,?_⟩
   simp [Instr.mapUpdate,run_underlying ht,e1,e3,e4,h4,e6]
   simpa using e5
 obtain ⟨es',hm,hr⟩:=main
 have hrun:(execOp a.eval ⟨none,op,ty,pos,af,g⟩).run P w=.ok .skip { w with heap:=w.heap.setIfInBounds r (.map es'.toArray es'.length) }:=by
  rcases hop with rfl | rfl <;> simp [execOp,f.has.ev e,f.has.ev e',f.has.ev e2,hr]
 obtain ⟨s1,s2⟩:=heap_set (o':=Obj.map es'.toArray es'.length) hb
 exact B3z hrun (kk es' hm _ _ f ((i.front hj).set s1 s2 rfl rfl rfl))
theorem T.C6d {κ α:Type} {ek:κ→Value} {agg:Bool} {E:Vr α} {m:List (κ×α)} {r:Nat} {es:List MapEntry} {Y:Act→World→Prop} (mo:A1i E) (s:V7 ek agg E h 0 es m)
  (k:∀ h',Le h h'→Mp ek agg E h' (.map (some r)) m→T n D ρ h' L Y):T n D ρ h (blk r (.map es.toArray es.length)::L) Y:=
 T.freeze λh' l e=>k h' l ⟨r,es,rfl,e,s.mono mo l⟩
end
end Go.Sl
namespace Go.Sl
open Go
def fnV:Nat→Value
 | 0=>.nilFunc
 | n+1=>.func (.func n) #[] #[]
theorem C7L {n:Nat}:(fnV n).oneCell'=true:=by cases n <;> rfl
def VFn:Vr Nat:=λ_ cs n=>cs=[fnV n]
theorem VFn.mono:A1i VFn:=λ_ _ _ _ _ e=>e
end Go.Sl
namespace Go.Sl
open Go
def B9t (a b:ByteArray):Int:=Lib.compareBytes a.data.toList b.data.toList
section
variable {P:Program} {ρ:Env} {X:World→Prop} {d:Option Nat} {ty:TypeId} {pos:String} {af:Array Edge} {g:Option (Nat×Bool)}
theorem V.D5d {x y : Operand} {ts : Array TypeId} {f : FuncId} {fn : Func} {a b : ByteArray} (hf : P.funcs[f]? = some fn) (h1 : (fn.name == "runtime.NumGoroutine") = false) (h2 : fn.body.isNone = true) (hn : Extern.findNext fn = none)
  (he:Extern.find fn=some Extern.BytealgCompare.compare) (e:ev ρ x=some (.string a)) (e':ev ρ y=some (.string b)) :
  Val P X ρ ⟨d,.call ⟨.value (.func f),#[x,y],ts⟩,ty,pos,af,g⟩ (.int .i64 (B9t a b)):=λac w _ hs=>by
 have hr:=Lib.run_compareString (P:=P) a b w
 have q1:=hs.ev e
 have q2:=hs.ev e'
 have hc:=run_callFunc_extern (P:=P) hf h1 h2 hn he #[.string a,.string b] w
 have:(execOp ac.eval ⟨d,.call ⟨.value (.func f),#[x,y],ts⟩,ty,pos,af,g⟩).run P w=(callFunc f #[ac.eval x,ac.eval y]).run P w:=by
  simp [execOp,resolve,Act.eval,Deferred.ofValue,invoke]
 rw [this,q1,q2,hc]
 simp [hr,B9t]
end
end Go.Sl
namespace Go.Sl
open Go
def minS (a b:ByteArray):ByteArray:=bif sLt a b || decide (a=b) then a else b
def maxS (a b:ByteArray):ByteArray:=bif !sLt a b then a else b
section
variable {P:Program} {ρ:Env} {X:World→Prop} {d:Option Nat} {ty:TypeId} {pos:String} {af:Array Edge} {g:Option (Nat×Bool)}
theorem V.minS {x y:Operand} {b c:ByteArray} {ts:Array TypeId} (e:ev ρ x=some (.string b)) (e':ev ρ y=some (.string c)) :
  Val P X ρ ⟨d,.call ⟨.builtin .min,#[x,y],ts⟩,ty,pos,af,g⟩ (.string (Sl.minS b c)):=λa w _ hs=>by
 have h1:Sl.minS b c=if (Op.bytesLess b.toList c.toList || b.toList == c.toList)=true then b else c:=by
  simp only [Sl.minS,sLt,toList_eq]
  cases (Op.bytesLess b.toList c.toList || decide (b=c)) <;> rfl
 simp [execOp,resolve,invoke,builtin,Builtin.min_,Builtin.min2,hs.ev e,hs.ev e',Op.stringOp,asBool,h1]
theorem V.maxS {x y:Operand} {b c:ByteArray} {ts:Array TypeId} (e:ev ρ x=some (.string b)) (e':ev ρ y=some (.string c)) :
  Val P X ρ ⟨d,.call ⟨.builtin .max,#[x,y],ts⟩,ty,pos,af,g⟩ (.string (Sl.maxS b c)):=λa w _ hs=>by
 have h1:Sl.maxS b c=if (!Op.bytesLess b.toList c.toList)=true then b else c:=by
  simp only [Sl.maxS,sLt]
  cases (Op.bytesLess b.toList c.toList) <;> rfl
 simp [execOp,resolve,invoke,builtin,Builtin.max_,Builtin.max2,hs.ev e,hs.ev e',Op.stringOp,asBool,h1]
end
end Go.Sl
namespace Go.Sl
open Go
theorem sep.swap {A B:E5} {L:List E5} {m:B9E} (s:sep (A::B::L) m):sep (B::A::L) m:=s.front (i:=1) rfl
theorem sep.perm {L L':List E5} (p:L.Perm L'):∀ {m:B9E},sep L m→sep L' m:=by
 induction p with
 | nil=>exact λs=>s
 | cons A _ ih=>rintro m ⟨m1,m2,d,l1,l2,a,s⟩; exact ⟨m1,m2,d,l1,l2,a,ih s⟩
 | swap A B L=>exact λs=>sep.swap s
 | trans _ _ i1 i2=>exact λs=>i2 (i1 s)
theorem Inv.perm {w:World} {h:PH} {L L':List E5} (p:L.Perm L') (i:Inv w h L):Inv w h L':=by
 obtain ⟨m,a,l,d,s⟩:=i; exact ⟨m,a,l,d,s.perm p⟩
theorem I7.perm {P:Program} {f:FuncId} {args:List Value} {h:PH} {L M:List E5} {R R':Value→PH→List E5→Prop} (p:L.Perm M) (s:I7 P f args h L R)
  (k:∀ v h' L',R v h' L'→∃ M',L'.Perm M'∧R' v h' M'):I7 P f args h M R':=by
 refine ⟨s.1,λw i=>(s.2 w (i.perm p.symm)).mono ?_⟩
 rintro e w' ⟨v,h',L',rfl,l,i',r⟩
 obtain ⟨M',q,r'⟩:=k v h' L' r
 exact ⟨v,h',M',rfl,l,i'.perm q,r'⟩
theorem C4K {A:E5} {As L:List E5}:(A::(As++L)).Perm (As++([A]++L)):=by
 induction As with
 | nil=>exact List.Perm.refl _
 | cons B As ih=>exact (List.Perm.swap B A (As++L)).trans (ih.cons B)
theorem Yld.one {P:Program} {f:FuncId} {us vs cs:List Value} {h:PH} {A A':E5} {u:Value} (s:∀ L,I7 P f (us++vs++cs) h (A::L) λv _ L'=>v=u∧L'=A'::L) (As L:List E5) :
  Yld P (.func (.func f) us.toArray cs.toArray) vs h (As++([A]++L)) λv _ L'=>∃ La,v=u∧L'=As++(La++L)∧La=[A']:=
 Yld.fn (I7.perm C4K (s (As++L)) λ_ _ _ e=>⟨_,e.2 ▸ C4K,_,e.1,rfl,rfl⟩)
end Go.Sl
namespace Go.Sl
open Go
def D3a (P:Program) (s f:Nat):Option (Nat×TypeId):=
 match P.underlying s with
 | some (.struct fs)=>match fs[f]? with
  | some x=>some (x.offset,x.type)
  | none=>none
 | _=>none
section
variable {ro:Option Nat} {P:Program} {n:Nat} {D:List Deferred} {ρ:Env} {h:PH} {L:List E5} {Q:Exit→Act→World→Prop} {K:Act→World→Prop}
variable {X:World→Prop} {d:Option Nat} {ty:TypeId} {pos:String} {af:Array Edge} {g:Option (Nat×Bool)}
theorem V.fld {x:Operand} {s f off t m:Nat} {cs:List Value} {v:Value} (hf:D3a P s f=some (off,t)) (ht:U1 P t=some (false,m)) (e:ev ρ x=some (.agg cs.toArray)) (hk:cs[off]?=some v) :
  Val P X ρ ⟨d,.field s x f,ty,pos,af,g⟩ v:=λa w _ hs=>by
 unfold D3a at hf
 split at hf
 ·rename_i fs hu
  split at hf
  ·rename_i fd hfd
   cases hf
   simp [execOp,hs.ev e,Instr.field,run_underlying hu,hfd,asAgg,part,B4h ht,hk]
  ·cases hf
 ·cases hf
theorem Yld.perm {y:Value} {vs:List Value} {M:List E5} {R R':Value→PH→List E5→Prop} (p:L.Perm M) (s:Yld P y vs h L R)
  (k:∀ v h' L',R v h' L'→∃ M',L'.Perm M'∧R' v h' M'):Yld P y vs h M R':=by
 intro ro d x xs ts ty pos af g a w K Q e0 e1 i kk
 refine s ro d x xs ts ty pos af g a w K Q e0 e1 (i.perm p.symm) λv h' L' w' l i' r=>?_
 obtain ⟨M',q,r'⟩:=k v h' L' r
 exact kk v h' M' w' l (i'.perm q) r'
theorem Yld.front {y:Value} {vs:List Value} {As La:List E5} {u:Value} {R:PH→List E5→Prop}
  (s:∀ X,Yld P y vs h (La++X) λv h' L'=>∃ La',v=u∧L'=La'++X∧R h' La') :
  Yld P y vs h (As++(La++L)) λv h' L'=>∃ La',v=u∧L'=As++(La'++L)∧R h' La':=by
 have q:∀ La:List E5,(La++(As++L)).Perm (As++(La++L)):=λLa=>by
  rw [←List.append_assoc,←List.append_assoc]; exact List.Perm.append_right L List.perm_append_comm
 refine Yld.perm (q La) (s (As++L)) ?_
 rintro v h' _ ⟨La',rfl,rfl,r⟩
 exact ⟨_,q La',La',rfl,rfl,r⟩
def RYs {S O:Type} (n:Nat) (ρ:Env) (ps:Array Tmp) (assign body:Code) (l:Nat) (run:S→PH→List E5→Prop) (out:O→Code→PH→List E5→Prop):S⊕O→PH→List E5→Prop
 | .inl s,h,La=>∃ r L1,La=blk l (.loop r)::L1∧C3i r n ρ ps assign body∧r.state=.ready∧r.pending=none∧run s h L1
 | .inr o,h,La=>∃ r c L1,La=blk l (.loop r)::L1∧r.state=.done∧r.pending=some c∧out o c h L1
theorem RYs.mono {S O:Type} {n:Nat} {ρ:Env} {ps:Array Tmp} {assign body:Code} {l:Nat} {run:S→PH→List E5→Prop} {out:O→Code→PH→List E5→Prop}
  (mr:∀ s h h' L,Le h h'→run s h L→run s h' L) (mo:∀ s c h h' L,Le h h'→out s c h L→out s c h' L) :
  ∀ s h h' La,Le h h'→RYs n ρ ps assign body l run out s h La→RYs n ρ ps assign body l run out s h' La
 | .inl s,h,h',La,le,⟨r,L1,e,i,a,b,c⟩=>⟨r,L1,e,i,a,b,mr s h h' L1 le c⟩
 | .inr o,h,h',La,le,⟨r,c,L1,e,a,b,q⟩=>⟨r,c,L1,e,a,b,mo o c h h' L1 le q⟩
theorem T.B3S {S O:Type} {x:Operand} {ps:Array Tmp} {assign body:Code} {gf:FuncId} {lb:List Value} (run:S→PH→List E5→Prop) (out:O→Code→PH→List E5→Prop) {s0:S} {o:S⊕O} {La0 Lr:List E5}
  (e:ev ρ x=some (.func (.func gf) #[] lb.toArray)) (hL:L=La0++Lr) (h0:run s0 h La0) (C:(S⊕O→PH→List E5→Prop)→Value→Prop) (hC:∀ l,C (RYs n ρ ps assign body l run out) (.func (.yield l) #[] #[]))
  (call:∀ l La,C (RYs n ρ ps assign body l run out) (.func (.yield l) #[] #[])→RYs n ρ ps assign body l run out (.inl s0) h La→∀ X,I7 P gf ([.func (.yield l) #[] #[]]++lb) h (La++X) λ_ h' L'=>∃ La',L'=La'++X∧RYs n ρ ps assign body l run out o h' La')
  (kn:∀ b h' L1 s,Le h h'→o=.inl s→run s h' L1→T n (mark b::D) ρ h' (blk b (.deferred (some []))::(L1++Lr)) (Q .normal))
  (ks:∀ b h' L1 u c,Le h h'→o=.inr u→out u c h' L1→T n (mark b::D) ρ h' (blk b (.deferred (some []))::(L1++Lr)) (c.wr none P Q)) :
  T n D ρ h L ((Code.rangeFunc x ps assign body).wr none P Q):=by
 refine T.rangeFunc (λh' L1=>∃ L2 s,L1=L2++Lr∧o=.inl s∧run s h' L2) (λc h' L1=>∃ L2 u,L1=L2++Lr∧o=.inr u∧out u c h' L2) e ?_ ?_ ?_
 ·intro l b r hr h1 h2
  have s:=call l (blk l (.loop r)::La0) (hC l) ⟨r,La0,rfl,hr,h1,h2,h0⟩ (blk b (.deferred (some []))::Lr)
  subst hL
  have q:∀ (A B:E5) (L2:List E5),(A::L2++(B::Lr)).Perm (A::B::(L2++Lr)):=λA B L2=>by
   rw [List.cons_append]; exact List.Perm.cons A (List.perm_middle)
  refine I7.perm (q _ _ _) s ?_
  rintro v h' L' ⟨La',rfl,hR⟩
  rcases o with s' | u
  ·obtain ⟨r',L1,rfl,i,a,b',c⟩:=hR
   exact ⟨_,q _ _ _,r',L1++Lr,rfl,(by rw [a]; exact λx=>LoopState.noConfusion x),.inl ⟨b',L1,s',rfl,rfl,c⟩⟩
  ·obtain ⟨r',c,L1,rfl,a,b',q'⟩:=hR
   exact ⟨_,q _ _ _,r',L1++Lr,rfl,(by rw [a]; exact λx=>LoopState.noConfusion x),.inr ⟨c,b',L1,u,rfl,rfl,q'⟩⟩
 ·rintro b h' L1 le ⟨L2,s,rfl,ho,hr⟩; exact kn b h' L2 s le ho hr
 ·rintro b c h' L1 le ⟨L2,u,rfl,ho,hr⟩; exact ks b h' L2 u c le ho hr
theorem Calm.no:Calm (λ_ _ _=>False):=λ_ _ _ _ _ q=>q
theorem Calm.rx {l:Nat} {R:Value→PH→List E5→Prop}:Calm (RX P l h R):=λ_ _ _ _ _ q=>q.elim
end
end Go.Sl
namespace Go.Sl
open Go
theorem Inv.B0u {w:World} {h:PH} {A:E5} {L:List E5} (i:Inv w h (A::L)) :
  ∃ m1 h1,A m1∧FLe m1 h1.m∧Le h h1∧Inv w h1 L∧∀ w' h' L',Le h1 h'→Inv w' h' L'→Inv w' h (A::L'):=by
 obtain ⟨m,a,l,d,m1,m2,d',l1,l2,ha,s⟩:=i
 have f1:FLe m1 (hp w).m:=l1.trans l
 refine ⟨m1,{ h with m:=λb=>(h.m b).or (m1 b) },ha,?_,⟨?_,rfl,rfl,rfl⟩,⟨m2,⟨?_,a.os,a.tape,a.output⟩,l2.trans l,?_,s⟩,?_⟩
 ·intro b o e
  show (h.m b).or (m1 b)=some o
  rcases d b with z | z
  ·rw [z]; simpa using e
  ·rw [l1 b o e] at z; cases z
 ·intro b o e
  show (h.m b).or (m1 b)=some o
  rw [e]; rfl
 ·intro b o e
  have e':(h.m b).or (m1 b)=some o:=e
  cases hb:h.m b with
  | some y=>rw [hb] at e'; cases e'; exact a.get b _ hb
  | none=>rw [hb] at e'; exact f1 b o (by simpa using e')
 ·intro b
  show (h.m b).or (m1 b)=none∨m2 b=none
  rcases d' b with z | z
  ·rcases d b with y | y
   ·left; rw [y,z]; rfl
   ·right
    cases hm:m2 b with
    | none=>rfl
    | some o=>rw [l2 b o hm] at y; cases y
  ·exact .inr z
 ·rintro w' h' L' le ⟨m',a',l',dj,s'⟩
  have g1:FLe m1 h'.m:=by
   intro b o e
   apply le.get
   show (h.m b).or (m1 b)=some o
   rcases d b with z | z
   ·rw [z]; simpa using e
   ·rw [l1 b o e] at z; cases z
  have dm:Dj m1 m':=by
   intro b
   rcases dj b with z | z
   ·left
    cases hm:m1 b with
    | none=>rfl
    | some o=>rw [g1 b o hm] at z; cases z
   ·exact .inr z
  refine ⟨λb=>(m1 b).or (m' b),⟨?_,a'.os.trans (le.os.trans rfl),a'.tape.trans (le.tape.trans rfl),a'.output.trans (le.output.trans rfl)⟩,?_,?_,m1,m',dm,?_,?_,ha,s'⟩
  ·intro b o e
   apply a'.get; apply le.get
   show (h.m b).or (m1 b)=some o
   rw [e]; rfl
  ·intro b o e
   cases hm:m1 b with
   | some y=>simp [hm] at e; subst e; exact a'.get _ _ (g1 b _ hm)
   | none=>simp [hm] at e; exact l' b o e
  ·intro b
   show h.m b=none∨(m1 b).or (m' b)=none
   rcases d b with z | z
   ·exact .inl z
   ·have hm1:m1 b=none:=by
     cases hm:m1 b with
     | none=>rfl
     | some y=>rw [l1 b y hm] at z; cases z
    cases hb:h.m b with
    | none=>exact .inl rfl
    | some y=>
     right
     rw [hm1]
     rcases dj b with q | q
     ·have:h'.m b=some y:=le.get b y (by show (h.m b).or (m1 b)=some y; rw [hb]; rfl)
      rw [this] at q; cases q
     ·simpa using q
  ·intro b o e; simp [e]
  ·intro b o e
   rcases dm b with z | z
   ·simp [z,e]
   ·rw [e] at z; cases z
theorem I7.B0u {P:Program} {f:FuncId} {fn:Func} {args:List Value} {h:PH} {A:E5} {L:List E5} {R:Value→PH→List E5→Prop} {F:PH→Prop} (hf:P.funcs[f]?=some fn)
  (hn : (fn.name == "runtime.NumGoroutine" || fn.body.isNone) = false) (hR : ∀ v h1 h2 L',R v h1 L'→R v h2 L') (hF : ∀ m h',A m→FLe m h'.m→F h')
  (k:∀ h1,Le h h1→F h1→I7 P f args h1 L R):I7 P f args h (A::L) λv h' L'=>∃ L1,L'=A::L1∧R v h' L1:=by
 refine ⟨by simp [hf,hn],λw i=>?_⟩
 obtain ⟨m1,h1,ha,f1,le,i1,back⟩:=i.B0u
 refine ((k h1 le (hF m1 h1 ha f1)).2 w i1).mono ?_
 rintro e w' ⟨v,h',L',rfl,le',i',r⟩
 exact ⟨_,h,_,rfl,Le.refl h,back w' h' L' le' i',L',rfl,hR _ _ _ _ r⟩
def D2n {α:Type} (E:Vr α):Prop:=∀ h g cs x,E h cs x→E g cs x
theorem VI.free {k:IntKind}:D2n (VI k):=λ_ _ _ _ e=>e
theorem A8.free {α:Type} {E:Vr α} (m:D2n E) {h g:PH}:∀ {css:List (List Value)} {xs:List α},A8 E h css xs→A8 E g css xs:=by
 intro css xs r; exact ⟨r.len,λi x e=>by obtain ⟨c,a,b⟩:=r.at_ i x e; exact ⟨c,a,m _ _ _ _ b⟩⟩
theorem V7.free {κ α:Type} {ek:κ→Value} {agg:Bool} {E:Vr α} (mo:D2n E) {h g:PH}:∀ {n:Nat} {es:List MapEntry} {m:List (κ×α)},V7 ek agg E h n es m→V7 ek agg E g n es m
 | _,[],[],_=>trivial
 | _,_::_,(_,_)::_,⟨⟨cs,e,q⟩,r⟩=>⟨⟨cs,e,mo _ _ _ _ q⟩,V7.free mo r⟩
theorem Yld.B6c {γ:Type} {P:Program} {h:PH} {L:List E5} {y:Value} {vs:List Value} {As La:List E5} {A:E5} {B:γ→E5} {u:Value} {R:PH→List E5→Prop} {G:PH→γ→Prop}
  (s:∀ X,Yld P y vs h (La++(A::X)) λv h' L'=>∃ La' ls,v=u∧L'=La'++(B ls::X)∧R h' La'∧G h' ls) :
  Yld P y vs h (A::(As++(La++L))) λv h' L'=>∃ La' ls,v=u∧L'=B ls::(As++(La'++L))∧R h' La'∧G h' ls:=by
 have q:∀ (A:E5) (La:List E5),(La++(A::(As++L))).Perm (A::(As++(La++L))):=λA La=>by
  refine List.perm_middle.trans (List.Perm.cons A ?_)
  rw [←List.append_assoc,←List.append_assoc]; exact List.Perm.append_right L List.perm_append_comm
 refine Yld.perm (q A La) (s (As++L)) ?_
 rintro v h' _ ⟨La',ls,rfl,rfl,r,g⟩
 exact ⟨_,q (B ls) La',La',ls,rfl,rfl,r,g⟩
end Go.Sl
