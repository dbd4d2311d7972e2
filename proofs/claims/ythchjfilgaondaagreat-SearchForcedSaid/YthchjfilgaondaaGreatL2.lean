import Derived.Test.YthchjfilgaondaaGreatL1
import Derived.Laws.Closers25b
/- Rules. -/
set_option maxRecDepth 1000000
set_option maxHeartbeats 40000000
set_option linter.unusedVariables false
set_option linter.unusedSimpArgs false
set_option linter.unusedSectionVars false
set_option linter.unnecessarySimpa false
namespace Go.Sl
open Go
section ops
variable {ro:Option Nat} {P:Program} {n:Nat} {D:List Deferred} {ρ:Env} {h:PH} {L:List E5} {Q:Exit→Act→World→Prop}
variable {ops:Array Oper} {rest:List Oper} {X:World→Prop} {K:Act→World→Prop} {d:Option Nat} {ty:TypeId} {pos:String} {af:Array Edge} {g:Option (Nat×Bool)}
theorem V.min2 {x y:Operand} {k:IntKind} {b c:Int} {ts:Array TypeId} (e:ev ρ x=some (.int k b)) (e':ev ρ y=some (.int k c)) :
  Val P X ρ ⟨d,.call ⟨.builtin .min,#[x,y],ts⟩,ty,pos,af,g⟩ (.int k (min b c)):=λa w _ hs=>by
 have:(if c<b then c else b)=min b c:=by split <;> omega
 simp [execOp,resolve,invoke,builtin,Builtin.min_,Builtin.min2,hs.ev e,hs.ev e',this]
theorem V.max2 {x y:Operand} {k:IntKind} {b c:Int} {ts:Array TypeId} (e:ev ρ x=some (.int k b)) (e':ev ρ y=some (.int k c)) :
  Val P X ρ ⟨d,.call ⟨.builtin .max,#[x,y],ts⟩,ty,pos,af,g⟩ (.int k (max b c)):=λa w _ hs=>by
 have:(if b<c then c else b)=max b c:=by split <;> omega
 simp [execOp,resolve,invoke,builtin,Builtin.max_,Builtin.max2,hs.ev e,hs.ev e',this]
theorem toList_eq (s t:ByteArray):(s.toList == t.toList)=decide (s=t):=by
 rw [Bool.eq_iff_iff]
 simp only [beq_iff_eq,decide_eq_true_eq,ByteArray.toList_eq]
 constructor
 ·intro e; exact ByteArray.ext (Array.toList_inj.1 e)
 ·rintro rfl; rfl
theorem V.seq {x y:Operand} {b c:ByteArray} {t u:TypeId} (e:ev ρ x=some (.string b)) (e':ev ρ y=some (.string c)) :
  Val P X ρ ⟨d,.binOp .eql t x y u,ty,pos,af,g⟩ (.bool (decide (b=c))):=λa w _ hs=>by
 simp [execOp,hs.ev e,hs.ev e',eqGuard,binOp,Op.stringOp,toList_eq]
theorem V.sne {x y:Operand} {b c:ByteArray} {t u:TypeId} (e:ev ρ x=some (.string b)) (e':ev ρ y=some (.string c)) :
  Val P X ρ ⟨d,.binOp .neq t x y u,ty,pos,af,g⟩ (.bool (!decide (b=c))):=λa w _ hs=>by
 simp [execOp,hs.ev e,hs.ev e',eqGuard,binOp,Op.stringOp,toList_eq]
def sLt (a b:ByteArray):Bool:=Op.bytesLess a.toList b.toList
theorem V.slt {x y:Operand} {b c:ByteArray} {t u:TypeId} (e:ev ρ x=some (.string b)) (e':ev ρ y=some (.string c)) :
  Val P X ρ ⟨d,.binOp .lss t x y u,ty,pos,af,g⟩ (.bool (sLt b c)):=λa w _ hs=>by
 simp [execOp,hs.ev e,hs.ev e',eqGuard,binOp,Op.stringOp,sLt]
theorem V.sge {x y:Operand} {b c:ByteArray} {t u:TypeId} (e:ev ρ x=some (.string b)) (e':ev ρ y=some (.string c)) :
  Val P X ρ ⟨d,.binOp .geq t x y u,ty,pos,af,g⟩ (.bool (!sLt b c)):=λa w _ hs=>by
 simp [execOp,hs.ev e,hs.ev e',eqGuard,binOp,Op.stringOp,sLt]
theorem C1S {t:TypeId} {b c:Bool} (ht:P.underlying t=some .bool) (w:World):(Op.equal t (.bool b) (.bool c)).run P w=.ok (b == c) w:=by
 have key:∀ k,(Op.equalIn (k+1) t (.bool b) (.bool c)).run P w=.ok (b == c) w:=λk=>by
  simp only [Op.equalIn,Sem.run_bind,run_underlying ht,Result.andThen_ok,Sem.run_pure]
 exact key 9999
theorem V.bne {x y:Operand} {b c:Bool} {t u:TypeId} (ht:P.underlying t=some .bool) (e:ev ρ x=some (.bool b)) (e':ev ρ y=some (.bool c)) :
  Val P X ρ ⟨d,.binOp .neq t x y u,ty,pos,af,g⟩ (.bool (!(b == c))):=λa w _ hs=>by
 have h1:=hs.ev e; have h2:=hs.ev e'
 have h3:(binOp .neq t (.bool b) (.bool c)).run P w=.ok (.bool (!(b == c))) w:=by
  simp only [binOp,Sem.run_bind,C1S ht,Result.andThen_ok,Sem.run_pure]
 have h4:(eqGuard .neq t x y (.bool b) (.bool c)).run P w=.ok () w:=by simp [eqGuard]
 simp only [execOp,h1,h2,Sem.run_bind,h4,h3,Result.andThen_ok,Sem.run_pure]
theorem V.conv {x:Operand} {s t:TypeId} {k k':IntKind} {b:Int} (hs':P.underlying s=some (.int k)) (ht:P.underlying t=some (.int k')) (e:ev ρ x=some (.int k b)) (hw:k'.wrap b=b) :
  Val P X ρ ⟨d,.convert s t x,ty,pos,af,g⟩ (.int k' b):=λa w _ hs=>by
 simp [execOp,hs.ev e,convert,run_underlying hs',run_underlying ht,Conv.intToInt,hw]
theorem V.ldO {x:Operand} {t m k b:Nat} {cs:List Value} {el:TypeId} {fr:Nat×Nat} {v:Value} {j:Nat} (ht:U1 P t=some (false,m)) (e:ev ρ x=some (.pointer (some ((⟨b,0,none⟩:Addr).add k))))
  (hj:L[j]?=some (blk b (.cells cs.toArray el fr))) (hk:cs[k]?=some v):Val P (XI h L) ρ ⟨d,.load t x,ty,pos,af,g⟩ v:=λa w i hs=>by
 have hb:=Inv.own (show Inv w h L from i) hj
 have:w.cell? ((⟨b,0,none⟩:Addr).add k)=some v:=by
  rw [A0W _ _ rfl]
  simp [World.cell?,hb,hk]
 simp [execOp,hs.ev e,Instr.loadAt,Instr.sureAddr,A9t ht this]
theorem V.A4V {x:Operand} {t m b:Nat} {cs:List Value} {el:TypeId} {fr:Nat×Nat} {v:Value} {j:Nat} (ht:U1 P t=some (false,m)) (e:ev ρ x=some (.pointer (some ⟨b,0,none⟩)))
  (hj:L[j]?=some (blk b (.cells cs.toArray el fr))) (hk:cs[0]?=some v):Val P (XI h L) ρ ⟨d,.load t x,ty,pos,af,g⟩ v:=
 V.ldO (k:=0) ht e hj hk
theorem V.A5r {x:Operand} {t b:Nat} {cs:List Value} {el:TypeId} {fr:Nat×Nat} {j:Nat} (ht:U1 P t=some (true,cs.length)) (e:ev ρ x=some (.pointer (some ⟨b,0,none⟩)))
  (hj:L[j]?=some (blk b (.cells cs.toArray el fr))):Val P (XI h L) ρ ⟨d,.load t x,ty,pos,af,g⟩ (.agg cs.toArray):=λa w i hs=>by
 have hb:=Inv.own (show Inv w h L from i) hj
 have:∀ k v,cs[k]?=some v→w.cell? ((⟨b,0,none⟩:Addr).add k)=some v:=λk v hk=>by
  rw [A0W _ _ rfl]
  simp [World.cell?,hb,hk]
 simp [execOp,hs.ev e,Instr.loadAt,Instr.sureAddr,A6e ht this]
def over (cs vs:List Value) (k:Nat):List Value:=cs.take k++vs++cs.drop (k+vs.length)
theorem B2G (w:World) (a:Addr) (v:Value) (x:Nat) (h:x≠a.block):(w.setCell a v).heap[x]?=w.heap[x]?:=by
 simp only [World.setCell,Array.getElem?_modify]
 rw [if_neg (by omega)]
theorem C4c (w:World) (b k:Nat) (cs:List Value) (el:TypeId) (v:Value) (hb:w.heap[b]?=some (.cells cs.toArray el)) :
  (w.setCell ⟨b,k,none⟩ v).heap[b]?=some (.cells (cs.set k v).toArray el):=by
 simp [World.setCell,Array.getElem?_modify,hb]
theorem B3x {b:Nat} {el:TypeId}:∀ (vs:List Value) (i:Nat) (cs:List Value) (w:World) (k:Nat),
  (∀ v∈vs,v.oneCell'=true)→w.heap[b]?=some (.cells cs.toArray el)→k+i+vs.length≤cs.length→
  ∃ w',(storeCells ⟨b,k,none⟩ vs i).run P w=.ok () w'∧w'.heap[b]?=some (.cells (over cs vs (k+i)).toArray el)∧(∀ x,x≠b→w'.heap[x]?=w.heap[x]?)∧w'.os=w.os∧w'.tape=w.tape∧w'.output=w.output:=by
 intro vs
 induction vs with
 | nil=>intro i cs w k _ hb _; exact ⟨w,by simp [storeCells],by simp [over,hb],λ_ _=>rfl,rfl,rfl,rfl⟩
 | cons v vs ih=>
  intro i cs w k h1 hb hl
  simp only [List.length_cons] at hl
  have e1:((⟨b,k,none⟩:Addr).add i)=⟨b,k+i,none⟩:=A0W _ _ rfl
  have hcell:w.cell? ⟨b,k+i,none⟩=some (cs[k+i]'(by omega)):=by simp [World.cell?,hb]
  have hfr:w.frozen? ⟨b,k+i,none⟩=false:=by simp [World.frozen?,hb]
  have hs:=C4c w b (k+i) cs el v hb
  obtain ⟨w',r1,r2,r3,r4,r5,r6⟩:=ih (i+1) (cs.set (k+i) v) (w.setCell ⟨b,k+i,none⟩ v) k (λu hu=>h1 u (List.mem_cons_of_mem _ hu)) hs (by simp; omega)
  refine ⟨w',?_,?_,λx hx=>(r3 x hx).trans (B2G w _ v x hx),r4,r5,r6⟩
  ·simp only [storeCells,e1,Sem.run_bind,run_store P w _ v .plain (h1 v List.mem_cons_self),hcell,hfr]
   simpa using r1
  ·rw [r2]
   congr 2
   apply congrArg List.toArray
   unfold over
   have e2:(cs.set (k+i) v).take (k+(i+1))=cs.take (k+i)++[v]:=by
    rw [List.take_set,show k+(i+1)=(k+i)+1 by omega,List.take_add_one,List.set_append]
    simp [show k+i<cs.length by omega,Nat.min_eq_left (show k+i≤cs.length by omega)]
   have e3:(cs.set (k+i) v).drop (k+(i+1)+vs.length)=cs.drop (k+i+(vs.length+1)):=by
    rw [List.drop_set_of_lt (by omega)]; congr 1; omega
   rw [e2,e3]; simp
theorem Inv.storeVar {P:Program} {w:World} {t:TypeId} {bb:Bool} {m b k:Nat} {cs vs:List Value} {el:TypeId} {v:Value} (i:Inv w h (blk b (.cells cs.toArray el)::L)) (ht:U1 P t=some (bb,m)) (hv:v.cells=vs.toArray) (hm:vs.length=m)
  (hl:k+vs.length≤cs.length) (h1:∀ u∈vs,u.oneCell'=true) :
  ∃ w',(Go.storeVar t ((⟨b,0,none⟩:Addr).add k) v).run P w=.ok () w'∧Inv w' h (blk b (.cells (over cs vs k).toArray el)::L):=by
 have hb:=i.own (k:=0) rfl
 obtain ⟨w',r1,r2,r3,r4,r5,r6⟩:=B3x (P:=P) (b:=b) (el:=el) vs 0 cs w k h1 hb (by omega)
 refine ⟨w',?_,i.set (by simpa using r2) r3 r4 r5 r6⟩
 have e1:((⟨b,0,none⟩:Addr).add k)=⟨b,k,none⟩:=by rw [A0W _ _ rfl]; simp
 simp only [Go.storeVar,Sem.run_bind,B4v ht,Result.andThen_ok,hv,e1]
 simp [hm,r1]
def ones:List Value→Bool
 | []=>true
 | v::vs=>v.oneCell' && ones vs
theorem B4t {vs:List Value} (h:ones vs=true):∀ u∈vs,u.oneCell'=true:=by
 induction vs with
 | nil=>intro u hu; cases hu
 | cons v vs ih=>
  simp only [ones,Bool.and_eq_true] at h
  intro u hu
  rcases List.mem_cons.1 hu with rfl | hu
  ·exact h.1
  ·exact ih h.2 u hu
theorem O.st {x y:Operand} {t b k m:Nat} {bb:Bool} {cs vs:List Value} {el:TypeId} {v:Value} {j:Nat} (ht:U1 P t=some (bb,m)) (e:ev ρ x=some (.pointer (some ((⟨b,0,none⟩:Addr).add k)))) (e':ev ρ y=some v)
  (hj:L[j]?=some (blk b (.cells cs.toArray el))) (hv:v.cells=vs.toArray) (hm:(ones vs && Nat.beq vs.length m && Nat.ble (k+vs.length) cs.length)=true)
  (kk:T n D ρ h (blk b (.cells (over cs vs k).toArray el)::L.eraseIdx j) K) :
  T n D ρ h L (λa w=>Oper.wr ⟨none,.store t x y,ty,pos,af,g⟩ ro P a w K Q):=λa w f i=>by
 simp only [Bool.and_eq_true] at hm
 obtain ⟨⟨m1,m2⟩,m3⟩:=hm
 obtain ⟨w',r1,r2⟩:=Inv.storeVar (P:=P) (v:=v) (k:=k) (i.front hj) ht hv (Nat.eq_of_beq_eq_true m2) (Nat.le_of_ble_eq_true m3) (B4t m1)
 have:(execOp a.eval ⟨none,.store t x y,ty,pos,af,g⟩).run P w=.ok .skip w':=by
  simp [execOp,f.has.ev e,f.has.ev e',Instr.storeAt,Instr.sureAddr,r1]
 exact B3z this<|kk _ w' f r2
theorem O.st0 {x y:Operand} {t b m:Nat} {bb:Bool} {cs vs:List Value} {el:TypeId} {v:Value} {j:Nat} (ht:U1 P t=some (bb,m)) (e:ev ρ x=some (.pointer (some ⟨b,0,none⟩))) (e':ev ρ y=some v)
  (hj:L[j]?=some (blk b (.cells cs.toArray el))) (hv:v.cells=vs.toArray) (hm:(ones vs && Nat.beq vs.length m && Nat.ble (0+vs.length) cs.length)=true)
  (kk:T n D ρ h (blk b (.cells (over cs vs 0).toArray el)::L.eraseIdx j) K) :
  T n D ρ h L (λa w=>Oper.wr ⟨none,.store t x y,ty,pos,af,g⟩ ro P a w K Q):=O.st (k:=0) ht e e' hj hv hm kk
end ops
end Go.Sl
namespace Go.Sl
open Go
def B5t (tmps:Array Value):ResultVar→Sem Value
 | .tmp t=>pure (tmps.getD t undef)
 | .cell a t=>do loadVar t (←asAddr (tmps.getD a undef))
def RV (P:Program) (X:World→Prop) (ρ:Env) (r:ResultVar) (v:Value):Prop:=∀ a w,X w→Has ρ a→(B5t a.tmps r).run P w=.ok v w
def RVs (P:Program) (X:World→Prop) (ρ:Env):List ResultVar→List Value→Prop
 | [],[]=>True
 | r::rs,v::vs=>RV P X ρ r v∧RVs P X ρ rs vs
 | _,_=>False
section
variable {P:Program} {X:World→Prop} {ρ:Env} {h:PH} {L:List E5}
theorem RV.tmp {t:Nat} {v:Value} (e:lk ρ t=some v):RV P X ρ (.tmp t) v:=λa w _ hs=>by simp only [B5t,B2z hs e,Sem.run_pure]
theorem RV.cell {c t b m:Nat} {cs:List Value} {el:TypeId} {fr:Nat×Nat} {j:Nat} {v:Value} (ht:U1 P t=some (false,m)) (e:lk ρ c=some (.pointer (some ⟨b,0,none⟩))) (hj:L[j]?=some (blk b (.cells cs.toArray el fr))) (hk:cs[0]?=some v) :
  RV P (XI h L) ρ (.cell c t) v:=λa w i hs=>by
 have hb:=Inv.own (show Inv w h L from i) hj
 have:w.cell? ⟨b,0,none⟩=some v:=by simp [World.cell?,hb,hk]
 simp only [B5t,B2z hs e,asAddr,Sem.run_bind,Sem.run_pure,Result.andThen_ok,A9t ht this]
theorem RV.cellS {c t b:Nat} {cs:List Value} {el:TypeId} {fr:Nat×Nat} {j:Nat} (e:lk ρ c=some (.pointer (some ⟨b,0,none⟩))) (hj:L[j]?=some (blk b (.cells cs.toArray el fr))) (ht:U1 P t=some (true,cs.length)) :
  RV P (XI h L) ρ (.cell c t) (.agg cs.toArray):=λa w i hs=>by
 have hb:=Inv.own (show Inv w h L from i) hj
 have:∀ k v,cs[k]?=some v→w.cell? ((⟨b,0,none⟩:Addr).add k)=some v:=λk v hk=>by
  rw [A0W _ _ rfl]
  simp [World.cell?,hb,hk]
 simp only [B5t,B2z hs e,asAddr,Sem.run_bind,Sem.run_pure,Result.andThen_ok,A6e ht this]
theorem RV.B2Y [HX X h] {c t:Nat} {cs:List Value} {p:Addr} (e:lk ρ c=some (.pointer (some p))) (hA:Y2 h p cs) (ht:U1 P t=some (true,cs.length)) :
  RV P X ρ (.cell c t) (.agg cs.toArray):=λa w i hs=>by
 simp only [B5t,B2z hs e,asAddr,Sem.run_bind,Sem.run_pure,Result.andThen_ok,A6e ht (λk v hk=>hA.cell (HX.le _ i) hk)]
theorem RVs.nil:RVs P X ρ [] []:=trivial
theorem RVs.cons {r:ResultVar} {v:Value} {rs:List ResultVar} {vs:List Value} (h1:RV P X ρ r v) (h2:RVs P X ρ rs vs):RVs P X ρ (r::rs) (v::vs):=⟨h1,h2⟩
def B6X:List Value→Value
 | [v]=>v
 | vs=>.tuple vs.toArray
theorem RVs.run {a:Act} {w:World} (hx:X w) (hs:Has ρ a):∀ {rs:List ResultVar} {vs:List Value},RVs P X ρ rs vs→(rs.mapM (B5t a.tmps)).run P w=.ok vs w:=by
 intro rs
 induction rs with
 | nil=>intro vs h; cases vs with
  | nil=>simp
  | cons v vs=>exact h.elim
 | cons r rs ih=>intro vs h; cases vs with
  | nil=>exact h.elim
  | cons v vs=>
   obtain ⟨h1,h2⟩:=h
   simp only [List.mapM_cons,Sem.run_bind,h1 a w hx hs,Result.andThen_ok,ih h2,Sem.run_pure]
theorem C6C (fn:Func) (tmps:Array Value):results fn tmps=(do let vs←fn.results.mapM (B5t tmps); pure (if h:vs.size=1 then vs[0] else .tuple vs)):=by
 unfold results B5t
 congr
theorem B3I {fn:Func} {rs:List ResultVar} {vs:List Value} {a:Act} {w:World} (hr:fn.results=rs.toArray) (hx:X w) (hs:Has ρ a) (h:RVs P X ρ rs vs) :
  (results fn a.tmps).run P w=.ok (B6X vs) w:=by
 have e:=RVs.run hx hs h
 rw [C6C,hr]
 have e2:rs.toArray.mapM (B5t a.tmps)=Functor.map List.toArray (rs.mapM (B5t a.tmps)):=by simp
 simp only [e2,Sem.run_bind,Sem.run_map,e,Result.andThen_ok,Sem.run_pure]
 congr 1
 match vs with
 | []=>rfl
 | [v]=>rfl
 | v::u::vs=>simp [B6X]
variable {n:Nat} {h₀:PH} {fn:Func} {R:Value→PH→List E5→Prop}
theorem T.D4L {rs:List ResultVar} {vs:List Value} (hr:fn.results=rs.toArray) (hv:RVs P (XI h L) ρ rs vs) (hl:Le h₀ h) (hR:R (B6X vs) h L) :
  T n [] ρ h L (bodyPost P fn (λe w'=>∃ v h' L',e=.returned v∧Le h₀ h'∧Inv w' h' L'∧R v h' L') .ret):=
 λ_ _ f i=>⟨f.defers,B6X vs,B3I hr (X:=XI h L) i f.has hv,_,h,L,rfl,hl,i,hR⟩
theorem T.B0p {rs:List ResultVar} {vs:List Value} {L':List E5} (hr:fn.results=rs.toArray) (hv:RVs P (XI h L) ρ rs vs) (hl:Le h₀ h) (hd:∀ w,Inv w h L→Inv w h L') (hR:R (B6X vs) h L') :
  T n [] ρ h L (bodyPost P fn (λe w'=>∃ v h' L',e=.returned v∧Le h₀ h'∧Inv w' h' L'∧R v h' L') .ret):=
 λ_ w f i=>⟨f.defers,B6X vs,B3I hr (X:=XI h L) i f.has hv,_,h,L',rfl,hl,hd w i,hR⟩
end
end Go.Sl
namespace Go.Sl
open Go
def A1J (sz:Nat) (css:List (List Value)):Prop:=∀ c∈css,c.length=sz
def F3 (E:TypeId) (sz:Nat) (v:Value) (css:List (List Value)):E5:=λm=>
 A1J sz css∧((v=.slice none 0 0∧css=[])∨∃ b off cap bs,v=.slice (some ⟨b,off,none⟩) css.length cap∧css.length≤cap∧m b=some (.cells bs E (0,0))∧
  off+cap*sz≤bs.size∧∀ i u,css.flatten[i]?=some u→bs[off+i]?=some u)
theorem A1c {sz:Nat}:∀ {css:List (List Value)},A1J sz css→css.flatten.length=css.length*sz:=by
 intro css
 induction css with
 | nil=>intro _; simp
 | cons c css ih=>intro h; simp [ih (λx hx=>h x (List.mem_cons_of_mem _ hx)),h c List.mem_cons_self,Nat.add_mul,Nat.add_comm]
theorem flat_get {sz:Nat}:∀ {css:List (List Value)} {i j:Nat} {c:List Value} {u:Value},A1J sz css→css[i]?=some c→c[j]?=some u→css.flatten[i*sz+j]?=some u:=by
 intro css
 induction css with
 | nil=>intro i j c u _ h; simp at h
 | cons d css ih=>
  intro i j c u hw hi hj
  have hd:=hw d List.mem_cons_self
  cases i with
  | zero=>
   simp at hi; subst hi
   have:j<d.length:=by
    rcases Nat.lt_or_ge j d.length with x | x
    ·exact x
    ·simp [List.getElem?_eq_none x] at hj
   rw [List.getElem?_eq_getElem this] at hj; cases hj
   simp [List.getElem?_append,this]
  | succ i=>
   simp at hi
   have:=ih (λx hx=>hw x (List.mem_cons_of_mem _ hx)) hi hj
   simp only [List.flatten_cons,List.getElem?_append]
   rw [if_neg (by rw [hd,Nat.add_mul]; omega)]
   rw [hd,show (i+1)*sz+j - sz=i*sz+j by rw [Nat.add_mul]; omega]
   exact this
structure Fix (h:PH) (sz:Nat) (v:Value) (css:List (List Value)):Prop where
 wide:A1J sz css
 shape:∃ a c,v=.slice a css.length c∧css.length≤c∧(css≠[]→∃ b o,a=some ⟨b,o,none⟩)
 at_:∀ (i:Nat) (c:List Value),css[i]?=some c→Y2 h (A0K v i sz) c
theorem Fix.slc {α:Type} {E:Vr α} {h:PH} {sz:Nat} {v:Value} {css:List (List Value)} {xs:List α} (f:Fix h sz v css) (hl:css.length=xs.length)
  (he:∀ (i:Nat) (x:α) (c:List Value),xs[i]?=some x→css[i]?=some c→E h c x):G9 E sz h v xs:=by
 refine ⟨?_,λi x e=>?_⟩
 ·obtain ⟨a,c,h1,h2,h3⟩:=f.shape
  refine ⟨a,c,by rw [←hl]; exact h1,by omega,λh0=>h3 (λe=>h0 ?_)⟩
  subst e; simpa using hl.symm
 ·have hi:i<css.length:=by
   rw [hl]
   rcases Nat.lt_or_ge i xs.length with x | x
   ·exact x
   ·simp [List.getElem?_eq_none x] at e
  have hc:css[i]?=some css[i]:=List.getElem?_eq_getElem hi
  exact ⟨css[i],f.wide _ (List.getElem_mem hi),f.at_ i _ hc,he i x _ e hc⟩
theorem F3.fix {w:World} {h:PH} {E:TypeId} {sz:Nat} {v:Value} {css:List (List Value)} {L:List E5} (i:Inv w h (F3 E sz v css::L)) :
  ∃ h',Le h h'∧Fix h' sz v css∧Inv w h' L:=by
 obtain ⟨m,a,l,d,m1,m2,d',l1,l2,⟨hw,hr⟩,s⟩:=i
 rcases hr with ⟨rfl,rfl⟩ | ⟨b,off,cap,bs,rfl,hcap,hb,hsz,hel⟩
 ·exact ⟨h,Le.refl h,⟨hw,⟨none,0,rfl,Nat.le_refl _,λh0=>absurd rfl h0⟩,λi c e=>by simp at e⟩,m,a,l,d,s.mono l2⟩
 ·have iv:Inv w h (blk b (.cells bs E (0,0))::L):=⟨m,a,l,d,m1,m2,d',l1,l2,hb,s⟩
  obtain ⟨h',le,e,i'⟩:=iv.freeze
  refine ⟨h',le,⟨hw,⟨some ⟨b,off,none⟩,cap,rfl,hcap,λ_=>⟨b,off,rfl⟩⟩,λk c hk=>⟨rfl,bs,E,(0,0),e,λj u hj=>?_⟩⟩,i'⟩
  have:=hel (k*sz+j) u (flat_get hw hk hj)
  show bs[off+k*sz+j]?=some u
  rw [Nat.add_assoc]; exact this
section
variable {ro:Option Nat} {P:Program} {n:Nat} {D:List Deferred} {ρ:Env} {h:PH} {L:List E5} {Q:Exit→Act→World→Prop}
variable {ops:Array Oper} {rest:List Oper} {X:World→Prop} {K:Act→World→Prop} {d:Option Nat} {ty:TypeId} {pos:String} {af:Array Edge} {g:Option (Nat×Bool)}
theorem T.D2v {Y:Act→World→Prop} (E:TypeId) (sz:Nat) (k:T n D ρ h (F3 E sz (.slice none 0 0) []::L) Y):T n D ρ h L Y:=
 λa w f i=>k a w f (i.emp ⟨λ_ hc=>(by cases hc),.inl ⟨rfl,rfl⟩⟩)
theorem T.J8 {Y:Act→World→Prop} {E:TypeId} {sz:Nat} {v:Value} {css:List (List Value)} (k:∀ h',Le h h'→Fix h' sz v css→T n D ρ h' L Y):T n D ρ h (F3 E sz v css::L) Y:=
 λa w f i=>let ⟨h',l,e,i'⟩:=F3.fix i; k h' l e a w f i'
theorem Inv.row {w:World} {j:Nat} {E:TypeId} {sz:Nat} {v:Value} {css:List (List Value)} (i:Inv w h L) (e:L[j]?=some (F3 E sz v css)) :
  A1J sz css∧((v=.slice none 0 0∧css=[])∨∃ b off cap bs,v=.slice (some ⟨b,off,none⟩) css.length cap∧css.length≤cap∧w.heap[b]?=some (.cells bs E (0,0))∧
   off+cap*sz≤bs.size∧∀ i u,css.flatten[i]?=some u→bs[off+i]?=some u):=by
 obtain ⟨m,_,l,_,s⟩:=i
 obtain ⟨m1,l1,hw,hr⟩:=s.at e
 refine ⟨hw,hr.imp id ?_⟩
 rintro ⟨b,off,cap,bs,h1,h2,h3,h4,h5⟩
 exact ⟨b,off,cap,bs,h1,h2,l b _ (l1 b _ h3),h4,h5⟩
theorem B1W {w:World} {j:Nat} {E:TypeId} {sz:Nat} {v:Value} {css:List (List Value)} (i:Inv w h L) (e:L[j]?=some (F3 E sz v css)):∃ a c,v=.slice a css.length c∧css.length≤c:=by
 rcases (i.row e).2 with ⟨rfl,rfl⟩ | ⟨b,off,cap,bs,rfl,h1,_⟩
 ·exact ⟨none,0,rfl,Nat.le_refl _⟩
 ·exact ⟨_,cap,rfl,h1⟩
theorem V.D5c {x:Operand} {t et sz by_:Nat} {v:Value} {E:TypeId} {z j:Nat} {css:List (List Value)} (ht:A0T P t=some (et,sz,by_)) (e:ev ρ x=some v) (hj:L[j]?=some (F3 E z v css)) :
  Val P (XI h L) ρ ⟨d,.call ⟨.builtin .len,#[x],#[t]⟩,ty,pos,af,g⟩ (.int .i64 css.length):=λa w i hs=>by
 obtain ⟨_,c,rfl,_⟩:=B1W (show Inv w h L from i) hj
 exact V.len (X:=XI h L) ht e a w i hs
theorem V.ixR {x ix:Operand} {t et sz by_:Nat} {v:Value} {k:IntKind} {i:Int} {E:TypeId} {z j:Nat} {css:List (List Value)} (ht:A0T P t=some (et,sz,by_)) (e:ev ρ x=some v) (e':ev ρ ix=some (.int k i))
  (hj:L[j]?=some (F3 E z v css)) (hi:0≤i∧i<css.length):Val P (XI h L) ρ ⟨d,.indexAddr t x ix,ty,pos,af,g⟩ (.pointer (some (A0K v i.toNat sz))):=λa w iv hs=>by
 rcases ((show Inv w h L from iv).row hj).2 with ⟨rfl,rfl⟩ | ⟨b,off,cap,bs,rfl,_⟩
 ·simp at hi; omega
 ·exact V.ixv (X:=XI h L) ht e e' (by simpa using hi) a w iv hs
theorem V.ldR {x:Operand} {t m i j sz E:Nat} {v u:Value} {css:List (List Value)} {c:List Value} (ht:U1 P t=some (false,m)) (e:ev ρ x=some (.pointer (some (A0K v i sz)))) (hj:L[j]?=some (F3 E sz v css))
  (hc:css[i]?=some c) (hu:c[0]?=some u):Val P (XI h L) ρ ⟨d,.load t x,ty,pos,af,g⟩ u:=λa w iv hs=>by
 obtain ⟨hw,hr⟩:=(show Inv w h L from iv).row hj
 rcases hr with ⟨rfl,rfl⟩ | ⟨b,off,cap,bs,rfl,h1,hb,hsz,hel⟩
 ·simp at hc
 ·have:w.cell? (A0K (.slice (some ⟨b,off,none⟩) css.length cap) i sz)=some u:=by
   have:=hel (i*sz+0) u (flat_get hw hc hu)
   simp only [Nat.add_zero] at this
   simp [A0K,World.cell?,hb] at this ⊢
   exact this
  simp [execOp,hs.ev e,Instr.loadAt,Instr.sureAddr,A9t ht this]
theorem F3.set {w:World} {E:TypeId} {v u:Value} {css:List (List Value)} {i:Nat} (iv:Inv w h (F3 E 1 v css::L)) (hi:i<css.length) (hu:u.oneCell'=true) :
  ∃ w',(store (A0K v i 1) u).run P w=.ok () w'∧Inv w' h (F3 E 1 v (css.set i [u])::L):=by
 have iv':=iv
 obtain ⟨m,a,l,dj,m1,m2,d',l1,l2,⟨hw,hr⟩,s⟩:=iv
 rcases hr with ⟨rfl,rfl⟩ | ⟨b,off,cap,bs,rfl,hcap,hb,hsz,hel⟩
 ·simp at hi
 ·have ib:Inv w h (blk b (.cells bs E (0,0))::L):=⟨m,a,l,dj,m1,m2,d',l1,l2,hb,s⟩
  have hbw:=ib.own (k:=0) rfl
  have hp:A0K (.slice (some ⟨b,off,none⟩) css.length cap) i 1=⟨b,off+i,none⟩:=by simp [A0K]
  have hlt:off+i<bs.size:=by omega
  have hcell:w.cell? ⟨b,off+i,none⟩=some bs[off+i]:=by simp [World.cell?,hbw,hlt]
  have hfr:w.frozen? ⟨b,off+i,none⟩=false:=by simp [World.frozen?,hbw]
  refine ⟨w.setCell ⟨b,off+i,none⟩ u,?_,?_⟩
  ·rw [hp,run_store P w _ u .plain hu,hcell]; simp [hfr]
  ·have hs:(w.setCell ⟨b,off+i,none⟩ u).heap[b]?=some (.cells (bs.set (off+i) u hlt) E (0,0)):=by
    simp [World.setCell,Array.getElem?_modify,hbw,Array.setIfInBounds,hlt]
   have i2:=ib.set hs (λx hx=>B2G w _ u x hx) rfl rfl rfl
   refine i2.weak λmm hm=>?_
   have hw':A1J 1 (css.set i [u]):=by
    intro c hc
    rcases List.mem_or_eq_of_mem_set hc with h | rfl
    ·exact hw c h
    ·rfl
   refine ⟨hw',.inr ⟨b,off,cap,_,by simp,by simpa using hcap,hm,by simpa using hsz,?_⟩⟩
   intro k x hk
   have e1:∀ (cs:List (List Value)),A1J 1 cs→∀ q:Nat,cs.flatten[q]?=(cs[q]?).bind (·[0]?):=by
    intro cs hcs
    induction cs with
    | nil=>intro q; simp
    | cons c cs ih=>
     intro q
     have hc:=hcs c List.mem_cons_self
     obtain ⟨y,rfl⟩:=List.length_eq_one_iff.1 hc
     cases q with
     | zero=>simp
     | succ q=>simpa using ih (λz hz=>hcs z (List.mem_cons_of_mem _ hz)) q
   rw [e1 _ hw'] at hk
   by_cases hik:i=k
   ·subst hik
    simp [hi] at hk; subst hk
    simp [hlt]
   ·have:(css.set i [u])[k]?=css[k]?:=by simp [List.getElem?_set,hik]
    rw [this] at hk
    have:=hel k x (by rw [e1 _ hw]; exact hk)
    rw [Array.getElem?_set]
    rw [if_neg (by omega)]; exact this
theorem O.stR {x y:Operand} {t i j E:Nat} {v u:Value} {css:List (List Value)} (ht:U1 P t=some (false,1)) (e:ev ρ x=some (.pointer (some (A0K v i 1)))) (e':ev ρ y=some u) (hj:L[j]?=some (F3 E 1 v css))
  (hi:i<css.length) (hu:u.oneCell'=true) (kk:T n D ρ h (F3 E 1 v (css.set i [u])::L.eraseIdx j) K) :
  T n D ρ h L (λa w=>Oper.wr ⟨none,.store t x y,ty,pos,af,g⟩ ro P a w K Q):=λa w f iv=>by
 obtain ⟨w',r1,r2⟩:=F3.set (P:=P) (iv.front hj) hi hu
 have hc:u.cells=#[u]:=by cases u <;> first | rfl | (simp [Value.oneCell'] at hu)
 have:(execOp a.eval ⟨none,.store t x y,ty,pos,af,g⟩).run P w=.ok .skip w':=by
  have e0:(A0K v i 1).add 0=A0K v i 1:=rfl
  simp [execOp,f.has.ev e,f.has.ev e',Instr.storeAt,Instr.sureAddr,Go.storeVar,B4v ht,hc,storeCells,e0,r1]
 exact B3z this<|kk _ w' f r2
end
end Go.Sl
namespace Go.Sl
open Go
theorem C8g (need:Nat):∀ (r c:Nat),c≤need→Builtin.growBy need r c≤2*need+1000:=by
 intro r
 induction r with
 | zero=>intro c h; simp [Builtin.growBy]; omega
 | succ r ih=>
  intro c h
  simp only [Builtin.growBy]
  split
  ·omega
  ·by_cases hc:c+(c+768) / 4≤need
   ·exact ih _ hc
   ·cases r with
    | zero=>simp only [Builtin.growBy]; omega
    | succ r=>simp only [Builtin.growBy]; rw [if_pos (by omega)]; omega
theorem C6t {need cap:Nat} (h:cap<need):Builtin.nextslicecap need cap≤2*need+1000:=by
 unfold Builtin.nextslicecap
 split
 ·omega
 ·split
  ·omega
  ·exact C8g need 4 cap (by omega)
theorem B5Q {P:Program} {b:Nat} {el:TypeId}:∀ (vs:List Value) (i:Nat) (bs:Array Value) (w:World) (k:Nat),
  (∀ v∈vs,v.oneCell'=true)→w.heap[b]?=some (.cells bs el)→k+i+vs.length≤bs.size→
  ∃ w' bs',(storeCells ⟨b,k,none⟩ vs i).run P w=.ok () w'∧w'.heap[b]?=some (.cells bs' el)∧bs'.size=bs.size∧
   (∀ q u,vs[q]?=some u→bs'[k+i+q]?=some u)∧(∀ q,q<k+i→bs'[q]?=bs[q]?)∧(∀ x,x≠b→w'.heap[x]?=w.heap[x]?)∧w'.os=w.os∧w'.tape=w.tape∧w'.output=w.output:=by
 intro vs
 induction vs with
 | nil=>intro i bs w k _ hb _; exact ⟨w,bs,by simp [storeCells],hb,rfl,by intro q u h; simp at h,λ_ _=>rfl,λ_ _=>rfl,rfl,rfl,rfl⟩
 | cons v vs ih=>
  intro i bs w k h1 hb hl
  simp only [List.length_cons] at hl
  have hlt:k+i<bs.size:=by omega
  have e1:((⟨b,k,none⟩:Addr).add i)=⟨b,k+i,none⟩:=A0W _ _ rfl
  have hcell:w.cell? ⟨b,k+i,none⟩=some bs[k+i]:=by simp [World.cell?,hb,hlt]
  have hfr:w.frozen? ⟨b,k+i,none⟩=false:=by simp [World.frozen?,hb]
  have hs:(w.setCell ⟨b,k+i,none⟩ v).heap[b]?=some (.cells (bs.set (k+i) v hlt) el):=by
   simp [World.setCell,Array.getElem?_modify,hb,Array.setIfInBounds,hlt]
  obtain ⟨w',bs',r1,r2,r3,r4,r5,r6,r7,r8,r9⟩:=ih (i+1) _ _ k (λu hu=>h1 u (List.mem_cons_of_mem _ hu)) hs (by simp; omega)
  refine ⟨w',bs',?_,r2,by simpa using r3,?_,?_,λx hx=>(r6 x hx).trans (B2G w _ v x hx),r7,r8,r9⟩
  ·simp only [storeCells,e1,Sem.run_bind,run_store P w _ v .plain (h1 v List.mem_cons_self),hcell,hfr]
   simpa using r1
  ·intro q u hq
   cases q with
   | zero=>
    simp at hq; subst hq
    have:=r5 (k+i) (by omega)
    simp [hlt] at this
    simpa using this
   | succ q=>
    simp at hq
    have:=r4 q u hq
    rwa [show k+(i+1)+q=k+i+(q+1) by omega] at this
  ·intro q hq
   rw [r5 q (by omega),Array.getElem?_set]
   rw [if_neg (by omega)]
def Src (P:Program) (X:World→Prop) (sz:Nat) (v:Value) (css:List (List Value)):Prop:=
 ∀ w,X w→(Builtin.lenOf v).run P w=.ok css.length w∧(Builtin.firstCells sz css.length v).run P w=.ok css.flatten.toArray w
theorem B8K {P:Program} {w:World} {sz b off:Nat} {bs:Array Value} {E:TypeId} {fr:Nat×Nat} {css:List (List Value)} (hw:A1J sz css) (hb:w.heap[b]?=some (.cells bs E fr))
  (h:∀ (i:Nat) u,css.flatten[i]?=some u→bs[off+i]?=some u):(loadCells ⟨b,off,none⟩ (css.length*sz)).run P w=.ok css.flatten.toArray w:=by
 have:=A6A (P:=P) (w:=w) (p:=⟨b,off,none⟩) css.flatten 0 #[] (λi v e=>by
  rw [A0W _ _ rfl]
  simp [World.cell?,hb,h i v e])
 rw [A1c hw] at this
 simpa [loadCells] using this
theorem Src.fix {P:Program} {X:World→Prop} {h:PH} [HX X h] {sz:Nat} {v:Value} {css:List (List Value)} (f:Fix h sz v css):Src P X sz v css:=λw hx=>by
 obtain ⟨a,c,rfl,_,hne⟩:=f.shape
 refine ⟨rfl,?_⟩
 by_cases h0:css=[]
 ·subst h0
  cases a <;> simp [Builtin.firstCells,loadCells,loadCellsFrom]
 ·obtain ⟨b,o,rfl⟩:=hne h0
  have key:∀ (i:Nat) u,css.flatten[i]?=some u→w.cell? ((⟨b,o,none⟩:Addr).add i)=some u:=by
   intro i u e
   have hlt:i<css.flatten.length:=by
    rcases Nat.lt_or_ge i css.flatten.length with x | x
    ·exact x
    ·simp [List.getElem?_eq_none x] at e
   rw [A1c f.wide] at hlt
   have hsz:0<sz:=by
    rcases Nat.eq_zero_or_pos sz with z | z
    ·subst z; simp at hlt
    ·exact z
   have hq:i / sz<css.length:=Nat.div_lt_of_lt_mul (by rwa [Nat.mul_comm])
   have hc:=f.at_ (i / sz) _ (List.getElem?_eq_getElem hq)
   have hl:(css[i / sz]).length=sz:=f.wide _ (List.getElem_mem hq)
   have hm:i % sz<(css[i / sz]).length:=by rw [hl]; exact Nat.mod_lt _ hsz
   have e2:=flat_get f.wide (List.getElem?_eq_getElem hq) (List.getElem?_eq_getElem hm)
   have e3:i / sz*sz+i % sz=i:=by rw [Nat.mul_comm]; exact Nat.div_add_mod i sz
   rw [e3,e] at e2
   have:=hc.cell (HX.le w hx) (List.getElem?_eq_getElem hm)
   rw [←e2] at this
   rw [A0W _ _ (by rfl)] at this
   rw [A0W _ _ rfl]
   simp only [A0K] at this
   rw [Nat.add_assoc,e3] at this
   exact this
  have:=A6A (P:=P) (w:=w) (p:=⟨b,o,none⟩) css.flatten 0 #[] (λi v e=>by simpa using key i v e)
  rw [A1c f.wide] at this
  simpa [Builtin.firstCells,loadCells] using this
theorem Src.row {P:Program} {h:PH} {L:List E5} {j:Nat} {E:TypeId} {sz:Nat} {v:Value} {css:List (List Value)} (hj:L[j]?=some (F3 E sz v css)):Src P (XI h L) sz v css:=λw iv=>by
 obtain ⟨hw,hr⟩:=(show Inv w h L from iv).row hj
 rcases hr with ⟨rfl,rfl⟩ | ⟨b,off,cap,bs,rfl,h1,hb,hsz,hel⟩
 ·exact ⟨rfl,by simp [Builtin.firstCells]⟩
 ·exact ⟨rfl,by simpa [Builtin.firstCells] using B8K hw hb hel⟩
theorem C0k (z:Array Value) (n:Nat):(Builtin.zeroCells z n).size=n*z.size:=by simp [Builtin.zeroCells]
theorem Inv.append {P:Program} {w:World} {h:PH} {L:List E5} {t xt et:TypeId} {sz by_:Nat} {zv:Value} {v x:Value} {css ds:List (List Value)} {T0:TypeId}
  (i:Inv w h (F3 et sz v css::L)) (ht:A0T P t=some (et,sz,by_)) (hxt:∃ e,P.underlying xt=some (.slice e)) (hz:zer P et=some zv) (hzs:zv.cells.size=sz)
  (hlen:(Builtin.lenOf x).run P w=.ok ds.length w)
  (hsrc:(Builtin.firstCells sz ds.length x).run P w=.ok ds.flatten.toArray w) (hsrc':(Builtin.firstCells sz ds.length x).run P w.drew=.ok ds.flatten.toArray w.drew)
  (hw:A1J sz ds) (h1:∀ u∈ds.flatten,u.oneCell'=true) (hb:css.length+ds.length≤1073741824) (hby:by_≤4096) :
  ∃ v' w',(Builtin.append_ #[t,xt] T0 #[v,x]).run P w=.ok v' w'∧Inv w' h (F3 et sz v' (css++ds)::L):=by
 obtain ⟨e1,e2,e3⟩:=A6O ht
 obtain ⟨xe,hxe⟩:=hxt
 have i0:=i
 obtain ⟨hwc,hr⟩:=i.row (j:=0) rfl
 obtain ⟨a0,c0,hv0,hc0⟩:=B1W i (j:=0) rfl
 have hwide:A1J sz (css++ds):=λc hc=>(List.mem_append.1 hc).elim (hwc c) (hw c)
 have hmax:IntKind.i64.max=9223372036854775807:=by decide
 by_cases hfit:css.length+ds.length≤c0
 ·-- there is room
  rcases hr with ⟨rfl,rfl⟩ | ⟨b,off,cap,bs,hv,hcap,hbw,hsz,hel⟩
  ·simp at hv0; obtain ⟨rfl,rfl⟩:=hv0
   have hd:ds=[]:=by simpa using hfit
   subst hd
   refine ⟨.slice none 0 0,w,?_,by simpa using i⟩
   have hs2:(Builtin.firstCells sz 0 x).run P w=.ok #[] w:=by simpa using hsrc
   simp [Builtin.append_,e1,e2,run_underlying hxe,hlen,hs2]
  ·subst hv
   simp at hv0; obtain ⟨_,rfl⟩:=hv0
   have hcs:(css.flatten).length=css.length*sz:=A1c hwc
   have hdl:(ds.flatten).length=ds.length*sz:=A1c hw
   have hroom:off+css.length*sz+0+ds.flatten.length≤bs.size:=by
    have:(css.length+ds.length)*sz≤cap*sz:=Nat.mul_le_mul_right _ hfit
    rw [Nat.add_mul] at this; omega
   obtain ⟨w',bs',r1,r2,r3,r4,r5,r6,r7,r8,r9⟩:=B5Q (P:=P) ds.flatten 0 bs w (off+css.length*sz) h1 hbw hroom
   refine ⟨.slice (some ⟨b,off,none⟩) (css.length+ds.length) cap,w',?_,?_⟩
   ·have ea:(({ block:=b,off:=off }:Addr).add (css.length*sz))=⟨b,off+css.length*sz,none⟩:=A0W _ _ rfl
    simp [Builtin.append_,e1,e2,run_underlying hxe,hlen,hsrc,hfit,ea,r1]
   ·obtain ⟨m,q1,q2,q3,m1,m2,q4,q5,q6,⟨_,hq⟩,s⟩:=i0
    have hmb:m1 b=some (.cells bs et (0,0)):=by
     rcases hq with ⟨hq,_⟩ | ⟨b',off',cap',bs'',hv',_,hb',_,_⟩
     ·cases hq
     ·simp at hv'; obtain ⟨⟨rfl,rfl⟩,rfl⟩:=hv'
      have:=q2 _ _ (q5 _ _ hb')
      simp [hp] at this
      rw [hbw] at this; cases this; exact hb'
    have ib:Inv w h (blk b (.cells bs et (0,0))::L):=⟨m,q1,q2,q3,m1,m2,q4,q5,q6,hmb,s⟩
    refine (ib.set r2 r6 r7 r8 r9).weak λmm hm=>⟨hwide,.inr ⟨b,off,cap,bs',by simp,by simpa using hfit,hm,by omega,?_⟩⟩
    intro k u hk
    rw [List.flatten_append,List.getElem?_append] at hk
    split at hk
    ·rename_i hlt
     rw [r5 _ (by omega)]; exact hel k u hk
    ·rename_i hge
     have:=r4 _ u hk
     rw [show off+css.length*sz+0+(k - css.flatten.length)=off+k by omega] at this
     exact this
 ·-- a new row
  have hcap':c0<css.length+ds.length:=by omega
  have hnc:=C6t hcap'
  obtain ⟨ti,e4,e5⟩:=e3 w
  have hnb:¬ (Builtin.nextslicecap (css.length+ds.length) c0*ti.bytes > 281474976710656):=by
   have:Builtin.nextslicecap (css.length+ds.length) c0*ti.bytes≤(2*(css.length+ds.length)+1000)*4096:=Nat.mul_le_mul hnc (by omega)
   omega
  let qn:Question:=.appendCap (css.length+ds.length) c0 et
  let nc:=qn.cut (w.tape w.drawn qn)
  have hnc2:css.length+ds.length≤nc:=by
   show _≤Question.cut _ _
   simp only [qn,Question.cut]; omega
  have hold:(Builtin.firstCells sz css.length v).run P w.drew=.ok css.flatten.toArray w.drew:=
   ((Src.row (P:=P) (h:=h) (L:=F3 et sz v css::L) (j:=0) rfl) w.drew i.drew).2
  let nb:Array Value:=css.flatten.toArray++ds.flatten.toArray++Builtin.zeroCells zv.cells (nc - (css.length+ds.length))
  refine ⟨.slice (some ⟨w.heap.size,0,none⟩) (css.length+ds.length) nc,w.drew.alloc (.cells nb et),?_,?_⟩
  ·subst hv0
   have hf:Question.forced qn=false:=rfl
   have hge:¬ (((css.length+ds.length:Nat):Int) > 9223372036854775807):=by omega
   have ee4:∀ w',(typeInfo et).run P w'=.ok ti w':=λw'=>by
    obtain ⟨ti',a',b'⟩:=e3 w'
    have:P.info? et=some ti:=by
     have:=e4
     unfold typeInfo at this
     cases hq:P.info? et with
     | none=>simp [hq] at this
     | some i'=>simp [hq] at this; exact congrArg some this
    exact run_typeInfo this w'
   have hchoose:(choose (.appendCap (css.length+ds.length) c0 et)).run P w=.ok nc w.drew:=by
    rw [run_choose]; simp only [show Question.forced (.appendCap (css.length+ds.length) c0 et)=false from rfl]; rfl
   have hge':¬ ((9223372036854775807:Int)<(css.length:Int)+(ds.length:Int)):=by omega
   have hnb':¬ (281474976710656<Builtin.nextslicecap (css.length+ds.length) c0*ti.bytes):=by omega
   simp [Builtin.append_,e1,e2,run_underlying hxe,hlen,hfit,hmax,ee4,hge',hnb',-run_choose]
   rw [hchoose]
   simp [hold,hsrc',A9A hz,newRow,nb]
  ·have ia:=(i0.drop.drew).alloc (.cells nb et)
   refine ia.weak λmm hm=>⟨hwide,.inr ⟨w.drew.heap.size,0,nc,nb,by simp,by simpa using hnc2,hm,?_,?_⟩⟩
   ·have s1:css.flatten.length=css.length*sz:=A1c hwc
    have s2:ds.flatten.length=ds.length*sz:=A1c hw
    have:nb.size=css.length*sz+ds.length*sz+(nc - (css.length+ds.length))*sz:=by
     simp only [nb,Array.size_append,List.size_toArray,s1,s2,C0k,hzs]
    rw [this,←Nat.add_mul,←Nat.add_mul]
    rw [show css.length+ds.length+(nc - (css.length+ds.length))=nc by omega]; omega
   ·intro k u hk
    rw [List.flatten_append] at hk
    have hlt:k<(css.flatten++ds.flatten).length:=by
     rcases Nat.lt_or_ge k (css.flatten++ds.flatten).length with x | x
     ·exact x
     ·simp [List.getElem?_eq_none x] at hk
    have:nb=(css.flatten++ds.flatten).toArray++Builtin.zeroCells zv.cells (nc - (css.length+ds.length)):=by simp only [nb,List.append_toArray]
    rw [this,Nat.zero_add,Array.getElem?_append]
    rw [if_pos (by simpa using hlt)]
    simpa using hk
end Go.Sl
namespace Go.Sl
open Go
theorem C7P (z:Array Value) (n:Nat):((Array.range (n*z.size)).map λi=>z[i % z.size]!)=(List.replicate n z.toList).flatten.toArray:=by
 induction n with
 | zero=>simp
 | succ n ih=>
  rw [List.replicate_succ',List.flatten_append,←List.append_toArray,←ih]
  apply Array.ext
  ·simp [Nat.add_mul]
  ·intro i h1 h2
   simp only [Array.getElem_map,Array.getElem_range,Array.size_map,Array.size_range,Array.getElem_append]
   split
   ·rfl
   ·rename_i hge
    simp at h1
    have hi:i - n*z.size<z.size:=by rw [Nat.add_mul] at h1; omega
    have e:i % z.size=i - n*z.size:=by
     have:i=(i - n*z.size)+z.size*n:=by rw [Nat.mul_comm z.size n]; omega
     rw [this,Nat.add_mul_mod_self_left,Nat.mod_eq_of_lt hi,Nat.mul_comm z.size n]; omega
    simp [e,hi]
theorem C8a (vs:List Value):∀ (off:Nat) (pre suf:List Value),suf.length ≥ vs.length→pre.length=off→
  ((vs.toArray.zipIdx).foldl (λcs (c,j)=>cs.setIfInBounds (off+j) c) (pre++suf).toArray)=(pre++vs++suf.drop vs.length).toArray:=by
 have key:∀ (k:Nat) (vs:List Value) (off:Nat) (pre suf:List Value),suf.length ≥ vs.length→pre.length=off+k→
   ((vs.zipIdx k).foldl (λ(cs:Array Value) (p:Value×Nat)=>cs.setIfInBounds (off+p.2) p.1) (pre++suf).toArray)=(pre++vs++suf.drop vs.length).toArray:=by
  intro k vs
  induction vs generalizing k with
  | nil=>intro off pre suf _ _; simp
  | cons v vs ih=>
   intro off pre suf h1 h2
   cases suf with
   | nil=>simp at h1
   | cons s suf=>
    simp only [List.zipIdx_cons,List.foldl_cons]
    have e:((pre++s::suf).toArray.setIfInBounds (off+k) v)=((pre++[v])++suf).toArray:=by
     simp only [List.setIfInBounds_toArray]
     rw [List.set_append]
     simp [h2]
    rw [e,ih (k+1) off (pre++[v]) suf (by simpa using h1) (by simp; omega)]
    simp
 intro off pre suf h1 h2
 have:=key 0 vs off pre suf h1 (by omega)
 rw [←this,←Array.foldl_toList]
 simp
theorem C9u {sz:Nat}:∀ (vs:List Value) (css:List (List Value)) (k:Nat) (pre suf:List Value),vs.map Value.cells=css.map List.toArray→A1J sz css→
  pre.length=k*sz→suf.length=css.length*sz→
  Instr.fill (λi=>some (i*sz,sz)) (pre++suf).toArray ((List.range' k vs.length).zip vs)=some (pre++css.flatten).toArray:=by
 intro vs
 induction vs with
 | nil=>intro css k pre suf h _ _ hs; cases css with
  | nil=>simp at hs; subst hs; simp [Instr.fill]
  | cons c css=>simp at h
 | cons v vs ih=>
  intro css k pre suf h hw hp hs
  cases css with
  | nil=>simp at h
  | cons c css=>
   simp at h
   obtain ⟨hv,ht⟩:=h
   have hc:c.length=sz:=hw c List.mem_cons_self
   simp only [List.length_cons,List.range'_succ,List.zip_cons_cons,Instr.fill]
   rw [hv]
   rw [if_neg (by simp [hc,hp]; simp at hs; rw [Nat.add_mul] at hs; omega)]
   simp only [List.length_cons,Nat.add_mul] at hs
   rw [C8a c (k*sz) pre suf (by omega) hp]
   have:=ih css (k+1) (pre++c) (suf.drop c.length) ht (λx hx=>hw x (List.mem_cons_of_mem _ hx)) (by simp [hp,hc,Nat.add_mul]) (by simp; omega)
   rw [this]
   simp
section
variable {ro:Option Nat} {P:Program} {n:Nat} {D:List Deferred} {ρ:Env} {h:PH} {L:List E5} {Q:Exit→Act→World→Prop}
variable {ops:Array Oper} {rest:List Oper} {X:World→Prop} {K:Act→World→Prop} {d:Option Nat} {ty:TypeId} {pos:String} {af:Array Edge} {g:Option (Nat×Bool)}
theorem Inv.newRow {w:World} {E:TypeId} {sz k:Nat} {css:List (List Value)} (i:Inv w h L) (hw:A1J sz css) (hk:css.length=k) :
  Inv (w.alloc (.cells css.flatten.toArray E)) h (F3 E sz (.slice (some ⟨w.heap.size,0,none⟩) k k) css::L):=by
 refine (i.alloc _).weak λm hm=>⟨hw,.inr ⟨w.heap.size,0,k,_,by rw [hk],by omega,hm,by simp [A1c hw,hk],λi u e=>by simpa using e⟩⟩
theorem O.bs {dd:Nat} {t et sz by_ k:Nat} {xs:List Operand} {vs:List Value} {css:List (List Value)} {zv:Value} (ht:A0T P t=some (et,sz,by_)) (hz:zer P et=some zv) (hzs:(Nat.beq zv.cells.size sz && Nat.blt 0 sz && Nat.ble (k*sz) 16777216)=true) (e:evs ρ xs=some vs)
  (hk:(Nat.beq xs.length k && Nat.blt 0 k)=true) (hv:vs.map Value.cells=css.map List.toArray) (hw:A1J sz css) (hd:Nat.blt dd n=true)
  (kk:∀ b,T n D ((dd,.slice (some ⟨b,0,none⟩) k k)::ρ) h (F3 et sz (.slice (some ⟨b,0,none⟩) k k) css::L) K) :
  T n D ρ h L (λa w=>Oper.wr ⟨some dd,.buildSlice t k (((List.range' 0 xs.length).zip xs).toArray),ty,pos,af,g⟩ ro P a w K Q):=λa w f i=>by
 simp only [Bool.and_eq_true] at hzs hk
 obtain ⟨⟨z1,z2⟩,z3⟩:=hzs
 have z1:=Nat.eq_of_beq_eq_true z1
 have z2:0<sz:=Nat.le_of_ble_eq_true z2
 have z3:=Nat.le_of_ble_eq_true z3
 have k1:=Nat.eq_of_beq_eq_true hk.1
 have k2:0<k:=Nat.le_of_ble_eq_true hk.2
 obtain ⟨e1,e2,e3⟩:=A6O ht
 have hev:=f.has.evs e
 have hvl:vs.length=k:=by rw [←hev]; simp [k1]
 have hcl:css.length=k:=by have:=congrArg List.length hv; simp at this; omega
 have hcells:((Array.range (k*sz)).map λi=>zv.cells[i % zv.cells.size]!)=([]++(List.replicate k zv.cells.toList).flatten).toArray:=by
  rw [←z1,C7P _ _]; simp
 have hwr:A1J sz (List.replicate k zv.cells.toList):=λc hc=>by
  rw [List.eq_of_mem_replicate hc]; simpa using z1
 have hfill:=C9u (sz:=sz) vs css 0 [] (List.replicate k zv.cells.toList).flatten hv hw (by simp) (by rw [A1c hwr]; simp [hcl])
 have hparts:(((List.range' 0 xs.length).zip xs).toArray.map λ(i,x)=>(i,a.eval x)).toList=(List.range' 0 vs.length).zip vs:=by
  rw [←hev]
  simp only [List.map_toArray,List.length_map]
  rw [List.zip_map_right]
  rfl
 have:(execOp a.eval ⟨some dd,.buildSlice t k (((List.range' 0 xs.length).zip xs).toArray),ty,pos,af,g⟩).run P w=.ok (.value (.slice (some ⟨w.heap.size,0,none⟩) k k)) (w.alloc (.cells css.flatten.toArray et)):=by
  have hb1:¬ (k*sz > 2 ^ 24):=by omega
  have hb2:¬ (k*sz=0):=by have:=Nat.mul_pos k2 z2; omega
  simp only [execOp,Instr.buildSlice,hparts,Sem.run_bind,e1,e2,Result.andThen_ok,if_neg hb1,if_neg hb2,A9A hz,Sem.run_pure,hcells,hfill]
  simp [newRow]
 exact A0j this (kk _ _ _ (f.put hd) (i.newRow hw hcl))
theorem O.D3N {dd:Nat} {x y:Operand} {t et sz by_:Nat} {q:Int} {zv:Value} {zs:List Value} (ht:A0T P t=some (et,sz,by_)) (hz:zer P et=some zv) (hzs:zv.cells=zs.toArray) (hzl:(Nat.beq zs.length sz && Nat.blt 0 sz && Nat.ble by_ 4096)=true) (e:ev ρ x=some (.int .i64 q)) (e':ev ρ y=some (.int .i64 q))
  (hq:0≤q∧q≤1073741824) (hd:Nat.blt dd n=true)
  (kk:∀ b,T n D ((dd,.slice (some ⟨b,0,none⟩) q.toNat q.toNat)::ρ) h (F3 et sz (.slice (some ⟨b,0,none⟩) q.toNat q.toNat) (List.replicate q.toNat zs)::L) K) :
  T n D ρ h L (λa w=>Oper.wr ⟨some dd,.makeSlice t x y,ty,pos,af,g⟩ ro P a w K Q):=λa w f i=>by
 simp only [Bool.and_eq_true] at hzl
 obtain ⟨⟨z1,z2⟩,z3⟩:=hzl
 have z1:=Nat.eq_of_beq_eq_true z1
 have z2:0<sz:=Nat.le_of_ble_eq_true z2
 have z3:=Nat.le_of_ble_eq_true z3
 obtain ⟨e1,e2,e3⟩:=A6O ht
 obtain ⟨ti,e4,e5⟩:=e3 w
 obtain ⟨c,rfl⟩:=Int.eq_ofNat_of_zero_le hq.1
 have hcb:c≤1073741824:=by omega
 have hwrap:IntKind.i64.wrap (c:Int)=c:=wrap_i64 (by omega)
 have hbig:ti.bytes*c≤4096*1073741824:=Nat.mul_le_mul (by omega) hcb
 have hbig':((ti.bytes:Int)*(c:Int))≤281474976710656:=by
  have:((ti.bytes*c:Nat):Int)=(ti.bytes:Int)*(c:Int):=by simp
  omega
 have hzz:zv.cells.size=sz:=by rw [hzs]; simpa using z1
 have hcells:((Array.range (c*sz)).map λi=>zv.cells[i % zv.cells.size]!)=(List.replicate c zs).flatten.toArray:=by
  rw [←hzz,C7P _ _,hzs]
 have hw:A1J sz (List.replicate c zs):=λy hy=>by rw [List.eq_of_mem_replicate hy]; exact z1
 have this:(execOp a.eval ⟨some dd,.makeSlice t x y,ty,pos,af,g⟩).run P w=.ok (.value (.slice (some ⟨w.heap.size,0,none⟩) c c)) (w.alloc (.cells (List.replicate c zs).flatten.toArray et)):=by
  have t1:¬ ((281474976710656:Int)<(ti.bytes:Int)*(c:Int)):=by omega
  have hc1:¬ ((c:Int)<0):=by omega
  have t2:(decide ((c:Int)<0) || decide ((ti.bytes:Int)*(c:Int) > 2 ^ 48))=false:=by
   simp only [Bool.or_eq_false_iff,decide_eq_false_iff_not]
   exact ⟨hc1,by rw [show (2:Int) ^ 48=281474976710656 by decide]; omega⟩
  have t3:((decide ((c:Int)<0) || decide ((ti.bytes:Int)*(c:Int) > 2 ^ 48)) || decide ((c:Int)<0) || decide ((c:Int) > (c:Int)))=false:=by
   rw [t2]; simp
  simp only [execOp,f.has.ev e,f.has.ev e',Instr.makeSlice,Sem.run_bind,e1,Result.andThen_ok,asInt,asIntOf,Sem.run_pure,e4,hwrap,t3,Bool.false_eq_true,if_false,run_askRoom,e2,Int.toNat_natCast]
  by_cases hcs:c*sz=0
  ·have hc0:c=0:=by
    rcases Nat.mul_eq_zero.1 hcs with h | h
    ·exact h
    ·omega
   subst hc0
   simp only [Nat.zero_mul,if_true,Sem.run_bind,Sem.run_pure,Result.andThen_ok,newRow,run_newObj]
   have em:Array.range 0=#[]:=Array.eq_empty_of_size_eq_zero (by simp)
   simp [em]
  ·simp only [if_neg hcs,Sem.run_bind,A9A hz,Result.andThen_ok,Sem.run_pure,hcells,newRow,run_newObj]
   rfl
 exact A0j this (kk _ _ _ (f.put hd) (i.newRow hw (by simp)))
theorem O.app {dd:Nat} {x y:Operand} {t xt et sz by_ j:Nat} {v u zv:Value} {css ds:List (List Value)} (ht:A0T P t=some (et,sz,by_)) (hxt:A0T P xt=some (et,sz,by_)) (hz:zer P et=some zv) (hzs:(Nat.beq zv.cells.size sz && Nat.ble by_ 4096)=true)
  (e:ev ρ x=some v) (e':ev ρ y=some u) (hj:L[j]?=some (F3 et sz v css)) (hs:Src P (XI h L) sz u ds) (hw:A1J sz ds) (h1:ones ds.flatten=true) (hb:css.length+ds.length≤1073741824) (hd:Nat.blt dd n=true)
  (kk:∀ v',T n D ((dd,v')::ρ) h (F3 et sz v' (css++ds)::L.eraseIdx j) K) :
  T n D ρ h L (λa w=>Oper.wr ⟨some dd,.call ⟨.builtin .append,#[x,y],#[t,xt]⟩,ty,pos,af,g⟩ ro P a w K Q):=λa w f i=>by
 simp only [Bool.and_eq_true] at hzs
 have hxt':∃ e,P.underlying xt=some (.slice e):=by
  unfold A0T at hxt
  cases hu:P.underlying xt with
  | none=>simp [hu] at hxt
  | some q=>cases q <;> simp [hu] at hxt; exact ⟨_,rfl⟩
 obtain ⟨v',w',r1,r2⟩:=Inv.append (P:=P) (T0:=ty) (i.front hj) ht hxt' hz (Nat.eq_of_beq_eq_true hzs.1) (hs w i).1 (hs w i).2 (hs w.drew i.drew).2 hw (B4t h1) hb (Nat.le_of_ble_eq_true hzs.2)
 have:(execOp a.eval ⟨some dd,.call ⟨.builtin .append,#[x,y],#[t,xt]⟩,ty,pos,af,g⟩).run P w=.ok (.value v') w':=by
  simp [execOp,resolve,invoke,builtin,f.has.ev e,f.has.ev e',r1]
 exact A0j this (kk v' _ _ (f.put hd) r2)
def sub {α:Type} (xs:List α) (lo hi:Nat):List α:=(xs.take hi).drop lo
theorem C3Q {t et sz by_ len cap lo hi:Nat} {a:Option Addr} (ht:A0T P t=some (et,sz,by_)) (h1:lo≤hi) (h2:hi≤cap) {vl vh:Option Value} (hlo:vl=none∧lo=0∨∃ k,vl=some (.int k lo)) (hhi:vh=none∧hi=len∨∃ k,vh=some (.int k hi)) (w:World) :
  (Instr.sliceAt t (.slice a len cap) vl vh none).run P w=.ok (.slice (if cap=lo then a else a.map (·.add (lo*sz))) (hi - lo) (cap - lo)) w:=by
 obtain ⟨e1,e2,_⟩:=A6O ht
 rcases hlo with ⟨rfl,rfl⟩ | ⟨k,rfl⟩ <;> rcases hhi with ⟨rfl,rfl⟩ | ⟨k',rfl⟩ <;>
  simp [Instr.sliceAt,Instr.slice,e1,e2,Instr.sliceBounds,Instr.sliceBound,asIntOf,h1,h2]
theorem G9.sub {α:Type} {E:Vr α} {sz:Nat} {len cap lo hi:Nat} {a:Option Addr} {xs:List α} (s:G9 E sz h (.slice a len cap) xs) (h1:lo≤hi) (h2:hi≤xs.length) :
  G9 E sz h (.slice (if cap=lo then a else a.map (·.add (lo*sz))) (hi - lo) (cap - lo)) (sub xs lo hi):=by
 obtain ⟨⟨a',c',e,hc,hne⟩,hel⟩:=s
 simp at e
 obtain ⟨rfl,rfl,rfl⟩:=e
 have hl:(Sl.sub xs lo hi).length=hi - lo:=by simp [Sl.sub]; omega
 refine ⟨⟨_,_,by rw [hl],by omega,λh0=>?_⟩,λi x e=>?_⟩
 ·have hx:xs≠[]:=by
   rintro rfl; simp [Sl.sub] at h0
  obtain ⟨b,o,rfl⟩:=hne hx
  by_cases hcl:cap=lo
  ·exact ⟨b,o,by simp [hcl]⟩
  ·refine ⟨b,o+lo*sz,?_⟩
   simp [hcl,A0W]
 ·have hi':i<hi - lo:=by
   rw [←hl]
   rcases Nat.lt_or_ge i (Sl.sub xs lo hi).length with y | y
   ·exact y
   ·simp [List.getElem?_eq_none y] at e
  have hx:xs[lo+i]?=some x:=by
   simp only [Sl.sub,List.getElem?_drop,List.getElem?_take] at e
   split at e
   ·exact e
   ·cases e
  obtain ⟨cs,q1,q2,q3⟩:=hel _ x hx
  refine ⟨cs,q1,?_,q3⟩
  have hcl:¬ cap=lo:=by omega
  have hx':xs≠[]:=by rintro rfl; simp at hx
  obtain ⟨b,o,rfl⟩:=hne hx'
  have:A0K (.slice (if cap=lo then some ⟨b,o,none⟩ else (some (⟨b,o,none⟩:Addr)).map (·.add (lo*sz))) (hi - lo) (cap - lo)) i sz=A0K (.slice (some ⟨b,o,none⟩) xs.length cap) (lo+i) sz:=by
   rw [if_neg hcl]
   simp [A0K,A0W,Nat.add_mul]; omega
  rw [this]; exact q2
theorem slS {α:Type} {E:Vr α} {x:Operand} {lo hi:Option Operand} {t et sz by_:Nat} {v:Value} {xs:List α} {l u:Int} (ht:A0T P t=some (et,sz,by_)) (e:ev ρ x=some v) (hS:G9 E sz h v xs)
  (hlo:lo=none∧l=0∨∃ o k,lo=some o∧ev ρ o=some (.int k l)) (hhi:hi=none∧u=xs.length∨∃ o k,hi=some o∧ev ρ o=some (.int k u)) (hb:0≤l∧l≤u∧u≤xs.length) :
  ∃ v',Val P X ρ ⟨d,.slice t x lo hi none,ty,pos,af,g⟩ v'∧G9 E sz h v' (sub xs l.toNat u.toNat):=by
 obtain ⟨a,c,rfl,hc,_⟩:=hS.shape
 refine ⟨_,?_,hS.sub (lo:=l.toNat) (hi:=u.toNat) (by omega) (by omega)⟩
 intro act w _ hs
 have hr:=C3Q (P:=P) (t:=t) (len:=xs.length) (cap:=c) (a:=a) ht (lo:=l.toNat) (hi:=u.toNat) (by omega) (by omega) (vl:=lo.map act.eval) (vh:=hi.map act.eval) ?_ ?_ w
 ·simp only [execOp,hs.ev e,Option.map_none,Sem.run_bind,hr,Result.andThen_ok,Sem.run_pure]
 ·rcases hlo with ⟨rfl,rfl⟩ | ⟨o,k,rfl,e'⟩
  ·exact .inl ⟨rfl,rfl⟩
  ·refine .inr ⟨k,?_⟩; simp [hs.ev e']; omega
 ·rcases hhi with ⟨rfl,rfl⟩ | ⟨o,k,rfl,e'⟩
  ·exact .inl ⟨rfl,by omega⟩
  ·refine .inr ⟨k,?_⟩; simp [hs.ev e']; omega
theorem O.slR {dd:Nat} {x o:Operand} {t et sz by_ j:Nat} {v:Value} {k:IntKind} {css:List (List Value)} {l:Int} (ht:A0T P t=some (et,sz,by_)) (e:ev ρ x=some v) (e':ev ρ o=some (.int k l)) (hj:L[j]?=some (F3 et sz v css)) (hl:0≤l∧l≤css.length) (hd:Nat.blt dd n=true)
  (kk:∀ v',T n D ((dd,v')::ρ) h (F3 et sz v' (css.drop l.toNat)::L.eraseIdx j) K) :
  T n D ρ h L (λa w=>Oper.wr ⟨some dd,.slice t x (some o) none none,ty,pos,af,g⟩ ro P a w K Q):=λa w f i=>by
 have i1:=i.front hj
 obtain ⟨m,q1,q2,q3,m1,m2,q4,q5,q6,⟨hw,hr⟩,s⟩:=i1
 obtain ⟨c,rfl⟩:=Int.eq_ofNat_of_zero_le hl.1
 have hc:c≤css.length:=by omega
 have hwd:A1J sz (css.drop c):=λy hy=>hw y (List.mem_of_mem_drop hy)
 rcases hr with ⟨rfl,rfl⟩ | ⟨b,off,cap,bs,rfl,h1,hb,hsz,hel⟩
 ·have hc0:c=0:=by simpa using hc
  subst hc0
  have hrun:=C3Q (P:=P) (t:=t) (len:=0) (cap:=0) (a:=none) ht (lo:=0) (hi:=0) (by omega) (by omega) (vl:=some (.int k 0)) (vh:=none) (.inr ⟨k,rfl⟩) (.inl ⟨rfl,rfl⟩) w
  have:(execOp a.eval ⟨some dd,.slice t x (some o) none none,ty,pos,af,g⟩).run P w=.ok (.value (.slice none 0 0)) w:=by
   simp only [execOp,f.has.ev e,Option.map_some,f.has.ev e',Option.map_none,Sem.run_bind]
   rw [show ((0:Nat):Int)=0 from rfl,hrun]; rfl
  exact A0j this (kk _ _ _ (f.put hd) ⟨m,q1,q2,q3,m1,m2,q4,q5,q6,⟨by simpa using hw,.inl ⟨rfl,by simp⟩⟩,s⟩)
 ·have hrun:=C3Q (P:=P) (t:=t) (len:=css.length) (cap:=cap) (a:=some ⟨b,off,none⟩) ht (lo:=c) (hi:=css.length) hc h1 (vl:=some (.int k c)) (vh:=none) (.inr ⟨k,rfl⟩) (.inl ⟨rfl,rfl⟩) w
  have:(execOp a.eval ⟨some dd,.slice t x (some o) none none,ty,pos,af,g⟩).run P w=.ok (.value (.slice (if cap=c then some ⟨b,off,none⟩ else (some (⟨b,off,none⟩:Addr)).map (·.add (c*sz))) (css.length - c) (cap - c))) w:=by
   simp only [execOp,f.has.ev e,Option.map_some,f.has.ev e',Option.map_none,Sem.run_bind,hrun,Result.andThen_ok,Sem.run_pure]
  refine A0j this ?_
  refine kk _ _ _ (f.put hd) ⟨m,q1,q2,q3,m1,m2,q4,q5,q6,⟨hwd,.inr ?_⟩,s⟩
  by_cases hcap:cap=c
  ·refine ⟨b,off,cap - c,bs,by simp [hcap],by simp; omega,hb,by rw [hcap]; simp; omega,?_⟩
   intro q u hq
   have:css.drop c=[]:=List.drop_eq_nil_of_le (by omega)
   simp [this] at hq
  ·refine ⟨b,off+c*sz,cap - c,bs,?_,by simp; omega,hb,?_,?_⟩
   ·simp [hcap,A0W]
   ·have:(cap - c)*sz=cap*sz - c*sz:=Nat.sub_mul ..
    have h2:c*sz≤cap*sz:=Nat.mul_le_mul_right _ (by omega)
    omega
   ·intro q u hq
    have e1:css.flatten=(css.take c).flatten++(css.drop c).flatten:=by rw [←List.flatten_append,List.take_append_drop]
    have e2:((css.take c).flatten).length=c*sz:=by
     rw [A1c (λy hy=>hw y (List.mem_of_mem_take hy))]; simp [Nat.min_eq_left hc]
    have:=hel (c*sz+q) u (by rw [e1,List.getElem?_append_right (by omega),e2]; simpa using hq)
    rw [Nat.add_assoc]; exact this
end
end Go.Sl
namespace Go.Sl
open Go
def C5l (sz:Nat):List (List Value)→Bool
 | []=>true
 | c::cs=>Nat.beq c.length sz && C5l sz cs
theorem A1J.of {sz:Nat}:∀ {css:List (List Value)},C5l sz css=true→A1J sz css:=by
 intro css
 induction css with
 | nil=>intro _ c hc; cases hc
 | cons c cs ih=>
  intro h
  simp only [C5l,Bool.and_eq_true] at h
  intro d hd
  rcases List.mem_cons.1 hd with rfl | hd
  ·exact Nat.eq_of_beq_eq_true h.1
  ·exact ih h.2 d hd
inductive CO:List Value→List (List Value)→Prop where
 | nil:CO [] []
 | cons {v:Value} {c:List Value} {vs:List Value} {cs:List (List Value)}:v.cells=c.toArray→CO vs cs→CO (v::vs) (c::cs)
theorem CO.eq {vs:List Value} {css:List (List Value)} (h:CO vs css):vs.map Value.cells=css.map List.toArray:=by
 induction h with
 | nil=>rfl
 | cons e _ ih=>simp [e,ih]
theorem G9.cells {α:Type} {E:Vr α} {sz:Nat} {h:PH} {v:Value} {xs:List α} (s:G9 E sz h v xs):v.cells=[v].toArray:=by
 obtain ⟨a,c,rfl,_⟩:=s.shape; rfl
theorem G9.one {α:Type} {E:Vr α} {sz:Nat} {h:PH} {v:Value} {xs:List α} (s:G9 E sz h v xs):v.oneCell'=true:=by
 obtain ⟨a,c,rfl,_⟩:=s.shape; rfl
section
variable {ro:Option Nat} {P:Program} {n:Nat} {D:List Deferred} {ρ:Env} {h:PH} {L:List E5} {Q:Exit→Act→World→Prop}
variable {ops:Array Oper} {rest:List Oper} {X:World→Prop} {K:Act→World→Prop} {d:Option Nat} {ty:TypeId} {pos:String} {af:Array Edge} {g:Option (Nat×Bool)}
theorem T.D1U {Y:Act→World→Prop} (L':List E5) (e:L=L') (k:T n D ρ h L' Y):T n D ρ h L Y:=e ▸ k
end
end Go.Sl
namespace Go.Sl
open Go
def A5A (P:Program) (t:TypeId):Option (List Value×List (Nat×Nat)):=
 match zer P t,P.underlying t with
 | some z,some (.struct fs)=>some (z.cells.toList,fs.toList.map λf=>(f.offset,P.cellsOf f.type))
 | _,_=>none
def evp (ρ:Env):List (Nat×Operand)→Option (List (Nat×Value))
 | []=>some []
 | (i,x)::xs=>match ev ρ x,evp ρ xs with
  | some v,some vs=>some ((i,v)::vs)
  | _,_=>none
theorem Has.evp {ρ:Env} {a:Act} (h:Has ρ a):∀ {xs:List (Nat×Operand)} {vs:List (Nat×Value)},evp ρ xs=some vs→(xs.map λp=>(p.1,a.eval p.2))=vs:=by
 intro xs
 induction xs with
 | nil=>intro vs e; simp [Sl.evp] at e; simp [e]
 | cons p xs ih=>
  obtain ⟨i,x⟩:=p
  intro vs e
  simp only [Sl.evp] at e
  split at e
  ·rename_i v vs' h1 h2
   simp at e; subst e
   simp [h.ev h1,ih h2]
  ·cases e
inductive F6 (pl:List (Nat×Nat)):List Value→List (Nat×Value)→List Value→Prop where
 | nil {cs:List Value}:F6 pl cs [] cs
 | cons {cs ds us:List Value} {i off sz:Nat} {v:Value} {ps:List (Nat×Value)}:pl[i]?=some (off,sz)→v.cells=us.toArray→(Nat.beq us.length sz && Nat.ble (off+us.length) cs.length)=true→F6 pl (over cs us off) ps ds→F6 pl cs ((i,v)::ps) ds
theorem C8z (us:List Value):∀ (k off:Nat) (cs:List Value),off+k+us.length≤cs.length→
  ((us.zipIdx k).foldl (λ(a:Array Value) (p:Value×Nat)=>a.setIfInBounds (off+p.2) p.1) cs.toArray)=(over cs us (off+k)).toArray:=by
 induction us with
 | nil=>intro k off cs _; simp [over]
 | cons u us ih=>
  intro k off cs h
  simp only [List.length_cons] at h
  simp only [List.zipIdx_cons,List.foldl_cons,List.setIfInBounds_toArray]
  rw [ih (k+1) off _ (by simp; omega)]
  apply congrArg List.toArray
  unfold over
  have e2:(cs.set (off+k) u).take (off+(k+1))=cs.take (off+k)++[u]:=by
   rw [List.take_set,show off+(k+1)=(off+k)+1 by omega,List.take_add_one,List.set_append]
   simp [show off+k<cs.length by omega,Nat.min_eq_left (show off+k≤cs.length by omega)]
  have e3:(cs.set (off+k) u).drop (off+(k+1)+us.length)=cs.drop (off+k+(us.length+1)):=by
   rw [List.drop_set_of_lt (by omega)]; congr 1; omega
  rw [e2,e3]; simp
theorem F6.run {pl:List (Nat×Nat)} {cs ds:List Value} {ps:List (Nat×Value)} (f:F6 pl cs ps ds):Instr.fill (pl.toArray[·]?) cs.toArray ps=some ds.toArray:=by
 induction f with
 | nil=>rfl
 | @cons cs ds us i off sz v ps hp hv hl _ ih=>
  simp only [Bool.and_eq_true] at hl
  have h1:=Nat.eq_of_beq_eq_true hl.1
  have h2:=Nat.le_of_ble_eq_true hl.2
  simp only [Instr.fill,List.getElem?_toArray,hp,hv]
  rw [if_neg (by simp; omega)]
  have:=C8z us 0 off cs (by omega)
  simp only [Nat.add_zero] at this
  rw [←ih,←this,←Array.foldl_toList]
  simp
section
variable {P:Program} {ρ:Env} {X:World→Prop} {d:Option Nat} {ty:TypeId} {pos:String} {af:Array Edge} {g:Option (Nat×Bool)}
theorem C8p {t:TypeId} {zs:List Value} {pl:List (Nat×Nat)} (h:A5A P t=some (zs,pl)) (hp:∀ p∈pl,True):∃ z fs,(∀ w,(zeroValue t).run P w=.ok z w)∧z.cells=zs.toArray∧(∀ w,(underlying t).run P w=.ok (.struct fs) w)∧pl=fs.toList.map (λf=>(f.offset,P.cellsOf f.type)):=by
 unfold A5A at h
 split at h
 ·rename_i z fs hz hu
  cases h
  exact ⟨z,fs,λw=>A9A hz w,by simp,λw=>run_underlying hu w,rfl⟩
 ·cases h
theorem D1u (fs:List Field) (hall:∀ f∈fs,(P.info? f.type).isSome=true) (w:World):(fs.mapM (λf=>do pure (f.offset,←sizeOf f.type):Field→Sem (Nat×Nat))).run P w=.ok (fs.map λf=>(f.offset,P.cellsOf f.type)) w:=by
 induction fs with
 | nil=>simp
 | cons f fs ih=>
  have hf:=hall f List.mem_cons_self
  cases hi:P.info? f.type with
  | none=>simp [hi] at hf
  | some i=>
   have hc:P.cellsOf f.type=i.size:=by simp [Program.cellsOf,hi]
   simp only [List.mapM_cons,Sem.run_bind,run_sizeOf hi,Result.andThen_ok,Sem.run_pure,ih (λx hx=>hall x (List.mem_cons_of_mem _ hx)),List.map_cons,hc]
def A0B (P:Program) (t:TypeId):Bool:=match P.underlying t with
 | some (.struct fs)=>fs.toList.all λf=>(P.info? f.type).isSome
 | _=>false
theorem V.bld {t:TypeId} {xs:List (Nat×Operand)} {vs:List (Nat×Value)} {zs cs:List Value} {pl:List (Nat×Nat)} (hb:A5A P t=some (zs,pl)) (ho:A0B P t=true) (e:evp ρ xs=some vs) (f:F6 pl zs vs cs) :
  Val P X ρ ⟨d,.build t xs.toArray,ty,pos,af,g⟩ (.agg cs.toArray):=λa w _ hs=>by
 obtain ⟨z,fs,h1,h2,h3,h4⟩:=C8p hb (λ_ _=>trivial)
 have hall:∀ f∈fs.toList,(P.info? f.type).isSome=true:=by
  unfold A0B at ho
  have:=h3 w
  unfold underlying at this
  cases hu:P.underlying t with
  | none=>simp [hu] at this
  | some q=>
   simp [hu] at this
   subst this
   simp only [hu] at ho
   exact λf hf=>List.all_eq_true.1 ho f hf
 have hm:=D1u (P:=P) fs.toList hall w
 have he:=hs.evp e
 have hmA:(fs.mapM (λf=>do pure (f.offset,←sizeOf f.type):Field→Sem (Nat×Nat))).run P w=.ok pl.toArray w:=by
  have e2:fs.mapM (λf=>do pure (f.offset,←sizeOf f.type):Field→Sem (Nat×Nat))=Functor.map List.toArray (fs.toList.mapM (λf=>do pure (f.offset,←sizeOf f.type):Field→Sem (Nat×Nat))):=by
   rw [Array.mapM_eq_mapM_toList]
  rw [e2,Sem.run_map,hm,Result.andThen_ok,h4]
 have hfill:=f.run
 have hp:((xs.toArray.map λ(i,x)=>(i,a.eval x)):Array (Nat×Value)).toList=vs:=by rw [←he]; simp
 simp only [execOp,Instr.build,Sem.run_bind,h1,h2,h3,Result.andThen_ok,hmA,hp,hfill,Sem.run_pure]
end
end Go.Sl
namespace Go.Sl
open Go
section
variable {ro:Option Nat} {P:Program} {n:Nat} {D:List Deferred} {ρ:Env} {h:PH} {L:List E5} {Q:Exit→Act→World→Prop}
variable {ops:Array Oper} {rest:List Oper} {X:World→Prop} {K:Act→World→Prop} {d:Option Nat} {ty:TypeId} {pos:String} {af:Array Edge} {g:Option (Nat×Bool)}
end
end Go.Sl
namespace Go.Sl
open Go
def picks (ρ:Env):List Nat→Option Env
 | []=>some []
 | t::ts=>match lk ρ t,picks ρ ts with
  | some v,some σ=>some ((t,v)::σ)
  | _,_=>none
theorem B8l {ρ:Env}:∀ {ks:List Nat} {σ:Env},picks ρ ks=some σ→A5b ρ σ:=by
 intro ks
 induction ks with
 | nil=>intro σ e; simp [picks] at e; subst e; trivial
 | cons t ts ih=>
  intro σ e
  simp only [picks] at e
  split at e
  ·rename_i v τ h1 h2
   simp at e; subst e
   exact ⟨h1,ih h2⟩
  ·cases e
theorem A5b.app {ρ:Env}:∀ {a b:Env},A5b ρ a→A5b ρ b→A5b ρ (a++b):=by
 intro a
 induction a with
 | nil=>intro b _ h; exact h
 | cons p r ih=>intro b h h'; exact ⟨h.1,ih h.2 h'⟩
section
variable {ro:Option Nat} {P:Program} {n:Nat} {D:List Deferred} {ρ:Env} {h:PH} {L:List E5} {Q:Exit→Act→World→Prop} {K:Act→World→Prop}
theorem T.norm {Y:Act→World→Prop} (ks:List Nat) {σ:Env} (hσ:picks ρ ks=some σ) (k:T n D σ h L Y):T n D ρ h L Y:=T.weak (B8l hσ) k
theorem T.C3f {α:Type} {c:Code} (ks:List Nat) {σ:Env} (hσ:picks ρ ks=some σ) (ch:α→Env) (Ls:α→List E5) (pre:α→PH→Prop) (μ:α→Nat) (x₀:α)
  (hρ:A5b ρ (ch x₀)) (hL:L=Ls x₀) (hp:pre x₀ h)
  (round:∀ x h',Le h h'→pre x h'→T n D (ch x++σ) h' (Ls x) (c.wr ro P (Exit.then (C4H n D h (λx=>ch x++σ) Ls pre μ x) Q))):T n D ρ h L ((Code.loop c).wr ro P Q):=
 T.loop (λx=>ch x++σ) Ls pre μ x₀ (hρ.app (B8l hσ)) hL hp round
theorem T.D4N {α:Type} {c:Code} (ks:List Nat) {σ:Env} (hσ:picks ρ ks=some σ) (ch:α→Env) (Ls:α→List E5) (pre:α→PH→Prop)
  (k1:T n D ρ h L (c.wr ro P (Exit.then (Met n D h (λx=>ch x++σ) Ls pre) Q))) (k2:∀ y h',Le h h'→pre y h'→T n D (ch y++σ) h' (Ls y) K) :
  T n D ρ h L (c.wr ro P (Exit.then K Q)):=T.cut (λx=>ch x++σ) Ls pre k1 k2
end
end Go.Sl
namespace Go.Sl
open Go
section
variable {ro:Option Nat} {P:Program} {n:Nat} {D:List Deferred} {ρ:Env} {h:PH} {L:List E5} {Q:Exit→Act→World→Prop} {K:Act→World→Prop}
variable {d:Option Nat} {ty:TypeId} {pos:String} {af:Array Edge} {g:Option (Nat×Bool)}
theorem C4L {cs vs:List Value} (he:cs.length=vs.length):over cs vs 0=vs:=by
 unfold over; simp [←he]
theorem O.stF {x y:Operand} {t b m:Nat} {bb:Bool} {cs vs:List Value} {el:TypeId} {v:Value} {j:Nat} (ht:U1 P t=some (bb,m)) (e:ev ρ x=some (.pointer (some ⟨b,0,none⟩))) (e':ev ρ y=some v)
  (hj:L[j]?=some (blk b (.cells cs.toArray el))) (hv:v.cells=vs.toArray) (hm:ones vs=true) (hl:(Nat.beq vs.length m && Nat.beq cs.length m)=true)
  (kk:T n D ρ h (blk b (.cells vs.toArray el)::L.eraseIdx j) K) :
  T n D ρ h L (λa w=>Oper.wr ⟨none,.store t x y,ty,pos,af,g⟩ ro P a w K Q):=by
 simp only [Bool.and_eq_true] at hl
 have h1:=Nat.eq_of_beq_eq_true hl.1
 have h2:=Nat.eq_of_beq_eq_true hl.2
 have h3:Nat.ble (0+vs.length) cs.length=true:=by rw [Nat.ble_eq]; omega
 refine O.st0 ht e e' hj hv ?_ ?_
 ·simp only [Bool.and_eq_true]
  exact ⟨⟨hm,hl.1⟩,h3⟩
 ·rw [C4L (by omega)]; exact kk
end
end Go.Sl
namespace Go.Sl
open Go
section
variable {ro:Option Nat} {P:Program} {n:Nat} {D:List Deferred} {ρ:Env} {h:PH} {L:List E5} {Q:Exit→Act→World→Prop} {K:Act→World→Prop} {X:World→Prop}
variable {ops:Array Oper} {rest:List Oper} {d:Option Nat} {ty:TypeId} {pos:String} {af:Array Edge} {g:Option (Nat×Bool)}
theorem T.slM {α:Type} {E:Vr α} {dd:Nat} {x:Operand} {lo hi:Option Operand} {t et sz by_:Nat} {v:Value} {xs:List α} {l u:Int} (hg:gd ops ρ g=true) (ht:A0T P t=some (et,sz,by_)) (e:ev ρ x=some v) (hS:G9 E sz h v xs)
  (hlo:lo=none∧l=0∨∃ o k,lo=some o∧ev ρ o=some (.int k l)) (hhi:hi=none∧u=xs.length∨∃ o k,hi=some o∧ev ρ o=some (.int k u)) (hb:0≤l∧l≤u∧u≤xs.length) (hd:Nat.blt dd n=true)
  (kk:∀ v',G9 E sz h v' (sub xs l.toNat u.toNat)→(sub xs l.toNat u.toNat).length=u.toNat - l.toNat→T n D ((dd,v')::ρ) h L (lwr ro P ops Q rest)):T n D ρ h L (lwr ro P ops Q (⟨some dd,.slice t x lo hi none,ty,pos,af,g⟩::rest)):=by
 obtain ⟨v',h1,h2⟩:=Sl.slS (P:=P) (X:=XI h L) (d:=some dd) (ty:=ty) (pos:=pos) (af:=af) (g:=g) ht e hS hlo hhi hb
 exact T.v hg h1 hd (kk v' (by simpa [sub] using h2) (by simp [sub] <;> omega))
end
end Go.Sl
namespace Go.Sl
open Go
section
variable {ro:Option Nat} {P:Program} {n:Nat} {D:List Deferred} {ρ:Env} {h:PH} {L:List E5} {Q:Exit→Act→World→Prop} {K:Act→World→Prop} {X:World→Prop}
variable {ops:Array Oper} {rest:List Oper} {d:Option Nat} {ty:TypeId} {pos:String} {af:Array Edge} {g:Option (Nat×Bool)}
end
end Go.Sl
namespace Go.Sl
open Go
end Go.Sl
namespace Go.Sl
open Go
theorem B7M {cs vs:List Value} {k q:Nat} (h:k+vs.length≤cs.length):(over cs vs k)[q]?=if k≤q∧q<k+vs.length then vs[q - k]? else cs[q]?:=by
 unfold over
 by_cases h1:q<k
 ·rw [if_neg (by omega),List.append_assoc,List.getElem?_append_left (by simp; omega),List.getElem?_take,if_pos h1]
 ·by_cases h2:q<k+vs.length
  ·rw [if_pos ⟨by omega,h2⟩,List.append_assoc,List.getElem?_append_right (by simp; omega),List.getElem?_append_left (by simp; omega)]
   simp; congr 1; omega
  ·rw [if_neg (by omega),List.getElem?_append_right (by simp; omega)]
   simp only [List.length_append,List.length_take,List.getElem?_drop]
   congr 1; omega
theorem C5G {cs vs:List Value} {k:Nat} (h:k+vs.length≤cs.length):(over cs vs k).length=cs.length:=by
 unfold over; simp; omega
theorem C9T {sz:Nat}:∀ {css:List (List Value)} {i k:Nat} {c vs:List Value},A1J sz css→css[i]?=some c→k+vs.length≤sz→(css.set i (over c vs k)).flatten=over css.flatten vs (i*sz+k):=by
 intro css
 induction css with
 | nil=>intro i k c vs _ h; simp at h
 | cons d css ih=>
  intro i k c vs hw hi hk
  have hd:=hw d List.mem_cons_self
  cases i with
  | zero=>
   simp at hi; subst hi
   simp only [List.set_cons_zero,List.flatten_cons,Nat.zero_mul,Nat.zero_add]
   unfold over
   rw [List.take_append_of_le_length (by omega),List.drop_append_of_le_length (by omega)]
   simp
  | succ i=>
   simp at hi
   simp only [List.set_cons_succ,List.flatten_cons]
   rw [ih (λx hx=>hw x (List.mem_cons_of_mem _ hx)) hi hk]
   unfold over
   have e1:(i+1)*sz+k=d.length+(i*sz+k):=by rw [Nat.add_mul,hd]; omega
   rw [e1,List.take_append,List.drop_append]
   have e2:List.take (d.length+(i*sz+k)) d=d:=List.take_of_length_le (by omega)
   have e3:List.drop (d.length+(i*sz+k)+vs.length) d=[]:=List.drop_eq_nil_of_le (by omega)
   rw [e2,e3]
   simp only [Nat.add_sub_cancel_left,List.nil_append,List.append_assoc]
   congr 4
   omega
theorem D0N {sz:Nat} {css:List (List Value)} {i:Nat} {c:List Value} (hw:A1J sz css) (hi:css[i]?=some c):i*sz+sz≤css.flatten.length:=by
 have hlt:i<css.length:=by
  rcases Nat.lt_or_ge i css.length with x | x
  ·exact x
  ·simp [List.getElem?_eq_none x] at hi
 rw [A1c hw]
 have:(i+1)*sz≤css.length*sz:=Nat.mul_le_mul_right _ hlt
 rw [Nat.add_mul] at this; omega
theorem F3.wr {P:Program} {w:World} {h:PH} {L:List E5} {E:TypeId} {sz:Nat} {v u:Value} {css:List (List Value)} {i k m t:Nat} {bb:Bool} {c vs:List Value} (iv:Inv w h (F3 E sz v css::L)) (hi:css[i]?=some c) (ht:U1 P t=some (bb,m)) (hu:u.cells=vs.toArray) (hm:vs.length=m) (hk:k+vs.length≤sz) (h1:∀ x∈vs,x.oneCell'=true) :
  ∃ w',(Go.storeVar t ((A0K v i sz).add k) u).run P w=.ok () w'∧Inv w' h (F3 E sz v (css.set i (over c vs k))::L):=by
 obtain ⟨mm,a,l,dj,m1,m2,d',l1,l2,⟨hw,hr⟩,s⟩:=iv
 have hcm:c∈css:=List.mem_of_getElem? hi
 have hcl:=hw c hcm
 have hw':A1J sz (css.set i (over c vs k)):=by
  intro x hx
  rcases List.mem_or_eq_of_mem_set hx with h | rfl
  ·exact hw x h
  ·rw [C5G (by omega)]; exact hcl
 rcases hr with ⟨rfl,rfl⟩ | ⟨b,off,cap,bs,rfl,hcap,hb,hsz,hel⟩
 ·simp at hi
 ·have ib:Inv w h (blk b (.cells bs E (0,0))::L):=⟨mm,a,l,dj,m1,m2,d',l1,l2,hb,s⟩
  have hbw:=ib.own (k:=0) rfl
  have hfa:=D0N hw hi
  have hfl:=A1c hw
  have hroom:off+i*sz+k+0+vs.length≤bs.size:=by
   have:css.length*sz≤cap*sz:=Nat.mul_le_mul_right _ hcap
   omega
  obtain ⟨w',bs',r1,r2,r3,r4,r5,r6,r7,r8,r9⟩:=B5Q (P:=P) (b:=b) (el:=E) vs 0 bs w (off+i*sz+k) h1 hbw hroom
  have ea:(A0K (.slice (some ⟨b,off,none⟩) css.length cap) i sz).add k=⟨b,off+i*sz+k,none⟩:=A0W _ _ rfl
  refine ⟨w',?_,?_⟩
  ·rw [ea]; simp only [Go.storeVar,Sem.run_bind,B4v ht,Result.andThen_ok,hu]
   simp [hm,r1]
  ·obtain ⟨w2,bs2,q1,q2,q3,q4,q5,q6⟩:∃ w2 bs2,w2=w'∧w2.heap[b]?=some (.cells bs2 E (0,0))∧bs2.size=bs.size∧(∀ q x,vs[q]?=some x→bs2[off+i*sz+k+q]?=some x)∧(∀ q,q<off+i*sz+k→bs2[q]?=bs[q]?)∧(∀ q,off+i*sz+k+vs.length≤q→bs2[q]?=bs[q]?):=by
    obtain ⟨w3,t1,t2,t3,_⟩:=B3x (P:=P) (b:=b) (el:=E) vs 0 bs.toList w (off+i*sz+k) h1 (by simpa using hbw) (by simpa using hroom)
    rw [r1] at t1
    cases t1
    refine ⟨w',_,rfl,t2,?_,?_,?_,?_⟩
    ·rw [List.size_toArray,C5G (by simpa using hroom)]; simp
    ·intro q x hq
     have hql:q<vs.length:=by
      rcases Nat.lt_or_ge q vs.length with z | z
      ·exact z
      ·simp [List.getElem?_eq_none z] at hq
     simp only [List.getElem?_toArray]
     rw [B7M (by simpa using hroom),if_pos ⟨by omega,by omega⟩,show off+i*sz+k+q - (off+i*sz+k+0)=q by omega]; exact hq
    ·intro q hq
     simp only [List.getElem?_toArray]
     rw [B7M (by simpa using hroom),if_neg (by omega)]; simp
    ·intro q hq
     simp only [List.getElem?_toArray]
     rw [B7M (by simpa using hroom),if_neg (by omega)]; simp
   subst q1
   have i2:=ib.set q2 r6 r7 r8 r9
   refine i2.weak λmm hm=>⟨hw',.inr ⟨b,off,cap,_,by simp,by simpa using hcap,hm,by omega,?_⟩⟩
   intro q x hq
   rw [C9T hw hi hk,B7M (by omega)] at hq
   split at hq
   ·rename_i hq'
    have:=q4 _ x hq
    rwa [show off+i*sz+k+(q - (i*sz+k))=off+q by omega] at this
   ·rename_i hq'
    have:=hel q x hq
    rcases Nat.lt_or_ge q (i*sz+k) with z | z
    ·rw [q5 _ (by omega)]; exact this
    ·rw [q6 _ (by omega)]; exact this
section
variable {α:Type} {enc:α→List Value}
variable {ro:Option Nat} {P:Program} {n:Nat} {D:List Deferred} {ρ:Env} {h:PH} {L:List E5} {Q:Exit→Act→World→Prop}
variable {ops:Array Oper} {rest:List Oper} {X:World→Prop} {K:Act→World→Prop} {d:Option Nat} {ty:TypeId} {pos:String} {af:Array Edge} {g:Option (Nat×Bool)}
theorem C5X {w:World} {E sz j i k:Nat} {v u:Value} {css:List (List Value)} {c:List Value} (iv:Inv w h L) (hj:L[j]?=some (F3 E sz v css)) (hc:css[i]?=some c) (hu:c[k]?=some u) :
  w.cell? ((A0K v i sz).add k)=some u:=by
 obtain ⟨hw,hr⟩:=iv.row hj
 rcases hr with ⟨rfl,rfl⟩ | ⟨b,off,cap,bs,rfl,h1,hb,hsz,hel⟩
 ·simp at hc
 ·have:=hel (i*sz+k) u (flat_get hw hc hu)
  rw [A0W _ _ (by rfl)]
  simp only [A0K,World.cell?,hb]
  rw [←Nat.add_assoc] at this
  simpa using this
end
end Go.Sl
namespace Go.Sl
open Go
section
variable {ro:Option Nat} {P:Program} {n:Nat} {D:List Deferred} {ρ:Env} {h:PH} {L L0:List E5} {Q:Exit→Act→World→Prop} {K:Act→World→Prop} {X:World→Prop}
variable {ops:Array Oper} {rest:List Oper} {d:Option Nat} {ty:TypeId} {pos:String} {af:Array Edge} {g:Option (Nat×Bool)}
end
end Go.Sl
namespace Go.Sl
open Go
section
variable {ro:Option Nat} {P:Program} {ops:Array Oper} {Q:Exit→Act→World→Prop} {md:Region.Mode} {X X0 X1:World→Prop} {p:Nat}
def SX (X0 X1:World→Prop) (ph:Bool) (w:World):Prop:=X1 w∧(ph=false→X0 w)
def past (p:Nat) (listed:Array Bool):Bool:=listed.getD p false
def Cl (md:Region.Mode) (ops:Array Oper) (p:Nat) (listed:Array Bool):Prop:=
 past p listed=true→∀ o,ops[p]?=some o→∀ e∈o.after,Region.binds md e=true→listed.getD e.on false=true
def A7A (ro:Option Nat) (P:Program) (md:Region.Mode) (ops:Array Oper) (p:Nat) (X0 X1:World→Prop) (Q:Exit→Act→World→Prop):Nat→Array Bool→Act→World→Prop
 | 0,listed,a,w=>SX X0 X1 (past p listed) w∧Region.ready md ops listed=[]∧Q .normal a w
 | fuel+1,listed,a,w=>
  SX X0 X1 (past p listed) w∧(Region.ready md ops listed=[]→Q .normal a w)∧
  ∀ i∈Region.ready md ops listed,opr ro P ops Q i (A7A ro P md ops p X0 X1 Q fuel (listed.setIfInBounds i true)) a w
theorem A7A.at {fuel:Nat} {listed:Array Bool} {a:Act} {w:World} (h:A7A ro P md ops p X0 X1 Q fuel listed a w):SX X0 X1 (past p listed) w:=by
 cases fuel <;> exact h.1
theorem C1z:∀ (fuel:Nat) (listed:Array Bool) (a:Act) (w:World),A7A ro P md ops p X0 X1 Q fuel listed a w→wpAnyIn (Fen ro) 0 P md ops Q fuel listed a w
 | 0,_,_,_,h=>h.2
 | fuel+1,_,_,_,h=>⟨h.2.1,λi hi=>B7w (λa w=>C1z fuel _ a w) (h.2.2 i hi)⟩
theorem B3P {p i:Nat} {listed:Array Bool} (h:p≠i):past p (listed.setIfInBounds i true)=past p listed:=by
 unfold past; exact getD_set_ne false (λe=>h e.symm)
theorem C4I {i:Nat} {listed:Array Bool} (h:i∈Region.ready md ops listed):i<listed.size:=by
 have h0:=(mem_ready.1 h).1
 rcases Nat.lt_or_ge i listed.size with h' | h'
 ·exact h'
 ·simp [Array.getElem?_eq_none h'] at h0
theorem Cl.set {i:Nat} {listed:Array Bool} (hc:Cl md ops p listed) (hr:i∈Region.ready md ops listed):Cl md ops p (listed.setIfInBounds i true):=by
 intro hp o ho e he hb
 obtain ⟨h1,oi,hoi,hall⟩:=mem_ready.1 hr
 have key:listed.getD e.on false=true→(listed.setIfInBounds i true).getD e.on false=true:=by
  intro h
  by_cases hie:i=e.on
  ·subst hie
   have hlt:=C4I hr
   simp [hlt]
  ·rw [getD_set_ne false hie]; exact h
 by_cases hpi:p=i
 ·subst hpi
  rw [hoi] at ho; cases ho
  exact key (hall e he hb)
 ·rw [B3P hpi] at hp
  exact key (hc hp o ho e he hb)
theorem B6Z {i:Nat} {oi:Oper} {v:Value} (hi:ops[i]?=some oi) (hsel:∀ (j:Nat) (o:Oper) cs b,ops[j]?=some o→o.op≠.select cs b) (hdf:B2N ops=true)
  (hQ:∀ c a w,Q (.panic c) (a.put oi.dst v) w→Q (.panic c) a w) (hip:p≠i)
  (hxi:∀ listed w,i∈Region.ready md ops listed→Cl md ops p listed→SX X0 X1 (past p listed) w→X w) :
  ∀ (fuel:Nat) (listed:Array Bool) (a:Act) (w:World),Cl md ops p listed→
   (∀ j oj,ops[j]?=some oj→j≠i→listed.getD j true=false→(∀ e∈oj.after,Region.binds md e=true→e.on≠i)→oi.apart ops oj=true)→
   i∈Region.ready md ops listed→Oper.at oi P ops X v a→SX X0 X1 (past p listed) w→
   A7A ro P md ops p X0 X1 Q fuel (listed.setIfInBounds i true) (a.put oi.dst v) w→A7A ro P md ops p X0 X1 Q (fuel+1) listed a w:=by
 intro fuel
 induction fuel with
 | zero=>
  intro listed a w hc _ hr hy hx H
  refine ⟨hx,λh=>(by rw [h] at hr; cases hr),λj hj=>?_⟩
  by_cases hji:j=i
  ·subst hji; exact C7j hi hy (hxi listed w hr hc hx) H
  ·have:=ready_mono hj hji
   rw [H.2.1] at this
   cases this
 | succ fuel ih=>
  intro listed a w hc hfree hr hy hx H
  refine ⟨hx,λh=>(by rw [h] at hr; cases hr),λj hj=>?_⟩
  by_cases hji:j=i
  ·subst hji; exact C7j hi hy (hxi listed w hr hc hx) H
  ·have h1:=H.2.2 j (ready_mono hj hji)
   obtain ⟨hjun,oj,hoj,hall⟩:=mem_ready.1 hj
   have hnot:∀ e∈oj.after,Region.binds md e=true→e.on≠i:=λe he hb heq=>by
    have h1:=hall e he hb
    have h0:=(mem_ready.1 hr).1
    rw [heq] at h1
    rcases Nat.lt_or_ge i listed.size with h' | h'
    ·simp [h'] at h0 h1; rw [h0] at h1; cases h1
    ·simp [Array.getElem?_eq_none h'] at h1
   have h2:=D3d hoj (hfree j oj hoj hji hjun hnot) (λcs b=>hsel i oi cs b hi) (λcs b=>hsel j oj cs b hoj) (C3W hdf hoj) hQ hy h1
   have hfree':∀ k ok,ops[k]?=some ok→k≠i→(listed.setIfInBounds j true).getD k true=false→
     (∀ e∈ok.after,Region.binds md e=true→e.on≠i)→oi.apart ops ok=true:=λk ok hk hki hun hno=>by
    refine hfree k ok hk hki ?_ hno
    by_cases hjk:j=k
    ·subst hjk; exact hjun
    ·rw [getD_set_ne true hjk] at hun; exact hun
   refine B7w (λa' w' h3=>ih (listed.setIfInBounds j true) a' w' (hc.set hj) hfree' (ready_mono hr (Ne.symm hji)) h3.1 ?_ ?_) h2
   ·have:=h3.2.at
    rw [Array.setIfInBounds_comm _ _ (Ne.symm hji),B3P hip] at this
    exact this
   ·rw [Array.setIfInBounds_comm _ _ hji]
    exact h3.2
def waits (md:Region.Mode) (ops:Array Oper) (p i:Nat):Bool:=match ops[p]? with
 | some o=>o.after.toList.any λe=>Region.binds md e && e.on == i
 | none=>false
theorem C5t {i:Nat} {listed:Array Bool} (h:waits md ops p i=true) (hr:i∈Region.ready md ops listed) (hc:Cl md ops p listed):past p listed=false:=by
 cases hp:past p listed with
 | false=>rfl
 | true=>
  exfalso
  unfold waits at h
  split at h
  ·rename_i o ho
   simp only [List.any_eq_true,Bool.and_eq_true,beq_iff_eq] at h
   obtain ⟨e,he,hb,rfl⟩:=h
   have h1:=hc hp o ho e (by simpa using he) hb
   have h0:=(mem_ready.1 hr).1
   rcases Nat.lt_or_ge e.on listed.size with h' | h'
   ·simp [h'] at h0 h1; rw [h0] at h1; cases h1
   ·simp [Array.getElem?_eq_none h'] at h0
  ·cases h
theorem C1O {i:Nat} {oi:Oper} {v:Value} (hi:ops[i]?=some oi) (hsel:∀ (j:Nat) (o:Oper) cs b,ops[j]?=some o→o.op≠.select cs b) (hdf:B2N ops=true)
  (hQ:∀ c a w,Q (.panic c) (a.put oi.dst v) w→Q (.panic c) a w) (hip:p≠i) (hwt:waits md ops p i=true)
  (fuel:Nat) (listed:Array Bool) (a:Act) (w:World) (hz:listed.size=ops.size) (hc:Cl md ops p listed)
  (hfree:∀ j oj,ops[j]?=some oj→j≠i→listed.getD j true=false→(∀ e∈oj.after,Region.binds md e=true→e.on≠i)→oi.apart ops oj=true)
  (hr:i∈Region.ready md ops listed) (hy:Oper.at oi P ops X0 v a) (hx:SX X0 X1 (past p listed) w)
  (H:A7A ro P md ops p X0 X1 Q fuel (listed.setIfInBounds i true) (a.put oi.dst v) w):A7A ro P md ops p X0 X1 Q (fuel+1) listed a w:=
 B6Z (X:=X0) hi hsel hdf hQ hip (λlisted' w' hr' hc' hx'=>hx'.2 (C5t hwt hr' hc')) fuel listed a w hc hfree hr hy hx H
inductive Stp where
 | v | x | s
end
section T
variable {ro:Option Nat} {P:Program} {n:Nat} {D:List Deferred} {ρ:Env} {h g:PH} {L:List E5} {Q:Exit→Act→World→Prop} {K:Act→World→Prop} {X X0 X1:World→Prop}
variable {ops:Array Oper} {r:List (Stp×Nat)} {i p:Nat} {ph:Bool}
def XA (h:PH) (As:List E5):World→Prop:=λw=>∃ h' L',Le h h'∧Inv w h' (As++L')
theorem XA.of {w:World} {h':PH} {As L':List E5} (l:Le h h') (iv:Inv w h' (As++L')):XA h As w:=⟨h',L',l,iv⟩
instance (h:PH) (As:List E5):HX (XA h As) h:=⟨λ_ ⟨_,_,l,iv⟩=>l.trans iv.le⟩
theorem Val.XA {As:List E5} {o:Oper} {v:Value} (hv:∀ h' L',Le h h'→Val P (XI h' (As++L')) ρ o v):Val P (XA h As) ρ o v:=λa w ⟨h',L',l,iv⟩ hs=>hv h' L' l a w iv hs
end T
end Go.Sl
namespace Go.Sl
open Go
def frs:List E5→List Nat→Option (List E5)
 | L,[]=>some L
 | L,j::js=>match L[j]? with
  | some A=>frs (A::L.eraseIdx j) js
  | none=>none
theorem Inv.frs {w:World} {h:PH}:∀ {js:List Nat} {L L':List E5},Inv w h L→Sl.frs L js=some L'→Inv w h L':=by
 intro js
 induction js with
 | nil=>intro L L' i e; simp [Sl.frs] at e; exact e ▸ i
 | cons j js ih=>
  intro L L' i e
  simp only [Sl.frs] at e
  split at e
  ·rename_i A hA; exact ih (i.front hA) e
  ·cases e
def C6D:Nat→List E5→Option (List E5×List E5)
 | 0,L=>some ([],L)
 | k+1,[]=>none
 | k+1,A::L=>match C6D k L with
  | some (As,R)=>some (A::As,R)
  | none=>none
section T
variable {ro:Option Nat} {P:Program} {n:Nat} {D:List Deferred} {ρ:Env} {h g:PH} {L:List E5} {Q:Exit→Act→World→Prop} {K:Act→World→Prop} {X X0 X1:World→Prop}
variable {ops:Array Oper} {i:Nat} {ph:Bool}
theorem SX.one (h1:∀ w,Inv w h L→X1 w) (hp:ph=true):∀ w,Inv w h L→SX X0 X1 ph w:=λw iv=>⟨h1 w iv,λe=>by rw [hp] at e; cases e⟩
theorem SX.two (h1:∀ w,Inv w h L→X1 w) (h0:∀ w,Inv w h L→X0 w):∀ w,Inv w h L→SX X0 X1 ph w:=λw iv=>⟨h1 w iv,λ_=>h0 w iv⟩
theorem XA.fr {h':PH} {As L':List E5} (js:List Nat) (l:Le h h') (e:frs L js=some (As++L')):∀ w,Inv w h' L→XA h As w:=λ_ iv=>XA.of l (iv.frs e)
end T
end Go.Sl
namespace Go.Sl
open Go
section T
variable {ro:Option Nat} {P:Program} {n:Nat} {D:List Deferred} {ρ:Env} {h g:PH} {L:List E5} {Q:Exit→Act→World→Prop} {K:Act→World→Prop} {X0 X1:World→Prop}
variable {ops:Array Oper} {p:Nat} {ph:Bool} {ty:TypeId} {pos:String} {af:Array Edge} {g:Option (Nat×Bool)}
end T
end Go.Sl
