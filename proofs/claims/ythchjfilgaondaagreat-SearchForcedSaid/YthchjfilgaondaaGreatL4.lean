import Derived.Test.YthchjfilgaondaaGreatL3
import Derived.Laws.StructEq
/- Rules. -/
set_option maxRecDepth 1000000
set_option maxHeartbeats 40000000
set_option linter.unusedVariables false
set_option linter.unusedSimpArgs false
set_option linter.unusedSectionVars false
set_option linter.unnecessarySimpa false
namespace Go.Sl
open Go
inductive SK where
 | i (k:IntKind)
 | b
 | s
def D2L (P:Program) (t:TypeId):Option SK:=match P.underlying t with
 | some (.int k)=>some (.i k)
 | some .bool=>some .b
 | some .string=>some .s
 | _=>none
def C6i (P:Program) (t:TypeId):Bool:=match P.underlying t,P.info? t with
 | some (.int _),some i=>i.size == 1
 | some .bool,some i=>i.size == 1
 | some .string,some i=>i.size == 1
 | _,_=>false
def D0u (P:Program):List Field→Option (List (Nat×SK))
 | []=>some []
 | f::fs=>match D2L P f.type,D0u P fs with
  | some k,some r=>if f.name ≠ "_"∧C6i P f.type = true then some ((f.offset,k)::r) else none
  | _,_=>none
def D1I (P:Program) (t:TypeId):Option (List (Nat×SK)):=
 if P.stoodInHeld t || P.eqGuardType P.depth t then none else match P.underlying t with
  | some (.struct fs)=>D0u P fs.toList
  | _=>none
def D3c:SK→Value→Value→Option Bool
 | .i k,.int k1 a,.int k2 b=>bif decide (k1=k2) then some (decide (a=b)) else none
 | .b,.bool a,.bool b=>some (a == b)
 | .s,.string a,.string b=>some (decide (a=b))
 | _,_,_=>none
def eqL:List (Nat×SK)→List Value→List Value→Option Bool
 | [],_,_=>some true
 | (o,k)::r,xs,ys=>match xs[o]?,ys[o]? with
  | some a,some b=>match D3c k a b,eqL r xs ys with
   | some p,some q=>some (p && q)
   | _,_=>none
  | _,_=>none
theorem D0w {P:Program} {t:TypeId} {k:SK} {a b:Value} {r:Bool} (hk:D2L P t=some k) (h:D3c k a b=some r) (d:Nat) (w:World):(Op.equalIn (d+1) t a b).run P w=.ok r w:=by
 unfold D2L at hk
 unfold D3c at h
 split at h
 ·rename_i k k1 a k2 b
  cases hkk:decide (k1=k2) with
  | false=>simp [hkk] at h
  | true=>
   have:=of_decide_eq_true hkk
   subst this
   simp [hkk] at h; subst h
   split at hk <;> cases hk
   rename_i hu
   rw [run_equalIn_int w d t _ _ _ _ hu]; simp [BEq.beq]
 ·cases h
  split at hk <;> cases hk
  rename_i hu
  exact run_equalIn_bool' w d t _ _ hu
 ·cases h
  split at hk <;> cases hk
  rename_i hu
  rw [run_equalIn_string w d t _ _ hu,toList_eq]
 ·cases h
theorem C4O {P:Program} {t:TypeId} {xs:List Value} {o:Nat} {a:Value} (hc:C6i P t=true) (h:xs[o]?=some a) (w:World):(part t xs.toArray o).run P w=.ok a w:=by
 unfold C6i at hc
 have key:∀ (dsc:TypeDesc) (i:TypeInfo),P.underlying t=some dsc→P.info? t=some i→i.size=1→(∀ fs,dsc≠.struct fs)→(∀ n e,dsc≠.array n e)→(part t xs.toArray o).run P w=.ok a w:=by
  intro dsc i h1 h2 h3 h4 h5
  have ht:U1 P t=some (false,1):=by
   unfold U1; rw [h1,h2]
   cases dsc <;> simp_all
  simp [part,B4h ht,h]
 split at hc
 ·rename_i h1 h2; exact key _ _ h1 h2 (by simpa using hc) (by simp) (by simp)
 ·rename_i h1 h2; exact key _ _ h1 h2 (by simpa using hc) (by simp) (by simp)
 ·rename_i h1 h2; exact key _ _ h1 h2 (by simpa using hc) (by simp) (by simp)
 ·cases hc
theorem C7e {P:Program} {xs ys:List Value} (d:Nat) (w:World):∀ {fs:List Field} {l:List (Nat×SK)} {r:Bool},D0u P fs=some l→eqL l xs ys=some r→(Op.eqFields (d+1) xs.toArray ys.toArray fs).run P w=.ok r w
 | [],l,r,h1,h2=>by cases h1; cases h2; simp [Op.eqFields]
 | f::fs,l,r,h1,h2=>by
  unfold D0u at h1
  split at h1
  ·rename_i k r' hk hr
   split at h1
   ·rename_i hn
    cases h1
    unfold eqL at h2
    split at h2
    ·rename_i a b ha hb
     split at h2
     ·rename_i p q hp hq
      cases h2
      have ih:=C7e (xs:=xs) (ys:=ys) d w hr hq
      simp only [Op.eqFields,hn.1,ne_eq,not_false_eq_true,if_true,Sem.run_bind,C4O hn.2 ha,C4O hn.2 hb,Result.andThen_ok,D0w hk hp]
      cases p
      ·simp
      ·simpa using ih
     ·cases h2
    ·cases h2
   ·cases h1
  ·cases h1
section
variable {P:Program} {ρ:Env} {X:World→Prop} {d:Option Nat} {ty:TypeId} {pos:String} {af:Array Edge} {g:Option (Nat×Bool)}
theorem C6c {t:TypeId} {l:List (Nat×SK)} (h:D1I P t=some l):P.stoodInHeld t=false∧P.eqGuardType P.depth t=false∧P.underlying t=some (.struct (P.fieldsOf t))∧D0u P (P.fieldsOf t).toList=some l:=by
 unfold D1I at h
 split at h
 ·cases h
 ·rename_i hb
  simp only [Bool.or_eq_true,not_or,Bool.not_eq_true] at hb
  split at h
  ·rename_i fs hu
   have:P.fieldsOf t=fs:=by simp [Program.fieldsOf,hu]
   exact ⟨hb.1,hb.2,by rw [this]; exact hu,by rw [this]; exact h⟩
  ·cases h
theorem V.D4s {x y:Operand} {t u:TypeId} {l:List (Nat×SK)} {xs ys:List Value} {r:Bool} (hs:D1I P t=some l) (e:ev ρ x=some (.agg xs.toArray)) (e':ev ρ y=some (.agg ys.toArray)) (hv:eqL l xs ys=some r) :
  Val P X ρ ⟨d,.binOp .eql t x y u,ty,pos,af,g⟩ (.bool r):=λa w _ hh=>by
 obtain ⟨h1,h2,h3,h4⟩:=C6c hs
 simp only [execOp,hh.ev e,hh.ev e',Sem.run_bind,run_eqGuard_agg w .eql t x y _ _ h2,Result.andThen_ok,run_eql_struct,show (10000:Nat)=9998+1+1 from rfl,run_equalIn_agg w (9998+1) t _ _ h3 h1,C7e 9998 w h4 hv]
 rfl
end
end Go.Sl
namespace Go.Sl
open Go
def bm:List Nat→Nat
 | []=>0
 | x::xs=>Nat.lor (Nat.shiftLeft 1 x) (bm xs)
theorem B3H {i:Nat}:∀ {xs:List Nat},Nat.testBit (bm xs) i=true↔i∈xs
 | []=>by simp [bm]
 | x::xs=>by
  have h1:bm (x::xs)=(1 <<< x) ||| bm xs:=rfl
  rw [h1,Nat.testBit_or,Bool.or_eq_true,B3H,List.mem_cons,Nat.one_shiftLeft,Nat.testBit_two_pow]
  simp [eq_comm]
structure OS where
 dst:Nat
 looks:Nat
 deps:Nat
def A6q (ops:Array Oper) (o:Oper):OS:=
 ⟨bm o.dst.toList,bm (o.looksAt ops),bm ((o.after.toList.filter λe=>Region.binds .any e).map (·.on))⟩
def rdy (s:OS) (i m:Nat):Bool:=!(Nat.testBit m i) && Nat.beq (Nat.land s.deps m) s.deps
def zz (a b:Nat):Bool:=Nat.beq (Nat.land a b) 0
def C4F (si:OS) (i m:Nat):List OS→Nat→Bool
 | [],_=>true
 | s::r,j=>(Nat.beq j i || Nat.testBit m j || Nat.testBit s.deps i || (zz si.dst s.looks && zz s.dst si.dst && zz s.dst si.looks)) && C4F si i m r (j+1)
def A5U (m:Nat):List OS→Nat→List Nat
 | [],_=>[]
 | s::r,j=>bif rdy s j m then j::A5U m r (j+1) else A5U m r (j+1)
def leq:List Nat→List Nat→Bool
 | [],[]=>true
 | a::x,b::y=>Nat.beq a b && leq x y
 | _,_=>false
theorem D0k:∀ {a b:List Nat},leq a b=true→a=b
 | [],[],_=>rfl
 | a::x,b::y,h=>by
  simp only [leq,Bool.and_eq_true] at h
  rw [Nat.eq_of_beq_eq_true h.1,D0k h.2]
 | [],b::y,h=>by simp [leq] at h
 | a::x,[],h=>by simp [leq] at h
def atI:List OS→Nat→Option OS
 | [],_=>none
 | s::_,0=>some s
 | _::r,i+1=>atI r i
theorem C6F:∀ {S:List OS} {i:Nat},atI S i=S[i]?
 | [],i=>by simp [atI]
 | s::r,0=>by simp [atI]
 | s::r,i+1=>by simp [atI,C6F]
def okV (S:List OS) (p i m:Nat):Bool:=match atI S i with
 | some s=>rdy s i m && C4F s i m S 0 && !(Nat.beq p i)
 | none=>false
def C9L (S:List OS) (p i:Nat):Bool:=match atI S p with
 | some s=>Nat.testBit s.deps i
 | none=>false
def fOK (S:List OS) (p:Nat):PT→Bool→Nat→Nat→Bool
 | .done,top,_,m=>top && (A5U m S 0).isEmpty
 | .v i r,top,n,m=>match n with
  | 0=>false
  | n+1=>top && okV S p i m && fOK S p r true n (Nat.lor m (Nat.shiftLeft 1 i))
 | .x i r,top,n,m=>match n with
  | 0=>false
  | n+1=>top && okV S p i m && C9L S p i && fOK S p r true n (Nat.lor m (Nat.shiftLeft 1 i))
 | .alt i r s,top,n,m=>match n with
  | 0=>false
  | n+1=>(!top || leq (A5U m S 0) (PT.alt i r s).spine) && fOK S p r true n (Nat.lor m (Nat.shiftLeft 1 i)) && fOK S p s false (n+1) m
 | .no,top,_,_=>!top
 | .g r,top,n,m=>top && fOK S p r true n m
def Rl (l:Array Bool) (m:Nat):Prop:=∀ i,i<l.size→l.getD i true=Nat.testBit m i
theorem Rl.set {l:Array Bool} {m i:Nat} (h:Rl l m):Rl (l.setIfInBounds i true) (Nat.lor m (Nat.shiftLeft 1 i)):=by
 intro j hj
 have hj':j<l.size:=by simpa using hj
 have e1:Nat.lor m (Nat.shiftLeft 1 i)=m ||| (1 <<< i):=rfl
 rw [e1,Nat.testBit_or,Nat.one_shiftLeft,Nat.testBit_two_pow]
 by_cases hji:i=j
 ·subst hji; simp [hj']
 ·rw [getD_set_ne true hji,h j hj']; simp [hji]
section
variable {ops:Array Oper} {p:Nat}
def B3m (ops:Array Oper):List OS:=ops.toList.map (A6q ops)
theorem B7K {i:Nat}:(B3m ops)[i]?=(ops[i]?).map (A6q ops):=by simp [B3m]
theorem B7s {o:Oper} {i:Nat}:Nat.testBit (A6q ops o).deps i=true↔∃ e∈o.after,Region.binds .any e=true∧e.on=i:=by
 simp only [A6q,B3H,List.mem_map,List.mem_filter,Array.mem_toList_iff]
 constructor
 ·rintro ⟨e,⟨h1,h2⟩,h3⟩; exact ⟨e,h1,h2,h3⟩
 ·rintro ⟨e,h1,h2,h3⟩; exact ⟨e,⟨h1,h2⟩,h3⟩
def inside (ops:Array Oper):Bool:=ops.toList.all λo=>o.after.toList.all λe=>Nat.blt e.on ops.size
theorem C2Z (h:inside ops=true) {o:Oper} {i:Nat} (ho:ops[i]?=some o) {e:Edge} (he:e∈o.after):e.on<ops.size:=by
 simp only [inside,List.all_eq_true] at h
 have:=h o (by simpa using Array.mem_of_getElem? ho) e (by simpa using he)
 exact Nat.le_of_ble_eq_true this
theorem C0H (hin:inside ops=true) {l:Array Bool} {m i:Nat} {o:Oper} (hz:l.size=ops.size) (hr:Rl l m) (ho:ops[i]?=some o) :
  rdy (A6q ops o) i m=true↔i∈Region.ready .any ops l:=by
 have hi:i<l.size:=by
  rw [hz]; rcases Nat.lt_or_ge i ops.size with q | q
  ·exact q
  ·simp [Array.getElem?_eq_none q] at ho
 rw [mem_ready]
 unfold rdy
 simp only [Bool.and_eq_true,Bool.not_eq_true',←hr i hi]
 refine and_congr Iff.rfl ?_
 have h2:(Nat.beq (Nat.land (A6q ops o).deps m) (A6q ops o).deps=true)↔∀ j,Nat.testBit (A6q ops o).deps j=true→Nat.testBit m j=true:=by
  constructor
  ·intro h j hj
   have e:=Nat.eq_of_beq_eq_true h
   have e':(A6q ops o).deps &&& m=(A6q ops o).deps:=e
   rw [←e',Nat.testBit_and,Bool.and_eq_true] at hj
   exact hj.2
  ·intro h
   have e':(A6q ops o).deps &&& m=(A6q ops o).deps:=by
    apply Nat.eq_of_testBit_eq
    intro j
    rw [Nat.testBit_and]
    cases hj:Nat.testBit (A6q ops o).deps j with
    | false=>simp
    | true=>simp [h j hj]
   have:Nat.land (A6q ops o).deps m=(A6q ops o).deps:=e'
   rw [this]; exact Nat.beq_refl _
 rw [h2]
 constructor
 ·intro h
  refine ⟨o,ho,λe he hb=>?_⟩
  have hlt:=C2Z hin ho he
  have h3:=h e.on (B7s.2 ⟨e,he,hb,rfl⟩)
  rw [←hr e.on (by rw [hz]; exact hlt)] at h3
  simpa [Array.getD_eq_getD_getElem?,hz,hlt] using h3
 ·rintro ⟨o',ho',h⟩ j hj
  rw [ho] at ho'; cases ho'
  obtain ⟨e,he,hb,rfl⟩:=B7s.1 hj
  have hlt:=C2Z hin ho he
  have h3:=h e he hb
  rw [←hr e.on (by rw [hz]; exact hlt)]
  simpa [Array.getD_eq_getD_getElem?,hz,hlt] using h3
theorem C0s {m:Nat}:∀ (S:List OS) (k i:Nat),i∈A5U m S k↔∃ q s,S[q]?=some s∧i=k+q∧rdy s i m=true
 | [],k,i=>by simp [A5U]
 | s::r,k,i=>by
  have ih:=C0s (m:=m) r (k+1) i
  unfold A5U
  constructor
  ·intro h
   cases hb:rdy s k m with
   | true=>
    simp only [hb,cond_true,List.mem_cons] at h
    rcases h with rfl | h
    ·exact ⟨0,s,rfl,rfl,hb⟩
    ·obtain ⟨q,s',h1,h2,h3⟩:=ih.1 h; exact ⟨q+1,s',by simpa using h1,by omega,h3⟩
   | false=>
    simp only [hb,cond_false] at h
    obtain ⟨q,s',h1,h2,h3⟩:=ih.1 h; exact ⟨q+1,s',by simpa using h1,by omega,h3⟩
  ·rintro ⟨q,s',h1,h2,h3⟩
   cases q with
   | zero=>
    simp at h1; subst h1
    have:i=k:=by omega
    subst this
    simp [h3]
   | succ q=>
    have:i∈A5U m r (k+1):=ih.2 ⟨q,s',by simpa using h1,by omega,h3⟩
    cases rdy s k m <;> simp [this]
theorem B5p {m:Nat}:∀ (S:List OS) (k:Nat),(∀ i∈A5U m S k,k≤i)∧List.Pairwise (·<·) (A5U m S k)
 | [],k=>by simp [A5U]
 | s::r,k=>by
  have ih:=B5p (m:=m) r (k+1)
  unfold A5U
  cases rdy s k m with
  | true=>
   simp only [cond_true]
   refine ⟨λi hi=>?_,?_⟩
   ·rcases List.mem_cons.1 hi with rfl | h
    ·exact Nat.le_refl _
    ·have:=ih.1 i h; omega
   ·exact List.Pairwise.cons (λi hi=>by have:=ih.1 i hi; omega) ih.2
  | false=>
   simp only [cond_false]
   exact ⟨λi hi=>by have:=ih.1 i hi; omega,ih.2⟩
theorem C0U:∀ {a b:List Nat},List.Pairwise (·<·) a→List.Pairwise (·<·) b→(∀ i,i∈a↔i∈b)→a=b
 | [],[],_,_,_=>rfl
 | [],y::b,_,_,h=>by have:=(h y).2 List.mem_cons_self; cases this
 | x::a,[],_,_,h=>by have:=(h x).1 List.mem_cons_self; cases this
 | x::a,y::b,ha,hb,h=>by
  cases ha with
  | cons ha1 ha2=>
   cases hb with
   | cons hb1 hb2=>
    have hxy:x=y:=by
     have h1:=(h x).1 List.mem_cons_self
     have h2:=(h y).2 List.mem_cons_self
     rcases List.mem_cons.1 h1 with e | h1
     ·exact e
     ·rcases List.mem_cons.1 h2 with e | h2
      ·exact e.symm
      ·have:=hb1 x h1; have:=ha1 y h2; omega
    subst hxy
    have:a=b:=C0U ha2 hb2 λi=>by
     constructor
     ·intro hi
      rcases List.mem_cons.1 ((h i).1 (List.mem_cons_of_mem _ hi)) with e | q
      ·have:=ha1 i hi; omega
      ·exact q
     ·intro hi
      rcases List.mem_cons.1 ((h i).2 (List.mem_cons_of_mem _ hi)) with e | q
      ·have:=hb1 i hi; omega
      ·exact q
    rw [this]
theorem C3L {l:Array Bool}:List.Pairwise (·<·) (Region.ready .any ops l):=by
 unfold Region.ready
 exact List.Pairwise.filter _ List.pairwise_lt_range
theorem B7y (hin:inside ops=true) {l:Array Bool} {m:Nat} (hz:l.size=ops.size) (hr:Rl l m):A5U m (B3m ops) 0=Region.ready .any ops l:=by
 refine C0U (B5p _ _).2 C3L λi=>?_
 rw [C0s]
 constructor
 ·rintro ⟨q,s,h1,h2,h3⟩
  have:i=q:=by omega
  subst this
  rw [B7K] at h1
  cases ho:ops[i]? with
  | none=>simp [ho] at h1
  | some o=>simp [ho] at h1; subst h1; exact (C0H hin hz hr ho).1 h3
 ·intro h
  obtain ⟨_,o,ho,_⟩:=mem_ready.1 h
  exact ⟨i,A6q ops o,by rw [B7K,ho]; rfl,by omega,(C0H hin hz hr ho).2 h⟩
theorem C4s {a b:Nat} (h:zz a b=true) (i:Nat):¬ (Nat.testBit a i=true∧Nat.testBit b i=true):=by
 intro ⟨h1,h2⟩
 have e:a &&& b=0:=Nat.eq_of_beq_eq_true h
 have:Nat.testBit (a &&& b) i=true:=by rw [Nat.testBit_and,h1,h2]; rfl
 rw [e] at this; simp at this
theorem D0C {x y:Oper} (h:(zz (A6q ops x).dst (A6q ops y).looks && zz (A6q ops y).dst (A6q ops x).dst && zz (A6q ops y).dst (A6q ops x).looks)=true):x.apart ops y=true:=by
 simp only [Bool.and_eq_true] at h
 obtain ⟨⟨h1,h2⟩,h3⟩:=h
 have a1:∀ d,x.dst=some d→d∉y.looksAt ops:=λd hd hm=>C4s h1 d ⟨by simp [A6q,B3H,hd],by simp [A6q,B3H,hm]⟩
 have a2:∀ d,x.dst=some d→y.dst≠some d:=λd hd hy=>C4s h2 d ⟨by simp [A6q,B3H,hy],by simp [A6q,B3H,hd]⟩
 have a3:∀ d,y.dst=some d→d∉x.looksAt ops:=λd hd hm=>C4s h3 d ⟨by simp [A6q,B3H,hd],by simp [A6q,B3H,hm]⟩
 unfold Oper.apart
 simp only [Bool.and_eq_true]
 constructor
 ·split
  ·rename_i d hd
   have:=a1 d hd; have:=a2 d hd
   simp_all
  ·rfl
 ·split
  ·rename_i d hd
   have:=a3 d hd
   simp_all
  ·rfl
theorem B9Z {si:OS} {i m:Nat}:∀ (S:List OS) (k:Nat),C4F si i m S k=true→∀ q s,S[q]?=some s→(k+q=i∨Nat.testBit m (k+q)=true∨Nat.testBit s.deps i=true∨(zz si.dst s.looks && zz s.dst si.dst && zz s.dst si.looks)=true)
 | [],k,_,q,s,hq=>by simp at hq
 | s0::r,k,h,q,s,hq=>by
  simp only [C4F,Bool.and_eq_true] at h
  cases q with
  | zero=>
   simp at hq; subst hq
   have h1:=h.1
   simp only [Bool.or_eq_true,Nat.add_zero] at h1 ⊢
   rcases h1 with ((h1 | h1) | h1) | h1
   ·exact .inl (Nat.eq_of_beq_eq_true h1)
   ·exact .inr (.inl h1)
   ·exact .inr (.inr (.inl h1))
   ·exact .inr (.inr (.inr (by simpa using h1)))
  | succ q=>
   have:=B9Z r (k+1) h.2 q s (by simpa using hq)
   have e:k+1+q=k+(q+1):=by omega
   rw [e] at this; exact this
theorem D0Z {l:Array Bool} {m i:Nat} {o:Oper} (hz:l.size=ops.size) (hr:Rl l m) (ho:ops[i]?=some o) (h:C4F (A6q ops o) i m (B3m ops) 0=true):Region.free .any ops l i=true:=by
 unfold Region.free
 simp only [ho,List.all_eq_true,List.mem_range]
 intro j hj
 have hoj:ops[j]?=some ops[j]:=Array.getElem?_eq_getElem hj
 have:=B9Z _ _ h j (A6q ops ops[j]) (by rw [B7K,hoj]; rfl)
 simp only [Nat.zero_add] at this
 simp only [hoj,Bool.or_eq_true,beq_iff_eq]
 rcases this with h1 | h1 | h1 | h1
 ·exact .inl (.inl h1)
 ·exact .inl (.inr (by rw [hr j (by rw [hz]; exact hj)]; exact h1))
 ·right; left
  obtain ⟨e,he,hb,rfl⟩:=B7s.1 h1
  exact Array.any_eq_true'.2 ⟨e,he,by simp [hb]⟩
 ·right; right
  exact D0C h1
theorem C7V (hin:inside ops=true):∀ (t:PT) (top:Bool) (n m:Nat) (l:Array Bool),l.size=ops.size→Rl l m→fOK (B3m ops) p t top n m=true→A4Q ops p t top n l=true:=by
 have okV_spec:∀ {i m:Nat} {l:Array Bool},l.size=ops.size→Rl l m→okV (B3m ops) p i m=true→((Region.ready .any ops l).contains i && Region.free .any ops l i && !(Nat.beq p i))=true:=by
  intro i m l hz hr h
  unfold okV at h
  rw [C6F,B7K] at h
  cases ho:ops[i]? with
  | none=>simp [ho] at h
  | some o=>
   simp only [ho,Option.map_some,Bool.and_eq_true] at h
   have h1:=(C0H hin hz hr ho).1 h.1.1
   simp only [Bool.and_eq_true]
   exact ⟨⟨by simpa using h1,D0Z hz hr ho h.1.2⟩,h.2⟩
 intro t
 induction t with
 | done=>
  intro top n m l hz hr h
  have h:(top && (A5U m (B3m ops) 0).isEmpty)=true:=h
  rw [B7y hin hz hr] at h
  have e:A4Q ops p .done top n l=(top && (Region.ready .any ops l).isEmpty):=by cases n <;> rfl
  rw [e]; exact h
 | v i r ih=>
  intro top n m l hz hr h
  cases n with
  | zero=>exact h
  | succ n=>
   have h:(top && okV (B3m ops) p i m && fOK (B3m ops) p r true n (Nat.lor m (Nat.shiftLeft 1 i)))=true:=h
   simp only [Bool.and_eq_true] at h
   have h1:=okV_spec hz hr h.1.2
   simp only [Bool.and_eq_true] at h1
   simp only [A4Q,Bool.and_eq_true]
   exact ⟨⟨⟨⟨h.1.1,h1.1.1⟩,h1.1.2⟩,h1.2⟩,ih true n _ _ (by simpa using hz) hr.set h.2⟩
 | x i r ih=>
  intro top n m l hz hr h
  cases n with
  | zero=>exact h
  | succ n=>
   have h:(top && okV (B3m ops) p i m && C9L (B3m ops) p i && fOK (B3m ops) p r true n (Nat.lor m (Nat.shiftLeft 1 i)))=true:=h
   simp only [Bool.and_eq_true] at h
   have h1:=okV_spec hz hr h.1.1.2
   simp only [Bool.and_eq_true] at h1
   have hw:waits .any ops p i=true:=by
    have h2:=h.1.2
    unfold C9L at h2
    rw [C6F,B7K] at h2
    cases ho:ops[p]? with
    | none=>simp [ho] at h2
    | some o=>
     simp only [ho,Option.map_some] at h2
     obtain ⟨e,he,hb,rfl⟩:=B7s.1 h2
     unfold waits
     rw [ho]
     simp only [List.any_eq_true]
     exact ⟨e,by simpa using he,by simp [hb]⟩
   simp only [A4Q,Bool.and_eq_true]
   exact ⟨⟨⟨⟨⟨h.1.1.1,h1.1.1⟩,h1.1.2⟩,h1.2⟩,hw⟩,ih true n _ _ (by simpa using hz) hr.set h.2⟩
 | alt i r s ihr ihs=>
  intro top n m l hz hr h
  cases n with
  | zero=>exact h
  | succ n=>
   have h:((!top || leq (A5U m (B3m ops) 0) (PT.alt i r s).spine) && fOK (B3m ops) p r true n (Nat.lor m (Nat.shiftLeft 1 i)) && fOK (B3m ops) p s false (n+1) m)=true:=h
   simp only [Bool.and_eq_true] at h
   simp only [A4Q,Bool.and_eq_true]
   refine ⟨⟨?_,ihr true n _ _ (by simpa using hz) hr.set h.1.2⟩,ihs false (n+1) m l hz hr h.2⟩
   have h1:=h.1.1
   simp only [Bool.or_eq_true] at h1 ⊢
   rcases h1 with h1 | h1
   ·exact .inl h1
   ·right; rw [←B7y hin hz hr,D0k h1]; simp
 | no=>
  intro top n m l hz hr h
  cases n <;> exact h
 | g r ih=>
  intro top n m l hz hr h
  have h:(top && fOK (B3m ops) p r true n m)=true:=h
  simp only [Bool.and_eq_true] at h
  have:=ih true n m l hz hr h.2
  cases n <;> simp [A4Q,h.1,this]
def B6I (ops:Array Oper) (p:Nat) (t:PT):Bool:=(Region.noSelect ops && B2N ops) && inside ops && fOK (B3m ops) p t true ops.size 0
theorem C5c {t:PT} (h:B6I ops p t=true):B3X ops p t=true:=by
 simp only [B6I,Bool.and_eq_true] at h
 simp only [B3X,Bool.and_eq_true]
 refine ⟨h.1.1,C7V h.1.2 t true _ 0 _ (by simp) (λi hi=>?_) h.2⟩
 simp at hi
 simp [Array.getD_eq_getD_getElem?,hi]
end
section T
variable {ro:Option Nat} {P:Program} {n:Nat} {D:List Deferred} {ρ:Env} {h g:PH} {L:List E5} {Q:Exit→Act→World→Prop}
variable {ops:Array Oper}
theorem T.D2d {id:Nat} {t:PT} (p k0 k1:Nat) {As0 R0 As1 R1:List E5} (h0:C6D k0 L=some (As0,R0)) (h1:C6D k1 L=some (As1,R1)) (hm:P.follows .mixedOrders=true) (hl:B6I ops p t=true)
  (k:T n D ρ h L (wpT ro P ops p (XA h As0) (XA h As1) Q t false)):T n D ρ h L ((Code.region id ops true).wr ro P Q):=T.D3Q p k0 k1 h0 h1 hm (C5c hl) k
end T
end Go.Sl
