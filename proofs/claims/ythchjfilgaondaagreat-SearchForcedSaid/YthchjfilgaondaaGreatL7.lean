import Derived.Test.YthchjfilgaondaaGreatL6
import Derived.Laws.Pointers
/- Rules. -/
set_option maxRecDepth 1000000
set_option maxHeartbeats 40000000
set_option linter.unusedVariables false
set_option linter.unusedSimpArgs false
set_option linter.unusedSectionVars false
set_option linter.unnecessarySimpa false
namespace Go.Sl
open Go
def Pt {α:Type} (E:Vr α) (h:PH) (v:Value) (x:α):Prop:=∃ p cs,v=.pointer (some p)∧Y2 h p cs∧E h cs x
def OPt {α:Type} (E:Vr α) (h:PH) (v:Value) (o:Option α):Prop:=(o=none∧v=.pointer none)∨∃ x,o=some x∧Pt E h v x
section
variable {α:Type} {E:Vr α} {h g:PH} {v:Value} {x:α} {o:Option α}
theorem Pt.mono (m:A1i E) (s:Pt E h v x) (l:Le h g):Pt E g v x:=let ⟨p,cs,e,a,b⟩:=s; ⟨p,cs,e,a.mono l,m _ _ _ _ l b⟩
theorem Pt.one (s:Pt E h v x):v.oneCell'=true:=by obtain ⟨p,cs,rfl,_⟩:=s; rfl
theorem Pt.cells (s:Pt E h v x):v.cells=[v].toArray:=by obtain ⟨p,cs,rfl,_⟩:=s; rfl
theorem Pt.mk {p:Addr} {cs:List Value} (a:Y2 h p cs) (b:E h cs x):Pt E h (.pointer (some p)) x:=⟨p,cs,rfl,a,b⟩
theorem OPt.mono (m:A1i E) (s:OPt E h v o) (l:Le h g):OPt E g v o:=s.imp id λ⟨x,e,p⟩=>⟨x,e,p.mono m l⟩
theorem OPt.one (s:OPt E h v o):v.oneCell'=true:=by rcases s with ⟨_,rfl⟩ | ⟨x,_,p⟩; rfl; exact p.one
theorem OPt.cells (s:OPt E h v o):v.cells=[v].toArray:=by rcases s with ⟨_,rfl⟩ | ⟨x,_,p⟩; rfl; exact p.cells
theorem OPt.nil:OPt E h (.pointer none) none:=.inl ⟨rfl,rfl⟩
theorem OPt.some (s:Pt E h v x):OPt E h v (.some x):=.inr ⟨x,rfl,s⟩
theorem OPt.get (s:OPt E h v o) (e:o=.some x):Pt E h v x:=by
 rcases s with ⟨a,_⟩ | ⟨y,a,p⟩
 ·rw [a] at e; cases e
 ·rw [a] at e; cases e; exact p
def VPt {α:Type} (E:Vr α):Vr α:=λh cs x=>∃ v,cs=[v]∧Pt E h v x
theorem VPt.mono (m:A1i E):A1i (VPt E):=λ_ _ _ _ l ⟨v,e,s⟩=>⟨v,e,s.mono m l⟩
end
theorem Inv.A6Z {w:World} {h:PH} {A:E5} {L:List E5} (i:Inv w h (A::L)) :
  ∃ m1 h1,A m1∧FLe m1 h1.m∧Le h h1∧Inv w h1 L∧∀ w' h',Le h1 h'→Inv w' h' L→Inv w' h (A::L):=by
 obtain ⟨m,a,l,d,m1,m2,d',l1,l2,ha,s⟩:=i
 have f1:FLe m1 (hp w).m:=l1.trans l
 refine ⟨m1,{ h with m:=λb=>(h.m b).or (m1 b) },ha,?_,⟨?_,rfl,rfl,rfl⟩,⟨m2,⟨?_,a.os,a.tape,a.output⟩,l2.trans l,?_,s⟩,?_⟩
 ·intro b o e
  show (h.m b).or (m1 b)=some o
  rcases d b with z | z
  ·rw [z]; simpa using e
  ·rw [l1 b o e] at z; cases z
 ·intro b o e
  show (h.m b).or (m1 b)=some o
  rw [e]; rfl
 ·intro b o e
  have e':(h.m b).or (m1 b)=some o:=e
  cases hb:h.m b with
  | some y=>rw [hb] at e'; cases e'; exact a.get b _ hb
  | none=>rw [hb] at e'; exact f1 b o (by simpa using e')
 ·intro b
  show (h.m b).or (m1 b)=none∨m2 b=none
  rcases d' b with z | z
  ·rcases d b with y | y
   ·left; rw [y,z]; rfl
   ·right
    cases hm:m2 b with
    | none=>rfl
    | some o=>rw [l2 b o hm] at y; cases y
  ·exact .inr z
 ·rintro w' h' le ⟨m',a',l',dj,s'⟩
  have g1:FLe m1 h'.m:=by
   intro b o e
   apply le.get
   show (h.m b).or (m1 b)=some o
   rcases d b with z | z
   ·rw [z]; simpa using e
   ·rw [l1 b o e] at z; cases z
  have dm:Dj m1 m':=by
   intro b
   rcases dj b with z | z
   ·left
    cases hm:m1 b with
    | none=>rfl
    | some o=>rw [g1 b o hm] at z; cases z
   ·exact .inr z
  refine ⟨λb=>(m1 b).or (m' b),⟨?_,a'.os.trans (le.os.trans rfl),a'.tape.trans (le.tape.trans rfl),a'.output.trans (le.output.trans rfl)⟩,?_,?_,m1,m',dm,?_,?_,ha,s'⟩
  ·intro b o e
   apply a'.get; apply le.get
   show (h.m b).or (m1 b)=some o
   rw [e]; rfl
  ·intro b o e
   cases hm:m1 b with
   | some y=>simp [hm] at e; subst e; exact a'.get _ _ (g1 b _ hm)
   | none=>simp [hm] at e; exact l' b o e
  ·intro b
   show h.m b=none∨(m1 b).or (m' b)=none
   rcases d b with z | z
   ·exact .inl z
   ·have hm1:m1 b=none:=by
     cases hm:m1 b with
     | none=>rfl
     | some y=>rw [l1 b y hm] at z; cases z
    cases hb:h.m b with
    | none=>exact .inl rfl
    | some y=>
     right
     rw [hm1]
     rcases dj b with q | q
     ·have:h'.m b=some y:=le.get b y (by show (h.m b).or (m1 b)=some y; rw [hb]; rfl)
      rw [this] at q; cases q
     ·simpa using q
  ·intro b o e; simp [e]
  ·intro b o e
   rcases dm b with z | z
   ·simp [z,e]
   ·rw [e] at z; cases z
theorem I7.A6Z {P:Program} {f:FuncId} {fn:Func} {args:List Value} {h:PH} {A:E5} {L:List E5} {val:Value} {F:PH→Prop} (hf:P.funcs[f]?=some fn)
  (hn : (fn.name == "runtime.NumGoroutine" || fn.body.isNone) = false) (hF : ∀ m h',A m→FLe m h'.m→F h')
  (k:∀ h1,Le h h1→F h1→I7 P f args h1 L λv _ L'=>v=val∧L'=L):I7 P f args h (A::L) λv _ L'=>v=val∧L'=A::L:=by
 refine ⟨by simp [hf,hn],λw i=>?_⟩
 obtain ⟨m1,h1,ha,f1,le,i1,back⟩:=i.A6Z
 refine ((k h1 le (hF m1 h1 ha f1)).2 w i1).mono ?_
 rintro e w' ⟨v,h',L',rfl,le',i',rfl,rfl⟩
 exact ⟨_,h,_,rfl,Le.refl h,back w' h' le' i',rfl,rfl⟩
theorem A1x {E:TypeId} {sz:Nat} {v:Value} {css:List (List Value)}:∀ m h',F3 E sz v css m→FLe m h'.m→Fix h' sz v css:=by
 rintro m h' ⟨hw,hr⟩ fl
 rcases hr with ⟨rfl,rfl⟩ | ⟨b,off,cap,bs,rfl,hcap,hb,hsz,hel⟩
 ·exact ⟨hw,⟨none,0,rfl,Nat.le_refl _,λh0=>absurd rfl h0⟩,λi c e=>by simp at e⟩
 ·refine ⟨hw,⟨some ⟨b,off,none⟩,cap,rfl,hcap,λ_=>⟨b,off,rfl⟩⟩,λk c hk=>⟨rfl,bs,E,(0,0),fl b _ hb,λj u hj=>?_⟩⟩
  have:=hel (k*sz+j) u (flat_get hw hk hj)
  show bs[off+k*sz+j]?=some u
  rw [Nat.add_assoc]; exact this
theorem C7l {b:Nat} {cs:List Value} {t:TypeId} {fr:Nat×Nat}:∀ m h',blk b (.cells cs.toArray t fr) m→FLe m h'.m→Y2 h' ⟨b,0,none⟩ cs:=λ_ _ e fl=>Y2.of (fl b _ e)
theorem D0g {b:Nat} {es:Array MapEntry} {c:Nat}:∀ (m:B9E) (h':PH),blk b (Obj.map es c) m→FLe m h'.m→h'.m b=some (Obj.map es c):=λ_ _ e fl=>fl b _ e
section
variable {n:Nat} {D:List Deferred} {ρ:Env} {h:PH} {L:List E5}
theorem T.C0E {b:Nat} {cs:List Value} {t:TypeId} {fr:Nat×Nat} {Y:Act→World→Prop} (k:∀ h',Le h h'→Y2 h' ⟨b,0,none⟩ cs→T n D ρ h' L Y):T n D ρ h (blk b (.cells cs.toArray t fr)::L) Y:=
 T.freeze λh' l e=>k h' l (Y2.of e)
end
section
variable {P:Program} {ρ:Env} {X:World→Prop} {d:Option Nat} {ty:TypeId} {pos:String} {af:Array Edge} {g:Option (Nat×Bool)}
theorem C6K {t el:TypeId} (ht:P.underlying t=some (.pointer el)):P.underlying t=some (.pointer (P.pointee t)):=by
 rw [ht]; simp [Program.pointee,ht]
theorem V.D1E {x:Operand} {t el u:TypeId} {p:Option Addr} (ht:P.underlying t=some (.pointer el)) (e:ev ρ x=some (.pointer p)) :
  Val P X ρ ⟨d,.binOp .eql t x (.const (.pointer none)) u,ty,pos,af,g⟩ (.bool p.isNone):=λa w _ hs=>by
 have h2:a.eval (.const (.pointer none))=.pointer none:=rfl
 have hk:=run_equal_pointer_nil w t p (C6K ht)
 simp only [execOp,hs.ev e,h2,eqGuard,binOp]
 simp [hk]
theorem V.C9x {α:Type} {E:Vr α} {h:PH} {o:Option α} {x:Operand} {t el u:TypeId} {v:Value} (ht:P.underlying t=some (.pointer el)) (e:ev ρ x=some v) (s:OPt E h v o) :
  Val P X ρ ⟨d,.binOp .eql t x (.const (.pointer none)) u,ty,pos,af,g⟩ (.bool o.isNone):=by
 rcases s with ⟨rfl,rfl⟩ | ⟨y,rfl,p,cs,rfl,_⟩
 ·exact V.D1E ht e
 ·exact V.D1E ht e
theorem V.D4j {x:Operand} {t kt el u:TypeId} {r:Nat} (ht:P.underlying t=some (.map kt el)) (e:ev ρ x=some (.map (some r))) :
  Val P X ρ ⟨d,.binOp .eql t x (.const (.map none)) u,ty,pos,af,g⟩ (.bool false):=λa w _ hs=>by
 have h2:a.eval (.const (.map none))=.map none:=rfl
 have hk:=run_equal_map_nil w t kt el (some r) ht
 simp only [execOp,hs.ev e,h2,eqGuard,binOp]
 simp [hk]
end
end Go.Sl
