import Derived.Test.YthchjfilgaondaaGreatDa
import Derived.KernelRfl
import Derived.Test.YthchjfilgaondaaGreatEa
/- Plain laws. -/
set_option maxRecDepth 1000000
set_option maxHeartbeats 40000000
set_option linter.unusedVariables false
set_option linter.unusedSimpArgs false
set_option linter.unusedSectionVars false
set_option linter.unnecessarySimpa false
namespace Go.Pl
open Go Go.Sl Go.Dm
section
variable {α:Type} (lt:α→α→Bool)
def C4b (x:α):List α→List α→List α
 | [],q=>x::q
 | y::rp,q=>if lt x y then C4b x rp (y::q) else rp.reverse++y::x::q
def isL:List α→List α→List α
 | s,[]=>s
 | s,x::r=>isL (C4b lt x s.reverse []) r
def B3d:List α→List α
 | []=>[]
 | x::r=>isL lt [x] r
theorem B4I (x:α):∀ (rp q:List α),(C4b lt x rp q).Perm (rp.reverse++x::q)
 | [],q=>List.Perm.refl _
 | y::rp,q=>by
  unfold C4b
  by_cases h:lt x y=true
  ·rw [if_pos h]
   refine (B4I x rp (y::q)).trans ?_
   rw [List.reverse_cons,List.append_assoc]
   exact List.Perm.append_left _ (List.Perm.swap y x q)
  ·rw [if_neg h,List.reverse_cons,List.append_assoc]
   exact List.Perm.refl _
theorem C8W (x:α) (rp q:List α):(C4b lt x rp q).length=rp.length+q.length+1:=by
 rw [(B4I lt x rp q).length_eq]
 simp
 omega
theorem C5Q:∀ (r s:List α),(isL lt s r).Perm (s++r)
 | [],s=>by simp [isL]
 | x::r,s=>by
  unfold isL
  refine (C5Q r _).trans ?_
  have h:=(B4I lt x s.reverse []).append_right r
  rw [List.reverse_reverse] at h
  simpa using h
theorem B6j:∀ l:List α,(B3d lt l).Perm l
 | []=>List.Perm.refl _
 | x::r=>C5Q lt r [x]
structure D0p (P:α→Prop) (g:List α×Int→Option ((List α×Int)⊕List α)) (M:Nat):Prop where
 stop:∀ x q,(∀ z∈x::q,P z)→(x::q).length≤M→g (x::q,(0:Int))=some (.inr (x::q))
 step:∀ p y x q,(∀ z∈p++y::x::q,P z)→(p++y::x::q).length≤M→g (p++y::x::q,((p.length+1:Nat):Int))=if lt x y then some (.inl (p++x::y::q,(p.length:Int))) else some (.inr (p++y::x::q))
theorem C7y {P:α→Prop} {g:List α×Int→Option ((List α×Int)⊕List α)} {M:Nat} (hM:M≤1000) (h:D0p lt P g M) (x:α):∀ (rp q t:List α) (n:Nat),rp.length<n→(∀ z∈rp.reverse++x::(q++t),P z)→(rp.reverse++x::(q++t)).length≤M→iter g n (rp.reverse++x::(q++t),(rp.length:Int))=some (C4b lt x rp q++t)
 | [],q,t,n,hn,hP,hl=>by
  obtain ⟨m,rfl⟩:∃ m,n=m+1:=⟨n - 1,by omega⟩
  have:=h.stop x (q++t) hP hl
  simp only [List.reverse_nil,List.nil_append,List.length_nil] at hP hl ⊢
  unfold iter
  rw [show ((0:Nat):Int)=0 from rfl,this]
  rfl
 | y::rp,q,t,n,hn,hP,hl=>by
  obtain ⟨m,rfl⟩:∃ m,n=m+1:=⟨n - 1,by omega⟩
  rw [List.reverse_cons,List.append_assoc,List.singleton_append] at hP hl ⊢
  have hs:=h.step rp.reverse y x (q++t) hP hl
  rw [List.length_reverse] at hs
  unfold iter
  rw [Lc,hs]
  unfold C4b
  by_cases hlt:lt x y=true
  ·rw [if_pos hlt,if_pos hlt]
   simp only [Oz]
   have hPm:(rp.reverse++x::(y::q++t)).Perm (rp.reverse++y::x::(q++t)):=List.Perm.append_left _ (List.Perm.swap y x _)
   exact C7y hM h x rp (y::q) t m (by rw [Lc] at hn; omega) (λz hz=>hP z (hPm.mem_iff.1 hz)) (by rw [hPm.length_eq]; exact hl)
  ·rw [if_neg hlt,if_neg hlt]
   simp only [Oz]
   congr 1
   simp
theorem B9O {P:α→Prop} {g g0:List α×Int→Option ((List α×Int)⊕List α)} {M:Nat} (hM:M≤1000) (h:D0p lt P g M) {N:Nat}
  (h0:∀ (d:List α) (i:Nat),d.length=N→i<N→g0 (d,(i:Int))=Option.bind (iter g FUEL (d,(i:Int))) λd'=>some (.inl (d',((i+1:Nat):Int))))
  (h1:∀ (d:List α),d.length=N→g0 (d,(N:Int))=some (.inr d)) (hN:N≤M):∀ (r s:List α) (n:Nat),r.length<n→(∀ z∈s++r,P z)→s.length+r.length=N→iter g0 n (s++r,(s.length:Int))=some (isL lt s r)
 | [],s,n,hn,hP,hl=>by
  obtain ⟨m,rfl⟩:∃ m,n=m+1:=⟨n - 1,by omega⟩
  rw [List.append_nil]
  have hs:s.length=N:=by simpa using hl
  unfold iter
  rw [hs,h1 s hs]
  rfl
 | x::r,s,n,hn,hP,hl=>by
  obtain ⟨m,rfl⟩:∃ m,n=m+1:=⟨n - 1,by omega⟩
  rw [Lc] at hl hn
  unfold iter
  rw [h0 (s++x::r) s.length (by simp; omega) (by omega)]
  have e:=C7y lt hM h x s.reverse [] r FUEL (fuel' (by rw [List.length_reverse]; omega)) (by simpa using hP) (by simp; omega)
  rw [List.reverse_reverse,List.length_reverse,List.nil_append] at e
  rw [e,Oz]
  simp only [Oz]
  have hp:=B4I lt x s.reverse []
  rw [List.reverse_reverse] at hp
  have hlen:(C4b lt x s.reverse []).length=s.length+1:=by rw [C8W]; simp
  rw [show ((s.length+1:Nat):Int)=((C4b lt x s.reverse []).length:Int) by rw [hlen]]
  unfold isL
  refine B9O hM h h0 h1 hN r _ m (by omega) (λz hz=>?_) (by rw [hlen]; omega)
  apply hP
  rcases List.mem_append.1 hz with hz | hz
  ·have:=hp.mem_iff.1 hz
   rcases List.mem_append.1 this with hz | hz
   ·exact List.mem_append_left _ hz
   ·rcases List.mem_cons.1 hz with rfl | hz
    ·exact List.mem_append_right _ (List.mem_cons_self ..)
    ·cases hz
  ·exact List.mem_append_right _ (Mc _ hz)
end
section
variable {α:Type} {p q:List α} {x y:α}
theorem at2:G7 (p++y::x::q) ((p.length+1:Nat):Int)=some x:=J2 (by rw [List.getElem?_append_right (by omega),Nat.add_sub_cancel_left]; rfl)
theorem at1:G7 (p++y::x::q) (p.length:Int)=some y:=J2 (by rw [List.getElem?_append_right (by omega),Nat.sub_self]; rfl)
theorem set2:(p++y::x::q).set (p.length+1) y=p++y::y::q:=by rw [List.set_append_right _ _ (by omega),Nat.add_sub_cancel_left]; rfl
theorem set1:(p++y::y::q).set p.length x=p++x::y::q:=by rw [List.set_append_right _ _ (by omega),Nat.sub_self]; rfl
theorem C6r {n:Nat} (h:n≤1000):J5 (((n+1:Nat):Int) - (1:Int))=some (n:Int):=by rw [A1p (by omega) (by omega)]; congr 1; omega
end
theorem D3S (x y:Int):B0w x y=some (decide (x<y)):=by
 have e:∀ z,A1w z=some false:=λz=>by
  unfold A1w
  rw [Dt rfl]
  rfl
 unfold B0w
 simp only [e,Oz]
 cases decide (x<y) <;> rfl
theorem D1y:D0p (λa b:Int=>decide (a<b)) (λ_=>True) (A4w 0) 1000:=by
 refine ⟨λx q _ _=>?_,λp y x q _ hl=>?_⟩
 ·simp [A4w,B2o]
 ·have hp:p.length≤1000:=by simp at hl; omega
  simp only [A4w,B2o,Dt (show (0:Int)<((p.length+1:Nat):Int) by omega),Cy,at2,at1,C6r hp,Oz,D3S,Zt,set2,set1]
  cases decide (x<y) <;> rfl
theorem D1d:((List.range 13).all λn=>decide ((bits_Len (n:Int)).isSome))=true:=by kernel_rfl
theorem C8M {n:Nat} (h:n≤12):∃ k,bits_Len (n:Int)=some k:=Option.isSome_iff_exists.1 (of_decide_eq_true (Al.1 D1d n (Mr.2 (by omega))))
theorem D1T {n:Nat} (h:n≤1000):A0Q .u64 (n:Int)=some (n:Int):=by
 unfold A0Q
 rw [Dt (wrap_u64 (by omega) (by omega))]
 rfl
theorem rf1:∃ m,A4P=m+1:=⟨A4P - 1,by decide⟩
theorem fu1:∃ m,FUEL=m+1:=⟨FUEL - 1,by have:=fuel' (n:=1) (by omega); omega⟩
theorem C6X {σ ρ:Type} {f:σ→Option (σ⊕ρ)} {s:σ} {r:ρ} (h:f s=some (.inr r)):iter f FUEL s=some r:=by
 obtain ⟨m,hm⟩:=fu1
 rw [hm]
 unfold iter
 rw [h]
 rfl
theorem C6m {l:List Int} (h:l.length≤12):B2c l=some (B3d (λa b:Int=>decide (a<b)) l):=by
 obtain ⟨k,hk⟩:=C8M h
 obtain ⟨m,hm⟩:=rf1
 obtain ⟨m',hm'⟩:=fu1
 have key:B4q l (0:Int) (l.length:Int)=some (B3d (λa b:Int=>decide (a<b)) l):=by
  unfold B4q
  rw [show J5 ((0:Int)+(1:Int))=some (1:Int) from rfl,Oz]
  cases l with
  | nil=>
   rw [hm']
   rfl
  | cons x r=>
   have:=B9O (λa b:Int=>decide (a<b)) (M:=1000) (by omega) D1y (g0:=A4A 0 ((x::r).length:Int)) (N:=(x::r).length) (λd i hd hi=>by
    simp only [A4A,Dt (show (i:Int)<((x::r).length:Int) by omega),Cy]
    cases iter (A4w 0) FUEL (d,(i:Int)) with
    | none=>rfl
    | some d'=>simp only [Oz,H6 (show i<9223372036854775807 by omega)]) (λd hd=>by simp [A4A]) (by omega) r [x] FUEL (fuel' (by rw [Lc] at h; omega)) (λ_ _=>trivial) (by simp; omega)
   rw [List.singleton_append] at this
   have this':iter (A4A 0 ((x::r).length:Int)) FUEL (x::r,(1:Int))=_:=this
   rw [this']
   rfl
 unfold B2c
 rw [D1T (by omega),Oz,hk,Oz,hm]
 have e:∀ (d:List Int) (a b:Int),B8e (m+1) d a b k=Option.bind (iter (A9a d a b k) FUEL ()) λp=>some p:=λ_ _ _=>rfl
 rw [e,C6X (r:=B3d (λa b:Int=>decide (a<b)) l) (by unfold A9a; rw [A1p (by omega) (by omega),Oz,Dt (by omega),Cy,key]; rfl)]
 rfl
theorem C9D {c:List Int→List Int→Int} {cmp:List Int→List Int→Option Int} {P:List Int→Prop} (hc:∀ a b,P a→P b→cmp a b=some (c a b)):D0p (λa b=>decide (c a b<0)) P (A1H 0 cmp) 1000:=by
 refine ⟨λx q _ _=>?_,λp y x q hP hl=>?_⟩
 ·simp [A1H,A7r]
 ·have hp:p.length≤1000:=by simp at hl; omega
  have hx:P x:=hP x (by simp)
  have hy:P y:=hP y (by simp)
  simp only [A1H,A7r,Dt (show (0:Int)<((p.length+1:Nat):Int) by omega),Cy,at2,at1,C6r hp,Oz,hc x y hx hy,Zt,set2,set1]
  cases decide (c x y<0) <;> rfl
theorem C4Z {c:List Int→List Int→Int} {cmp:List Int→List Int→Option Int} {P:List Int→Prop} (hc:∀ a b,P a→P b→cmp a b=some (c a b)) {l:List (List Int)} (h:l.length≤12) (hl:∀ x∈l,P x):A5F l cmp=some (B3d (λa b=>decide (c a b<0)) l):=by
 obtain ⟨k,hk⟩:=C8M h
 obtain ⟨m,hm⟩:=rf1
 obtain ⟨m',hm'⟩:=fu1
 have key:A8t l (0:Int) (l.length:Int) cmp=some (B3d (λa b=>decide (c a b<0)) l):=by
  unfold A8t
  rw [show J5 ((0:Int)+(1:Int))=some (1:Int) from rfl,Oz]
  cases l with
  | nil=>
   rw [hm']
   rfl
  | cons x r=>
   have:=B9O (λa b=>decide (c a b<0)) (M:=1000) (by omega) (C9D hc) (g0:=A1G 0 ((x::r).length:Int) cmp) (N:=(x::r).length) (λd i hd hi=>by
    simp only [A1G,Dt (show (i:Int)<((x::r).length:Int) by omega),Cy]
    cases iter (A1H 0 cmp) FUEL (d,(i:Int)) with
    | none=>rfl
    | some d'=>simp only [Oz,H6 (show i<9223372036854775807 by omega)]) (λd hd=>by simp [A1G]) (by omega) r [x] FUEL (fuel' (by rw [Lc] at h; omega)) (by simpa using hl) (by simp; omega)
   rw [List.singleton_append] at this
   have this':iter (A1G 0 ((x::r).length:Int) cmp) FUEL (x::r,(1:Int))=_:=this
   rw [this']
   rfl
 unfold A5F
 rw [D1T (by omega),Oz,hk,Oz,hm]
 have e:∀ (d:List (List Int)) (a b:Int),B1j (m+1) d a b k cmp=Option.bind (iter (A4M d a b k cmp) FUEL ()) λp=>some p:=λ_ _ _=>rfl
 rw [e,C6X (r:=B3d (λa b=>decide (c a b<0)) l) (by unfold A4M; rw [A1p (by omega) (by omega),Oz,Dt (by omega),Cy,key]; rfl)]
 rfl
end Go.Pl
namespace Go.Pl
open Go Go.Sl Go.Dm
def PmL (n:Nat) (u:List Int):Prop:=u.length=n∧∀ x∈u,0≤x∧x<n
def C9e {α:Type}:List (Option α)→Option (List α)
 | []=>some []
 | x::l=>Option.bind x λy=>Option.bind (C9e l) λr=>some (y::r)
def C5h (t:D7):Option (List (List Int)):=
 Option.bind (X5 t.P8) λ(lay,_)=>
 Option.bind (lay.C4j t.fA t.fB) λfs=>C9e (fs.map λf=>C9e ((List.range (M6 t).toNat).map λ(k:Nat)=>f (k:Int)))
def pmB (n:Nat) (u:List Int):Bool:=decide (u.length=n) && u.all λx=>decide (0≤x) && decide (x<n)
theorem D2D {n:Nat} {u:List Int} (h:pmB n u=true):PmL n u:=by
 unfold pmB at h
 simp only [Ba,Dq,Al] at h
 exact h
def D4i (i x:Nat):Bool:=match A3a (i:Int) (x:Int) with
 | none=>false
 | some t=>match C5h t with
  | none=>false
  | some cs=>decide (cs.length≤12) && cs.all (pmB (M6 t).toNat)
theorem tcs:(List.range 3).all (λi=>(List.range 256).all λx=>D4i i x)=true:=by kernel_rfl
theorem D0A {ts:List D7} (h:MTs ts) {t:D7} (ht:t∈ts):∃ cs,C5h t=some cs∧cs.length≤12∧∀ u∈cs,PmL (M6 t).toNat u:=by
 obtain ⟨i,hi,rfl⟩:=List.getElem_of_mem ht
 have hx:=Lg hi
 obtain ⟨x,hx',hl⟩:=h.x i _ hx
 have hlen:=h.len
 have:=Al.1 (Al.1 tcs i (Mr.2 (by omega))) x (Mr.2 hx')
 unfold D4i at this
 rw [hl] at this
 simp only at this
 cases hc:C5h ts[i] with
 | none=>rw [hc] at this; cases this
 | some cs=>
  rw [hc] at this
  simp only [Ba,Dq,Al] at this
  exact ⟨cs,rfl,this.1,λu hu=>D2D (this.2 u hu)⟩
theorem C0A {α:Type}:∀ {l:List (Option α)} {r:List α},C9e l=some r→r.length=l.length∧∀ (i:Nat) (o:Option α),l[i]?=some o→∃ y,o=some y∧r[i]?=some y
 | [],r,h=>by cases h; exact ⟨rfl,λi o hi=>by simp at hi⟩
 | x::l,r,h=>by
  obtain ⟨y,hy,h⟩:=bnd h
  obtain ⟨r',hr,h⟩:=bnd h
  cases h
  obtain ⟨h1,h2⟩:=C0A hr
  refine ⟨by simp [h1],λi o hi=>?_⟩
  cases i with
  | zero=>simp at hi; subst hi; exact ⟨y,hy,rfl⟩
  | succ i=>simpa using h2 i o (by simpa using hi)
theorem D4r {f:Int→Option Int} {n:Nat} (hn:n≤24) {u:List Int} (h:C9e ((List.range n).map λ(k:Nat)=>f (k:Int))=some u):iter (A1e f (List.replicate n (0:Int))) FUEL ((0:Int),List.replicate n (0:Int))=some u:=by
 obtain ⟨h1,h2⟩:=C0A h
 rw [List.length_map,List.length_range] at h1
 obtain ⟨r,hr,hl,hq⟩:=L6 (f:=A1e f (List.replicate n (0:Int))) (λs=>∃ k:Nat,s.1=(k:Int)∧k≤n∧s.2.length=n∧∀ q:Nat,q<k→s.2[q]?=u[q]?) (λs=>n - s.1.toNat) (λr=>r.length=n∧∀ q:Nat,q<n→r[q]?=u[q]?) (λs hs=>by
  obtain ⟨i,p⟩:=s
  obtain ⟨k,rfl,hk,hl,hp⟩:=hs
  simp only at hl hp
  simp only [A1e,List.length_replicate]
  by_cases hlt:k<n
  ·left
   obtain ⟨y,hy,hu⟩:=h2 k (f (k:Int)) (by simp [hlt])
   rw [Dt (by omega),Cy,hy,Oz,A0h (by omega),Oz,Oz,H6 (by omega)]
   refine ⟨_,rfl,⟨k+1,rfl,by omega,by simp [hl],λq hq=>?_⟩,by simp; omega⟩
   simp only [Zt]
   by_cases hqk:q=k
   ·subst hqk; rw [List.getElem?_set_self (by omega),hu]
   ·rw [List.getElem?_set_ne (by omega)]; exact hp q (by omega)
  ·right
   rw [Df (by omega)]
   exact ⟨_,rfl,hl,λq hq=>hp q (by omega)⟩) FUEL ((0:Int),List.replicate n (0:Int)) ⟨0,rfl,Nat.zero_le _,by simp,λq hq=>by omega⟩ (fuel' (by simp; omega))
 rw [hr]
 congr 1
 refine List.ext_getElem? λq=>?_
 by_cases hqn:q<n
 ·exact hq q hqn
 ·rw [List.getElem?_eq_none (by omega),List.getElem?_eq_none (by omega)]
theorem C6V {t:D7} (ht:M6 t≤8) {cs:List (List Int)} (hc:C5h t=some cs) (hl:cs.length≤12) {σ:Type} (yield:σ→List Int→Option (σ×Bool)) (Y:σ→List Int→σ) (I:σ→Nat→Prop)
  (hY:∀ s i u,cs[i]?=some u→I s i→yield s u=some (Y s u,true)∧I (Y s u) (i+1)) {s:σ} (h0:I s 0):A3P yield s t=some (cs.foldl Y s):=by
 unfold C5h at hc
 obtain ⟨⟨lay,b⟩,h1,hc⟩:=bnd hc
 obtain ⟨fs,h2,hc⟩:=bnd hc
 obtain ⟨h3,h4⟩:=C0A hc
 rw [List.length_map] at h3
 have hs0:=Y5 t
 have hmk:mkL (M6 t) (0:Int)=some (List.replicate (M6 t).toNat (0:Int)):=by
  obtain ⟨n,hn⟩:=Zn hs0.1
  rw [hn]
  have:mkL (n:Int) (0:Int)=(bif Nat.ble n 1073741824 then some (List.replicate n (0:Int)) else none):=rfl
  rw [this,Nb (by omega)]
  rfl
 unfold A3P
 rw [h1,Oz]
 simp only
 rw [A2i,Oz,h2,Oz]
 have key:=C0P (f:=A0A yield (M6 t) fs) (λ(s:σ) (i:Nat)=>(s,(i:Int))) Sum.inl (N:=fs.length) (λs i=>match cs[i]? with | some u=>Y s u | none=>s) I h0 (λs i hi hI=>by
  obtain ⟨u,hu,hcu⟩:=h4 i _ (by rw [List.getElem?_map,Lg hi]; rfl)
  obtain ⟨y1,y2⟩:=hY s i u hcu hI
  rw [hcu]
  simp only [A0A]
  rw [Dt (by omega),Cy,A0h hi,Oz,hmk,Oz,D4r (by omega) hu,Oz,y1,Oz]
  simp only [Bq,Cn]
  rw [H6 (by omega)]
  exact ⟨rfl,y2⟩) (λs hs=>by simp [A0A]) (fuel' (n:=fs.length) (by omega))
 have key':iter (A0A yield (M6 t) fs) FUEL (s,(0:Int))=_:=key
 rw [key',Oz]
 simp only
 have e:∀ (l:List (List Int)) (m:Nat) (s:σ),(∀ i,l[i]?=cs[m+i]?)→(List.range' m l.length).foldl (λs i=>match cs[i]? with | some u=>Y s u | none=>s) s=l.foldl Y s:=by
  intro l
  induction l with
  | nil=>intro m s _; rfl
  | cons u l ih=>
   intro m s hm
   rw [Lc,List.range'_succ,List.foldl_cons,List.foldl_cons]
   have h0:=hm 0
   simp only [List.getElem?_cons_zero,Nat.add_zero] at h0
   rw [←h0]
   exact ih (m+1) (Y s u) λi=>by have:=hm (i+1); rw [List.getElem?_cons_succ] at this; rw [this]; congr 1; omega
 rw [List.range_eq_range',←h3,e cs 0 s (λi=>by rw [Nat.zero_add])]
theorem C9v {t:D7} (ht:M6 t≠0) (ho:t.A2Y.length≤maxLen) {u:List Int} (hu:PmL (M6 t).toNat u):∃ b,A1N t u=some b:=by
 have hs:=Y5 t
 obtain ⟨hl,hb⟩:=hu
 have inner:∀ k:Nat,k<u.length→∃ r,iter (A5y t u (k:Int)) FUEL (0:Int)=some r:=by
  intro k hk
  obtain ⟨r,hr,_⟩:=L6 (f:=A5y t u (k:Int)) (λs=>∃ m:Nat,s=(m:Int)∧m≤k) (λs=>k - s.toNat) (λ_=>True) (λs hs'=>by
   obtain ⟨m,rfl,hm⟩:=hs'
   simp only [A5y]
   by_cases hlt:m<k
   ·have bk:=hb _ (Gm hk)
    have bm:=hb _ (Gm (show m<u.length by omega))
    obtain ⟨b1,e1⟩:=B4E ht (x:=(k:Int)) (y:=(m:Int)) (by omega) (by omega) (by omega) (by omega)
    obtain ⟨b2,e2⟩:=B4E ht (x:=u[k]) (y:=u[m]) bk.1 (by omega) bm.1 (by omega)
    obtain ⟨b3,e3⟩:=B4B ht (x:=(k:Int)) (y:=(m:Int)) (by omega) (by omega) (by omega) (by omega)
    obtain ⟨b4,e4⟩:=B4B ht (x:=u[k]) (y:=u[m]) bk.1 (by omega) bm.1 (by omega)
    rw [Dt (by omega),Cy]
    simp only [B5O,A0h hk,A0h (show m<u.length by omega),Oz,e1,e2,e3,e4,H6 (show m<9223372036854775807 by omega)]
    cases (b1 == b2) with
    | false=>right; exact ⟨_,rfl,trivial⟩
    | true=>
     cases (b3 == b4) with
     | false=>right; exact ⟨_,rfl,trivial⟩
     | true=>left; exact ⟨_,rfl,⟨m+1,rfl,by omega⟩,by omega⟩
   ·right
    rw [Df (by omega)]
    exact ⟨_,rfl,trivial⟩) FUEL (0:Int) ⟨0,rfl,Nat.zero_le _⟩ (fuel' (by simp; omega))
  exact ⟨r,hr⟩
 obtain ⟨r,hr,_⟩:=L6 (f:=A8p t u) (λs=>∃ k:Nat,s=(k:Int)∧k≤u.length) (λs=>u.length - s.toNat) (λ_=>True) (λs hs'=>by
  obtain ⟨k,rfl,hk⟩:=hs'
  simp only [A8p]
  by_cases hlt:k<u.length
  ·rw [Dt (by omega),Cy]
   obtain ⟨o,ho'⟩:=inner k hlt
   simp only [A0h hlt,Oz,B8j ho,ho',H6 (show k<9223372036854775807 by omega)]
   cases (t.A2Y.any λy=>decide ((k:Int)=y)) == (t.A2Y.any λy=>decide (u[k]=y)) with
   | false=>right; exact ⟨_,rfl,trivial⟩
   | true=>
    cases o with
    | inl _=>left; exact ⟨_,rfl,⟨k+1,rfl,by omega⟩,by omega⟩
    | inr b=>right; exact ⟨_,rfl,trivial⟩
  ·right
   rw [Df (by omega)]
   exact ⟨_,rfl,trivial⟩) FUEL (0:Int) ⟨0,rfl,Nat.zero_le _⟩ (fuel' (by simp; omega))
 unfold A1N
 rw [hr]
 cases r with
 | inl _=>exact ⟨_,rfl⟩
 | inr b=>exact ⟨b,rfl⟩
theorem D1V {l:List Int} (hl:l.length≤1000) {f:Int→Option Bool} {g:Int→Bool} (hf:∀ x∈l,f x=some (g x)):A0u l f=some (l.any g):=by
 have key:=A1t (f:=A1K l f) l (λ(i:Nat) x=>if g x then some (.inr (i:Int)) else none) (.inl ():Unit⊕Int) (fuel' (n:=l.length) (by omega)) (λi x hi=>by
  have hlt:=P5 hi
  simp only [A1K,Dt (show (i:Int)<(l.length:Int) by omega),Cy,J2 hi,Oz,hf x (A0C hi),H6 (show i<9223372036854775807 by omega)]
  cases g x <;> rfl) (by simp [A1K])
 unfold A0u A8W
 rw [key,Oz,B9j]
 cases ha:l.any g with
 | true=>
  have:=(B1L g l 0).mpr ha
  simp only [if_true,Oz]
  rw [Dt this]
 | false=>rfl
theorem D0B {l:List Int} (hl:l.length≤1000):∃ r,A7Y l=some r∧(∀ x∈r,x∈l)∧r.length≤l.length:=by
 unfold A7Y
 by_cases h2:(l.length:Int)<2
 ·rw [Dt h2]; exact ⟨l,rfl,λ_ h=>h,Nat.le_refl _⟩
 ·rw [Df h2,Cn]
  obtain ⟨r,hr,hq⟩:=L6 (f:=A4y l) (λs=>∃ k:Nat,s=(k:Int)∧1≤k∧k≤l.length) (λs=>l.length - s.toNat) (λr=>r=.inl ()∨∃ q,r=.inr q∧(∀ x∈q,x∈l)∧q.length≤l.length) (λs hs=>by
   obtain ⟨k,rfl,h1,hk⟩:=hs
   simp only [A4y]
   by_cases hlt:k<l.length
   ·rw [Dt (by omega),Cy]
    obtain ⟨m,rfl⟩:∃ m,k=m+1:=⟨k - 1,by omega⟩
    simp only [B1v,A0h hlt,A0h (show m<l.length by omega),C6r (show m≤1000 by omega),Oz]
    cases decide (l[m+1]=l[m]) with
    | false=>
     left
     rw [Cn,H6 (by omega)]
     exact ⟨_,rfl,⟨m+1+1,rfl,by omega,by omega⟩,by simp; omega⟩
    | true=>
     right
     have bb:∀ a:Nat,a≤l.length→bdV (a:Int) (l.length:Int) (l.length:Int)=some ():=λa ha=>by unfold bdV; rw [Dt (by omega),Dt (by omega),Dt (by omega)]; rfl
     rw [Cy,bb _ hk,Oz]
     obtain ⟨⟨d,w⟩,hw,hd,a,rfl,ha,hm⟩:=L6 (f:=A4K l ((m+1:Nat):Int)) (λs=>s.1.length=l.length∧(∀ x∈s.1,x∈l)∧∃ a b:Nat,s.2.1=(a:Int)∧s.2.2=(b:Int)∧1≤b∧m+1+b≤l.length∧a+1≤m+1+b) (λs=>l.length - s.2.2.toNat) (λr=>r.1.length=l.length∧∃ a:Nat,r.2=(a:Int)∧a≤l.length∧∀ x∈r.1,x∈l) (λs hs=>by
      obtain ⟨d,a',b'⟩:=s
      obtain ⟨hd,hmem,a,b,rfl,rfl,hb1,hb,hab⟩:=hs
      simp only at hd hmem
      simp only [A4K,Zt]
      by_cases hlt2:b<l.length - (m+1)
      ·left
       rw [Dt (by omega),Cy]
       obtain ⟨b0,rfl⟩:∃ b0,b=b0+1:=⟨b - 1,by omega⟩
       have gv:∀ q:Nat,m+1+q<l.length→∃ y,B9A d ((m+1:Nat):Int) (l.length:Int) (q:Int)=some y∧y∈l:=λq hq=>by
        unfold B9A
        rw [Dt (by omega),Dt (by omega),Dt (by omega)]
        have hlt':m+1+q<d.length:=by omega
        refine ⟨d[m+1+q],?_,hmem _ (Gm hlt')⟩
        have:=A0h hlt'
        rw [show ((m+1+q:Nat):Int)=((m+1:Nat):Int)+(q:Int) by omega] at this
        exact this
       obtain ⟨y1,e1,m1⟩:=gv (b0+1) (by omega)
       obtain ⟨y2,e2,m2⟩:=gv b0 (by omega)
       simp only [B1U,e1,e2,C6r (show b0≤1000 by omega),Oz]
       cases decide (y1=y2) with
       | true=>
        simp only [Bq,Cn]
        rw [H6 (by omega)]
        exact ⟨_,rfl,⟨hd,hmem,a,b0+1+1,rfl,rfl,by omega,by omega,by omega⟩,by simp; omega⟩
       | false=>
        simp only [Bp,Cy]
        simp only [A0h (show a<d.length by omega),Oz,H6 (show a<9223372036854775807 by omega),H6 (show b0+1<9223372036854775807 by omega)]
        refine ⟨_,rfl,⟨by simp [hd],λx hx=>?_,a+1,b0+1+1,rfl,rfl,by omega,by omega,by omega⟩,by simp; omega⟩
        rcases List.mem_or_eq_of_mem_set hx with h | h
        ·exact hmem x h
        ·rw [h]; exact m1
      ·right
       rw [Df (by omega),Cn]
       exact ⟨_,rfl,hd,a,rfl,by omega,hmem⟩) FUEL (l,((m+1:Nat):Int),(1:Int)) ⟨rfl,λ_ h=>h,m+1,1,rfl,rfl,by omega,by omega,by omega⟩ (fuel' (by simp; omega))
     simp only at hd
     rw [hw,Oz]
     simp only
     rw [hd,bb a ha]
     simp only [Oz]
     have hpl:(A3u d (a:Int).toNat (List.replicate ((l.length:Int).toNat - (a:Int).toNat) (0:Int)))=d.take a++List.replicate (l.length - a) 0:=by
      unfold A3u
      simp only [Zt,List.length_replicate]
      rw [List.drop_eq_nil_of_le (by omega),List.append_nil]
     rw [hpl]
     have hsb:sbL (d.take a++List.replicate (l.length - a) (0:Int)) 0 (a:Int)=some (d.take a):=by
      have:sbL (d.take a++List.replicate (l.length - a) (0:Int)) 0 (a:Int)=(bif Nat.ble 0 a && Nat.ble a (d.take a++List.replicate (l.length - a) (0:Int)).length then some (Sl.sub (d.take a++List.replicate (l.length - a) (0:Int)) 0 a) else none):=rfl
      rw [this,Nb (Nat.zero_le _),Nb (by simp; omega)]
      simp only [Bool.and_self,Cy,Sl.sub,List.drop_zero]
      rw [List.take_left' (by simp; omega)]
     rw [hsb]
     exact ⟨_,rfl,.inr ⟨_,rfl,λx hx=>hm x (List.mem_of_mem_take hx),by simp; omega⟩⟩
   ·right
    rw [Df (by omega)]
    exact ⟨_,rfl,.inl rfl⟩) FUEL (1:Int) ⟨1,rfl,by omega,by omega⟩ (fuel' (by simp; omega))
  rw [hr]
  rcases hq with rfl | ⟨q,rfl,hq⟩
  ·exact ⟨l,rfl,λ_ h=>h,Nat.le_refl _⟩
  ·exact ⟨q,rfl,hq⟩
end Go.Pl
namespace Go.Pl
open Go Go.Sl Go.Dm
theorem D3I (z:Int):A1w z=some false:=by
 unfold A1w
 rw [Dt rfl]
 rfl
def D0d (x y:Int):Int:=if x<y then -1 else if y<x then 1 else 0
theorem D1v (x y:Int):A6X x y=some (D0d x y):=by
 unfold A6X D0d
 simp only [D3I,Oz,Cn]
 by_cases h:x<y
 ·rw [Dt h,if_pos h]; rfl
 ·rw [Df h,if_neg h,Cn]
  by_cases h':y<x
  ·rw [Dt h',if_pos h']; rfl
  ·rw [Df h',if_neg h']; rfl
def cmpL:List Int→List Int→Int
 | [],[]=>0
 | [],_::_=>-1
 | _::_,[]=>1
 | x::a,y::b=>if D0d x y≠0 then D0d x y else cmpL a b
theorem cmpL_eq {a b:List Int} (ha:a.length≤1000):A3M a b=some (cmpL a b):=by
 have key:∀ (n k:Nat),k≤a.length→k≤b.length→a.length - k<n→∃ r,iter (A2V a b) n (k:Int)=some r∧(match r with | .inl _=>cmpL (a.drop k) (b.drop k)=(if a.length<b.length then -1 else 0) | .inr p=>cmpL (a.drop k) (b.drop k)=p):=by
  intro n
  induction n with
  | zero=>intro k _ _ h; omega
  | succ n ih=>
   intro k hk hkb hn
   unfold iter
   simp only [A2V]
   by_cases hlt:k<a.length
   ·rw [Dt (by omega),Cy,A0h hlt,Oz]
    by_cases hb:k<b.length
    ·rw [Df (by omega),Cn,A0h hb,Oz,D1v,Oz]
     rw [Dc hlt,Dc hb]
     unfold cmpL
     by_cases hq:D0d a[k] b[k]=0
     ·rw [Dt hq]
      simp only [Bq,Cn]
      rw [H6 (by omega)]
      simp only [Oz,hq,ne_eq,not_true_eq_false,if_false]
      exact ih (k+1) (by omega) (by omega) (by omega)
     ·rw [Df hq]
      exact ⟨_,rfl,by simp [hq]⟩
    ·rw [Dt (by omega)]
     refine ⟨_,rfl,?_⟩
     rw [Dc hlt,List.drop_eq_nil_of_le (show b.length≤k by omega)]
     rfl
   ·rw [Df (by omega)]
    refine ⟨_,rfl,?_⟩
    rw [List.drop_eq_nil_of_le (show a.length≤k by omega)]
    simp only
    by_cases hb:k<b.length
    ·rw [Dc hb,if_pos (by omega)]; rfl
    ·rw [List.drop_eq_nil_of_le (show b.length≤k by omega),if_neg (by omega)]; rfl
 obtain ⟨r,hr,hq⟩:=key FUEL 0 (Nat.zero_le _) (Nat.zero_le _) (fuel' (by omega))
 unfold A3M
 have hr':iter (A2V a b) FUEL (0:Int)=some r:=hr
 rw [hr',Oz]
 rw [List.drop_zero,List.drop_zero] at hq
 cases r with
 | inr p=>simp only at hq ⊢; rw [hq]
 | inl _=>
  simp only at hq ⊢
  rw [hq]
  by_cases h:a.length<b.length
  ·rw [Dt (by omega),if_pos h]; rfl
  ·rw [Df (by omega),if_neg h]; rfl
theorem eqL {a b:List Int} (ha:a.length≤1000):∃ q,A3b a b=some q:=by
 unfold A3b
 by_cases hl:(a.length:Int)=(b.length:Int)
 ·rw [Dt hl]
  simp only [Bq,Cn]
  obtain ⟨r,hr,_⟩:=L6 (f:=A6s a b) (λs=>∃ k:Nat,s=(k:Int)∧k≤a.length) (λs=>a.length - s.toNat) (λ_=>True) (λs hs=>by
   obtain ⟨k,rfl,hk⟩:=hs
   simp only [A6s]
   by_cases hlt:k<a.length
   ·rw [Dt (by omega),Cy,A0h hlt,Oz,A0h (show k<b.length by omega),Oz]
    cases decide (a[k]=b[k]) with
    | false=>right; exact ⟨_,rfl,trivial⟩
    | true=>
     left
     simp only [Bq,Cn]
     rw [H6 (by omega)]
     exact ⟨_,rfl,⟨k+1,rfl,by omega⟩,by omega⟩
   ·right
    rw [Df (by omega)]
    exact ⟨_,rfl,trivial⟩) FUEL (0:Int) ⟨0,rfl,Nat.zero_le _⟩ (fuel' (by simp; omega))
  rw [hr]
  cases r with
  | inl _=>exact ⟨_,rfl⟩
  | inr q=>exact ⟨q,rfl⟩
 ·rw [Df hl]; exact ⟨_,rfl⟩
theorem D0m {l:List (List Int)} (hl:l.length≤1000) (hm:∀ x∈l,x.length≤1000):∃ r,A3j l A3b=some r∧(∀ x∈r,x∈l)∧r.length≤l.length:=by
 unfold A3j
 by_cases h2:(l.length:Int)<2
 ·rw [Dt h2]; exact ⟨l,rfl,λ_ h=>h,Nat.le_refl _⟩
 ·rw [Df h2,Cn]
  obtain ⟨r,hr,hq⟩:=L6 (f:=A1T l A3b) (λs=>∃ k:Nat,s=(k:Int)∧1≤k∧k≤l.length) (λs=>l.length - s.toNat) (λr=>r=.inl ()∨∃ q,r=.inr q∧(∀ x∈q,x∈l)∧q.length≤l.length) (λs hs=>by
   obtain ⟨k,rfl,h1,hk⟩:=hs
   simp only [A1T]
   by_cases hlt:k<l.length
   ·rw [Dt (by omega),Cy]
    obtain ⟨m,rfl⟩:∃ m,k=m+1:=⟨k - 1,by omega⟩
    obtain ⟨b,eb⟩:=eqL (a:=l[m+1]) (b:=l[m]) (hm _ (Gm hlt))
    simp only [A0h hlt,A0h (show m<l.length by omega),C6r (show m≤1000 by omega),Oz,eb]
    cases b with
    | false=>
     left
     rw [Cn,H6 (by omega)]
     exact ⟨_,rfl,⟨m+1+1,rfl,by omega,by omega⟩,by simp; omega⟩
    | true=>
     right
     have bb:∀ a:Nat,a≤l.length→bdV (a:Int) (l.length:Int) (l.length:Int)=some ():=λa ha=>by unfold bdV; rw [Dt (by omega),Dt (by omega),Dt (by omega)]; rfl
     rw [Cy]
     unfold A7l
     rw [bb _ hk,Oz]
     obtain ⟨⟨d,w⟩,hw,hd,a,rfl,ha,hmm⟩:=L6 (f:=A1S l A3b ((m+1:Nat):Int)) (λs=>s.1.length=l.length∧(∀ x∈s.1,x∈l)∧∃ a b:Nat,s.2.1=(a:Int)∧s.2.2=(b:Int)∧1≤b∧m+1+b≤l.length∧a+1≤m+1+b) (λs=>l.length - s.2.2.toNat) (λr=>r.1.length=l.length∧∃ a:Nat,r.2=(a:Int)∧a≤l.length∧∀ x∈r.1,x∈l) (λs hs=>by
      obtain ⟨d,a',b'⟩:=s
      obtain ⟨hd,hmem,a,b,rfl,rfl,hb1,hb,hab⟩:=hs
      simp only at hd hmem
      simp only [A1S,Zt]
      by_cases hlt2:b<l.length - (m+1)
      ·left
       rw [Dt (by omega),Cy]
       obtain ⟨b0,rfl⟩:∃ b0,b=b0+1:=⟨b - 1,by omega⟩
       have gv:∀ q:Nat,m+1+q<l.length→∃ y,B9A d ((m+1:Nat):Int) (l.length:Int) (q:Int)=some y∧y∈l:=λq hq=>by
        unfold B9A
        rw [Dt (by omega),Dt (by omega),Dt (by omega)]
        have hlt':m+1+q<d.length:=by omega
        refine ⟨d[m+1+q],?_,hmem _ (Gm hlt')⟩
        have:=A0h hlt'
        rw [show ((m+1+q:Nat):Int)=((m+1:Nat):Int)+(q:Int) by omega] at this
        exact this
       obtain ⟨y1,e1,m1⟩:=gv (b0+1) (by omega)
       obtain ⟨y2,e2,m2⟩:=gv b0 (by omega)
       obtain ⟨b,eb⟩:=eqL (a:=y1) (b:=y2) (hm _ m1)
       simp only [A7j,e1,e2,C6r (show b0≤1000 by omega),Oz,eb]
       cases b with
       | true=>
        simp only [Bq,Cn]
        rw [H6 (by omega)]
        exact ⟨_,rfl,⟨hd,hmem,a,b0+1+1,rfl,rfl,by omega,by omega,by omega⟩,by simp; omega⟩
       | false=>
        simp only [Bp,Cy]
        simp only [A0h (show a<d.length by omega),Oz,H6 (show a<9223372036854775807 by omega),H6 (show b0+1<9223372036854775807 by omega)]
        refine ⟨_,rfl,⟨by simp [hd],λx hx=>?_,a+1,b0+1+1,rfl,rfl,by omega,by omega,by omega⟩,by simp; omega⟩
        rcases List.mem_or_eq_of_mem_set hx with h | h
        ·exact hmem x h
        ·rw [h]; exact m1
      ·right
       rw [Df (by omega),Cn]
       exact ⟨_,rfl,hd,a,rfl,by omega,hmem⟩) FUEL (l,((m+1:Nat):Int),(1:Int)) ⟨rfl,λ_ h=>h,m+1,1,rfl,rfl,by omega,by omega,by omega⟩ (fuel' (by simp; omega))
     simp only at hd
     rw [hw,Oz]
     simp only
     rw [hd,bb a ha]
     simp only [Oz]
     have hpl:(A3u d (a:Int).toNat (List.replicate ((l.length:Int).toNat - (a:Int).toNat) ([]:List Int)))=d.take a++List.replicate (l.length - a) []:=by
      unfold A3u
      simp only [Zt,List.length_replicate]
      rw [List.drop_eq_nil_of_le (by omega),List.append_nil]
     rw [hpl]
     have hsb:sbL (d.take a++List.replicate (l.length - a) ([]:List Int)) 0 (a:Int)=some (d.take a):=by
      have:sbL (d.take a++List.replicate (l.length - a) ([]:List Int)) 0 (a:Int)=(bif Nat.ble 0 a && Nat.ble a (d.take a++List.replicate (l.length - a) ([]:List Int)).length then some (Sl.sub (d.take a++List.replicate (l.length - a) ([]:List Int)) 0 a) else none):=rfl
      rw [this,Nb (Nat.zero_le _),Nb (by simp; omega)]
      simp only [Bool.and_self,Cy,Sl.sub,List.drop_zero]
      rw [List.take_left' (by simp; omega)]
     rw [hsb]
     exact ⟨_,rfl,.inr ⟨_,rfl,λx hx=>hmm x (List.mem_of_mem_take hx),by simp; omega⟩⟩
   ·right
    rw [Df (by omega)]
    exact ⟨_,rfl,.inl rfl⟩) FUEL (1:Int) ⟨1,rfl,by omega,by omega⟩ (fuel' (by simp; omega))
  rw [hr]
  rcases hq with rfl | ⟨q,rfl,hq⟩
  ·exact ⟨l,rfl,λ_ h=>h,Nat.le_refl _⟩
  ·exact ⟨q,rfl,hq⟩
theorem D0S {ts:List D7} (h:MTs ts) {t:D7} (ht:t∈ts) {seats:List Int} (hl:seats.length≤1000) (hs:∀ k∈seats,0≤k∧k<M6 t):∃ r,B4N t seats=some r∧r.length≤12∧∀ u∈r,PmL (M6 t).toNat u∧A1N t u=some true∧∀ k∈seats,u.getD k.toNat 0=k:=by
 obtain ⟨i,hi,rfl⟩:=List.getElem_of_mem ht
 obtain ⟨c1,_,_,c4,c5⟩:=h.t i _ (Lg hi)
 generalize ts[i]=t at *
 obtain ⟨cs,hc,hcl,hcp⟩:=D0A h ht
 have h0:M6 t≠0:=(A6w c1).2.1
 have hbd:=Y5 t
 have hopen:t.A2Y.length≤maxLen:=by rw [mx]; have:=C5k c1; omega
 have hck:A5T t=some 0:=by rw [B1p c5,c1]
 have e1:A0u seats (λy0=>A8x y0 t)=some false:=by
  rw [D1V hl (g:=λ_=>false) (λx hx=>by
   have:=hs x hx
   unfold A8x
   rw [Df (by omega),Cn,A2i,Oz,Df (by omega)])]
  congr 1
  induction seats <;> simp_all
 have e2:∀ u,PmL (M6 t).toNat u→A0u seats (λy0=>A8C y0 u)=some (seats.any λk=>!decide (u.getD k.toNat 0=k)):=λu hu=>
  D1V hl λk hk=>by
   have:=hs k hk
   unfold A8C
   rw [A1W 0 this.1 (by rw [hu.1]; omega)]
   rfl
 let Y:(List (List Int)⊕Unit)→List Int→(List (List Int)⊕Unit):=λs u=>match s with
  | .inl c=>.inl (if (A1N t u).getD false && !(seats.any λk=>!decide (u.getD k.toNat 0=k)) then c++[u] else c)
  | .inr x=>.inr x
 let I:(List (List Int)⊕Unit)→Nat→Prop:=λs i=>∃ c,s=.inl c∧c.length≤i
 have hmem:∀ (i:Nat) (u:List Int),cs[i]?=some u→u∈cs:=λi u hu=>A0C hu
 have key:=C6V c4 hc hcl (A9c t seats) Y I (λs i u hu hI=>by
  obtain ⟨c,rfl,hcl'⟩:=hI
  have hi':=P5 hu
  have hp:=hcp u (hmem i u hu)
  obtain ⟨b,hb⟩:=C9v h0 hopen hp
  have hap:apL c [u]=some (c++[u]):=V4 (by omega)
  simp only [A9c,hb,Oz,e2 u hp,hap]
  show _∧∃ c',Y (.inl c) u=.inl c'∧c'.length≤i+1
  simp only [Y,hb,Option.getD_some]
  cases b with
  | false=>exact ⟨rfl,c,rfl,by omega⟩
  | true=>
   cases seats.any λk=>!decide (u.getD k.toNat 0=k) with
   | true=>exact ⟨rfl,c,rfl,by omega⟩
   | false=>exact ⟨rfl,c++[u],rfl,by simp; omega⟩) (s:=.inl []) ⟨[],rfl,Nat.le_refl _⟩
 have hfold:∀ (l:List (List Int)) (c:List (List Int)),∃ c',l.foldl Y (.inl c)=.inl c'∧c'.length≤c.length+l.length∧∀ u∈c',u∈c∨(u∈l∧(A1N t u).getD false=true∧(seats.any λk=>!decide (u.getD k.toNat 0=k))=false):=by
  intro l
  induction l with
  | nil=>intro c; exact ⟨c,rfl,by simp,λu hu=>.inl hu⟩
  | cons x l ih=>
   intro c
   rw [List.foldl_cons]
   by_cases hq:((A1N t x).getD false && !(seats.any λk=>!decide (x.getD k.toNat 0=k)))=true
   ·have:Y (.inl c) x=.inl (c++[x]):=by simp only [Y]; rw [if_pos hq]
    rw [this]
    obtain ⟨c',e,hl',hm⟩:=ih (c++[x])
    refine ⟨c',e,by simp at hl' ⊢; omega,λu hu=>?_⟩
    rcases hm u hu with h | ⟨h1,h2⟩
    ·rcases List.mem_append.1 h with h | h
     ·exact .inl h
     ·rw [Ms] at h
      subst h
      simp only [Ba,Bool.not_eq_true'] at hq
      exact .inr ⟨List.mem_cons_self ..,hq.1,hq.2⟩
    ·exact .inr ⟨Mc _ h1,h2⟩
   ·have:Y (.inl c) x=.inl c:=by simp only [Y]; rw [if_neg hq]
    rw [this]
    obtain ⟨c',e,hl',hm⟩:=ih c
    refine ⟨c',e,by simp at hl' ⊢; omega,λu hu=>?_⟩
    rcases hm u hu with h | ⟨h1,h2⟩
    ·exact .inl h
    ·exact .inr ⟨Mc _ h1,h2⟩
 obtain ⟨c,ec,hcl2,hm2⟩:=hfold cs []
 have hm3:∀ u∈c,PmL (M6 t).toNat u∧A1N t u=some true∧∀ k∈seats,u.getD k.toNat 0=k:=λu hu=>by
  rcases hm2 u hu with h | ⟨h1,h2,h3⟩
  ·cases h
  ·refine ⟨hcp u h1,?_,λk hk=>?_⟩
   ·cases hk:A1N t u with
    | none=>rw [hk] at h2; cases h2
    | some b=>rw [hk] at h2; simp at h2; rw [h2]
   ·have:=List.any_eq_false.1 h3 k hk
    simpa using this
 have hc12:c.length≤12:=by simp at hcl2; omega
 have hlen:∀ u∈c,u.length≤1000:=λu hu=>by rw [(hm3 u hu).1.1]; omega
 have hsort:=C4Z (c:=cmpL) (cmp:=A3M) (P:=λu=>u.length≤1000) (λa b ha _=>cmpL_eq ha) hc12 hlen
 have hperm:=B6j (λa b=>decide (cmpL a b<0)) c
 obtain ⟨r,hr,hrm,hrl⟩:=D0m (l:=B3d (λa b=>decide (cmpL a b<0)) c) (by rw [hperm.length_eq]; omega) (λx hx=>hlen x (hperm.mem_iff.1 hx))
 refine ⟨r,?_,by rw [hperm.length_eq] at hrl; omega,λu hu=>hm3 u (hperm.mem_iff.1 (hrm u hu))⟩
 unfold B4N
 simp only [hck,Oz,Dt rfl,Bq,Cn,e1,A8V,key,ec,hsort,hr]
 rfl
end Go.Pl
namespace Go.Pl
open Go Go.Sl Go.Dm
structure KI (K:H5) (p:C9) (r:F7):Prop where
 word:K.A7f≠(⟨#[]⟩:ByteArray)
 w:0≤r.K6∧r.K6≤1000
 n0:K.fn=false→r.fN=0
 a:K.fa=103→0≤A7b p r.fA
 b:K.fb=true→0≤A7b p r.fB
 t:K.ft=116→0≤A4n p r.I5
 n1:K.fn=true→K.flo≤r.fN∧(K.A5X=false→r.fN≤24)∧(K.A5X=true→0≤A4n p r.I5→∃ t:D7,p.C8[(A4n p r.I5).toNat]?=some t∧r.fN<M6 t)
theorem ne0 {n:Int} {P:Prop} (h:some n=some (0:Int)) (hn:n≠0):P:=absurd (Option.some.inj h) hn
theorem D4M {K:H5} {r:F7} (h:A0v K r=some true):K.fn=false→r.fN=0:=by
 intro hn
 unfold A0v A0l A0n at h
 rw [hn] at h
 simp only [Cn] at h
 cases h1:!decide (K.fa=(0:Int)) <;> cases h2:K.fb <;> cases h3:!decide (K.ft=(0:Int)) <;> cases h4:decide (r.I5=(⟨#[]⟩:ByteArray)) <;> cases h5:decide (r.fA=(⟨#[]⟩:ByteArray)) <;> cases h6:decide (r.fB=(⟨#[]⟩:ByteArray)) <;> rw [h1,h2] at h <;> simp [h3,h4,h5,h6] at h <;> exact h
theorem D2R {K:H5} {p:C9} {r:F7} (hT:B7O p.C8) (hc:(A8T p.C8).2=0) (hg:p.A7.length≤maxLen) (h:A1M K p r=some 0):KI K p r:=by
 have who:∀ n,A0P p n=some (A7b p n):=λn=>B0z hg n
 unfold A1M at h
 cases hw:decide (K.A7f=(⟨#[]⟩:ByteArray)) with
 | true=>rw [hw] at h; exact ne0 h (by decide)
 | false=>
  rw [hw,Cn] at h
  obtain ⟨b1,h1,h⟩:=bnd h
  cases b1 with
  | true=>exact ne0 h (by decide)
  | false=>
   rw [Cn] at h
   obtain ⟨b2,h2,h⟩:=bnd h
   cases b2 with
   | false=>exact ne0 h (by decide)
   | true=>
    simp only [Bq,Cn] at h
    obtain ⟨b3,h3,h⟩:=bnd h
    unfold A7Q at h
    obtain ⟨b4,h4,h⟩:=bnd h
    cases b4 with
    | true=>exact ne0 h (by decide)
    | false=>
     rw [Cn] at h
     obtain ⟨b5,h5,h⟩:=bnd h
     cases b5 with
     | true=>exact ne0 h (by decide)
     | false=>
      rw [Cn] at h
      obtain ⟨b6,h6,h⟩:=bnd h
      cases b6 with
      | true=>exact ne0 h (by decide)
      | false=>
       rw [Cn] at h
       unfold A7J at h
       rw [C3U hT hc] at h
       obtain ⟨⟨t134,t135⟩,h7,h⟩:=bnd h
       obtain ⟨b8,h8,h⟩:=bnd h
       unfold A3J at h
       cases b8 with
       | true=>exact ne0 h (by decide)
       | false=>
        rw [Cn] at h
        obtain ⟨most,h9,hf⟩:=bnd h
        have hb3:b3=false:=by
         cases b3 with
         | false=>rfl
         | true=>cases h4
        subst hb3
        rw [Cn] at h4
        have htab:K.ft=116→0≤A4n p r.I5∧t134=A4n p r.I5:=by
         intro ht
         by_cases hlt:A4n p r.I5<0
         ·rw [Dt hlt] at h7
          cases h7
          rw [Dt ht] at h8
          cases h8
         ·rw [Df hlt] at h7
          cases h7
          exact ⟨by omega,rfl⟩
        have htab2:0≤A4n p r.I5→t134=A4n p r.I5:=by
         intro h0
         rw [Df (by omega)] at h7
         cases h7
         rfl
        refine ⟨of_decide_eq_false hw,?_,D4M h2,?_,?_,λht=>(htab ht).1,?_⟩
        ·by_cases hlt:r.K6<0
         ·rw [Dt hlt] at h1; cases h1
         ·rw [Df hlt,Cn] at h1
          have:=of_decide_eq_false (Option.some.inj h1)
          omega
        ·intro ha
         rw [Dt ha,Cy,who] at h3
         have:=of_decide_eq_false (Option.some.inj h3)
         omega
        ·intro hb
         unfold A3F at h4
         rw [hb] at h4
         simp only [Cy,who,Oz] at h4
         cases h10:decide (K.fa=(101:Int)) with
         | false=>
          rw [h10,Cn] at h4
          have:=of_decide_eq_false (Option.some.inj h4)
          omega
         | true=>
          rw [h10,Cy] at h4
          cases h11:!decide (r.fA=(⟨#[]⟩:ByteArray)) with
          | false=>
           rw [h11,Cn] at h4
           have:=of_decide_eq_false (Option.some.inj h4)
           omega
          | true=>
           rw [h11,Cy] at h4
           by_cases hlt:A7b p r.fA<0
           ·rw [Dt hlt] at h4; cases h4
           ·rw [Df hlt,Cn] at h4
            have:=of_decide_eq_false (Option.some.inj h4)
            omega
        ·intro hn
         rw [hn,Cy] at hf
         by_cases hlo:r.fN<K.flo
         ·rw [Dt hlo] at hf; exact ne0 hf (by decide)
         ·rw [Df hlo,Cn] at hf
          by_cases hmo:most<r.fN
          ·rw [Dt hmo] at hf; exact ne0 hf (by decide)
          ·refine ⟨by omega,λhs=>?_,λhs h0=>?_⟩
           ·rw [hs] at h9; cases h9; omega
           ·rw [hs,Cy,htab2 h0] at h9
            obtain ⟨t,ht,hm⟩:=C6L hT hc h0
            rw [hm] at h9
            cases h9
            exact ⟨t,ht,by omega⟩
structure RF (p:C9) (r:F7):Prop where
 k:1≤r.F9∧r.F9≤18
 w:0≤r.K6∧r.K6≤1000
 two:r.F9≤5→0≤A7b p r.fA∧0≤A7b p r.fB
 one:r.F9=6∨r.F9=7→0≤A7b p r.fA
 n:0≤r.fN∧r.fN≤24
 tab:r.F9=6∨r.F9=7∨r.F9=17→0≤A4n p r.I5
 seat:r.F9=7→∃ t:D7,p.C8[(A4n p r.I5).toNat]?=some t∧r.fN<M6 t
theorem Vld.rf {p:C9} (h:Vld p) {r:F7} (hr:r∈p.J9):RF p r:=by
 have hg:p.A7.length≤maxLen:=by have:=h.B2x; rw [mx]; omega
 have hu:=h.ok.u r hr
 have h0:=h.rule hr
 obtain ⟨ok,hK,h1⟩:=D0E h.ok.ts h.h.v hg hu
 rw [h0] at h1
 have ki:=D2R h.ok.ts h.h.v hg h1
 by_cases hk:r.F9<1∨18<r.F9
 ·rw [C5v (C9K hk)] at ki
  exact absurd rfl ki.word
 ·have hT:∀ t:D7,M6 t≤24:=λt=>(Y5 t).2
  have hl:∀ (k:Int) (K':H5) (b:Bool),r.F9=k→lkM KM k zK=some (K',b)→KI K' p r:=by
   intro k K' b e1 e2
   rw [e1] at ki
   rwa [C5v e2] at ki
  have:r.F9=1∨r.F9=2∨r.F9=3∨r.F9=4∨r.F9=5∨r.F9=6∨r.F9=7∨r.F9=8∨r.F9=9∨r.F9=10∨r.F9=11∨r.F9=12∨r.F9=13∨r.F9=14∨r.F9=15∨r.F9=16∨r.F9=17∨r.F9=18:=by omega
  rcases this with e | e | e | e | e | e | e | e | e | e | e | e | e | e | e | e | e | e
  ·have q:=hl _ _ _ e D2p; have:=(q.n1 rfl).1; have:=(q.n1 rfl).2.1 rfl; have:=q.a rfl; have:=q.b rfl
   refine ⟨by omega,q.w,λ_=>⟨q.a rfl,q.b rfl⟩,by omega,⟨by simp_all,by simp_all⟩,by omega,by omega⟩
  ·have q:=hl _ _ _ e D2X; have:=q.n0 rfl
   refine ⟨by omega,q.w,λ_=>⟨q.a rfl,q.b rfl⟩,by omega,by omega,by omega,by omega⟩
  ·have q:=hl _ _ _ e D2K; have:=q.n0 rfl
   refine ⟨by omega,q.w,λ_=>⟨q.a rfl,q.b rfl⟩,by omega,by omega,by omega,by omega⟩
  ·have q:=hl _ _ _ e D2s; have h1:=(q.n1 rfl).1; have:=(q.n1 rfl).2.1 rfl; simp only at h1
   refine ⟨by omega,q.w,λ_=>⟨q.a rfl,q.b rfl⟩,by omega,by omega,by omega,by omega⟩
  ·have q:=hl _ _ _ e D2M; have:=q.n0 rfl
   refine ⟨by omega,q.w,λ_=>⟨q.a rfl,q.b rfl⟩,by omega,by omega,by omega,by omega⟩
  ·have q:=hl _ _ _ e D2I; have:=q.n0 rfl
   refine ⟨by omega,q.w,by omega,λ_=>q.a rfl,by omega,λ_=>q.t rfl,by omega⟩
  ·have q:=hl _ _ _ e D1j; have h1:=(q.n1 rfl).1; obtain ⟨t,ht,hn⟩:=(q.n1 rfl).2.2 rfl (q.t rfl); have:=hT t; simp only at h1
   refine ⟨by omega,q.w,by omega,λ_=>q.a rfl,by omega,λ_=>q.t rfl,λ_=>⟨t,ht,hn⟩⟩
  ·have q:=hl _ _ _ e D2V; have:=q.n0 rfl
   refine ⟨by omega,q.w,by omega,by omega,by omega,by omega,by omega⟩
  ·have q:=hl _ _ _ e D2B; have:=q.n0 rfl
   refine ⟨by omega,q.w,by omega,by omega,by omega,by omega,by omega⟩
  ·have q:=hl _ _ _ e D0v; have:=q.n0 rfl
   refine ⟨by omega,q.w,by omega,by omega,by omega,by omega,by omega⟩
  ·have q:=hl _ _ _ e C9h; have:=q.n0 rfl
   refine ⟨by omega,q.w,by omega,by omega,by omega,by omega,by omega⟩
  ·have q:=hl _ _ _ e D0y; have:=q.n0 rfl
   refine ⟨by omega,q.w,by omega,by omega,by omega,by omega,by omega⟩
  ·have q:=hl _ _ _ e C9J; have:=q.n0 rfl
   refine ⟨by omega,q.w,by omega,by omega,by omega,by omega,by omega⟩
  ·have q:=hl _ _ _ e C8N; have:=q.n0 rfl
   refine ⟨by omega,q.w,by omega,by omega,by omega,by omega,by omega⟩
  ·have q:=hl _ _ _ e C9c; have h1:=(q.n1 rfl).1; have:=(q.n1 rfl).2.1 rfl; simp only at h1
   refine ⟨by omega,q.w,by omega,by omega,by omega,by omega,by omega⟩
  ·have q:=hl _ _ _ e D0h; have h1:=(q.n1 rfl).1; have:=(q.n1 rfl).2.1 rfl; simp only at h1
   refine ⟨by omega,q.w,by omega,by omega,by omega,by omega,by omega⟩
  ·have q:=hl _ _ _ e C9Z; have:=q.n0 rfl
   refine ⟨by omega,q.w,by omega,by omega,by omega,λ_=>q.t rfl,by omega⟩
  ·have q:=hl _ _ _ e C9q; have:=q.n0 rfl
   refine ⟨by omega,q.w,by omega,by omega,by omega,by omega,by omega⟩
end Go.Pl
namespace Go.Pl
open Go Go.Sl Go.Dm
structure Z6 (v:F5) (p:C9) (N:Nat):Prop where
 vld:Vld p
 j:JOk v.F4 p N
 part:A0a N p.A7.length v.Q4
 gl:v.B3L.length=N
 gx:∀ s:Nat,s<N→v.B3L[s]?=some (Y7 (λx=>decide (x=(s:Int))) 0 v.Q4)
def noT:D7:=⟨⟨#[]⟩,0,0,0,[],0,0⟩
def noG:E9:=⟨⟨#[]⟩,⟨#[]⟩,⟨#[]⟩,0,0,⟨#[]⟩,false,false,[]⟩
section
variable (v:F5)
def pt (g:Int):Int:=v.Q4.getD g.toNat (-1)
def tb (s:Int):Int:=v.F4.Z8.getD s.toNat 0
def lev (s:Int):Int:=v.F4.B7Z.getD s.toNat 0
def opn (s:Int):Bool:=v.F4.C5r.getD s.toNat false
def tab (t:Int):D7:=v.F4.O9.C8.getD t.toNat noT
def gst (g:Int):E9:=v.F4.O9.A7.getD g.toNat noG
def cls (g:Int):Int:=v.F4.O9.R7.getD g.toNat 0
def tie (a b:Int):Int:=(v.F4.A0F.getD a.toNat []).getD b.toNat 0
def cmn (a b:Int):Bool:=(v.F4.B1Z.getD a.toNat []).getD b.toNat false
def clo (l:List (List Int)) (a b:Int):Bool:=(l.getD (pt v a).toNat []).any λx=>decide (x=pt v b)
def isN (a b:Int):Bool:=clo v v.F4.W9 a b || clo v v.F4.A0s a b
def far (a b:Int):Option Int:=A4c (v.F4.A3o.getD (pt v a).toNat []) (pt v b)
def B1N (r:F7) (s:Int):Bool:=decide (r.I5=(⟨#[]⟩:ByteArray)) || decide (r.I5=(tab v (tb v s)).F8)
def wA (r:F7):Int:=A7b v.F4.O9 r.fA
def wB (r:F7):Int:=A7b v.F4.O9 r.fB
end
section
variable {v:F5} {p:C9} {N:Nat} (h:Z6 v p N)
include h
theorem Z6.g64:p.A7.length≤64:=h.vld.B2x
theorem Z6.pl:v.Q4.length=p.A7.length:=h.part.len
theorem Z6.D3J:N≤384:=by
 have h1:=h.j.n
 have:=A5M h.vld.h
 omega
theorem Z6.pG {g:Int} (h0:0≤g) (h1:g<p.A7.length):G7 v.Q4 g=some (pt v g):=A1W _ h0 (by rw [h.pl]; exact h1)
theorem Z6.pB {g:Int} (h0:0≤g) (h1:g<p.A7.length):-1≤pt v g∧pt v g<N:=h.part.bd _ (A6R _ h0 (by rw [h.pl]; exact h1))
theorem Z6.tG {s:Int} (h0:0≤s) (h1:s<N):G7 v.F4.Z8 s=some (tb v s):=A1W _ h0 (by rw [h.j.tb.tbl]; exact h1)
theorem Z6.tB {s:Int} (h0:0≤s) (h1:s<N):0≤tb v s∧tb v s<p.C8.length:=h.j.tb.tbv _ (A6R _ h0 (by rw [h.j.tb.tbl]; exact h1))
theorem Z6.lG {s:Int} (h0:0≤s) (h1:s<N):G7 v.F4.B7Z s=some (lev v s):=A1W _ h0 (by rw [h.j.tb.lvl]; exact h1)
theorem Z6.oG {s:Int} (h0:0≤s) (h1:s<N):G7 v.F4.C5r s=some (opn v s):=A1W _ h0 (by rw [h.j.tb.opl]; exact h1)
theorem Z6.D1L {t:Int} (h0:0≤t) (h1:t<p.C8.length):G7 v.F4.O9.C8 t=some (tab v t):=A1W _ h0 (by rw [h.j.given]; exact h1)
theorem Z6.gG {g:Int} (h0:0≤g) (h1:g<p.A7.length):G7 v.F4.O9.A7 g=some (gst v g):=A1W _ h0 (by rw [h.j.given]; exact h1)
theorem Z6.cG (hc:p.R7.length≠0) {g:Int} (h0:0≤g) (h1:g<p.A7.length):G7 v.F4.O9.R7 g=some (cls v g):=by
 have:=h.vld.rest.1
 exact A1W _ h0 (by rw [h.j.given]; omega)
theorem Z6.D4h {a b:Int} (h0:0≤a) (h1:a<p.A7.length) (k0:0≤b) (k1:b<p.A7.length):∃ l,G7 v.F4.A0F a=some l∧G7 l b=some (tie v a b):=by
 have hl:a<v.F4.A0F.length:=by rw [h.j.ti]; exact h1
 exact ⟨_,A1W [] h0 hl,A1W _ k0 (by rw [h.j.tiv _ (A6R [] h0 hl)]; exact k1)⟩
theorem Z6.cmG {a b:Int} (h0:0≤a) (h1:a<p.A7.length) (k0:0≤b) (k1:b<p.A7.length):∃ l,G7 v.F4.B1Z a=some l∧G7 l b=some (cmn v a b):=by
 have hl:a<v.F4.B1Z.length:=by rw [h.j.cm]; exact h1
 exact ⟨_,A1W [] h0 hl,A1W _ k0 (by rw [h.j.cmv _ (A6R [] h0 hl)]; exact k1)⟩
theorem Z6.asked (r:F7) {s:Int} (h0:0≤s) (h1:s<N):A4j v r s=some (B1N v r s):=by
 unfold A4j B1N
 cases decide (r.I5=(⟨#[]⟩:ByteArray)) with
 | true=>rfl
 | false=>simp only [Cn,h.tG h0 h1,Oz,h.D1L (h.tB h0 h1).1 (h.tB h0 h1).2,Bool.false_or]
theorem Z6.D3h {n:ByteArray}:A0P v.F4.O9 n=some (A7b v.F4.O9 n):=B0z (by rw [h.j.given,mx]; have:=h.g64; omega) n
theorem Z6.C6s {n:ByteArray} (hn:0≤A7b p n):0≤A7b v.F4.O9 n∧A7b v.F4.O9 n<p.A7.length:=by
 rw [h.j.given]
 obtain ⟨k,e,hk⟩:=C1q _ _ 0 hn
 unfold A7b at hn ⊢
 omega
theorem Z6.C9C {l:List (List Int)} (hl:l.length=N) (hr:∀ r∈l,r.length≤24) {a b:Int} (h0:0≤a) (h1:a<p.A7.length) (ha:0≤pt v a) (k0:0≤b) (k1:b<p.A7.length):A1Q v l a b=some (clo v l a b):=by
 have hb:=h.pB h0 h1
 have hp:pt v a<l.length:=by rw [hl]; exact hb.2
 unfold A1Q
 rw [h.pG h0 h1,Oz,A1W [] ha hp,Oz]
 have hx:=hr _ (A6R [] ha hp)
 unfold clo
 generalize l.getD (pt v a).toNat []=e at hx
 have:=A1t (f:=A5v v b e) e (λi x=>if decide (x=pt v b) then some (.inr true) else none) (.inl ():Unit⊕Bool) (fuel (n:=e.length) (by omega)) (λi x hi=>by
  have hlt:=P5 hi
  simp only [A5v,Dt (show (i:Int)<(e.length:Int) by omega),Cy,J2 hi,Oz,h.pG k0 k1]
  by_cases hq:x=pt v b
  ·simp [hq]
  ·rw [Df hq,Cn,H6 (by omega)]
   rfl) (by simp [A5v])
 rw [this,Oz,A7F _ (λx=>!decide (x=pt v b)) (.inr true) _ (λi x=>by cases decide (x=pt v b) <;> rfl)]
 cases hq:e.any λx=>decide (x=pt v b) with
 | true=>
  have:(e.all λx=>!decide (x=pt v b))=false:=by rw [←Bool.not_eq_true]; intro hh; rw [Ay] at hq; obtain ⟨x,hx,hd⟩:=hq; have:=Al.1 hh x hx; rw [hd] at this; cases this
  rw [this]; rfl
 | false=>
  have:(e.all λx=>!decide (x=pt v b))=true:=by rw [Al]; intro x hx; have:=List.any_eq_false.1 hq x hx; simpa using this
  rw [this]; rfl
theorem Z6.bsG {a b:Int} (h0:0≤a) (h1:a<p.A7.length) (ha:0≤pt v a) (k0:0≤b) (k1:b<p.A7.length):A1Q v v.F4.W9 a b=some (clo v v.F4.W9 a b):=h.C9C h.j.tb.bsl (λr hr=>(h.j.tb.bsv r hr).1) h0 h1 ha k0 k1
theorem Z6.acG {a b:Int} (h0:0≤a) (h1:a<p.A7.length) (ha:0≤pt v a) (k0:0≤b) (k1:b<p.A7.length):A1Q v v.F4.A0s a b=some (clo v v.F4.A0s a b):=h.C9C h.j.tb.acl (λr hr=>(h.j.tb.acv r hr).1) h0 h1 ha k0 k1
theorem Z6.D1S {a b:Int} (h0:0≤a) (h1:a<p.A7.length) (ha:0≤pt v a) (k0:0≤b) (k1:b<p.A7.length):A5Z v a b=some (isN v a b):=by
 unfold A5Z isN
 rw [h.bsG h0 h1 ha k0 k1,h.acG h0 h1 ha k0 k1]
 cases clo v v.F4.W9 a b <;> rfl
theorem Z6.D3E {a b:Int} (h0:0≤a) (h1:a<p.A7.length) (ha:0≤pt v a) (k0:0≤b) (k1:b<p.A7.length):B3w v a b=some ((far v a b).getD 0,(far v a b).isSome):=by
 unfold B3w far
 rw [h.pG h0 h1,Oz,A1W [] ha (by rw [h.j.st]; exact (h.pB h0 h1).2),Oz,h.pG k0 k1,Oz]
 rcases C6I (v.F4.A3o.getD (pt v a).toNat []) (pt v b) with ⟨x,e1,e2⟩ | ⟨e1,e2⟩
 ·rw [e1,e2]; rfl
 ·rw [e1,e2]; rfl
end
abbrev Fl:=List (Int×List Int)
def run {σ:Type} (f:σ→Int→List Int→Option σ) (s:σ) (l:Fl):Option σ:=Z9 (λs x=>f s x.1 x.2) s l
def A1V (v:F5) (r:F7) (c:Int→Int→Bool):Fl:=if (decide (0≤pt v (wA v r)) && decide (0≤pt v (wB v r)) && c (wA v r) (wB v r)) then [(1,[wA v r,wB v r])] else []
theorem D1l {σ:Type} (f:σ→Int→List Int→Option σ) (s:σ):run f s []=some s:=rfl
theorem A4F {σ:Type} (f:σ→Int→List Int→Option σ) (s:σ) (n:Int) (l:List Int):run f s [(n,l)]=f s n l:=by
 simp only [run,Z9]
 cases f s n l <;> rfl
theorem A0e {α:Type} (x:Option α):(Option.bind x λa=>some a)=x:=by cases x <;> rfl
section
variable {v:F5} {p:C9} {N:Nat} (h:Z6 v p N) {r:F7} (hr:RF p r) {σ:Type} (f:σ→Int→List Int→Option σ) (s:σ)
include h hr
theorem Z6.both (hk:r.F9≤5):A6k v r=some (wA v r,wB v r,decide (0≤pt v (wA v r)) && decide (0≤pt v (wB v r))):=by
 have ha:=h.C6s (hr.two hk).1
 have hb:=h.C6s (hr.two hk).2
 unfold A6k wA wB
 simp only [h.D3h,Oz,h.pG ha.1 ha.2,h.pG hb.1 hb.2]
 cases decide (0≤pt v (A7b v.F4.O9 r.fA)) <;> rfl
theorem Z6.B8A (hk:r.F9≤5):(0≤wA v r∧wA v r<p.A7.length)∧0≤wB v r∧wB v r<p.A7.length:=⟨h.C6s (hr.two hk).1,h.C6s (hr.two hk).2⟩
def C7W (v:F5) (r:F7) (a b:Int):Bool:=decide (tb v (pt v a)=tb v (pt v b)) && (decide (r.fN=0) || ((far v a b).isSome && decide ((far v a b).getD 0<r.fN)))
theorem Z6.apart (hk:r.F9≤5):B2E v r f s=run f s (A1V v r (C7W v r)):=by
 obtain ⟨⟨a0,a1⟩,b0,b1⟩:=h.B8A hr hk
 unfold B2E A1V C7W
 rw [h.both hr hk,Oz]
 by_cases ha:0≤pt v (wA v r)
 ·by_cases hb:0≤pt v (wB v r)
  ·simp only [Dt ha,Dt hb,Bool.and_self,Bq,Cn,h.pG a0 a1,h.pG b0 b1,Oz,h.tG ha (h.pB a0 a1).2,h.tG hb (h.pB b0 b1).2,h.D3E a0 a1 ha b0 b1,Bool.true_and]
   by_cases ht:tb v (pt v (wA v r))=tb v (pt v (wB v r))
   ·simp only [Dt ht,Bq,Cn,Bool.true_and]
    cases decide (r.fN=0) with
    | true=>simp only [Cy,Bool.true_or,if_true,A4F,A0e]
    | false=>
     cases (far v (wA v r) (wB v r)).isSome with
     | false=>rfl
     | true=>
      simp only [Cn,Cy,Bool.false_or,Bool.true_and]
      cases decide ((far v (wA v r) (wB v r)).getD 0<r.fN) with
      | true=>simp only [Cy,if_true,A4F,A0e]
      | false=>rfl
   ·simp only [Df ht,Bp,Cy,Bool.false_and]
    rfl
  ·simp only [Df hb,Bool.and_false,Bp,Cy,Oz,Bool.false_and]
   rfl
 ·simp only [Df ha,Bool.false_and,Bp,Cy,Oz]
  rfl
theorem Z6.side (hk:r.F9≤5):A5C v r f s=run f s (A1V v r (λa b=>!clo v v.F4.W9 a b)):=by
 obtain ⟨⟨a0,a1⟩,b0,b1⟩:=h.B8A hr hk
 unfold A5C A1V
 rw [h.both hr hk,Oz]
 by_cases ha:0≤pt v (wA v r)
 ·by_cases hb:0≤pt v (wB v r)
  ·simp only [Dt ha,Dt hb,Bool.and_self,Cy,h.bsG a0 a1 ha b0 b1,Oz,Bool.true_and]
   cases clo v v.F4.W9 (wA v r) (wB v r) with
   | true=>rfl
   | false=>simp only [Bp,Cy,if_true,A4F,A0e]
  ·simp only [Df hb,Bool.and_false,Cn,Bool.false_and]
   rfl
 ·simp only [Df ha,Bool.false_and,Cn]
  rfl
theorem Z6.D5h (hk:r.F9≤5):A5G v r f s=run f s (A1V v r (λa b=>!clo v v.F4.A0s a b)):=by
 obtain ⟨⟨a0,a1⟩,b0,b1⟩:=h.B8A hr hk
 unfold A5G A1V
 rw [h.both hr hk,Oz]
 by_cases ha:0≤pt v (wA v r)
 ·by_cases hb:0≤pt v (wB v r)
  ·simp only [Dt ha,Dt hb,Bool.and_self,Cy,h.acG a0 a1 ha b0 b1,Oz,Bool.true_and]
   cases clo v v.F4.A0s (wA v r) (wB v r) with
   | true=>rfl
   | false=>simp only [Bp,Cy,if_true,A4F,A0e]
  ·simp only [Df hb,Bool.and_false,Cn,Bool.false_and]
   rfl
 ·simp only [Df ha,Bool.false_and,Cn]
  rfl
theorem Z6.within (hk:r.F9≤5):B0V v r f s=run f s (A1V v r (λa b=>!(far v a b).isSome || decide (r.fN<(far v a b).getD 0))):=by
 obtain ⟨⟨a0,a1⟩,b0,b1⟩:=h.B8A hr hk
 unfold B0V A1V
 rw [h.both hr hk,Oz]
 by_cases ha:0≤pt v (wA v r)
 ·by_cases hb:0≤pt v (wB v r)
  ·simp only [Dt ha,Dt hb,Bool.and_self,Cy,h.D3E a0 a1 ha b0 b1,Oz,Bool.true_and]
   cases (far v (wA v r) (wB v r)).isSome with
   | false=>simp only [Bp,Cy,Bool.true_or,if_true,A4F,A0e]
   | true=>
    simp only [Bq,Cn,Bool.false_or]
    cases decide (r.fN<(far v (wA v r) (wB v r)).getD 0) with
    | false=>rfl
    | true=>simp only [Cy,if_true,A4F,A0e]
  ·simp only [Df hb,Bool.and_false,Cn,Bool.false_and]
   rfl
 ·simp only [Df ha,Bool.false_and,Cn]
  rfl
theorem Z6.together (hk:r.F9≤5):A8d v r f s=run f s (A1V v r (λa b=>!decide (tb v (pt v a)=tb v (pt v b)))):=by
 obtain ⟨⟨a0,a1⟩,b0,b1⟩:=h.B8A hr hk
 unfold A8d A1V
 rw [h.both hr hk,Oz]
 by_cases ha:0≤pt v (wA v r)
 ·by_cases hb:0≤pt v (wB v r)
  ·simp only [Dt ha,Dt hb,Bool.and_self,Cy,h.pG a0 a1,h.pG b0 b1,Oz,h.tG ha (h.pB a0 a1).2,h.tG hb (h.pB b0 b1).2,Bool.true_and]
   cases decide (tb v (pt v (wA v r))=tb v (pt v (wB v r))) with
   | true=>rfl
   | false=>simp only [Bp,Cy,if_true,A4F,A0e]
  ·simp only [Df hb,Bool.and_false,Cn,Bool.false_and]
   rfl
 ·simp only [Df ha,Bool.false_and,Cn]
  rfl
end
end Go.Pl
namespace Go.Pl
open Go Go.Sl Go.Dm
def flS (G:Nat) (c:Nat→Bool):Fl:=((List.range G).filter c).map λ(g:Nat)=>(1,[(g:Int)])
def flP (G:Nat) (c:Nat→Nat→Bool):Fl:=(List.range G).flatMap λa=>((List.range' (a+1) (G - (a+1))).filter (c a)).map λ(b:Nat)=>((1:Int),[(a:Int),(b:Int)])
section
variable {σ:Type} (f:σ→Int→List Int→Option σ) (s:σ)
theorem C3v {l0:σ×Int→Option ((σ×Int)⊕σ)} {G:Nat} (hG:G≤1000) (c:Nat→Bool)
  (h1:∀ s i,i<G→l0 (s,(i:Int))=Option.bind (if c i then f s 1 [(i:Int)] else some s) λs'=>some (.inl (s',((i+1:Nat):Int))))
  (h2:∀ s,l0 (s,(G:Int))=some (.inr s)):iter l0 FUEL (s,(0:Int))=run f s (flS G c):=by
 have:=B6s (f:=l0) (λ(s:σ) (i:Nat)=>(s,(i:Int))) id (N:=G) (λs i=>if c i then f s 1 [(i:Int)] else some s) h1 h2 s (fuel' (n:=G) (by omega))
 unfold run flS
 rw [B8w,A6H]
 simpa using this
theorem C9r {l1:σ×Int→Option ((σ×Int)⊕σ)} {G a:Nat} (hG:G≤1000) (ha:a<G) (c:Nat→Bool)
  (h1:∀ s i,i<G→a<i→l1 (s,(i:Int))=Option.bind (if c i then f s 1 [(a:Int),(i:Int)] else some s) λs'=>some (.inl (s',((i+1:Nat):Int))))
  (h2:∀ s,l1 (s,(G:Int))=some (.inr s)):iter l1 FUEL (s,((a+1:Nat):Int))=run f s (((List.range' (a+1) (G - (a+1))).filter c).map λ(b:Nat)=>((1:Int),[(a:Int),(b:Int)])):=by
 unfold run
 rw [B8w,A6H]
 have key:∀ (n k:Nat) (s:σ),a<k→k≤G→G - k<n→iter l1 n (s,(k:Int))=Z9 (λs i=>if c i then f s 1 [(a:Int),(i:Int)] else some s) s (List.range' k (G - k)):=by
  intro n
  induction n with
  | zero=>intro k s _ _ h; omega
  | succ n ih=>
   intro k s hak hk hn
   by_cases hl:k=G
   ·subst hl
    simp [iter,h2,Z9]
   ·have hlt:k<G:=by omega
    have e:List.range' k (G - k)=k::List.range' (k+1) (G - (k+1)):=by
     obtain ⟨d,hd⟩:∃ d,G - k=d+1:=⟨G - k - 1,by omega⟩
     rw [hd,List.range'_succ,show G - (k+1)=d by omega]
    rw [e]
    simp only [iter,h1 s k hlt hak,Z9]
    cases (if c k then f s 1 [(a:Int),(k:Int)] else some s) with
    | none=>rfl
    | some s'=>exact ih (k+1) s' (by omega) (by omega) (by omega)
 exact key FUEL (a+1) s (by omega) (by omega) (fuel' (by omega))
theorem D0c {l0:σ×Int→Option ((σ×Int)⊕σ)} {G:Nat} (hG:G≤1000) (c:Nat→Nat→Bool)
  (h1:∀ s a,a<G→l0 (s,(a:Int))=Option.bind (run f s (((List.range' (a+1) (G - (a+1))).filter (c a)).map λ(b:Nat)=>((1:Int),[(a:Int),(b:Int)]))) λs'=>some (.inl (s',((a+1:Nat):Int))))
  (h2:∀ s,l0 (s,(G:Int))=some (.inr s)):iter l0 FUEL (s,(0:Int))=run f s (flP G c):=by
 have:=B6s (f:=l0) (λ(s:σ) (i:Nat)=>(s,(i:Int))) id (N:=G) (λs a=>run f s (((List.range' (a+1) (G - (a+1))).filter (c a)).map λ(b:Nat)=>((1:Int),[(a:Int),(b:Int)]))) h1 h2 s (fuel' (n:=G) (by omega))
 unfold flP
 have e:∀ l:List Nat,run f s (l.flatMap λa=>((List.range' (a+1) (G - (a+1))).filter (c a)).map λ(b:Nat)=>((1:Int),[(a:Int),(b:Int)]))=Z9 (λs a=>run f s (((List.range' (a+1) (G - (a+1))).filter (c a)).map λ(b:Nat)=>((1:Int),[(a:Int),(b:Int)]))) s l:=λl=>B6y _ _ l s
 rw [e]
 simpa using this
end
section
variable {v:F5} {p:C9} {N:Nat} (h:Z6 v p N) {r:F7} {σ:Type} (f:σ→Int→List Int→Option σ) (s:σ)
include h
theorem Z6.C5e {i:Nat} (hi:i<p.A7.length):J5 ((i:Int)+(1:Int))=some ((i+1:Nat):Int):=H6 (by have:=h.g64; omega)
def B5Z (v:F5) (r:F7) (g:Nat):Bool:=decide (0≤pt v g) && !opn v (pt v g) && (decide (r.fA=(gst v g).F8) || (decide (r.fA=(⟨#[]⟩:ByteArray)) && (gst v g).Y4))
theorem Z6.reach:B2n v r f s=run f s (flS p.A7.length (B5Z v r)):=by
 have hg:=h.g64
 unfold B2n
 rw [C3v f s (l0:=A5o v r f) (G:=p.A7.length) (by omega) (B5Z v r),A0e]
 ·intro s i hi
  have hp:=h.pB (g:=i) (by omega) (by omega)
  unfold B5Z
  simp only [A5o,B5D,Dt (show (i:Int)<(v.Q4.length:Int) by rw [h.pl]; omega),Cy,h.pG (g:=i) (by omega) (by omega),Oz,h.gG (g:=i) (by omega) (by omega),h.C5e hi]
  by_cases h0:0≤pt v i
  ·simp only [Dt h0,Cy,h.oG h0 hp.2,Oz,Bool.true_and]
   cases opn v (pt v i) with
   | true=>rfl
   | false=>
    cases decide (r.fA=(gst v i).F8) with
    | true=>rfl
    | false=>
     cases decide (r.fA=(⟨#[]⟩:ByteArray)) with
     | false=>rfl
     | true=>cases (gst v i).Y4 <;> rfl
  ·simp only [Df h0]
   rfl
 ·intro s
  simp [A5o,h.pl]
def B0g (v:F5) (r:F7) (g:Nat):Bool:=decide (0≤pt v g) && decide ((gst v g).A0z=r.fA) && !B1N v r (pt v g)
theorem Z6.D0I:A9i v r f s=run f s (flS p.A7.length (B0g v r)):=by
 have hg:=h.g64
 unfold A9i
 rw [C3v f s (l0:=A3r v r f) (G:=p.A7.length) (by omega) (B0g v r),A0e]
 ·intro s i hi
  have hp:=h.pB (g:=i) (by omega) (by omega)
  unfold B0g
  simp only [A3r,B3b,Dt (show (i:Int)<(v.Q4.length:Int) by rw [h.pl]; omega),Cy,h.pG (g:=i) (by omega) (by omega),Oz,h.gG (g:=i) (by omega) (by omega),h.C5e hi]
  by_cases h0:0≤pt v i
  ·simp only [Dt h0,Cy,h.asked r h0 hp.2,Oz,Bool.true_and]
   cases decide ((gst v i).A0z=r.fA) with
   | false=>rfl
   | true=>cases B1N v r (pt v i) <;> rfl
  ·simp only [Df h0]
   rfl
 ·intro s
  simp [A3r,h.pl]
def who (v:F5) (k:Int):Int:=v.B3L.getD k.toNat (-1)
theorem Z6.whG {k:Int} (h0:0≤k) (h1:k<N):G7 v.B3L k=some (who v k):=A1W _ h0 (by rw [h.gl]; exact h1)
theorem Z6.whB {k:Int} (h0:0≤k) (h1:k<N):-1≤who v k∧who v k<p.A7.length:=by
 have e:=h.gx k.toNat (by omega)
 have e':who v k=Y7 (λx=>decide (x=((k.toNat:Nat):Int))) 0 v.Q4:=by unfold who; simp [List.getD,e]
 rw [e']
 by_cases hn:0≤Y7 (λx=>decide (x=((k.toNat:Nat):Int))) 0 v.Q4
 ·obtain ⟨j,ej,hj⟩:=C1q _ _ 0 hn
  rw [h.pl] at hj
  omega
 ·have h2:=B1F (λx=>decide (x=((k.toNat:Nat):Int))) v.Q4 0
  have h3:=A9Y (λx=>decide (x=((k.toNat:Nat):Int))) v.Q4 0 (h2.mp (by omega))
  omega
def spk (v:F5) (g:Int) (a b:Bool) (l:List Int):Bool×Bool:=(a || l.any (λk=>decide (0≤who v k)),b && l.all (λk=>!decide (0≤who v k) || !cmn v g (who v k)))
theorem Z6.D0i {g:Int} (g0:0≤g) (g1:g<p.A7.length) {l:List Int} (hl:l.length≤24) (hx:∀ x∈l,0≤x∧x<N) (a b:Bool):iter (A2C v g l) FUEL ((0:Int),a,b)=some (spk v g a b l):=by
 have key:=C6o (f:=A2C v g l) (λ(q:Bool×Bool) (i:Nat)=>((i:Int),q.1,q.2)) id l (λq k=>some (if 0≤who v k then (true,q.2 && !cmn v g (who v k)) else q)) (λq i k hk=>by
  obtain ⟨q1,q2⟩:=q
  have hlt:=P5 hk
  have hb:=hx k (A0C hk)
  have hw:=h.whB hb.1 hb.2
  simp only [A2C,B5q,Dt (show (i:Int)<(l.length:Int) by omega),Cy,J2 hk,Oz,h.whG hb.1 hb.2,H6 (show i<9223372036854775807 by omega)]
  by_cases h0:0≤who v k
  ·obtain ⟨l',e1,e2⟩:=h.cmG g0 g1 h0 hw.2
   simp only [Dt h0,Cy,e1,e2,Oz,if_pos h0]
   cases q2 <;> rfl
  ·simp only [Df h0,Cn,if_neg h0]) (λq=>by simp [A2C]) (a,b) (fuel' (n:=l.length) (by omega))
 have:iter (A2C v g l) FUEL ((0:Int),a,b)=(Z9 (λ(q:Bool×Bool) k=>some (if 0≤who v k then (true,q.2 && !cmn v g (who v k)) else q)) (a,b) l).map id:=by simpa using key
 rw [this,Option.map_id]
 clear this key hl hx
 unfold spk
 induction l generalizing a b with
 | nil=>simp [Z9]
 | cons k l ih=>
  simp only [Z9,Oz,List.any_cons,List.all_cons]
  by_cases h0:0≤who v k
  ·rw [if_pos h0]
   simp only [Dt h0,ih]
   cases a <;> cases b <;> simp
  ·rw [if_neg h0]
   simp only [Df h0,ih]
   simp
theorem Z6.D2Z {g:Int} (g0:0≤g) (g1:g<p.A7.length) {l m:List Int} (hl:l.length≤24) (hx:∀ x∈l,0≤x∧x<N) (hm:m.length≤24) (hy:∀ x∈m,0≤x∧x<N):iter (A1A v g l m) FUEL ((0:Int),false,true)=some (spk v g false true (l++m)):=by
 have e0:A1A v g l m ((0:Int),false,true)=some (.inl ((1:Int),(spk v g false true l).1,(spk v g false true l).2)):=by
  have e:decide ((0:Int)<(([l,m]:List (List Int)).length:Int))=true:=rfl
  have e2:G7 [l,m] (0:Int)=some l:=rfl
  simp only [A1A,e,Cy,e2,Oz,h.D0i g0 g1 hl hx]
  rfl
 have e1:∀ a b,A1A v g l m ((1:Int),a,b)=some (.inl ((2:Int),(spk v g a b m).1,(spk v g a b m).2)):=by
  intro a b
  have e:decide ((1:Int)<(([l,m]:List (List Int)).length:Int))=true:=rfl
  have e2:G7 [l,m] (1:Int)=some m:=rfl
  simp only [A1A,e,Cy,e2,Oz,h.D0i g0 g1 hm hy]
  rfl
 have e2:∀ a b,A1A v g l m ((2:Int),a,b)=some (.inr (a,b)):=λa b=>rfl
 have hF:∃ n,FUEL=n+3:=⟨FUEL - 3,by have:=fuel' (n:=3) (by omega); omega⟩
 obtain ⟨n,hF⟩:=hF
 rw [hF]
 simp only [iter,e0,Oz,e1,e2]
 unfold spk
 simp [List.any_append,List.all_append]
def nbs (v:F5) (g:Int):List Int:=v.F4.W9.getD (pt v g).toNat []++v.F4.A0s.getD (pt v g).toNat []
def C3Y (v:F5) (r:F7) (g:Nat):Bool:=decide (0≤pt v g) && B1N v r (pt v g) && ((nbs v g).any (λk=>decide (0≤who v k)) && (nbs v g).all (λk=>!decide (0≤who v k) || !cmn v g (who v k)))
theorem Z6.speak:B2C v r f s=run f s (flS p.A7.length (C3Y v r)):=by
 have hg:=h.g64
 unfold B2C
 rw [C3v f s (l0:=A5a v r f) (G:=p.A7.length) (by omega) (C3Y v r),A0e]
 ·intro s i hi
  have hp:=h.pB (g:=i) (by omega) (by omega)
  unfold C3Y
  simp only [A5a,Dt (show (i:Int)<(v.Q4.length:Int) by rw [h.pl]; omega),Cy,h.pG (g:=i) (by omega) (by omega),Oz,h.C5e hi]
  by_cases h0:0≤pt v i
  ·have hbl:pt v i<v.F4.W9.length:=by rw [h.j.tb.bsl]; exact hp.2
   have hal:pt v i<v.F4.A0s.length:=by rw [h.j.tb.acl]; exact hp.2
   have hb:=h.j.tb.bsv _ (A6R [] h0 hbl)
   have ha:=h.j.tb.acv _ (A6R [] h0 hal)
   simp only [Dt h0,Df (show ¬ pt v i<0 by omega),Cn,h.asked r h0 hp.2,Oz,Bool.true_and]
   cases B1N v r (pt v i) with
   | false=>rfl
   | true=>
    simp only [Bq,Cn,Bool.true_and,B5l,A1W [] h0 hbl,A1W [] h0 hal,Oz,h.D2Z (g:=(i:Int)) (by omega) (by omega) hb.1 hb.2 ha.1 ha.2,spk,Bool.false_or,h.C5e hi]
    change (bif (nbs v i).any _ then _ else _)=_
    cases (nbs v i).any λk=>decide (0≤who v k) with
    | false=>rfl
    | true=>
     change (bif (nbs v i).all _ then _ else _)=_
     cases (nbs v i).all λk=>!decide (0≤who v k) || !cmn v i (who v k) <;> rfl
  ·simp only [Df h0,Dt (show pt v i<0 by omega)]
   rfl
 ·intro s
  simp [A5a,h.pl]
def B9i (v:F5) (r:F7) (a b:Nat):Bool:=decide (0≤pt v a) && decide (0≤pt v b) && decide (tie v a b=1) && (B1N v r (pt v a) || B1N v r (pt v b)) && !isN v a b
theorem Z6.company:A9m v r f s=run f s (flP p.A7.length (B9i v r)):=by
 have hg:=h.g64
 unfold A9m
 rw [D0c f s (l0:=A3y v r f) (G:=p.A7.length) (by omega) (B9i v r),A0e]
 ·intro s a ha
  have hpa:=h.pB (g:=a) (by omega) (by omega)
  simp only [A3y,Dt (show (a:Int)<(v.Q4.length:Int) by rw [h.pl]; omega),Cy,h.pG (g:=a) (by omega) (by omega),Oz,h.C5e ha]
  rw [C9r f s (l1:=A3s v r f a (pt v a)) (G:=p.A7.length) (by omega) ha (B9i v r a)]
  ·intro s b hb hab
   have hpb:=h.pB (g:=b) (by omega) (by omega)
   obtain ⟨l,e1,e2⟩:=h.D4h (a:=a) (b:=b) (by omega) (by omega) (by omega) (by omega)
   unfold B9i
   simp only [A3s,B2S,B2R,Dt (show (b:Int)<(v.Q4.length:Int) by rw [h.pl]; omega),Cy,h.pG (g:=b) (by omega) (by omega),Oz,h.C5e hb]
   by_cases h0:0≤pt v a
   ·by_cases h1:0≤pt v b
    ·simp only [Dt h0,Dt h1,Cy,e1,e2,Oz,Bool.true_and,h.asked r h0 hpa.2,h.asked r h1 hpb.2,h.D1S (a:=a) (b:=b) (by omega) (by omega) h0 (by omega) (by omega)]
     cases decide (tie v a b=1) with
     | false=>rfl
     | true=>cases B1N v r (pt v a) <;> cases B1N v r (pt v b) <;> cases isN v a b <;> rfl
    ·simp only [Df h1]
     cases decide (0≤pt v a) <;> rfl
   ·simp only [Df h0]
    rfl
  ·intro s
   simp [A3s,h.pl]
 ·intro s
  simp [A3y,h.pl]
def A2X (v:F5) (r:F7) (so:Int→Int→Bool) (a b:Nat):Bool:=decide (0≤pt v a) && B1N v r (pt v a) && (decide (0≤pt v b) && decide (tb v (pt v b)=tb v (pt v a)) && so a b)
theorem Z6.pairs (so:Int→Int→Bool) (so':Int→Int→Option Bool) (hs:∀ a b:Int,0≤a→a<p.A7.length→0≤b→b<p.A7.length→0≤pt v a→0≤pt v b→so' a b=some (so a b)):A5J v r so' f s=run f s (flP p.A7.length (A2X v r so)):=by
 have hg:=h.g64
 unfold A5J
 rw [D0c f s (l0:=A4X v r so' f) (G:=p.A7.length) (by omega) (A2X v r so),A0e]
 ·intro s a ha
  have hpa:=h.pB (g:=a) (by omega) (by omega)
  simp only [A4X,B5j,Dt (show (a:Int)<(v.Q4.length:Int) by rw [h.pl]; omega),Cy,h.pG (g:=a) (by omega) (by omega),Oz,h.C5e ha]
  by_cases h0:0≤pt v a
  ·simp only [Df (show ¬ pt v a<0 by omega),Cn,h.asked r h0 hpa.2,Oz]
   cases hk:B1N v r (pt v a) with
   | true=>
    simp only [Bq,Cn]
    rw [C9r f s (l1:=A5k v so' f a (pt v a)) (G:=p.A7.length) (by omega) ha (A2X v r so a)]
    ·intro s b hb hab
     have hpb:=h.pB (g:=b) (by omega) (by omega)
     unfold A2X
     simp only [A5k,B5n,Dt (show (b:Int)<(v.Q4.length:Int) by rw [h.pl]; omega),Cy,h.pG (g:=b) (by omega) (by omega),Oz,h.C5e hb,Dt h0,hk,Bool.true_and]
     by_cases h1:0≤pt v b
     ·simp only [Dt h1,Cy,Bool.true_and,h.tG h0 hpa.2,h.tG h1 hpb.2,Oz]
      cases decide (tb v (pt v b)=tb v (pt v a)) with
      | false=>rfl
      | true=>
       simp only [Cy,hs a b (by omega) (by omega) (by omega) (by omega) h0 h1,Oz,Bool.true_and]
       cases so a b <;> rfl
     ·simp only [Df h1]
      rfl
    ·intro s
     simp [A5k,h.pl]
   | false=>
    have:(List.range' (a+1) (p.A7.length - (a+1))).filter (A2X v r so a)=[]:=by
     rw [List.filter_eq_nil_iff]
     intro b _
     simp [A2X,hk]
    rw [this]
    rfl
  ·have:(List.range' (a+1) (p.A7.length - (a+1))).filter (A2X v r so a)=[]:=by
    rw [List.filter_eq_nil_iff]
    intro b _
    simp [A2X,h0]
   rw [this,Dt (show pt v a<0 by omega)]
   rfl
 ·intro s
  simp [A4X,h.pl]
end
end Go.Pl
namespace Go.Pl
open Go Go.Sl Go.Dm
def C1E (v:F5) (t:Int):Nat→Nat
 | 0=>0
 | n+1=>if tb v (n:Int)=t then C1E v t n else n+1
def sit (v:F5) (G:Nat) (t:Int):List Int:=((List.range G).filter λ(g:Nat)=>decide (0≤pt v g) && decide (tb v (pt v g)=t)).map λ(g:Nat)=>(g:Int)
def flT (v:F5) (r:F7) (T G:Nat) (c:List Int→Fl):Fl:=((List.range T).filter λ(t:Nat)=>decide (r.I5=(⟨#[]⟩:ByteArray)) || decide (r.I5=(tab v t).F8)).flatMap λ(t:Nat)=>c (sit v G t)
theorem C6Y (v:F5) (t:Int):∀ n,C1E v t n≤n
 | 0=>Nat.le_refl _
 | n+1=>by
  unfold C1E
  by_cases h:tb v (n:Int)=t
  ·rw [if_pos h]; have:=C6Y v t n; omega
  ·rw [if_neg h]; exact Nat.le_refl _
def C8l (v:F5) (r:F7):Fl:=if decide (0≤pt v (wA v r)) && !decide ((tab v (tb v (pt v (wA v r)))).F8=r.I5) then [(1,[wA v r])] else []
def B7S (v:F5) (r:F7):Fl:=if decide (0≤pt v (wA v r)) && (!decide ((tab v (tb v (pt v (wA v r)))).F8=r.I5) || !decide (pt v (wA v r) - (C1E v (tb v (pt v (wA v r))) (pt v (wA v r)).toNat:Nat)=r.fN)) then [(1,[wA v r])] else []
def B6W (v:F5) (l:List Int):Fl:=if l.any (λg=>(gst v g).X7) then [] else if 0<l.length then [(1,l)] else []
def B5F (r:F7) (l:List Int):Fl:=if (l.length:Int)<r.fN then [(r.fN - l.length,l)] else []
def C2z (r:F7) (l:List Int):Fl:=if r.fN<(l.length:Int) then [((l.length:Int) - r.fN,l)] else []
def C6H (v:F5) (a b:Int):Bool:=decide (0<(gst v a).A0y) && decide ((gst v a).A0y=(gst v b).A0y) && clo v v.F4.W9 a b
def C6q (v:F5) (a b:Int):Bool:=!decide ((gst v a).V6=(⟨#[]⟩:ByteArray)) && decide ((gst v a).V6=(gst v b).V6) && clo v v.F4.W9 a b
def B6n (v:F5) (a b:Int):Bool:=decide (tie v a b=2) && isN v a b
def C6f (v:F5) (a b:Int):Bool:=if cls v b<cls v a then decide (lev v (pt v a)<lev v (pt v b)) else decide (cls v a<cls v b) && decide (lev v (pt v b)<lev v (pt v a))
section
variable {v:F5} {p:C9} {N:Nat} (h:Z6 v p N) {r:F7} {σ:Type} (f:σ→Int→List Int→Option σ) (s:σ)
include h
theorem Z6.at_ (hr:RF p r) (hk:r.F9=6∨r.F9=7):B9S v r f s=run f s (C8l v r):=by
 have ha:0≤wA v r∧wA v r<p.A7.length:=h.C6s (hr.one hk)
 unfold B9S C8l
 rw [h.D3h,Oz]
 change (Option.bind (G7 v.Q4 (wA v r)) _)=_
 rw [h.pG ha.1 ha.2,Oz]
 by_cases h0:0≤pt v (wA v r)
 ·have hp:=(h.pB ha.1 ha.2).2
  have ht:=h.tB h0 hp
  simp only [Dt h0,Cy,h.tG h0 hp,Oz,h.D1L ht.1 ht.2,Bool.true_and]
  cases decide ((tab v (tb v (pt v (wA v r)))).F8=r.I5) with
  | true=>rfl
  | false=>
   simp only [Bp,Cy,if_true,A4F,A0e]
   rfl
 ·simp only [Df h0]
  rfl
theorem Z6.D3F {t0:Int} (h0:0≤t0) (h1:t0<N):∀ (n m:Nat),n<m→n≤N→iter (A9l v t0) m (n:Int)=some ((C1E v (tb v t0) n:Nat):Int):=by
 have hN:=h.D3J
 intro n
 induction n with
 | zero=>
  intro m hm _
  obtain ⟨k,rfl⟩:∃ k,m=k+1:=⟨m - 1,by omega⟩
  rfl
 | succ n ih=>
  intro m hm hn
  obtain ⟨k,rfl⟩:∃ k,m=k+1:=⟨m - 1,by omega⟩
  have e1:J5 (((n+1:Nat):Int) - (1:Int))=some (n:Int):=by rw [A1p (by omega) (by omega)]; congr 1; omega
  simp only [iter,A9l,Dt (show (0:Int)<((n+1:Nat):Int) by omega),Cy,e1,Oz,h.tG (s:=(n:Int)) (by omega) (by omega),h.tG h0 h1]
  unfold C1E
  by_cases hq:tb v (n:Int)=tb v t0
  ·rw [Dt hq,if_pos hq]
   exact ih k (by omega) (by omega)
  ·rw [Df hq,if_neg hq]
   rfl
theorem Z6.seat (hr:RF p r) (hk:r.F9=6∨r.F9=7):B4r v r f s=run f s (B7S v r):=by
 have ha:0≤wA v r∧wA v r<p.A7.length:=h.C6s (hr.one hk)
 have hN:=h.D3J
 unfold B4r B7S
 rw [h.D3h,Oz]
 change (Option.bind (G7 v.Q4 (wA v r)) _)=_
 rw [h.pG ha.1 ha.2,Oz]
 by_cases h0:0≤pt v (wA v r)
 ·have hp:=(h.pB ha.1 ha.2).2
  have ht:=h.tB h0 hp
  have e:=h.D3F h0 hp (pt v (wA v r)).toNat FUEL (fuel' (by omega)) (by omega)
  rw [show (((pt v (wA v r)).toNat:Nat):Int)=pt v (wA v r) by omega] at e
  have hf:=C6Y v (tb v (pt v (wA v r))) (pt v (wA v r)).toNat
  simp only [Df (show ¬ pt v (wA v r)<0 by omega),Cn,e,h.tG h0 hp,Oz,h.D1L ht.1 ht.2,Dt h0,Bool.true_and]
  rw [A1p (x:=pt v (wA v r) - _) (by omega) (by omega)]
  cases decide ((tab v (tb v (pt v (wA v r)))).F8=r.I5) with
  | false=>
   simp only [Bp,Cy,Bool.true_or,if_true,A4F,A0e]
   rfl
  | true=>
   simp only [Bq,Cn,Bool.false_or,Oz]
   cases decide (pt v (wA v r) - ((C1E v (tb v (pt v (wA v r))) (pt v (wA v r)).toNat:Nat):Int)=r.fN) with
   | true=>rfl
   | false=>
    simp only [Bp,Cy,if_true,A4F,A0e]
    rfl
 ·simp only [Df h0,Dt (show pt v (wA v r)<0 by omega)]
  rfl
theorem C2M (c:Nat→Bool):∀ (l:List Nat) (a:List Int),l.foldl (λa g=>if c g then a++[(g:Int)] else a) a=a++(l.filter c).map λ(g:Nat)=>(g:Int)
 | [],a=>by simp
 | g::l,a=>by
  simp only [List.foldl_cons]
  rw [C2M c l]
  by_cases hc:c g=true
  ·simp [hc]
  ·simp [hc]
theorem Z6.D4X {t:Int}:iter (A3k v t) FUEL ((0:Int),([]:List Int))=some (sit v p.A7.length t):=by
 have hg:=h.g64
 have:=C0P (f:=A3k v t) (λ(l:List Int) (i:Nat)=>((i:Int),l)) id (N:=p.A7.length) (λa g=>if decide (0≤pt v g) && decide (tb v (pt v g)=t) then a++[(g:Int)] else a) (λl i=>l.length≤i) (a:=[]) (Nat.zero_le _) (λl i hi hl=>by
  have hp:=h.pB (g:=i) (by omega) (by omega)
  have hap:apL l [(i:Int)]=some (l++[(i:Int)]):=V4 (by omega)
  simp only [A3k,Dt (show (i:Int)<(v.Q4.length:Int) by rw [h.pl]; omega),Cy,h.pG (g:=i) (by omega) (by omega),Oz,H6 (show i<9223372036854775807 by omega),hap]
  by_cases h0:0≤pt v i
  ·simp only [Dt h0,Cy,h.tG h0 hp.2,Oz,Bool.true_and]
   by_cases hq:tb v (pt v i)=t
   ·simp only [Dt hq,Cy,if_true]
    exact ⟨by first | trivial | rfl,by simp; omega⟩
   ·simp only [Df hq,Cn]
    exact ⟨by first | trivial | rfl,by simp; omega⟩
  ·simp only [Df h0,Cn,Bool.false_and]
   exact ⟨by first | trivial | rfl,by simp; omega⟩) (λl hl=>by simp [A3k,h.pl]) (fuel' (n:=p.A7.length) (by omega))
 have e:iter (A3k v t) FUEL ((0:Int),([]:List Int))=some (id ((List.range p.A7.length).foldl (λ(a:List Int) (g:Nat)=>if decide (0≤pt v g) && decide (tb v (pt v g)=t) then a++[(g:Int)] else a) [])):=this
 rw [e,C2M h]
 rfl
theorem C7K (G:Nat) (t:Int):(sit v G t).length≤G:=by
 unfold sit
 rw [List.length_map]
 exact Nat.le_trans (List.length_filter_le _ _) (by simp)
theorem Z6.D4R {t g:Int} (hg:g∈sit v p.A7.length t):0≤g∧g<(p.A7.length:Int):=by
 unfold sit at hg
 obtain ⟨k,hk,rfl⟩:=List.mem_map.1 hg
 have:=Mr.1 (List.mem_filter.1 hk).1
 omega
theorem Z6.each (c:List Int→Fl) (d:σ→List Int→Option σ) (hd:∀ s l,l.length≤p.A7.length→(∀ g:Int,g∈l→0≤g∧g<(p.A7.length:Int))→d s l=run f s (c l)):A9u v r d s=run f s (flT v r p.C8.length p.A7.length c):=by
 have hT:=h.vld.h.len
 unfold A9u
 have key:=B6s (f:=A4z v r d) (λ(s:σ) (i:Nat)=>(s,(i:Int))) id (N:=p.C8.length) (λs (t:Nat)=>if decide (r.I5=(⟨#[]⟩:ByteArray)) || decide (r.I5=(tab v t).F8) then run f s (c (sit v p.A7.length t)) else some s) (λs t ht=>by
  simp only [A4z,B6V,Dt (show (t:Int)<(v.F4.O9.C8.length:Int) by rw [h.j.given]; omega),Cy,h.D1L (t:=t) (by omega) (by omega),Oz,H6 (show t<9223372036854775807 by omega),h.D4X,hd s _ (C7K h _ t) (λg hg=>h.D4R hg)]
  cases decide (r.I5=(⟨#[]⟩:ByteArray)) with
  | true=>rfl
  | false=>cases decide (r.I5=(tab v t).F8) <;> rfl) (λs=>by simp [A4z,h.j.given]) s (fuel' (n:=p.C8.length) (by omega))
 have key':iter (A4z v r d) FUEL (s,(0:Int))=_:=key
 rw [key',Option.map_id,A0e]
 unfold flT
 have e:∀ l:List Nat,run f s (l.flatMap λ(t:Nat)=>c (sit v p.A7.length t))=Z9 (λs (t:Nat)=>run f s (c (sit v p.A7.length t))) s l:=λl=>B6y _ _ l s
 rw [e,A6H]
 rfl
theorem Z6.host:B4u v r f s=run f s (flT v r p.C8.length p.A7.length (B6W v)):=by
 have hg:=h.g64
 unfold B4u
 rw [h.each f s (B6W v),A0e]
 intro s l hl hb
 have key:=A1t (f:=A4k l v s) l (λi x=>if (gst v x).X7 then some (.inr s) else none) (.inl ():Unit⊕σ) (fuel' (n:=l.length) (by omega)) (λi x hi=>by
  have hlt:=P5 hi
  have hx:=hb x (A0C hi)
  simp only [A4k,Dt (show (i:Int)<(l.length:Int) by omega),Cy,J2 hi,Oz,h.gG hx.1 hx.2,H6 (show i<9223372036854775807 by omega)]
  cases (gst v x).X7 <;> rfl) (by simp [A4k])
 unfold B0J B6W
 rw [key,Oz,A7F _ (λx=>!(gst v x).X7) (.inr s) _ (λi x=>by cases (gst v x).X7 <;> rfl)]
 cases hq:l.any λg=>(gst v g).X7 with
 | true=>
  have:(l.all λx=>!(gst v x).X7)=false:=by rw [←Bool.not_eq_true]; intro hh; rw [Ay] at hq; obtain ⟨x,hx,hd⟩:=hq; have:=Al.1 hh x hx; rw [hd] at this; cases this
  rw [this]; rfl
 | false=>
  have:(l.all λx=>!(gst v x).X7)=true:=by rw [Al]; intro x hx; have:=List.any_eq_false.1 hq x hx; simpa using this
  rw [this]
  by_cases hl0:0<l.length
  ·simp only [if_true,Dt (show (0:Int)<(l.length:Int) by omega),Cy,A0e,if_pos hl0,A4F,Bool.false_eq_true,if_false]
  ·simp only [if_true,Df (show ¬ (0:Int)<(l.length:Int) by omega),Cn,if_neg hl0,D1l,Bool.false_eq_true,if_false]
theorem Z6.fill (hr:RF p r):B4H v r f s=run f s (flT v r p.C8.length p.A7.length (B5F r)):=by
 have hg:=h.g64
 have hn:=hr.n
 unfold B4H
 rw [h.each f s (B5F r),A0e]
 intro s l hl hb
 unfold B0N B5F
 by_cases hq:(l.length:Int)<r.fN
 ·rw [Dt hq,if_pos hq,Cy,A1p (by omega) (by omega),Oz,A0e,A4F]
 ·rw [Df hq,if_neg hq]
  rfl
theorem Z6.limit (hr:RF p r):B2d v r f s=run f s (flT v r p.C8.length p.A7.length (C2z r)):=by
 have hg:=h.g64
 have hn:=hr.n
 unfold B2d
 rw [h.each f s (C2z r),A0e]
 intro s l hl hb
 unfold A8Z C2z
 by_cases hq:r.fN<(l.length:Int)
 ·rw [Dt hq,if_pos hq,Cy,A1p (by omega) (by omega),Oz,A0e,A4F]
 ·rw [Df hq,if_neg hq]
  rfl
theorem Z6.C8E:A6V v r f s=run f s (flP p.A7.length (A2X v r (C6H v))):=by
 unfold A6V
 rw [h.pairs f s (C6H v),A0e]
 intro a b a0 a1 b0 b1 ha hb
 unfold A4u C6H
 simp only [h.gG a0 a1,h.gG b0 b1,Oz,h.bsG a0 a1 ha b0 b1]
 cases decide (0<(gst v a).A0y) <;> cases decide ((gst v a).A0y=(gst v b).A0y) <;> rfl
theorem Z6.mix:B7B v r f s=run f s (flP p.A7.length (A2X v r (C6q v))):=by
 unfold B7B
 rw [h.pairs f s (C6q v),A0e]
 intro a b a0 a1 b0 b1 ha hb
 unfold B2i C6q
 simp only [h.gG a0 a1,h.gG b0 b1,Oz,h.bsG a0 a1 ha b0 b1]
 cases decide ((gst v a).V6=(⟨#[]⟩:ByteArray)) <;> cases decide ((gst v a).V6=(gst v b).V6) <;> rfl
theorem Z6.D4b:B2B v r f s=run f s (flP p.A7.length (A2X v r (B6n v))):=by
 unfold B2B
 rw [h.pairs f s (B6n v),A0e]
 intro a b a0 a1 b0 b1 ha hb
 obtain ⟨l,e1,e2⟩:=h.D4h a0 a1 b0 b1
 unfold A9e B6n
 simp only [e1,e2,Oz,h.D1S a0 a1 ha b0 b1]
 cases decide (tie v a b=2) <;> rfl
theorem Z6.D2U:B0E v r f s=run f s (if p.R7.length=0 then [] else flP p.A7.length (A2X v r (C6f v))):=by
 unfold B0E
 by_cases hc:p.R7.length=0
 ·rw [if_pos hc,Dt (by rw [h.j.given]; omega)]
  rfl
 ·rw [if_neg hc,Df (by rw [h.j.given]; omega),Cn]
  rw [h.pairs f s (C6f v),A0e]
  intro a b a0 a1 b0 b1 ha hb
  have pa:=(h.pB a0 a1).2
  have pb:=(h.pB b0 b1).2
  unfold A7V C6f
  simp only [h.cG hc a0 a1,h.cG hc b0 b1,Oz]
  by_cases hq:cls v b<cls v a
  ·simp only [Dt hq,Cy,if_pos hq,Oz,h.cG hc a0 a1,h.cG hc b0 b1,h.pG a0 a1,h.pG b0 b1,h.lG ha pa,h.lG hb pb]
  ·simp only [Df hq,Cn,if_neg hq,Oz,h.cG hc a0 a1,h.cG hc b0 b1,h.pG a0 a1,h.pG b0 b1,h.lG ha pa,h.lG hb pb]
   cases decide (cls v a<cls v b) <;> rfl
end
def FL (v:F5) (r:F7) (T G C:Nat):Fl:=
 if r.F9=1 then A1V v r (C7W v r) else
 if r.F9=2 then A1V v r (λa b=>!clo v v.F4.W9 a b) else
 if r.F9=3 then A1V v r (λa b=>!clo v v.F4.A0s a b) else
 if r.F9=4 then A1V v r (λa b=>!(far v a b).isSome || decide (r.fN<(far v a b).getD 0)) else
 if r.F9=5 then A1V v r (λa b=>!decide (tb v (pt v a)=tb v (pt v b))) else
 if r.F9=6 then C8l v r else
 if r.F9=7 then B7S v r else
 if r.F9=8 then flP G (A2X v r (C6H v)) else
 if r.F9=9 then flT v r T G (B6W v) else
 if r.F9=10 then flS G (B5Z v r) else
 if r.F9=11 then flS G (C3Y v r) else
 if r.F9=12 then flP G (A2X v r (B6n v)) else
 if r.F9=13 then flP G (B9i v r) else
 if r.F9=14 then (if C=0 then [] else flP G (A2X v r (C6f v))) else
 if r.F9=15 then flT v r T G (B5F r) else
 if r.F9=16 then flT v r T G (C2z r) else
 if r.F9=17 then flS G (B0g v r) else flP G (A2X v r (C6q v))
theorem Z6.find {v:F5} {p:C9} {N:Nat} (h:Z6 v p N) {r:F7} (hr:RF p r) {σ:Type} (f:σ→Int→List Int→Option σ) (s:σ):∃ K,lkM v.F4.C0W r.F9 zK=some (K,true)∧B4s K.C5p v r f s=run f s (FL v r p.C8.length p.A7.length p.R7.length):=by
 have hk:=hr.k
 rw [h.j.kinds]
 have:r.F9=1∨r.F9=2∨r.F9=3∨r.F9=4∨r.F9=5∨r.F9=6∨r.F9=7∨r.F9=8∨r.F9=9∨r.F9=10∨r.F9=11∨r.F9=12∨r.F9=13∨r.F9=14∨r.F9=15∨r.F9=16∨r.F9=17∨r.F9=18:=by omega
 unfold FL
 rcases this with e | e | e | e | e | e | e | e | e | e | e | e | e | e | e | e | e | e
 ·rw [e]; exact ⟨_,D2p,h.apart hr f s (by omega)⟩
 ·rw [e]; exact ⟨_,D2X,h.side hr f s (by omega)⟩
 ·rw [e]; exact ⟨_,D2K,h.D5h hr f s (by omega)⟩
 ·rw [e]; exact ⟨_,D2s,h.within hr f s (by omega)⟩
 ·rw [e]; exact ⟨_,D2M,h.together hr f s (by omega)⟩
 ·rw [e]; exact ⟨_,D2I,h.at_ f s hr (by omega)⟩
 ·rw [e]; exact ⟨_,D1j,h.seat f s hr (by omega)⟩
 ·rw [e]; exact ⟨_,D2V,h.C8E f s⟩
 ·rw [e]; exact ⟨_,D2B,h.host f s⟩
 ·rw [e]; exact ⟨_,D0v,h.reach f s⟩
 ·rw [e]; exact ⟨_,C9h,h.speak f s⟩
 ·rw [e]; exact ⟨_,D0y,h.D4b f s⟩
 ·rw [e]; exact ⟨_,C9J,h.company f s⟩
 ·rw [e]; exact ⟨_,C8N,h.D2U f s⟩
 ·rw [e]; exact ⟨_,C9c,h.fill f s hr⟩
 ·rw [e]; exact ⟨_,D0h,h.limit f s hr⟩
 ·rw [e]; exact ⟨_,C9Z,h.D0I f s⟩
 ·rw [e]; exact ⟨_,C9q,h.mix f s⟩
end Go.Pl
namespace Go.Pl
open Go Go.Sl Go.Dm
theorem D1x:((List.range 385).all λn=>decide (bits_Mul (1:Int) (n:Int)=some ((0:Int),(n:Int))))=true:=by kernel_rfl
theorem mul_one {n:Nat} (h:n≤384):bits_Mul (1:Int) (n:Int)=some ((0:Int),(n:Int)):=of_decide_eq_true (Al.1 D1x n (Mr.2 (by omega)))
theorem D3Z {n:Nat} (h:n≤384):A0Q .u64 (n:Int)=some (n:Int):=by
 unfold A0Q
 rw [Dt (wrap_u64 (by omega) (by omega))]
 rfl
theorem D4P {n:Nat} (h:n≤384):A0Q .i64 (n:Int)=some (n:Int):=by
 unfold A0Q
 rw [Dt (wrap_i64 (by omega) (by omega))]
 rfl
theorem C6S (x:Int) {n:Nat} (h:n≤384):A6n [x] (n:Int)=some (List.replicate n x):=by
 have e0:A0Q .u64 ((([x]:List Int).length:Nat):Int)=some (1:Int):=D3Z (n:=1) (by omega)
 have hm:mkL (n:Int) (0:Int)=some (List.replicate n (0:Int)):=by
  have:mkL (n:Int) (0:Int)=(bif Nat.ble n 1073741824 then some (List.replicate n (0:Int)) else none):=rfl
  rw [this,Nb (by omega)]
  rfl
 unfold A6n B7u
 rw [Df (show ¬ (n:Int)<0 by omega),Cn,Oz,e0,Oz,D3Z h,Oz,mul_one h,Oz]
 simp only
 rw [show decide ((0:Int)<0)=false from rfl,Cn,Oz,Df (show ¬ (9223372036854775807:Int)<(n:Int) by omega),Cn,Oz,D4P h,Oz,hm,Oz]
 by_cases hn:n=0
 ·subst hn; rfl
 ·have hc:cpL (List.replicate n (0:Int)) 0 (List.replicate n (0:Int)).length [x]=some (List.replicate 1 x++List.replicate (n - 1) 0,((1:Nat):Int)):=by
   unfold cpL
   have:min ([x]:List Int).length (List.replicate n (0:Int)).length=1:=by simp; omega
   rw [this]
   simp [A3u]
  rw [hc,Oz]
  simp only
  obtain ⟨r,hr,hq⟩:=L6 (f:=A9d) (λs=>∃ k:Nat,s.2=(k:Int)∧1≤k∧k≤n∧s.1=List.replicate k x++List.replicate (n - k) 0) (λs=>n - s.2.toNat) (λr=>r=List.replicate n x) (λs hs=>by
   obtain ⟨l,q⟩:=s
   obtain ⟨k,rfl,h1,hk,hl⟩:=hs
   simp only at hl
   subst hl
   have hlen:(List.replicate k x++List.replicate (n - k) (0:Int)).length=n:=by simp; omega
   simp only [A9d,B7t,hlen]
   by_cases hlt:k<n
   ·left
    have b1:bdV (k:Int) (n:Int) (n:Int)=some ():=by unfold bdV; rw [Dt (by omega),Dt (by omega),Dt (by omega)]; rfl
    have b2:bdV (0:Int) (k:Int) (n:Int)=some ():=by unfold bdV; rw [Dt (by omega),Dt (by omega),Dt (by omega)]; rfl
    rw [Dt (show (k:Int)<(n:Int) by omega),Cy,b1,b2]
    simp only [Oz,Zt,Int.toNat_zero,List.drop_zero,Nat.sub_zero]
    have e1:List.take k (List.replicate k x++List.replicate (n - k) (0:Int))=List.replicate k x:=by simp
    have e2:cpL (List.replicate k x++List.replicate (n - k) (0:Int)) k (n - k) (List.replicate k x)=some (List.replicate (k+min k (n - k)) x++List.replicate (n - (k+min k (n - k))) 0,((min k (n - k):Nat):Int)):=by
     unfold cpL
     simp only [List.length_replicate,List.take_replicate,A3u]
     rw [show min (min k (n - k)) k=min k (n - k) by omega]
     congr 2
     rw [List.take_left' (by simp)]
     rw [List.drop_append]
     simp only [List.length_replicate,List.drop_replicate]
     rw [show k - (k+min k (n - k))=0 by omega,List.replicate_zero,List.nil_append,←List.replicate_append_replicate (n:=k) (m:=min k (n - k))]
     rw [show n - k - (k+min k (n - k) - k)=n - (k+min k (n - k)) by omega]
    rw [e1,e2,Oz,A1p (by omega) (by omega)]
    exact ⟨_,rfl,⟨k+min k (n - k),by simp,by omega,by omega,rfl⟩,by simp; omega⟩
   ·right
    have:k=n:=by omega
    subst this
    rw [Df (by omega)]
    exact ⟨_,rfl,by simp⟩) FUEL (List.replicate 1 x++List.replicate (n - 1) 0,((1:Nat):Int)) ⟨1,rfl,by omega,by omega,rfl⟩ (fuel' (by simp; omega))
  rw [hr,hq]
  rfl
theorem D0Y {n:Nat} (h:n≤384):A6n [(-1:Int)] (n:Int)=some (List.replicate n (-1:Int)):=C6S _ h
def C8i (N:Nat) (part:List Int):List Int:=(List.range N).map λ(s:Nat)=>Y7 (λx=>decide (x=(s:Int))) 0 part
def mkv (j:O0) (part:List Int):F5:=⟨j,part,C8i j.Z8.length part⟩
theorem C3r {α:Type} (p:α→Bool) (x:α):∀ (l:List α) (i:Nat),Y7 p i (l++[x])=if 0≤Y7 p i l then Y7 p i l else if p x then ((i+l.length:Nat):Int) else -1:=by
 intro l
 induction l with
 | nil=>intro i; simp [Y7]
 | cons y l ih=>
  intro i
  simp only [List.cons_append,Y7]
  by_cases hy:p y=true
  ·simp [hy]
  ·simp only [hy,Bool.false_eq_true,if_false,ih,Lc]
   rw [show i+1+l.length=i+(l.length+1) by omega]
theorem C4w {p:C9} (hv:Vld p) {j:O0} {N:Nat} (hj:JOk j p N) {part:List Int} (hP:A0a N p.A7.length part):Z6 (mkv j part) p N:=by
 refine ⟨hv,hj,hP,?_,?_⟩
 ·simp [mkv,C8i,hj.tb.tbl]
 ·intro s hs
  simp [mkv,C8i,hj.tb.tbl,hs]
theorem look_ok {p:C9} (hv:Vld p) {j:O0} {N:Nat} (hj:JOk j p N) {part:List Int} (hP:A0a N p.A7.length part):A5S j part=some (some (mkv j part)):=by
 have hN:N≤384:=by have h1:=hj.n; have:=A5M hv.h; omega
 have hG:=hv.B2x
 have hpl:=hP.len
 have hnone:A5N j=some false:=by
  unfold A5N
  first | rfl | (rw [hj.kinds]; rfl)
 have e1:decide ((part.length:Int)=(j.O9.A7.length:Int))=true:=by rw [hj.given,hP.len]; exact Dt rfl
 unfold A5S
 simp only [hnone,Oz,Cn,e1,Bq]
 rw [hj.tb.tbl,D0Y hN,Oz]
 obtain ⟨r,hr,g,rfl,hl,hg⟩:=L6 (f:=A7G j part)
  (λs=>∃ k:Nat,s.2=(k:Int)∧k≤part.length∧s.1.length=N∧∀ q:Nat,q<N→s.1[q]?=some (Y7 (λx=>decide (x=(q:Int))) 0 (part.take k)))
  (λs=>part.length - s.2.toNat)
  (λr=>∃ g,r=.inl g∧g.length=N∧∀ q:Nat,q<N→g[q]?=some (Y7 (λx=>decide (x=(q:Int))) 0 part)) (λs hs=>by
   obtain ⟨g,i⟩:=s
   obtain ⟨k,rfl,hk,hl,hg⟩:=hs
   simp only at hl hg
   simp only [A7G]
   by_cases hlt:k<part.length
   ·left
    rw [Dt (show (k:Int)<(part.length:Int) by omega),Cy]
    have hx:=Lg hlt
    have hb:=hP.bd _ (Gm hlt)
    have hone:=hP.one
    generalize part[k]=x at hx hb
    simp only [B5M,J2 hx,Oz,Df (show ¬ x < -1 by omega),Cn,Df (show ¬ (j.Z8.length:Int)≤x by rw [hj.tb.tbl]; omega)]
    have htk:part.take (k+1)=part.take k++[x]:=B1C hx
    by_cases h0:0≤x
    ·obtain ⟨n,rfl⟩:=Zn h0
     have hn:n<N:=by omega
     have hgn:=hg n hn
     have hfree:Y7 (λy=>decide (y=(n:Int))) 0 (part.take k)=-1:=by
      refine A9Y _ _ 0 ?_
      rw [List.any_eq_false]
      intro y hy
      obtain ⟨i,hi,rfl⟩:=List.getElem_of_mem hy
      have hi':i<k:=by rw [List.length_take] at hi; omega
      intro hd
      have hd':=of_decide_eq_true hd
      have h1:part[i]?=some (n:Int):=by
       rw [←hd',List.getElem_take,Lg (by omega)]
      have:=hone i k (n:Int) hi' h1 hx
      omega
     rw [hfree] at hgn
     simp only [Dt h0,Cy,J2 hgn,Oz]
     rw [show decide ((0:Int)≤-1)=false from rfl]
     simp only [Cn,H6 (show k<9223372036854775807 by omega),Oz,Zt]
     refine ⟨_,rfl,⟨k+1,rfl,by omega,by simp [hl],?_⟩,by simp; omega⟩
     intro q hq
     simp only [htk,C3r,List.length_take]
     by_cases hqn:q=n
     ·subst hqn
      rw [hfree,List.getElem?_set_self (by omega)]
      simp
      omega
     ·rw [List.getElem?_set_ne (by omega),hg q hq]
      have:¬ ((n:Int)=(q:Int)):=by omega
      simp only [Df this]
      by_cases hp0:0≤Y7 (λx=>decide (x=(q:Int))) 0 (part.take k)
      ·rw [if_pos hp0]
      ·rw [if_neg hp0]
       have h2:=B1F (λx=>decide (x=(q:Int))) (part.take k) 0
       rw [A9Y _ _ 0 (h2.mp (by omega))]
       rfl
    ·simp only [Df h0,Cn,H6 (show k<9223372036854775807 by omega),Oz]
     refine ⟨_,rfl,⟨k+1,rfl,by omega,hl,?_⟩,by simp; omega⟩
     intro q hq
     rw [hg q hq]
     simp only [htk,C3r]
     have:¬ (x=(q:Int)):=by omega
     simp only [Df this]
     by_cases hp0:0≤Y7 (λx=>decide (x=(q:Int))) 0 (part.take k)
     ·rw [if_pos hp0]
     ·rw [if_neg hp0]
      have h2:=B1F (λx=>decide (x=(q:Int))) (part.take k) 0
      rw [A9Y _ _ 0 (h2.mp (by omega))]
      rfl
   ·right
    have:k=part.length:=by omega
    subst this
    rw [Df (by omega),Cn]
    exact ⟨_,rfl,g,rfl,hl,λq hq=>by rw [hg q hq,List.take_length]⟩) FUEL (List.replicate N (-1),0) ⟨0,rfl,Nat.zero_le _,by simp,λq hq=>by simp [hq,Y7]⟩ (fuel' (show part.length - ((0:Int)).toNat≤1000000 by omega))
 rw [hr]
 simp only [Oz]
 have:g=C8i j.Z8.length part:=by
  refine List.ext_getElem? λq=>?_
  rw [hj.tb.tbl]
  by_cases hq:q<N
  ·rw [hg q hq]; simp [C8i,hq]
  ·rw [List.getElem?_eq_none (by omega),List.getElem?_eq_none (by simp [C8i]; omega)]
 rw [this]
 rfl
end Go.Pl
namespace Go.Pl
open Go Go.Sl Go.Dm
def Y3 (l:Fl):Int:=(l.map (·.1)).sum
theorem A2R:Y3 []=0:=rfl
theorem A1l (x:Int×List Int) (l:Fl):Y3 (x::l)=x.1+Y3 l:=by simp [Y3]
theorem B7z (l m:Fl):Y3 (l++m)=Y3 l+Y3 m:=by simp [Y3]
structure FB (l:Fl) (n:Nat):Prop where
 len:l.length≤n
 b:∀ x∈l,1≤x.1∧x.1≤64
theorem C7F:∀ {l:Fl} {n:Nat},FB l n→0≤Y3 l∧Y3 l≤64*l.length
 | [],n,_=>by simp [Y3]
 | x::l,n,h=>by
  have h1:=h.b x (List.mem_cons_self ..)
  have h2:=C7F (l:=l) (n:=l.length) ⟨Nat.le_refl _,λy hy=>h.b y (Mc _ hy)⟩
  rw [A1l,Lc]
  omega
theorem C7H:∀ {l:Fl} {n:Nat},FB l n→∀ s:Int,0≤s→s+64*l.length≤1000000000→run (λs_ y0 y1=>A0X y0 y1 s_) s l=some (s+Y3 l)
 | [],n,_,s,_,_=>by simp [run,Z9,Y3]
 | x::l,n,h,s,h0,h1=>by
  have h2:=h.b x (List.mem_cons_self ..)
  rw [Lc] at h1
  have ih:=C7H (l:=l) (n:=l.length) ⟨Nat.le_refl _,λy hy=>h.b y (Mc _ hy)⟩ (s+x.1) (by omega) (by omega)
  have e:run (λs_ y0 y1=>A0X y0 y1 s_) s (x::l)=Option.bind (A0X x.1 x.2 s) λs'=>run (λs_ y0 y1=>A0X y0 y1 s_) s' l:=rfl
  rw [e]
  unfold A0X at ih ⊢
  rw [A2d (by omega) (by omega),Oz,Oz,ih,A1l]
  congr 1
  omega
theorem FB.nil {n:Nat}:FB [] n:=⟨Nat.zero_le _,λx hx=>by cases hx⟩
theorem FB.one {n:Nat} (h:1≤n) (l:List Int):FB [(1,l)] n:=⟨by simpa using h,λx hx=>by rw [Ms] at hx; subst hx; exact ⟨Int.le_refl _,by show (1:Int)≤64; decide⟩⟩
theorem FB.ite {n:Nat} {c:Prop} [Decidable c] {a b:Fl} (ha:FB a n) (hb:FB b n):FB (if c then a else b) n:=by
 by_cases h:c
 ·rw [if_pos h]; exact ha
 ·rw [if_neg h]; exact hb
theorem FB.le {l:Fl} {m n:Nat} (h:FB l m) (hm:m≤n):FB l n:=⟨Nat.le_trans h.len hm,h.b⟩
theorem FB.flS (G:Nat) (c:Nat→Bool):FB (flS G c) G:=by
 refine ⟨?_,?_⟩
 ·unfold Go.Pl.flS
  rw [List.length_map]
  exact Nat.le_trans (List.length_filter_le _ _) (by simp)
 ·intro x hx
  unfold Go.Pl.flS at hx
  obtain ⟨g,_,rfl⟩:=List.mem_map.1 hx
  exact ⟨Int.le_refl _,by show (1:Int)≤64; decide⟩
theorem A1c {τ:Type} (l:List τ) (c:τ→Fl) {n:Nat} (h:∀ x∈l,(c x).length≤n):(l.flatMap c).length≤l.length*n:=by
 induction l with
 | nil=>simp
 | cons x l ih=>
  have h1:=h x (List.mem_cons_self ..)
  have h2:=ih λy hy=>h y (Mc _ hy)
  rw [List.flatMap_cons,List.length_append,Lc,Nat.add_mul]
  omega
theorem FB.flP (G:Nat) (c:Nat→Nat→Bool):FB (flP G c) (G*G):=by
 refine ⟨?_,?_⟩
 ·unfold Go.Pl.flP
  have:=A1c (List.range G) (λa=>((List.range' (a+1) (G - (a+1))).filter (c a)).map λ(b:Nat)=>((1:Int),[(a:Int),(b:Int)])) (n:=G) (λa _=>by
   rw [List.length_map]
   exact Nat.le_trans (List.length_filter_le _ _) (by simp))
  simpa using this
 ·intro x hx
  unfold Go.Pl.flP at hx
  obtain ⟨a,_,hx⟩:=List.mem_flatMap.1 hx
  obtain ⟨b,_,rfl⟩:=List.mem_map.1 hx
  exact ⟨Int.le_refl _,by show (1:Int)≤64; decide⟩
theorem FB.flT {v:F5} {r:F7} {T G:Nat} {c:List Int→Fl} (hc:∀ t,FB (c (sit v G t)) 1):FB (flT v r T G c) T:=by
 refine ⟨?_,?_⟩
 ·unfold Go.Pl.flT
  have:=A1c ((List.range T).filter λ(t:Nat)=>decide (r.I5=(⟨#[]⟩:ByteArray)) || decide (r.I5=(tab v t).F8)) (λ(t:Nat)=>c (sit v G t)) (n:=1) (λt _=>(hc t).len)
  have h2:=List.length_filter_le (λ(t:Nat)=>decide (r.I5=(⟨#[]⟩:ByteArray)) || decide (r.I5=(tab v t).F8)) (List.range T)
  simp only [List.length_range] at h2
  omega
 ·intro x hx
  unfold Go.Pl.flT at hx
  obtain ⟨t,_,hx⟩:=List.mem_flatMap.1 hx
  exact (hc t).b x hx
theorem FB.two (v:F5) (r:F7) (c:Int→Int→Bool):FB (A1V v r c) 1:=FB.ite (FB.one (Nat.le_refl _) _) FB.nil
section
variable {v:F5} {p:C9} {N:Nat} (h:Z6 v p N) {r:F7} (hr:RF p r)
include h hr
theorem Z6.fb:FB (FL v r p.C8.length p.A7.length p.R7.length) 4096:=by
 have hg:=h.g64
 have hT:=h.vld.h.len
 have hn:=hr.n
 have hGG:p.A7.length*p.A7.length≤4096:=Nat.mul_le_mul hg hg
 have s1:∀ c,FB (flS p.A7.length c) 4096:=λc=>(FB.flS _ c).le (by omega)
 have s2:∀ c,FB (flP p.A7.length c) 4096:=λc=>(FB.flP _ c).le hGG
 have s3:∀ c:List Int→Fl,(∀ t,FB (c (sit v p.A7.length t)) 1)→FB (flT v r p.C8.length p.A7.length c) 4096:=λc hc=>(FB.flT hc).le (by omega)
 have s0:∀ c,FB (A1V v r c) 4096:=λc=>(FB.two v r c).le (by omega)
 have sl:∀ t,(sit v p.A7.length t).length≤64:=λt=>Nat.le_trans (C7K h _ t) hg
 unfold FL
 refine FB.ite (s0 _)<|FB.ite (s0 _)<|FB.ite (s0 _)<|FB.ite (s0 _)<|FB.ite (s0 _)<|FB.ite ?_<|FB.ite ?_<|FB.ite (s2 _)<|FB.ite (s3 _ λt=>?_)<|FB.ite (s1 _)<|FB.ite (s1 _)<|FB.ite (s2 _)<|FB.ite (s2 _)<|FB.ite (FB.ite FB.nil (s2 _))<|FB.ite (s3 _ λt=>?_)<|FB.ite (s3 _ λt=>?_)<|FB.ite (s1 _) (s2 _)
 ·exact FB.ite (FB.one (by omega) _) FB.nil
 ·exact FB.ite (FB.one (by omega) _) FB.nil
 ·exact FB.ite FB.nil (FB.ite (FB.one (Nat.le_refl _) _) FB.nil)
 ·unfold B5F
  by_cases hq:((sit v p.A7.length t).length:Int)<r.fN
  ·rw [if_pos hq]
   exact ⟨Nat.le_refl _,λx hx=>by rw [Ms] at hx; subst hx; simp only; omega⟩
  ·rw [if_neg hq]; exact FB.nil
 ·unfold C2z
  have:=sl t
  by_cases hq:r.fN<((sit v p.A7.length t).length:Int)
  ·rw [if_pos hq]
   exact ⟨Nat.le_refl _,λx hx=>by rw [Ms] at hx; subst hx; simp only; omega⟩
  ·rw [if_neg hq]; exact FB.nil
end
def V9 (v:F5) (r:F7):Int:=Y3 (FL v r v.F4.O9.C8.length v.F4.O9.A7.length v.F4.O9.R7.length)
def A8K (v:F5):Nat:=(List.range v.Q4.length).countP λ(g:Nat)=>decide (pt v g<0)
def B3K (v:F5):Nat:=(List.range v.Q4.length).countP λ(g:Nat)=>decide (pt v g<0) && (gst v g).X7
def A2y (v:F5) (r:F7):Int:=
 if r.F9=9 then max (V9 v r - B3K v) 0 else if r.F9=15 then max (V9 v r - A8K v) 0 else if r.F9=11 then (if 0<A8K v then 0 else V9 v r) else V9 v r
section
variable {v:F5} {p:C9} {N:Nat} (h:Z6 v p N)
include h
theorem Z6.rules {i:Nat} {r:F7} (hi:p.J9[i]?=some r):RF p r∧G7 v.F4.O9.J9 (i:Int)=some r:=⟨h.vld.rf (A0C hi),by rw [h.j.given]; exact J2 hi⟩
theorem Z6.fbd {r:F7} (hr:RF p r):0≤V9 v r∧V9 v r≤262144:=by
 have hb:=h.fb hr
 have:=C7F hb
 have:=hb.len
 unfold V9
 rw [h.j.given]
 omega
theorem Z6.faults {i:Nat} {r:F7} (hi:p.J9[i]?=some r):A4q v (i:Int)=some (V9 v r):=by
 obtain ⟨hr,hg⟩:=h.rules hi
 obtain ⟨K,hK,hf⟩:=h.find hr (λ(s_:Int) y0 y1=>A0X y0 y1 s_) (0:Int)
 have hb:=h.fb hr
 have hl:=hb.len
 unfold A4q V9
 rw [hg,Oz]
 change (Option.bind (lkM v.F4.C0W r.F9 zK) _)=_
 rw [hK,Oz]
 simp only [Oz]
 rw [hf,C7H hb 0 (by omega) (by omega),h.j.given]
 simp
theorem Z6.free:iter (A2x v) FUEL ((0:Int),(0:Int),(0:Int))=some ((A8K v:Int),(B3K v:Int)):=by
 have hg:=h.g64
 have key:=C0P (f:=A2x v) (λ(q:Nat×Nat) (i:Nat)=>((i:Int),(q.1:Int),(q.2:Int))) (λq=>((q.1:Int),(q.2:Int))) (N:=v.Q4.length) (λq g=>if decide (pt v g<0) then (q.1+1,if (gst v g).X7 then q.2+1 else q.2) else q) (λq i=>q.1≤i∧q.2≤i) (a:=(0,0)) ⟨Nat.le_refl _,Nat.le_refl _⟩ (λq i hi hq=>by
  obtain ⟨a,b⟩:=q
  simp only at hq
  have hi':i<p.A7.length:=by rw [←h.pl]; exact hi
  simp only [A2x,B5i,Dt (show (i:Int)<(v.Q4.length:Int) by omega),Cy,h.pG (g:=i) (by omega) (by omega),Oz,H6 (show i<9223372036854775807 by omega),H6 (show a<9223372036854775807 by omega),H6 (show b<9223372036854775807 by omega),h.gG (g:=i) (by omega) (by omega)]
  by_cases h0:pt v i<0
  ·simp only [Dt h0,Cy,if_true]
   cases (gst v i).X7 with
   | true=>exact ⟨rfl,by simp; omega⟩
   | false=>exact ⟨rfl,by simp; omega⟩
  ·simp only [Df h0,Cn]
   exact ⟨rfl,by simp; omega⟩) (λq hq=>by simp [A2x]) (fuel' (n:=v.Q4.length) (by rw [h.pl]; omega))
 have key':iter (A2x v) FUEL ((0:Int),(0:Int),(0:Int))=_:=key
 rw [key']
 have e:∀ (l:List Nat) (a b:Nat),l.foldl (λ(q:Nat×Nat) (g:Nat)=>if decide (pt v g<0) then (q.1+1,if (gst v g).X7 then q.2+1 else q.2) else q) (a,b)=(a+l.countP (λ(g:Nat)=>decide (pt v g<0)),b+l.countP (λ(g:Nat)=>decide (pt v g<0) && (gst v g).X7)):=by
  intro l
  induction l with
  | nil=>intro a b; rfl
  | cons g l ih=>
   intro a b
   simp only [List.foldl_cons,List.countP_cons]
   cases decide (pt v g<0) with
   | true=>
    simp only [if_true,ih,Bool.true_and]
    cases (gst v g).X7 with
    | true=>simp; omega
    | false=>simp; omega
   | false=>
    simp only [Bool.false_eq_true,if_false,ih,Bool.false_and]
    simp
 rw [e]
 unfold A8K B3K
 simp
theorem Z6.least {i:Nat} {r:F7} (hi:p.J9[i]?=some r):A9S v (i:Int)=some (A2y v r):=by
 obtain ⟨hr,hg⟩:=h.rules hi
 have hb:=h.fbd hr
 have hgg:=h.g64
 have hl:A8K v≤64:=by unfold A8K; exact Nat.le_trans List.countP_le_length (by simp [h.pl]; omega)
 have hh:B3K v≤64:=by unfold B3K; exact Nat.le_trans List.countP_le_length (by simp [h.pl]; omega)
 unfold A9S
 rw [h.faults hi,Oz,h.free,Oz]
 simp only [B5s,hg,Oz]
 unfold A2y
 by_cases h9:r.F9=9
 ·rw [Dt h9,if_pos h9,Cy,A2d (by omega) (by omega),Oz]
 ·rw [Df h9,if_neg h9,Cn]
  by_cases h15:r.F9=15
  ·rw [Dt h15,if_pos h15,Cy,A2d (by omega) (by omega),Oz]
  ·rw [Df h15,if_neg h15,Cn]
   by_cases h11:r.F9=11
   ·rw [Dt h11,if_pos h11,Cy]
    by_cases h0:0<A8K v
    ·rw [Dt (by omega),if_pos h0]; rfl
    ·rw [Df (by omega),if_neg h0,Cn,Int.max_eq_left hb.1]
   ·rw [Df h11,if_neg h11,Cn,Int.max_eq_left hb.1]
theorem Z6.lbd {r:F7} (hr:RF p r):0≤A2y v r∧A2y v r≤V9 v r:=by
 have hb:=h.fbd hr
 unfold A2y
 by_cases h9:r.F9=9
 ·rw [if_pos h9]; omega
 ·rw [if_neg h9]
  by_cases h15:r.F9=15
  ·rw [if_pos h15]; omega
  ·rw [if_neg h15]
   by_cases h11:r.F9=11
   ·rw [if_pos h11]
    by_cases h0:0<A8K v
    ·rw [if_pos h0]; omega
    ·rw [if_neg h0]; omega
   ·rw [if_neg h11]; omega
end
def C4S (v:F5) (rs:List F7):Bool:=rs.any λr=>decide (r.K6=0) && decide (0<A2y v r)
section
variable {p:C9} (hv:Vld p) {j:O0} {N:Nat} (hj:JOk j p N) {part:List Int} (hP:A0a N p.A7.length part)
include hv hj hP
theorem D1K:∃ i:Int,B2I j part=some (i,C4S (mkv j part) p.J9):=by
 have h:=C4w hv hj hP
 have hl:=hv.D2g
 unfold B2I
 rw [look_ok hv hj hP,Oz]
 simp only [Option.isNone_some,Cn,Oz]
 have key:=A1t (f:=A5g (mkv j part)) p.J9 (λi r=>if decide (r.K6=0) && decide (0<A2y (mkv j part) r) then some (.inr ((i:Int),true)) else none) (.inl ():Unit⊕(Int×Bool)) (fuel' (n:=p.J9.length) (by omega)) (λi r hi=>by
  have hlt:=P5 hi
  obtain ⟨hr,hg⟩:=h.rules hi
  simp only [A5g,Dt (show (i:Int)<((mkv j part).F4.O9.J9.length:Int) by rw [h.j.given]; omega),Cy,hg,Oz,h.least hi,H6 (show i<9223372036854775807 by omega)]
  cases decide (r.K6=0) with
  | false=>rfl
  | true=>cases decide (0<A2y (mkv j part) r) <;> rfl) (by simp [A5g,h.j.given])
 rw [key,Oz]
 unfold C4S
 have e:∀ (l:List F7) (i:Nat),(∃ q:Int,A0M (λ(i:Nat) (r:F7)=>if decide (r.K6=0) && decide (0<A2y (mkv j part) r) then some (.inr ((i:Int),true)) else none) (.inl ():Unit⊕(Int×Bool)) i l=.inr (q,true)∧(l.any λr=>decide (r.K6=0) && decide (0<A2y (mkv j part) r))=true)∨(A0M (λ(i:Nat) (r:F7)=>if decide (r.K6=0) && decide (0<A2y (mkv j part) r) then some (.inr ((i:Int),true)) else none) (.inl ():Unit⊕(Int×Bool)) i l=.inl ()∧(l.any λr=>decide (r.K6=0) && decide (0<A2y (mkv j part) r))=false):=by
  intro l
  induction l with
  | nil=>intro i; right; exact ⟨rfl,rfl⟩
  | cons r l ih=>
   intro i
   simp only [A0M,List.any_cons]
   cases (decide (r.K6=0) && decide (0<A2y (mkv j part) r)) with
   | true=>left; exact ⟨_,rfl,rfl⟩
   | false=>simpa using ih (i+1)
 rcases e p.J9 0 with ⟨q,e1,e2⟩ | ⟨e1,e2⟩
 ·rw [e1,e2]; exact ⟨q,rfl⟩
 ·rw [e1,e2]; exact ⟨0,rfl⟩
end
end Go.Pl
namespace Go.Pl
open Go Go.Sl Go.Dm
structure Ext (G:Nat) (v w:F5):Prop where
 j:v.F4=w.F4
 e:∀ g:Int,0≤g→g<G→0≤pt v g→pt w g=pt v g
theorem C3q {τ:Type} (a b:τ→Fl):∀ (l:List τ),(∀ x∈l,Y3 (a x)≤Y3 (b x))→Y3 (l.flatMap a)≤Y3 (l.flatMap b)
 | [],_=>Int.le_refl _
 | x::l,h=>by
  have h1:=h x (List.mem_cons_self ..)
  have h2:=C3q a b l λy hy=>h y (Mc _ hy)
  rw [List.flatMap_cons,List.flatMap_cons,B7z,B7z]
  omega
theorem B4O (f:Nat→List Int) (l:List Nat):Y3 (l.map λg=>((1:Int),f g))=l.length:=by
 induction l with
 | nil=>rfl
 | cons x l ih=>rw [List.map_cons,A1l,ih,Lc]; omega
theorem countP_le {l:List Nat} {c d:Nat→Bool} (h:∀ x∈l,c x=true→d x=true):(l.filter c).length≤(l.filter d).length:=by
 rw [←List.countP_eq_length_filter,←List.countP_eq_length_filter]
 exact List.countP_mono_left h
theorem C5u {G:Nat} {c d:Nat→Bool} (h:∀ g,g<G→c g=true→d g=true):Y3 (flS G c)≤Y3 (flS G d):=by
 unfold flS
 rw [B4O (λg=>[(g:Int)]),B4O (λg=>[(g:Int)])]
 have:=countP_le (l:=List.range G) (c:=c) (d:=d) λx hx=>h x (Mr.1 hx)
 omega
theorem C4G {G:Nat} {c d:Nat→Nat→Bool} (h:∀ a b,a<G→b<G→c a b=true→d a b=true):Y3 (flP G c)≤Y3 (flP G d):=by
 unfold flP
 refine C3q _ _ _ λa ha=>?_
 rw [B4O (λb=>[(a:Int),(b:Int)]),B4O (λb=>[(a:Int),(b:Int)])]
 have:=countP_le (l:=List.range' (a+1) (G - (a+1))) (c:=c a) (d:=d a) λx hx=>by
  have:=List.mem_range'_1.1 hx
  exact h a x (Mr.1 ha) (by omega)
 omega
theorem C1r {τ:Type} (a b:τ→Fl) (e:τ→Nat):∀ (l:List τ),(∀ x∈l,Y3 (a x)≤Y3 (b x)+e x)→Y3 (l.flatMap a)≤Y3 (l.flatMap b)+((l.map e).sum:Nat)
 | [],_=>by simp [Y3]
 | x::l,h=>by
  have h1:=h x (List.mem_cons_self ..)
  have h2:=C1r a b e l λy hy=>h y (Mc _ hy)
  rw [List.flatMap_cons,List.flatMap_cons,B7z,B7z,List.map_cons,List.sum_cons]
  omega
theorem C7D (b:Bool) (x:Int):∀ (ts:List Nat) (t:Nat),x=(t:Int)→t∉ts→(ts.map λ(t:Nat)=>if b && decide (x=(t:Int)) then 1 else 0).sum=0
 | [],_,_,_=>rfl
 | s::ts,t,hx,hn=>by
  rw [List.map_cons,List.sum_cons,C7D b x ts t hx (λhm=>hn (Mc _ hm))]
  have:¬ x=(s:Int):=λhh=>hn (by rw [show t=s by omega]; exact List.mem_cons_self ..)
  simp [this]
theorem C7O (b:Bool) (x:Int):∀ (ts:List Nat),ts.Nodup→(ts.map λ(t:Nat)=>if b && decide (x=(t:Int)) then 1 else 0).sum≤if b then 1 else 0
 | [],_=>by simp
 | t::ts,h=>by
  have hn:=List.nodup_cons.1 h
  have ih:=C7O b x ts hn.2
  rw [List.map_cons,List.sum_cons]
  by_cases hq:(b && decide (x=(t:Int)))=true
  ·have hb:b=true:=by cases b with | true=>rfl | false=>cases hq
   subst hb
   have hx:x=(t:Int):=of_decide_eq_true (by simpa using hq)
   rw [C7D true x ts t hx hn.1,if_pos hq]
   exact Nat.le_refl _
  ·rw [if_neg hq]
   omega
theorem C7n (u:Nat→Bool) (f:Nat→Int) (g:Nat) (gs:List Nat):∀ (ts:List Nat),(ts.map λ(t:Nat)=>(g::gs).countP λg=>u g && decide (f g=(t:Int))).sum=(ts.map λ(t:Nat)=>gs.countP λg=>u g && decide (f g=(t:Int))).sum+(ts.map λ(t:Nat)=>if u g && decide (f g=(t:Int)) then 1 else 0).sum
 | []=>rfl
 | t::ts=>by
  have ih:=C7n u f g gs ts
  simp only [List.map_cons,List.sum_cons] at ih ⊢
  rw [ih,List.countP_cons]
  omega
theorem spread (u:Nat→Bool) (f:Nat→Int):∀ (gs:List Nat) (ts:List Nat),ts.Nodup→(ts.map λ(t:Nat)=>gs.countP λg=>u g && decide (f g=(t:Int))).sum≤gs.countP u
 | [],ts,_=>by
  induction ts with
  | nil=>simp
  | cons t ts ih=>simp_all
 | g::gs,ts,h=>by
  have ih:=spread u f gs ts h
  have h1:=C7O (u g) (f g) ts h
  rw [C7n,List.countP_cons]
  omega
section
variable {p:C9} {N:Nat} {v w:F5} (hv:Z6 v p N) (hw:Z6 w p N) (h:Ext p.A7.length v w) {r:F7} (hr:RF p r)
include h
theorem Ext.tb (s:Int):tb w s=tb v s:=by unfold Go.Pl.tb; rw [h.j]
theorem Ext.B1N (s:Int):B1N w r s=B1N v r s:=by unfold Go.Pl.B1N Go.Pl.tab; rw [h.tb,h.j]
theorem Ext.gst (g:Int):gst w g=gst v g:=by unfold Go.Pl.gst; rw [h.j]
theorem Ext.wA:wA w r=wA v r:=by unfold Go.Pl.wA; rw [h.j]
theorem Ext.wB:wB w r=wB v r:=by unfold Go.Pl.wB; rw [h.j]
theorem Ext.tab (t:Int):tab w t=tab v t:=by unfold Go.Pl.tab; rw [h.j]
theorem Ext.clo (l:List (List Int)) {a b:Int} (a0:0≤a) (a1:a<p.A7.length) (b0:0≤b) (b1:b<p.A7.length) (ha:0≤pt v a) (hb:0≤pt v b):clo w l a b=clo v l a b:=by
 unfold Go.Pl.clo; rw [h.e a a0 a1 ha,h.e b b0 b1 hb]
theorem Ext.isN {a b:Int} (a0:0≤a) (a1:a<p.A7.length) (b0:0≤b) (b1:b<p.A7.length) (ha:0≤pt v a) (hb:0≤pt v b):isN w a b=isN v a b:=by
 unfold Go.Pl.isN; rw [h.clo _ a0 a1 b0 b1 ha hb,h.clo _ a0 a1 b0 b1 ha hb,h.j]
theorem Ext.far {a b:Int} (a0:0≤a) (a1:a<p.A7.length) (b0:0≤b) (b1:b<p.A7.length) (ha:0≤pt v a) (hb:0≤pt v b):far w a b=far v a b:=by
 unfold Go.Pl.far; rw [h.e a a0 a1 ha,h.e b b0 b1 hb,h.j]
include hv
theorem Ext.two (hk:0≤Go.Pl.wA v r∧Go.Pl.wA v r<p.A7.length∧0≤Go.Pl.wB v r∧Go.Pl.wB v r<p.A7.length) {c d:Int→Int→Bool} (hc:∀ a b:Int,0≤a→a<p.A7.length→0≤b→b<p.A7.length→0≤pt v a→0≤pt v b→c a b=true→d a b=true):Y3 (A1V v r c)≤Y3 (A1V w r d):=by
 obtain ⟨a0,a1,b0,b1⟩:=hk
 unfold A1V
 rw [h.wA,h.wB]
 by_cases hq:(decide (0≤pt v (Go.Pl.wA v r)) && decide (0≤pt v (Go.Pl.wB v r)) && c (Go.Pl.wA v r) (Go.Pl.wB v r))=true
 ·rw [if_pos hq]
  simp only [Ba,Dq] at hq
  rw [h.e _ a0 a1 hq.1.1,h.e _ b0 b1 hq.1.2,hc _ _ a0 a1 b0 b1 hq.1.1 hq.1.2 hq.2,Dt hq.1.1,Dt hq.1.2]
  exact Int.le_refl _
 ·rw [if_neg hq]
  by_cases hq2:(decide (0≤pt w (Go.Pl.wA v r)) && decide (0≤pt w (Go.Pl.wB v r)) && d (Go.Pl.wA v r) (Go.Pl.wB v r))=true
  ·rw [if_pos hq2]; simp only [A1l,A2R]; omega
  ·rw [if_neg hq2]; exact Int.le_refl _
theorem Ext.pair {so so':Int→Int→Bool} (hs:∀ a b:Int,0≤a→a<p.A7.length→0≤b→b<p.A7.length→0≤pt v a→0≤pt v b→so a b=true→so' a b=true):Y3 (flP p.A7.length (A2X v r so))≤Y3 (flP p.A7.length (A2X w r so')):=by
 refine C4G λa b ha hb hc=>?_
 unfold A2X at hc ⊢
 simp only [Ba,Dq] at hc ⊢
 obtain ⟨⟨h0,h1⟩,⟨h2,h3⟩,h4⟩:=hc
 rw [h.e a (by omega) (by omega) h0,h.e b (by omega) (by omega) h2,h.B1N,h.tb,h.tb]
 exact ⟨⟨h0,h1⟩,⟨h2,h3⟩,hs a b (by omega) (by omega) (by omega) (by omega) h0 h2 h4⟩
theorem Ext.D0M {t g:Int} (hg:g∈sit v p.A7.length t):g∈sit w p.A7.length t:=by
 unfold sit at hg ⊢
 obtain ⟨k,hk,rfl⟩:=List.mem_map.1 hg
 obtain ⟨h1,h2⟩:=List.mem_filter.1 hk
 simp only [Ba,Dq] at h2
 refine List.mem_map.2 ⟨k,List.mem_filter.2 ⟨h1,?_⟩,rfl⟩
 have:=Mr.1 h1
 rw [h.e k (by omega) (by omega) h2.1,h.tb,Dt h2.1,Dt h2.2]
 rfl
theorem Ext.C8U (t:Int):(sit v p.A7.length t).length≤(sit w p.A7.length t).length:=by
 unfold sit
 rw [List.length_map,List.length_map]
 refine countP_le λx hx hc=>?_
 simp only [Ba,Dq] at hc ⊢
 have:=Mr.1 hx
 rw [h.e x (by omega) (by omega) hc.1,h.tb]
 exact hc
theorem Ext.D0O (t:Nat):(sit w p.A7.length t).length≤(sit v p.A7.length t).length+(List.range p.A7.length).countP (λ(g:Nat)=>decide (pt v g<0) && decide (Go.Pl.tb v (pt w g)=(t:Int))):=by
 unfold sit
 rw [List.length_map,List.length_map,←List.countP_eq_length_filter,←List.countP_eq_length_filter]
 have key:∀ l:List Nat,(∀ g∈l,g<p.A7.length)→l.countP (λ(g:Nat)=>decide (0≤pt w g) && decide (Go.Pl.tb w (pt w g)=(t:Int)))≤l.countP (λ(g:Nat)=>decide (0≤pt v g) && decide (Go.Pl.tb v (pt v g)=(t:Int)))+l.countP (λ(g:Nat)=>decide (pt v g<0) && decide (Go.Pl.tb v (pt w g)=(t:Int))):=by
  intro l hl
  induction l with
  | nil=>simp
  | cons g l ih=>
   have ih:=ih λy hy=>hl y (Mc _ hy)
   have hg:=hl g (List.mem_cons_self ..)
   rw [List.countP_cons,List.countP_cons,List.countP_cons]
   by_cases h0:0≤pt v g
   ·rw [h.e g (by omega) (by omega) h0,h.tb]
    omega
   ·rw [Df h0,Dt (show pt v g<0 by omega),h.tb]
    simp only [Bool.false_and,Bool.true_and,Bool.false_eq_true,if_false]
    cases decide (0≤pt w g) with
    | true=>simp only [Bool.true_and]; omega
    | false=>simp only [Bool.false_and,Bool.false_eq_true,if_false]; omega
 exact key _ λg hg=>Mr.1 hg
theorem Ext.table {c d:List Int→Fl} (e:Nat→Nat) (hc:∀ t:Nat,t<p.C8.length→Y3 (c (sit v p.A7.length t))≤Y3 (d (sit w p.A7.length t))+e t):Y3 (flT v r p.C8.length p.A7.length c)≤Y3 (flT w r p.C8.length p.A7.length d)+(((List.range p.C8.length).map e).sum:Nat):=by
 unfold flT
 have hf:(λ(t:Nat)=>decide (r.I5=(⟨#[]⟩:ByteArray)) || decide (r.I5=(Go.Pl.tab w t).F8))=(λ(t:Nat)=>decide (r.I5=(⟨#[]⟩:ByteArray)) || decide (r.I5=(Go.Pl.tab v t).F8)):=funext λt=>by rw [h.tab]
 rw [hf]
 have h1:=C1r (λ(t:Nat)=>c (sit v p.A7.length t)) (λ(t:Nat)=>d (sit w p.A7.length t)) e ((List.range p.C8.length).filter λ(t:Nat)=>decide (r.I5=(⟨#[]⟩:ByteArray)) || decide (r.I5=(Go.Pl.tab v t).F8)) (λt ht=>hc t (Mr.1 (List.mem_filter.1 ht).1))
 have h2:∀ (q:Nat→Bool) (l:List Nat),((l.filter q).map e).sum≤(l.map e).sum:=by
  intro q l
  induction l with
  | nil=>simp
  | cons x l ih=>
   by_cases hq:q x=true
   ·simp [hq,ih]
   ·simp [hq]; omega
 have:=h2 (λ(t:Nat)=>decide (r.I5=(⟨#[]⟩:ByteArray)) || decide (r.I5=(Go.Pl.tab v t).F8)) (List.range p.C8.length)
 omega
include hw hr
theorem Ext.mono:A2y v r≤V9 w r:=by
 have hk:=hr.k
 have hfw:=(hw.fbd hr).1
 have hlen:v.Q4.length=p.A7.length:=hv.pl
 have hG1:v.F4.O9=p:=hv.j.given
 have hG2:w.F4.O9=p:=hw.j.given
 have t5:r.F9≤5→0≤Go.Pl.wA v r∧Go.Pl.wA v r<p.A7.length∧0≤Go.Pl.wB v r∧Go.Pl.wB v r<p.A7.length:=λh5=>by
  have:=hv.B8A hr h5
  omega
 have t6:r.F9=6∨r.F9=7→0≤Go.Pl.wA v r∧Go.Pl.wA v r<p.A7.length:=λh6=>hv.C6s (hr.one h6)
 have le_f:r.F9≠9→r.F9≠15→A2y v r≤V9 v r:=λ_ _=>(hv.lbd hr).2
 have main:r.F9≠9→r.F9≠15→r.F9≠11→V9 v r≤V9 w r:=by
  intro n9 n15 n11
  unfold V9
  rw [hG1,hG2]
  have:r.F9=1∨r.F9=2∨r.F9=3∨r.F9=4∨r.F9=5∨r.F9=6∨r.F9=7∨r.F9=8∨r.F9=10∨r.F9=12∨r.F9=13∨r.F9=14∨r.F9=16∨r.F9=17∨r.F9=18:=by omega
  unfold FL
  rcases this with e | e | e | e | e | e | e | e | e | e | e | e | e | e | e
  ·rw [e]
   show Y3 (A1V v r (C7W v r))≤Y3 (A1V w r (C7W w r))
   refine h.two hv (t5 (by omega)) λa b a0 a1 b0 b1 ha hb hq=>?_
   unfold C7W at hq ⊢
   rw [h.far a0 a1 b0 b1 ha hb,h.e a a0 a1 ha,h.e b b0 b1 hb,h.tb,h.tb]
   exact hq
  ·rw [e]
   show Y3 (A1V v r (λa b=>!Go.Pl.clo v v.F4.W9 a b))≤Y3 (A1V w r (λa b=>!Go.Pl.clo w w.F4.W9 a b))
   refine h.two hv (t5 (by omega)) λa b a0 a1 b0 b1 ha hb hq=>?_
   rw [h.clo _ a0 a1 b0 b1 ha hb,←h.j]
   exact hq
  ·rw [e]
   show Y3 (A1V v r (λa b=>!Go.Pl.clo v v.F4.A0s a b))≤Y3 (A1V w r (λa b=>!Go.Pl.clo w w.F4.A0s a b))
   refine h.two hv (t5 (by omega)) λa b a0 a1 b0 b1 ha hb hq=>?_
   rw [h.clo _ a0 a1 b0 b1 ha hb,←h.j]
   exact hq
  ·rw [e]
   show Y3 (A1V v r (λa b=>!(Go.Pl.far v a b).isSome || decide (r.fN<(Go.Pl.far v a b).getD 0)))≤Y3 (A1V w r (λa b=>!(Go.Pl.far w a b).isSome || decide (r.fN<(Go.Pl.far w a b).getD 0)))
   refine h.two hv (t5 (by omega)) λa b a0 a1 b0 b1 ha hb hq=>?_
   rw [h.far a0 a1 b0 b1 ha hb]
   exact hq
  ·rw [e]
   show Y3 (A1V v r (λa b=>!decide (Go.Pl.tb v (pt v a)=Go.Pl.tb v (pt v b))))≤Y3 (A1V w r (λa b=>!decide (Go.Pl.tb w (pt w a)=Go.Pl.tb w (pt w b))))
   refine h.two hv (t5 (by omega)) λa b a0 a1 b0 b1 ha hb hq=>?_
   rw [h.e a a0 a1 ha,h.e b b0 b1 hb,h.tb,h.tb]
   exact hq
  ·rw [e]
   have ha:=t6 (by omega)
   show Y3 (C8l v r)≤Y3 (C8l w r)
   unfold C8l
   rw [h.wA]
   by_cases h0:0≤pt v (Go.Pl.wA v r)
   ·rw [h.e _ ha.1 ha.2 h0,h.tb,h.tab]; exact Int.le_refl _
   ·rw [Df h0]
    simp only [Bool.false_and,Bool.false_eq_true,if_false]
    by_cases hq:(decide (0≤pt w (Go.Pl.wA v r)) && !decide ((Go.Pl.tab w (Go.Pl.tb w (pt w (Go.Pl.wA v r)))).F8=r.I5))=true
    ·rw [if_pos hq]; simp only [A1l,A2R]; omega
    ·rw [if_neg hq]; exact Int.le_refl _
  ·rw [e]
   have ha:=t6 (by omega)
   show Y3 (B7S v r)≤Y3 (B7S w r)
   have hfs:∀ (t:Int) (n:Nat),C1E w t n=C1E v t n:=by
    intro t n
    induction n with
    | zero=>rfl
    | succ n ih=>unfold C1E; rw [h.tb,ih]
   unfold B7S
   rw [h.wA]
   by_cases h0:0≤pt v (Go.Pl.wA v r)
   ·rw [h.e _ ha.1 ha.2 h0,h.tb,h.tab,hfs]; exact Int.le_refl _
   ·rw [Df h0]
    simp only [Bool.false_and,Bool.false_eq_true,if_false]
    by_cases hq:(decide (0≤pt w (Go.Pl.wA v r)) && (!decide ((Go.Pl.tab w (Go.Pl.tb w (pt w (Go.Pl.wA v r)))).F8=r.I5) || !decide (pt w (Go.Pl.wA v r) - (C1E w (Go.Pl.tb w (pt w (Go.Pl.wA v r))) (pt w (Go.Pl.wA v r)).toNat:Nat)=r.fN)))=true
    ·rw [if_pos hq]; simp only [A1l,A2R]; omega
    ·rw [if_neg hq]; exact Int.le_refl _
  ·rw [e]
   show Y3 (flP p.A7.length (A2X v r (C6H v)))≤Y3 (flP p.A7.length (A2X w r (C6H w)))
   refine h.pair hv λa b a0 a1 b0 b1 ha hb hq=>?_
   unfold C6H at hq ⊢
   rw [h.clo _ a0 a1 b0 b1 ha hb,h.gst,h.gst,←h.j]
   exact hq
  ·rw [e]
   show Y3 (flS p.A7.length (B5Z v r))≤Y3 (flS p.A7.length (B5Z w r))
   refine C5u λg hg hq=>?_
   unfold B5Z at hq ⊢
   simp only [Ba,Dq] at hq
   have h0:0≤pt v g:=hq.1.1
   have ho:opn w (pt v g)=opn v (pt v g):=by unfold opn; rw [h.j]
   rw [h.e g (by omega) (by omega) h0,h.gst,ho]
   simp only [Ba,Dq]
   exact hq
  ·rw [e]
   show Y3 (flP p.A7.length (A2X v r (B6n v)))≤Y3 (flP p.A7.length (A2X w r (B6n w)))
   refine h.pair hv λa b a0 a1 b0 b1 ha hb hq=>?_
   unfold B6n at hq ⊢
   have ht:tie w a b=tie v a b:=by unfold tie; rw [h.j]
   rw [h.isN a0 a1 b0 b1 ha hb,ht]
   exact hq
  ·rw [e]
   show Y3 (flP p.A7.length (B9i v r))≤Y3 (flP p.A7.length (B9i w r))
   refine C4G λa b ha hb hq=>?_
   unfold B9i at hq ⊢
   simp only [Ba,Dq] at hq
   have h0:0≤pt v a:=hq.1.1.1.1
   have h1:0≤pt v b:=hq.1.1.1.2
   have ht:tie w a b=tie v a b:=by unfold tie; rw [h.j]
   rw [h.isN (by omega) (by omega) (by omega) (by omega) h0 h1,ht,h.e a (by omega) (by omega) h0,h.e b (by omega) (by omega) h1,h.B1N,h.B1N]
   simp only [Ba,Dq]
   exact hq
  ·rw [e]
   show Y3 (if p.R7.length=0 then [] else flP p.A7.length (A2X v r (C6f v)))≤Y3 (if p.R7.length=0 then [] else flP p.A7.length (A2X w r (C6f w)))
   by_cases hc:p.R7.length=0
   ·rw [if_pos hc,if_pos hc]; exact Int.le_refl _
   ·rw [if_neg hc,if_neg hc]
    refine h.pair hv λa b a0 a1 b0 b1 ha hb hq=>?_
    unfold C6f at hq ⊢
    have hcl:∀ g,cls w g=cls v g:=λg=>by unfold cls; rw [h.j]
    have hlv:∀ s,lev w s=lev v s:=λs=>by unfold lev; rw [h.j]
    rw [h.e a a0 a1 ha,h.e b b0 b1 hb,hcl,hcl,hlv,hlv]
    exact hq
  ·rw [e]
   show Y3 (flT v r p.C8.length p.A7.length (C2z r))≤Y3 (flT w r p.C8.length p.A7.length (C2z r))
   have:=h.table hv (r:=r) (c:=C2z r) (d:=C2z r) (λ_=>0) (λt ht=>by
    have hl:=h.C8U hv t
    unfold C2z
    by_cases hq:r.fN<((sit v p.A7.length t).length:Int)
    ·rw [if_pos hq,if_pos (by omega)]
     simp only [A1l,A2R]
     omega
    ·rw [if_neg hq]
     by_cases hq2:r.fN<((sit w p.A7.length t).length:Int)
     ·rw [if_pos hq2]; simp only [A1l,A2R]; omega
     ·rw [if_neg hq2]; simp)
   have hz:((List.range p.C8.length).map λ_=>0).sum=0:=by
    generalize List.range p.C8.length=l
    induction l with
    | nil=>rfl
    | cons x l ih=>simpa using ih
   rw [hz] at this
   simpa using this
  ·rw [e]
   show Y3 (flS p.A7.length (B0g v r))≤Y3 (flS p.A7.length (B0g w r))
   refine C5u λg hg hq=>?_
   unfold B0g at hq ⊢
   simp only [Ba,Dq] at hq
   have h0:0≤pt v g:=hq.1.1
   rw [h.e g (by omega) (by omega) h0,h.gst,h.B1N]
   simp only [Ba,Dq]
   exact hq
  ·rw [e]
   show Y3 (flP p.A7.length (A2X v r (C6q v)))≤Y3 (flP p.A7.length (A2X w r (C6q w)))
   refine h.pair hv λa b a0 a1 b0 b1 ha hb hq=>?_
   unfold C6q at hq ⊢
   rw [h.clo _ a0 a1 b0 b1 ha hb,h.gst,h.gst,←h.j]
   exact hq
 by_cases n9:r.F9=9
 ·unfold A2y
  rw [if_pos n9]
  have hfaults:V9 v r≤V9 w r+B3K v:=by
   unfold V9
   rw [hG1,hG2]
   unfold FL
   rw [n9]
   show Y3 (flT v r p.C8.length p.A7.length (B6W v))≤Y3 (flT w r p.C8.length p.A7.length (B6W w))+B3K v
   have h1:=h.table hv (r:=r) (c:=B6W v) (d:=B6W w) (λt=>(List.range p.A7.length).countP λ(g:Nat)=>(decide (pt v g<0) && (Go.Pl.gst v g).X7) && decide (Go.Pl.tb v (pt w g)=(t:Int))) (λt ht=>by
    unfold B6W
    by_cases ha:(sit v p.A7.length t).any (λg=>(Go.Pl.gst v g).X7)=true
    ·rw [if_pos ha]
     have:((sit w p.A7.length t).any λg=>(Go.Pl.gst w g).X7)=true:=by
      obtain ⟨g,hg,hh⟩:=Ay.1 ha
      exact Ay.2 ⟨g,h.D0M hv hg,by rw [h.gst]; exact hh⟩
     rw [if_pos this]
     simp [Y3]
    ·rw [if_neg ha]
     by_cases h0:0<(sit v p.A7.length t).length
     ·rw [if_pos h0]
      have hl:=h.C8U hv t
      by_cases hb:((sit w p.A7.length t).any λg=>(Go.Pl.gst w g).X7)=true
      ·rw [if_pos hb]
       obtain ⟨g,hg,hh⟩:=Ay.1 hb
       rw [h.gst] at hh
       have hgw:=hg
       unfold sit at hg
       obtain ⟨k,hk',rfl⟩:=List.mem_map.1 hg
       obtain ⟨hk1,hk2⟩:=List.mem_filter.1 hk'
       simp only [Ba,Dq] at hk2
       have hk3:=Mr.1 hk1
       have hun:pt v k<0:=by
        by_cases hp:0≤pt v k
        ·exfalso
         apply ha
         refine Ay.2 ⟨(k:Int),?_,hh⟩
         unfold sit
         refine List.mem_map.2 ⟨k,List.mem_filter.2 ⟨hk1,?_⟩,rfl⟩
         have:=h.e k (by omega) (by omega) hp
         rw [this,h.tb] at hk2
         rw [Dt hp,Dt hk2.2]
         rfl
        ·omega
       have hpos:0<(List.range p.A7.length).countP λ(g:Nat)=>(decide (pt v g<0) && (Go.Pl.gst v g).X7) && decide (Go.Pl.tb v (pt w g)=(t:Int)):=by
        rw [List.countP_pos_iff]
        refine ⟨k,hk1,?_⟩
        have:=hk2.2
        rw [h.tb] at this
        rw [Dt hun,hh,Dt this]
        rfl
       simp only [A1l,A2R]
       omega
      ·rw [if_neg hb,if_pos (by omega)]
       simp only [A1l,A2R]
       omega
     ·rw [if_neg h0]
      have:0≤Y3 (if (sit w p.A7.length t).any (λg=>(Go.Pl.gst w g).X7)=true then [] else if 0<(sit w p.A7.length t).length then [((1:Int),sit w p.A7.length t)] else []):=by
       by_cases hb:((sit w p.A7.length t).any λg=>(Go.Pl.gst w g).X7)=true
       ·rw [if_pos hb]; exact Int.le_refl _
       ·rw [if_neg hb]
        by_cases hb2:0<(sit w p.A7.length t).length
        ·rw [if_pos hb2]; simp only [A1l,A2R]; omega
        ·rw [if_neg hb2]; exact Int.le_refl _
      rw [A2R]
      omega)
   have h2:=spread (λ(g:Nat)=>decide (pt v g<0) && (Go.Pl.gst v g).X7) (λ(g:Nat)=>Go.Pl.tb v (pt w g)) (List.range p.A7.length) (List.range p.C8.length) List.nodup_range
   have h3:B3K v=(List.range p.A7.length).countP (λ(g:Nat)=>decide (pt v g<0) && (Go.Pl.gst v g).X7):=by unfold B3K; rw [hlen]
   omega
  omega
 ·by_cases n15:r.F9=15
  ·unfold A2y
   rw [if_neg n9,if_pos n15]
   have hfaults:V9 v r≤V9 w r+A8K v:=by
    unfold V9
    rw [hG1,hG2]
    unfold FL
    rw [n15]
    show Y3 (flT v r p.C8.length p.A7.length (B5F r))≤Y3 (flT w r p.C8.length p.A7.length (B5F r))+A8K v
    have h1:=h.table hv (r:=r) (c:=B5F r) (d:=B5F r) (λt=>(List.range p.A7.length).countP λ(g:Nat)=>decide (pt v g<0) && decide (Go.Pl.tb v (pt w g)=(t:Int))) (λt ht=>by
     have hl:=h.D0O hv t
     unfold B5F
     by_cases hq:((sit v p.A7.length t).length:Int)<r.fN
     ·rw [if_pos hq]
      by_cases hq2:((sit w p.A7.length t).length:Int)<r.fN
      ·rw [if_pos hq2]; simp only [A1l,A2R]; omega
      ·rw [if_neg hq2]; simp only [A1l,A2R]; omega
     ·rw [if_neg hq]
      by_cases hq2:((sit w p.A7.length t).length:Int)<r.fN
      ·rw [if_pos hq2]; simp only [A1l,A2R]; omega
      ·rw [if_neg hq2]; simp only [A2R]; omega)
    have h2:=spread (λ(g:Nat)=>decide (pt v g<0)) (λ(g:Nat)=>Go.Pl.tb v (pt w g)) (List.range p.A7.length) (List.range p.C8.length) List.nodup_range
    have h3:A8K v=(List.range p.A7.length).countP (λ(g:Nat)=>decide (pt v g<0)):=by unfold A8K; rw [hlen]
    omega
   omega
  ·by_cases n11:r.F9=11
   ·unfold A2y
    rw [if_neg n9,if_neg n15,if_pos n11]
    by_cases h0:0<A8K v
    ·rw [if_pos h0]; exact hfw
    ·rw [if_neg h0]
     have hall:∀ g:Nat,g<p.A7.length→0≤pt v g:=by
      intro g hg
      have hz:A8K v=0:=by omega
      unfold A8K at hz
      rw [hlen,List.countP_eq_zero] at hz
      have:=hz g (Mr.2 hg)
      simp only [Dq] at this
      omega
     have hpart:w.Q4=v.Q4:=by
      refine List.ext_getElem (by rw [hv.pl,hw.pl]) λi h1 h2=>?_
      have hi:i<p.A7.length:=by rw [←hv.pl]; exact h2
      have:=h.e i (by omega) (by omega) (hall i hi)
      unfold pt at this
      simpa [List.getD,Lg h1,Lg h2] using this
     have hgu:w.B3L=v.B3L:=by
      refine List.ext_getElem? λs=>?_
      by_cases hs:s<N
      ·rw [hv.gx s hs,hw.gx s hs,hpart]
      ·rw [List.getElem?_eq_none (by rw [hw.gl]; omega),List.getElem?_eq_none (by rw [hv.gl]; omega)]
     have:w=v:=by
      cases w; cases v
      simp only at hpart hgu
      have hj:=h.j
      simp only at hj
      rw [hpart,hgu,hj]
     rw [this]
     exact Int.le_refl _
   ·have h1:=le_f n9 n15
    have h2:=main n9 n15 n11
    omega
end
end Go.Pl
namespace Go.Pl
open Go Go.Sl Go.Dm
theorem D1w {c:Int→Int→Int} {cmp:Int→Int→Option Int} {P:Int→Prop} (hc:∀ a b,P a→P b→cmp a b=some (c a b)):D0p (λa b=>decide (c a b<0)) P (A1Y 0 cmp) 1000:=by
 refine ⟨λx q _ _=>?_,λp y x q hP hl=>?_⟩
 ·simp [A1Y,A8S]
 ·have hp:p.length≤1000:=by simp at hl; omega
  have hx:P x:=hP x (by simp)
  have hy:P y:=hP y (by simp)
  simp only [A1Y,A8S,Dt (show (0:Int)<((p.length+1:Nat):Int) by omega),Cy,at2,at1,C6r hp,Oz,hc x y hx hy,Zt,set2,set1]
  cases decide (c x y<0) <;> rfl
theorem C2d {c:Int→Int→Int} {cmp:Int→Int→Option Int} {P:Int→Prop} (hc:∀ a b,P a→P b→cmp a b=some (c a b)) {l:List Int} (h:l.length<20) (hl:∀ x∈l,P x):A4B l cmp=some (B3d (λa b=>decide (c a b<0)) l):=by
 have key:A6T l (0:Int) (l.length:Int) cmp=some (B3d (λa b=>decide (c a b<0)) l):=by
  unfold A6T
  rw [show J5 ((0:Int)+(1:Int))=some (1:Int) from rfl,Oz]
  cases l with
  | nil=>
   obtain ⟨m',hm'⟩:=fu1
   rw [hm']
   rfl
  | cons x r=>
   have:=B9O (λa b=>decide (c a b<0)) (M:=1000) (by omega) (D1w hc) (g0:=A1X 0 ((x::r).length:Int) cmp) (N:=(x::r).length) (λd i hd hi=>by
    simp only [A1X,Dt (show (i:Int)<((x::r).length:Int) by omega),Cy]
    cases iter (A1Y 0 cmp) FUEL (d,(i:Int)) with
    | none=>rfl
    | some d'=>simp only [Oz,H6 (show i<9223372036854775807 by omega)]) (λd hd=>by simp [A1X]) (by omega) r [x] FUEL (fuel' (by rw [Lc] at h; omega)) (by simpa using hl) (by simp; omega)
   rw [List.singleton_append] at this
   have this':iter (A1X 0 ((x::r).length:Int) cmp) FUEL (x::r,(1:Int))=_:=this
   rw [this']
   rfl
 unfold A4B B2g
 rw [C6X (r:=(l,(0:Int))) (by simp only [A8U]; rw [Df (by omega)]; rfl),Oz]
 simp only
 rw [key,Oz,C6X (r:=()) (by simp only [A8Q]; rw [Df (by omega)]; rfl)]
 rfl
def D3D (i x:Nat):Bool:=match A3a (i:Int) (x:Int) with
 | none=>false
 | some t=>match A3V t with
  | none=>false
  | some r=>r.all λz=>decide (-1000≤z) && decide (z≤1000)
theorem lvs:(List.range 3).all (λi=>(List.range 256).all λx=>D3D i x)=true:=by kernel_rfl
theorem C8u {ts:List D7} (h:MTs ts) {t:D7} (ht:t∈ts) {r:List Int} (hr:A3V t=some r):∀ z∈r,-1000≤z∧z≤1000:=by
 obtain ⟨i,hi,rfl⟩:=List.getElem_of_mem ht
 have hx:=Lg hi
 obtain ⟨x,hx',hl⟩:=h.x i _ hx
 have hlen:=h.len
 have:=Al.1 (Al.1 lvs i (Mr.2 (by omega))) x (Mr.2 hx')
 unfold D3D at this
 rw [hl] at this
 simp only at this
 rw [hr] at this
 intro z hz
 simpa using Al.1 this z hz
theorem C8F {ts:List D7} (h:MTs ts) {i:Nat} (hi:i<ts.length):∃ x q,A8w ts (i:Int)=some (x::q)∧R8 (ts.take i)≤x∧x<R8 (ts.take i)+M6 ts[i]:=by
 have hOk:OkH ts:=⟨(h.ok).1,(h.ok).2⟩
 have hx:=Lg hi
 obtain ⟨c1,_,_,c4,c5⟩:=h.t i _ hx
 have hmem:ts[i]∈ts:=Gm hi
 have h0:M6 ts[i]≠0:=(A6w c1).2.1
 have hbd:=Y5 ts[i]
 obtain ⟨lv,hlv,hll⟩:=C3e h0
 have hlb:=C8u h hmem hlv
 have hF0:=B9d ts i
 have hF1:=A2I (ts.take i)
 have hlen:=h.len
 have hF2:R8 (ts.take i)≤100:=by
  have:=(A2I (ts.take i)).2
  rw [List.length_take] at this
  omega
 unfold A8w
 rw [Df (show ¬ (i:Int)<0 by omega),Cn,Df (show ¬ (ts.length:Int)≤(i:Int) by omega),Cn,hOk.valid,Oz,Oz]
 simp only [Bq,Cn]
 rw [A0h hi,Oz,hlv,Oz,hOk.first hi,Oz]
 generalize hF:R8 (ts.take i)=F at *
 have hmk:mkL (lv.length:Int) (0:Int)=some (List.replicate lv.length (0:Int)):=by
  have:mkL (lv.length:Int) (0:Int)=(bif Nat.ble lv.length 1073741824 then some (List.replicate lv.length (0:Int)) else none):=rfl
  rw [this,Nb (by omega)]
  rfl
 rw [hmk,Oz]
 obtain ⟨r,hr,hrl,hrq⟩:=L6 (f:=A6r F (List.replicate lv.length (0:Int))) (λs=>∃ k:Nat,s.1=(k:Int)∧k≤lv.length∧s.2.length=lv.length∧∀ (q:Nat) (z:Int),q<k→s.2[q]?=some z→F≤z∧z<F+lv.length) (λs=>lv.length - s.1.toNat) (λr=>r.length=lv.length∧∀ (q:Nat) (z:Int),q<lv.length→r[q]?=some z→F≤z∧z<F+lv.length) (λs hs=>by
  obtain ⟨j,p⟩:=s
  obtain ⟨k,rfl,hk,hl,hp⟩:=hs
  simp only at hl hp
  simp only [A6r,List.length_replicate]
  by_cases hlt:k<lv.length
  ·left
   rw [Dt (by omega),Cy,A2d (by omega) (by omega),Oz,A0h (by omega),Oz,Oz,H6 (by omega)]
   refine ⟨_,rfl,⟨k+1,rfl,by omega,by simp [hl],λq z hq hz=>?_⟩,by simp; omega⟩
   simp only [Zt] at hz
   by_cases hqk:q=k
   ·subst hqk
    rw [List.getElem?_set_self (by omega)] at hz
    cases hz
    omega
   ·rw [List.getElem?_set_ne (by omega)] at hz
    exact hp q z (by omega) hz
  ·right
   rw [Df (by omega)]
   exact ⟨_,rfl,hl,λq z hq hz=>hp q z (by omega) hz⟩) FUEL ((0:Int),List.replicate lv.length (0:Int)) ⟨0,rfl,Nat.zero_le _,by simp,λq z hq=>by omega⟩ (fuel' (by simp; omega))
 rw [hr,Oz]
 have hrm:∀ z∈r,F≤z∧z<F+lv.length:=λz hz=>by
  obtain ⟨q,hq,rfl⟩:=List.getElem_of_mem hz
  exact hrq q _ (by omega) (Lg hq)
 have hsort:=C2d (c:=λa b=>lv.getD (a - F).toNat 0 - lv.getD (b - F).toNat 0) (cmp:=λy0 y1=>A5m y0 y1 lv F) (P:=λz=>F≤z∧z<F+lv.length) (λa b ha hb=>by
  have m1:=hlb _ (A6R (xs:=lv) (s:=a - F) 0 (by omega) (by omega))
  have m2:=hlb _ (A6R (xs:=lv) (s:=b - F) 0 (by omega) (by omega))
  unfold A5m
  rw [A2d (by omega) (by omega),Oz,A1W 0 (by omega) (by omega),Oz,A2d (by omega) (by omega),Oz,A1W 0 (by omega) (by omega),Oz,A2d (by omega) (by omega)]
  rfl) (l:=r) (by omega) hrm
 rw [hsort,Oz]
 have hperm:=B6j (λa b=>decide (lv.getD (a - F).toNat 0 - lv.getD (b - F).toNat 0<0)) r
 cases hs:B3d (λa b=>decide (lv.getD (a - F).toNat 0 - lv.getD (b - F).toNat 0<0)) r with
 | nil=>rw [hs] at hperm; have:=hperm.length_eq; simp at this; omega
 | cons x q=>
  rw [hs] at hperm
  have:=hrm x (hperm.mem_iff.1 (List.mem_cons_self ..))
  exact ⟨x,q,rfl,this.1,by omega⟩
structure Fit (p:C9):Prop where
 v:Vld p
 t:MTs p.C8
 r:p.J9.length≤12
theorem C8C {p:C9} (h:Fit p) {i:Nat} (hi:i<p.C8.length):∃ r,B0U p (i:Int)=some r∧r.length≤12∧∀ z∈r,R8 (p.C8.take i)≤z∧z<R8 (p.C8.take i)+M6 p.C8[i]:=by
 have hck:A3n p=some (0,0):=by rw [B1c h.v.ok,h.v.eq]
 have hx:=Lg hi
 obtain ⟨c1,n1,_,c4,c5⟩:=h.t.t i _ hx
 obtain ⟨y,q,hy,hy1,hy2⟩:=C8F h.t hi
 have hlen:=h.t.len
 have hrl:=h.r
 have hF2:0≤R8 (p.C8.take i)∧R8 (p.C8.take i)≤100:=by
  have:=A2I (p.C8.take i)
  rw [List.length_take] at this
  omega
 unfold B0U
 rw [hck,Oz]
 simp only [Dt rfl,Bq]
 rw [show decide True=true from rfl]
 simp only [Bq,Cn]
 rw [Df (show ¬ (i:Int)<0 by omega),Cn,Df (show ¬ (p.C8.length:Int)≤(i:Int) by omega),Oz,Cn]
 obtain ⟨r,hr,hl,hq⟩:=L6 (f:=A6v p (i:Int)) (λs=>∃ k:Nat,s.1=(k:Int)∧k≤p.J9.length∧s.2.length≤k∧∀ z∈s.2,R8 (p.C8.take i)≤z∧z<R8 (p.C8.take i)+M6 p.C8[i]) (λs=>p.J9.length - s.1.toNat) (λr=>r.length≤12∧∀ z∈r,R8 (p.C8.take i)≤z∧z<R8 (p.C8.take i)+M6 p.C8[i]) (λs hs=>by
  obtain ⟨j,out⟩:=s
  obtain ⟨k,rfl,hk,hl,ho⟩:=hs
  simp only at hl ho
  simp only [A6v]
  by_cases hlt:k<p.J9.length
  ·left
   rw [Dt (by omega),Cy]
   unfold B4k
   rw [A0h hlt,Oz]
   have hrf:=h.v.rf (Gm hlt)
   have hap:∀ z:Int,apL out [z]=some (out++[z]):=λz=>V4 (by omega)
   have hok:∀ z:Int,(R8 (p.C8.take i)≤z∧z<R8 (p.C8.take i)+M6 p.C8[i])→∃ s':Int×List Int,(some (Sum.inl (((k+1:Nat):Int),out++[z])):Option ((Int×List Int)⊕List Int))=some (.inl s')∧(∃ k:Nat,s'.1=(k:Int)∧k≤p.J9.length∧s'.2.length≤k∧∀ z∈s'.2,R8 (p.C8.take i)≤z∧z<R8 (p.C8.take i)+M6 p.C8[i])∧p.J9.length - s'.1.toNat<p.J9.length - k:=λz hz=>⟨_,rfl,⟨k+1,rfl,by omega,by simp; omega,λw hw=>by
    rcases List.mem_append.1 hw with hw | hw
    ·exact ho w hw
    ·rw [Ms] at hw; subst hw; exact hz⟩,by simp; omega⟩
   have hno:∃ s':Int×List Int,(some (Sum.inl (((k+1:Nat):Int),out)):Option ((Int×List Int)⊕List Int))=some (.inl s')∧(∃ k:Nat,s'.1=(k:Int)∧k≤p.J9.length∧s'.2.length≤k∧∀ z∈s'.2,R8 (p.C8.take i)≤z∧z<R8 (p.C8.take i)+M6 p.C8[i])∧p.J9.length - s'.1.toNat<p.J9.length - k:=⟨_,rfl,⟨k+1,rfl,by omega,by simp only; omega,ho⟩,by simp; omega⟩
   by_cases h7:p.J9[k].F9=7
   ·rw [Dt h7,Cy,A0h hi,Oz,Oz]
    by_cases hn:p.J9[k].I5=p.C8[i].F8
    ·rw [Dt hn,Cy,h.v.h.first hi,Oz]
     obtain ⟨t,ht,hN⟩:=hrf.seat h7
     have htab:A4n p p.J9[k].I5=(i:Int):=by rw [hn,n1]; exact h.t.tab hi
     rw [htab,Zt,hx] at ht
     cases ht
     have hn0:=hrf.n
     rw [A2d (by omega) (by omega),Oz,hap,Oz,H6 (by omega)]
     exact hok _ ⟨by omega,by omega⟩
    ·rw [Df hn,Cn,Df (by omega),Cn,H6 (by omega)]
     exact hno
   ·rw [Df h7,Cn,Oz,Cn]
    by_cases h14:p.J9[k].F9=14
    ·rw [Dt h14,Cy]
     unfold B4d
     have hy0:G7 (y::q) (0:Int)=some y:=rfl
     by_cases he:p.J9[k].I5=(⟨#[]⟩:ByteArray)
     ·rw [Dt he,Cy,hy,Oz,hy0,Oz,hap,Oz,H6 (by omega)]
      exact hok _ ⟨hy1,hy2⟩
     ·rw [Df he,Cn,A0h hi,Oz]
      by_cases hn:p.J9[k].I5=p.C8[i].F8
      ·rw [Dt hn,Cy,hy,Oz,hy0,Oz,hap,Oz,H6 (by omega)]
       exact hok _ ⟨hy1,hy2⟩
      ·rw [Df hn,Cn,H6 (by omega)]
       exact hno
    ·rw [Df h14,Cn,H6 (by omega)]
     exact hno
  ·right
   rw [Df (by omega)]
   exact ⟨_,rfl,by omega,ho⟩) FUEL ((0:Int),([]:List Int)) ⟨0,rfl,Nat.zero_le _,by simp,λz hz=>by cases hz⟩ (fuel' (by simp; omega))
 rw [hr,Oz,C6m hl,Oz]
 have hperm:=B6j (λa b:Int=>decide (a<b)) r
 obtain ⟨w,hw,hwm,hwl⟩:=D0B (l:=B3d (λa b:Int=>decide (a<b)) r) (by rw [hperm.length_eq]; omega)
 rw [hperm.length_eq] at hwl
 rw [hw]
 exact ⟨w,rfl,by omega,λz hz=>hq z (hperm.mem_iff.1 (hwm z hz))⟩
end Go.Pl
namespace Go.Pl
open Go Go.Sl Go.Dm
theorem C9z {p:C9} (h:Fit p) {i:Nat} (hi:i<p.C8.length):∃ r,B2v p (i:Int)=some r∧r.length≤12∧∀ u∈r,PmL (M6 p.C8[i]).toNat u∧A1N p.C8[i] u=some true:=by
 have hck:A3n p=some (0,0):=by rw [B1c h.v.ok,h.v.eq]
 obtain ⟨q,hq,hql,hqm⟩:=C8C h hi
 have hlen:=h.t.len
 have hF:0≤R8 (p.C8.take i)∧R8 (p.C8.take i)≤100:=by
  have:=A2I (p.C8.take i)
  rw [List.length_take] at this
  omega
 have hbd:=Y5 p.C8[i]
 obtain ⟨w,hw,hwl,hwm⟩:=L6 (f:=A7Z p (i:Int) q) (λs=>∃ k:Nat,s.1=(k:Int)∧k≤q.length∧s.2.length≤k∧∀ z∈s.2,0≤z∧z<M6 p.C8[i]) (λs=>q.length - s.1.toNat) (λr=>r.length≤12∧∀ z∈r,0≤z∧z<M6 p.C8[i]) (λs hs=>by
  obtain ⟨j,out⟩:=s
  obtain ⟨k,rfl,hk,hl,ho⟩:=hs
  simp only at hl ho
  simp only [A7Z]
  by_cases hlt:k<q.length
  ·left
   have hm:=hqm _ (Gm hlt)
   rw [Dt (by omega),Cy,A0h hlt,Oz,h.v.h.first hi,Oz,A2d (by omega) (by omega),Oz,V4 (by omega),Oz,H6 (by omega)]
   refine ⟨_,rfl,⟨k+1,rfl,by omega,by simp; omega,λz hz=>?_⟩,by simp; omega⟩
   rcases List.mem_append.1 hz with hz | hz
   ·exact ho z hz
   ·rw [Ms] at hz; subst hz; omega
  ·right
   rw [Df (by omega)]
   exact ⟨_,rfl,by omega,ho⟩) FUEL ((0:Int),([]:List Int)) ⟨0,rfl,Nat.zero_le _,by simp,λz hz=>by cases hz⟩ (fuel' (by simp; omega))
 obtain ⟨r,hr,hr1,hr2⟩:=D0S h.t (Gm hi) (seats:=w) (by omega) hwm
 refine ⟨r,?_,hr1,λu hu=>⟨(hr2 u hu).1,(hr2 u hu).2.1⟩⟩
 unfold B2v B5W
 rw [hck,Oz]
 simp only [Dt rfl,Bq]
 rw [show decide True=true from rfl]
 simp only [Bq,Cn]
 rw [Df (show ¬ (i:Int)<0 by omega),Cn,Df (show ¬ (p.C8.length:Int)≤(i:Int) by omega),Cn,hq,Oz,hw,Oz,A0h hi,Oz,hr]
 rfl
structure HOk (h:M3) (p:C9) (N:Nat):Prop where
 j:JOk h.F4 p N
 fp:h.fp=p
 tl:h.Z8.length=N
 tv:∀ s:Nat,s<N→∃ (t k:Nat) (x:D7),h.Z8[s]?=some (t:Int)∧p.C8[t]?=some x∧(s:Int)=R8 (p.C8.take t)+k∧(k:Int)<M6 x
 fl:h.B7Y.length=p.C8.length
 fv:∀ t:Nat,t<p.C8.length→h.B7Y[t]?=some (R8 (p.C8.take t))
 gl:h.B2D.length=p.C8.length
 gv:∀ (t:Nat) (x:D7),p.C8[t]?=some x→∃ g,h.B2D[t]?=some g∧g.length≤12∧∀ u∈g,PmL (M6 x).toNat u
theorem C7U {l:List D7} {k:Nat} (hk:k<l.length):R8 (l.take (k+1))=R8 (l.take k)+M6 l[k]:=by
 have:l.take (k+1)=l.take k++[l[k]]:=B1C (Lg hk)
 rw [this,C4R]
theorem C9Y {α:Type} {l:List α} {x:α} {q:Nat} {P:α→Prop} (h:∃ g,l[q]?=some g∧P g):∃ g,(l++[x])[q]?=some g∧P g:=by
 obtain ⟨g,h1,h2⟩:=h
 exact ⟨g,by rw [List.getElem?_append_left (P5 h1)]; exact h1,h2⟩
theorem C9M {p:C9} (h:Fit p):∃ H N,A4l p=some (some H,0,0)∧HOk H p N∧B1Q p=some (some H.F4,0,0):=by
 obtain ⟨j,N,hj,hJ⟩:=D2T h.v
 have hlen:=h.t.len
 have hnone:A5N j=some false:=by
  unfold A5N
  first | rfl | (rw [hJ.kinds]; rfl)
 have hprob:A8v j=some p:=by
  unfold A8v
  rw [hnone,Oz,Cn,hJ.given,C5V h.v]
  rfl
 obtain ⟨⟨tb,fs,gs⟩,hr,hk⟩:=L6 (f:=A6S p) (λs=>∃ k:Nat,s.2.2.2=(k:Int)∧k≤p.C8.length∧(s.1.length:Int)=R8 (p.C8.take k)∧s.2.1.length=k∧s.2.2.1.length=k∧
   (∀ q:Nat,q<s.1.length→∃ (t m:Nat) (x:D7),s.1[q]?=some (t:Int)∧p.C8[t]?=some x∧(q:Int)=R8 (p.C8.take t)+m∧(m:Int)<M6 x)∧
   (∀ t:Nat,t<k→s.2.1[t]?=some (R8 (p.C8.take t)))∧
   (∀ (t:Nat) (x:D7),t<k→p.C8[t]?=some x→∃ g,s.2.2.1[t]?=some g∧g.length≤12∧∀ u∈g,PmL (M6 x).toNat u)) (λs=>p.C8.length - s.2.2.2.toNat)
  (λr=>(r.1.length:Int)=R8 p.C8∧r.2.1.length=p.C8.length∧r.2.2.length=p.C8.length∧
   (∀ q:Nat,q<r.1.length→∃ (t m:Nat) (x:D7),r.1[q]?=some (t:Int)∧p.C8[t]?=some x∧(q:Int)=R8 (p.C8.take t)+m∧(m:Int)<M6 x)∧
   (∀ t:Nat,t<p.C8.length→r.2.1[t]?=some (R8 (p.C8.take t)))∧
   (∀ (t:Nat) (x:D7),t<p.C8.length→p.C8[t]?=some x→∃ g,r.2.2[t]?=some g∧g.length≤12∧∀ u∈g,PmL (M6 x).toNat u)) (λs hs=>by
  obtain ⟨tb,fs,gs,i⟩:=s
  obtain ⟨k,hi,hk,h1,h2,h3,h4,h5,h6⟩:=hs
  simp only at hi h1 h2 h3 h4 h5 h6
  subst hi
  simp only [A6S]
  by_cases hlt:k<p.C8.length
  ·left
   have hx:=Lg hlt
   obtain ⟨c1,_,_,c4,c5⟩:=h.t.t k _ hx
   have hbd:=Y5 p.C8[k]
   obtain ⟨g,hg,hg1,hg2⟩:=C9z h hlt
   have hF:R8 (p.C8.take k)≤100:=by
    have:=A2I (p.C8.take k)
    rw [List.length_take] at this
    omega
   have hseat:B2J p.C8[k]=some (M6 p.C8[k]):=by
    unfold B2J
    rw [B1p c5,c1,Oz]
    simp only [Dt rfl]
    rw [show decide True=true from rfl]
    simp only [Bq,Cn]
    rw [A2i]
    rfl
   obtain ⟨n,hn⟩:=Zn hbd.1
   have hrep:A6n [(k:Int)] (M6 p.C8[k])=some (List.replicate n (k:Int)):=by rw [hn]; exact C6S _ (by omega)
   have hap:apL tb (List.replicate n (k:Int))=some (tb++List.replicate n (k:Int)):=B2a (by simp; omega)
   rw [Dt (by omega),Cy,V4 (by omega),Oz,A0h hlt,Oz,hseat,Oz,hrep,Oz,hap,Oz,Oz,hg,Oz,V4 (by omega),Oz,H6 (by omega)]
   refine ⟨_,rfl,⟨k+1,rfl,by omega,?_,by simp; omega,by simp; omega,λq hq=>?_,λt ht=>?_,λt x ht hx'=>?_⟩,by simp; omega⟩
   ·rw [C7U hlt,hn]; simp; omega
   ·simp only [List.length_append,List.length_replicate] at hq
    by_cases hql:q<tb.length
    ·obtain ⟨t,m,x,e1,e2⟩:=h4 q hql
     exact ⟨t,m,x,by simp only; rw [List.getElem?_append_left hql]; exact e1,e2⟩
    ·refine ⟨k,q - tb.length,p.C8[k],?_,hx,by omega,by omega⟩
     simp only
     rw [List.getElem?_append_right (by omega),List.getElem?_replicate,if_pos (by omega)]
   ·simp only
    by_cases htk:t<k
    ·rw [List.getElem?_append_left (by omega)]; exact h5 t htk
    ·have:t=k:=by omega
     subst this
     rw [List.getElem?_append_right (by omega),h2,Nat.sub_self,List.getElem?_cons_zero,h1]
   ·simp only
    by_cases htk:t<k
    ·exact C9Y (h6 t x htk hx')
    ·have:t=k:=by omega
     subst this
     rw [hx] at hx'
     cases hx'
     refine ⟨g,?_,hg1,λu hu=>(hg2 u hu).1⟩
     rw [List.getElem?_append_right (by omega),h3,Nat.sub_self,List.getElem?_cons_zero]
  ·right
   have:k=p.C8.length:=by omega
   subst this
   rw [Df (by omega)]
   rw [List.take_length] at h1
   exact ⟨_,rfl,h1,h2,h3,h4,h5,h6⟩) FUEL (([]:List Int),([]:List Int),([]:List (List (List Int))),(0:Int)) ⟨0,rfl,Nat.zero_le _,by simp [R8],rfl,rfl,λq hq=>by simp at hq,λt ht=>by omega,λt x ht=>by omega⟩ (fuel' (by simp; omega))
 obtain ⟨h1,h2,h3,h4,h5,h6⟩:=hk
 simp only at h1 h2 h3 h4 h5 h6
 have hNl:tb.length=N:=by have:=hJ.n; omega
 refine ⟨M3.mk j p tb fs gs,N,?_,⟨hJ,rfl,hNl,λs hs=>h4 s (by omega),h2,h5,h3,λt x hx=>h6 t x (P5 hx) hx⟩,hj⟩
 unfold A4l
 rw [hj,Oz]
 simp only [Dt rfl]
 rw [show decide True=true from rfl]
 simp only [Bq,Cn,Oz,hprob,hr]
end Go.Pl
namespace Go.Pl
open Go Go.Sl Go.Dm
section
variable {σ τ τ' S ρ:Type}
def scan (Y:σ→τ→Option (σ×Bool)):σ→List τ→Option (σ×Bool)
 | s,[]=>some (s,true)
 | s,x::l=>Option.bind (Y s x) λq=>if q.2 then scan Y q.1 l else some (q.1,false)
theorem C5R (Y:σ→τ→Option (σ×Bool)) (b:List τ):∀ (a:List τ) (s:σ),scan Y s (a++b)=Option.bind (scan Y s a) λq=>if q.2 then scan Y q.1 b else some (q.1,false)
 | [],s=>rfl
 | x::a,s=>by
  simp only [List.cons_append,scan]
  cases Y s x with
  | none=>rfl
  | some q=>
   simp only [Oz]
   cases hq:q.2 with
   | true=>simp only [if_true]; exact C5R Y b a q.1
   | false=>rfl
theorem C2U (g:τ→List τ') (Y:σ→τ'→Option (σ×Bool)):∀ (l:List τ) (s:σ),scan Y s (l.flatMap g)=scan (λs x=>scan Y s (g x)) s l
 | [],s=>rfl
 | x::l,s=>by
  simp only [List.flatMap_cons,C5R,scan]
  cases scan Y s (g x) with
  | none=>rfl
  | some q=>
   simp only [Oz]
   cases hq:q.2 with
   | true=>simp only [if_true]; exact C2U g Y l q.1
   | false=>rfl
theorem C5B (Y:σ→τ→Option (σ×Bool)) (u:σ→τ→σ) (I:σ→Nat→Prop) (B:Nat):∀ (l:List τ) (k:Nat) (s:σ),I s k→k+l.length≤B→(∀ s k x,x∈l→k<B→I s k→Y s x=some (u s x,true)∧I (u s x) (k+1))→scan Y s l=some (l.foldl u s,true)∧I (l.foldl u s) (k+l.length)
 | [],k,s,h0,_,_=>⟨rfl,h0⟩
 | x::l,k,s,h0,hB,h=>by
  rw [Lc] at hB
  obtain ⟨h1,h2⟩:=h s k x (List.mem_cons_self ..) (by omega) h0
  have ih:=C5B Y u I B l (k+1) (u s x) h2 (by omega) λs k y hy=>h s k y (Mc _ hy)
  simp only [scan,h1,Oz,if_true,List.foldl_cons,Lc]
  rw [show k+(l.length+1)=k+1+l.length by omega]
  exact ih
theorem D3v {f:S→Option (S⊕ρ)} (st:σ→Nat→S) (N:Nat) (G:σ→Nat→Option (σ×Bool)) (fin ex:σ→ρ)
  (h1:∀ s i,i<N→f (st s i)=Option.bind (G s i) λq=>some (if q.2 then .inl (st q.1 (i+1)) else .inr (ex q.1)))
  (h2:∀ s,f (st s N)=some (.inr (fin s))) {n:Nat} (s:σ) (hn:N<n):iter f n (st s 0)=Option.bind (scan G s (List.range N)) λq=>some (if q.2 then fin q.1 else ex q.1):=by
 have key:∀ (n k:Nat) (s:σ),k≤N→N - k<n→iter f n (st s k)=Option.bind (scan G s (List.range' k (N - k))) λq=>some (if q.2 then fin q.1 else ex q.1):=by
  intro n
  induction n with
  | zero=>intro k s _ h; omega
  | succ n ih=>
   intro k s hk hn
   by_cases hl:k=N
   ·subst hl
    simp [iter,h2,scan]
   ·have hlt:k<N:=by omega
    have e:List.range' k (N - k)=k::List.range' (k+1) (N - (k+1)):=by
     obtain ⟨d,hd⟩:∃ d,N - k=d+1:=⟨N - k - 1,by omega⟩
     rw [hd,List.range'_succ,show N - (k+1)=d by omega]
    rw [e]
    simp only [iter,h1 s k hlt,scan]
    cases G s k with
    | none=>rfl
    | some q=>
     simp only [Oz]
     cases hq:q.2 with
     | true=>simp only [if_true]; exact ih (k+1) q.1 (by omega) (by omega)
     | false=>simp [hq]
 have:=key n 0 s (Nat.zero_le _) (by omega)
 rw [List.range_eq_range']
 simpa using this
theorem C6y {β:Type} {f:S→Option (S⊕ρ)} (st:σ→Nat→S) (N:Nat) (G:σ→Nat→Option (σ×Bool)) (fin:σ→ρ) (ex:σ→Nat→ρ) (post:ρ→Option β) (exB:σ→Option β)
  (h1:∀ s i,i<N→f (st s i)=Option.bind (G s i) λq=>some (if q.2 then .inl (st q.1 (i+1)) else .inr (ex q.1 i)))
  (h2:∀ s,f (st s N)=some (.inr (fin s))) (h3:∀ s i,i<N→post (ex s i)=exB s) {n:Nat} (s:σ) (hn:N<n):Option.bind (iter f n (st s 0)) post=Option.bind (scan G s (List.range N)) λq=>if q.2 then post (fin q.1) else exB q.1:=by
 have key:∀ (n k:Nat) (s:σ),k≤N→N - k<n→Option.bind (iter f n (st s k)) post=Option.bind (scan G s (List.range' k (N - k))) λq=>if q.2 then post (fin q.1) else exB q.1:=by
  intro n
  induction n with
  | zero=>intro k s _ h; omega
  | succ n ih=>
   intro k s hk hn
   by_cases hl:k=N
   ·subst hl
    simp [iter,h2,scan]
   ·have hlt:k<N:=by omega
    have e:List.range' k (N - k)=k::List.range' (k+1) (N - (k+1)):=by
     obtain ⟨d,hd⟩:∃ d,N - k=d+1:=⟨N - k - 1,by omega⟩
     rw [hd,List.range'_succ,show N - (k+1)=d by omega]
    rw [e]
    simp only [iter,h1 s k hlt,scan]
    cases G s k with
    | none=>rfl
    | some q=>
     simp only [Oz]
     cases hq:q.2 with
     | true=>simp only [if_true]; exact ih (k+1) q.1 (by omega) (by omega)
     | false=>simp [hq,h3 _ k hlt]
 have:=key n 0 s (Nat.zero_le _) (by omega)
 rw [List.range_eq_range']
 simpa using this
end
def free (part:List Int):Int:=Y7 (λx=>decide ((-1:Int)=x)) 0 part
def A1o (dead:List Int→Bool) (N:Nat):Nat→List Int→List (List Int)
 | 0,_=>[]
 | n+1,part=>if dead part then [] else if free part<0 then [part] else (List.range N).flatMap λ(s:Nat)=>if part.any (λy=>decide ((s:Int)=y)) then [] else A1o dead N n (part.set (free part).toNat (s:Int))
theorem free_at {part:List Int} (h:0≤free part):(free part).toNat<part.length∧part[(free part).toNat]?=some (-1)∧∀ j,j<(free part).toNat→part[j]?≠some (-1):=by
 have key:∀ (l:List Int) (i:Nat),0≤Y7 (λx=>decide ((-1:Int)=x)) i l→∃ k:Nat,Y7 (λx=>decide ((-1:Int)=x)) i l=((i+k:Nat):Int)∧k<l.length∧l[k]?=some (-1)∧∀ j,j<k→l[j]?≠some (-1):=by
  intro l
  induction l with
  | nil=>intro i h; simp [Y7] at h
  | cons x l ih=>
   intro i h
   simp only [Y7] at h ⊢
   by_cases hx:(-1:Int)=x
   ·subst hx
    exact ⟨0,by simp,by simp,by simp,λj hj=>by omega⟩
   ·simp only [Df hx] at h ⊢
    obtain ⟨k,e,hk,h1,h2⟩:=ih (i+1) (by simpa using h)
    refine ⟨k+1,?_,by simpa using hk,by simpa using h1,λj hj=>?_⟩
    ·simp only [Bool.false_eq_true,if_false]; rw [e]; congr 1; omega
    ·cases j with
     | zero=>simpa using λe=>hx e.symm
     | succ j=>simpa using h2 j (by omega)
 obtain ⟨k,e,hk,h1,h2⟩:=key part 0 h
 have:(free part).toNat=k:=by unfold free; omega
 rw [this]
 exact ⟨hk,h1,h2⟩
theorem C7q {part:List Int} (h:free part<0):∀ x∈part,x≠-1:=by
 intro x hx e
 have:=B1F (λx=>decide ((-1:Int)=x)) part 0
 have h2:=this.mp h
 have:=List.any_eq_false.1 h2 x hx
 simp [e] at this
def opens (part:List Int):Nat:=part.countP λx=>decide ((-1:Int)=x)
theorem C2K {part:List Int} (h:0≤free part) {s:Int} (hs:s≠-1):opens (part.set (free part).toNat s)+1=opens part:=by
 obtain ⟨h1,h2,_⟩:=free_at h
 unfold opens
 have e:part[(free part).toNat]=-1:=by have:=Lg h1; rw [h2] at this; exact (Option.some.inj this).symm
 have e1:part=part.take (free part).toNat++-1::part.drop ((free part).toNat+1):=by
  rw [←e,←Dc h1,List.take_append_drop]
 have e2:part.set (free part).toNat s=part.take (free part).toNat++s::part.drop ((free part).toNat+1):=by
  rw [List.set_eq_take_append_cons_drop,if_pos h1]
 have e3:part.countP (λx=>decide ((-1:Int)=x))=(part.take (free part).toNat++-1::part.drop ((free part).toNat+1)).countP (λx=>decide ((-1:Int)=x)):=congrArg _ e1
 rw [e2,e3,List.countP_append,List.countP_append,List.countP_cons,List.countP_cons]
 rw [Df (λe=>hs e.symm),Dt rfl]
 simp
 omega
theorem A0a.set {N G:Nat} {part:List Int} (h:A0a N G part) (hf:0≤free part) {s:Nat} (hs:s<N) (hn:(part.any λy=>decide ((s:Int)=y))=false):A0a N G (part.set (free part).toNat (s:Int)):=by
 obtain ⟨h1,h2,_⟩:=free_at hf
 have hno:∀ (j:Nat),part[j]?≠some (s:Int):=λj e=>by
  have:=List.any_eq_false.1 hn _ (A0C e)
  simp at this
 refine ⟨by rw [List.length_set]; exact h.len,λx hx=>?_,λi j x hij hi hj=>?_⟩
 ·rcases List.mem_or_eq_of_mem_set hx with h' | h'
  ·exact h.bd x h'
  ·omega
 ·by_cases hi':(free part).toNat=i
  ·subst hi'
   rw [List.getElem?_set_self h1] at hi
   rw [List.getElem?_set_ne (by omega)] at hj
   cases hi
   exact absurd hj (hno j)
  ·rw [List.getElem?_set_ne hi'] at hi
   by_cases hj':(free part).toNat=j
   ·subst hj'
    rw [List.getElem?_set_self h1] at hj
    cases hj
    exact absurd hi (hno i)
   ·rw [List.getElem?_set_ne hj'] at hj
    exact h.one i j x hij hi hj
theorem C6E {d e:List Int→Bool} (N G:Nat) (h:∀ part,A0a N G part→e part=true→d part=true):∀ (n:Nat) (part:List Int),A0a N G part→(A1o d N n part).Sublist (A1o e N n part)
 | 0,_,_=>List.Sublist.refl _
 | n+1,part,hP=>by
  unfold A1o
  by_cases hd:d part=true
  ·rw [if_pos hd]; exact List.nil_sublist _
  ·have he:¬ e part=true:=λh'=>hd (h part hP h')
   rw [if_neg hd,if_neg he]
   by_cases hf:free part<0
   ·rw [if_pos hf,if_pos hf]; exact List.Sublist.refl _
   ·rw [if_neg hf,if_neg hf]
    have key:∀ l:List Nat,(∀ s∈l,s<N)→(l.flatMap λ(s:Nat)=>if part.any (λy=>decide ((s:Int)=y)) then [] else A1o d N n (part.set (free part).toNat (s:Int))).Sublist (l.flatMap λ(s:Nat)=>if part.any (λy=>decide ((s:Int)=y)) then [] else A1o e N n (part.set (free part).toNat (s:Int))):=by
     intro l
     induction l with
     | nil=>intro _; exact List.Sublist.refl _
     | cons s l ih=>
      intro hl
      rw [List.flatMap_cons,List.flatMap_cons]
      refine List.Sublist.append ?_ (ih λs' hs'=>hl s' (Mc _ hs'))
      by_cases ha:(part.any λy=>decide ((s:Int)=y))=true
      ·rw [if_pos ha,if_pos ha]; exact List.Sublist.refl _
      ·rw [if_neg ha,if_neg ha]
       exact C6E N G h n _ (hP.set (by omega) (hl s (List.mem_cons_self ..)) (eq_false_of_ne_true ha))
    exact key _ λs hs=>Mr.1 hs
theorem B2j {d:List Int→Bool} (N G:Nat):∀ (n:Nat) (part x:List Int),A0a N G part→x∈A1o d N n part→A0a N G x∧d x=false∧(∀ y∈x,y≠-1)∧∀ (g:Nat) (s:Int),part[g]?=some s→s≠-1→x[g]?=some s
 | 0,_,_,_,h=>by cases h
 | n+1,part,x,hP,h=>by
  unfold A1o at h
  by_cases hd:d part=true
  ·rw [if_pos hd] at h; cases h
  ·rw [if_neg hd] at h
   by_cases hf:free part<0
   ·rw [if_pos hf,Ms] at h
    subst h
    exact ⟨hP,by simpa using hd,C7q hf,λg s e _=>e⟩
   ·rw [if_neg hf] at h
    obtain ⟨s,hs,h⟩:=List.mem_flatMap.1 h
    by_cases ha:(part.any λy=>decide ((s:Int)=y))=true
    ·rw [if_pos ha] at h; cases h
    ·rw [if_neg ha] at h
     have hf':0≤free part:=by omega
     obtain ⟨h1,h2,_⟩:=free_at hf'
     obtain ⟨a,b,c,e⟩:=B2j N G n _ x (hP.set hf' (Mr.1 hs) (eq_false_of_ne_true ha)) h
     refine ⟨a,b,c,λg t hg ht=>e g t ?_ ht⟩
     by_cases hg':(free part).toNat=g
     ·subst hg'; rw [h2] at hg; cases hg; exact absurd rfl ht
     ·rw [List.getElem?_set_ne hg']; exact hg
theorem C0S {d:List Int→Bool} (N G:Nat) (x:List Int) (hx:A0a N G x) (hfull:∀ y∈x,y≠-1) (hd:d x=false):∀ (n:Nat) (part:List Int),A0a N G part→opens part<n→(∀ (g:Nat) (s:Int),part[g]?=some s→s≠-1→x[g]?=some s)→(∀ part,A0a N G part→(∀ (g:Nat) (s:Int),part[g]?=some s→s≠-1→x[g]?=some s)→d part=false)→x∈A1o d N n part
 | 0,_,_,h,_,_=>by omega
 | n+1,part,hP,hn,he,hmono=>by
  unfold A1o
  rw [if_neg (by rw [hmono part hP he]; simp)]
  by_cases hf:free part<0
  ·rw [if_pos hf,Ms]
   refine List.ext_getElem? λg=>?_
   by_cases hg:g<part.length
   ·have e:=Lg hg
    rw [e]
    exact he g _ e (C7q hf _ (Gm hg))
   ·rw [List.getElem?_eq_none (by have:=hx.len; have:=hP.len; omega),List.getElem?_eq_none (by omega)]
  ·rw [if_neg hf]
   have hf':0≤free part:=by omega
   obtain ⟨h1,h2,_⟩:=free_at hf'
   have hlt:(free part).toNat<x.length:=by have:=hx.len; have:=hP.len; omega
   have ex:=Lg hlt
   have hb:=hx.bd _ (Gm hlt)
   have hne:=hfull _ (Gm hlt)
   generalize x[(free part).toNat]=y at ex hb hne
   obtain ⟨s,rfl⟩:=Zn (show 0≤y by omega)
   have hs:s<N:=by omega
   have ha:(part.any λy=>decide ((s:Int)=y))=false:=by
    rw [List.any_eq_false]
    intro y hy hq
    have hq:=of_decide_eq_true hq
    subst hq
    obtain ⟨j,hj,e⟩:=List.getElem_of_mem hy
    have ej:part[j]?=some (s:Int):=by rw [Lg hj,e]
    have xj:=he j _ ej (by omega)
    have hjf:j≠(free part).toNat:=λh=>by rw [h,h2] at ej; cases ej
    rcases Nat.lt_or_gt_of_ne hjf with h | h
    ·have:=hx.one j _ _ h xj ex; omega
    ·have:=hx.one _ j _ h ex xj; omega
   refine List.mem_flatMap.2 ⟨s,Mr.2 hs,?_⟩
   rw [ha]
   simp only [Bool.false_eq_true,if_false]
   refine C0S N G x hx hfull hd n _ (hP.set hf' hs ha) (by have:=C2K hf' (s:=(s:Int)) (by omega); omega) (λg t hg ht=>?_) hmono
   by_cases hg':(free part).toNat=g
   ·subst hg'; rw [List.getElem?_set_self h1] at hg; cases hg; exact ex
   ·rw [List.getElem?_set_ne hg'] at hg; exact he g t hg ht
end Go.Pl
namespace Go.Pl
open Go Go.Sl Go.Dm
def Z7 (j:O0) (p:C9) (part:List Int):Bool:=C4S (mkv j part) p.J9
theorem D4Y {l:List Int} (hl:l.length≤1000) (v:Int):A4o l v=some (Y7 (λy=>decide (v=y)) 0 l):=by
 unfold A4o
 refine B1w l _ (by rw [mx]; omega) (λi x h=>?_) (by simp [A2T])
 have hi:=P5 h
 simp only [A2T,J2 h,Oz,Cd]
 rw [if_pos (by omega),H6 (by omega)]
 by_cases hx:v=x <;> simp [hx]
theorem C8G {σ:Type} {s0:σ} {part:List Int} (hl:part.length≤1000) (s:Int):iter (A4s s0 part s) FUEL (0:Int)=some (if part.any (λy=>decide (s=y)) then .inr (s0,part) else .inl ()):=by
 have key:=A1t (f:=A4s s0 part s) part (λ(i:Nat) x=>if decide (s=x) then some (.inr (s0,part)) else none) (.inl ():Unit⊕(σ×List Int)) (fuel' (n:=part.length) (by omega)) (λi x hi=>by
  have hlt:=P5 hi
  simp only [A4s,Dt (show (i:Int)<(part.length:Int) by omega),Cy,J2 hi,Oz,H6 (show i<9223372036854775807 by omega)]
  by_cases hx:x=s
  ·rw [Dt hx,Dt hx.symm]; rfl
  ·rw [Df hx,Df (λh=>hx h.symm)]; rfl) (by simp [A4s])
 rw [key,A7F _ (λx=>!decide (s=x)) (.inr (s0,part)) _ (λi x=>by cases decide (s=x) <;> rfl)]
 congr 1
 cases hq:part.any λy=>decide (s=y) with
 | true=>
  have:(part.all λx=>!decide (s=x))=false:=by rw [←Bool.not_eq_true]; intro hh; rw [Ay] at hq; obtain ⟨x,hx,hd⟩:=hq; have:=Al.1 hh x hx; rw [hd] at this; cases this
  rw [this]; rfl
 | false=>
  have:(part.all λx=>!decide (s=x))=true:=by rw [Al]; intro x hx; have:=List.any_eq_false.1 hq x hx; simpa using this
  rw [this]; rfl
theorem C4X {part:List Int} (hf:0≤free part) (s:Int):(part.set (free part).toNat s).set (free part).toNat (-1)=part:=by
 obtain ⟨h1,h2,_⟩:=free_at hf
 rw [List.set_set]
 exact B7h h2
theorem C8Z {part:List Int} (hf:0≤free part) (s:Int):A6c (part.set (free part).toNat s) (free part)=some part:=by
 obtain ⟨h1,h2,_⟩:=free_at hf
 unfold A6c
 rw [A1W 0 hf (by rw [List.length_set]; omega),Oz,Oz,C4X hf]
theorem D1N {part:List Int} (hf:0≤free part):A6c part (free part)=some part:=by
 have:=C8Z hf (-1)
 obtain ⟨h1,h2,_⟩:=free_at hf
 rwa [B7h h2] at this
theorem C3j {p:C9} (hv:Vld p) {H:M3} {N:Nat} (hH:HOk H p N) {σ:Type} (Y:σ→List Int→Option (σ×Bool)):∀ (n:Nat) (part:List Int) (s:σ),A0a N p.A7.length part→opens part<n→A6m n H part Y s=Option.bind (scan Y s (A1o (Z7 H.F4 p) N n part)) λq=>some (q.2,part,q.1)
 | 0,_,_,_,h=>by omega
 | n+1,part,s,hP,hn=>by
  have hG:=hv.B2x
  have hlen:=hP.len
  have hN384:N≤384:=by have:=hH.j.n; have:=A5M hv.h; omega
  obtain ⟨i,hd⟩:=D1K hv hH.j hP
  unfold A6m A1o
  rw [hd,Oz]
  simp only
  change (bif Z7 H.F4 p part then _ else _)=_
  cases hdead:Z7 H.F4 p part with
  | true=>simp [scan]
  | false=>
   simp only [Cn,Bool.false_eq_true,if_false]
   unfold B7j
   rw [D4Y (by omega) (-1),show Y7 (λy=>decide ((-1:Int)=y)) 0 part=free part from rfl,Oz]
   by_cases hf:free part<0
   ·rw [Dt hf,if_pos hf]
    simp only [Cy,scan]
    cases Y s part with
    | none=>rfl
    | some q=>cases q with | mk a b=>cases b <;> rfl
   ·have hf':0≤free part:=by omega
    obtain ⟨h1,h2,_⟩:=free_at hf'
    rw [Df hf,if_neg hf,Cn,C2U]
    refine Eq.trans (C6y (f:=A6M (A6m n) H Y (free part)) (λ(s:σ) (i:Nat)=>(s,part,(i:Int))) N (λs (i:Nat)=>scan Y s (if part.any (λy=>decide ((i:Int)=y)) then [] else A1o (Z7 H.F4 p) N n (part.set (free part).toNat (i:Int)))) (λs=>.inl (s,part)) (λs (i:Nat)=>.inr (false,part.set (free part).toNat (i:Int),s)) _ (λs=>some (false,part,s)) ?_ ?_ ?_ s (fuel' (by have:=hH.j.n; have:=A5M hv.h; omega))) ?_
    ·intro s i hi
     have hself:part.any (λy=>decide ((i:Int)=y))=false→A6m n H (part.set (free part).toNat (i:Int)) Y s=Option.bind (scan Y s (A1o (Z7 H.F4 p) N n (part.set (free part).toNat (i:Int)))) λq=>some (q.2,part.set (free part).toNat (i:Int),q.1):=λha=>
      C3j hv hH Y n _ s (hP.set hf' hi ha) (by have:=C2K hf' (s:=(i:Int)) (by omega); omega)
     simp only [A6M]
     rw [Dt (show (i:Int)<(H.Z8.length:Int) by rw [hH.tl]; omega),Cy]
     unfold B7N
     rw [C8G (by omega),Oz]
     cases ha:part.any (λy=>decide ((i:Int)=y)) with
     | true=>
      simp only [if_true,Oz,scan]
      rw [H6 (by omega)]
      rfl
     | false=>
      simp only [Bool.false_eq_true,if_false]
      rw [A1W (-1) hf' (by omega),Oz,Oz,hself ha]
      cases scan Y s (A1o (Z7 H.F4 p) N n (part.set (free part).toNat (i:Int))) with
      | none=>rfl
      | some q=>
       obtain ⟨s',b⟩:=q
       simp only [Oz]
       cases b with
       | false=>rfl
       | true=>
        simp only [Bq,Cn,if_true]
        rw [A1W (-1) hf' (by rw [List.length_set]; omega),Oz,Oz,C4X hf']
        simp only [Oz]
        rw [H6 (by omega)]
        rfl
    ·intro s
     simp only [A6M]
     rw [Df (by rw [hH.tl]; omega)]
     rfl
    ·intro s i hi
     simp only [C8Z hf',Oz]
    ·cases scan (λs (i:Nat)=>scan Y s (if part.any (λy=>decide ((i:Int)=y)) then [] else A1o (Z7 H.F4 p) N n (part.set (free part).toNat (i:Int)))) s (List.range N) with
     | none=>rfl
     | some q=>
      obtain ⟨s',b⟩:=q
      cases b with
      | false=>rfl
      | true=>simp only [Oz,if_true,D1N hf']
theorem C1v {p:C9} (hv:Vld p) {H:M3} {N:Nat} (hH:HOk H p N) {σ:Type} (Y:σ→List Int→Option (σ×Bool)) {part:List Int} (hP:A0a N p.A7.length part) (s:σ):A0U Y s H part=Option.bind (scan Y s (A1o (Z7 H.F4 p) N A4P part)) λq=>some q.1:=by
 have hG:=hv.B2x
 have hlen:=hP.len
 have ho:opens part<A4P:=Nat.lt_of_le_of_lt List.countP_le_length (by rw [hlen]; exact Nat.lt_of_le_of_lt hG (by decide))
 unfold A0U
 rw [C4k (by omega),Oz,C3j hv hH Y A4P part s hP ho]
 cases scan Y s (A1o (Z7 H.F4 p) N A4P part) with
 | none=>rfl
 | some q=>rfl
end Go.Pl
namespace Go.Pl
open Go Go.Sl Go.Dm
def Wk (N:Nat):Nat→Int
 | 0=>1
 | k+1=>Wk N k*((N:Int) - k)
theorem B8P {N:Nat}:∀ {k:Nat},k≤N→1≤Wk N k
 | 0,_=>Int.le_refl _
 | k+1,h=>by
  have ih:=B8P (N:=N) (k:=k) (by omega)
  unfold Wk
  have:(1:Int)*1≤Wk N k*((N:Int) - k):=Int.mul_le_mul ih (by omega) (by decide) (by omega)
  omega
theorem D1i {N k:Nat} (h:k<N):Wk N k≤Wk N (k+1):=by
 have h1:=B8P (N:=N) (k:=k) (by omega)
 have:Wk N k*1≤Wk N k*((N:Int) - k):=Int.mul_le_mul_of_nonneg_left (by omega) (by omega)
 have hu:Wk N (k+1)=Wk N k*((N:Int) - k):=rfl
 omega
theorem B9N {N:Nat}:∀ {j k:Nat},j≤k→k≤N→Wk N j≤Wk N k
 | j,0,h,_=>by
  have:j=0:=by omega
  subst this; exact Int.le_refl _
 | j,k+1,h,hk=>by
  by_cases e:j=k+1
  ·subst e; exact Int.le_refl _
  ·have:=B9N (N:=N) (j:=j) (k:=k) (by omega) (by omega)
   have:=D1i (N:=N) (k:=k) (by omega)
   omega
theorem D2u {p:C9} (h:MTs p.C8):A8c p=some (R8 p.C8):=by
 have hl:=h.len
 have:=A7p (f:=A2U p) (λ(a:Int) (i:Nat)=>(a,(i:Int))) p.C8 (λa i x=>.inl (a+M6 x)) (λa=>a) (λa i=>a=R8 (p.C8.take i)) (a:=0) (by simp [R8]) (n:=FUEL) (fuel (by omega))
  (λa i x hx hI=>by
   have hi:=P5 hx
   have hI:a=R8 (p.C8.take i):=hI
   have b1:=A2I (p.C8.take i)
   have b2:=Y5 x
   simp only [List.length_take] at b1
   have h0:M6 x≠0:=(A6w (h.t i x hx).1).2.1
   simp only [A2U,B1K]
   rw [Dt (show (i:Int)<(p.C8.length:Int) by omega),Cy,J2 hx,Oz]
   have hn:J5 ((i:Int)+(1:Int))=some ((i+1:Nat):Int):=H6 (by omega)
   rcases shapes h0 with ⟨s,a1,a2,a3⟩ | ⟨s,a1,a2,a3,a4⟩ | ⟨s,a1,a2,a3,a4⟩ | ⟨s,a1,a2,a3,a4⟩
   ·have e:=C9g s a1 a2 a3
    rw [Df (show ¬ x.P8=2 by omega),Cn,Df (show ¬ x.P8=3 by omega),Cn,A2d (by omega) (by omega),Oz,hn]
    exact ⟨by simp only [Oz,e],by rw [A8H _ i hx,hI]⟩
   ·have e:=C6U s a1 a2 a3 a4
    rw [Dt s,Cy,A2d (by omega) (by omega),Oz,A2d (by omega) (by omega),Oz,A2d (by omega) (by omega),Oz,hn]
    exact ⟨by simp only [Oz,e],by rw [A8H _ i hx,hI]⟩
   ·have e:=C9t s a1 a2 a3 a4
    rw [Df (show ¬ x.P8=2 by omega),Cn,Dt s,Cy,A2d (by omega) (by omega),Oz,A2d (by omega) (by omega),Oz,A2d (by omega) (by omega),Oz,hn]
    exact ⟨by simp only [Oz,e],by rw [A8H _ i hx,hI]⟩
   ·have e:=C8X s a1 a2 a3 a4
    rw [Df (show ¬ x.P8=2 by omega),Cn,Df (show ¬ x.P8=3 by omega),Cn,A2d (by omega) (by omega),Oz,hn]
    exact ⟨by simp only [Oz,e],by rw [A8H _ i hx,hI]⟩)
  (λa _=>by simp [A2U])
 simp only [A8c]
 rw [show ((0:Int),(0:Int))=(λ(a:Int) (i:Nat)=>(a,(i:Int))) 0 0 from rfl,this,C0L]
 simp
structure D5b (p:C9) (N:Nat):Prop where
 fit:Fit p
 gs:MGs p.A7
 n:(N:Int)=R8 p.C8
 tl:p.C8.length≤2
 le:p.A7.length≤N
 w:Wk N p.A7.length≤800
 ru:∀ r∈p.J9,RU r
theorem C9E {m:R6} (h:B7a m):∃ p N,B0W m=some p∧D5b p N:=by
 have hmx:=mx
 have hmin:min (m.C8.length:Int) (2:Int)=((min m.C8.length 2:Nat):Int):=by omega
 have e1:sbL m.C8 0 ((min m.C8.length 2:Nat):Int)=some (m.C8.take (min m.C8.length 2)):=B0a (by omega)
 have tOk:∀ e∈m.C8.take (min m.C8.length 2),0≤e∧e≤255:=λe he=>h.t e (List.mem_of_mem_take he)
 have tLen:(m.C8.take (min m.C8.length 2)).length≤2:=by rw [List.length_take]; omega
 generalize m.C8.take (min m.C8.length 2)=tt at *
 have h0:B7a ⟨tt,[],[],[]⟩:=⟨tOk,λe he=>(by cases he),λe he=>(by cases he),λe he=>(by cases he),by simp only; omega,by simp only [List.length_nil]; omega,by simp only [List.length_nil]; omega,by simp only [List.length_nil]; omega⟩
 obtain ⟨p0,f1,f2,f3,f4,f5,f6,f7,f8,s0,f9⟩:=C5y h0
 have hse:=D2u f4
 obtain ⟨N,hN⟩:=Zn (A2I p0.C8).1
 have hN16:N≤16:=by
  have:=f4.len
  have:R8 p0.C8≤8*p0.C8.length:=by
   have key:∀ l:List D7,(∀ t∈l,M6 t≤8)→R8 l≤8*l.length:=by
    intro l
    induction l with
    | nil=>intro _; simp [R8]
    | cons t l ih=>
     intro hh
     have h1:=hh t (List.mem_cons_self ..)
     have h2:=ih λx hx=>hh x (Mc _ hx)
     have:R8 (t::l)=M6 t+R8 l:=by simp [R8]
     rw [this,Lc]
     omega
   exact key _ λt ht=>by
    obtain ⟨i,hi,rfl⟩:=List.getElem_of_mem ht
    exact (f4.t i _ (Lg hi)).2.2.2.1
  simp only at f8
  omega
 obtain ⟨g,hg,gk,rfl,hg1,hg2,hg3⟩:=L6 (f:=A6K m (N:Int)) (λs=>∃ k:Nat,s.2=(k:Int)∧k≤m.A7.length∧k≤N∧s.1=Wk N k∧s.1≤800) (λs=>m.A7.length - s.2.toNat) (λr=>∃ k:Nat,r=(k:Int)∧k≤m.A7.length∧k≤N∧Wk N k≤800) (λs hs=>by
  obtain ⟨w,i⟩:=s
  obtain ⟨k,rfl,hk,hkN,rfl,hw⟩:=hs
  simp only at hw
  simp only [A6K]
  by_cases hlt:k<m.A7.length
  ·rw [Dt (by omega),Cy]
   by_cases hlt2:k<N
   ·have hp:=B8P (N:=N) (k:=k) (by omega)
    have hp2:=B8P (N:=N) (k:=k+1) (by omega)
    have hm:Wk N k*((N:Int) - k)≤800*16:=Int.mul_le_mul hw (by omega) (by omega) (by omega)
    have hu:Wk N (k+1)=Wk N k*((N:Int) - k):=rfl
    rw [Dt (by omega),Cy,A2d (x:=(N:Int) - k) (by omega) (by omega),Oz,A2d (x:=Wk N k*((N:Int) - k)) (by omega) (by omega),Oz]
    by_cases h8:Wk N k*((N:Int) - k)≤800
    ·left
     rw [Dt h8,Cy]
     simp only [Oz]
     rw [A2d (x:=Wk N k*((N:Int) - k)) (by omega) (by omega),H6 (by omega)]
     exact ⟨(Wk N k*((N:Int) - k),((k+1:Nat):Int)),rfl,⟨k+1,rfl,by omega,by omega,rfl,h8⟩,by simp; omega⟩
    ·right
     rw [Df h8]
     exact ⟨_,rfl,k,rfl,hk,hkN,hw⟩
   ·right
    rw [Df (by omega)]
    exact ⟨_,rfl,k,rfl,hk,hkN,hw⟩
  ·right
   rw [Df (by omega)]
   exact ⟨_,rfl,k,rfl,hk,hkN,hw⟩) FUEL ((1:Int),(0:Int)) ⟨0,rfl,by omega,by omega,rfl,by decide⟩ (fuel (by have:=h.gl; simp; omega))
 have e2:sbL m.A7 0 (gk:Int)=some (m.A7.take gk):=B0a hg1
 have h1:B7a ⟨tt,m.A7.take gk,m.N7,m.J9⟩:=⟨tOk,λe he=>h.g e (List.mem_of_mem_take he),h.i,h.r,by simp only; omega,by simp only [List.length_take]; have:=h.gl; omega,h.il,h.rl⟩
 obtain ⟨p,k1,k2,k3,k4,k5,k6,k7,k8,s1,k9⟩:=C5y h1
 have hT:p.C8=p0.C8:=by
  have:A1D ⟨tt,[],[],[]⟩=A1D ⟨tt,m.A7.take gk,m.N7,m.J9⟩:=rfl
  rw [this,k9] at f9
  exact congrArg Prod.snd (Option.some.inj f9)
 have hgl:p.A7.length≤gk:=by simp only [List.length_take] at k7; omega
 refine ⟨p,N,?_,⟨k2,k4,k5⟩,k3,by rw [hT,hN],by simp only at k8; omega,by omega,by have:=B9N hgl hg2; omega,k6⟩
 unfold B0W
 rw [hmin,e1,Oz,f1,Oz,hse,Oz,hN]
 rw [hg,Oz,e2,Oz,k1]
 rfl
theorem D1f {N:Nat} (hN:N≤400):∀ {G:Nat},G≤N→Wk N G≤20000→∃ w,A6l (N:Int) (G:Int)=some w∧w≤20000:=by
 intro G hG hw
 obtain ⟨r,hr,q,rfl,hq⟩:=L6 (f:=A6N (N:Int) (G:Int)) (λs=>∃ k:Nat,s.2=(k:Int)∧k≤G∧s.1=Wk N k) (λs=>G - s.2.toNat) (λr=>∃ q,r=.inl q∧q≤20000) (λs hs=>by
  obtain ⟨w,i⟩:=s
  obtain ⟨k,rfl,hk,rfl⟩:=hs
  simp only [A6N]
  have hp:=B8P (N:=N) (k:=k) (by omega)
  have hm1:=B9N (N:=N) (j:=k) (k:=G) hk hG
  by_cases hlt:k<G
  ·left
   have hm2:=B9N (N:=N) (j:=k+1) (k:=G) (by omega) hG
   have hp2:=B8P (N:=N) (k:=k+1) (by omega)
   have hu:Wk N (k+1)=Wk N k*((N:Int) - k):=rfl
   rw [Dt (by omega),Cy,A2d (by omega) (by omega),Oz,A2d (by omega) (by omega),Oz,Df (by omega),Cn,H6 (by omega)]
   exact ⟨_,rfl,⟨k+1,rfl,by omega,rfl⟩,by simp; omega⟩
  ·right
   rw [Df (by omega)]
   exact ⟨_,rfl,_,rfl,by omega⟩) FUEL ((1:Int),(0:Int)) ⟨0,rfl,by omega,rfl⟩ (fuel' (by simp; omega))
 unfold A6l
 rw [hr]
 exact ⟨q,rfl,hq⟩
structure C7T (p:C9) (N:Nat):Prop where
 fit:Fit p
 n:(N:Int)=R8 p.C8
 g12:p.A7.length≤12
 le:p.A7.length≤N
 w:Wk N p.A7.length≤20000
theorem C7T.n24 {p:C9} {N:Nat} (h:C7T p N):N≤24:=by
 have:=h.fit.t.len
 have key:∀ l:List D7,(∀ t∈l,M6 t≤8)→R8 l≤8*l.length:=by
  intro l
  induction l with
  | nil=>intro _; simp [R8]
  | cons t l ih=>
   intro hh
   have h1:=hh t (List.mem_cons_self ..)
   have h2:=ih λx hx=>hh x (Mc _ hx)
   have:R8 (t::l)=M6 t+R8 l:=by simp [R8]
   rw [this,Lc]
   omega
 have:=key p.C8 λt ht=>by
  obtain ⟨i,hi,rfl⟩:=List.getElem_of_mem ht
  exact (h.fit.t.t i _ (Lg hi)).2.2.2.1
 have:=h.n
 omega
def nob (p:C9):List Int:=List.replicate p.A7.length (-1)
theorem B3W (N:Nat) (p:C9):A0a N p.A7.length (nob p):=by
 refine ⟨by simp [nob],λx hx=>?_,λi j x _ hi _=>?_⟩
 ·have:=List.eq_of_mem_replicate hx; subst this; omega
 ·exact List.eq_of_mem_replicate (A0C hi)
theorem C3k {p:C9} {H:M3} {N:Nat} (hv:Vld p) (hH:HOk H p N):A1y H=some (nob p):=by
 unfold A1y
 rw [hH.fp,C6S _ (by have:=hv.B2x; omega)]
 rfl
end Go.Pl
namespace Go.Pl
open Go Go.Sl Go.Dm
abbrev A9B (H:M3) (p:C9) (N:Nat):List (List Int):=A1o (Z7 H.F4 p) N A4P (nob p)
end Go.Pl
namespace Go.Pl
open Go Go.Sl Go.Dm
def Exn (part x:List Int):Prop:=∀ (g:Nat) (s:Int),part[g]?=some s→s≠-1→x[g]?=some s
theorem A0a.D4l {N G:Nat} {part:List Int} (h:A0a N G part) {k s:Nat} (hk:k<part.length) (hs:s<N) (hn:(s:Int)∉part):A0a N G (part.set k (s:Int)):=by
 have hno:∀ (j:Nat),part[j]?≠some (s:Int):=λj e=>hn (A0C e)
 refine ⟨by rw [List.length_set]; exact h.len,λx hx=>?_,λi j x hij hi hj=>?_⟩
 ·rcases List.mem_or_eq_of_mem_set hx with h' | h'
  ·exact h.bd x h'
  ·omega
 ·by_cases hi':k=i
  ·subst hi'
   rw [List.getElem?_set_self hk] at hi
   rw [List.getElem?_set_ne (by omega)] at hj
   cases hi
   exact absurd hj (hno j)
  ·rw [List.getElem?_set_ne hi'] at hi
   by_cases hj':k=j
   ·subst hj'
    rw [List.getElem?_set_self hk] at hj
    cases hj
    exact absurd hi (hno i)
   ·rw [List.getElem?_set_ne hj'] at hj
    exact h.one i j x hij hi hj
theorem B6b {taken:List Bool} {f q:Nat} (hq:taken[q]?=some false) (hl':taken.length≤1000) (hf:f≤1000) :
  ∃ s:Nat,A6f taken (f:Int)=some ((s:Int),taken.set s true)∧taken[s]?=some false:=by
 have hql:=P5 hq
 have hl:0<taken.length:=by omega
 unfold A6f
 obtain ⟨r,hr,hq⟩:=L6 (f:=A7a taken (f:Int)) (λk=>∃ i:Nat,k=(i:Int)∧i≤taken.length∧∀ j,j<i→taken[(f+j) % taken.length]?≠some false) (λk=>taken.length - k.toNat) (λr=>∃ s:Nat,r=.inr ((s:Int),taken.set s true)∧taken[s]?=some false) (λk hk=>by
  obtain ⟨i,rfl,hi,hall⟩:=hk
  simp only [A7a,Cd]
  by_cases hlt:(i:Int)<(taken.length:Int)
  ·have e:(f:Int)+(i:Int)=((f+i:Nat):Int):=by omega
   have hm:=Nat.mod_lt (f+i) hl
   have hx:=Lg hm
   rw [if_pos hlt]
   simp only [e,A2d (show -1000000000≤((f+i:Nat):Int) by omega) (by omega),C9n hl,J2 hx,Oz,H6 (show i<9223372036854775807 by omega),Zt]
   cases hb:taken[(f+i) % taken.length] with
   | false=>
    right
    exact ⟨_,rfl,_,rfl,by rw [hx,hb]⟩
   | true=>
    left
    refine ⟨_,rfl,⟨i+1,rfl,by omega,λj hj=>?_⟩,by omega⟩
    by_cases hji:j=i
    ·subst hji; rw [hx,hb]; simp
    ·exact hall j (by omega)
  ·exfalso
   have hd:=Nat.div_add_mod f taken.length
   have hm:=Nat.mod_lt f hl
   have hj:=Nat.mod_lt (q+(taken.length - f % taken.length)) hl
   refine hall ((q+(taken.length - f % taken.length)) % taken.length) (by omega) ?_
   have e:(f+(q+(taken.length - f % taken.length)) % taken.length) % taken.length=q:=by
    rw [Nat.add_mod_mod]
    have:f+(q+(taken.length - f % taken.length))=q+taken.length*(f / taken.length+1):=by rw [Nat.mul_add]; omega
    rw [this,Nat.add_mul_mod_self_left,Nat.mod_eq_of_lt hql]
   rw [e]
   exact hq) FUEL 0 ⟨0,rfl,by omega,λj hj=>by omega⟩ (fuel (by simp; omega))
 obtain ⟨s,rfl,hs⟩:=hq
 exact ⟨s,by rw [hr]; rfl,hs⟩
theorem C7k (s:Nat):∀ (l:List Bool),(l.set s true).countP id≤l.countP id+1:=by
 induction s with
 | zero=>intro l; cases l with
  | nil=>simp
  | cons b l=>cases b <;> simp [List.countP_cons]
 | succ s ih=>intro l; cases l with
  | nil=>simp
  | cons b l=>have:=ih l; cases b <;> simp [List.countP_cons] <;> omega
theorem C9i {l:List Bool} (h:l.countP id<l.length):∃ q:Nat,l[q]?=some false:=by
 induction l with
 | nil=>simp at h
 | cons b l ih=>
  cases b with
  | false=>exact ⟨0,rfl⟩
  | true=>
   rw [List.countP_cons] at h
   simp at h
   obtain ⟨q,hq⟩:=ih (by omega)
   exact ⟨q+1,by simpa using hq⟩
def nn (l:List Int):Nat:=l.countP λx=>decide (0≤x)
def ng (l:List Int):Nat:=l.countP λx=>decide (x<0)
theorem D4t (l:List Int):nn l+ng l=l.length:=by
 induction l with
 | nil=>rfl
 | cons x l ih=>
  have ih:nn l+ng l=l.length:=ih
  unfold nn ng at *
  rw [List.countP_cons,List.countP_cons,Lc]
  by_cases h:0≤x
  ·simp [h,show ¬ x<0 by omega]; omega
  ·simp [h,show x<0 by omega]; omega
theorem C5q {α:Type} (f:α→Bool) {l:List α} {k:Nat} {x:α} (h:l[k]?=some x):(l.take (k+1)).countP f=(l.take k).countP f+if f x then 1 else 0:=by
 have hk:=P5 h
 have e:=Lg hk
 rw [h] at e
 rw [List.take_succ_eq_append_getElem hk,List.countP_append,←Option.some.inj e]
 simp
structure F0 (N k:Nat) (part:List Int) (taken:List Bool):Prop where
 tl:taken.length=N
 c:taken.countP id≤nn (part.take k)
 tk:∀ s:Nat,(s:Int)∈part.take k→taken[s]?=some true
structure F1 (N G k:Nat) (part:List Int) (taken:List Bool) (out:List Int):Prop where
 tl:taken.length=N
 ol:out.length=k
 c:taken.countP id≤nn part+ng (part.take k)
 tk:∀ s:Nat,(s:Int)∈out++part.drop k→taken[s]?=some true
 ok:A0a N G (out++part.drop k)
 full:∀ y∈out,y≠-1
 ex:Exn part (out++part.drop k)
theorem C4o {taken:List Bool} {q s:Nat} (h:q=s∨taken[s]?=some true) (hl:s<taken.length):(taken.set q true)[s]?=some true:=by
 rw [List.getElem?_set]
 by_cases hqs:q=s
 ·subst hqs; simp [hl]
 ·rw [if_neg hqs]
  rcases h with h | h
  ·exact absurd h hqs
  ·exact h
theorem D1h {p:C9} (h:MTs p.C8) (hg:p.A7.length≤64) {N:Nat} (hN:(N:Int)=R8 p.C8) (hpos:p.A7.length≤N) {part:List Int} (hP:A0a N p.A7.length part) (more:List Int) :
  ∃ x,B2L p part more=some x∧A0a N p.A7.length x∧(∀ y∈x,y≠-1)∧Exn part x:=by
 have hl:=h.len
 have hb:=A2I p.C8
 have hpl:=hP.len
 unfold B2L
 simp only [C6p h,←hN,C9l (show (0:Int)≤(N:Int) by omega) (by omega),Oz,Zt]
 obtain ⟨tk0,h0,hF0⟩:=L6 (f:=A8i part) (λs=>∃ k:Nat,s.2=(k:Int)∧k≤p.A7.length∧F0 N k part s.1) (λs=>p.A7.length - s.2.toNat) (λr=>F0 N p.A7.length part r) (λs hs=>by
  obtain ⟨taken,g⟩:=s
  obtain ⟨k,hk,hkn,hI⟩:=hs
  simp only at hk hI
  subst hk
  simp only [A8i,Cd,hpl]
  by_cases hlt:k<p.A7.length
  ·left
   have hx:=Lg (show k<part.length by omega)
   have hbd:=hP.bd _ (Gm (show k<part.length by omega))
   generalize part[k]'(by omega)=e at hx hbd
   rw [if_pos (by omega)]
   simp only [J2 hx,Oz,H6 (show k<9223372036854775807 by omega)]
   have hnx:=C5q (λx:Int=>decide (0≤x)) hx
   have hts:part.take (k+1)=part.take k++[e]:=by
    have hk':k<part.length:=by omega
    have e2:=Lg hk'
    rw [hx] at e2
    rw [List.take_succ_eq_append_getElem hk',←Option.some.inj e2]
   by_cases he:0≤e
   ·rw [if_pos he]
    obtain ⟨s,rfl⟩:=Zn he
    have hsl:s<taken.length:=by rw [hI.tl]; omega
    simp only [J2 (Lg hsl),Oz,Zt]
    refine ⟨_,rfl,⟨k+1,rfl,by omega,⟨by simp [hI.tl],?_,λs' hs'=>?_⟩⟩,by dsimp only; omega⟩
    ·have:=C7k s taken
     have hc:=hI.c
     unfold nn at hc ⊢
     rw [hnx]
     simp only [Dt he,if_true]
     omega
    ·rw [hts] at hs'
     dsimp only
     rcases List.mem_append.1 hs' with hm | hm
     ·have:=hI.tk s' hm
      exact C4o (.inr this) (P5 this)
     ·rw [Ms] at hm
      have:s'=s:=by omega
      subst this
      exact C4o (.inl rfl) hsl
   ·rw [if_neg he]
    refine ⟨_,rfl,⟨k+1,rfl,by omega,⟨hI.tl,?_,λs' hs'=>?_⟩⟩,by dsimp only; omega⟩
    ·have hc:=hI.c
     unfold nn at hc ⊢
     rw [hnx]
     simp only [Df he]
     exact hc
    ·rw [hts] at hs'
     rcases List.mem_append.1 hs' with hm | hm
     ·exact hI.tk s' hm
     ·rw [Ms] at hm; omega
  ·right
   rw [if_neg (by omega)]
   have:k=p.A7.length:=by omega
   subst this
   exact ⟨_,rfl,hI⟩) FUEL (List.replicate N false,(0:Int)) ⟨0,rfl,by omega,⟨by simp,by rw [List.countP_replicate]; simp,λs hs=>by simp at hs⟩⟩ (fuel (by dsimp only; omega))
 rw [h0,Oz]
 have htake:part.take p.A7.length=part:=List.take_of_length_le (by omega)
 obtain ⟨x,hx,hxP,hxf,hxe⟩:=L6 (f:=A7T part more (N:Int)) (λs=>∃ k:Nat,s.2.1=(k:Int)∧k≤p.A7.length∧F1 N p.A7.length k part s.2.2 s.1) (λs=>p.A7.length - s.2.1.toNat) (λr=>A0a N p.A7.length r∧(∀ y∈r,y≠-1)∧Exn part r) (λs hs=>by
  obtain ⟨out,g,taken⟩:=s
  obtain ⟨k,hk,hkn,hI⟩:=hs
  simp only at hk hI
  subst hk
  simp only [A7T,Cd,hpl]
  have hol:=hI.ol
  by_cases hlt:k<p.A7.length
  ·left
   have hkl:k<part.length:=by omega
   have hx:=Lg hkl
   have hbd:=hP.bd _ (Gm hkl)
   have hdr:=Dc hkl
   generalize part[k]'hkl=e at hx hbd hdr
   rw [if_pos (by omega)]
   simp only [J2 hx,Oz,H6 (show k<9223372036854775807 by omega)]
   have hnx:=C5q (λx:Int=>decide (x<0)) hx
   by_cases he:e<0
   ·rw [if_pos he]
    have he1:e=-1:=by omega
    subst he1
    have hct:taken.countP id<taken.length:=by
     have h1:=hI.c
     have h2:=D4t part
     have h3:ng (part.take (k+1))≤ng part:=List.Sublist.countP_le (List.take_sublist _ _)
     unfold ng at h1 h2 h3
     rw [hnx] at h3
     simp at h3
     have:=hI.tl
     omega
    obtain ⟨q,hq⟩:=C9i hct
    have htl:=hI.tl
    have place:∀ f:Nat,f≤1000→∃ s',A6f taken (f:Int)=some ((s':Int),taken.set s'.toNat true)∧∃ s'':Nat,s'=(s'':Int)∧taken[s'']?=some false:=λf hf=>by
     obtain ⟨s,h1,h2⟩:=B6b hq (by omega) hf
     exact ⟨s,h1,s,rfl,h2⟩
    have step:∀ s:Nat,taken[s]?=some false→F1 N p.A7.length (k+1) part (taken.set s true) (out++[(s:Int)]):=λs hs=>by
     have hsl:=P5 hs
     have hnot:(s:Int)∉out++part.drop k:=λhm=>by rw [hI.tk s hm] at hs; cases hs
     have ec:out++[(s:Int)]++part.drop (k+1)=(out++part.drop k).set k (s:Int):=by
      rw [hdr,List.set_append_right _ _ (by omega),hol,Nat.sub_self]
      simp
     refine ⟨by simp [htl],by simp [hol],?_,λs' hs'=>?_,?_,A8h hI.full (by omega),λg t hg ht=>?_⟩
     ·have h1:=C7k s taken
      have h2:=hI.c
      unfold ng at h2 ⊢
      rw [hnx]
      simp
      omega
     ·rw [ec] at hs'
      rcases List.mem_or_eq_of_mem_set hs' with hm | hm
      ·have:=hI.tk s' hm
       exact C4o (.inr this) (P5 this)
      ·have:s'=s:=by omega
       subst this
       exact C4o (.inl rfl) hsl
     ·rw [ec]
      exact hI.ok.D4l (by have:=hI.ok.len; omega) (by omega) hnot
     ·rw [ec,List.getElem?_set]
      by_cases hkg:k=g
      ·subst hkg
       rw [hx] at hg
       cases hg
       exact absurd rfl ht
      ·rw [if_neg hkg]
       exact hI.ex g t hg ht
    simp only [B5h,Cd]
    by_cases hm:(k:Int)<(more.length:Int)
    ·rw [if_pos hm]
     obtain ⟨f,ef,hf⟩:=D1q (c:=N) (by omega) (by omega) (more[k]'(by omega))
     simp only [J2 (Lg (show k<more.length by omega)),ef,Oz]
     obtain ⟨s,h1,h2⟩:=B6b hq (by omega) (show f≤1000 by omega)
     simp only [h1,Oz,V4 (show out.length≤1000 by omega),H6 (show k<9223372036854775807 by omega)]
     exact ⟨_,rfl,⟨k+1,rfl,by omega,step s h2⟩,by dsimp only; omega⟩
    ·rw [if_neg hm]
     obtain ⟨s,h1,h2⟩:=B6b (f:=0) hq (by omega) (by omega)
     simp only [show ((0:Nat):Int)=0 from rfl] at h1
     simp only [h1,Oz,V4 (show out.length≤1000 by omega),H6 (show k<9223372036854775807 by omega)]
     exact ⟨_,rfl,⟨k+1,rfl,by omega,step s h2⟩,by dsimp only; omega⟩
   ·rw [if_neg he]
    simp only [V4 (show out.length≤1000 by omega),Oz]
    have ec:out++[e]++part.drop (k+1)=out++part.drop k:=by rw [hdr]; simp
    refine ⟨_,rfl,⟨k+1,rfl,by omega,⟨hI.tl,by simp [hol],?_,?_,?_,A8h hI.full (by omega),?_⟩⟩,by dsimp only; omega⟩
    ·have h2:=hI.c
     unfold ng at h2 ⊢
     rw [hnx]
     simp [he]
     exact h2
    ·dsimp only; rw [ec]; exact hI.tk
    ·dsimp only; rw [ec]; exact hI.ok
    ·dsimp only; rw [ec]; exact hI.ex
  ·right
   rw [if_neg (by omega)]
   have hd:part.drop k=[]:=List.drop_eq_nil_of_le (by omega)
   have h1:=hI.ok
   have h2:=hI.ex
   rw [hd,List.append_nil] at h1 h2
   exact ⟨_,rfl,h1,hI.full,h2⟩) FUEL (([]:List Int),(0:Int),tk0) ⟨0,rfl,by omega,⟨hF0.tl,rfl,by have:=hF0.c; rw [htake] at this; exact Nat.le_trans this (Nat.le_add_right _ _),λs hs=>hF0.tk s (by rw [htake]; simpa using hs),by simpa using hP,(λy hy=>by cases hy),λg s hgs _=>by simpa using hgs⟩⟩ (fuel (by dsimp only; omega))
 exact ⟨x,by rw [hx]; rfl,hxP,hxf,hxe⟩
end Go.Pl
namespace Go.Pl
open Go Go.Sl Go.Dm
theorem C6Z {N G:Nat} {j:O0} {x:List Int} (hP:A0a N G x) (hfull:∀ y∈x,y≠-1) {g:Nat} (hg:g<x.length):0≤pt (mkv j x) (g:Int):=by
 have e:pt (mkv j x) (g:Int)=x[g]:=by
  show x.getD (g:Int).toNat (-1)=x[g]
  rw [Zt,List.getD_eq_getElem?_getD,Lg hg]
  rfl
 have h1:=hP.bd _ (Gm hg)
 have h2:=hfull _ (Gm hg)
 rw [e]
 omega
theorem B6G {N G:Nat} {j:O0} {x:List Int} (hP:A0a N G x) (hfull:∀ y∈x,y≠-1) {r:F7} (h0:0≤V9 (mkv j x) r):A2y (mkv j x) r=V9 (mkv j x) r:=by
 have hl:A8K (mkv j x)=0:=by
  unfold A8K
  rw [List.countP_eq_zero]
  intro g hg
  have:=C6Z (j:=j) hP hfull (g:=g) (Mr.1 hg)
  simp
  exact this
 have hh:B3K (mkv j x)=0:=by
  unfold B3K
  rw [List.countP_eq_zero]
  intro g hg
  have:=C6Z (j:=j) hP hfull (g:=g) (Mr.1 hg)
  simp
  intro h
  omega
 unfold A2y
 rw [hl,hh]
 simp
 split
 ·exact Int.max_eq_left h0
 ·split
  ·exact Int.max_eq_left h0
  ·rfl
section
variable {p:C9} {N:Nat} (hv:Vld p) {j:O0} (hj:JOk j p N)
include hv hj
theorem C9G {x:List Int} (hP:A0a N p.A7.length x) (hfull:∀ y∈x,y≠-1):A6o j x=some (!Z7 j p x):=by
 have hvw:=C4w hv hj hP
 have hG:=hv.B2x
 have hlen:=hP.len
 have hr:=hv.D2g
 have hno:(x.any λy=>decide ((-1:Int)=y))=false:=by
  rw [List.any_eq_false]
  intro y hy h
  exact hfull y hy (of_decide_eq_true h).symm
 have key:=A1t (f:=A4h (mkv j x)) p.J9 (λi r=>if !(decide (r.K6=0) && decide (0<V9 (mkv j x) r)) then none else some (.inr false)) (.inl ():Unit⊕Bool) (n:=FUEL) (fuel' (by omega)) (λi r hi=>by
  have hlt:=P5 hi
  simp only [A4h]
  rw [show (mkv j x).F4.O9=p from hj.given,Dt (by omega:(i:Int)<(p.J9.length:Int)),Cy,J2 hi,Oz,H6 (by omega),hvw.faults hi]
  cases hw:decide (r.K6=0) with
  | false=>rfl
  | true=>
   simp only [Cy,Oz]
   cases hq:decide (0<V9 (mkv j x) r) with
   | false=>rfl
   | true=>rfl) (by simp [A4h,mkv,hj.given])
 rw [A7F (ρ:=Unit⊕Bool) (λi r=>if !(decide (r.K6=0) && decide (0<V9 (mkv j x) r)) then none else some (.inr false)) (λr=>!(decide (r.K6=0) && decide (0<V9 (mkv j x) r))) (.inr false) (.inl ()) (λi r=>rfl)] at key
 have hd:Z7 j p x=!(p.J9.all λr=>!(decide (r.K6=0) && decide (0<V9 (mkv j x) r))):=by
  unfold Z7 C4S
  have e:(p.J9.any λr=>decide (r.K6=0) && decide (0<A2y (mkv j x) r))=p.J9.any λr=>decide (r.K6=0) && decide (0<V9 (mkv j x) r):=by
   rw [Bool.eq_iff_iff,Ay,Ay]
   constructor
   ·rintro ⟨r,hr,h⟩
    exact ⟨r,hr,by rw [←B6G hP hfull (hvw.fbd (hv.rf hr)).1]; exact h⟩
   ·rintro ⟨r,hr,h⟩
    exact ⟨r,hr,by rw [B6G hP hfull (hvw.fbd (hv.rf hr)).1]; exact h⟩
  rw [e,List.all_eq_not_any_not]
  simp
 unfold A6o
 rw [look_ok hv hj hP,Oz]
 simp only [Option.isNone_some,Cn]
 rw [B8j (by rw [mx]; omega),hno]
 simp only [Oz,Cn]
 rw [key,hd]
 cases p.J9.all λr=>!(decide (r.K6=0) && decide (0<V9 (mkv j x) r)) <;> rfl
theorem C7Y {part x:List Int} (hP:A0a N p.A7.length part) (hX:A0a N p.A7.length x) (hfull:∀ y∈x,y≠-1) (he:Exn part x) (hd:Z7 j p x=false):Z7 j p part=false:=by
 have hv1:=C4w hv hj hP
 have hv2:=C4w hv hj hX
 cases hq:Z7 j p part with
 | false=>rfl
 | true=>
  exfalso
  unfold Z7 C4S at hq hd
  obtain ⟨r,hr,h⟩:=Ay.1 hq
  have h2:=List.any_eq_false.1 hd r hr
  simp only [Ba,Dq] at h h2
  have hrf:=hv.rf hr
  have hE:Ext p.A7.length (mkv j part) (mkv j x):=⟨rfl,λg g0 g1 hg=>by
   obtain ⟨n,rfl⟩:=Zn g0
   have hn:n<part.length:=by have:=hP.len; omega
   have e1:pt (mkv j part) (n:Int)=part[n]:=by
    show part.getD (n:Int).toNat (-1)=_
    rw [Zt,List.getD_eq_getElem?_getD,Lg hn]; rfl
   have h3:=he n part[n] (Lg hn) (by omega)
   rw [e1]
   show x.getD (n:Int).toNat (-1)=_
   rw [Zt,List.getD_eq_getElem?_getD,h3]; rfl⟩
  have h4:=Ext.mono hv1 hv2 hE hrf
  rw [←B6G hX hfull (hv2.fbd hrf).1] at h4
  exact h2 ⟨h.1,by omega⟩
end
theorem C9k {p:C9} {N:Nat} (h:C7T p N) {H:M3} (e:A4l p=some (some H,0,0)) (hH:HOk H p N):A0r p=some (some H,0):=by
 obtain ⟨w,hw,hw2⟩:=D1f (by have:=h.n24; omega) h.le h.w
 unfold A0r
 rw [e,Oz]
 simp only [Dt rfl]
 rw [show decide True=true from rfl]
 simp only [Bq,Cn,Oz]
 rw [hH.tl,hw,Oz,Df (by omega)]
 rfl
end Go.Pl
namespace Go.Pl
open Go Go.Sl Go.Dm
theorem D1B {p:C9} (h:p.A7.length≤64):A9f p=some (nob p):=by
 obtain ⟨r,hr,hq⟩:=L6 (f:=A5E p) (λs=>∃ i:Nat,s=(List.replicate i (-1),(i:Int))∧i≤p.A7.length) (λs=>p.A7.length - s.2.toNat) (λr=>r=nob p) (λk hk=>by
  obtain ⟨i,rfl,hi⟩:=hk
  simp only [A5E]
  by_cases hlt:i<p.A7.length
  ·left
   rw [Dt (by omega:(i:Int)<(p.A7.length:Int)),Cy,V4 (by simp; omega),Oz,H6 (by omega)]
   refine ⟨_,rfl,⟨i+1,?_,by omega⟩,by dsimp only; omega⟩
   rw [List.replicate_succ']
  ·right
   rw [Df (by omega:¬ (i:Int)<(p.A7.length:Int))]
   have:i=p.A7.length:=by omega
   subst this
   exact ⟨_,rfl,rfl⟩) FUEL (([]:List Int),(0:Int)) ⟨0,rfl,by omega⟩ (fuel' (by dsimp only; omega))
 unfold A9f
 rw [hr,hq]
 rfl
end Go.Pl
